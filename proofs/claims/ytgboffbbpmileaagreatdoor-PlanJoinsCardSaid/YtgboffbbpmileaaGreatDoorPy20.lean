/- Lemmas and walks for the law VLawPJoins (part 20). -/
import Derived.Test.YtgboffbbpmileaaGreatDoorPy19
import Derived.Test.YtgboffbbpmileaaGreatDoorProg
import Derived.WalkKit
import Derived.Handy
import Derived.Deep.Light
import Derived.WalkSmall
import Derived.StillTailTactics
import Derived.Lib.Hide
set_option maxRecDepth 20000
set_option maxHeartbeats 4000000
set_option linter.unusedVariables false
set_option linter.unusedSimpArgs false
namespace Go.Proofs.YtgboffbbpmileaaGreatDoor
open Go Go.RowKit
def PlanRow(Y:List Nat)(W:World)(v:Value)(c:List Ins):Prop:=∃cv:List (Ins×Value),cv.map (·.1)=c/\RowY 5 Y W v (cv.map cJ)/\∀x∈cv,PRow Y W x.2 x.1.w
theorem PlanRow.kn{X Y:List Nat}{w0 W:World}{L:List (Nat×Obj)}{v:Value}{c:List Ins}(h:PlanRow X w0 v c)(k:Kn X w0 W L)(hy:∀y∈Y,y∈X\/w0.heap.size<=y):PlanRow Y W v c:=by
 obtain⟨cv,h1,h2,h3⟩:=h
 exact⟨cv,h1,RowY.kn h2 k hy,fun x hx=>RowY.kn (h3 x hx) k hy⟩
theorem Kn.monoX{X Y:List Nat}{w0 W:World}{L:List (Nat×Obj)}(h:Kn X w0 W L)(hy:∀x∈X,x∈Y):Kn Y w0 W L:=
 ⟨h.os,h.tape,h.output,h.size,fun b hb hm=>h.block b hb (fun e=>hm (hy b e)),fun p hp=>(h.own p hp).imp id (hy _),h.has,h.nd⟩
theorem MkQ.plan{W0 W w0:World}{X Y:List Nat}{b:Nat}{s:PS}{v:Value}{LZ LC K:List (Nat×Obj)}(h:MkQ W0 LZ W b s v (LC++LZ))(hk:Kn X w0 W K)(hs:∀p∈LC,p∈K)(hd:∀p∈LC,p.1∉Y)(hy:∀y∈Y,y∈keys LZ):PlanRow Y W v s.c:=by
 obtain⟨cv,h1,⟨LC9,e,h2,_⟩,h3,_⟩:=h
 obtain rfl:=List.append_cancel_right e
 exact⟨cv,h1,RowL.rowY dC h2 hk hs hd,fun x hx=>(h3 x hx).sub (fun y hm=>.inl (List.mem_cons_of_mem _ (by rw[keys,List.map_append];exact List.mem_append_right _ (hy y hm))))⟩
theorem uc{W0 w W:World}{X:List Nat}{b:Nat}{o:Obj}{LZ:List (Nat×Obj)}(hB:Below W0.heap.size W0 w)(hJ:Kn X w W ((b,o)::LZ))(hX:∀y∈X,W0.heap.size<=y)(hb:W0.heap.size<=b)(hz:∀p∈LZ,W0.heap.size<=p.1)(ht:∀p∈LZ,∃c t,p.2=.cells c t (0,0)/\t≠118):MkQ W0 LZ W b ⟨[],0,0⟩ (.slice none (PS.n ⟨[],0,0⟩) 0) LZ:=⟨[],rfl,⟨[],rfl,RowL.nil,ht⟩,fun x hx=>(by cases hx),fE hB hJ hX,hb,hz,Nat.le_refl _⟩
theorem Kn.rot3{X:List Nat}{w0 W:World}{p0 p1 p2:Nat×Obj}{LY:List (Nat×Obj)}(h:Kn X w0 W (p2::p1::p0::LY)):Kn X w0 W ([p0]++p2::(p1::LY)):=h.perml fun p=>by simp only[List.countP_cons,List.countP_append,List.countP_nil];omega
def B5(Y:List Nat)(W:World)(s:PS)(e:Ending)(w':World):Prop:=Below W.heap.size W w'/\((s.e=0/\∃ao cap,e=.returned (.tuple #[.agg #[.slice ao s.n cap],.int .i64 0])/\PlanRow Y w' (.slice ao s.n cap) s.c)\/(s.e≠0/\e=.returned (.tuple #[.agg #[.slice none 0 0],.int .i64 (s.e:Int)])))
theorem xk (l : Ts) (hok : (Tr.lst l).ok) (htg : (Tr.lst l).tg) (hsm : Sm 100000 (Tr.lst l).nd) (hco : (Tr.lst l).nd.co <= 800000) (W0 w : World) (hB : Below W0.heap.size W0 w) (hT : TabP W0) (LY : List (Nat × Obj)) (hLY : Kn (keys LY) w w LY) (hY0 : ∀ p ∈ LY, W0.heap.size <= p.1) (hYt : ∀ p ∈ LY, ∃ c t, p.2 = .cells c t (0, 0) /\ t ≠ 118) (cs : List Value) (hn : NodeIs (keys LY) w (Tr.lst l).nd cs) : Calls Tryz.prog 14 #[.agg cs.toArray] w (B5 (keys LY) w (aq l)) := by
 obtain ⟨hx, hlx⟩ := Tr.mkq hT (.lst l) hok htg hsm
 obtain ⟨aa, ca, aw, cw9, ar, cr, ak, ck, rfl⟩ := dh hn
 obtain ⟨kz, hkz⟩ : ∃ z : Int, (((Tr.lst l).nd.kind : Nat) : Int) = z := ⟨_, rfl⟩
 obtain ⟨nm, hnm⟩ : ∃ z : ByteArray, (⟨((Tr.lst l).nd.name).toArray⟩ : ByteArray) = z := ⟨_, rfl⟩
 obtain ⟨ng, hng⟩ : ∃ z : Bool, (Tr.lst l).nd.neg = z := ⟨_, rfl⟩
 obtain ⟨na, hna⟩ : ∃ z, (Tr.lst l).nd.asg.length = z := ⟨_, rfl⟩
 obtain ⟨nw, hnw⟩ : ∃ z, (Tr.lst l).nd.ws.length = z := ⟨_, rfl⟩
 obtain ⟨nr, hnr⟩ : ∃ z, (Tr.lst l).nd.rs.length = z := ⟨_, rfl⟩
 obtain ⟨nk, hnk⟩ : ∃ z, (Tr.lst l).nd.kids.length = z := ⟨_, rfl⟩
 have hbs : bs (Tr.lst l).nd.name = .string nm := by rw [<- hnm]; rfl
 rw [hkz, hbs, hng, hna, hnw, hnr, hnk] at hn |-
 have HKZ := yh hkz
 have HNM := yh hnm
 have HNG := yh hng
 have HNA := yh hna
 have HNW := yh hnw
 have HNR := yh hnr
 have HNK := yh hnk
 clear hkz hng hna hnw hnr hnk
 clear hbs hnm
 have HN0 := yh hn
 have HLX := yh (hlx ⟨[], 0, 0⟩)
 have HCO := yh hco
 unfold MkF at hx; have HX := yh hx; clear hx
 have HBW := yh hB
 have HLY := yh hLY
 have HYQ := yh hY0
 have HYT := yh hYt
 have hwz : W0.heap.size <= w.heap.size := hB.size
 have hL := hLY
 clear hn hT hsm hok htg hco hlx hB hLY hY0 hYt
 have hF := hL.fx
 go_enter Tryz.func14, Tryz.ntmps14
 go_upto_region 2 with (fail)
 refine jj ?_; clear hF hL; intro W hL
 have hB := hL.rot3
 have HB := yh (dO (A := [_]) hB m0)
 have hJ : Kn (keys LY) w W ((w.heap.size + 1 + 1, .cells #[.slice none (PS.mk [] 0 0).n 0, .int .i64 ((PS.mk [] 0 0).i : Int), .int .i64 ((PS.mk [] 0 0).e : Int)] 81 (0, 0)) :: ((w.heap.size + 1, .cells #[.slice none 0 0] 25 (0, 0)) :: LY)) := hB.drop1
 have hM := uc HBW.out hJ (fun y hy => by obtain ⟨p, hp, rfl⟩ := List.mem_map.1 hy; exact HYQ.out p hp) (by omega) (fun p hp => by rcases List.mem_cons.1 hp with rfl | hp; exact Nat.le_succ_of_le hwz; exact HYQ.out p hp) (fun p hp => by rcases List.mem_cons.1 hp with rfl | hp; exact ⟨_, _, rfl, by decide⟩; exact HYT.out p hp)
 have HN := yh (HN0.out.mk2 hJ)
 have HMB := yh (show aq l = if (((Tr.lst l).g ⟨[], 0, 0⟩).add { op := 26, a := 0 }).e = 0 /\ 500 < (((Tr.lst l).g ⟨[], 0, 0⟩).add { op := 26, a := 0 }).i then ⟨(((Tr.lst l).g ⟨[], 0, 0⟩).add { op := 26, a := 0 }).c, (((Tr.lst l).g ⟨[], 0, 0⟩).add { op := 26, a := 0 }).i, 6⟩ else (((Tr.lst l).g ⟨[], 0, 0⟩).add { op := 26, a := 0 }) from rfl)
 have hs0 : PS.n ⟨[], 0, 0⟩ = 0 := rfl
 clear hB hL HN0
 obtain ⟨b, hb⟩ : ∃ x, w.heap.size + 1 + 1 = x := ⟨_, rfl⟩
 obtain ⟨q, hq⟩ : ∃ x, w.heap.size + 1 = x := ⟨_, rfl⟩
 rw [hb] at hJ hM HB HN |-
 rw [hq] at hJ hM HB HN |-
 obtain ⟨LZ, hLZ⟩ : ∃ x : List (Nat × Obj), (q, .cells #[.slice none 0 0] 25 (0, 0)) :: LY = x := ⟨_, rfl⟩
 obtain ⟨s, hs⟩ : ∃ x, PS.mk [] 0 0 = x := ⟨_, rfl⟩
 rw [hLZ] at hJ hM HB HN
 rw [hs] at hJ hM HMB HLX hs0
 have HLZ := yh hLZ
 have HS0 := yh hs0
 have HWB := yh hJ
 have HM := yh hM
 clear hJ hM hs hLZ hs0
 have hL := Kn.self0q HWB.out
 have hF := hL.fx
 have n0 := HB.out.c7
 go_upto_region 4 with (first | (go_at_call 29; (with_reducible refine zK [] HWB.out HM.out (fun W hL hS hN => HX.out b _ none 0 LZ _ _ (by have h0 := HCO.out; have h1 := HS0.out; simp only [nO] at *; omega) hS hN (HN.out.at_ hL)) ?_); clear hF hL HWB HM; intro W ao cap LP HWB HM hJ hL hF; clear hJ) | (go_at_call 30; (with_reducible refine zK [] HWB.out HM.out (fun W hL hS hN => gk W0 b _ ao cap LP _ { op := 26, a := 0 } 26 0 0 ⟨#[]⟩ (.slice none 0 0) rfl rfl rfl rfl dr (by have h0 := HCO.out; have h1 := HS0.out; have h2 := HLX.out; omega) hS hN.w) ?_); clear hF hL HWB HM; intro W ao cap LP HWB HM hJ hL hF; clear hJ))
 clear n0 HB HN HX
 obtain ⟨s2, hs2⟩ : ∃ x, ((Tr.lst l).g s).add { op := 26, a := 0 } = x := ⟨_, rfl⟩
 rw [hs2] at HMB HM HWB
 clear hs2
 obtain ⟨LC, hLC, _⟩ := HM.out.open
 obtain rfl := HLZ.out
 subst hLC
 have HWZ := yh (Kn.mz HWB.out)
 clear hL hF
 have hL := Kn.self0q HWZ.out
 simp only [kfb] at hL; have hF := hL.fx
 by_cases he : s2.e = 0
 ·by_cases hi : 500 < s2.i
  ·have HE : Hid (aq l = ⟨s2.c, s2.i, 6⟩) := yh (by rw [HMB.out, if_pos ⟨he, hi⟩])
   have h1 : ((s2.e : Int) == 0) = true := by rw [he]; rfl
   have h2 : decide ((500 : Int) < (s2.i : Int)) = true := decide_eq_true (by omega); clear he hi; go_wp2_with (first | (with_reducible refine zS ?_; intro W hL hF) | ((with_reducible refine af 7 ?_); refine zX [0, 1, 2, 3, 4, 5, 6] [] ?_ sR; clear hF hL; intro ι F hne hC hG; (repeat (first | (refine cS ?_) | ((first | refine cF hC ?_ | refine cP ?_); intro K hK; go_big_quiet_op; go_big_quiet_on) | (refine cN ?_; intro W hL; have hF := hL.fx; go_wp2; refine ai ?_; (first | (refine bO _ (by rfl) ?_; clear hL hC hG; intro ι F hne hC hFF; have hG := fun n => (hFF n).fx; clear hFF) | (refine a_ _ (by repeat' (first | (with_reducible exact List.nil_sublist _) | (exact List.Sublist.refl _) | (with_reducible apply List.Sublist.cons_cons) | (with_reducible apply List.Sublist.cons))) ?_; clear hL hF))))); refine zN ?_; clear hC hG; intro W hL hF))
   refine zF ?_; intro W hL hF; refine bodyPost_ret (by simp [results, Tryz.results14, go_sem, *]; try rfl) rfl ?_; rw [HE.out]; exact ⟨f7 (HWZ.out.tail0 hL) fun x hx => by obtain ⟨p, hp, rfl⟩ := List.mem_map.1 hx; exact ⟨p.2, List.mem_cons_of_mem _ (List.mem_cons_of_mem _ (List.mem_append_left _ hp)), HLY.out.has p hp⟩, .inr ⟨(show (6 : Nat) ≠ 0 by decide), rfl⟩⟩
  ·have HE : Hid (aq l = s2 /\ s2.e = 0) := yh ⟨by rw [HMB.out, if_neg (fun h => hi h.2)], he⟩
   have h1 : ((s2.e : Int) == 0) = true := by rw [he]; rfl
   have h1b : ((s2.e : Int) != 0) = false := by rw [he]; rfl
   have h2 : decide ((500 : Int) < (s2.i : Int)) = false := decide_eq_false (by omega); clear he hi; go_wp2; refine zF ?_; intro W hL hF; refine bodyPost_ret (by simp [results, Tryz.results14, go_sem, *]; try rfl) rfl ?_; rw [HE.out.1]; refine ⟨f7 (HWZ.out.tail0 hL) fun x hx => by obtain ⟨p, hp, rfl⟩ := List.mem_map.1 hx; exact ⟨p.2, List.mem_cons_of_mem _ (List.mem_cons_of_mem _ (List.mem_append_left _ hp)), HLY.out.has p hp⟩, .inl ⟨HE.out.2, ao, cap, rfl, ?_⟩⟩; have hA : Kn _ w _ (LC ++ LY) := (HWZ.out.tail0 hL).perml fun p => by simp only [List.countP_cons, List.countP_append]; omega
   exact (HM.out.next (hL.monoX fun x hx => by simp only [keys, List.map_cons, List.map_append, List.mem_cons, List.mem_append, List.cons_append] at hx |-; rcases hx with h | h | h | h <;> simp [h])).plan hA (fun p hp => List.mem_append_left _ hp) hA.apart (fun y hy => List.mem_cons_of_mem _ hy)
 ·have HE : Hid (aq l = s2 /\ s2.e ≠ 0) := yh ⟨by rw [HMB.out, if_neg (fun h => he h.1)], he⟩
  have h1 : ((s2.e : Int) == 0) = false := by rw [beq_eq_false_iff_ne]; omega
  have h1b : ((s2.e : Int) != 0) = true := by rw [bne_iff_ne]; omega
  clear he; go_wp2_with (first | (with_reducible refine zS ?_; intro W hL hF) | ((with_reducible refine af 7 ?_); refine zX [0, 1, 2, 3, 4, 5, 6] [] ?_ sR; clear hF hL; intro ι F hne hC hG; (repeat (first | (refine cS ?_) | ((first | refine cF hC ?_ | refine cP ?_); intro K hK; go_big_quiet_op; go_big_quiet_on) | (refine cN ?_; intro W hL; have hF := hL.fx; go_wp2; refine ai ?_; (first | (refine bO _ (by rfl) ?_; clear hL hC hG; intro ι F hne hC hFF; have hG := fun n => (hFF n).fx; clear hFF) | (refine a_ _ (by repeat' (first | (with_reducible exact List.nil_sublist _) | (exact List.Sublist.refl _) | (with_reducible apply List.Sublist.cons_cons) | (with_reducible apply List.Sublist.cons))) ?_; clear hL hF))))); refine zN ?_; clear hC hG; intro W hL hF))
  refine zF ?_; intro W hL hF; refine bodyPost_ret (by simp [results, Tryz.results14, go_sem, *]; try rfl) rfl ?_; rw [HE.out.1]; exact ⟨f7 (HWZ.out.tail0 hL) fun x hx => by obtain ⟨p, hp, rfl⟩ := List.mem_map.1 hx; exact ⟨p.2, List.mem_cons_of_mem _ (List.mem_cons_of_mem _ (List.mem_append_left _ hp)), HLY.out.has p hp⟩, .inr ⟨HE.out.2, rfl⟩⟩
theorem re(src:ByteArray)(f:Bool)(m:Nat)(hp:ax src.data.toList=.err f m)(ec:Int)(hec:(if f=true then(6:Int)else 27)=ec)(w:World)(hT:TabP w):Calls Tryz.prog 10 #[.string src] w fun e w'=>e=.returned (.tuple #[.agg #[.slice none 0 0],.int .i64 ec,.int .i64 (m:Int)])/\Below w.heap.size w w':=by
 have HPE:=yh (fun(W:World) (h:TabP W)=>(lu src W h).2 f m hp)
 rw[hec]at HPE
 have HT:=yh hT
 have h1:(ec != 0)=true:=by rw[<- hec];cases f<;>rfl
 clear hp hT hec
 have hL:Kn [] w w []:=Kn.refl [] w;have hF:=hL.fx;go_enter Tryz.func10,Tryz.ntmps10
 go_wp2_with (first|(with_reducible refine zS ?_;intro W hL hF)|(go_at_call 13;refine aj ?_;clear hF hL;intro W hL;have hF:=hL.fx;(with_reducible refine(HPE.out _ (HT.out.ext hL.below0)).mono ?_);rintro e W ⟨rfl,hb⟩;replace hL:=hL.below hb;clear hb hF;have hF:=hL.fx))
 refine zF ?_;intro W hL hF
 refine bodyPost_ret (by simp[results,Tryz.results10,go_sem, *];try rfl) rfl ?_
 exact⟨rfl,hL.below0⟩
theorem dJ(src:ByteArray)(ts:Ts)(l:List Nd)(hp:ax src.data.toList=.ok l)(hl:ts.nds=l)(hok:ts.ok)(htg:ts.tg)(he:(aq ts).e=0)(w:World)(hT:TabP w):Calls Tryz.prog 10 #[.string src] w (fun e w'=>∃(ao:Option Addr) (cap:Nat),e=.returned (.tuple #[.agg #[.slice ao (aq ts).n cap],.int .i64 0,.int .i64 0])/\Hid (PlanRow [] w' (.slice ao (aq ts).n cap) (aq ts).c)/\Below w.heap.size w w'):=by
 have HPE:=yh (fun(W:World) (h:TabP W)=>(lu src W h).1 l hp)
 have hnd:(Tr.lst ts).nd=.mk 4 [] false [] [] [] l:=by simp only[Tr.nd,hl]
 have hco:(Tr.lst ts).nd.co<=800000:=by
  have h1:=dv hp;have h2:=gR h1 hp;rw[hnd,dD];omega
 obtain⟨em,hem⟩:∃z,(aq ts).e=z:=⟨_,rfl⟩
 have HMK:Hid (∀(W:World) (cs:List Value),Below w.heap.size w W->Kn (keys [(w.heap.size,.cells #[.slice none 0 0] 25 (0,0))]) W W [(w.heap.size,.cells #[.slice none 0 0] 25 (0,0))]->NodeIs (keys [(w.heap.size,.cells #[.slice none 0 0] 25 (0,0))]) W (.mk 4 [] false [] [] [] l) cs->Calls Tryz.prog 14 #[.agg cs.toArray] W (fun e w'=>∃(ao:Option Addr) (cap:Nat),e=.returned (.tuple #[.agg #[.slice ao (aq ts).n cap],.int .i64 0])/\Hid (PlanRow (keys [(w.heap.size,.cells #[.slice none 0 0] 25 (0,0))]) w' (.slice ao (aq ts).n cap) (aq ts).c)/\Below W.heap.size W w')):=yh (fun W cs hB hLY hn=>by
  rw[<- hnd]at hn;refine(xk ts (by simp only[Tr.ok];exact hok) (by simp only[Tr.tg];exact htg) (by rw[hnd];exact iP hp) hco w W hB hT [(w.heap.size,.cells #[.slice none 0 0] 25 (0,0))] hLY (fun p hp=>by rw[List.mem_singleton.1 hp];exact Nat.le_refl _) (fun p hp=>by rw[List.mem_singleton.1 hp];exact⟨_,_,rfl,by decide⟩) cs hn).mono ?_;rintro e w' ⟨hb,h⟩;rcases h with⟨h1,h2⟩|⟨h1,h2⟩
  ·obtain⟨ao,cap,rfl,h3⟩:=h2;exact⟨ao,cap,rfl,yh h3,hb⟩
  ·exact absurd he h1)
 obtain⟨nl,hnl⟩:∃z,l.length=z:=⟨_,rfl⟩
 rw[hnl]at HPE
 obtain⟨n,hn⟩:∃z,(aq ts).n=z:=⟨_,rfl⟩
 rw[hn]at HMK |-
 have HT:=yh hT
 clear hp hT hl hok htg hnd hco hem hnl hn
 have hL:Kn [] w w []:=Kn.refl [] w;have hF:=hL.fx;go_enter Tryz.func10,Tryz.ntmps10
 go_wp2_with (first|(with_reducible refine zS ?_;intro W hL hF)|((first|(go_at_call 13;refine aj ?_;clear hF hL;intro W hL;have hF:=hL.fx;(with_reducible refine(HPE.out _ (HT.out.ext hL.below0)).mono ?_);have hL0:=hL;rintro e W ⟨aa,ca,aw,cw,ar,cr,ak,ck,rfl,HNY,hb⟩;replace hL:=hL.below hb;clear hb hF;have hF:=hL.fx;have HN:=yh (HNY.out (keys [(w.heap.size,.cells #[.slice none 0 0] 25 (0,0))]) (fun y hy=>by rw[List.mem_singleton.1 hy];exact⟨_,_,hL0.has _ m0,by decide⟩));clear HNY hL0;obtain⟨W1,rfl⟩:∃W1:World,W1=W:=⟨_,rfl⟩;have HB1:=yh hL;clear hL;have hL:=HB1.out.self0)|(go_at_call 14;refine aj ?_;clear hF hL;intro W hL;have hF:=hL.fx;(with_reducible refine(HMK.out _ _ (HB1.out.tail0 hL).below0 (Kn.sub hL (sD sR)).self0 (HN.out.at_ hL)).mono ?_);rintro e W ⟨ao,cap,rfl,HPR,hb⟩;replace hL:=hL.below hb;clear hb hF;have hF:=hL.fx;obtain⟨W2,rfl⟩:∃W2:World,W2=W:=⟨_,rfl⟩;have HB2:=yh (Kn.sub (HB1.out.tail0 hL) (sD sR));clear hL HB1;have hL:=HB2.out.self0));clear hF;have hF:=hL.fx))
 refine zF ?_;intro W hL hF
 refine bodyPost_ret (by simp[results,Tryz.results10,go_sem, *];try rfl) rfl ?_
 exact⟨ao,cap,rfl,yh ((HPR.out.kn (Y:=[]) hL (fun y hy=>absurd hy List.not_mem_nil))),(HB2.out.tail0 hL).below0⟩
theorem rf(src:ByteArray)(ts:Ts)(l:List Nd)(hp:ax src.data.toList=.ok l)(hl:ts.nds=l)(hok:ts.ok)(htg:ts.tg)(he:(aq ts).e≠0)(w:World)(hT:TabP w):Calls Tryz.prog 10 #[.string src] w (fun e w'=>e=.returned (.tuple #[.agg #[.slice none 0 0],.int .i64 ((aq ts).e:Int),.int .i64 0])/\Below w.heap.size w w'):=by
 have HPE:=yh (fun(W:World) (h:TabP W)=>(lu src W h).1 l hp)
 have hnd:(Tr.lst ts).nd=.mk 4 [] false [] [] [] l:=by simp only[Tr.nd,hl]
 have hco:(Tr.lst ts).nd.co<=800000:=by
  have h1:=dv hp;have h2:=gR h1 hp;rw[hnd,dD];omega
 obtain⟨em,hem⟩:∃z,(aq ts).e=z:=⟨_,rfl⟩
 have HMK:Hid (∀(W:World) (cs:List Value),Below w.heap.size w W->Kn (keys [(w.heap.size,.cells #[.slice none 0 0] 25 (0,0))]) W W [(w.heap.size,.cells #[.slice none 0 0] 25 (0,0))]->NodeIs (keys [(w.heap.size,.cells #[.slice none 0 0] 25 (0,0))]) W (.mk 4 [] false [] [] [] l) cs->Calls Tryz.prog 14 #[.agg cs.toArray] W (fun e w'=>e=.returned (.tuple #[.agg #[.slice none 0 0],.int .i64 (em:Int)])/\Below W.heap.size W w')):=yh (fun W cs hB hLY hn=>by
  rw[<- hnd]at hn;refine(xk ts (by simp only[Tr.ok];exact hok) (by simp only[Tr.tg];exact htg) (by rw[hnd];exact iP hp) hco w W hB hT [(w.heap.size,.cells #[.slice none 0 0] 25 (0,0))] hLY (fun p hp=>by rw[List.mem_singleton.1 hp];exact Nat.le_refl _) (fun p hp=>by rw[List.mem_singleton.1 hp];exact⟨_,_,rfl,by decide⟩) cs hn).mono ?_;rintro e w' ⟨hb,h⟩;rcases h with⟨h1,h2⟩|⟨h1,h2⟩
  ·exact absurd h1 he
  ·exact⟨by rw[h2,hem],hb⟩)
 obtain⟨nl,hnl⟩:∃z,l.length=z:=⟨_,rfl⟩
 rw[hnl]at HPE
 obtain⟨n,hn⟩:∃z,(aq ts).n=z:=⟨_,rfl⟩
 skip
 rw[hem]at he |-
 have hez:((em:Int) != 0)=true:=by rw[bne_iff_ne];omega
 have HT:=yh hT
 clear hp hT hl hok htg hnd hco hem hnl hn
 have hL:Kn [] w w []:=Kn.refl [] w;have hF:=hL.fx;go_enter Tryz.func10,Tryz.ntmps10
 go_wp2_with (first|(with_reducible refine zS ?_;intro W hL hF)|((first|(go_at_call 13;refine aj ?_;clear hF hL;intro W hL;have hF:=hL.fx;(with_reducible refine(HPE.out _ (HT.out.ext hL.below0)).mono ?_);have hL0:=hL;rintro e W ⟨aa,ca,aw,cw,ar,cr,ak,ck,rfl,HNY,hb⟩;replace hL:=hL.below hb;clear hb hF;have hF:=hL.fx;have HN:=yh (HNY.out (keys [(w.heap.size,.cells #[.slice none 0 0] 25 (0,0))]) (fun y hy=>by rw[List.mem_singleton.1 hy];exact⟨_,_,hL0.has _ m0,by decide⟩));clear HNY hL0;obtain⟨W1,rfl⟩:∃W1:World,W1=W:=⟨_,rfl⟩;have HB1:=yh hL;clear hL;have hL:=HB1.out.self0)|(go_at_call 14;refine aj ?_;clear hF hL;intro W hL;have hF:=hL.fx;(with_reducible refine(HMK.out _ _ (HB1.out.tail0 hL).below0 (Kn.sub hL (sD sR)).self0 (HN.out.at_ hL)).mono ?_);rintro e W ⟨rfl,hb⟩;replace hL:=hL.below hb;clear hb hF;have hF:=hL.fx;obtain⟨W2,rfl⟩:∃W2:World,W2=W:=⟨_,rfl⟩;have HB2:=yh (Kn.sub (HB1.out.tail0 hL) (sD sR));clear hL HB1;have hL:=HB2.out.self0));clear hF;have hF:=hL.fx))
 refine zF ?_;intro W hL hF
 refine bodyPost_ret (by simp[results,Tryz.results10,go_sem, *];try rfl) rfl ?_
 exact⟨rfl,(HB2.out.tail0 hL).below0⟩
theorem rg{a b:ab}{x y:List Nd}(hl:a.length+b.length<7000)(he:a.getLast? ≠some 92)(ha:ax a=.ok x)(hb:ax b=.ok y):ax (a++10::b)=.ok (x++y)\/∃m,ax (a++10::b)=.err true m:=by
 obtain⟨T,h1,_,h2⟩:=jg (by omega) ha
 obtain⟨V,h3,_,h4⟩:=jg (by omega) hb
 rcases tD (by grind) (qM h1 he h3)with⟨m,_,h5⟩|⟨_,h5,_⟩
 ·grind
 ·exact .inl (h5 _ (oT rfl h2 h4))
theorem pP{a b:Ts}(ha:(aq a).e=0)(hb:(aq b).e=0):(aq (a.app b)).e=6\/((aq (a.app b)).e=0/\(aq (a.app b)).c=a.clm (!b.nil?) 0 0++(aq b).c.map (Ins.up (a.cl 0 0).length (itm (a.cl 0 0)))):=by
 obtain⟨f1,c1,i1⟩:=dE ha
 obtain⟨f2,c2,i2⟩:=dE hb
 have hf:(a.app b).fine=true:=by grind[pF]
 by_cases h:(aq (a.app b)).e=0
 ·grind[dE,q7]
 ·left
  have hg:=Tr.gen (.lst (a.app b)) (by grind[Tr.fine]) ⟨[],0,0⟩ rfl;grind[aq,PS.op,PS.add]
def wA(c:UInt8):Wd:=.lit ⟨0,[c],false⟩ .nil
def xl(c:UInt8):Tr:=.pipe false (.cons (.simple .nil (.cons {} (wA c) .nil) .nil) .nil)
def exB:Ts:=.cons (.ao false (xl 97) (xl 98)) .nil
def exS:Ts:=.cons (xl 97) .nil
def exC:Ts:=.cons (.pipe false (.cons (.simple (.cons ⟨[120],0,0⟩ (.sub ⟨2,[97],false⟩ (.lst exS) .nil) .nil) .nil .nil) .nil)) .nil
theorem B6:ax []=.ok []:=by rfl
theorem B7:ax [97,32,38,38,32,98]=.ok exB.nds:=by rfl
theorem B8:ax [97]=.ok exS.nds:=by rfl
theorem B9:ax [120,61,36,40,97,41]=.ok exC.nds:=by rfl
theorem Bp:exS.ok/\exS.tg:=by
 simp[exS,xl,wA,Ts.ok,Tr.ok,Ws.ok,Wd.ok,Ts.nds,Ts.tg,Tr.tg,Ws.tg,Wd.tg,Ws.ta,Ws.tw,Ws.tr]
theorem Bq:exB.ok/\exB.tg:=by
 simp[exB,xl,wA,Ts.ok,Tr.ok,Ws.ok,Wd.ok,Ts.nds,Ts.tg,Tr.tg,Ws.tg,Wd.tg,Ws.ta,Ws.tw,Ws.tr]
theorem Br:exC.ok/\exC.tg:=by
 have h:=B8
 have h2:=Bp
 refine⟨?_,?_⟩
 ·simp only[exC,Ts.ok,Tr.ok,Ws.ok,Wd.ok,Ts.nds,and_true,true_and]
  grind[Tr.nd]
 ·simp only[exC,Ts.tg,Tr.tg,Ws.tg,Wd.tg,Ws.ta,Ws.tw,Ws.tr,and_true,true_and]
  grind
theorem Ai:(aq .nil).e=0/\(aq .nil).c.map (fun x=>(x.op:Int))=[26]:=by exact⟨rfl,rfl⟩
theorem sy:(aq exB).e=0/\(aq exB).c.map (fun x=>(x.op:Int))=[0,24,6,7,12,25,24,3,6,7,12,25,26]/\((aq exB).c[7]?.map (·.a))=some 12/\((aq exB).c[0]?.map (·.a))=some 1:=by exact⟨rfl,rfl,rfl,rfl⟩
theorem sA:(aq exC).e=0/\(aq exC).c.map (fun x=>(x.op:Int))=[0,13,0,6,7,12,25,16,15,8,25,26]/\((aq exC).c[1]?.map fun x=>(x.a,x.b))=some (8,8)/\((aq exC).c[2]?.map (·.a))=some 2:=by exact⟨rfl,rfl,rfl,rfl⟩
def KW(k:K):Prop:=∀p i,∀x∈k p i,x.w.length<=100000
theorem KW.seq{f g:K}(hf:KW f)(hg:KW g):KW (f.seq g):=fun p i x hx=>by
 rcases List.mem_append.1 hx with hx|hx
 ·exact hf _ _ x hx
 ·exact hg _ _ x hx
theorem KW.one{x:Ins}(h:x.w.length<=100000):KW (K.one x):=fun p i y hy=>by rw[List.mem_singleton.1 hy];exact h
theorem KW.o(o:Nat)(a:Int):KW (K.o o a):=KW.one (Nat.zero_le _)
theorem KW.nil:KW K.nil:=fun p i x hx=>by cases hx
theorem KW.child{f:K}(k:Int)(h:KW f):KW (K.child k f):=fun p i x hx=>by
 rcases List.mem_cons.1 hx with rfl|hx
 ·grind
 ·rcases List.mem_append.1 hx with hx|hx
  ·exact h _ _ x hx
  grind
theorem KW.quiet{f:K}(h:KW f):KW (K.quiet f):=(KW.o _ _).seq (h.seq (KW.o _ _))
theorem KW.over{f:K}(o:Nat)(h:KW f):KW (K.over o f):=fun p i x hx=>by
 rcases List.mem_cons.1 hx with rfl|hx
 ·grind
 ·exact h _ _ x hx
theorem KW.alt{f g:K}(h:KW f)(h2:KW g):KW (K.alt f g):=fun p i x hx=>by
 rcases List.mem_cons.1 hx with rfl|hx
 ·grind
 ·rcases List.mem_append.1 hx with hx|hx
  ·exact h _ _ x hx
  ·rcases List.mem_cons.1 hx with rfl|hx
   ·grind
   ·exact h2 _ _ x hx
theorem KW.loop{f g:K}(o:Nat)(h:KW f)(h2:KW g):KW (K.loop o f g):=fun p i x hx=>by
 rcases List.mem_append.1 hx with hx|hx
 ·exact h _ _ x hx
 ·rcases List.mem_cons.1 hx with rfl|hx
  ·grind
  ·rcases List.mem_append.1 hx with hx|hx
   ·exact h2 _ _ x hx
   grind
theorem KW.each{f:K}(h:KW f):KW (K.each f):=fun p i x hx=>by
 rcases List.mem_cons.1 hx with rfl|hx
 ·grind
 ·rcases List.mem_append.1 hx with hx|hx
  ·exact h _ _ x hx
  grind
theorem KW.fn{f:K}(n:ab)(h:KW f):KW (K.fn n f):=fun p i x hx=>by
 rcases List.mem_cons.1 hx with rfl|hx
 ·grind
 ·rcases List.mem_cons.1 hx with rfl|hx
  ·grind
  ·rcases List.mem_append.1 hx with hx|hx
   ·exact h _ _ x hx
   grind
theorem KW.item{f:K}(b:Bool)(h:KW f):KW (K.item b f):=fun p i x hx=>by
 rcases List.mem_cons.1 hx with rfl|hx
 ·grind
 ·exact h _ _ x hx
theorem KW.saved{r f:K}(b:Bool)(h:KW r)(h2:KW f):KW (K.saved b r f):=by
 cases b with
 |true=>exact h2
 |false=>exact(KW.o _ _).seq (h.seq (h2.seq (KW.o _ _)))
theorem KW.case{w:List Nat->K}{b:Nat->K}{pos:Nat->Nat->List Nat}(h:∀l,KW (w l))(h2:∀e,KW (b e)):KW (K.case w b pos):=fun p i x hx=>by
 rcases List.mem_append.1 hx with hx|hx
 ·exact h _ _ _ x hx
 ·rcases List.mem_cons.1 hx with rfl|hx
  ·grind
  ·rcases List.mem_cons.1 hx with rfl|hx
   ·grind
   ·rcases List.mem_append.1 hx with hx|hx
    ·exact h2 _ _ _ x hx
    grind
mutual
theorem Wd.kw:∀w:Wd,w.ok->w.ps.length<=100000->KW w.c
 |.nil,_,_=>by grind[Wd.c,KW.nil]
 |.lit p r,h,hl=>by
  simp only[Wd.ok,Wd.ps,List.length_cons]at h hl;simp only[Wd.c];exact Wd.kw r h.2 (by omega)
 |.sub p t r,h,hl=>by
  simp only[Wd.ok,Wd.ps,List.length_cons]at h hl;obtain⟨_,⟨l,h1,h2,_⟩,h3,h4⟩:=h;simp only[Wd.c];exact((Tr.kw t h3 (by rw[h2];exact iP h1)).child 8).seq ((KW.o _ _).seq (Wd.kw r h4 (by omega)))
 |.bad p f r,h,hl=>by
  simp only[Wd.ok,Wd.ps,List.length_cons]at h hl;simp only[Wd.c];exact Wd.kw r h.2.2 (by omega)
theorem Ws.kw:∀w:Ws,w.ok->(∀y∈w.ws,y.length<=100000)->(∀o,KW (w.c o))/\∀t,KW (w.cm t)
 |.nil,_,_=>⟨fun o=>by grind[Ws.c,KW.nil],fun t=>by grind[Ws.cm,KW.nil]⟩
 |.cons g w r,h,hs=>by
  simp only[Ws.ok,Ws.ws,List.mem_cons,forall_eq_or_imp]at h hs;obtain⟨h1,h2⟩:=Ws.kw r h.2 hs.2;have h3:=Wd.kw w h.1 hs.1;exact⟨fun o=>by simp only[Ws.c];exact h3.seq ((KW.one hs.1).seq (h1 o)),fun t=>by simp only[Ws.cm];exact h3.seq ((KW.one hs.1).seq (h2 t))⟩
theorem Tr.kw:∀t:Tr,t.ok->Sm 100000 t.nd->KW t.c
 |.simple a w r,h,hs=>by
  simp only[Tr.ok]at h;obtain⟨a1,a2⟩:=Ah hs (a:=a) (by simp only[Tr.nd];rfl);obtain⟨r1,r2⟩:=eI hs (r:=r) (by simp only[Tr.nd];rfl);obtain⟨w1,w2⟩:=jE hs;simp only[Tr.nd,Nd.ws]at w2;simp only[Tr.c];refine KW.saved _ ((Ws.kw r h.2.2 r2).1 10) (KW.seq ?_ (((Ws.kw a h.1 a2).1 8).seq ?_))
  ·split
   ·exact KW.nil
   ·exact(KW.o _ _).seq ((Ws.kw w h.2.1 w2).1 7)
  grind[KW.o,KW.nil]
 |.pipe g l,h,hs=>by
  simp only[Tr.ok]at h;obtain⟨s1,s2⟩:=bi hs;simp only[Tr.nd,Nd.kids]at s1 s2;have hl:=((Ts.kw l h.1 s2).2 true).seq (g:=if 1<l.nds.length then K.o 14 0 else K.nil) (by grind[KW.o,KW.nil]);simp only[Tr.c];split
  ·exact(KW.o _ _).seq (hl.seq ((KW.o _ _).seq (KW.o _ _)))
  ·exact hl.seq (KW.o _ _)
 |.ao o x y,h,hs=>by
  simp only[Tr.ok]at h;obtain⟨s1,s2⟩:=bi hs;simp only[Tr.nd,Nd.kids,List.mem_cons,forall_eq_or_imp]at s1 s2;simp only[Tr.c];exact(Tr.kw x h.1 s2.1).quiet.seq ((Tr.kw y h.2 s2.2.1).over _)
 |.lst l,h,hs=>by
  simp only[Tr.ok]at h;obtain⟨s1,s2⟩:=bi hs;simp_all[Tr.nd,Nd.kids,Tr.c,Ts.kw]
 |.back x,h,hs=>by
  simp only[Tr.ok]at h;obtain⟨s1,s2⟩:=bi hs;simp only[Tr.nd,Nd.kids,List.mem_cons,forall_eq_or_imp]at s1 s2;simp only[Tr.c];exact((Tr.kw x h s2.1).child _).seq (KW.o _ _)
 |.sub x r,h,hs=>by
  simp only[Tr.ok]at h;obtain⟨s1,s2⟩:=bi hs;obtain⟨r1,r2⟩:=eI hs (r:=r) (by simp only[Tr.nd];rfl);simp only[Tr.nd,Nd.kids,List.mem_cons,forall_eq_or_imp]at s1 s2;simp only[Tr.c];exact KW.saved _ ((Ws.kw r h.2 r2).1 10) (((Tr.kw x h.1 s2.1).child _).seq (KW.o _ _))
 |.grp x r,h,hs=>by
  simp only[Tr.ok]at h;obtain⟨s1,s2⟩:=bi hs;obtain⟨r1,r2⟩:=eI hs (r:=r) (by simp only[Tr.nd];rfl);simp only[Tr.nd,Nd.kids,List.mem_cons,forall_eq_or_imp]at s1 s2;simp only[Tr.c];exact KW.saved _ ((Ws.kw r h.2 r2).1 10) (Tr.kw x h.1 s2.1)
 |.iff c t r,h,hs=>by
  simp only[Tr.ok]at h;obtain⟨s1,s2⟩:=bi hs;obtain⟨r1,r2⟩:=eI hs (r:=r) (by simp only[Tr.nd];rfl);simp only[Tr.nd,Nd.kids,List.mem_cons,forall_eq_or_imp]at s1 s2;simp only[Tr.c];exact KW.saved _ ((Ws.kw r h.2.2 r2).1 10) ((Tr.kw c h.1 s2.1).quiet.seq ((Tr.kw t h.2.1 s2.2.1).alt (KW.o _ _)))
 |.ife c t e r,h,hs=>by
  simp only[Tr.ok]at h;obtain⟨s1,s2⟩:=bi hs;obtain⟨r1,r2⟩:=eI hs (r:=r) (by simp only[Tr.nd];rfl);simp only[Tr.nd,Nd.kids,List.mem_cons,forall_eq_or_imp]at s1 s2;simp only[Tr.c];exact KW.saved _ ((Ws.kw r h.2.2.2 r2).1 10) ((Tr.kw c h.1 s2.1).quiet.seq ((Tr.kw t h.2.1 s2.2.1).alt (Tr.kw e h.2.2.1 s2.2.2.1)))
 |.loop u c b r,h,hs=>by
  simp only[Tr.ok]at h;obtain⟨s1,s2⟩:=bi hs;obtain⟨r1,r2⟩:=eI hs (r:=r) (by simp only[Tr.nd];rfl);simp only[Tr.nd,Nd.kids,List.mem_cons,forall_eq_or_imp]at s1 s2;simp only[Tr.c];exact KW.saved _ ((Ws.kw r h.2.2 r2).1 10) (((Tr.kw c h.1.1 s2.1).quiet.loop _ (Tr.kw b h.2.1 s2.2.1)).seq (KW.o _ _))
 |.for_ n w b r,h,hs=>by
  simp only[Tr.ok]at h;obtain⟨s1,s2⟩:=bi hs;obtain⟨w1,w2⟩:=jE hs;obtain⟨r1,r2⟩:=eI hs (r:=r) (by simp only[Tr.nd];rfl);simp only[Tr.nd,Nd.kids,Nd.ws,List.mem_cons,forall_eq_or_imp]at s1 s2 w1 w2;simp only[Tr.c];exact KW.saved _ ((Ws.kw r h.2.2 r2).1 10) ((KW.o _ _).seq (((Ws.kw w h.1 w2).1 7).seq ((KW.one (Nat.zero_le _)).seq ((KW.o _ _).seq (Tr.kw b h.2.1 s2.1).each))))
 |.case_ w l r,h,hs=>by
  simp only[Tr.ok]at h;obtain⟨s1,s2⟩:=bi hs;obtain⟨w1,w2⟩:=jE hs;obtain⟨r1,r2⟩:=eI hs (r:=r) (by simp only[Tr.nd];rfl);simp only[Tr.nd,Nd.kids,Nd.ws,List.mem_cons,forall_eq_or_imp]at s1 s2 w1 w2;obtain⟨h1,h2⟩:=Am.kw l h.2.1 s2;simp only[Tr.c];exact KW.saved _ ((Ws.kw r h.2.2 r2).1 10) ((Wd.kw w h.1 w2.1).seq ((KW.one w2.1).seq (KW.case h1 h2)))
 |.fn n b,h,hs=>by
  simp only[Tr.ok]at h;obtain⟨s1,s2⟩:=bi hs;simp only[Tr.nd,Nd.kids,List.mem_cons,forall_eq_or_imp]at s1 s2;simp only[Tr.c];exact((Tr.kw b h s2.1).fn n).seq (KW.o _ _)
theorem Ts.kw:∀l:Ts,l.ok->(∀n∈l.nds,Sm 100000 n)->KW l.cl/\∀b,KW (l.cp b)
 |.nil,_,_=>⟨by grind[Ts.cl,KW.nil],fun b=>by grind[Ts.cp,KW.nil]⟩
 |.cons x r,h,hs=>by
  simp only[Ts.ok,Ts.nds,List.mem_cons,forall_eq_or_imp]at h hs;obtain⟨h1,h2⟩:=Ts.kw r h.2 hs.2;have hx:=Tr.kw x h.1 hs.1;refine⟨by simp only[Ts.cl];exact(hx.item _).seq h1,fun b=>?_⟩;simp only[Ts.cp];refine KW.seq ?_ (h2 false);split
  ·exact hx
  ·exact hx.child _
theorem Am.kw:∀l:Am,l.ok->(∀n∈l.nds,Sm 100000 n)->(∀q,KW (l.cw q))/\∀e,KW (l.cb e)
 |.nil,_,_=>⟨fun q=>by grind[Am.cw,KW.nil],fun e=>by grind[Am.cb,KW.nil]⟩
 |.cons w b r,h,hs=>by
  simp only[Am.ok,Am.nds,List.mem_cons,forall_eq_or_imp]at h hs;obtain⟨h1,h2⟩:=Am.kw r h.2.2 hs.2;obtain⟨w1,w2⟩:=jE hs.1;obtain⟨s1,s2⟩:=bi hs.1;simp only[Nd.kids,Nd.ws,List.mem_cons,forall_eq_or_imp]at s1 s2 w1 w2;exact⟨fun q=>by simp only[Am.cw];exact((Ws.kw w h.1 w2).2 _).seq (h1 _),fun e=>by simp only[Am.cb];exact(KW.o _ _).seq ((Tr.kw b h.2.1 s2.1).seq ((KW.o _ _).seq (h2 e)))⟩
end
theorem nt{s:ab}{l:List Nd}{ts:Ts}(hp:ax s=.ok l)(hl:ts.nds=l)(hok:ts.ok)(he:(aq ts).e=0):∀x∈(aq ts).c,x.w.length<=100000:=fun x hx=>by
 obtain⟨_,h1,_⟩:=dE he
 rw[h1]at hx
 have hs:=(bi (iP hp)).2
 simp only[Nd.kids]at hs
 rcases List.mem_append.1 hx with hx|hx
 ·exact(Ts.kw ts hok (by grind)).1 0 0 x hx
 grind
theorem PlanRow.len{Y:List Nat}{W:World}{v:Value}{c:List Ins}(h:PlanRow Y W v c):∃a cap,v=.slice a c.length cap:=by
 obtain⟨cv,rfl,⟨a,cap,h2,_⟩,_⟩:=h
 rw[List.length_map]at h2
 exact⟨a,cap,by rw[h2,List.length_map]⟩
theorem PlanRow.at{Y:List Nat}{W:World}{a:Option Addr}{n cap:Nat}{c:List Ins}(h:PlanRow Y W (.slice a n cap) c){j:Nat}{x:Ins}(hj:c[j]? =some x):∃g o v,a=some ⟨g,o,none⟩/\g∉Y/\g<W.heap.size/\W.cell? ⟨g,o+j*5,none⟩=some (.int .i64 (x.op:Int))/\W.cell? ⟨g,o+j*5+1,none⟩=some (.int .i64 x.a)/\W.cell? ⟨g,o+j*5+2,none⟩=some (.int .i64 x.b)/\W.cell? ⟨g,o+j*5+3,none⟩=some (bs x.s)/\W.cell? ⟨g,o+j*5+4,none⟩=some v/\PRow Y W v x.w:=by
 obtain⟨cv,rfl,h2,h3⟩:=h
 rw[List.getElem?_map]at hj
 obtain⟨y,hy,rfl⟩:=Option.map_eq_some_iff.1 hj
 obtain⟨g,o,h4,h5,h6,h7⟩:=fo h2 (j:=j) (cs:=cJ y) (by rw[List.getElem?_map,hy];rfl)
 have h8:=h7 0 _ rfl
 rw[Nat.add_zero]at h8
 exact⟨g,o,y.2,h4,h5,h6,h8,h7 1 _ rfl,h7 2 _ rfl,h7 3 _ rfl,h7 4 _ rfl,h3 y (List.mem_of_getElem? hy)⟩
theorem zP(C:List Ins)(n:Int)(j:Nat)(z:Ins)(hj:C[j]? =some z)(hz:z.op=0)(ha:z.a=n)(hu:∀(i:Nat) (y:Ins),i<j->C[i]? =some y->¬(y.op=0/\y.a=n))(hlen:C.length<=900000)(v:Value)(w:World)(hv:PlanRow [] w v C):Calls Tryz.prog 11 #[.agg #[v],.int .i64 n] w fun e w'=>e=.returned (.tuple #[.int .i64 (j:Int),.bool true])/\Below w.heap.size w w':=by
 obtain⟨av,cv,rfl⟩:=hv.len
 have hjn:=(List.getElem?_eq_some_iff.1 hj).1
 obtain⟨nv,hnv⟩:∃m,C.length=m:=⟨_,rfl⟩
 have HNV:=yh hnv
 rw[hnv]at hv hlen hjn |-
 have HV:=yh hv
 have HU:=yh hu
 have HJ:=yh hj
 clear hv hu hnv hj
 have hL:Kn [] w w []:=Kn.refl [] w;have hF:=hL.fx;go_enter Tryz.func11,Tryz.ntmps11
 go_wp2
 go_loopw [11] (fun i wr=>∃k:Nat,k<=j/\i=.int .i64 k/\Kn [] w wr []) (fun i _=>nv-(intOf i).toNat)
 case atStart=>exact⟨0,Nat.zero_le _,rfl,aV.sub (by repeat' (first|exact List.Sublist.refl _|apply List.Sublist.cons))⟩
 case round=>
  obtain⟨k,hk,rfl,hK⟩:=hrel;clear hL hF;have hL:=hK;clear hK;have hF:=hL.fx;by_cases hlt:k=j
  ·subst hlt
   obtain⟨gz,oz,vz,hga,gx,glz,cz0,cz1,cz2,cz3,cz4,hpz⟩:=HV.out.at HJ.out;subst hga;clear gx;obtain⟨uz,hu⟩:∃u:ByteArray,bs z.s=.string u:=⟨_,rfl⟩;rw[hu]at cz3;clear hu;obtain⟨paz,pnz,pcz,hpv⟩:∃a n c,vz=.slice a n c:=by
    obtain⟨a,c,h,_⟩:=id hpz;exact⟨a,_,c,h⟩
   subst hpv;have h1:((z.op:Int)==0)=true:=by rw[hz];rfl
   have h2:(z.a==n)=true:=by rw[ha];exact beq_self_eq_true n
   go_wp2;refine zF ?_;intro W hL hF;refine bodyPost_ret (by simp[results,Tryz.results11,go_sem, *];try rfl) rfl ?_;exact⟨rfl,hL.below0⟩
  ·have hkn:k<nv:=by omega
   obtain⟨x,hx⟩:∃x,C[k]? =some x:=⟨_,List.getElem?_eq_getElem (by rw[HNV.out];exact hkn)⟩;have HUX:=yh (HU.out k x (by omega) hx);obtain⟨gx,ox,vx,hga,gx,glx,cx0,cx1,cx2,cx3,cx4,hpx⟩:=HV.out.at hx;subst hga;clear gx;obtain⟨ux,hu⟩:∃u:ByteArray,bs x.s=.string u:=⟨_,rfl⟩;rw[hu]at cx3;clear hu;obtain⟨pax,pnx,pcx,hpv⟩:∃a n c,vx=.slice a n c:=by
    obtain⟨a,c,h,_⟩:=id hpx;exact⟨a,_,c,h⟩
   subst hpv;clear hx hpx;by_cases h0:x.op=0
   ·have h1:((x.op:Int)==0)=true:=by rw[h0];rfl
    have h2:(x.a==n)=false:=by rw[beq_eq_false_iff_ne];exact fun e=>HUX.out ⟨h0,e⟩
    go_wp2;exact⟨⟨k+1,by omega,by go_num,aV.sub (by repeat' (first|exact List.Sublist.refl _|apply List.Sublist.cons))⟩,by simp[intOf];omega⟩
   ·have h1:((x.op:Int)==0)=false:=by rw[beq_eq_false_iff_ne];omega
    go_wp2;exact⟨⟨k+1,by omega,by go_num,aV.sub (by repeat' (first|exact List.Sublist.refl _|apply List.Sublist.cons))⟩,by simp[intOf];omega⟩
theorem xm(C:List Ins)(l:List Int)(hl:C.map (fun x=>(x.op:Int))=l)(hlen:C.length<=900000)(v:Value)(g o cap2:Nat)(w:World)(hv:PlanRow [] w v C)(hr:∀(j:Nat) (x:Int),l[j]? =some x->w.cell? ⟨g,o+j,none⟩=some (.int .i64 x)):Calls Tryz.prog 22 #[.agg #[v],.slice (some ⟨g,o,none⟩) l.length cap2] w fun e w'=>e=.returned (.bool true)/\Below w.heap.size w w':=by
 obtain⟨av,cv,rfl⟩:=hv.len
 have hll:l.length=C.length:=by rw[<- hl,List.length_map]
 obtain⟨nv,hnv⟩:∃m,C.length=m:=⟨_,rfl⟩
 rw[hll]
 rw[hnv]at hv hlen |-
 have HNV:=yh hnv
 have HV:=yh hv
 have HR:=yh hr
 have HL:=yh hl
 clear hv hr hnv hl hll
 have hL:Kn [] w w []:=Kn.refl [] w;have hF:=hL.fx;go_enter Tryz.func22,Tryz.ntmps22
 go_wp2
 go_loopw [5] (fun i wr=>∃k:Nat,k<=nv/\i=.int .i64 k/\Kn [] w wr [(w.heap.size,.cells #[.slice av nv cv] 25 (0,0))]) (fun i _=>nv-(intOf i).toNat)
 case atStart=>exact⟨0,Nat.zero_le _,rfl,aV⟩
 case round=>
  obtain⟨k,hk,rfl,hK⟩:=hrel;clear hL hF;have hL:=hK;clear hK;have hF:=hL.fx;by_cases hlt:k<nv
  ·obtain⟨x,hx⟩:∃x,C[k]? =some x:=⟨_,List.getElem?_eq_getElem (by rw[HNV.out];exact hlt)⟩
   have c9:=HR.out k (x.op:Int) (by rw[<- HL.out,List.getElem?_map,hx];rfl);have g9:=aI c9;obtain⟨gx,ox,vx,hga,gx,glx,cx0,cx1,cx2,cx3,cx4,hpx⟩:=HV.out.at hx;subst hga;clear gx;obtain⟨ux,hu⟩:∃u:ByteArray,bs x.s=.string u:=⟨_,rfl⟩;rw[hu]at cx3;clear hu;obtain⟨pax,pnx,pcx,hpv⟩:∃a n c,vx=.slice a n c:=by
    obtain⟨a,c,h,_⟩:=id hpx;exact⟨a,_,c,h⟩
   subst hpv;clear hx hpx;go_wp2_with (first|(with_reducible refine zS ?_;intro W hL hF)|((with_reducible refine af 6 ?_);refine zX [0,1,2,3,4,5,6,7,8,9,10] [] ?_ sR;clear hF hL;intro ι F hne hC hG;(repeat(first|(refine cS ?_)|((first|refine cF hC ?_|refine cP ?_);intro K hK;go_big_quiet_op;go_big_quiet_on)|(refine cN ?_;intro W hL;have hF:=hL.fx;go_wp2;refine ai ?_;(first|(refine bO _ (by rfl) ?_;clear hL hC hG;intro ι F hne hC hFF;have hG:=fun n=>(hFF n).fx;clear hFF)|(refine a_ _ (by repeat' (first|(with_reducible exact List.nil_sublist _)|(with_reducible exact List.Sublist.refl _)|(with_reducible apply List.Sublist.cons_cons)|(with_reducible apply List.Sublist.cons))) ?_;clear hL)))));refine zN ?_;clear hC hG;intro W hL hF))
   exact⟨⟨k+1,by omega,by go_num,hL⟩,by simp[intOf];omega⟩
  ·go_wp2
   refine bodyPost_ret (by simp[results,Tryz.results22,go_sem, *];try rfl) rfl ?_;exact⟨rfl,hL.below0⟩
theorem nu{X:List Nat}{w0 W:World}{L:List (Nat×Obj)}{g:Nat}{l:List Int}(h:Kn X w0 W L)(hm:(g,Obj.cells (l.map (Value.int .i64)).toArray 3 (0,0))∈L):∀(j:Nat) (x:Int),l[j]? =some x->W.cell? ⟨g,0+j,none⟩=some (.int .i64 x):=fun j x hx=>by
 rw[Nat.zero_add,aK h hm,List.getElem?_toArray,List.getElem?_map,hx];rfl
theorem B_(W:World)(hT:TabP W):Calls Tryz.prog 10 #[.string ⟨#[]⟩] W fun e w'=>∃(ao:Option Addr) (cap:Nat),e=.returned (.tuple #[.agg #[.slice ao 1 cap],.int .i64 0,.int .i64 0])/\Hid (PlanRow [] w' (.slice ao 1 cap) (aq Ts.nil).c)/\Below W.heap.size W w':=by
 have hok:(Ts.nil:Ts).ok/\(Ts.nil:Ts).tg:=⟨by simp only[Ts.ok],by simp only[Ts.tg]⟩
 have h:=dJ ⟨#[]⟩ Ts.nil [] B6 rfl hok.1 hok.2 Ai.1 W hT
 have hn:(aq Ts.nil).n=1:=by rfl
 rw[hn]at h
 exact h
theorem B'(W:World)(g:Nat)(v:Value)(hv:PlanRow [] W v (aq Ts.nil).c){X:List Nat}{w0:World}{L:List (Nat×Obj)}(hL:Kn X w0 W L)(hm:(g,Obj.cells #[.int .i64 26] 3 (0,0))∈L):Calls Tryz.prog 22 #[.agg #[v],.slice (some ⟨g,0,none⟩) 1 1] W fun e w'=>e=.returned (.bool true)/\Below W.heap.size W w':=xm (aq Ts.nil).c [26] Ai.2 (by rw[show(aq Ts.nil).c.length=1 by rfl];omega) v g 0 1 W hv (nu (l:=[26]) hL hm)
theorem Ca(W:World)(hT:TabP W):Calls Tryz.prog 10 #[.string ⟨#[97,32,38,38,32,98]⟩] W fun e w'=>∃(ao:Option Addr) (cap:Nat),e=.returned (.tuple #[.agg #[.slice ao 13 cap],.int .i64 0,.int .i64 0])/\Hid (PlanRow [] w' (.slice ao 13 cap) (aq exB).c)/\Below W.heap.size W w':=by
 have hok:(exB:Ts).ok/\(exB:Ts).tg:=Bq
 have h:=dJ ⟨#[97,32,38,38,32,98]⟩ exB exB.nds B7 rfl hok.1 hok.2 sy.1 W hT
 have hn:(aq exB).n=13:=by rfl
 rw[hn]at h
 exact h
theorem Cb(W:World)(g:Nat)(v:Value)(hv:PlanRow [] W v (aq exB).c){X:List Nat}{w0:World}{L:List (Nat×Obj)}(hL:Kn X w0 W L)(hm:(g,Obj.cells #[.int .i64 0,.int .i64 24,.int .i64 6,.int .i64 7,.int .i64 12,.int .i64 25,.int .i64 24,.int .i64 3,.int .i64 6,.int .i64 7,.int .i64 12,.int .i64 25,.int .i64 26] 3 (0,0))∈L):Calls Tryz.prog 22 #[.agg #[v],.slice (some ⟨g,0,none⟩) 13 13] W fun e w'=>e=.returned (.bool true)/\Below W.heap.size W w':=xm (aq exB).c [0,24,6,7,12,25,24,3,6,7,12,25,26] sy.2.1 (by rw[show(aq exB).c.length=13 by rfl];omega) v g 0 13 W hv (nu (l:=[0,24,6,7,12,25,24,3,6,7,12,25,26]) hL hm)
theorem Cc(W:World)(hT:TabP W):Calls Tryz.prog 10 #[.string ⟨#[120,61,36,40,97,41]⟩] W fun e w'=>∃(ao:Option Addr) (cap:Nat),e=.returned (.tuple #[.agg #[.slice ao 12 cap],.int .i64 0,.int .i64 0])/\Hid (PlanRow [] w' (.slice ao 12 cap) (aq exC).c)/\Below W.heap.size W w':=by
 have hok:(exC:Ts).ok/\(exC:Ts).tg:=Br
 have h:=dJ ⟨#[120,61,36,40,97,41]⟩ exC exC.nds B9 rfl hok.1 hok.2 sA.1 W hT
 have hn:(aq exC).n=12:=by rfl
 rw[hn]at h
 exact h
theorem Cd(W:World)(g:Nat)(v:Value)(hv:PlanRow [] W v (aq exC).c){X:List Nat}{w0:World}{L:List (Nat×Obj)}(hL:Kn X w0 W L)(hm:(g,Obj.cells #[.int .i64 0,.int .i64 13,.int .i64 0,.int .i64 6,.int .i64 7,.int .i64 12,.int .i64 25,.int .i64 16,.int .i64 15,.int .i64 8,.int .i64 25,.int .i64 26] 3 (0,0))∈L):Calls Tryz.prog 22 #[.agg #[v],.slice (some ⟨g,0,none⟩) 12 12] W fun e w'=>e=.returned (.bool true)/\Below W.heap.size W w':=xm (aq exC).c [0,13,0,6,7,12,25,16,15,8,25,26] sA.2.1 (by rw[show(aq exC).c.length=12 by rfl];omega) v g 0 12 W hv (nu (l:=[0,13,0,6,7,12,25,16,15,8,25,26]) hL hm)
theorem ed(w:World)(hT:TabP w):Calls Tryz.prog 9 #[] w fun e w'=>e=.returned (.bool true)/\Below w.heap.size w w':=by
 have HT:=yh hT
 clear hT
 have hL:Kn [] w w []:=Kn.refl [] w
 have hF:=hL.fx
 go_enter Tryz.func9,Tryz.ntmps9
 go_upto_region 2 with((go_at_call 10;refine aj ?_;clear hF hL;intro W hL;have hF:=hL.fx;(with_reducible refine(B_ _ (HT.out.ext hL.below0)).mono ?_);rintro e W ⟨aA,cA,rfl,HPA,hb⟩;replace hL:=hL.below hb;clear hb hF;have hF:=hL.fx;obtain⟨W1,rfl⟩:∃W1:World,W1=W:=⟨_,rfl⟩;have HB1:=yh (hL.sub sN);clear hL;have hL:=Kn.refl [] W1;clear hF;have hF:=hL.fx))
 go_upto_region 3 with((go_at_call 10;refine aj ?_;clear hF hL;intro W hL;have hF:=hL.fx;(with_reducible refine(Ca _ ((HT.out.ext HB1.out.below0).ext hL.below0)).mono ?_);rintro e W ⟨aB,cB,rfl,HPB,hb⟩;replace hL:=hL.below hb;clear hb hF;have hF:=hL.fx;obtain⟨W2,rfl⟩:∃W2:World,W2=W:=⟨_,rfl⟩;have HB2:=yh (HB1.out.tail0 (hL.sub sN));have HPA2:=yh (HPA.out.kn (Y:=[]) hL (fun y hy=>absurd hy List.not_mem_nil));have ca:=aK hL m0 0;have la:=hL.lt m0;clear HB1 HPA hL;have HPA:=HPA2;clear HPA2;have hL:=Kn.refl [] W2;clear hF;have hF:=hL.fx))
 go_upto_region 4 with((go_at_call 10;refine aj ?_;clear hF hL;intro W hL;have hF:=hL.fx;(with_reducible refine(Cc _ ((HT.out.ext HB2.out.below0).ext hL.below0)).mono ?_);rintro e W ⟨aC,cC,rfl,HPC,hb⟩;replace hL:=hL.below hb;clear hb hF;have hF:=hL.fx;obtain⟨W3,rfl⟩:∃W3:World,W3=W:=⟨_,rfl⟩;have HB3:=yh (HB2.out.tail0 (hL.sub sN));have HPA2:=yh (HPA.out.kn (Y:=[]) hL (fun y hy=>absurd hy List.not_mem_nil));have HPB2:=yh (HPB.out.kn (Y:=[]) hL (fun y hy=>absurd hy List.not_mem_nil));have cb:=aK hL m0 0;have lb:=hL.lt m0;have ca2:=cW hL ca List.not_mem_nil;have la2:=Nat.lt_of_lt_of_le la hL.size;clear HB2 HPA HPB hL ca la;have HPA:=HPA2;have HPB:=HPB2;clear HPA2 HPB2;have hL:=Kn.refl [] W3;clear hF;have hF:=hL.fx))
 have ca:W3.cell? ⟨W1.heap.size,0,none⟩=some (.slice aA 1 cA):=ca2
 have cb2:W3.cell? ⟨W2.heap.size,0,none⟩=some (.slice aB 13 cB):=cb
 clear ca2 cb
 obtain⟨y7,hy7,ey7⟩:=Option.map_eq_some_iff.1 sy.2.2.1
 obtain⟨gy7,oy7,vy7,hga,gx,gly7,cy70,cy71,cy72,cy73,cy74,hpy7⟩:=HPB.out.at hy7
 (first|subst hga|(injection hga with hga;injection hga with hga hgb;subst hga hgb))
 clear gx
 obtain⟨uy7,hu⟩:∃u:ByteArray,bs y7.s=.string u:=⟨_,rfl⟩
 rw[hu]at cy73
 clear hu
 obtain⟨pay7,pny7,pcy7,hpv⟩:∃a n c,vy7=.slice a n c:=by
  obtain⟨a,c,h,_⟩:=id hpy7;exact⟨a,_,c,h⟩
 subst hpv
 obtain⟨y0,hy0,ey0⟩:=Option.map_eq_some_iff.1 sy.2.2.2
 obtain⟨gy0,oy0,vy0,hga,gx,gly0,cy00,cy01,cy02,cy03,cy04,hpy0⟩:=HPB.out.at hy0
 (first|subst hga|(injection hga with hga;injection hga with hga hgb;subst hga hgb))
 clear gx
 obtain⟨uy0,hu⟩:∃u:ByteArray,bs y0.s=.string u:=⟨_,rfl⟩
 rw[hu]at cy03
 clear hu
 obtain⟨pay0,pny0,pcy0,hpv⟩:∃a n c,vy0=.slice a n c:=by
  obtain⟨a,c,h,_⟩:=id hpy0;exact⟨a,_,c,h⟩
 subst hpv
 obtain⟨z1,hz1,ez1⟩:=Option.map_eq_some_iff.1 sA.2.2.1
 obtain⟨gz1,oz1,vz1,hga,gx,glz1,cz10,cz11,cz12,cz13,cz14,hpz1⟩:=HPC.out.at hz1
 (first|subst hga|(injection hga with hga;injection hga with hga hgb;subst hga hgb))
 clear gx
 obtain⟨uz1,hu⟩:∃u:ByteArray,bs z1.s=.string u:=⟨_,rfl⟩
 rw[hu]at cz13
 clear hu
 obtain⟨paz1,pnz1,pcz1,hpv⟩:∃a n c,vz1=.slice a n c:=by
  obtain⟨a,c,h,_⟩:=id hpz1;exact⟨a,_,c,h⟩
 subst hpv
 obtain⟨z2,hz2,ez2⟩:=Option.map_eq_some_iff.1 sA.2.2.2
 obtain⟨gz2,oz2,vz2,hga,gx,glz2,cz20,cz21,cz22,cz23,cz24,hpz2⟩:=HPC.out.at hz2
 (first|subst hga|(injection hga with hga;injection hga with hga hgb;subst hga hgb))
 clear gx
 obtain⟨uz2,hu⟩:∃u:ByteArray,bs z2.s=.string u:=⟨_,rfl⟩
 rw[hu]at cz23
 clear hu
 obtain⟨paz2,pnz2,pcz2,hpv⟩:∃a n c,vz2=.slice a n c:=by
  obtain⟨a,c,h,_⟩:=id hpz2;exact⟨a,_,c,h⟩
 subst hpv
 injection ez1 with ez1a ez1b
 rw[ey7]at cy71
 rw[ey0]at cy01
 rw[ez1a]at cz11
 rw[ez1b]at cz12
 rw[ez2]at cz21
 clear hy7 hy0 hz1 hz2 hpy7 hpy0 hpz1 hpz2
 go_wp2_with (first|(with_reducible refine zS ?_;intro W hL hF)|((first|(go_at_call 22;refine aj ?_;clear hF hL;intro W hL;have hF:=hL.fx;(with_reducible refine(B' _ _ _ (HPA.out.kn hL (fun y hy=>absurd hy List.not_mem_nil)) hL m0).mono ?_))|(go_at_call 22;refine aj ?_;clear hF hL;intro W hL;have hF:=hL.fx;(with_reducible refine(Cb _ _ _ (HPB.out.kn hL (fun y hy=>absurd hy List.not_mem_nil)) hL m0).mono ?_))|(go_at_call 22;refine aj ?_;clear hF hL;intro W hL;have hF:=hL.fx;(with_reducible refine(Cd _ _ _ (HPC.out.kn hL (fun y hy=>absurd hy List.not_mem_nil)) hL m0).mono ?_)));rintro e W ⟨rfl,hb⟩;replace hL:=hL.below hb;clear hb hF;have hF:=hL.fx))
 refine zF ?_;intro W hL hF
 refine bodyPost_ret (by simp[results,Tryz.results9,go_sem, *];try rfl) rfl ?_
 exact⟨rfl,(HB3.out.tail0 hL).below0⟩
theorem RowY.rowK{k:Nat}{Y:List Nat}{w:World}{v:Value}{xs:List (List Value)}(h:RowY k Y w v xs):RowK k w v xs:=by
 obtain⟨ao,cap,h1,_,h2⟩:=h
 exact⟨ao,cap,h1,fun j cs hj=>by obtain⟨g,o,h3,_,_,h4⟩:=h2 j cs hj;exact⟨g,o,h3,h4⟩⟩
theorem PRow.rowK{Y:List Nat}{w:World}{v:Value}{ps:List Prt}(h:PRow Y w v ps):RowK 3 w v (ps.map ptc):=RowY.rowK h
theorem rh(ps:List Prt)(oz az bz:Int)(u:ByteArray)(pn:Nat)(pa1 pa2:Option Addr)(pc1 pc2:Nat)(hw:ps.length<=100000)(w:World)(h1:PRow [] w (.slice pa1 pn pc1) ps)(h2:PRow [] w (.slice pa2 pn pc2) ps):Calls Tryz.prog 23 #[.agg #[.int .i64 oz,.int .i64 az,.int .i64 bz,.string u,.slice pa1 pn pc1],.agg #[.int .i64 oz,.int .i64 az,.int .i64 bz,.string u,.slice pa2 pn pc2]] w fun e w'=>e=.returned (.bool true)/\Below w.heap.size w w':=by
 have H1:=yh h1
 have H2:=yh h2
 have HW:=yh hw
 have e1:(oz==oz)=true:=beq_self_eq_true oz
 have e2:(az==az)=true:=beq_self_eq_true az
 have e3:(bz==bz)=true:=beq_self_eq_true bz
 clear h1 h2 hw
 have hL:Kn [] w w []:=Kn.refl [] w;have hF:=hL.fx;go_enter Tryz.func23,Tryz.ntmps23
 go_wp2_with (first|(with_reducible refine zS ?_;intro W hL hF)|(go_at_call 34;refine aj ?_;clear hF hL;intro W hL;have hF:=hL.fx;(with_reducible refine(B0 _ _ ps HW.out _ (H1.out.at_ hL).rowK (H2.out.at_ hL).rowK).mono ?_);rintro e W ⟨rfl,hb⟩;replace hL:=hL.below hb;clear hb hF;have hF:=hL.fx))
 refine zF ?_;intro W hL hF
 refine bodyPost_ret (by simp[results,Tryz.results23,go_sem, *];try rfl) rfl ?_
 exact⟨rfl,hL.below0⟩
theorem ud(C:List Ins)(hlen:C.length<=900000)(hw:∀x∈C,x.w.length<=100000)(v1 v2:Value)(w:World)(h1:PlanRow [] w v1 C)(h2:PlanRow [] w v2 C):Calls Tryz.prog 12 #[.agg #[v1],.agg #[v2]] w fun e w'=>e=.returned (.bool true)/\Below w.heap.size w w':=by
 obtain⟨av,cv,rfl⟩:=h1.len
 obtain⟨av2,cv2,rfl⟩:=h2.len
 obtain⟨nv,hnv⟩:∃m,C.length=m:=⟨_,rfl⟩
 rw[hnv]at h1 h2 hlen |-
 have HNV:=yh hnv
 have H1:=yh h1
 have H2:=yh h2
 have HW:=yh hw
 clear h1 h2 hnv hw
 have hL:Kn [] w w []:=Kn.refl [] w;have hF:=hL.fx;go_enter Tryz.func12,Tryz.ntmps12
 go_wp2
 go_loopw [5] (fun i wr=>∃k:Nat,k<=nv/\i=.int .i64 k/\Kn [] w wr [(w.heap.size+1,.cells #[.slice av2 nv cv2] 25 (0,0)),(w.heap.size,.cells #[.slice av nv cv] 25 (0,0))]) (fun i _=>nv-(intOf i).toNat)
 case atStart=>exact⟨0,Nat.zero_le _,rfl,aV⟩
 case round=>
  obtain⟨k,hk,rfl,hK⟩:=hrel;clear hL hF;have hL:=hK;clear hK;have hF:=hL.fx;by_cases hlt:k<nv
  ·obtain⟨x,hx⟩:∃x,C[k]? =some x:=⟨_,List.getElem?_eq_getElem (by rw[HNV.out];exact hlt)⟩
   have HXW:=yh (HW.out x (List.mem_of_getElem? hx));obtain⟨u,hu⟩:∃u:ByteArray,bs x.s=.string u:=⟨_,rfl⟩;obtain⟨g1,o1,w1,hga,_,gl1,c10,c11,c12,c13,c14,hp1⟩:=H1.out.at hx;subst hga;obtain⟨g2,o2,w2,hga,_,gl2,c20,c21,c22,c23,c24,hp2⟩:=H2.out.at hx;subst hga;rw[hu]at c13 c23;obtain⟨pa1,pc1,hpv⟩:∃a c,w1=.slice a x.w.length c:=by
    obtain⟨a,c,h,_⟩:=id hp1;rw[List.length_map]at h;exact⟨a,c,h⟩
   subst hpv;obtain⟨pa2,pc2,hpv⟩:∃a c,w2=.slice a x.w.length c:=by
    obtain⟨a,c,h,_⟩:=id hp2;rw[List.length_map]at h;exact⟨a,c,h⟩
   subst hpv;have HP1:=yh hp1;have HP2:=yh hp2;clear hx hp1 hp2 hu;go_wp2_with (first|(with_reducible refine zS ?_;intro W hL hF)|((with_reducible refine af 6 ?_);refine zX [0,1,2,3,4,5,6,7,8,9,10,11] [10] ?_ sR;clear hF hL;intro ι F hne hC hG;(repeat(first|(refine cS ?_)|((first|refine cF hC ?_|refine cP ?_);intro K hK;go_big_quiet_op;go_big_quiet_on)|(refine cC ?_;intro W hL;have hF:=hL.fx;simp only[zA,Act.eval];go_at_call 23;(with_reducible refine(rh x.w _ _ _ _ _ _ _ _ _ HXW.out _ (HP1.out.at_ hL) (HP2.out.at_ hL)).mono ?_);rintro e W ⟨rfl,hb⟩;replace hL:=hL.below hb;clear hb hF;have hF:=hL.fx;refine bM ?_;(first|(refine bO _ (by rfl) ?_;clear hL hF hC hG;intro ι F hne hC hFF;have hG:=fun n=>(hFF n).fx;clear hFF)|(refine a_ _ (by repeat' (first|(with_reducible exact List.nil_sublist _)|(with_reducible exact List.Sublist.refl _)|(with_reducible apply List.Sublist.cons_cons)|(with_reducible apply List.Sublist.cons))) ?_;clear hL));simp only[Act.put,zT])|(refine cN ?_;intro W hL;have hF:=hL.fx;go_wp2;refine ai ?_;(first|(refine bO _ (by rfl) ?_;clear hL hC hG;intro ι F hne hC hFF;have hG:=fun n=>(hFF n).fx;clear hFF)|(refine a_ _ (by repeat' (first|(with_reducible exact List.nil_sublist _)|(with_reducible exact List.Sublist.refl _)|(with_reducible apply List.Sublist.cons_cons)|(with_reducible apply List.Sublist.cons))) ?_;clear hL)))));refine zN ?_;clear hC hG;intro W hL hF))
   exact⟨⟨k+1,by omega,by go_num,hL⟩,by simp[intOf];omega⟩
  ·go_wp2
   refine bodyPost_ret (by simp[results,Tryz.results12,go_sem, *];try rfl) rfl ?_;exact⟨rfl,hL.below0⟩
theorem zR{b:Ts}(he:(aq b).e=0){x:Ins}(hx:x∈(aq b).c)(hp:fB x.op=true):∃j:Nat,x.a=(j:Int)/\j<(aq b).c.length:=by
 obtain⟨_,h1,_⟩:=dE he
 rw[h1]at hx |-
 obtain⟨ls,a1,a2,a3,a4⟩:=Bh b (Nat.le_refl _)
 obtain⟨k,hk,e⟩:=List.getElem_of_mem hx
 have hk2:(b.cl 0 0++[({op:=26}:Ins)])[k]? =some x:=by grind
 have hls:∀(j:Nat) u,ls[j]? =some u->j<(b.cl 0 0++[({op:=26}:Ins)]).length:=fun j u h=>by grind
 obtain⟨t,ht⟩:∃t,ls[k]? =some t:=⟨_,List.getElem?_eq_getElem (by omega)⟩
 rcases a4 k x t hk2 ht with⟨h,_⟩|⟨nx,nm,hs,_,hm,hd⟩
 ·rw[h]at hp;cases hp
 ·have key:∀u,nm=some u->∃j:Nat,x.a=(j:Int)/\j<(b.cl 0 0++[({op:=26}:Ins)]).length:=fun u hu=>by
   grind
  have no:∀l:List Nat,x.op∈l->(∀o∈l,fB o=false)->False:=fun l h h2=>by grind
  cases hs with
  |plain s x h=>
   by_cases h22:x.op=22
   ·grind
   ·exact absurd (no [0,4,5,8,14,15,25] (by grind) (by decide)) id
  |jump s x h=>grind
  |cond s x h=>grind
  |exit s x h=>exact absurd (no [16] (by simp[h]) (by decide)) id
  |ret x h=>exact absurd (no [23] (by simp[h]) (by decide)) id
  |push s x k h=>exact absurd (no [6,9,19] (by grind) (by decide)) id
  |pop s x k h=>exact absurd (no [12,11,21] (by grind) (by decide)) id
  |top s x k h=>exact absurd (no [7,10] (by grind) (by decide)) id
  |mtch s x h=>grind
  |for_ s x h=>exact absurd (no [17] (by simp[h]) (by decide)) id
  |next s x h=>grind
  |up s x h=>grind
  |dn s x h=>exact absurd (no [24] (by grind) (by decide)) id
theorem jF:∀(C:List Ins) (k:Nat),itm (C.take k)<=itm C
 | [],k=>by simp
 |x::C,0=>Nat.zero_le _
 |x::C,k+1=>by
  simp_all[jF,aF]
theorem ri:∀(C:List Ins) (k:Nat) (x:Ins),C[k]? =some x->aD x=true->itm (C.take k)<itm C
 | [],k,x,h,_=>by simp at h
 |y::C,0,x,h,hi=>by
  obtain rfl:y=x:=by grind
  rw[List.take_zero,aF,hi,if_pos rfl];exact Nat.succ_pos _
 |y::C,k+1,x,h,hi=>by
  simp_all[ri,aF]
theorem hH:∀{C:List Ins} {k:Nat} {x:Ins},C[k]? =some x->itm (C.take (k+1))=itm (C.take k)+if aD x then 1 else 0
 | [],k,x,h=>by simp at h
 |y::C,0,x,h=>by
  grind[aF,bZ]
 |y::C,k+1,x,h=>by
  rw[List.take_succ_cons,List.take_succ_cons,aF,aF,hH (show C[k]? =some x by grind)];omega
theorem iv{b:Ts}(he:(aq b).e=0):lD 0 (aq b).c/\itm (aq b).c=itm (b.cl 0 0)/\itm (b.cl 0 0)<=500:=by
 obtain⟨_,h1,h2⟩:=dE he
 rw[h1]
 refine⟨lo _ _ _ ((Ts.nm b).1 0 0).1 ⟨fun h=>(by cases h),trivial⟩,by rw[bd];rfl,h2⟩
theorem ue{b:Ts}(he:(aq b).e=0){x:Ins}(hx:x∈(aq b).c)(hi:x.op=0):(∃k:Nat,x.a=(k:Int)/\k<=500)/\∃k:Nat,x.b=(k:Int)/\k<=500:=by
 obtain⟨hn,h3,h4⟩:=iv he
 obtain⟨_,h1,h2⟩:=dE he
 have hi2:aD x=true:=by simp[aD,hi]
 obtain⟨k,hk,e⟩:=List.getElem_of_mem hx
 have hk2:(aq b).c[k]? =some x:=by grind
 have h5:=jW _ 0 k x hn hk2 hi2
 have h6:=ri _ k x hk2 hi2
 refine⟨⟨_,h5,by omega⟩,?_⟩
 rw[h1]at hx
 rcases List.mem_append.1 hx with hx|hx
 ·rcases((Ts.nm b).1 0 0).2 x hx hi2 with h|⟨h7,h8⟩
  ·grind
  ·exact⟨x.b.toNat,by omega,by omega⟩
 grind
theorem lw{s:ab}{l:List Nd}{ts:Ts}(hp:ax s=.ok l)(hl:ts.nds=l)(hok:ts.ok):(aq ts).n<=320010:=by
 have h1:=dv hp
 have h2:=gR h1 hp
 have h3:=Tr.len (.lst ts) (by grind[Tr.ok]) ⟨[],0,0⟩
 grind[Tr.nd,dD,aq,PS.n,cd]
theorem lx{b:Ts}(he:(aq b).e=0):(b.nil? =true↔(aq b).c.length=1):=by
 obtain⟨_,h1,_⟩:=dE he
 rw[h1,List.length_append,List.length_singleton]
 cases b with
 |nil=>simp[Ts.nil?,Ts.cl,K.nil]
 |cons x r=>
  have:=wO (.cons x r) rfl 0 0;have h2:0<((Ts.cons x r).cl 0 0).length:=by
   rcases Nat.eq_zero_or_pos ((Ts.cons x r).cl 0 0).length with h|h
   ·rw[List.eq_nil_of_length_eq_zero h]at this;cases this
   ·exact h
  simp only[Ts.nil?,Bool.false_eq_true,false_iff];omega
theorem iQ(dp di:Nat)(x:Ins):Ins.up dp di x=if x.op=0 then {x with a:=x.a+di,b:=if x.b=0 then 0 else x.b+di}else if fB x.op then {x with a:=x.a+dp}else x:=rfl
theorem zU{a:Ts}(he:(aq a).e=0){k:Nat}{y:Nat×Nat}(h:(a.hd 0 0)[k]? =some y):∃x:Ins,(aq a).c[y.1]? =some x/\x.op=0/\x.a=(y.2:Int)/\y.1<(a.cl 0 0).length/\0<y.2/\(∀(i:Nat) (z:Ins),i<y.1->(aq a).c[i]? =some z->¬(z.op=0/\z.a=(y.2:Int)))/\x.b=(match(a.hd 0 0)[k+1]? with|some z=>((z.2:Nat):Int)|none=>0):=by
 obtain⟨hn,_⟩:=iv he
 obtain⟨_,h1,_⟩:=dE he
 obtain⟨x,h2,h3,h4,h5⟩:=lq a h
 rw[<- h1]at h2
 have h6:x.op=0:=by grind[aD]
 have h7:=sl a 0 0 y (List.mem_of_getElem? h)
 grind[t6,aD]
theorem uf{a:Ts}(h:a.nil? =false):∃y,(a.hd 0 0)[0]? =some y/\y.2=1:=by
 cases a with
 |nil=>cases h
 |cons x r=>grind[t7]
theorem ug{a:Ts}{k:Nat}{y:Nat×Nat}(h:(a.hd 0 0)[k]? =some y)(hn:(a.hd 0 0)[k+1]? =none):a.clm true 0 0=(a.cl 0 0).modify y.1 (·.setB (itm (a.cl 0 0)+1:Nat)):=by
 have h1:(a.hd 0 0).getLast? =some y:=by
  grind
 simp_all[pG]
theorem pQ{a:Ts}(h:a.nil? =true):itm (a.cl 0 0)=0:=by
 cases a with
 |nil=>rfl
 |cons x r=>cases h
theorem uh{a:Ts}{j:Nat}{x:Ins}(hj:j<(a.cl 0 0).length)(hx:(a.cl 0 0++[({op:=26}:Ins)])[j]? =some x)(h0:x.op=0):x.b=0\/(x.a<x.b/\x.b<=((itm (a.cl 0 0):Nat):Int)):=by
 rw[List.getElem?_append_left hj]at hx
 have:=((Ts.nm a).1 0 0).2 x (List.mem_of_getElem? hx) (by simp[aD,h0])
 omega
theorem Kn.swap2{X:List Nat}{w0 W:World}{p0 p1:Nat×Obj}(h:Kn X w0 W [p1,p0]):Kn X w0 W ([p0]++[p1]):=h.perm fun p=>by simp only[List.countP_cons,List.countP_append,List.countP_nil];omega
theorem xn{e:TypeId}{g k:Nat}:RowL k e [(g,.cells #[] e (0,0))] (.slice (some ⟨g,0,none⟩) 0 0) 0 []:=.inr ⟨g,0,#[],rfl,rfl,⟨by simp,Nat.le_refl _,Nat.zero_le _,by simp,by simp⟩⟩
theorem pR:∀(l:List (Ins×Value)) (j:Nat) (u:Value),(l.flatMap cJ)[j]? =some u->∃(k c:Nat) (x:Ins×Value),j=k*5+c/\l[k]? =some x/\(cJ x)[c]? =some u
 | [],j,u,h=>by simp at h
 |y::l,j,u,h=>by
  rw[List.flatMap_cons]at h;by_cases hj:j<5
  ·rw[List.getElem?_append_left (by rw[dC];exact hj)]at h
   exact⟨0,j,y,by omega,rfl,h⟩
  ·rw[List.getElem?_append_right (by rw[dC];omega),dC]at h
   obtain⟨k,c,x,h1,h2,h3⟩:=pR l (j-5) u h;exact⟨k+1,c,x,by omega,h2,h3⟩
theorem PlanRow.src{W:World}{v:Value}{C:List Ins}(h:PlanRow [] W v C){m:Nat}(hm:m<=C.length):∃cv:List (Ins×Value),cv.map (·.1)=C.take m/\(∀x∈cv,PRow [] W x.2 x.1.w)/\(cv.flatMap cJ).length=m*5/\(∀(g o n c:Nat),v=.slice (some ⟨g,o,none⟩) n c->∀(j:Nat) u,(cv.flatMap cJ)[j]? =some u->W.cell? ⟨g,o+j,none⟩=some u)/\∀u∈cv.flatMap cJ,u.oneCell'=true:=by
 obtain⟨cv,rfl,h2,h3⟩:=h
 rw[List.length_map]at hm
 refine⟨cv.take m,by rw[List.map_take],fun x hx=>h3 x (List.mem_of_mem_take hx),by rw[eQ,List.length_take,Nat.min_eq_left hm],fun g o n c hv j u hu=>?_,fun u hu=>?_⟩
 ·subst hv
  obtain⟨k,c9,x,rfl,h5,h6⟩:=pR _ _ _ hu;have h7:cv[k]? =some x:=by
   have hk:=(List.getElem?_eq_some_iff.1 h5).1;rw[List.getElem?_take]at h5;split at h5
   ·exact h5
   ·cases h5
  obtain⟨g2,o2,h8,_,_,h9⟩:=fo h2 (j:=k) (cs:=cJ x) (by rw[List.getElem?_map,h7];rfl);injection h8 with h8
  injection h8 with h8 h10
  subst h8 h10;rw[<- Nat.add_assoc];exact h9 c9 u h6
 ·obtain⟨x,hx,hu⟩:=List.mem_flatMap.1 hu
  obtain⟨a,c,hv,_⟩:=h3 x (List.mem_of_mem_take hx);simp only[cJ,List.mem_cons,List.not_mem_nil,or_false]at hu;rcases hu with rfl|rfl|rfl|rfl|rfl
  ·rfl
  ·rfl
  ·rfl
  ·rfl
  ·rw[hv];rfl
end Go.Proofs.YtgboffbbpmileaaGreatDoor
