/- Lemmas and walks for the law VLawPJoins (part 17). -/
import Derived.Test.YtgboffbbpmileaaGreatDoorPy16
import Derived.Test.YtgboffbbpmileaaGreatDoorProg
import Derived.WalkKit
import Derived.Handy
import Derived.Deep.Light
import Derived.WalkSmall
import Derived.StillTailTactics
import Derived.Lib.Hide
import Derived.Laws.EntriesVeiled
set_option maxRecDepth 20000
set_option maxHeartbeats 4000000
set_option linter.unusedVariables false
set_option linter.unusedSimpArgs false
namespace Go.Proofs.YtgboffbbpmileaaGreatDoor
open Go Go.RowKit
def WsRow(Y:List Nat)(w:World)(v:Value)(l:List (List Prt)):Prop:=∃ws:List (List Prt×Value),ws.map (·.1)=l/\RowY 1 Y w v (ws.map fun x=>[x.2])/\∀x∈ws,PRow Y w x.2 x.1
theorem WsRow.mk2{X:List Nat}{w0 W:World}{b:Nat}{o:Obj}{LP:List (Nat×Obj)}{v:Value}{l:List (List Prt)}(h:WsRow X w0 v l)(k:Kn X w0 W ((b,o)::LP)):WsRow (b::keys LP) W v l:=by
 obtain⟨ws,h1,h2,h3⟩:=h
 exact⟨ws,h1,h2.kn k k.own2,fun x hx=>(h3 x hx).mk2 k⟩
theorem WsRow.at{Y:List Nat}{w:World}{a:Option Addr}{n cap:Nat}{l:List (List Prt)}(h:WsRow Y w (.slice a n cap) l){j:Nat}{ps:List Prt}(hj:l[j]? =some ps):∃g o v,a=some ⟨g,o,none⟩/\g∉Y/\g<w.heap.size/\w.cell? ⟨g,o+j,none⟩=some v/\PRow Y w v ps:=by
 obtain⟨ws,rfl,h2,h3⟩:=h
 rw[List.getElem?_map]at hj
 obtain⟨x,hx,rfl⟩:=Option.map_eq_some_iff.1 hj
 obtain⟨g,o,h4,h5,h6,h7⟩:=fo h2 (j:=j) (cs:=[x.2]) (by rw[List.getElem?_map,hx];rfl)
 have h8:=h7 0 _ rfl
 rw[Nat.mul_one,Nat.add_zero]at h8
 exact⟨g,o,x.2,h4,h5,h6,h8,h3 x (List.mem_of_getElem? hx)⟩
theorem WsRow.len{Y:List Nat}{w:World}{v:Value}{l:List (List Prt)}(h:WsRow Y w v l):∃a cap,v=.slice a l.length cap:=by
 obtain⟨ws,rfl,⟨a,c,h2,_⟩,h3⟩:=h
 rw[List.length_map]at h2
 exact⟨a,c,by rw[h2,List.length_map]⟩
def mg(W0:World)(w9:Wd):Prop:=MkW W0 w9/\∀s,(w9.g s).n<=s.n+cwt w9.ps/\s.n<=(w9.g s).n
def Ws.allw(P:Wd->Prop):Ws->Prop
 |.nil=>True
 |.cons _ w r=>P w/\r.allw P
def xe(W0:World)(w9:Ws):Prop:=∀ ⦃LZ:List (Nat×Obj)⦄ (b:Nat) (s:PS) (ao:Option Addr) (cap:Nat) (LP:List (Nat×Obj)) (w:World) (v:Value),s.n+w9.b+1<=900000->Kn (b::keys LP) w w ((b,.cells #[.slice ao s.n cap,.int .i64 (s.i:Int),.int .i64 (s.e:Int)] 81 (0,0))::LP)->MkQ W0 LZ w b s (.slice ao s.n cap) LP->WsRow (b::keys LP) w v w9.ws->Calls Tryz.prog 93 #[.pointer (some ⟨b,0,none⟩),v] w (fun e w'=>∃(a2:Option Addr) (c2:Nat) (LP2:List (Nat×Obj)),e=.returned (.tuple #[])/\Kn (b::keys LP) w w' ((b,.cells #[.slice a2 (w9.g 7 (s.op 6 0)).n c2,.int .i64 ((w9.g 7 (s.op 6 0)).i:Int),.int .i64 ((w9.g 7 (s.op 6 0)).e:Int)] 81 (0,0))::LP2)/\Hid (MkQ W0 LZ w' b ((w9.g 7 (s.op 6 0))) (.slice a2 (w9.g 7 (s.op 6 0)).n c2) LP2))
theorem pI{W0:World}(w9:Ws)(hall:w9.allw (mg W0))(htw:w9.tw)(hsz:w9.ws.length<=100000):xe W0 w9:=by
 intro LZ b s ao cap LP w v hm hL0 hM hv
 obtain⟨av,cv9,rfl⟩:=hv.len
 obtain⟨n9,hn9⟩:∃n,w9.ws.length=n:=⟨_,rfl⟩
 rw[hn9]at hv hsz |-
 have HM:=yh hM
 have HWB:=yh hL0
 have HW:=yh hv
 have HM9:=yh hm
 have HN9:=yh hn9
 have HOK:=yh (⟨hall,htw,rfl⟩:w9.allw (mg W0)/\w9.tw/\w9.ws=w9.ws.drop 0)
 have hL:=hL0
 clear hL0 hM hv hm hall htw hn9
 obtain⟨X9,hX9⟩:∃X,b::keys LP=X:=⟨_,rfl⟩
 rw[hX9]at HWB |-
 clear hX9
 have hF:=hL.fx
 go_enter Tryz.func93,Tryz.ntmps93
 go_wp2_with (first|(with_reducible refine zS ?_;intro W hL hF)|(go_at_call 66;(with_reducible refine zK [] HWB.out HM.out (fun W hL hS hN=>bW 6 0 6 rfl W0 b _ ao cap LP _ (by have h0:=HM9.out;omega) hS hN) ?_);clear hF hL HWB HM;intro W ao cap LP HWB HM hJ hL hF;replace HW:=yh (HW.out.mk2 hJ);clear hJ))
 go_loopw [10] (fun z wr=>∃(k:Nat) (r:Ws) (s2:PS) (ao:Option Addr) (cap:Nat) (LP:List (Nat×Obj)),z=.int .i64 k/\k<=n9/\Hid (r.allw (mg W0)/\r.tw/\r.ws=w9.ws.drop k/\w9.g 7 (s.op 6 0)=r.g 7 s2)/\Hid (s2.n+r.b<=s.n+1+w9.b)/\Kn X9 w wr ((b,.cells #[.slice ao s2.n cap,.int .i64 (s2.i:Int),.int .i64 (s2.e:Int)] 81 (0,0))::LP)/\Hid (MkQ W0 LZ wr b s2 (.slice ao s2.n cap) LP)/\Hid (WsRow (b::keys LP) wr (.slice av n9 cv9) w9.ws)) (fun z _=>n9-(intOf z).toNat)
 case atStart=>exact⟨0,w9,(s.op 6 0),ao,cap,LP,rfl,Nat.zero_le _,yh ⟨HOK.out.1,HOK.out.2.1,HOK.out.2.2,rfl⟩,yh (by rw[cd];omega),HWB.out,HM,HW⟩
 case round=>
  clear HWB HM HW HOK;obtain⟨k,r,s2,ao,cap,LP,rfl,hk,HR,HB9,hWB,HM,HW⟩:=hrel;have HWB:=yh hWB;clear hL hF hWB;have hL:=Kn.self0q HWB.out;have hF:=hL.fx
  cases r with
  |nil=>
   have hkn:k=n9:=by
    have h:=congrArg List.length HR.out.2.2.1;rw[List.length_drop,HN9.out]at h;simp only[Ws.ws,List.length_nil]at h;omega
   subst hkn;have he:w9.g 7 (s.op 6 0)=s2:=by rw[HR.out.2.2.2];simp only[Ws.g]
   go_wp2;refine bodyPost_end (by simp[results,Tryz.results93,go_sem, *];try rfl) rfl ?_;rw[he];exact⟨ao,cap,LP,rfl,HWB.out,HM⟩
  |cons g x r=>
   obtain⟨HD1,HD2,HD3⟩:=bF HR.out.2.2.1.symm;have HD:Hid (w9.ws.drop (k+1)=r.ws):=yh HD2;have hkn:k<n9:=by rw[<- HN9.out];exact HD3
   obtain⟨q,o,pv,hga,gx,gl,c0,hpw⟩:=HW.out.at HD1;clear HD1 HD2 HD3;subst hga;simp only[List.mem_cons,not_or]at gx;have HPV:=yh hpw;obtain⟨pa,pn,pc,hpv⟩:∃a n c,pv=.slice a n c:=by
    obtain⟨a,c,h,_⟩:=id hpw;exact⟨a,_,c,h⟩
   have HX0:Hid (mg W0 x):=yh (by have h:=HR.out.1;simp only[Ws.allw]at h;exact h.1);have HX1:=yh HX0.out.1;unfold MkW at HX1;have HX2:=yh HX0.out.2;have hgt:g={}:=by have h:=HR.out.2.1;simp only[Ws.tw]at h;exact h.1
   subst hgt;have HCW:Hid (s2.n+(1+cwt x.ps+r.b)<=s.n+1+w9.b):=HB9;clear hpw;subst hpv;go_wp2_with (first|(with_reducible refine zS ?_;intro W hL hF)|((first|(go_at_call 67;(with_reducible refine zK [] HWB.out HM.out (fun W hL hS hN=>HX1.out b _ ao cap LP _ _ (by have h0:=HM9.out;have h1:=HCW.out;omega) hS hN (HPV.out.at_ hL)) ?_);clear hF hL HWB HM;intro W ao cap LP HWB HM hJ hL hF;replace HW:=yh (HW.out.mk2 hJ);replace HPV:=cy HPV hJ)|(go_at_call 30;(with_reducible refine zK [] HWB.out HM.out (fun W hL hS hN=>gk W0 b _ ao cap LP _ {op:=7,w:=x.ps} 7 0 0 ⟨#[]⟩ _ rfl rfl rfl rfl (HPV.out.at_ hL) (by have h0:=HM9.out;have h1:=HCW.out;have h2:=HX2.out s2;omega) hS hN.w) ?_);clear hF hL HWB HM;intro W ao cap LP HWB HM hJ hL hF;replace HW:=yh (HW.out.mk2 hJ)));clear hJ))
   refine⟨⟨k+1,r,(x.g s2).add {op:=7,w:=x.ps},ao,cap,LP,by go_num,by omega,yh ?_,yh ?_,HWB.out,HM,HW⟩,by simp[intOf];omega⟩
   ·have h:=HR.out
    simp only[Ws.allw,Ws.tw,Ws.g]at h;exact⟨h.1.2,h.2.1.2,HD.out.symm,h.2.2.2⟩
   ·have h:=HCW.out
    have h2:=HX2.out s2;rw[bt];omega
theorem gG:∀(w:Wd),w.ok->(w.plain=true↔∀p∈w.ps,p.k≠2)
 |.nil,_=>by simp[Wd.plain,Wd.ps]
 |.lit p r,h=>by
  simp only[Wd.ok]at h;have:=gG r h.2;simp only[Wd.plain,Wd.ps,Bool.and_eq_true,bne_iff_ne,ne_eq,List.mem_cons,forall_eq_or_imp,this]
 |.sub p t r,h=>by
  simp only[Wd.ok]at h;simp[Wd.plain,Wd.ps,h.1]
 |.bad p f r,h=>by
  simp only[Wd.ok]at h;simp[Wd.plain,Wd.ps,h.1]
theorem jZ(ps:List Prt)(z:Bool)(hz:(z=true↔∀p∈ps,p.k≠2))(Y:List Nat)(v:Value)(hsz:ps.length<=100000)(w:World)(hv:PRow Y w v ps):Calls Tryz.prog 94 #[v] w fun e w'=>e=.returned (.bool z)/\Below w.heap.size w w':=by
 obtain⟨av,nv,cv,rfl⟩:∃a n c,v=.slice a n c:=by
  obtain⟨a,c,h,_⟩:=id hv;exact⟨a,_,c,h⟩
 have hn:nv=ps.length:=by
  obtain⟨a,c,h,_⟩:=id hv;injection h with _ h _
  rw[h,List.length_map]
 have HV:=yh hv
 have HZ:=yh hz
 have HN9:=yh hn
 rw[<- hn]at hsz
 clear hv hz hn
 have hL:Kn [] w w []:=Kn.refl [] w;have hF:=hL.fx;go_enter Tryz.func94,Tryz.ntmps94
 go_wp2
 go_loopw [7] (fun i wr=>∃k:Nat,k<=nv/\i=.int .i64 k/\Hid (∀j p,j<k->ps[j]? =some p->p.k≠2)/\Kn [] w wr []) (fun i _=>nv-(intOf i).toNat)
 case atStart=>exact⟨0,by omega,rfl,yh (fun j p hj=>absurd hj (Nat.not_lt_zero j)),hL⟩
 case round=>
  obtain⟨k,hk,rfl,HR,hK⟩:=hrel;clear hL hF;have hL:=hK;clear hK;have hF:=hL.fx;by_cases hlt:k<nv
  ·obtain⟨p,hp⟩:∃p,ps[k]? =some p:=⟨_,List.getElem?_eq_getElem (by rw[<- HN9.out];exact hlt)⟩
   obtain⟨g,o,hga,gx,gl,c0,c1,c2⟩:=jY HV.out hp;subst hga;obtain⟨u,hu⟩:∃u:ByteArray,bs p.t=.string u:=⟨_,rfl⟩;rw[hu]at c1;have HP:=yh hp;clear hp hu gx;by_cases h2:p.k=2
   ·have h3:((p.k:Int)==2)=true:=by rw[beq_iff_eq];omega
    have hzf:z=false:=by
     cases z with
     |false=>rfl
     |true=>exact absurd h2 (HZ.out.1 rfl p (List.mem_of_getElem? HP.out))
    subst hzf;go_wp2;refine zF ?_;intro W hL hF;refine bodyPost_ret (by simp[results,Tryz.results94,go_sem, *];try rfl) rfl ?_;exact⟨rfl,hL.below0⟩
   ·have h3:((p.k:Int)==2)=false:=by rw[beq_eq_false_iff_ne];omega
    have HR2:Hid (∀j p,j<k+1->ps[j]? =some p->p.k≠2):=yh (by
     intro j q hj hq;by_cases e:j=k
     ·subst e
      rw[HP.out]at hq;obtain rfl:=Option.some.inj hq;exact h2
     ·exact HR.out j q (by omega) hq)
    clear h2;go_wp2;exact⟨⟨k+1,by omega,by go_num,HR2,aV.sub (by repeat' (first|exact List.Sublist.refl _|apply List.Sublist.cons))⟩,by simp[intOf];omega⟩
  ·have hzt:z=true:=HZ.out.2 (fun p hp=>by
    obtain⟨j,hj,e⟩:=List.getElem_of_mem hp;exact HR.out j p (by have:=HN9.out;omega) (by rw[List.getElem?_eq_getElem hj,e]))
   subst hzt;go_wp2;refine zF ?_;intro W hL hF;refine bodyPost_ret (by simp[results,Tryz.results94,go_sem, *];try rfl) rfl ?_;exact⟨rfl,hL.below0⟩
theorem Bk {W0 : World} {c t : Tr} {r : Ws} (hqc : MkF W0 90 c.nd (c.nd.co + 1) (fun s => (c.g (s.op 24 1)).op 24 (-1))) (ht : MkF W0 29 t.nd t.nd.co t.g) (hlc : ∀ s, (c.g s).n + 2 <= s.n + c.nd.co /\ s.n <= (c.g s).n) (hlt : ∀ s, (t.g s).n + 2 <= s.n + t.nd.co /\ s.n <= (t.g s).n) : MkF W0 61 (Tr.iff c t r).nd (c.nd.co + t.nd.co + 7) (fun s => ((((t.g (((c.g (s.op 24 1)).op 24 (-1)).op 3 0)).op 1 0).here ((c.g (s.op 24 1)).op 24 (-1)).n).op 5 0).here (t.g (((c.g (s.op 24 1)).op 24 (-1)).op 3 0)).n) := by
 refine MkF.mk ?_
 intro LZ b s ao cap LP w X9 kz nm ng na nw nr nk aa ca aw cw9 ar cr ak ck hm HKZ HNM HNG HNA HNW HNR HNK HN HM HWB hL
 have hF := hL.fx
 go_enter Tryz.func61, Tryz.ntmps61
 obtain rfl : nk = 2 := HNK.out.symm
 go_upto_region 1 with (fail)
 (with_reducible refine zT1 HWB.out HM.out ?_); clear hF; clear hL HM HWB; intro W HB HM HWB hJ hL hF; replace HN := cy HN hJ; clear hJ
 have n0 := HB.out.c7; obtain ⟨g0, o0, d00, d01, d02, d03, d04, d05, d06, ke0, kx0, kl0, ki0, HKN0, HD0, k00, k01, k02, k03, k04, k05, k06⟩ := bC HN.out (i := 0) (y := c.nd) (by simp only [Tr.nd]; rfl); (first | subst ke0 | (injection ke0 with ke0; injection ke0 with kf0 kg0; subst kf0 kg0)); simp only [Nat.zero_mul, Nat.one_mul, Nat.add_zero] at k00; obtain ⟨g1, o1, d10, d11, d12, d13, d14, d15, d16, ke1, kx1, kl1, ki1, HKN1, HD1, k10, k11, k12, k13, k14, k15, k16⟩ := bC HN.out (i := 1) (y := t.nd) (by simp only [Tr.nd]; rfl); (first | subst ke1 | (injection ke1 with ke1; injection ke1 with kf1 kg1; subst kf1 kg1)); simp only [Nat.zero_mul, Nat.one_mul, Nat.add_zero] at k10
 unfold MkF at hqc; have HQC := yh hqc; clear hqc; unfold MkF at ht; have HT := yh ht; clear ht
 have HM9 := yh hm
 have HLc := yh hlc; clear hlc; have HLt := yh hlt; clear hlt
 clear hm
 have HZ := yh (And.intro (HM9.out) (And.intro (HLc.out (s.op 24 1)) (HLt.out (((c.g (s.op 24 1)).op 24 (-1)).op 3 0)))); clear HM9
 go_wp2_with (first | (with_reducible refine zS ?_; intro W hL hF) | ((first | ((first | (go_at_call 90; (with_reducible refine zK [] HWB.out HM.out (fun W hL hS hN => HQC.out b _ ao cap LP _ _ (by have h := HZ.out; simp only [nO] at *; omega) hS hN (HD0.out.at_ hL)) ?_)) | (go_at_call 29; (with_reducible refine zK [] HWB.out HM.out (fun W hL hS hN => HT.out b _ ao cap LP _ _ (by have h := HZ.out; simp only [nO] at *; omega) hS hN (HD1.out.at_ hL)) ?_)) | (go_at_call 106; (with_reducible refine zK [] HWB.out HM.out (fun W hL hS hN => dX _ _ _ W0 b _ ao cap LP _ (by have h := HZ.out; simp only [nO] at *; omega) (by have h := HZ.out; simp only [nO] at *; omega) (HP.out.mk2 (Kn.sub hL sR)) (HQ.out.mk2 (Kn.sub hL sR)) hS hN) ?_)) | (go_at_call 66; (with_reducible refine zK [] HWB.out HM.out (fun W hL hS hN => bW 5 0 5 rfl W0 b _ ao cap LP _ (by have h := HZ.out; simp only [nO] at *; omega) hS hN) ?_)) | (go_at_call 106; (with_reducible refine zK [] HWB.out HM.out (fun W hL hS hN => dX _ _ _ W0 b _ ao cap LP _ (by have h := HZ.out; simp only [nO] at *; omega) (by have h := HZ.out; simp only [nO] at *; omega) (HU.out.mk2 (Kn.sub hL sR)) (HV.out.mk2 (Kn.sub hL sR)) hS hN) ?_))); clear hF hL HWB HM; intro W ao cap LP HWB HM hJ hL hF) | (go_at_call 91; (with_reducible refine zJ [] HWB.out HM.out (fun W hL hS hN => zl W0 b _ ao cap LP _ (by have h := HZ.out; simp only [nO] at *; omega) hS hN) ?_); clear hF hL HWB HM; intro W ao cap LP hp9 hq9 HP HQ HWB HM hJ hL hF) | (go_at_call 91; (with_reducible refine zJ [] HWB.out HM.out (fun W hL hS hN => wY W0 b _ ao cap LP _ (by have h := HZ.out; simp only [nO] at *; omega) hS hN) ?_); clear hF hL HWB HM; intro W ao cap LP hu9 hv9 HU HV HWB HM hJ hL hF)); replace HB := cy HB hJ; replace HN := cy HN hJ; (try (replace HP := cy HP hJ)); (try (replace HQ := cy HQ hJ)); (try (replace HU := cy HU hJ)); (try (replace HV := cy HV hJ)); clear hJ; clear n0; clear k00 k01 k02 k03 k04 k05 k06 HD0 HKN0 kx0 kl0 ki0; clear k10 k11 k12 k13 k14 k15 k16 HD1 HKN1 kx1 kl1 ki1; have n0 := HB.out.c7; obtain ⟨g0, o0, d00, d01, d02, d03, d04, d05, d06, ke0, kx0, kl0, ki0, HKN0, HD0, k00, k01, k02, k03, k04, k05, k06⟩ := bC HN.out (i := 0) (y := c.nd) (by simp only [Tr.nd]; rfl); (first | subst ke0 | (injection ke0 with ke0; injection ke0 with kf0 kg0; subst kf0 kg0)); simp only [Nat.zero_mul, Nat.one_mul, Nat.add_zero] at k00; obtain ⟨g1, o1, d10, d11, d12, d13, d14, d15, d16, ke1, kx1, kl1, ki1, HKN1, HD1, k10, k11, k12, k13, k14, k15, k16⟩ := bC HN.out (i := 1) (y := t.nd) (by simp only [Tr.nd]; rfl); (first | subst ke1 | (injection ke1 with ke1; injection ke1 with kf1 kg1; subst kf1 kg1)); simp only [Nat.zero_mul, Nat.one_mul, Nat.add_zero] at k10))
 refine bodyPost_end (by simp [results, Tryz.results61, go_sem, *]; try rfl) rfl ?_
 exact ⟨ao, cap, LP, rfl, HWB.out, HM⟩
theorem sn{Y:List Nat}{w:World}{n:Nd}{v0 v1 v2 v3 v4 v5 v6:Value}(h:NodeIs Y w n [v0,v1,v2,v3,v4,v5,v6]):WsRow Y w v4 n.ws:=by
 obtain⟨al,ws,rs,ks,va,vw,vr,vk,hn,hcs,h1,_,h3,h4,h5,_,h7,h8⟩:=h.open
 simp only[List.cons.injEq,and_true]at hcs
 obtain⟨_,_,_,_,rfl,_,_⟩:=hcs
 exact⟨ws,by rw[hn];rfl,h3,h4⟩
theorem zq {W0 : World} {m9 : ab} {w9 : Ws} {y : Tr} {r : Ws} (hw9 : xe W0 w9) (hy : MkF W0 29 y.nd y.nd.co y.g) (hlw9 : ∀ s, (w9.g 7 s).n <= s.n + w9.b /\ s.n <= (w9.g 7 s).n) (hly : ∀ s, (y.g s).n + 2 <= s.n + y.nd.co /\ s.n <= (y.g s).n) : MkF W0 63 (Tr.for_ m9 w9 y r).nd (w9.b + y.nd.co + 7) (fun s => ((y.g ((((w9.g 7 (s.op 6 0)).add { op := 17, s := m9 }).op 5 0).op 18 0)).op 1 (((w9.g 7 (s.op 6 0)).add { op := 17, s := m9 }).op 5 0).n).here (((w9.g 7 (s.op 6 0)).add { op := 17, s := m9 }).op 5 0).n) := by
 refine MkF.mk ?_
 intro LZ b s ao cap LP w X9 kz nm ng na nw nr nk aa ca aw cw9 ar cr ak ck hm HKZ HNM HNG HNA HNW HNR HNK HN HM HWB hL
 have hF := hL.fx
 go_enter Tryz.func63, Tryz.ntmps63
 have HNQ : Hid (m9 = nm.data.toList) := yh (by rw [<- HNM.out]; rfl)
 unfold xe at hw9
 have HW9 := yh hw9
 clear hw9
 have HWR := yh (show ∀ (Y : List Nat) (W : World), NodeIs Y W (Tr.for_ m9 w9 y r).nd [.int .i64 kz, .string nm, .bool ng, .slice aa na ca, .slice aw nw cw9, .slice ar nr cr, .slice ak nk ck] -> WsRow Y W (.slice aw nw cw9) w9.ws from fun Y W h => sn h)
 go_upto_region 1 with (fail)
 (with_reducible refine zT1 HWB.out HM.out ?_); clear hF; clear hL HM HWB; intro W HB HM HWB hJ hL hF; replace HN := cy HN hJ; clear hJ
 have n0 := HB.out.c7; obtain ⟨g0, o0, d00, d01, d02, d03, d04, d05, d06, ke0, kx0, kl0, ki0, HKN0, HD0, k00, k01, k02, k03, k04, k05, k06⟩ := bC HN.out (i := 0) (y := y.nd) (by simp only [Tr.nd]; rfl); (first | subst ke0 | (injection ke0 with ke0; injection ke0 with kf0 kg0; subst kf0 kg0)); simp only [Nat.zero_mul, Nat.one_mul, Nat.add_zero] at k00
 unfold MkF at hy; have HY := yh hy; clear hy
 have HM9 := yh hm
 have HLw9 := yh hlw9; clear hlw9; have HLy := yh hly; clear hly
 clear hm
 have HZ := yh (And.intro (HM9.out) (And.intro (lg y.nd) (And.intro (HLw9.out (s.op 6 0)) (HLy.out ((((w9.g 7 (s.op 6 0)).add { op := 17, s := m9 }).op 5 0).op 18 0))))); clear HM9
 go_wp2_with (first | (with_reducible refine zS ?_; intro W hL hF) | ((first | ((first | (go_at_call 93; (with_reducible refine zK [] HWB.out HM.out (fun W hL hS hN => HW9.out b _ ao cap LP _ _ (by have h := HZ.out; simp only [nO] at *; omega) hS hN (HWR.out _ _ (HN.out.at_ hL))) ?_)) | (go_at_call 30; (with_reducible refine zK [] HWB.out HM.out (fun W hL hS hN => gk W0 b _ ao cap LP _ { op := 17, s := m9 } 17 0 0 nm (.slice none 0 0) rfl rfl rfl HNQ.out dr (by have h := HZ.out; simp only [nO] at *; omega) hS hN.w) ?_)) | (go_at_call 66; (with_reducible refine zK [] HWB.out HM.out (fun W hL hS hN => bW 5 0 5 rfl W0 b _ ao cap LP _ (by have h := HZ.out; simp only [nO] at *; omega) hS hN) ?_)) | (go_at_call 29; (with_reducible refine zK [] HWB.out HM.out (fun W hL hS hN => HY.out b _ ao cap LP _ _ (by have h := HZ.out; simp only [nO] at *; omega) hS hN (HD0.out.at_ hL)) ?_)) | (go_at_call 66; (with_reducible refine zK [] HWB.out HM.out (fun W hL hS hN => bW 1 _ 1 rfl W0 b _ ao cap LP _ (by have h := HZ.out; simp only [nO] at *; omega) hS hN) ?_)) | (go_at_call 106; (with_reducible refine zK [] HWB.out HM.out (fun W hL hS hN => dX _ _ _ W0 b _ ao cap LP _ (by have h := HZ.out; simp only [nO] at *; omega) (by have h := HZ.out; simp only [nO] at *; omega) (HP.out.mk2 (Kn.sub hL sR)) (HQ.out.mk2 (Kn.sub hL sR)) hS hN) ?_))); clear hF hL HWB HM; intro W ao cap LP HWB HM hJ hL hF) | (go_at_call 91; (with_reducible refine zJ [] HWB.out HM.out (fun W hL hS hN => B2 W0 b _ ao cap LP _ (by have h := HZ.out; simp only [nO] at *; omega) hS hN) ?_); clear hF hL HWB HM; intro W ao cap LP hp9 hq9 HP HQ HWB HM hJ hL hF)); replace HB := cy HB hJ; replace HN := cy HN hJ; (try (replace HP := cy HP hJ)); (try (replace HQ := cy HQ hJ)); clear hJ; clear n0; clear k00 k01 k02 k03 k04 k05 k06 HD0 HKN0 kx0 kl0 ki0; have n0 := HB.out.c7; obtain ⟨g0, o0, d00, d01, d02, d03, d04, d05, d06, ke0, kx0, kl0, ki0, HKN0, HD0, k00, k01, k02, k03, k04, k05, k06⟩ := bC HN.out (i := 0) (y := y.nd) (by simp only [Tr.nd]; rfl); (first | subst ke0 | (injection ke0 with ke0; injection ke0 with kf0 kg0; subst kf0 kg0)); simp only [Nat.zero_mul, Nat.one_mul, Nat.add_zero] at k00))
 refine bodyPost_end (by simp [results, Tryz.results63, go_sem, *]; try rfl) rfl ?_
 exact ⟨ao, cap, LP, rfl, HWB.out, HM⟩
def bL(W0:World)(x:Wd):Prop:=mg W0 x/\x.ok/\x.ps.length<=100000
def AsRow(Y:List Nat)(w:World)(v:Value)(l:List (ab×List Prt)):Prop:=∃ws:List ((ab×List Prt)×Value),ws.map (·.1)=l/\RowY 2 Y w v (ws.map asc)/\∀x∈ws,PRow Y w x.2 x.1.2
def RsRow(Y:List Nat)(w:World)(v:Value)(l:List (Int×Nat×List Prt)):Prop:=∃ws:List ((Int×Nat×List Prt)×Value),ws.map (·.1)=l/\RowY 3 Y w v (ws.map rsc)/\∀x∈ws,PRow Y w x.2 x.1.2.2
theorem AsRow.at{Y:List Nat}{w:World}{a:Option Addr}{n cap:Nat}{l:List (ab×List Prt)}(h:AsRow Y w (.slice a n cap) l){j:Nat}{p:ab×List Prt}(hj:l[j]? =some p):∃g o v,a=some ⟨g,o,none⟩/\g∉Y/\g<w.heap.size/\w.cell? ⟨g,o+j*2,none⟩=some (bs p.1)/\w.cell? ⟨g,o+j*2+1,none⟩=some v/\PRow Y w v p.2:=by
 obtain⟨ws,rfl,h2,h3⟩:=h
 rw[List.getElem?_map]at hj
 obtain⟨x,hx,rfl⟩:=Option.map_eq_some_iff.1 hj
 obtain⟨g,o,h4,h5,h6,h7⟩:=fo h2 (j:=j) (cs:=asc x) (by rw[List.getElem?_map,hx];rfl)
 have h8:=h7 0 _ rfl
 have h9:=h7 1 _ rfl
 rw[Nat.add_zero]at h8
 exact⟨g,o,x.2,h4,h5,h6,h8,h9,h3 x (List.mem_of_getElem? hx)⟩
theorem RsRow.at{Y:List Nat}{w:World}{a:Option Addr}{n cap:Nat}{l:List (Int×Nat×List Prt)}(h:RsRow Y w (.slice a n cap) l){j:Nat}{p:Int×Nat×List Prt}(hj:l[j]? =some p):∃g o v,a=some ⟨g,o,none⟩/\g∉Y/\g<w.heap.size/\w.cell? ⟨g,o+j*3,none⟩=some (.int .i64 p.1)/\w.cell? ⟨g,o+j*3+1,none⟩=some (.int .i64 (p.2.1:Int))/\w.cell? ⟨g,o+j*3+2,none⟩=some v/\PRow Y w v p.2.2:=by
 obtain⟨ws,rfl,h2,h3⟩:=h
 rw[List.getElem?_map]at hj
 obtain⟨x,hx,rfl⟩:=Option.map_eq_some_iff.1 hj
 obtain⟨g,o,h4,h5,h6,h7⟩:=fo h2 (j:=j) (cs:=rsc x) (by rw[List.getElem?_map,hx];rfl)
 have h8:=h7 0 _ rfl
 have h9:=h7 1 _ rfl
 have h10:=h7 2 _ rfl
 rw[Nat.add_zero]at h8
 exact⟨g,o,x.2,h4,h5,h6,h8,h9,h10,h3 x (List.mem_of_getElem? hx)⟩
theorem Ae{Y:List Nat}{w:World}{n:Nd}{v0 v1 v2 v3 v4 v5 v6:Value}(h:NodeIs Y w n [v0,v1,v2,v3,v4,v5,v6]):AsRow Y w v3 n.asg:=by
 obtain⟨al,ws,rs,ks,va,vw,vr,vk,hn,hcs,h1,h2,h3,h4,h5,_,h7,h8⟩:=h.open
 simp only[List.cons.injEq,and_true]at hcs
 obtain⟨_,_,_,rfl,_,_,_⟩:=hcs
 exact⟨al,by rw[hn];rfl,h1,h2⟩
theorem sq{Y:List Nat}{w:World}{n:Nd}{v0 v1 v2 v3 v4 v5 v6:Value}(h:NodeIs Y w n [v0,v1,v2,v3,v4,v5,v6]):RsRow Y w v5 n.rs:=by
 obtain⟨al,ws,rs,ks,va,vw,vr,vk,hn,hcs,h1,h2,h3,h4,h5,h6,h7,h8⟩:=h.open
 simp only[List.cons.injEq,and_true]at hcs
 obtain⟨_,_,_,_,_,rfl,_⟩:=hcs
 exact⟨rs,by rw[hn];rfl,h5,h6⟩
theorem mh{W0:World}{nd:Nd}:∀ ⦃LZ:List (Nat×Obj)⦄ (b:Nat) (s:PS) (ao:Option Addr) (cap:Nat) (LP:List (Nat×Obj)) (w:World) (cs:List Value),s.e≠0->Kn (b::keys LP) w w ((b,.cells #[.slice ao s.n cap,.int .i64 (s.i:Int),.int .i64 (s.e:Int)] 81 (0,0))::LP)->MkQ W0 LZ w b s (.slice ao s.n cap) LP->NodeIs (b::keys LP) w nd cs->Calls Tryz.prog 29 #[.pointer (some ⟨b,0,none⟩),.agg cs.toArray] w (fun e w'=>∃(a2:Option Addr) (c2:Nat) (LP2:List (Nat×Obj)),e=.returned (.tuple #[])/\Kn (b::keys LP) w w' ((b,.cells #[.slice a2 s.n c2,.int .i64 (s.i:Int),.int .i64 (s.e:Int)] 81 (0,0))::LP2)/\Hid (MkQ W0 LZ w' b (s) (.slice a2 s.n c2) LP2)):=by
 intro LZ b s ao cap LP w cs hm hL0 hM hn
 obtain⟨aa,ca,aw,cw9,ar,cr,ak,ck,rfl⟩:=dh hn
 obtain⟨nm,hnm⟩:∃z,bs nd.name=.string z:=⟨_,rfl⟩
 rw[hnm]at hn |-
 have HN:=yh hn
 have HM:=yh hM
 have HWB:=yh hL0
 have hL:=hL0
 clear hL0 hM hn hnm
 have hF:=hL.fx
 go_enter Tryz.func29,Tryz.ntmps29
 have hez:((s.e:Int) != 0)=true:=by rw[bne_iff_ne];omega
 clear hm
 go_upto_region 1 with(fail)
 (with_reducible refine zT1 HWB.out HM.out ?_);clear hF;clear hL HM HWB;intro W HB HM HWB hJ hL hF;replace HN:=cy HN hJ;clear hJ
 go_wp2
 refine zF ?_;intro W hL hF
 refine bodyPost_ret (by simp[results,Tryz.results29,go_sem, *];try rfl) rfl ?_
 exact⟨rfl,ao,cap,LP,HWB.out.tail0 hL,yh (HM.out.next hL)⟩
theorem iO:Tryz.prog.underlying 113=some (.map 3 112):=Tryz.underlying113
theorem j7:Maps.Keyed Tryz.prog 3:=Maps.int_keyed Tryz.underlying3
theorem sr(z:Int)(h:(Lit.int .i64 z).wf=true):keyOf Tryz.prog 3 (.int .i64 z)=some (.int .i64 z):=Maps.keyOf_int_mk Tryz.underlying3 h
abbrev pJ:List (Value×Value):=[(Value.int .i64 4,Value.func (.func 54) #[] #[]),(Value.int .i64 1,Value.func (.func 55) #[] #[]),(Value.int .i64 2,Value.func (.func 56) #[] #[]),(Value.int .i64 3,Value.func (.func 56) #[] #[]),(Value.int .i64 5,Value.func (.func 57) #[] #[]),(Value.int .i64 0,Value.func (.func 58) #[] #[]),(Value.int .i64 6,Value.func (.func 59) #[] #[]),(Value.int .i64 7,Value.func (.func 60) #[] #[]),(Value.int .i64 8,Value.func (.func 61) #[] #[]),(Value.int .i64 9,Value.func (.func 62) #[] #[]),(Value.int .i64 10,Value.func (.func 62) #[] #[]),(Value.int .i64 11,Value.func (.func 63) #[] #[]),(Value.int .i64 12,Value.func (.func 64) #[] #[]),(Value.int .i64 14,Value.func (.func 65) #[] #[])]
theorem zr{W0:World}{nd:Nd}{N M:Nat}{G F:PS->PS}(fid:FuncId)(hfid:∀(a:Array Value) (W:World),(callFunc fid a).run Tryz.prog W=.ok (.enter fid a) W)(hfe:∀W:World,(binOp .eql 112 (.func (.func fid) #[] #[]) .nilFunc).run Tryz.prog W=.ok (.bool false) W)(hge:∀(x y:Operand) (W:World),(eqGuard .eql 112 x y (.func (.func fid) #[] #[]) .nilFunc).run Tryz.prog W=.ok () W)(hkm:(Value.int .i64 (nd.kind:Int),Value.func (.func fid) #[] #[])∈pJ)(hx:MkF W0 fid nd N G){r9:Ws}(hrs:nd.rs=r9.rs)(hall:r9.allw (bL W0))(htr:r9.tr)(hsz:r9.rs.length<=100000)(hr9:r9.nil? =true)(hMM:N+1+r9.b<=M)(hF9:∀s,s.e=0->F s=G s)(hF0:∀s,s.e≠0->F s=s)(hlF:∀s,(F s).n+2<=s.n+M):MkF W0 29 nd M F:=by
 intro LZ b s ao cap LP w cs hm hL0 hM hn
 by_cases hez0:s.e=0
 case neg=>
  rw[hF0 s hez0];exact mh b s ao cap LP w cs hez0 hL0 hM hn
 have hlF9:=hlF s
 rw[hF9 s hez0]at hlF9 |-
 have hez:((s.e:Int) != 0)=false:=by rw[hez0];rfl
 clear hF9 hF0 hlF hez0
 obtain⟨aa,ca,aw,cw9,ar,cr,ak,ck,rfl⟩:=dh hn
 obtain⟨kz,hkz⟩:∃z:Int,((nd.kind:Nat):Int)=z:=⟨_,rfl⟩
 obtain⟨nm,hnm⟩:∃z:ByteArray,(⟨(nd.name).toArray⟩:ByteArray)=z:=⟨_,rfl⟩
 obtain⟨ng,hng⟩:∃z:Bool,nd.neg=z:=⟨_,rfl⟩
 obtain⟨na,hna⟩:∃z,nd.asg.length=z:=⟨_,rfl⟩
 obtain⟨nw,hnw⟩:∃z,nd.ws.length=z:=⟨_,rfl⟩
 obtain⟨nr,hnr⟩:∃z,nd.rs.length=z:=⟨_,rfl⟩
 obtain⟨nk,hnk⟩:∃z,nd.kids.length=z:=⟨_,rfl⟩
 have hbs:bs nd.name=.string nm:=by rw[<- hnm];rfl
 rw[hkz,hbs,hng,hna,hnw,hnr,hnk]at hn |-
 have HKZ:=yh hkz
 have HNM:=yh hnm
 have HNG:=yh hng
 have HNA:=yh hna
 have HNW:=yh hnw
 have HNR:=yh hnr
 have HNK:=yh hnk
 clear hkz hng hna hnw hnr hnk
 have hnr:r9.rs.length=nr:=by rw[<- hrs];exact HNR.out
 have HRR9:=yh hrs
 rw[hnr]at hsz
 have hnz:decide (0<nr)=false:=(by rw[<- hnr];cases r9 with|nil=>rfl|cons g x r=>simp[Ws.nil?]at hr9)
 have HKM:=yh hkm
 have HNR9:=yh hnr
 have HOK:=yh (⟨hall,htr,rfl⟩:r9.allw (bL W0)/\r9.tr/\r9.rs=r9.rs.drop 0)
 have HLF9:=yh hlF9
 have HM9:=yh hm
 have HMM:=yh hMM
 have HN:=yh hn
 have HM:=yh hM
 have HWB:=yh hL0
 rw[HKZ.out]at HKM
 have hL:=hL0
 clear hL0 hM hn hbs hnm hnr hm hMM hall htr hlF9 hkm hrs
 obtain⟨X9,hX9⟩:∃X,b::keys LP=X:=⟨_,rfl⟩
 rw[hX9]at HWB |-
 clear hX9
 unfold MkF at hx;have HX:=yh hx;clear hx
 have hF:=hL.fx
 go_enter Tryz.func29,Tryz.ntmps29
 go_upto_region 1 with(fail)
 (with_reducible refine zT1 HWB.out HM.out ?_);clear hF;clear hL HM HWB;intro W HB HM HWB hJ hL hF;replace HN:=cy HN hJ;clear hJ
 have n0:=HB.out.c7
 have hmm:=@run_makeMap Tryz.prog
 have hM5:=MapV.nil (P:=Tryz.prog) (k:=3)
 go_upto_region 3 with(first|((with_reducible refine mM ?_);refine dQ ?_;clear hF hL;intro W hL;have hF:=hL.fx;(refine fX j7 iO hL 0 rfl hM5 (by simp[maxLen]) rfl _ _ _ rfl rfl (sr _ rfl) (by intro p hp;(repeat' (first|exact absurd hp List.not_mem_nil|(rcases List.mem_cons.1 hp with rfl|hp)));all_goals (intro e;injection e with _ e;revert e;decide)) ?_);intro W2 es2 ck2 hL2 hM2;clear hL hF hM5;have hL:=hL2;have hM5:=hM2;clear hL2 hM2;simp only[List.nil_append,List.cons_append]at hM5;simp only[zA,Act.eval]at hM5;simp only[kfb]at hL;have hF:=hL.fx)|(at_lookup;(refine ig rfl _ _ _ rfl j7 iO (hL.has _ m0) hM5 rfl _ (.func (.func fid) #[] #[]) rfl HKM.out ?_);simp only[Bool.false_eq_true,if_false]))
 (with_reducible refine zT0 [_] HWB.out HM.out ?_);clear hF;clear hL HM HWB;intro W HM HWB hJ hL hF h9;clear h9;replace HN:=cy HN hJ;replace HB:=cy HB hJ;clear hJ
 clear hM5 hmm HKM
 clear n0
 have n0:=HB.out.c7
 go_wp2
 go_loopw [28] (fun z wr=>∃(k:Nat) (rr:Ws) (s2:PS) (ao:Option Addr) (cap:Nat) (LP:List (Nat×Obj)),z=.int .i64 k/\k<=nr/\Hid (rr.allw (bL W0)/\rr.tr/\rr.rs=r9.rs.drop k/\r9.g 10 s=rr.g 10 s2)/\Hid (s2.n+rr.b<=s.n+1+r9.b)/\Kn X9 w wr ((b,.cells #[.slice ao s2.n cap,.int .i64 (s2.i:Int),.int .i64 (s2.e:Int)] 81 (0,0))::LP)/\Hid (MkQ W0 LZ wr b s2 (.slice ao s2.n cap) LP)/\Hid (NodeIs (b::keys LP) wr nd [.int .i64 kz,.string nm,.bool ng,.slice aa na ca,.slice aw nw cw9,.slice ar nr cr,.slice ak nk ck])/\Hid (CelY (b::keys LP) wr w.heap.size [.int .i64 kz,.string nm,.bool ng,.slice aa na ca,.slice aw nw cw9,.slice ar nr cr,.slice ak nk ck])) (fun z _=>nr-(intOf z).toNat)
 case atStart=>exact⟨0,r9,s,ao,cap,LP,rfl,Nat.zero_le _,yh ⟨HOK.out.1,HOK.out.2.1,HOK.out.2.2,rfl⟩,yh (by omega),HWB.out,HM,HN,HB⟩
 case round=>
  clear HWB HM HN HOK HB;obtain⟨k,rr,s2,ao,cap,LP,rfl,hk,HR,HB9,hWB,HM,HN,HB⟩:=hrel;have HWB:=yh hWB;clear hL hF hWB n0;have hL:=Kn.self0q HWB.out;have hF:=hL.fx;have n0:=HB.out.c7
  cases rr with
  |nil=>
   have hkn:nr=k:=by
    have h:=congrArg List.length HR.out.2.2.1;rw[List.length_drop,HNR9.out]at h;simp only[Ws.rs,List.length_nil]at h;omega
   subst hkn;have HSA:r9.g 10 s=s2:=by rw[HR.out.2.2.2];simp only[Ws.g]
   skip
   have HSA:=yh HSA;go_wp2_with (first|(with_reducible refine zS ?_;intro W hL hF)|((with_reducible refine zK [] HWB.out HM.out (fun W hL hS hN=>HX.out b _ ao cap LP _ _ (by have h0:=HM9.out;have h1:=HMM.out;have h2:=HB9.out;omega) hS hN (HN.out.at_ hL)) ?_);clear hF hL HWB HM;intro W ao cap LP HWB HM hJ hL hF;replace HB:=cy HB hJ;replace HN:=cy HN hJ;clear hJ;clear n0;have n0:=HB.out.c7))
   refine bodyPost_end (by simp[results,Tryz.results29,go_sem, *];try rfl) rfl ?_;rw[show s=s2 by rw[<- HSA.out];cases r9 with|nil=>simp only[Ws.g]|cons g x r=>simp[Ws.nil?]at hr9];exact⟨ao,cap,LP,by first|rfl|trivial,HWB.out,HM⟩
  |cons g x rr=>
   obtain⟨gs,ga,gb⟩:=g;obtain⟨HD1,HD2,HD3⟩:=bF HR.out.2.2.1.symm;have HD:Hid (r9.rs.drop (k+1)=rr.rs):=yh HD2;have hkn:k<nr:=by rw[<- HNR9.out];exact HD3
   have HRW:=sq HN.out;rw[HRR9.out]at HRW;obtain⟨q,o,pv,hga,gx,gl,c0,c1,c2,hpw⟩:=HRW.at HD1;clear HD1 HD2 HD3 HRW;subst hga;simp only[List.mem_cons,not_or]at gx;change _=some (Value.int .i64 ga)at c0;change _=some (Value.int .i64 (gb:Int))at c1;have HPV:Hid (PRow (b::keys LP) _ pv x.ps):=yh hpw;obtain⟨pa,pn,pc,hpv⟩:∃a n c,pv=.slice a n c:=by
    obtain⟨a,c,h,_⟩:=id hpw;exact⟨a,_,c,h⟩
   have HX0:Hid (bL W0 x):=yh (by have h:=HR.out.1;simp only[Ws.allw]at h;exact h.1);have HX1:=yh HX0.out.1.1;unfold MkW at HX1;have HX2:=yh HX0.out.1.2;obtain rfl:gs=[]:=by have h:=HR.out.2.1;simp only[Ws.tr]at h;exact h.1
   have HCW:Hid (s2.n+(1+cwt x.ps+rr.b)<=s.n+1+r9.b):=HB9;clear hpw;subst hpv;go_upto_region 9 with(fail)
   (with_reducible refine zT1 HWB.out HM.out ?_);clear hF;clear hL HM HWB;intro W HA HM HWB hJ hL hF;replace HB:=cy HB hJ;replace HN:=cy HN hJ;replace HPV:=cy HPV hJ;clear hJ
   clear n0 gx gl c0 c1 c2;obtain⟨hq,hx,h0,h1,h2⟩:=HA.out.c3;go_wp2_with (first|(with_reducible refine zS ?_;intro W hL hF)|((first|(go_at_call 67;(with_reducible refine zK [] HWB.out HM.out (fun W hL hS hN=>HX1.out b _ ao cap LP _ _ (by have h0:=HM9.out;have h1:=HMM.out;have h2:=HCW.out;simp only[nO]at *;omega) hS hN (HPV.out.at_ hL)) ?_))|(go_at_call 30;(with_reducible refine zK [] HWB.out HM.out (fun W hL hS hN=>gk W0 b _ ao cap LP _ {op:=10,a:=ga,b:=gb,w:=x.ps} 10 ga (gb:Int) ⟨#[]⟩ _ rfl rfl rfl rfl (HPV.out.at_ hL) (by have h0:=HM9.out;have h1:=HMM.out;have h2:=HCW.out;have h3:=HX2.out s2;omega) hS hN.w) ?_)));clear hF hL HWB HM;intro W ao cap LP HWB HM hJ hL hF;replace HA:=cy HA hJ;replace HB:=cy HB hJ;replace HN:=cy HN hJ;replace HPV:=cy HPV hJ;clear hJ hq hx h0 h1 h2;obtain⟨hq,hx,h0,h1,h2⟩:=HA.out.c3))
   refine⟨⟨k+1,rr,(x.g s2).add {op:=10,a:=ga,b:=gb,w:=x.ps},ao,cap,LP,by go_num,by omega,yh ?_,yh ?_,HWB.out,HM,HN,HB⟩,by simp[intOf];omega⟩
   ·have h:=HR.out
    simp only[Ws.allw,Ws.tr,Ws.g]at h;exact⟨h.1.2,h.2.1.2,HD.out.symm,h.2.2.2⟩
   ·have h:=HCW.out
    have h2:=HX2.out s2;rw[bt];omega
theorem zt{W0:World}{nd:Nd}{N M:Nat}{G F:PS->PS}(fid:FuncId)(hfid:∀(a:Array Value) (W:World),(callFunc fid a).run Tryz.prog W=.ok (.enter fid a) W)(hfe:∀W:World,(binOp .eql 112 (.func (.func fid) #[] #[]) .nilFunc).run Tryz.prog W=.ok (.bool false) W)(hge:∀(x y:Operand) (W:World),(eqGuard .eql 112 x y (.func (.func fid) #[] #[]) .nilFunc).run Tryz.prog W=.ok () W)(hkm:(Value.int .i64 (nd.kind:Int),Value.func (.func fid) #[] #[])∈pJ)(hx:MkF W0 fid nd N G){r9:Ws}(hrs:nd.rs=r9.rs)(hall:r9.allw (bL W0))(htr:r9.tr)(hsz:r9.rs.length<=100000)(hr9:r9.nil? =false)(hMM:N+1+r9.b<=M)(hF9:∀s,s.e=0->F s=(G (r9.g 10 (s.op 9 0))).op 11 0)(hF0:∀s,s.e≠0->F s=s)(hlF:∀s,(F s).n+2<=s.n+M):MkF W0 29 nd M F:=by
 intro LZ b s ao cap LP w cs hm hL0 hM hn
 by_cases hez0:s.e=0
 case neg=>
  rw[hF0 s hez0];exact mh b s ao cap LP w cs hez0 hL0 hM hn
 have hlF9:=hlF s
 rw[hF9 s hez0]at hlF9 |-
 have hez:((s.e:Int) != 0)=false:=by rw[hez0];rfl
 clear hF9 hF0 hlF hez0
 obtain⟨aa,ca,aw,cw9,ar,cr,ak,ck,rfl⟩:=dh hn
 obtain⟨kz,hkz⟩:∃z:Int,((nd.kind:Nat):Int)=z:=⟨_,rfl⟩
 obtain⟨nm,hnm⟩:∃z:ByteArray,(⟨(nd.name).toArray⟩:ByteArray)=z:=⟨_,rfl⟩
 obtain⟨ng,hng⟩:∃z:Bool,nd.neg=z:=⟨_,rfl⟩
 obtain⟨na,hna⟩:∃z,nd.asg.length=z:=⟨_,rfl⟩
 obtain⟨nw,hnw⟩:∃z,nd.ws.length=z:=⟨_,rfl⟩
 obtain⟨nr,hnr⟩:∃z,nd.rs.length=z:=⟨_,rfl⟩
 obtain⟨nk,hnk⟩:∃z,nd.kids.length=z:=⟨_,rfl⟩
 have hbs:bs nd.name=.string nm:=by rw[<- hnm];rfl
 rw[hkz,hbs,hng,hna,hnw,hnr,hnk]at hn |-
 have HKZ:=yh hkz
 have HNM:=yh hnm
 have HNG:=yh hng
 have HNA:=yh hna
 have HNW:=yh hnw
 have HNR:=yh hnr
 have HNK:=yh hnk
 clear hkz hng hna hnw hnr hnk
 have hnr:r9.rs.length=nr:=by rw[<- hrs];exact HNR.out
 have HRR9:=yh hrs
 rw[hnr]at hsz
 have hnz:0<nr:=(by rw[<- hnr];cases r9 with|nil=>simp[Ws.nil?]at hr9|cons g x r=>simp[Ws.rs])
 have HKM:=yh hkm
 have HNR9:=yh hnr
 have HOK:=yh (⟨hall,htr,rfl⟩:r9.allw (bL W0)/\r9.tr/\r9.rs=r9.rs.drop 0)
 have HLF9:=yh hlF9
 have HM9:=yh hm
 have HMM:=yh hMM
 have HN:=yh hn
 have HM:=yh hM
 have HWB:=yh hL0
 rw[HKZ.out]at HKM
 have hL:=hL0
 clear hL0 hM hn hbs hnm hnr hm hMM hall htr hlF9 hkm hrs
 obtain⟨X9,hX9⟩:∃X,b::keys LP=X:=⟨_,rfl⟩
 rw[hX9]at HWB |-
 clear hX9
 unfold MkF at hx;have HX:=yh hx;clear hx
 have hF:=hL.fx
 go_enter Tryz.func29,Tryz.ntmps29
 go_upto_region 1 with(fail)
 (with_reducible refine zT1 HWB.out HM.out ?_);clear hF;clear hL HM HWB;intro W HB HM HWB hJ hL hF;replace HN:=cy HN hJ;clear hJ
 have n0:=HB.out.c7
 have hmm:=@run_makeMap Tryz.prog
 have hM5:=MapV.nil (P:=Tryz.prog) (k:=3)
 go_upto_region 3 with(first|((with_reducible refine mM ?_);refine dQ ?_;clear hF hL;intro W hL;have hF:=hL.fx;(refine fX j7 iO hL 0 rfl hM5 (by simp[maxLen]) rfl _ _ _ rfl rfl (sr _ rfl) (by intro p hp;(repeat' (first|exact absurd hp List.not_mem_nil|(rcases List.mem_cons.1 hp with rfl|hp)));all_goals (intro e;injection e with _ e;revert e;decide)) ?_);intro W2 es2 ck2 hL2 hM2;clear hL hF hM5;have hL:=hL2;have hM5:=hM2;clear hL2 hM2;simp only[List.nil_append,List.cons_append]at hM5;simp only[zA,Act.eval]at hM5;simp only[kfb]at hL;have hF:=hL.fx)|(at_lookup;(refine ig rfl _ _ _ rfl j7 iO (hL.has _ m0) hM5 rfl _ (.func (.func fid) #[] #[]) rfl HKM.out ?_);simp only[Bool.false_eq_true,if_false]))
 (with_reducible refine zT0 [_] HWB.out HM.out ?_);clear hF;clear hL HM HWB;intro W HM HWB hJ hL hF h9;clear h9;replace HN:=cy HN hJ;replace HB:=cy HB hJ;clear hJ
 clear hM5 hmm HKM
 clear n0
 have n0:=HB.out.c7
 go_wp2_with (first|(with_reducible refine zS ?_;intro W hL hF)|(go_at_call 66;(with_reducible refine zK [] HWB.out HM.out (fun W hL hS hN=>bW 9 0 9 rfl W0 b _ ao cap LP _ (by have h0:=HM9.out;have h1:=HMM.out;simp only[nO]at *;omega) hS hN) ?_);clear hF hL HWB HM;intro W ao cap LP HWB HM hJ hL hF;replace HB:=cy HB hJ;replace HN:=cy HN hJ;clear hJ;clear n0;have n0:=HB.out.c7))
 go_loopw [28] (fun z wr=>∃(k:Nat) (rr:Ws) (s2:PS) (ao:Option Addr) (cap:Nat) (LP:List (Nat×Obj)),z=.int .i64 k/\k<=nr/\Hid (rr.allw (bL W0)/\rr.tr/\rr.rs=r9.rs.drop k/\r9.g 10 (s.op 9 0)=rr.g 10 s2)/\Hid (s2.n+rr.b<=s.n+1+r9.b)/\Kn X9 w wr ((b,.cells #[.slice ao s2.n cap,.int .i64 (s2.i:Int),.int .i64 (s2.e:Int)] 81 (0,0))::LP)/\Hid (MkQ W0 LZ wr b s2 (.slice ao s2.n cap) LP)/\Hid (NodeIs (b::keys LP) wr nd [.int .i64 kz,.string nm,.bool ng,.slice aa na ca,.slice aw nw cw9,.slice ar nr cr,.slice ak nk ck])/\Hid (CelY (b::keys LP) wr w.heap.size [.int .i64 kz,.string nm,.bool ng,.slice aa na ca,.slice aw nw cw9,.slice ar nr cr,.slice ak nk ck])) (fun z _=>nr-(intOf z).toNat)
 case atStart=>exact⟨0,r9,(s.op 9 0),ao,cap,LP,rfl,Nat.zero_le _,yh ⟨HOK.out.1,HOK.out.2.1,HOK.out.2.2,rfl⟩,yh (by simp only[cd];omega),HWB.out,HM,HN,HB⟩
 case round=>
  clear HWB HM HN HOK HB;obtain⟨k,rr,s2,ao,cap,LP,rfl,hk,HR,HB9,hWB,HM,HN,HB⟩:=hrel;have HWB:=yh hWB;clear hL hF hWB n0;have hL:=Kn.self0q HWB.out;have hF:=hL.fx;have n0:=HB.out.c7
  cases rr with
  |nil=>
   have hkn:nr=k:=by
    have h:=congrArg List.length HR.out.2.2.1;rw[List.length_drop,HNR9.out]at h;simp only[Ws.rs,List.length_nil]at h;omega
   subst hkn;have HSA:r9.g 10 (s.op 9 0)=s2:=by rw[HR.out.2.2.2];simp only[Ws.g]
   rw[HSA]at HLF9;have HSA:=yh HSA;go_wp2_with (first|(with_reducible refine zS ?_;intro W hL hF)|((with_reducible refine zK [] HWB.out HM.out (fun W hL hS hN=>HX.out b _ ao cap LP _ _ (by have h0:=HM9.out;have h1:=HMM.out;have h2:=HB9.out;simp only[nO]at *;omega) hS hN (HN.out.at_ hL)) ?_);clear hF hL HWB HM;intro W ao cap LP HWB HM hJ hL hF;replace HB:=cy HB hJ;replace HN:=cy HN hJ;clear hJ;clear n0;have n0:=HB.out.c7)|(go_at_call 66;(with_reducible refine zK [] HWB.out HM.out (fun W hL hS hN=>bW 11 0 11 rfl W0 b _ ao cap LP _ (by have h0:=HM9.out;have h1:=HMM.out;have h2:=HLF9.out;simp only[nO]at *;omega) hS hN) ?_);clear hF hL HWB HM;intro W ao cap LP HWB HM hJ hL hF;replace HB:=cy HB hJ;replace HN:=cy HN hJ;clear hJ;clear n0;have n0:=HB.out.c7))
   refine bodyPost_end (by simp[results,Tryz.results29,go_sem, *];try rfl) rfl ?_;rw[HSA.out];exact⟨ao,cap,LP,by first|rfl|trivial,HWB.out,HM⟩
  |cons g x rr=>
   obtain⟨gs,ga,gb⟩:=g;obtain⟨HD1,HD2,HD3⟩:=bF HR.out.2.2.1.symm;have HD:Hid (r9.rs.drop (k+1)=rr.rs):=yh HD2;have hkn:k<nr:=by rw[<- HNR9.out];exact HD3
   have HRW:=sq HN.out;rw[HRR9.out]at HRW;obtain⟨q,o,pv,hga,gx,gl,c0,c1,c2,hpw⟩:=HRW.at HD1;clear HD1 HD2 HD3 HRW;subst hga;simp only[List.mem_cons,not_or]at gx;change _=some (Value.int .i64 ga)at c0;change _=some (Value.int .i64 (gb:Int))at c1;have HPV:Hid (PRow (b::keys LP) _ pv x.ps):=yh hpw;obtain⟨pa,pn,pc,hpv⟩:∃a n c,pv=.slice a n c:=by
    obtain⟨a,c,h,_⟩:=id hpw;exact⟨a,_,c,h⟩
   have HX0:Hid (bL W0 x):=yh (by have h:=HR.out.1;simp only[Ws.allw]at h;exact h.1);have HX1:=yh HX0.out.1.1;unfold MkW at HX1;have HX2:=yh HX0.out.1.2;obtain rfl:gs=[]:=by have h:=HR.out.2.1;simp only[Ws.tr]at h;exact h.1
   have HCW:Hid (s2.n+(1+cwt x.ps+rr.b)<=s.n+1+r9.b):=HB9;clear hpw;subst hpv;go_upto_region 9 with(fail)
   (with_reducible refine zT1 HWB.out HM.out ?_);clear hF;clear hL HM HWB;intro W HA HM HWB hJ hL hF;replace HB:=cy HB hJ;replace HN:=cy HN hJ;replace HPV:=cy HPV hJ;clear hJ
   clear n0 gx gl c0 c1 c2;obtain⟨hq,hx,h0,h1,h2⟩:=HA.out.c3;go_wp2_with (first|(with_reducible refine zS ?_;intro W hL hF)|((first|(go_at_call 67;(with_reducible refine zK [] HWB.out HM.out (fun W hL hS hN=>HX1.out b _ ao cap LP _ _ (by have h0:=HM9.out;have h1:=HMM.out;have h2:=HCW.out;simp only[nO]at *;omega) hS hN (HPV.out.at_ hL)) ?_))|(go_at_call 30;(with_reducible refine zK [] HWB.out HM.out (fun W hL hS hN=>gk W0 b _ ao cap LP _ {op:=10,a:=ga,b:=gb,w:=x.ps} 10 ga (gb:Int) ⟨#[]⟩ _ rfl rfl rfl rfl (HPV.out.at_ hL) (by have h0:=HM9.out;have h1:=HMM.out;have h2:=HCW.out;have h3:=HX2.out s2;simp only[nO]at *;omega) hS hN.w) ?_)));clear hF hL HWB HM;intro W ao cap LP HWB HM hJ hL hF;replace HA:=cy HA hJ;replace HB:=cy HB hJ;replace HN:=cy HN hJ;replace HPV:=cy HPV hJ;clear hJ hq hx h0 h1 h2;obtain⟨hq,hx,h0,h1,h2⟩:=HA.out.c3))
   refine⟨⟨k+1,rr,(x.g s2).add {op:=10,a:=ga,b:=gb,w:=x.ps},ao,cap,LP,by go_num,by omega,yh ?_,yh ?_,HWB.out,HM,HN,HB⟩,by simp[intOf];omega⟩
   ·have h:=HR.out
    simp only[Ws.allw,Ws.tr,Ws.g]at h;exact⟨h.1.2,h.2.1.2,HD.out.symm,h.2.2.2⟩
   ·have h:=HCW.out
    have h2:=HX2.out s2;rw[bt];omega
theorem Bl:(Tryz.prog.info? 1).map (fun i=>(i.zero,i.size,i.bytes))=some (some (.nilFunc),1,8):=by kernel_rfl
theorem g_{W:World}{t:TypeId}{v:Value}{n m c:Nat}{xs news:List Value}{ad:Addr}(hl:news.length=m*1)(hnews:∀j u,news[j]? =some u->W.cell? (ad.add j)=some u)(h1:∀u∈news,u.oneCell'=true)(hs:n+m<=1000000)(ho:W.ownsRow 0 1 1 v n xs):
  ∃v' w',(Builtin.append_ #[132,132] t #[v,.slice (some ad) m c]).run Tryz.prog W=.ok v' w'/\w'.ownsRow 0 1 1 v' (n+m) (xs++news)/\W.grownBy w' v.ownBlock/\(v'.ownBlock=v.ownBlock\/v'.ownBlock=some W.heap.size):=by
 obtain⟨i0,hi,hz0,hz1,hz2⟩:=bu Bl
 have:=bA (P:=Tryz.prog) (w:=W) 0 132 t 1 i0 _ Tryz.underlying132 hi hz0 (by rw[hz1];rfl) (by rw[hz1];decide) v n xs (by rw[hz1];exact ho) ad m c news (by rw[hz1,hl]) hnews h1 (by unfold maxLen;omega) (by rw[hz2];omega) (Nat.zero_le _)
 rw[hz1]at this
 exact this
theorem Bm:(Tryz.prog.info? 132).map (fun i=>(i.zero,i.size,i.bytes))=some (some (.slice none 0 0),1,24):=by kernel_rfl
theorem lE{W:World}{t:TypeId}{v:Value}{n m c:Nat}{xs news:List Value}{ad:Addr}(hl:news.length=m*1)(hnews:∀j u,news[j]? =some u->W.cell? (ad.add j)=some u)(h1:∀u∈news,u.oneCell'=true)(hs:n+m<=1000000)(ho:W.ownsRow 0 132 1 v n xs):
  ∃v' w',(Builtin.append_ #[131,131] t #[v,.slice (some ad) m c]).run Tryz.prog W=.ok v' w'/\w'.ownsRow 0 132 1 v' (n+m) (xs++news)/\W.grownBy w' v.ownBlock/\(v'.ownBlock=v.ownBlock\/v'.ownBlock=some W.heap.size):=by
 obtain⟨i0,hi,hz0,hz1,hz2⟩:=bu Bm
 have:=bA (P:=Tryz.prog) (w:=W) 0 131 t 132 i0 _ Tryz.underlying131 hi hz0 (by rw[hz1];rfl) (by rw[hz1];decide) v n xs (by rw[hz1];exact ho) ad m c news (by rw[hz1,hl]) hnews h1 (by unfold maxLen;omega) (by rw[hz2];omega) (Nat.zero_le _)
 rw[hz1]at this
 exact this
def CelO(Y:List Nat)(W:World)(g o:Nat)(cs:List Value):Prop:=g∉Y/\g<W.heap.size/\∀(c:Nat) x,cs[c]? =some x->W.cell? ⟨g,o+c,none⟩=some x
theorem CelO.kn{X Y:List Nat}{w0 W:World}{L:List (Nat×Obj)}{g o:Nat}{cs:List Value}(h:CelO X w0 g o cs)(k:Kn X w0 W L)(hy:∀y∈Y,y∈X\/w0.heap.size<=y):CelO Y W g o cs:=
 ⟨fun hm=>by rcases hy g hm with e|e;exact h.1 e;have:=h.2.1;omega,Nat.lt_of_lt_of_le h.2.1 k.size,fun c x hx=>(dt (k.block g h.2.1 h.1)).trans (h.2.2 c x hx)⟩
theorem CelO.mk2{X:List Nat}{w0 W:World}{b:Nat}{o9:Obj}{LP:List (Nat×Obj)}{g o:Nat}{cs:List Value}(h:CelO X w0 g o cs)(k:Kn X w0 W ((b,o9)::LP)):CelO (b::keys LP) W g o cs:=h.kn k k.own2
theorem CelY.kn{X Y:List Nat}{w0 W:World}{L:List (Nat×Obj)}{g:Nat}{cs:List Value}(h:CelY X w0 g cs)(k:Kn X w0 W L)(hy:∀y∈Y,y∈X\/w0.heap.size<=y):CelY Y W g cs:=
 ⟨fun hm=>by rcases hy g hm with e|e;exact h.1 e;have:=h.2.1;omega,Nat.lt_of_lt_of_le h.2.1 k.size,fun c x hx=>(dt (k.block g h.2.1 h.1)).trans (h.2.2 c x hx)⟩
def JV(b:Nat)(Y:List Nat)(W:World)(f:Value)(k:Nat):Prop:=∃p q,f=.func (.func 106) #[] #[.pointer (some ⟨p,0,none⟩),.pointer (some ⟨q,0,none⟩)]/\CelY Y W p [.pointer (some ⟨b,0,none⟩)]/\CelY Y W q [.int .i64 (k:Int)]
theorem JV.kn{b:Nat}{X Y:List Nat}{w0 W:World}{L:List (Nat×Obj)}{f:Value}{k:Nat}(h:JV b X w0 f k)(hk:Kn X w0 W L)(hy:∀y∈Y,y∈X\/w0.heap.size<=y):JV b Y W f k:=by
 obtain⟨p,q,h1,h2,h3⟩:=h
 exact⟨p,q,h1,h2.kn hk hy,h3.kn hk hy⟩
def JVs(b:Nat)(Y:List Nat)(W:World)(fs:List Value)(ks:List Nat):Prop:=fs.length=ks.length/\∀(j:Nat) f k,fs[j]? =some f->ks[j]? =some k->JV b Y W f k
theorem JVs.kn{b:Nat}{X Y:List Nat}{w0 W:World}{L:List (Nat×Obj)}{fs:List Value}{ks:List Nat}(h:JVs b X w0 fs ks)(hk:Kn X w0 W L)(hy:∀y∈Y,y∈X\/w0.heap.size<=y):JVs b Y W fs ks:=⟨h.1,fun j f k h1 h2=>(h.2 j f k h1 h2).kn hk hy⟩
theorem JVs.nil{b:Nat}{Y:List Nat}{W:World}:JVs b Y W [] []:=⟨rfl,fun j f k h=>by simp at h⟩
theorem JVs.snoc{b:Nat}{Y:List Nat}{W:World}{fs:List Value}{ks:List Nat}{f:Value}{k:Nat}(h:JVs b Y W fs ks)(hf:JV b Y W f k):JVs b Y W (fs++[f]) (ks++[k]):=by
 refine⟨by simp[h.1],fun j g i h1 h2=>?_⟩
 by_cases hj:j<fs.length
 ·rw[List.getElem?_append_left hj]at h1
  rw[List.getElem?_append_left (by rw[<- h.1];exact hj)]at h2;exact h.2 j g i h1 h2
 ·have hl:=h.1
  have hj2:j=fs.length:=by have:=(List.getElem?_eq_some_iff.1 h1).1;simp at this;omega
  subst hj2;rw[List.getElem?_append_right (Nat.le_refl _),Nat.sub_self]at h1;rw[hl,List.getElem?_append_right (Nat.le_refl _),Nat.sub_self]at h2;obtain rfl:=Option.some.inj h1;obtain rfl:=Option.some.inj h2;exact hf
def FRow(b:Nat)(Y:List Nat)(W:World)(v:Value)(ks:List Nat):Prop:=∃fs:List Value,RowY 1 Y W v (fs.map fun x=>[x])/\JVs b Y W fs ks
theorem FRow.kn{b:Nat}{X Y:List Nat}{w0 W:World}{L:List (Nat×Obj)}{v:Value}{ks:List Nat}(h:FRow b X w0 v ks)(hk:Kn X w0 W L)(hy:∀y∈Y,y∈X\/w0.heap.size<=y):FRow b Y W v ks:=by
 obtain⟨fs,h1,h2⟩:=h
 exact⟨fs,RowY.kn h1 hk hy,h2.kn hk hy⟩
theorem FRow.at{b:Nat}{Y:List Nat}{W:World}{a:Option Addr}{n cap:Nat}{ks:List Nat}(h:FRow b Y W (.slice a n cap) ks){j k:Nat}(hj:ks[j]? =some k):∃g o p q,a=some ⟨g,o,none⟩/\g∉Y/\g<W.heap.size/\W.cell? ⟨g,o+j,none⟩=some (.func (.func 106) #[] #[.pointer (some ⟨p,0,none⟩),.pointer (some ⟨q,0,none⟩)])/\CelY Y W p [.pointer (some ⟨b,0,none⟩)]/\CelY Y W q [.int .i64 (k:Int)]:=by
 obtain⟨fs,h1,h2,h3⟩:=h
 obtain⟨f,hf⟩:∃f,fs[j]? =some f:=⟨_,List.getElem?_eq_getElem (by rw[h2];exact(List.getElem?_eq_some_iff.1 hj).1)⟩
 obtain⟨g,o,h4,h5,h6,h7⟩:=fo h1 (j:=j) (cs:=[f]) (by rw[List.getElem?_map,hf];rfl)
 obtain⟨p,q,rfl,h8,h9⟩:=h3 j f k hf hj
 have h10:=h7 0 _ rfl
 rw[Nat.mul_one,Nat.add_zero]at h10
 exact⟨g,o,p,q,h4,h5,h6,h10,h8,h9⟩
theorem FRow.len{b:Nat}{Y:List Nat}{W:World}{v:Value}{ks:List Nat}(h:FRow b Y W v ks):∃a cap,v=.slice a ks.length cap:=by
 obtain⟨fs,⟨a,c,h1,_⟩,h2,_⟩:=h
 rw[List.length_map,h2]at h1
 exact⟨a,c,h1⟩
def FRows(b:Nat)(Y:List Nat)(W:World)(vs:List Value)(hs:List (List Nat)):Prop:=vs.length=hs.length/\∀(j:Nat) v ks,vs[j]? =some v->hs[j]? =some ks->FRow b Y W v ks
theorem FRows.kn{b:Nat}{X Y:List Nat}{w0 W:World}{L:List (Nat×Obj)}{vs:List Value}{hs:List (List Nat)}(h:FRows b X w0 vs hs)(hk:Kn X w0 W L)(hy:∀y∈Y,y∈X\/w0.heap.size<=y):FRows b Y W vs hs:=⟨h.1,fun j f k h1 h2=>(h.2 j f k h1 h2).kn hk hy⟩
theorem FRows.nil{b:Nat}{Y:List Nat}{W:World}:FRows b Y W [] []:=⟨rfl,fun j f k h=>by simp at h⟩
theorem FRows.snoc{b:Nat}{Y:List Nat}{W:World}{vs:List Value}{hs:List (List Nat)}{f:Value}{k:List Nat}(h:FRows b Y W vs hs)(hf:FRow b Y W f k):FRows b Y W (vs++[f]) (hs++[k]):=by
 refine⟨by simp[h.1],fun j g i h1 h2=>?_⟩
 by_cases hj:j<vs.length
 ·rw[List.getElem?_append_left hj]at h1
  rw[List.getElem?_append_left (by rw[<- h.1];exact hj)]at h2;exact h.2 j g i h1 h2
 ·have hl:=h.1
  have hj2:j=vs.length:=by have:=(List.getElem?_eq_some_iff.1 h1).1;simp at this;omega
  subst hj2;rw[List.getElem?_append_right (Nat.le_refl _),Nat.sub_self]at h1;rw[hl,List.getElem?_append_right (Nat.le_refl _),Nat.sub_self]at h2;obtain rfl:=Option.some.inj h1;obtain rfl:=Option.some.inj h2;exact hf
theorem JVs.mk2{b:Nat}{X:List Nat}{w0 W:World}{o:Obj}{LP:List (Nat×Obj)}{fs:List Value}{ks:List Nat}(h:JVs b X w0 fs ks)(k:Kn X w0 W ((b,o)::LP)):JVs b (b::keys LP) W fs ks:=h.kn k k.own2
theorem FRow.mk2{b:Nat}{X:List Nat}{w0 W:World}{o:Obj}{LP:List (Nat×Obj)}{v:Value}{ks:List Nat}(h:FRow b X w0 v ks)(k:Kn X w0 W ((b,o)::LP)):FRow b (b::keys LP) W v ks:=h.kn k k.own2
theorem FRows.mk2{b:Nat}{X:List Nat}{w0 W:World}{o:Obj}{LP:List (Nat×Obj)}{vs:List Value}{hs:List (List Nat)}(h:FRows b X w0 vs hs)(k:Kn X w0 W ((b,o)::LP)):FRows b (b::keys LP) W vs hs:=h.kn k k.own2
theorem MkQ.rez{W0 w W:World}{b:Nat}{o:Obj}{s:PS}{v:Value}{LZ LZ2 LC:List (Nat×Obj)}(h:MkQ W0 LZ w b s v (LC++LZ))(hk:Kn (b::keys (LC++LZ)) w W ((b,o)::(LC++LZ2)))(hz:∀p∈LZ2,∃c t,p.2=.cells c t (0,0)/\t≠118):MkQ W0 LZ2 W b s v (LC++LZ2):=by
 obtain⟨cv,h1,⟨LC9,e,h2,_⟩,h3,h4,h5,h6,h7⟩:=h
 obtain rfl:=List.append_cancel_right e
 have hX:∀y∈b::keys (LC++LZ),W0.heap.size<=y:=fun y hy=>by
  rcases List.mem_cons.1 hy with rfl|hy
  ·exact h5
  ·obtain⟨p,hp,rfl⟩:=List.mem_map.1 hy;exact h6 p hp
 refine⟨cv,h1,⟨LC,rfl,h2,hz⟩,fun x hx=>RowY.kn (h3 x hx) hk hk.own2,fE h4 hk hX,h5,fun p hp=>?_,h7⟩
 rcases hk.own p (List.mem_cons_of_mem _ hp)with e|e
 ·exact Nat.le_trans h4.size e
 ·exact hX _ e
theorem MkQ.open{W0 w:World}{b:Nat}{s:PS}{v:Value}{LZ LP:List (Nat×Obj)}(h:MkQ W0 LZ w b s v LP):∃LC,LP=LC++LZ/\∀p∈LZ,∃c t,p.2=.cells c t (0,0)/\t≠118:=by
 obtain⟨cv,h1,⟨LC,e,_,hz⟩,_⟩:=h
 exact⟨LC,e,hz⟩
theorem RowL.typed{k n:Nat}{e:TypeId}{LP:List (Nat×Obj)}{v:Value}{xs:List Value}(h:RowL k e LP v n xs)(he:e≠118):∀p∈LP,∃c t,p.2=.cells c t (0,0)/\t≠118:=fun p hp=>by
 rcases h with⟨rfl,_⟩|⟨g,cap,cur,rfl,_⟩
 ·cases hp
 ·obtain rfl:=List.mem_singleton.1 hp
  exact⟨_,_,rfl,he⟩
def Am.alla(PW:Wd->Prop)(PT:Tr->Prop):Am->Prop
 |.nil=>True
 |.cons w b r=>w.allw PW/\PT b/\r.alla PW PT
theorem su:∀w:Ws,w.ws.length<=w.b
 |.nil=>Nat.le_refl _
 |.cons g w r=>by have:=su r;simp only[Ws.ws,Ws.b,List.length_cons];omega
def ARow(Y:List Nat)(W:World)(v:Value)(xs:List Value):Prop:=RowY 1 Y W v (xs.map fun x=>[x])
theorem ARow.mk2{X:List Nat}{w0 W:World}{b:Nat}{o:Obj}{LP:List (Nat×Obj)}{v:Value}{xs:List Value}(h:ARow X w0 v xs)(k:Kn X w0 W ((b,o)::LP)):ARow (b::keys LP) W v xs:=RowY.kn h k k.own2
theorem ARow.at{Y:List Nat}{W:World}{a:Option Addr}{n cap:Nat}{xs:List Value}(h:ARow Y W (.slice a n cap) xs){j:Nat}{x:Value}(hj:xs[j]? =some x):∃g o,a=some ⟨g,o,none⟩/\g∉Y/\g<W.heap.size/\W.cell? ⟨g,o+j,none⟩=some x:=by
 obtain⟨g,o,h4,h5,h6,h7⟩:=fo h (j:=j) (cs:=[x]) (by rw[List.getElem?_map,hj];rfl)
 have h10:=h7 0 _ rfl
 rw[Nat.mul_one,Nat.add_zero]at h10
 exact⟨g,o,h4,h5,h6,h10⟩
theorem Kn.apart{X:List Nat}{w0 W:World}{A M:List (Nat×Obj)}(h:Kn X w0 W (A++M)):∀p∈A,p.1∉keys M:=fun p hp hm=>by
 have nd:=h.nd
 rw[List.map_append,List.nodup_append]at nd
 exact nd.2.2 _ (List.mem_map.2 ⟨p,hp,rfl⟩) _ hm rfl
theorem RowL.row1{e:TypeId}{A M:List (Nat×Obj)}{X:List Nat}{w0 W:World}{v:Value}{n:Nat}{xs:List Value}(h:RowL 1 e A v n xs)(hk:Kn X w0 W (A++M)):RowY 1 (keys M) W v (xs.map fun x=>[x]):=by
 have hl:xs.length=n:=by
  rcases h with⟨_,_,rfl,rfl⟩|⟨g,cap,cur,_,_,hb⟩
  ·rfl
  ·have:=hb.len;omega
 subst hl
 have hf:∀l:List Value,l.flatMap (fun x=>[x])=l:=fun l=>by induction l with
  |nil=>rfl
  |cons a l ih=>rw[List.flatMap_cons,ih];rfl
 exact RowL.rowY (f:=fun x=>[x]) (fun _=>rfl) (by rw[hf];exact h) hk (fun p hp=>List.mem_append_left _ hp) hk.apart
theorem zu{e:TypeId}{g:Nat}{v:Value}:RowL 1 e [(g,.cells #[v] e (0,0))] (.slice (some ⟨g,0,none⟩) 1 1) 1 [v]:=.inr ⟨g,1,#[v],rfl,rfl,⟨rfl,Nat.le_refl _,by simp[maxLen],rfl,rfl⟩⟩
theorem Kn.rotC{X:List Nat}{w0 W:World}{p0 p1:Nat×Obj}{LC LL R:List (Nat×Obj)}(h:Kn X w0 W (p0::p1::(LC++(LL++R)))):Kn X w0 W (p0::p1::((LC++R)++LL)):=h.perm fun p=>by simp only[List.countP_cons,List.countP_append];omega
theorem Kn.unC{X:List Nat}{w0 W:World}{p0 p1:Nat×Obj}{LC LL R:List (Nat×Obj)}(h:Kn X w0 W (p0::p1::((LC++R)++LL))):Kn X w0 W (p1::(LC++(LL++R))):=h.perml fun p=>by simp only[List.countP_cons,List.countP_append,List.countP_nil];omega
theorem Kn.unD{X:List Nat}{w0 W:World}{p0 p1:Nat×Obj}{LC LL LA R:List (Nat×Obj)}(h:Kn X w0 W (p0::p1::((LC++(LL++R))++LA))):Kn X w0 W (p1::(LC++(LA++R))):=h.perml fun p=>by simp only[List.countP_cons,List.countP_append,List.countP_nil];omega
theorem Kn.unE{X:List Nat}{w0 W:World}{p0 p1:Nat×Obj}{LC LL LA R:List (Nat×Obj)}(h:Kn X w0 W (p0::p1::((LC++(LL++R))++LA))):Kn X w0 W (LL++(p1::(LC++(LA++R)))):=h.perml fun p=>by simp only[List.countP_cons,List.countP_append,List.countP_nil];omega
theorem Kn.drC{X:List Nat}{w0 W:World}{p0:Nat×Obj}{LC LA R:List (Nat×Obj)}(h:Kn X w0 W (p0::(LC++(LA++R)))):Kn X w0 W (p0::(LC++R)):=h.perml fun p=>by simp only[List.countP_cons,List.countP_append,List.countP_nil];omega
theorem Kn.drE{X:List Nat}{w0 W:World}{p0:Nat×Obj}{LC LA R:List (Nat×Obj)}(h:Kn X w0 W (p0::(LC++(LA++R)))):Kn X w0 W (LA++(p0::(LC++R))):=h.perml fun p=>by simp only[List.countP_cons,List.countP_append,List.countP_nil];omega
theorem Kn.ptC{X:List Nat}{w0 W:World}{p0 p1:Nat×Obj}{LC R:List (Nat×Obj)}(h:Kn X w0 W (p0::p1::(LC++R))):Kn X w0 W (p1::(LC++([p0]++R))):=h.perml fun p=>by simp only[List.countP_cons,List.countP_append,List.countP_nil];omega
theorem Kn.rotD{X:List Nat}{w0 W:World}{p0 p1:Nat×Obj}{LC LL LA R:List (Nat×Obj)}(h:Kn X w0 W (p0::p1::(LC++(LL++(LA++R))))):Kn X w0 W (p0::p1::((LC++(LL++R))++LA)):=h.perm fun p=>by simp only[List.countP_cons,List.countP_append];omega
end Go.Proofs.YtgboffbbpmileaaGreatDoor
