/- Lemmas and walks for the law VLawPSound (part 7). -/
import Derived.Test.YtgboffbbpmileaaGreatDoorPx6
import Derived.Test.YtgboffbbpmileaaGreatDoorProg
import Derived.WalkKit
import Derived.Handy
import Derived.Deep.Light
import Derived.WalkSmall
import Derived.StillTailTactics
import Derived.Lib.Hide
import Derived.Deep.LoopGhost
import Derived.Deep.DeepCutAuto
set_option maxRecDepth 20000
set_option maxHeartbeats 4000000
set_option linter.unusedVariables false
set_option linter.unusedSimpArgs false
namespace Go.Proofs.YtgboffbbpmileaaGreatDoor
open Go Go.RowKit
section
theorem mZ{f:Nat}{x:Sim}{ts:List Tok}(h2:isK 2 ts=false)(h0:isK 0 ts=false):aS f x ts=.ok x.nd ts:=by
 cases f with
 |zero=>rfl
 |succ f=>
  cases ts with
  |nil=>rfl
  |cons t r=>
   simp only[isK,beq_eq_false_iff_ne,ne_eq]at h2 h0;simp only[aS];rw[if_neg h2,if_neg h0]
theorem jJ{f:Nat}{x:Sim}{ts:List Tok}(h2:isK 2 ts=true)(hf:ts.length<=f):∃f',f=f'+1/\aS f x ts=(dJ ts).bind fun y r=>aS f' ⟨x.a,x.w,x.r++[y]⟩ r:=by
 cases ts with
 |nil=>cases h2
 |cons t r=>
  cases f with
  |zero=>simp at hf
  |succ f=>
   simp only[isK,beq_iff_eq]at h2;refine⟨f,rfl,?_⟩;simp only[aS];rw[if_pos h2]
theorem oL{f:Nat}{x:Sim}{t:Tok}{r:List Tok}(h0:t.kind=0)(hf:r.length+1<=f):∃f',f=f'+1/\aS f x (t::r)=aS f' (x.word t.parts) r:=by
 cases f with
 |zero=>omega
 |succ f=>
  refine⟨f,rfl,?_⟩;simp only[aS];rw[if_neg (by omega),if_pos h0]
theorem eQ{ts:List Tok}{y:Int×Nat×List Prt}{r:List Tok}(h:dJ ts=.ok y r):r.length+2<=ts.length:=by
 have:=gX ts
 rw[h]at this
 exact this.2
theorem oM{k:Nat}{W0:World}{L:List (Nat×Obj)}{v:Value}{xs:List (List Value)}(h:RowM k W0 L v xs):∃ao n cap,v=.slice ao n cap:=by
 obtain⟨ao,cap,h1,_⟩:=h;exact⟨ao,_,cap,h1⟩
theorem pT{i g o cap:Nat}{tvs:List (Tok×Value)}{j:Nat}{vj:Value}(h:AtV g o cap tvs j vj){n:Nat}(e:((TT tvs).drop j).length+n<=((TT tvs).drop i).length)(hi:i<tvs.length):i+n<=j:=by
 have h1:=h.1
 rw[List.length_drop,List.length_drop,ep]at e
 omega
theorem tj{W0:World}(av:List ((ab×List Prt)×Value))(wv:List (List Prt×Value))(rv:List ((Int×Nat×List Prt)×Value)){aa aw ar:Option Addr}{ca cw cr:Nat}{LC LA LW LR:List (Nat×Obj)}(HRA:RowL 2 91 LA (.slice aa av.length ca) av.length (av.flatMap asc))(HRW:RowL 1 29 LW (.slice aw wv.length cw) wv.length (wv.flatMap fun x=>[x.2]))(HRR:RowL 3 94 LR (.slice ar rv.length cr) rv.length (rv.flatMap rsc))
  (HPA:∀x∈av,PRm W0 LC x.2 x.1.2) (HPW:∀x∈wv,PRm W0 [] x.2 x.1) (HPR:∀x∈rv,PRm W0 [] x.2 x.1.2.2):NodeL W0 (LC++(LA++(LW++LR))) (Sim.nd ⟨av.map (·.1),wv.map (·.1),rv.map (·.1)⟩) [.int .i64 ((Sim.nd ⟨av.map (·.1),wv.map (·.1),rv.map (·.1)⟩).kind:Int),.string ⟨#[]⟩,.bool (Sim.nd ⟨av.map (·.1),wv.map (·.1),rv.map (·.1)⟩).neg,.slice aa av.length ca,.slice aw wv.length cw,.slice ar rv.length cr,.slice none 0 0]:=by
 have m1:∀p∈LA,p∈LC++(LA++(LW++LR)):=fun p hp=>List.mem_append_right _ (List.mem_append_left _ hp)
 have m2:∀p∈LW,p∈LC++(LA++(LW++LR)):=fun p hp=>List.mem_append_right _ (List.mem_append_right _ (List.mem_append_left _ hp))
 have m3:∀p∈LR,p∈LC++(LA++(LW++LR)):=fun p hp=>List.mem_append_right _ (List.mem_append_right _ (List.mem_append_right _ hp))
 have r1:=RowL.rowM (W0:=W0) (f:=asc) (fun _=>rfl) HRA m1
 have r2:=RowL.rowM (W0:=W0) (f:=fun x:List Prt×Value=>[x.2]) (fun _=>rfl) HRW m2
 have r3:=RowL.rowM (W0:=W0) (f:=rsc) (fun _=>rfl) HRR m3
 show NodeL W0 _ (.mk 0 [] false (av.map (·.1)) (wv.map (·.1)) (rv.map (·.1)) (([]:List (Nd×List Value)).map (·.1))) [.int .i64 ((0:Nat):Int),bs [],.bool false,.slice aa av.length ca,.slice aw wv.length cw,.slice ar rv.length cr,.slice none 0 0]
 exact NodeL.mk 0 [] false av wv rv [] _ _ _ _ r1 (fun x hx=>(HPA x hx).mono (fun p hp=>List.mem_append_left _ hp)) r2 (fun x hx=>(HPW x hx).mono (fun p hp=>by cases hp)) r3 (fun x hx=>(HPR x hx).mono (fun p hp=>by cases hp)) RowM.nil (fun x hx=>by cases hx)
theorem Kn.rot5A{X:List Nat}{w0 W:World}{p0 p1 p2 p3 p4:Nat×Obj}{LC LA LW LR:List (Nat×Obj)}(h:Kn X w0 W (p0::p1::p2::p3::p4::(LC++(LA++(LW++LR))))):Kn X w0 W (p0::p1::p2::p3::p4::((LC++(LW++LR))++LA)):=h.perm fun p=>by simp only[List.countP_cons,List.countP_append];omega
theorem Kn.rot5W{X:List Nat}{w0 W:World}{p0 p1 p2 p3 p4:Nat×Obj}{LC LA LW LR:List (Nat×Obj)}(h:Kn X w0 W (p0::p1::p2::p3::p4::(LC++(LA++(LW++LR))))):Kn X w0 W (p0::p1::p2::p3::p4::((LC++(LA++LR))++LW)):=h.perm fun p=>by simp only[List.countP_cons,List.countP_append];omega
theorem Kn.in3{X:List Nat}{w0 W:World}{p0 p1 p2:Nat×Obj}{LP LC R:List (Nat×Obj)}(h:Kn X w0 W (LP++(p0::p1::p2::(LC++R)))):Kn X w0 W (p0::p1::p2::((LP++LC)++R)):=h.perm fun p=>by simp only[List.countP_cons,List.countP_append];omega
theorem Kn.rot4R{X:List Nat}{w0 W:World}{p0 p1 p2 p3:Nat×Obj}{LC LA LW LR:List (Nat×Obj)}(h:Kn X w0 W (p0::p1::p2::p3::(LC++(LA++(LW++LR))))):Kn X w0 W (p0::p1::p2::p3::((LC++(LA++LW))++LR)):=h.perm fun p=>by simp only[List.countP_cons,List.countP_append];omega
def AK(W0:World)(r:Option (ab×List Prt))(w:World)(e:Ending)(w':World):Prop:=match r with
 |some z=>∃LP ao k7 c7,e=.returned (.tuple #[.agg #[.string ⟨z.1.toArray⟩,.slice ao k7 c7],.bool true])/\Hid (PRm W0 LP (.slice ao k7 c7) z.2)/\Kn [] w w' LP
 |none=>e=.returned (.tuple #[.agg #[.string ⟨#[]⟩,.slice none 0 0],.bool false])/\Below w.heap.size w w'
theorem AsgR.v{W0:World}{r:Option (ab×List Prt)}{w:World}{e:Ending}{w':World}(h:AsgR W0 r w e w'):AK W0 r w e w':=by
 cases r with
 |none=>exact h
 |some z=>
  obtain⟨n,p⟩:=z;obtain⟨LP,v,h1,h2,h3⟩:=h;obtain⟨ao,k7,c7,rfl⟩:=oM h2.out;exact⟨LP,ao,k7,c7,h1,h2,h3⟩
theorem tm(av:List ((ab×List Prt)×Value))(wv:List (List Prt×Value))(rv:List ((Int×Nat×List Prt)×Value)){ps:List Prt}(v:Value)(h:aG ps=none\/((wv.length:Int)==0)=false):Sim.word ⟨av.map (·.1),wv.map (·.1),rv.map (·.1)⟩ ps=⟨av.map (·.1),(wv++[(ps,v)]).map (·.1),rv.map (·.1)⟩:=by
 unfold Sim.word
 rw[List.map_append]
 rcases h with h|h
 ·rw[h];rfl
 ·have:((wv.map (·.1)).isEmpty)=false:=by
   cases wv with
   |nil=>cases h
   |cons x r=>rfl
  cases aG ps with
  |none=>rfl
  |some y=>simp only[this];rfl
theorem yx(av:List ((ab×List Prt)×Value))(wv:List (List Prt×Value))(rv:List ((Int×Nat×List Prt)×Value)){ps:List Prt}{z:ab×List Prt}(v:Value)(h:aG ps=some z)(hw:((wv.length:Int)==0)=true):Sim.word ⟨av.map (·.1),wv.map (·.1),rv.map (·.1)⟩ ps=⟨(av++[(z,v)]).map (·.1),wv.map (·.1),rv.map (·.1)⟩:=by
 cases wv with
 |cons x r=>exfalso;rw[beq_iff_eq]at hw;simp at hw;omega
 |nil=>unfold Sim.word;rw[h,List.map_append];rfl
theorem Kn.name{X:List Nat}{w0 W:World}{L L':List (Nat×Obj)}[h:Kn X w0 W L](k:Kn X w0 W L->Kn X w0 W L'):Kn X w0 W L':=k h
theorem bQ{α:Type}{P:α->Prop}{l:List α}{x:α}(h:∀y∈l,P y)(hx:P x):∀y∈l++[x],P y:=fun y hy=>by
 rcases List.mem_append.1 hy with hy|hy
 ·exact h y hy
 ·rw[List.mem_singleton.1 hy];exact hx
theorem vX{W0:World}{b d j g o cap:Nat}{tvs:List (Tok×Value)}{w W:World}{vj:Value}(av:List ((ab×List Prt)×Value))(wv:List (List Prt×Value))(rv:List ((Int×Nat×List Prt)×Value)){aa aw ar:Option Addr}{ca cw cr:Nat}{LC LA LW LR:List (Nat×Obj)}(HRA:RowL 2 91 LA (.slice aa av.length ca) av.length (av.flatMap asc))(HRW:RowL 1 29 LW (.slice aw wv.length cw) wv.length (wv.flatMap fun x=>[x.2]))(HRR:RowL 3 94 LR (.slice ar rv.length cr) rv.length (rv.flatMap rsc))
  (HPA:∀x∈av,PRm W0 LC x.2 x.1.2) (HPW:∀x∈wv,PRm W0 [] x.2 x.1) (HPR:∀x∈rv,PRm W0 [] x.2 x.1.2.2) (Hvj:AtV g o cap tvs j vj) {q1 q2:Nat×Obj} (hL:Kn [b] w W ((b,.cells #[vj,.int .i64 (d:Int)] 73 (0,0))::q1::q2::(LC++(LA++(LW++LR))))):
  cR W0 b d g o cap tvs w (.ok (Sim.nd ⟨av.map (·.1),wv.map (·.1),rv.map (·.1)⟩) ((TT tvs).drop j)) (.returned (.agg #[.int .i64 0,.string ⟨#[]⟩,.bool false,.slice aa av.length ca,.slice aw wv.length cw,.slice ar rv.length cr,.slice none 0 0])) W:=
 ⟨⟨#[]⟩,aa,av.length,ca,aw,wv.length,cw,ar,rv.length,cr,none,0,0,LC++(LA++(LW++LR)),j,vj,rfl,yh (tj av wv rv HRA HRW HRR HPA HPW HPR),yh ⟨Hvj,rfl⟩,hL.sub (sC (sD (sD sR)))⟩
theorem yy{W0:World}{g o cap:Nat}{tvs:List (Tok×Value)}(E:PEnv W0 g o cap tvs){i j:Nat}{y:Tok×Value}(hy:tvs[j]? =some y)(hk:isK 0 ((TT tvs).drop j)=true)(x:Sim)(HF:∃f,((TT tvs).drop j).length<=f/\simple ((TT tvs).drop i)=aS f x ((TT tvs).drop j)):
  y.1.kind≠4/\∃f,((TT tvs).drop (j+1)).length<=f/\simple ((TT tvs).drop i)=aS f (x.word y.1.parts) ((TT tvs).drop (j+1)):=by
 rcases bD E hy with h|⟨hdr,h4,_⟩
 ·rw[h.1]at hk;cases hk
 ·refine⟨h4,?_⟩
  obtain⟨f,hf1,hf⟩:=HF;rw[hdr]at hk hf1 hf;rw[List.length_cons]at hf1;have hy0:y.1.kind=0:=by simpa[isK]using hk
  obtain⟨f2,rfl,hf3⟩:=oL (f:=f) (x:=x) (t:={y.1 with line:=0}) (r:=(TT tvs).drop (j+1)) hy0 hf1;exact⟨f2,by omega,by rw[hf,hf3]⟩
theorem yz{ts r:List Tok}{y:Int×Nat×List Prt}(hk:isK 2 ts=true)(x:Sim){p:PR Nd}(HF:∃f,ts.length<=f/\p=aS f x ts)(hr:dJ ts=.ok y r):∃f,r.length<=f/\p=aS f ⟨x.a,x.w,x.r++[y]⟩ r:=by
 obtain⟨f,hf1,hf⟩:=HF
 obtain⟨f2,rfl,hf3⟩:=jJ (x:=x) hk hf1
 have:=eQ hr
 exact⟨f2,by omega,by rw[hf,hf3,hr];rfl⟩
theorem vY{ts:List Tok}{er m:Nat}(hk:isK 2 ts=true)(x:Sim){p:PR Nd}(HF:∃f,ts.length<=f/\p=aS f x ts)(hr:dJ ts=.bad er m):p=.bad er m:=by
 obtain⟨f,hf1,hf⟩:=HF
 obtain⟨f2,rfl,hf3⟩:=jJ (x:=x) hk hf1
 rw[hf,hf3,hr];rfl
theorem tp{W0:World}{g o cap:Nat}{tvs:List (Tok×Value)}(E:PEnv W0 g o cap tvs)(b i:Nat)(v:Value)(d:Nat)(w:World)(hB:Below W0.heap.size W0 w)(hbb:W0.heap.size<=b)(hv:Hid (AtV g o cap tvs i v))(hb:w.heap[b]? =some (.cells #[v,.int .i64 (d:Int)] 73 (0,0))):Calls Tryz.prog 123 #[.pointer (some ⟨b,0,none⟩)] w fun e w'=>cR W0 b d g o cap tvs w (simple ((TT tvs).drop i)) e w':=by
 obtain⟨x,pa,pn,pc,hx,hx2⟩:=E.tok hv.out
 have HX:=yh hx
 have HX2:=yh hx2
 obtain⟨f0,f1,f2,f3,f4,f5⟩:=tkF x.1.kind x.1.fd x.1.line ⟨x.1.text.toArray⟩ ⟨x.1.plain.toArray⟩ pa pn pc
 clear hx hx2
 obtain⟨k0,hk0⟩:∃z:Bool,((x.1.kind:Int) != 0)=z:=⟨_,rfl⟩
 obtain⟨k2,hk2⟩:∃z:Bool,((x.1.kind:Int) != 2)=z:=⟨_,rfl⟩
 have HS:simple ((TT tvs).drop i)=if(k0&&k2)=true then syn ((TT tvs).drop i)else aS ((TT tvs).drop i).length ⟨[],[],[]⟩ ((TT tvs).drop i):=by
  unfold simple;rw[lF E HX.out 0 (by omega),lF E HX.out 2 (by omega),show((x.1.kind:Int)==((0:Nat):Int))= !k0 from by rw[<- hk0];exact(Bool.not_not _).symm,show((x.1.kind:Int)==((2:Nat):Int))= !k2 from by rw[<- hk2];exact(Bool.not_not _).symm]
  cases k0<;>cases k2<;>rfl
 have hi:=hv.out.1
 have hmx:=E.max
 obtain⟨m,hm⟩:∃m,m=((TT tvs).drop i).length:=⟨_,rfl⟩
 have Hm:=yh hm
 clear hm
 by_cases hkk:(k0&&k2)=true
 ·rw[if_pos hkk]at HS
  rw[HS];clear HS;have HB0:=yh hB;have HXB:=yh (xb hbb);have hL:Kn [b] w w [(b,.cells #[v,.int .i64 (d:Int)] 73 (0,0))]:=Kn.one hb;have HBS:=yh hb;clear hB hb;have hF:=hL.fx;go_enter Tryz.func123,Tryz.ntmps123;obtain⟨rfl,rfl⟩:=(Bool.and_eq_true _ _▸hkk:k0=true/\k2=true);go_wp2_with (first|(with_reducible refine zS ?_;intro W hL hF)|(go_at_call 27;refine zC (fun W hL=>aK E b i v (d:Int) _ (af HB0.out hL HXB.out) hbb hv hL.h2 HX.out pa pn pc HX2.out) ?_;intro W hL hF)|(go_at_call 28;(with_reducible refine zM (fun W hL=>fg E b i v d _ (af HB0.out hL HXB.out) hbb hv hL.h2 27 d 1 (yh rfl) m Hm) ?_);rintro W hL e W ⟨vj,dj,rfl,hb⟩;replace hL:=hL.jn 2 hb;clear hb;have hF:=hL.fx))
  exact⟨rfl,_,_,by rw[Hm.out]<;>rfl,hL.sub (by repeat' (first|exact List.Sublist.refl _|apply List.Sublist.cons_cons|apply List.Sublist.cons))⟩
 ·rw[if_neg hkk]at HS
  have HS2:=yh HS;clear HS;have HB0:=yh hB;have HXB:=yh (xb hbb);have hL:Kn [b] w w [(b,.cells #[v,.int .i64 (d:Int)] 73 (0,0))]:=Kn.one hb;have HBS:=yh hb;clear hB hb;have hF:=hL.fx;go_enter Tryz.func123,Tryz.ntmps123;go_upto_region 3 with((go_at_call 27;refine zC (fun W hL=>aK E b i v (d:Int) _ (af HB0.out hL HXB.out) hbb hv hL.h2 HX.out pa pn pc HX2.out) ?_;intro W hL hF))
  go_cut [17] (fun s wc=>s=.bool false/\Kn [b] w wc ((b,.cells #[v,.int .i64 (d:Int)] 73 (0,0))::(w.heap.size+1,.cells #[.int .i64 0,.string ⟨#[]⟩,.bool false,.slice none 0 0,.slice none 0 0,.slice none 0 0,.slice none 0 0] 41 (0,0))::(w.heap.size,.cells #[.int .i64 0,.string ⟨#[]⟩,.bool false,.slice none 0 0,.slice none 0 0,.slice none 0 0,.slice none 0 0] 41 (0,0))::([])))
  case first=>
   cases k0<;>cases k2
   case true.true=>exact absurd rfl hkk
   all_goals (
    go_wp2;go_meet
    case rel=>exact⟨rfl,hL.pm⟩)
  case rest=>
   clear hL;obtain⟨rfl,hL⟩:=hcut;have hF:=hL.fx;go_wp2;go_loopg [] (tvs.length-i) (fun n wr=>∃(j:Nat) (vj:Value) (av:List ((ab×List Prt)×Value)) (wv:List (List Prt×Value)) (rv:List ((Int×Nat×List Prt)×Value)) (aa aw ar:Option Addr) (ca cw cr:Nat) (LC LA LW LR:List (Nat×Obj)),n=tvs.length-j/\Hid (AtV g o cap tvs j vj)/\Hid (∃f,((TT tvs).drop j).length<=f/\simple ((TT tvs).drop i)=aS f ⟨av.map (·.1),wv.map (·.1),rv.map (·.1)⟩ ((TT tvs).drop j))/\Hid (RowL 2 91 LA (.slice aa av.length ca) av.length (av.flatMap asc))/\Hid (RowL 1 29 LW (.slice aw wv.length cw) wv.length (wv.flatMap fun x=>[x.2]))/\Hid (RowL 3 94 LR (.slice ar rv.length cr) rv.length (rv.flatMap rsc))/\Hid (∀x∈av,PRm W0 LC x.2 x.1.2)/\Hid (∀x∈wv,PRm W0 [] x.2 x.1)/\Hid (∀x∈rv,PRm W0 [] x.2 x.1.2.2)/\av.length+wv.length+rv.length<=j/\j<tvs.length/\Kn [b] w wr ((b,.cells #[vj,.int .i64 (d:Int)] 73 (0,0))::(w.heap.size+1,.cells #[.int .i64 0,.string ⟨#[]⟩,.bool false,.slice aa av.length ca,.slice aw wv.length cw,.slice ar rv.length cr,.slice none 0 0] 41 (0,0))::(w.heap.size,.cells #[.int .i64 0,.string ⟨#[]⟩,.bool false,.slice none 0 0,.slice none 0 0,.slice none 0 0,.slice none 0 0] 41 (0,0))::(LC++(LA++(LW++LR)))))
   case atStart=>exact⟨i,v,[],[],[],none,none,none,0,0,0,[],[],[],[],rfl,hv,yh ⟨_,Nat.le_refl _,HS2.out⟩,yh RowL.nil,yh RowL.nil,yh RowL.nil,yh (by simp),yh (by simp),yh (by simp),by simp,hi,hL.pm⟩
   case round=>
    clear hL;obtain⟨j,vj,av,wv,rv,aa,aw,ar,ca,cw,cr,LC,LA,LW,LR,rfl,Hvj,HF,HRA,HRW,HRR,HPA,HPW,HPR,hsz,hjl,hL⟩:=hrel;have hF:=hL.fx;obtain⟨y,pa9,pn9,pc9,hx9,hx29⟩:=E.tok Hvj.out;have HX9:=yh hx9;have HX29:=yh hx29;obtain⟨f09,f19,f29,f39,f49,f59⟩:=tkF y.1.kind y.1.fd y.1.line ⟨y.1.text.toArray⟩ ⟨y.1.plain.toArray⟩ pa9 pn9 pc9;clear hx9 hx29;obtain⟨e2,he2⟩:∃z:Bool,((y.1.kind:Int)==2)=z:=⟨_,rfl⟩;obtain⟨e0,he0⟩:∃z:Bool,((y.1.kind:Int)==0)=z:=⟨_,rfl⟩;have HK2:=yh ((lF E HX9.out 2 (by omega)).trans he2);have HK0:=yh ((lF E HX9.out 0 (by omega)).trans he0)
    cases e2
    ·cases e0
     ·have hs9:simple ((TT tvs).drop i)=.ok (Sim.nd ⟨av.map (·.1),wv.map (·.1),rv.map (·.1)⟩) ((TT tvs).drop j):=by
       obtain⟨f,_,hf⟩:=HF.out;rw[hf,mZ HK2.out HK0.out]
      have HS9:=yh hs9;clear hs9;go_wp2_with (first|(with_reducible refine zS ?_;intro W hL hF)|(go_at_call 27;refine zC (fun W hL=>aK E b j vj (d:Int) _ (af HB0.out hL HXB.out) hbb Hvj hL.h0 HX9.out pa9 pn9 pc9 HX29.out) ?_;intro W hL hF))
      refine zF ?_;intro W hL hF;refine bodyPost_ret (by simp[results,Tryz.results123,go_sem, *];try rfl) rfl ?_;rw[HS9.out];exact vX av wv rv HRA.out HRW.out HRR.out HPA.out HPW.out HPR.out Hvj.out hL
     ·have hw9:=yy E HX9.out HK0.out _ HF.out
      have H49:=yh hw9.1;have HF2:=hw9.2;clear hw9;obtain⟨kw,hkw⟩:∃z:Bool,((wv.length:Int)==0)=z:=⟨_,rfl⟩;have HKW:=yh hkw;have HASG:=yh (fun W (hB:Below W0.heap.size W0 W)=>(lI E (List.mem_of_getElem? HX9.out) pa9 pn9 pc9 HX29.out W hB).mono fun _ _ h=>h.v);have HPT:=yh (eH E (List.mem_of_getElem? HX9.out) (L:=[]));rw[HX29.out]at HPT
      cases has:aG y.1.parts with
      |none=>
       rw[has]at HASG;rw[tm av wv rv (.slice pa9 pn9 pc9) (.inl has)]at HF2;have HF3:=yh HF2;clear HF2 has;go_wp2_with (first|(with_reducible refine zS ?_;intro W hL hF)|(go_at_call 27;refine zC (fun W hL=>aK E b j vj (d:Int) _ (af HB0.out hL HXB.out) hbb Hvj hL.h0 HX9.out pa9 pn9 pc9 HX29.out) ?_;intro W hL hF)|(go_at_call 53;(with_reducible refine zM (fun W hL=>d_ E b j vj (d:Int) _ (af HB0.out hL HXB.out) hbb Hvj hL.h0 HX9.out pa9 pn9 pc9 HX29.out H49.out) ?_);rintro W hL e W ⟨rfl,vj2,HVJ2,hb⟩;replace hL:=hL.jn 0 hb;clear hb;have hF:=hL.fx)|(go_at_call 147;refine zC (fun W hL=>HASG.out _ (af HB0.out hL HXB.out)) ?_;intro W hL hF)|(at_builtin;refine zL ?_;intro W hL hF;replace hL:=hL.rot5W;clear hF;have hF:=hL.fx;(refine ah rfl _ _ 37 37 rfl (_::_::_::_::_::(LC++(LA++LR))) LW hL wv.length 1 (wv.flatMap fun x=>[x.2]) [.slice pa9 pn9 pc9] _ _ HRW.out rfl rfl (fun ho=>dU rfl (fun j u hu=>by rw[Go.WideShapes.add_plain,Nat.zero_add,aO hL m0];simpa using hu) (by intro u hu;simp only[List.mem_cons,List.not_mem_nil,or_false]at hu;subst hu;rfl) (by omega) ho) ?_);intro LP3 a3 c3 W3 hL2 hr3;clear hL hF;have hL:=hL2;clear hL2;simp only[List.append_eq,List.cons_append,List.nil_append]at hL;have hF:=hL.fx))
       go_roundg (tvs.length-(j+1))
       case measure=>have:=HVJ2.out.1;omega
       case rel=>exact⟨j+1,vj2,av,wv++[(y.1.parts,.slice pa9 pn9 pc9)],rv,aa,a3,ar,ca,c3,cr,LC,LA,LP3,LR,rfl,HVJ2,HF3,HRA,yh (by simpa using hr3),HRR,HPA,yh (bQ HPW.out HPT.out),HPR,by have:=HVJ2.out.1;simp only[List.length_append,List.length_singleton];omega,by have:=HVJ2.out.1;omega,by refine Kn.name ?_;clear hL;intro hL;simp only[kfb]at hL;simp only[List.length_append,List.length_singleton];exact hL.pm⟩
      |some z=>
       have HAS:=yh has;rw[has]at HASG;clear has
       cases kw
       ·rw[tm av wv rv (.slice pa9 pn9 pc9) (.inr hkw)]at HF2
        have HF3:=yh HF2;clear HF2;go_wp2_with (first|(with_reducible refine zS ?_;intro W hL hF)|(go_at_call 27;refine zC (fun W hL=>aK E b j vj (d:Int) _ (af HB0.out hL HXB.out) hbb Hvj hL.h0 HX9.out pa9 pn9 pc9 HX29.out) ?_;intro W hL hF)|(go_at_call 53;(with_reducible refine zM (fun W hL=>d_ E b j vj (d:Int) _ (af HB0.out hL HXB.out) hbb Hvj hL.h0 HX9.out pa9 pn9 pc9 HX29.out H49.out) ?_);rintro W hL e W ⟨rfl,vj2,HVJ2,hb⟩;replace hL:=hL.jn 0 hb;clear hb;have hF:=hL.fx)|(go_at_call 147;(with_reducible refine zM (fun W hL=>HASG.out _ (af HB0.out hL HXB.out)) ?_);rintro W hL e W ⟨LPa,ao7,k7,c7,rfl,HPa,hb⟩;replace hL:=hL.join hb;clear hb;have hF:=hL.fx;replace hL:=hL.in3;clear hF;have hF:=hL.fx)|(at_builtin;refine zL ?_;intro W hL hF;replace hL:=hL.rot5W;clear hF;have hF:=hL.fx;(refine ah rfl _ _ 37 37 rfl (_::_::_::_::_::((LPa++LC)++(LA++LR))) LW hL wv.length 1 (wv.flatMap fun x=>[x.2]) [.slice pa9 pn9 pc9] _ _ HRW.out rfl rfl (fun ho=>dU rfl (fun j u hu=>by rw[Go.WideShapes.add_plain,Nat.zero_add,aO hL m0];simpa using hu) (by intro u hu;simp only[List.mem_cons,List.not_mem_nil,or_false]at hu;subst hu;rfl) (by omega) ho) ?_);intro LP3 a3 c3 W3 hL2 hr3;clear hL hF;have hL:=hL2;clear hL2;simp only[List.append_eq,List.cons_append,List.nil_append]at hL;have hF:=hL.fx))
        go_roundg (tvs.length-(j+1))
        case measure=>have:=HVJ2.out.1;omega
        case rel=>exact⟨j+1,vj2,av,wv++[(y.1.parts,.slice pa9 pn9 pc9)],rv,aa,a3,ar,ca,c3,cr,LPa++LC,LA,LP3,LR,rfl,HVJ2,HF3,HRA,yh (by simpa using hr3),HRR,yh (fun x hx=>(HPA.out x hx).mono fun p hp=>List.mem_append_right _ hp),yh (bQ HPW.out HPT.out),HPR,by have:=HVJ2.out.1;simp only[List.length_append,List.length_singleton];omega,by have:=HVJ2.out.1;omega,by refine Kn.name ?_;clear hL;intro hL;simp only[kfb]at hL;simp only[List.length_append,List.length_singleton];exact hL.pm⟩
       ·replace HF2:=yh HF2
        go_wp2_with (first|(with_reducible refine zS ?_;intro W hL hF)|(go_at_call 27;refine zC (fun W hL=>aK E b j vj (d:Int) _ (af HB0.out hL HXB.out) hbb Hvj hL.h0 HX9.out pa9 pn9 pc9 HX29.out) ?_;intro W hL hF)|(go_at_call 53;(with_reducible refine zM (fun W hL=>d_ E b j vj (d:Int) _ (af HB0.out hL HXB.out) hbb Hvj hL.h0 HX9.out pa9 pn9 pc9 HX29.out H49.out) ?_);rintro W hL e W ⟨rfl,vj2,HVJ2,hb⟩;replace hL:=hL.jn 0 hb;clear hb;have hF:=hL.fx)|(go_at_call 147;(with_reducible refine zM (fun W hL=>HASG.out _ (af HB0.out hL HXB.out)) ?_);rintro W hL e W ⟨LPa,ao7,k7,c7,rfl,HPa,hb⟩;replace hL:=hL.join hb;clear hb;have hF:=hL.fx;replace hL:=hL.in3;clear hF;have hF:=hL.fx)|(at_builtin;refine zL ?_;intro W hL hF;replace hL:=hL.rot5A;clear hF;have hF:=hL.fx;(refine ah rfl _ _ 36 36 rfl (_::_::_::_::_::((LPa++LC)++(LW++LR))) LA hL av.length 1 (av.flatMap asc) [.string ⟨z.1.toArray⟩,.slice ao7 k7 c7] _ _ HRA.out rfl rfl (fun ho=>kr rfl (fun j u hu=>by rw[Go.WideShapes.add_plain,Nat.zero_add,aO hL m0];simpa using hu) (by intro u hu;simp only[List.mem_cons,List.not_mem_nil,or_false]at hu;rcases hu with rfl|rfl<;>rfl) (by omega) ho) ?_);intro LP3 a3 c3 W3 hL2 hr3;clear hL hF;have hL:=hL2;clear hL2;simp only[List.append_eq,List.cons_append,List.nil_append]at hL;have hF:=hL.fx))
        have HF4:=HF2.out;rw[yx av wv rv (.slice ao7 k7 c7) HAS.out HKW.out]at HF4;have HF3:=yh HF4;clear HF4;go_roundg (tvs.length-(j+1))
        case measure=>have:=HVJ2.out.1;omega
        case rel=>exact⟨j+1,vj2,av++[(z,.slice ao7 k7 c7)],wv,rv,a3,aw,ar,c3,cw,cr,LPa++LC,LP3,LW,LR,rfl,HVJ2,HF3,yh (by simpa[asc,bs]using hr3),HRW,HRR,yh (bQ (fun x hx=>(HPA.out x hx).mono fun p hp=>List.mem_append_right _ hp) (HPa.out.mono fun p hp=>List.mem_append_left _ hp)),HPW,HPR,by have:=HVJ2.out.1;simp only[List.length_append,List.length_singleton];omega,by have:=HVJ2.out.1;omega,by refine Kn.name ?_;clear hL;intro hL;simp only[kfb]at hL;simp only[List.length_append,List.length_singleton];exact hL.pm⟩
    ·have HNE:(TT tvs).drop j≠[]:=q_ HK2.out
     have HRD:=yh (fun W hB hb=>lM E b j vj d W hB hbb Hvj hb HNE);clear HNE
     cases hr:dJ ((TT tvs).drop j)with
     |bad er m2=>
      rw[hr]at HRD;have HB9:=yh (vY HK2.out _ HF.out hr);clear hr;go_wp2_with (first|(with_reducible refine zS ?_;intro W hL hF)|(go_at_call 27;refine zC (fun W hL=>aK E b j vj (d:Int) _ (af HB0.out hL HXB.out) hbb Hvj hL.h0 HX9.out pa9 pn9 pc9 HX29.out) ?_;intro W hL hF)|((with_reducible refine ac 7 ?_);refine zE ?_;intro W hL hF;refine bW [0,1,2,3,4,5,6,7] [0,1,2,6] [5,7] [0,2,6] (by kernel_rfl) (by kernel_rfl) (sD (sC sN)) ?_;clear hF hL;intro Qp hQp;replace hQp:=yh hQp;intro ι F hne hC hFF;have hG:=fun n=>(hFF n).fx;clear hFF;(repeat(first|(refine cS ?_)|((first|refine cF hC ?_|refine cP ?_);intro K hK;go_big_quiet_op;go_big_quiet_on)|(refine cE ?_;intro W hL hF;go_at_call 145;(with_reducible refine(HRD.out _ (af HB0.out hL HXB.out) hL.h0).mono ?_);rintro e W ⟨vj2,dj,rfl,hb⟩;replace hL:=hL.jn 0 hb;clear hb hF;have hF:=hL.fx;refine⟨_,rfl,hQp.out _ _ ?_⟩;clear hQp;intro a' ha;simp only[Exit.then,Exit.inBlock];refine⟨ha,?_⟩;show cR W0 b d g o cap tvs w (simple ((TT tvs).drop i)) _ _;rw[HB9.out];exact⟨vj2,dj,rfl,hL.pm⟩)|(refine cM ?_;intro W hL hF;go_wp2;refine zB2 ?_;clear hL hC hG;intro ι F hne hC hG)));((done))))
     |ok z r2=>
      rw[hr]at HRD;have HF3:=yh (yz HK2.out _ HF.out hr);have HLN:=yh (eQ hr);clear hr;go_wp2_with (first|(with_reducible refine zS ?_;intro W hL hF)|(go_at_call 27;refine zC (fun W hL=>aK E b j vj (d:Int) _ (af HB0.out hL HXB.out) hbb Hvj hL.h0 HX9.out pa9 pn9 pc9 HX29.out) ?_;intro W hL hF)|((with_reducible refine ac 7 ?_);refine zX [0,1,2,3,4,5,6,7] [5,7] ?_ (sD (sC sN));clear hF hL;intro ι F hne hC hG;(repeat(first|(refine cS ?_)|((first|refine cF hC ?_|refine cP ?_);intro K hK;go_big_quiet_op;go_big_quiet_on)|(refine cD ?_;intro W hL hF;go_at_call 145;(with_reducible refine(HRD.out _ (af HB0.out hL HXB.out) hL.h0).mono ?_);rintro e W ⟨_,j2,vj2,rfl,⟨x2,pa2,pn2,pc2,hm2,hq2,rfl,hps⟩,HV2,hb⟩;replace hL:=hL.jn 0 hb;clear hb hF;have hF:=hL.fx;refine bK ?_;((refine aQ _ (by repeat' (first|(with_reducible exact List.nil_sublist _)|(with_reducible apply List.Sublist.cons_cons)|(with_reducible apply List.Sublist.cons))) ?_;clear hL hF));simp only[Act.put,zT])|(refine cM ?_;intro W hL hF;at_builtin;replace hL:=hL.rot4R;clear hF;have hF:=hL.fx;(refine ah rfl _ _ 38 38 rfl (_::_::_::_::(LC++(LA++LW))) LR hL rv.length 1 (rv.flatMap rsc) [.int .i64 z.1,.int .i64 (z.2.1:Int),.slice pa2 pn2 pc2] _ _ HRR.out rfl rfl (fun ho=>eM rfl (fun j u hu=>by rw[Go.WideShapes.add_plain,Nat.zero_add,aO hL m0];simpa using hu) (by intro u hu;simp only[List.mem_cons,List.not_mem_nil,or_false]at hu;rcases hu with rfl|rfl|rfl<;>rfl) (by omega) ho) ?_);intro LP3 a3 c3 W3 hL2 hr3;clear hL hF;have hL:=hL2;clear hL2;simp only[List.append_eq,List.cons_append,List.nil_append]at hL;have hF:=hL.fx;go_wp2;refine zB2 ?_;clear hL hF hC hG;intro ι F hne hC hG)|(refine cM ?_;intro W hL hF;go_wp2;refine ai ?_;(first|(refine bH _ (by rfl) ?_;clear hL hF hC hG;intro ι F hne hC hFF;have hG:=fun n=>(hFF n).fx;clear hFF)|(refine aQ _ (by repeat' (first|(with_reducible exact List.nil_sublist _)|(with_reducible apply List.Sublist.cons_cons)|(with_reducible apply List.Sublist.cons))) ?_;clear hL hF)))));refine zN ?_;clear hC hG;intro W hL hF))
      go_roundg (tvs.length-j2)
      case measure=>have h8:=HLN.out;rw[HV2.out.2]at h8;have:=pT HV2.out.1 h8 hjl;have:=HV2.out.1.1;omega
      case rel=>exact⟨j2,vj2,av,wv,rv++[(z,.slice pa2 pn2 pc2)],aa,aw,a3,ca,cw,c3,LC,LA,LW,LP3,rfl,yh HV2.out.1,yh (by have h8:=HF3.out;rw[HV2.out.2]at h8;simpa using h8),HRA,HRW,yh (by simpa[rsc]using hr3),HPA,HPW,yh (bQ HPR.out (by have:=eH E hm2 (L:=[]);rw[hq2,<- hps]at this;exact this)),by have h8:=HLN.out;rw[HV2.out.2]at h8;have:=pT HV2.out.1 h8 hjl;simp only[List.length_append,List.length_singleton];omega,HV2.out.1.1,by refine Kn.name ?_;clear hL;intro hL;simp only[List.length_append,List.length_singleton];exact hL.pm⟩
theorem jK{W0:World}{b d j g o cap:Nat}{tvs:List (Tok×Value)}{w W:World}{vj:Value}(kind:Nat)(neg:Bool)(ks:List (Nd×List Value)){ak:Option Addr}{ck:Nat}{LC LK:List (Nat×Obj)}(HRK:RowL 7 41 LK (.slice ak ks.length ck) ks.length (ks.flatMap (·.2)))(HK:∀x∈ks,NodeL W0 LC x.1 x.2)(Hvj:AtV g o cap tvs j vj){q1 q2:Nat×Obj}(hL:Kn [b] w W ((b,.cells #[vj,.int .i64 (d:Int)] 73 (0,0))::q1::q2::(LC++LK))):
  cR W0 b d g o cap tvs w (.ok (.mk kind [] neg [] [] [] (ks.map (·.1))) ((TT tvs).drop j)) (.returned (.agg #[.int .i64 (kind:Int),.string ⟨#[]⟩,.bool neg,.slice none 0 0,.slice none 0 0,.slice none 0 0,.slice ak ks.length ck])) W:=
 ⟨⟨#[]⟩,none,0,0,none,0,0,none,0,0,ak,ks.length,ck,LC++LK,j,vj,rfl,yh (NodeL.of (ws:=[]) RowM.nil (fun x hx=>by cases hx) (iA HK HRK fun p hp=>List.mem_append_right _ hp) fun x hx=>(HK x hx).l),yh ⟨Hvj,rfl⟩,hL.sub (sC (sD (sD sR)))⟩
theorem tq{cmd:Pa Nd}{f:Nat}{l:List Nd}{ts:List Tok}(h:aR [124] ts=false):dy cmd f l ts=.ok l ts:=by
 cases f with
 |zero=>rfl
 |succ f=>unfold dy;rw[h];rfl
theorem rj{cmd:Pa Nd}{f:Nat}{l:List Nd}{ts:List Tok}(h:aR [124] ts=true)(hf:ts.length<=f):∃f',ts.tail.length<=f'/\dy cmd f l ts=(cmd (ay ts.tail)).bind fun x r=>dy cmd f' (l++[x]) r:=by
 have:=gW (gV h)
 cases f with
 |zero=>omega
 |succ f=>exact⟨f,by omega,by rw[dy,if_pos h]⟩
theorem kQ{g o cap:Nat}{tvs:List (Tok×Value)}{j j2:Nat}{vj:Value}(h:AtV g o cap tvs j2 vj)(hj:j<tvs.length){p:PR Nd}{x:Nd}{r:List Tok}{d:Nat}(hw:Wi p ((TT tvs).drop j) d)(hp:p=.ok x r)(hr:r=(TT tvs).drop j2):j+d<=j2:=by
 subst hp hr
 have h1:=hw.2
 have h2:=h.1
 rw[List.length_drop,List.length_drop,ep]at h1
 omega
theorem kR{α β γ:Type}(p:PR α)(f:α->List Tok->PR β)(h:β->List Tok->PR γ):(p.bind f).bind h=p.bind fun a r=>(f a r).bind h:=by cases p<;>rfl
theorem b8{α β:Type}{p:PR α}{f:α->List Tok->PR β}{q:PR β}{a:α}{r:List Tok}(h:q=p.bind f)(hp:p=.ok a r):q=f a r:=by rw[h,hp];rfl
theorem bB{α β:Type}{p:PR α}{f:α->List Tok->PR β}{q:PR β}{e m:Nat}(h:q=p.bind f)(hp:p=.bad e m):q=.bad e m:=by rw[h,hp];rfl
theorem yA{W0:World}{g o cap:Nat}{tvs:List (Tok×Value)}(E:PEnv W0 g o cap tvs){d:Nat}{cmd:Pa Nd}(hw:Wp cmd 1)(HC:ct W0 g o cap tvs 105 d cmd):ct W0 g o cap tvs 87 d (pipe cmd):=by
 intro b i v w hB hbb hv hb
 obtain⟨k1,hk1⟩:∃z:Bool,bP [[33]] ((TT tvs).drop i)=z:=⟨_,rfl⟩
 have HK1:Hid (bP ([(⟨#[33]⟩:ByteArray)].map fun z=>z.data.toList) ((TT tvs).drop i)=k1):=yh hk1
 obtain⟨i1,hi1⟩:∃z:Nat,(if k1=true then i+1 else i)=z:=⟨_,rfl⟩
 have HP:pipe cmd ((TT tvs).drop i)=(cmd ((TT tvs).drop i1)).bind fun x r=>(dy cmd r.length [x] r).bind fun l r=>.ok (.mk 1 [] k1 [] [] [] l) r:=by
  show(cmd (if bP [[33]] ((TT tvs).drop i)then((TT tvs).drop i).tail else(TT tvs).drop i)).bind _=_
  rw[hk1,<- hi1]
  cases k1<;>simp only[Bool.false_eq_true,if_false,if_true,List.tail_drop]
 have HPL:=yh HP
 have HI1:=yh hi1
 have HW:=yh hw
 have HCC:=yh HC
 clear hk1 hi1 HP hw HC
 have hi:=hv.out.1
 have hmx:=E.max
 have HB0:=yh hB
 have HXB:=yh (xb hbb)
 have hL:Kn [b] w w [(b,.cells #[v,.int .i64 (d:Int)] 73 (0,0))]:=Kn.one hb
 have HBS:=yh hb
 clear hB hb
 have hF:=hL.fx
 go_enter Tryz.func87,Tryz.ntmps87
 go_upto_if 10 with((go_at_call 86;refine zC (fun W hL=>cj E b i v (d:Int) _ (af HB0.out hL HXB.out) hbb hv hL.h3 _ 0 1 _ [⟨#[33]⟩] _ HK1 (yh rfl) (by omega) (bT (eF hL m0)) (by(exact eG hL m2))) ?_;intro W hL hF))
 go_cut [] (fun wc=>∃(vj:Value) (ks:List (Nd×List Value)) (ak:Option Addr) (ck:Nat) (LC LK:List (Nat×Obj)),Hid (AtV g o cap tvs i1 vj)/\Hid (ks=[])/\Hid (RowL 7 41 LK (.slice ak ks.length ck) ks.length (ks.flatMap (·.2)))/\Hid (∀x∈ks,NodeL W0 LC x.1 x.2)/\Kn [b] w wc ((b,.cells #[vj,.int .i64 (d:Int)] 73 (0,0))::(w.heap.size+1,.cells #[.int .i64 1,.string ⟨#[]⟩,.bool k1,.slice none 0 0,.slice none 0 0,.slice none 0 0,.slice ak ks.length ck] 41 (0,0))::(w.heap.size,.cells #[.int .i64 0,.string ⟨#[]⟩,.bool false,.slice none 0 0,.slice none 0 0,.slice none 0 0,.slice none 0 0] 41 (0,0))::(LC++LK)))
 case first=>
  cases k1
  ·obtain rfl:i=i1:=HI1.out
   go_wp2;go_meet
   case rel=>exact⟨v,[],none,0,[],[],hv,yh rfl,yh RowL.nil,yh (by simp),by refine Kn.name ?_;clear hL;intro hL;simp only[kfb]at hL;exact hL.pm⟩
  ·have HNE:=yh (mD HK1.out)
   obtain rfl:i+1=i1:=HI1.out;go_wp2_with (first|(with_reducible refine zS ?_;intro W hL hF)|(go_at_call 53;(with_reducible refine zM (fun W hL=>dO E b i v (d:Int) _ (af HB0.out hL HXB.out) hbb hv hL.h3 HNE.out) ?_);rintro W hL e W ⟨x1,pa1,pn1,pc1,vj,rfl,HTX,HVJ,hb⟩;replace hL:=hL.jn 3 hb;clear hb;have hF:=hL.fx))
   go_meet
   case rel=>exact⟨vj,[],none,0,[],[],HVJ,yh rfl,yh RowL.nil,yh (by simp),by refine Kn.name ?_;clear hL;intro hL;exact hL.pm⟩
 case rest=>
  clear hL;obtain⟨vj,ks,ak,ck,LC,LK,Hvj,HKS0,HRK,HKS,hL⟩:=hcut;have hF:=hL.fx;have HCJ:=yh (fun W hB hb=>HCC.out b i1 vj W hB hbb Hvj hb);have hks0:ks.length<=i1:=by rw[HKS0.out];exact Nat.zero_le _
  have hi1:=Hvj.out.1;have hi2:i1<=i+1:=by rw[<- HI1.out];split<;>omega
  cases hc:cmd ((TT tvs).drop i1)with
  |bad er m2=>
   rw[hc]at HCJ;have HB9:=yh (bB HPL.out hc);clear hc;go_wp2_with (first|(with_reducible refine zS ?_;intro W hL hF)|((with_reducible refine ac 5 ?_);refine zE ?_;intro W hL hF;refine bW [0,1,2,3,4,5,6,7] [0,1,2,6] [5,7] [0,2,6] (by kernel_rfl) (by kernel_rfl) (sD (sC sN)) ?_;clear hF hL;intro Qp hQp;replace hQp:=yh hQp;intro ι F hne hC hFF;have hG:=fun n=>(hFF n).fx;clear hFF;(repeat(first|(refine cS ?_)|((first|refine cF hC ?_|refine cP ?_);intro K hK;go_big_quiet_op;go_big_quiet_on)|(refine cE ?_;intro W hL hF;go_at_call 105;(with_reducible refine(HCJ.out _ (af HB0.out hL HXB.out) hL.h0).mono ?_);rintro e W ⟨vj2,dj,rfl,hb⟩;replace hL:=hL.jn 0 hb;clear hb hF;have hF:=hL.fx;refine⟨_,rfl,hQp.out _ _ ?_⟩;clear hQp;intro a' ha;simp only[Exit.then,Exit.inBlock];refine⟨ha,?_⟩;show cR W0 b d g o cap tvs w (pipe cmd ((TT tvs).drop i)) _ _;rw[HB9.out];exact⟨vj2,dj,rfl,hL.pm⟩)|(refine cM ?_;intro W hL hF;go_wp2;refine zB2 ?_;clear hL hC hG;intro ι F hne hC hG)));((done))))
  |ok x r=>
   rw[hc]at HCJ;have HB9:=yh (b8 HPL.out hc);have HLE:=yh (fun j2 vj2 (h:AtV g o cap tvs j2 vj2) (hr:r=(TT tvs).drop j2)=>kQ h Hvj.out.1 (HW.out _) hc hr);clear hc;go_wp2_with (first|(with_reducible refine zS ?_;intro W hL hF)|((with_reducible refine ac 5 ?_);refine zX [0,1,2,3,4,5,6,7] [5,7] ?_ (sD (sC sN));clear hF hL;intro ι F hne hC hG;(repeat(first|(refine cS ?_)|((first|refine cF hC ?_|refine cP ?_);intro K hK;go_big_quiet_op;go_big_quiet_on)|(refine cD ?_;intro W hL hF;go_at_call 105;(with_reducible refine(HCJ.out _ (af HB0.out hL HXB.out) hL.h0).mono ?_);rintro e W ⟨nm,aa,na,ca,aw,nw,cw,ar,nr,cr,ak,nk,ck,LN,j2,vj2,rfl,HN,HJ2,hb⟩;replace hL:=hL.jn 0 hb;clear hb hF;have hF:=hL.fx;replace hL:=hL.in1;clear hF;have hF:=hL.fx;refine bK ?_;((refine aQ _ (by repeat' (first|(with_reducible exact List.nil_sublist _)|(with_reducible apply List.Sublist.cons_cons)|(with_reducible apply List.Sublist.cons))) ?_;clear hL hF));simp only[Act.put,zT])|(refine cM ?_;intro W hL hF;at_builtin;(refine ah rfl _ _ 39 39 rfl (_::_::_::_::(LN++LC)) LK hL ks.length 1 (ks.flatMap (·.2)) [.int .i64 (x.kind:Int),.string nm,.bool x.neg,.slice aa na ca,.slice aw nw cw,.slice ar nr cr,.slice ak nk ck] _ _ HRK.out rfl rfl (fun ho=>bM rfl (fun j u hu=>by rw[Go.WideShapes.add_plain,Nat.zero_add,aO hL m0];simpa using hu) (by intro u hu;simp only[List.mem_cons,List.not_mem_nil,or_false]at hu;rcases hu with rfl|rfl|rfl|rfl|rfl|rfl|rfl<;>rfl) (by omega) ho) ?_);intro LP3 a3 c3 W3 hL2 hr3;clear hL hF;have hL:=hL2;clear hL2;simp only[List.append_eq,List.cons_append,List.nil_append]at hL;have hF:=hL.fx;go_wp2;refine zB2 ?_;clear hL hF hC hG;intro ι F hne hC hG)|(refine cM ?_;intro W hL hF;go_wp2;refine ai ?_;(first|(refine bH _ (by rfl) ?_;clear hL hF hC hG;intro ι F hne hC hFF;have hG:=fun n=>(hFF n).fx;clear hFF)|(refine aQ _ (by repeat' (first|(with_reducible exact List.nil_sublist _)|(with_reducible apply List.Sublist.cons_cons)|(with_reducible apply List.Sublist.cons))) ?_;clear hL hF)))));refine zN ?_;clear hC hG;intro W hL hF))
   have hle:=HLE.out _ _ HJ2.out.1 HJ2.out.2;have hj2:=HJ2.out.1.1;go_loopg [] (tvs.length-j2) (fun n wr=>∃(j:Nat) (vj:Value) (ks:List (Nd×List Value)) (ak:Option Addr) (ck:Nat) (LC LK:List (Nat×Obj)),n=tvs.length-j/\Hid (AtV g o cap tvs j vj)/\Hid (∃f,((TT tvs).drop j).length<=f/\pipe cmd ((TT tvs).drop i)=(dy cmd f (ks.map (·.1)) ((TT tvs).drop j)).bind fun l r=>.ok (.mk 1 [] k1 [] [] [] l) r)/\Hid (RowL 7 41 LK (.slice ak ks.length ck) ks.length (ks.flatMap (·.2)))/\Hid (∀x∈ks,NodeL W0 LC x.1 x.2)/\ks.length<=j/\j<tvs.length/\Kn [b] w wr ((b,.cells #[vj,.int .i64 (d:Int)] 73 (0,0))::(w.heap.size+1,.cells #[.int .i64 1,.string ⟨#[]⟩,.bool k1,.slice none 0 0,.slice none 0 0,.slice none 0 0,.slice ak ks.length ck] 41 (0,0))::(w.heap.size,.cells #[.int .i64 0,.string ⟨#[]⟩,.bool false,.slice none 0 0,.slice none 0 0,.slice none 0 0,.slice none 0 0] 41 (0,0))::(LC++LK)))
   case atStart=>exact⟨j2,vj2,ks++[(x,[.int .i64 (x.kind:Int),.string nm,.bool x.neg,.slice aa na ca,.slice aw nw cw,.slice ar nr cr,.slice ak nk ck])],a3,c3,LN++LC,LP3,rfl,yh HJ2.out.1,yh (by have h9:=HB9.out;rw[HJ2.out.2]at h9;rw[HKS0.out];exact⟨_,Nat.le_refl _,h9⟩),yh (by simpa using hr3),yh (bQ (fun y hy=>(HKS.out y hy).r) HN.out.l),by simp only[List.length_append,List.length_singleton];omega,by omega,by refine Kn.name ?_;clear hL;intro hL;simp only[List.length_append,List.length_singleton];exact hL.pm⟩
   case round=>(
    clear hL;obtain⟨j,vj,ks,ak,ck,LC,LK,rfl,Hvj,HF,HRK,HKS,hsz,hjl,hL⟩:=hrel;have hF:=hL.fx;obtain⟨k3,hk3⟩:∃z:Bool,aR [124] ((TT tvs).drop j)=z:=⟨_,rfl⟩;have HK3:Hid (aR (⟨#[124]⟩:ByteArray).data.toList ((TT tvs).drop j)=k3):=yh hk3;clear hk3
    cases k3
    ·have HS9:=yh (by obtain⟨f,_,hf⟩:=HF.out;rw[hf,tq HK3.out];rfl:pipe cmd ((TT tvs).drop i)=.ok (.mk 1 [] k1 [] [] [] (ks.map (·.1))) ((TT tvs).drop j))
     go_wp2_with (first|(with_reducible refine zS ?_;intro W hL hF)|(go_at_call 52;(with_reducible refine zM (fun W hL=>d7 E b j vj (d:Int) _ (af HB0.out hL HXB.out) hbb Hvj hL.h0 ⟨#[124]⟩ _ HK3) ?_);rintro W hL e W ⟨rfl,hb⟩;replace hL:=hL.below hb;clear hb;skip;have hF:=hL.fx))
     refine zF ?_;intro W hL hF;refine bodyPost_ret (by simp[results,Tryz.results87,go_sem, *];try rfl) rfl ?_;rw[HS9.out];exact jK 1 k1 ks HRK.out HKS.out Hvj.out hL
    ·have HNE2:=yh (gV HK3.out)
     go_upto_region 9 with(first|(go_at_call 52;(with_reducible refine zM (fun W hL=>d7 E b j vj (d:Int) _ (af HB0.out hL HXB.out) hbb Hvj hL.h0 ⟨#[124]⟩ _ HK3) ?_);rintro W hL e W ⟨rfl,hb⟩;replace hL:=hL.below hb;clear hb;skip;have hF:=hL.fx)|(go_at_call 53;(with_reducible refine zM (fun W hL=>dO E b j vj (d:Int) _ (af HB0.out hL HXB.out) hbb Hvj hL.h0 HNE2.out) ?_);rintro W hL e W ⟨x1,pa1,pn1,pc1,vj2,rfl,HTX2,HVJ2,hb⟩;replace hL:=hL.jn 0 hb;clear hb;have hF:=hL.fx)|(go_at_call 49;(with_reducible refine zM (fun W hL=>dB E b (j+1) vj2 d _ (af HB0.out hL HXB.out) hbb HVJ2 hL.h0) ?_);rintro W hL e W ⟨j3,vj3,rfl,HJ3,hb⟩;replace hL:=hL.jn 0 hb;clear hb;have hF:=hL.fx))
     have HF2:∃f,((TT tvs).drop (j+1)).length<=f/\pipe cmd ((TT tvs).drop i)=(cmd ((TT tvs).drop j3)).bind fun x r=>(dy cmd f (ks.map (·.1)++[x]) r).bind fun l r=>.ok (.mk 1 [] k1 [] [] [] l) r:=by
      obtain⟨f,hf1,hf⟩:=HF.out;obtain⟨f2,h1,h2⟩:=rj (cmd:=cmd) (l:=ks.map (·.1)) HK3.out hf1;rw[bx]at h1 h2;rw[HJ3.out.2.2]at h2;rw[h2,kR]at hf;exact⟨f2,h1,hf⟩
     have HCJ2:=yh (fun W hB hb=>HCC.out b j3 vj3 W hB hbb (yh HJ3.out.2.1) hb);have HF2:=yh HF2;have hj3:=HJ3.out.1
     cases hc2:cmd ((TT tvs).drop j3)with
     |bad er m2=>
      rw[hc2]at HCJ2;have HB8:=yh (by obtain⟨f,_,hf⟩:=HF2.out;exact bB hf hc2:pipe cmd ((TT tvs).drop i)=.bad er m2);clear hc2;go_wp2_with (first|(with_reducible refine zS ?_;intro W hL hF)|((with_reducible refine ac 9 ?_);refine zE ?_;intro W hL hF;refine bW [0,1,2,3,4,5,6,7] [0,1,2,6] [5,7] [0,2,6] (by kernel_rfl) (by kernel_rfl) (sD (sC sN)) ?_;clear hF hL;intro Qp hQp;replace hQp:=yh hQp;intro ι F hne hC hFF;have hG:=fun n=>(hFF n).fx;clear hFF;(repeat(first|(refine cS ?_)|((first|refine cF hC ?_|refine cP ?_);intro K hK;go_big_quiet_op;go_big_quiet_on)|(refine cE ?_;intro W hL hF;go_at_call 105;(with_reducible refine(HCJ2.out _ (af HB0.out hL HXB.out) hL.h0).mono ?_);rintro e W ⟨vj2,dj,rfl,hb⟩;replace hL:=hL.jn 0 hb;clear hb hF;have hF:=hL.fx;refine⟨_,rfl,hQp.out _ _ ?_⟩;clear hQp;intro a' ha;simp only[Exit.then,Exit.inBlock];refine⟨ha,?_⟩;show cR W0 b d g o cap tvs w (pipe cmd ((TT tvs).drop i)) _ _;rw[HB8.out];exact⟨vj2,dj,rfl,hL.pm⟩)|(refine cM ?_;intro W hL hF;go_wp2;refine zB2 ?_;clear hL hC hG;intro ι F hne hC hG)));((done))))
     |ok x r=>
      rw[hc2]at HCJ2;have HF3:=yh (by obtain⟨f,hf1,hf⟩:=HF2.out;exact⟨f,hf1,b8 hf hc2⟩:∃f,((TT tvs).drop (j+1)).length<=f/\pipe cmd ((TT tvs).drop i)=(dy cmd f (ks.map (·.1)++[x]) r).bind fun l r=>.ok (.mk 1 [] k1 [] [] [] l) r);have HLE2:=yh (fun j2 vj2 (h:AtV g o cap tvs j2 vj2) (hr:r=(TT tvs).drop j2)=>kQ h HJ3.out.2.1.1 (HW.out _) hc2 hr);clear hc2;go_wp2_with (first|(with_reducible refine zS ?_;intro W hL hF)|((with_reducible refine ac 9 ?_);refine zX [0,1,2,3,4,5,6,7] [5,7] ?_ (sD (sC sN));clear hF hL;intro ι F hne hC hG;(repeat(first|(refine cS ?_)|((first|refine cF hC ?_|refine cP ?_);intro K hK;go_big_quiet_op;go_big_quiet_on)|(refine cD ?_;intro W hL hF;go_at_call 105;(with_reducible refine(HCJ2.out _ (af HB0.out hL HXB.out) hL.h0).mono ?_);rintro e W ⟨nm,aa,na,ca,aw,nw,cw,ar,nr,cr,ak,nk,ck,LN,j2,vj2,rfl,HN,HJ2,hb⟩;replace hL:=hL.jn 0 hb;clear hb hF;have hF:=hL.fx;replace hL:=hL.in1;clear hF;have hF:=hL.fx;refine bK ?_;((refine aQ _ (by repeat' (first|(with_reducible exact List.nil_sublist _)|(with_reducible apply List.Sublist.cons_cons)|(with_reducible apply List.Sublist.cons))) ?_;clear hL hF));simp only[Act.put,zT])|(refine cM ?_;intro W hL hF;at_builtin;(refine ah rfl _ _ 39 39 rfl (_::_::_::_::(LN++LC)) LK hL ks.length 1 (ks.flatMap (·.2)) [.int .i64 (x.kind:Int),.string nm,.bool x.neg,.slice aa na ca,.slice aw nw cw,.slice ar nr cr,.slice ak nk ck] _ _ HRK.out rfl rfl (fun ho=>bM rfl (fun j u hu=>by rw[Go.WideShapes.add_plain,Nat.zero_add,aO hL m0];simpa using hu) (by intro u hu;simp only[List.mem_cons,List.not_mem_nil,or_false]at hu;rcases hu with rfl|rfl|rfl|rfl|rfl|rfl|rfl<;>rfl) (by omega) ho) ?_);intro LP3 a3 c3 W3 hL2 hr3;clear hL hF;have hL:=hL2;clear hL2;simp only[List.append_eq,List.cons_append,List.nil_append]at hL;have hF:=hL.fx;go_wp2;refine zB2 ?_;clear hL hF hC hG;intro ι F hne hC hG)|(refine cM ?_;intro W hL hF;go_wp2;refine ai ?_;(first|(refine bH _ (by rfl) ?_;clear hL hF hC hG;intro ι F hne hC hFF;have hG:=fun n=>(hFF n).fx;clear hFF)|(refine aQ _ (by repeat' (first|(with_reducible exact List.nil_sublist _)|(with_reducible apply List.Sublist.cons_cons)|(with_reducible apply List.Sublist.cons))) ?_;clear hL hF)))));refine zN ?_;clear hC hG;intro W hL hF))
      have hle2:=HLE2.out _ _ HJ2.out.1 HJ2.out.2;have hj4:=HJ2.out.1.1;go_roundg (tvs.length-j2)
      case measure=>omega
      case rel=>exact⟨j2,vj2,ks++[(x,[.int .i64 (x.kind:Int),.string nm,.bool x.neg,.slice aa na ca,.slice aw nw cw,.slice ar nr cr,.slice ak nk ck])],a3,c3,LN++LC,LP3,rfl,yh HJ2.out.1,yh (by obtain⟨f,hf1,hf⟩:=HF3.out;rw[HJ2.out.2]at hf;exact⟨f,by rw[List.length_drop]at hf1 |-;omega,by simpa using hf⟩),yh (by simpa using hr3),yh (bQ (fun y hy=>(HKS.out y hy).r) HN.out.l),by simp only[List.length_append,List.length_singleton];omega,by omega,by refine Kn.name ?_;clear hL;intro hL;simp only[List.length_append,List.length_singleton];exact hL.pm⟩)
theorem m_{W0:World}{b d j g o cap:Nat}{tvs:List (Tok×Value)}{w W:World}{vj:Value}{n:Nd}{nm:ByteArray}{aa:Option Addr}{na:Nat}{ca:Nat}{aw:Option Addr}{nw:Nat}{cw:Nat}{ar:Option Addr}{nr:Nat}{cr:Nat}{ak:Option Addr}{nk:Nat}{ck:Nat}{LN:List (Nat×Obj)}(HN:NodeL W0 LN n [.int .i64 (n.kind:Int),.string nm,.bool n.neg,.slice aa na ca,.slice aw nw cw,.slice ar nr cr,.slice ak nk ck])(Hvj:AtV g o cap tvs j vj){q1 q2:Nat×Obj}(hL:Kn [b] w W ((b,.cells #[vj,.int .i64 (d:Int)] 73 (0,0))::q1::q2::LN)):
  cR W0 b d g o cap tvs w (.ok n ((TT tvs).drop j)) (.returned (.agg #[.int .i64 (n.kind:Int),.string nm,.bool n.neg,.slice aa na ca,.slice aw nw cw,.slice ar nr cr,.slice ak nk ck])) W:=
 ⟨nm,aa,na,ca,aw,nw,cw,ar,nr,cr,ak,nk,ck,LN,j,vj,rfl,yh HN,yh ⟨Hvj,rfl⟩,hL.sub (sC (sD (sD sR)))⟩
theorem Kn.in1a{X:List Nat}{w0 W:World}{p0 p1 p2:Nat×Obj}{LP R:List (Nat×Obj)}(h:Kn X w0 W (p0::(LP++(p1::p2::R)))):Kn X w0 W (p0::p1::p2::(LP++R)):=h.perm fun p=>by simp only[List.countP_cons,List.countP_append];omega
theorem rk{W0:World}{g o cap:Nat}{tvs:List (Tok×Value)}(E:PEnv W0 g o cap tvs){j:Nat}{y:Tok×Value}(hy:tvs[j]? =some y){e1 e2:Bool}(h1:aR [38,38] ((TT tvs).drop j)=e1)(h2:aR [124,124] ((TT tvs).drop j)=e2)(h:(e1||e2)=true):(y.1.text==[124,124])=e2:=by
 rw[pS E hy]at h1 h2
 have hk:((y.1.kind:Int)==1)=true:=by
  cases hk:((y.1.kind:Int)==1)with
  |true=>rfl
  |false=>rw[hk]at h1 h2;rw[<- h1,<- h2]at h;cases h
 rw[hk,Bool.true_and]at h2
 exact h2
theorem tt{pi:Pa Nd}{f:Nat}{n:Nd}{ts:List Tok}(h1:aR [38,38] ts=false)(h2:aR [124,124] ts=false):dx pi f n ts=.ok n ts:=by
 cases f with
 |zero=>rfl
 |succ f=>unfold dx;rw[h1,h2];rfl
theorem xK{ts:List Tok}{e1 e2:Bool}(h1:aR [38,38] ts=e1)(h2:aR [124,124] ts=e2)(h:(e1||e2)=true):ts≠[]:=by
 rintro rfl
 rw[<- h1,<- h2]at h
 cases h
theorem rl{pi:Pa Nd}{n:Nd}{l:List Tok}{j j3:Nat}{p:PR Nd}{e1 e2:Bool}(h1:aR [38,38] (l.drop j)=e1)(h2:aR [124,124] (l.drop j)=e2)(h:(e1||e2)=true)(hf:∃f,(l.drop j).length<=f/\p=dx pi f n (l.drop j))(h3:ay (l.drop (j+1))=l.drop j3):
  ∃f,(l.drop (j+1)).length<=f/\p=(pi (l.drop j3)).bind fun x r=>dx pi f (.mk (if e2 then 3 else 2) [] false [] [] [] [n,x]) r:=by
 obtain⟨f,hf1,hf⟩:=hf
 have hne:=gW (xK h1 h2 h)
 rw[bx]at hne
 cases f with
 |zero=>omega
 |succ f=>
  refine⟨f,by omega,?_⟩;rw[hf,dx,h1,h2,if_pos h,bx,h3]
theorem tu{pi:Pa Nd}{p:PR Nd}{n x:Nd}{k m:Nat}{ts r:List Tok}(hf:∃f,m<=f/\p=(pi ts).bind fun x r=>dx pi f (.mk k [] false [] [] [] [n,x]) r)(h:pi ts=.ok x r):∃f,m<=f/\p=dx pi f (.mk k [] false [] [] [] [n,x]) r:=by
 obtain⟨f,h1,h2⟩:=hf
 exact⟨f,h1,by rw[h2,h];rfl⟩
theorem rm{W0:World}{b nb gq cc:Nat}{w W:World}{po:Obj}{p2:Nat×Obj}{n x:Nd}{kz:Int}{kind:Nat}{nm:ByteArray}{aa:Option Addr}{na:Nat}{ca:Nat}{aw:Option Addr}{nw:Nat}{cw:Nat}{ar:Option Addr}{nr:Nat}{cr:Nat}{ak:Option Addr}{nk:Nat}{ck:Nat}{nm2:ByteArray}{aa2:Option Addr}{na2:Nat}{ca2:Nat}{aw2:Option Addr}{nw2:Nat}{cw2:Nat}{ar2:Option Addr}{nr2:Nat}{cr2:Nat}{ak2:Option Addr}{nk2:Nat}{ck2:Nat}{LN LN2:List (Nat×Obj)}
  (hL:Kn [b] w W ((gq,.cells #[.int .i64 (n.kind:Int),.string nm,.bool n.neg,.slice aa na ca,.slice aw nw cw,.slice ar nr cr,.slice ak nk ck,.int .i64 (x.kind:Int),.string nm2,.bool x.neg,.slice aa2 na2 ca2,.slice aw2 nw2 cw2,.slice ar2 nr2 cr2,.slice ak2 nk2 ck2] 41 (0,0))::(b,po)::(nb,.cells #[.int .i64 kz,.string ⟨#[]⟩,.bool false,.slice none 0 0,.slice none 0 0,.slice none 0 0,.slice (some ⟨gq,0,none⟩) 2 cc] 41 (0,0))::p2::(LN2++LN))) (hk:kz=(kind:Int)) (hc:2<=cc) (h1:NodeL W0 LN n [.int .i64 (n.kind:Int),.string nm,.bool n.neg,.slice aa na ca,.slice aw nw cw,.slice ar nr cr,.slice ak nk ck]) (h2:NodeL W0 LN2 x [.int .i64 (x.kind:Int),.string nm2,.bool x.neg,.slice aa2 na2 ca2,.slice aw2 nw2 cw2,.slice ar2 nr2 cr2,.slice ak2 nk2 ck2]):
  ∃(nm3:ByteArray) (aa3:Option Addr) (na3:Nat) (ca3:Nat) (aw3:Option Addr) (nw3:Nat) (cw3:Nat) (ar3:Option Addr) (nr3:Nat) (cr3:Nat) (ak3:Option Addr) (nk3:Nat) (ck3:Nat) (LN3:List (Nat×Obj)),NodeL W0 LN3 (.mk kind [] false [] [] [] [n,x]) [.int .i64 ((Nd.mk kind [] false [] [] [] [n,x]).kind:Int),.string nm3,.bool (Nd.mk kind [] false [] [] [] [n,x]).neg,.slice aa3 na3 ca3,.slice aw3 nw3 cw3,.slice ar3 nr3 cr3,.slice ak3 nk3 ck3]/\Kn [b] w W ((b,po)::(nb,.cells #[.int .i64 ((Nd.mk kind [] false [] [] [] [n,x]).kind:Int),.string nm3,.bool (Nd.mk kind [] false [] [] [] [n,x]).neg,.slice aa3 na3 ca3,.slice aw3 nw3 cw3,.slice ar3 nr3 cr3,.slice ak3 nk3 ck3] 41 (0,0))::p2::LN3):=by
 subst hk
 refine⟨⟨#[]⟩,none,0,0,none,0,0,none,0,0,some ⟨gq,0,none⟩,2,cc,(gq,.cells #[.int .i64 (n.kind:Int),.string nm,.bool n.neg,.slice aa na ca,.slice aw nw cw,.slice ar nr cr,.slice ak nk ck,.int .i64 (x.kind:Int),.string nm2,.bool x.neg,.slice aa2 na2 ca2,.slice aw2 nw2 cw2,.slice ar2 nr2 cr2,.slice ak2 nk2 ck2] 41 (0,0))::(LN2++LN),?_,?_⟩
 ·exact NodeL.two (name:=[]) (h1.mono fun p hp=>List.mem_cons_of_mem _ (List.mem_append_right _ hp)) (h2.mono fun p hp=>List.mem_cons_of_mem _ (List.mem_append_left _ hp)) m0 hc
 ·show Kn [b] w W ((b,po)::(nb,.cells #[.int .i64 (kind:Int),.string ⟨#[]⟩,.bool false,.slice none 0 0,.slice none 0 0,.slice none 0 0,.slice (some ⟨gq,0,none⟩) 2 cc] 41 (0,0))::p2::(gq,.cells #[.int .i64 (n.kind:Int),.string nm,.bool n.neg,.slice aa na ca,.slice aw nw cw,.slice ar nr cr,.slice ak nk ck,.int .i64 (x.kind:Int),.string nm2,.bool x.neg,.slice aa2 na2 ca2,.slice aw2 nw2 cw2,.slice ar2 nr2 cr2,.slice ak2 nk2 ck2] 41 (0,0))::(LN2++LN))
  exact hL.pm
theorem yB{W0:World}{g o cap:Nat}{tvs:List (Tok×Value)}(E:PEnv W0 g o cap tvs){d:Nat}{pi:Pa Nd}(hw:Wp pi 1)(HC:ct W0 g o cap tvs 87 d pi):ct W0 g o cap tvs 51 d (item pi):=by
 intro b i v w hB hbb hv hb
 have HPL:Hid (item pi ((TT tvs).drop i)=(pi ((TT tvs).drop i)).bind fun n r=>dx pi r.length n r):=yh rfl
 have HW:=yh hw
 have HCC:=yh HC
 have HCJ:=yh (fun W hB hb=>HC b i v W hB hbb hv hb)
 clear hw HC
 have hi:=hv.out.1
 have hmx:=E.max
 have HB0:=yh hB
 have HXB:=yh (xb hbb)
 have hL:Kn [b] w w [(b,.cells #[v,.int .i64 (d:Int)] 73 (0,0))]:=Kn.one hb
 have HBS:=yh hb
 clear hB hb
 have hF:=hL.fx
 cases hc:pi ((TT tvs).drop i)with
 |bad er m2=>
  rw[hc]at HCJ;have HB9:=yh (bB HPL.out hc);clear hc;go_enter Tryz.func51,Tryz.ntmps51;go_wp2_with (first|(with_reducible refine zS ?_;intro W hL hF)|(go_at_call 87;(with_reducible refine zM (fun W hL=>HCJ.out _ (af HB0.out hL HXB.out) hL.h1) ?_);rintro W hL e W ⟨vj2,dj,rfl,hb⟩;replace hL:=hL.jn 1 hb;clear hb;have hF:=hL.fx))
  refine⟨rfl,?_⟩;rw[HB9.out];exact⟨vj2,dj,rfl,hL.pm⟩
 |ok x r=>
  rw[hc]at HCJ;have HB9:=yh (b8 HPL.out hc);have HLE:=yh (fun j2 vj2 (h:AtV g o cap tvs j2 vj2) (hr:r=(TT tvs).drop j2)=>kQ h hi (HW.out _) hc hr);clear hc;go_enter Tryz.func51,Tryz.ntmps51;go_wp2_with (first|(with_reducible refine zS ?_;intro W hL hF)|(go_at_call 87;(with_reducible refine zM (fun W hL=>HCJ.out _ (af HB0.out hL HXB.out) hL.h1) ?_);rintro W hL e W ⟨nm,aa,na,ca,aw,nw,cw,ar,nr,cr,ak,nk,ck,LN,j2,vj2,rfl,HN,HJ2,hb⟩;replace hL:=hL.jn 1 hb;clear hb;have hF:=hL.fx;obtain⟨W1,rfl⟩:∃W1:World,W1=W:=⟨_,rfl⟩))
  have hle:=HLE.out _ _ HJ2.out.1 HJ2.out.2;have hj2:=HJ2.out.1.1;go_loopg [] (tvs.length-j2) (fun n wr=>∃(j:Nat) (vj:Value) (nd:Nd) (nm:ByteArray) (aa:Option Addr) (na:Nat) (ca:Nat) (aw:Option Addr) (nw:Nat) (cw:Nat) (ar:Option Addr) (nr:Nat) (cr:Nat) (ak:Option Addr) (nk:Nat) (ck:Nat) (LN:List (Nat×Obj)),n=tvs.length-j/\Hid (AtV g o cap tvs j vj)/\Hid (∃f,((TT tvs).drop j).length<=f/\item pi ((TT tvs).drop i)=dx pi f nd ((TT tvs).drop j))/\Hid (NodeL W0 LN nd [.int .i64 (nd.kind:Int),.string nm,.bool nd.neg,.slice aa na ca,.slice aw nw cw,.slice ar nr cr,.slice ak nk ck])/\j<tvs.length/\Kn [b] w wr ((b,.cells #[vj,.int .i64 (d:Int)] 73 (0,0))::(W1.heap.size,.cells #[.int .i64 (nd.kind:Int),.string nm,.bool nd.neg,.slice aa na ca,.slice aw nw cw,.slice ar nr cr,.slice ak nk ck] 41 (0,0))::(w.heap.size,.cells #[.int .i64 0,.string ⟨#[]⟩,.bool false,.slice none 0 0,.slice none 0 0,.slice none 0 0,.slice none 0 0] 41 (0,0))::LN))
  case atStart=>exact⟨j2,vj2,x,nm,aa,na,ca,aw,nw,cw,ar,nr,cr,ak,nk,ck,LN,rfl,yh HJ2.out.1,yh (by have h9:=HB9.out;rw[HJ2.out.2]at h9;exact⟨_,Nat.le_refl _,h9⟩),HN,hj2,by refine Kn.name ?_;clear hL;intro hL;exact hL.pm⟩
  case round=>(
    clear hL;obtain⟨j,vj,nd,nm,aa,na,ca,aw,nw,cw,ar,nr,cr,ak,nk,ck,LN,rfl,Hvj,HF,HN,hjl,hL⟩:=hrel;have hF:=hL.fx;obtain⟨y,pa9,pn9,pc9,hx9,hx29⟩:=E.tok Hvj.out;have HX9:=yh hx9;have HX29:=yh hx29;obtain⟨f09,f19,f29,f39,f49,f59⟩:=tkF y.1.kind y.1.fd y.1.line ⟨y.1.text.toArray⟩ ⟨y.1.plain.toArray⟩ pa9 pn9 pc9;clear hx9 hx29;obtain⟨e1,he1⟩:∃z:Bool,aR [38,38] ((TT tvs).drop j)=z:=⟨_,rfl⟩;obtain⟨e2,he2⟩:∃z:Bool,aR [124,124] ((TT tvs).drop j)=z:=⟨_,rfl⟩;have HE1:Hid (aR (⟨#[38,38]⟩:ByteArray).data.toList ((TT tvs).drop j)=e1):=yh he1;have HE2:Hid (aR (⟨#[124,124]⟩:ByteArray).data.toList ((TT tvs).drop j)=e2):=yh he2;have HTE:=yh (rk E HX9.out he1 he2);clear he1 he2
    cases hee:(e1||e2)with
    |false=>
     obtain⟨rfl,rfl⟩:=(Bool.or_eq_false_iff.1 hee);have HS9:=yh (by obtain⟨f,_,hf⟩:=HF.out;rw[hf,tt HE1.out HE2.out]:item pi ((TT tvs).drop i)=.ok nd ((TT tvs).drop j));clear hee;go_wp2_with (first|(with_reducible refine zS ?_;intro W hL hF)|(go_at_call 52;refine zG ?_;intro W hL hF;(((first|(with_reducible refine(d7 E b j vj (d:Int) _ (af HB0.out hL HXB.out) hbb Hvj hL.h0 ⟨#[38,38]⟩ _ HE1).mono ?_)|(with_reducible refine(d7 E b j vj (d:Int) _ (af HB0.out hL HXB.out) hbb Hvj hL.h0 ⟨#[124,124]⟩ _ HE2).mono ?_))));rintro e W ⟨rfl,hb⟩;replace hL:=hL.below hb;clear hb hF;have hF:=hL.fx))
     refine zF ?_;intro W hL hF;refine bodyPost_ret (by simp[results,Tryz.results51,go_sem, *];try rfl) rfl ?_;rw[HS9.out];exact m_ HN.out Hvj.out hL
    |true=>
     have HNE2:=yh (xK HE1.out HE2.out hee);have HEE:=yh hee;have hte:=HTE.out hee;clear HTE;have H49:Hid (y.1.kind≠4):=yh (by rcases bD E HX9.out with h|h;exact absurd h.1 HNE2.out;exact h.2.1)
     cases e1<;>cases e2<;>first|exact absurd hee (by decide)|(
      clear hee;go_upto_region 7 with(first|(go_at_call 52;refine zG ?_;intro W hL hF;(((first|(with_reducible refine(d7 E b j vj (d:Int) _ (af HB0.out hL HXB.out) hbb Hvj hL.h0 ⟨#[38,38]⟩ _ HE1).mono ?_)|(with_reducible refine(d7 E b j vj (d:Int) _ (af HB0.out hL HXB.out) hbb Hvj hL.h0 ⟨#[124,124]⟩ _ HE2).mono ?_))));rintro e W ⟨rfl,hb⟩;replace hL:=hL.below hb;clear hb hF;have hF:=hL.fx)|(go_at_call 53;(with_reducible refine zM (fun W hL=>d_ E b j vj (d:Int) _ (af HB0.out hL HXB.out) hbb Hvj hL.h0 HX9.out pa9 pn9 pc9 HX29.out H49.out) ?_);rintro W hL e W ⟨rfl,vj2,HVJ2,hb⟩;replace hL:=hL.jn 0 hb;clear hb;have hF:=hL.fx)|(go_at_call 49;(with_reducible refine zM (fun W hL=>dB E b (j+1) vj2 d _ (af HB0.out hL HXB.out) hbb HVJ2 hL.h0) ?_);rintro W hL e W ⟨j3,vj3,rfl,HJ3,hb⟩;replace hL:=hL.jn 0 hb;clear hb;have hF:=hL.fx))
      have HF2:=yh (rl HE1.out HE2.out HEE.out HF.out HJ3.out.2.2);have HCJ2:=yh (fun W hB hb=>HCC.out b j3 vj3 W hB hbb (yh HJ3.out.2.1) hb);have hj3:=HJ3.out.1
      cases hc2:pi ((TT tvs).drop j3)with
      |bad er m2=>
       rw[hc2]at HCJ2;have HB8:=yh (by obtain⟨f,_,hf⟩:=HF2.out;exact bB hf hc2:item pi ((TT tvs).drop i)=.bad er m2);clear hc2;go_wp2_with (first|(with_reducible refine zS ?_;intro W hL hF)|((with_reducible refine ac 7 ?_);refine zE ?_;intro W hL hF;refine bW [0,1,2,3,4,5,6] [0,1,2,5] [4,6] [0,2,5] (by kernel_rfl) (by kernel_rfl) (sD (sC sN)) ?_;clear hF hL;intro Qp hQp;replace hQp:=yh hQp;intro ι F hne hC hFF;have hG:=fun n=>(hFF n).fx;clear hFF;(repeat(first|(refine cS ?_)|((first|refine cF hC ?_|refine cP ?_);intro K hK;go_big_quiet_op;go_big_quiet_on)|(refine cE ?_;intro W hL hF;go_at_call 87;(with_reducible refine(HCJ2.out _ (af HB0.out hL HXB.out) hL.h0).mono ?_);rintro e W ⟨vj2,dj,rfl,hb⟩;replace hL:=hL.jn 0 hb;clear hb hF;have hF:=hL.fx;refine⟨_,rfl,hQp.out _ _ ?_⟩;clear hQp;intro a' ha;simp only[Exit.then,Exit.inBlock];refine⟨ha,?_⟩;show cR W0 b d g o cap tvs w (item pi ((TT tvs).drop i)) _ _;rw[HB8.out];exact⟨vj2,dj,rfl,hL.pm⟩)|(refine cM ?_;intro W hL hF;go_wp2;refine zB2 ?_;clear hL hC hG;intro ι F hne hC hG)));((done))))
      |ok x r=>
       rw[hc2]at HCJ2;have HF3:=yh (tu HF2.out hc2);have HLE2:=yh (fun j2 vj2 (h:AtV g o cap tvs j2 vj2) (hr:r=(TT tvs).drop j2)=>kQ h HJ3.out.2.1.1 (HW.out _) hc2 hr);clear hc2;go_wp2_with (first|(with_reducible refine zS ?_;intro W hL hF)|((with_reducible refine ac 7 ?_);refine zX [0,1,2,3,4,5,6] [4,6] ?_ (sD (sC sN));clear hF hL;intro ι F hne hC hG;(repeat(first|(refine cS ?_)|((first|refine cF hC ?_|refine cP ?_);intro K hK;go_big_quiet_op;go_big_quiet_on)|(refine cD ?_;intro W hL hF;go_at_call 87;(with_reducible refine(HCJ2.out _ (af HB0.out hL HXB.out) hL.h0).mono ?_);rintro e W ⟨nm2,aa2,na2,ca2,aw2,nw2,cw2,ar2,nr2,cr2,ak2,nk2,ck2,LN2,j2,vj2,rfl,HN2,HJ2,hb⟩;replace hL:=hL.jn 0 hb;clear hb hF;have hF:=hL.fx;replace hL:=hL.in1a;clear hF;have hF:=hL.fx;refine bK ?_;((refine aQ _ (by repeat' (first|(with_reducible exact List.nil_sublist _)|(with_reducible apply List.Sublist.cons_cons)|(with_reducible apply List.Sublist.cons))) ?_;clear hL hF));simp only[Act.put,zT])|(refine cM ?_;intro W hL hF;go_wp2;refine zB2 ?_;clear hL hF hC hG;intro ι F hne hC hG)));refine zN ?_;clear hC hG;intro W hL hF))
       have hle2:=HLE2.out _ _ HJ2.out.1 HJ2.out.2;have hj4:=HJ2.out.1.1;obtain⟨nm3,aa3,na3,ca3,aw3,nw3,cw3,ar3,nr3,cr3,ak3,nk3,ck3,LN3,hn3,hL3⟩:=rm hL (by rfl) (by omega) HN.out HN2.out;go_roundg (tvs.length-j2)
       case measure=>omega
       case rel=>exact⟨j2,vj2,_,nm3,aa3,na3,ca3,aw3,nw3,cw3,ar3,nr3,cr3,ak3,nk3,ck3,LN3,rfl,yh HJ2.out.1,yh (by obtain⟨f,hf1,hf⟩:=HF3.out;rw[HJ2.out.2]at hf;exact⟨f,by rw[List.length_drop]at hf1 |-;omega,hf⟩),yh hn3,hj4,hL3⟩))
theorem vZ{W0:World}{g o cap:Nat}{tvs:List (Tok×Value)}(E:PEnv W0 g o cap tvs){i:Nat}{x:Tok×Value}(hx:tvs[i]? =some x):gy ((TT tvs).drop i)=(((x.1.kind:Int)==4)||(aR [41] ((TT tvs).drop i)||(aR [59,59] ((TT tvs).drop i)||bP lr ((TT tvs).drop i)))):=by
 rcases bD E hx with⟨h1,h2,h3,h4⟩|⟨h1,h2,h3⟩
 ·rw[h1,h2];rfl
 ·rw[h1,show((x.1.kind:Int)==4)=false from beq_false_of_ne (by omega),Bool.false_or]
  show(_||_||_)=_
  rw[Bool.or_assoc]
def b_:List ByteArray:=closers.map fun s=>⟨s.toArray⟩
theorem fZ:b_.map (fun z=>z.data.toList)=closers:=by
 unfold b_;rw[List.map_map];exact List.map_id _
theorem oN:(b_.take 8).map (fun z=>z.data.toList)=lr:=by decide
theorem pU{W0 W:World}(hB:Below W0.heap.size W0 W){cg co:Nat}(h:∀(j:Nat) s,closers[j]? =some s->W0.cell? ⟨cg,co+j,none⟩=some (bs s))(m:Nat):∀j,j<(b_.take m).length->W.cell? ⟨cg,co+j,none⟩=some (.string ((b_.take m).getD j ByteArray.empty)):=fun j hj=>by
 have hj2:j<b_.length:=by rw[List.length_take]at hj;omega
 have hj3:j<closers.length:=by unfold b_ at hj2;rwa[List.length_map]at hj2
 have h1:=h j _ (List.getElem?_eq_getElem hj3)
 rw[bL h1 hB]
 congr 1
 rw[List.getD_eq_getElem?_getD,List.getElem?_eq_getElem hj,List.getElem_take,Option.getD_some]
 unfold b_
 rw[List.getElem_map]
 rfl
theorem jL{W0:World}{cg co:Nat}(h:∀(j:Nat) s,closers[j]? =some s->W0.cell? ⟨cg,co+j,none⟩=some (bs s)):cg<W0.heap.size:=aF (h 0 _ rfl)
theorem yC{W0:World}{g o cap:Nat}{tvs:List (Tok×Value)}(E:PEnv W0 g o cap tvs)(b i:Nat)(v:Value)(d:Nat)(w:World)(hB:Below W0.heap.size W0 w)(hbb:W0.heap.size<=b)(hv:Hid (AtV g o cap tvs i v))(hb:w.heap[b]? =some (.cells #[v,.int .i64 (d:Int)] 73 (0,0))):Calls Tryz.prog 50 #[.pointer (some ⟨b,0,none⟩)] w fun e w'=>e=.returned (.bool (gy ((TT tvs).drop i)))/\Below w.heap.size w w':=by
 obtain⟨x,pa,pn,pc,hx,hx2⟩:=E.tok hv.out
 have HX:=yh hx
 have HX2:=yh hx2
 obtain⟨f0,f1,f2,f3,f4,f5⟩:=tkF x.1.kind x.1.fd x.1.line ⟨x.1.text.toArray⟩ ⟨x.1.plain.toArray⟩ pa pn pc
 clear hx hx2
 rw[vZ E HX.out]
 obtain⟨k1,hk1⟩:∃k:Bool,((x.1.kind:Int)==4)=k:=⟨_,rfl⟩
 obtain⟨k2,hk2⟩:∃k:Bool,(aR [41] ((TT tvs).drop i))=k:=⟨_,rfl⟩
 obtain⟨k3,hk3⟩:∃k:Bool,(aR [59,59] ((TT tvs).drop i))=k:=⟨_,rfl⟩
 obtain⟨k4,hk4⟩:∃k:Bool,bP lr ((TT tvs).drop i)=k:=⟨_,rfl⟩
 rw[hk1,hk2,hk3,hk4]
 have HK2:Hid (aR (⟨#[41]⟩:ByteArray).data.toList ((TT tvs).drop i)=k2):=yh hk2
 have HK3:Hid (aR (⟨#[59,59]⟩:ByteArray).data.toList ((TT tvs).drop i)=k3):=yh hk3
 have HK4:Hid (bP ((b_.take 8).map fun z=>z.data.toList) ((TT tvs).drop i)=k4):=yh (by rw[oN];exact hk4)
 clear hk2 hk3 hk4
 obtain⟨cg,co,cc,hc1,hc2,hc3⟩:=E.clo
 have HC3:=yh hc3
 have hg0:=aF hc1
 have hc4:=bL hc1 hB
 have hcb:Hid (cg≠b):=yh (by have:=jL hc3;omega)
 have hg1:0<b:=by omega
 have hg2:0<w.heap.size:=aF hc4
 have hg3:¬0=b:=by omega
 clear hc3 hc1
 have HB0:=yh hB
 have HXB:=yh (xb hbb)
 have hL:Kn [b] w w [(b,.cells #[v,.int .i64 (d:Int)] 73 (0,0))]:=Kn.one hb
 have HBS:=yh hb
 clear hB hb
 have hF:=hL.fx
 cases k1<;>cases k2<;>cases k3<;>(
  go_enter Tryz.func50,Tryz.ntmps50;go_wp2_with (first|(with_reducible refine zS ?_;intro W hL hF)|(go_at_call 27;refine zC (fun W hL=>aK E b i v (d:Int) _ (af HB0.out hL HXB.out) hbb hv hL.h0 HX.out pa pn pc HX2.out) ?_;intro W hL hF)|(go_at_call 52;refine zG ?_;intro W hL hF;(((first|(with_reducible refine(d7 E b i v (d:Int) _ (af HB0.out hL HXB.out) hbb hv hL.h0 ⟨#[41]⟩ _ HK2).mono ?_)|(with_reducible refine(d7 E b i v (d:Int) _ (af HB0.out hL HXB.out) hbb hv hL.h0 ⟨#[59,59]⟩ _ HK3).mono ?_))));rintro e W ⟨rfl,hb⟩;replace hL:=hL.below hb;clear hb hF;have hF:=hL.fx)|(go_at_call 86;refine zC (fun W hL=>cj E b i v (d:Int) _ (af HB0.out hL HXB.out) hbb hv hL.h0 cg co 8 _ (b_.take 8) _ HK4 (yh rfl) (by omega) (pU (af HB0.out hL HXB.out) HC3.out 8) hcb.out) ?_;intro W hL hF))
  refine zF ?_;intro W hL hF;refine bodyPost_ret (by simp[results,Tryz.results50,go_sem, *];try rfl) rfl ?_;exact⟨rfl,dR (hL.sub (by repeat' ((exact List.Sublist.refl _)))) HBS.out⟩)
theorem rn{W0:World}{b d j g o cap n:Nat}{tvs:List (Tok×Value)}{w W:World}{vj:Value}(kind:Nat)(neg:Bool)(ks:List (Nd×List Value)){ak:Option Addr}{ck:Nat}{LC LK:List (Nat×Obj)}(hn:n=ks.length)(HRK:RowL 7 41 LK (.slice ak n ck) n (ks.flatMap (·.2)))(HK:∀x∈ks,NodeL W0 LC x.1 x.2)(Hvj:AtV g o cap tvs j vj){l:List Nd}(hl:l=ks.map (·.1)){q1 q2:Nat×Obj}(hL:Kn [b] w W ((b,.cells #[vj,.int .i64 (d:Int)] 73 (0,0))::q1::q2::(LC++LK))):
  cR W0 b d g o cap tvs w (.ok (.mk kind [] neg [] [] [] l) ((TT tvs).drop j)) (.returned (.agg #[.int .i64 (kind:Int),.string ⟨#[]⟩,.bool neg,.slice none 0 0,.slice none 0 0,.slice none 0 0,.slice ak n ck])) W:=by
 subst hn hl
 exact jK kind neg ks HRK HK Hvj hL
section
variable {it:Pa Nd} {ts l:List Tok} {ns:List Nd} {p:PR Nd} {F:List Nd->List Tok->PR Nd}
theorem ro(hf:∃(f:Nat) (us:List Tok),ts.length<f/\ay us=ts/\p=(ci it f ns us).bind F)(he:gy ts=true):p=F ns ts:=by
 obtain⟨f,us,h1,h2,h3⟩:=hf
 cases f with
 |zero=>omega
 |succ f=>rw[h3,ci,h2,if_pos he];rfl
theorem tA{x:Nd}{r:List Tok}(hf:∃(f:Nat) (us:List Tok),ts.length<f/\ay us=ts/\p=(ci it f ns us).bind F)(he:gy ts=false)(hx:it ts=.ok x r):
  ∃f:Nat,ts.length<=f/\p=(if sep r then ci it f (ns++[back r x]) r.tail else .ok (ns++[back r x]) r).bind F:=by
 obtain⟨f,us,h1,h2,h3⟩:=hf
 cases f with
 |zero=>omega
 |succ f=>
  refine⟨f,by omega,?_⟩;rw[h3,ci,h2,if_neg (by rw[he];decide),hx];rfl
theorem rp{e m:Nat}(hf:∃(f:Nat) (us:List Tok),ts.length<f/\ay us=ts/\p=(ci it f ns us).bind F)(he:gy ts=false)(hx:it ts=.bad e m):p=.bad e m:=by
 obtain⟨f,us,h1,h2,h3⟩:=hf
 cases f with
 |zero=>omega
 |succ f=>rw[h3,ci,h2,if_neg (by rw[he];decide),hx];rfl
variable {T:List Tok} {j2:Nat} {x:Nd} {k2 k3:Bool}
theorem oO(hf:∃f:Nat,ts.length<=f/\p=(if sep (T.drop j2)then ci it f (ns++[back (T.drop j2) x]) (T.drop j2).tail else .ok (ns++[back (T.drop j2) x]) (T.drop j2)).bind F)(h1:aR [38] (T.drop j2)=true):
  ∃(f:Nat) (us:List Tok),ts.length<=f/\us=T.drop (j2+1)/\p=(ci it f (ns++[.mk 5 [] false [] [] [] [x]]) us).bind F:=by
 obtain⟨f,hf1,hf⟩:=hf
 refine⟨f,_,hf1,rfl,?_⟩
 rw[hf,if_pos (by unfold sep;rw[h1];rfl),bx]
 unfold back
 rw[if_pos h1]
theorem rq(hf:∃f:Nat,ts.length<=f/\p=(if sep (T.drop j2)then ci it f (ns++[back (T.drop j2) x]) (T.drop j2).tail else .ok (ns++[back (T.drop j2) x]) (T.drop j2)).bind F)(h1:aR [38] (T.drop j2)=false)(h2:aR [59] (T.drop j2)=k2)(h3:isK 3 (T.drop j2)= !k3)(h:(k2|| !k3)=true):
  ∃(f:Nat) (us:List Tok),ts.length<=f/\us=T.drop (j2+1)/\p=(ci it f (ns++[x]) us).bind F:=by
 obtain⟨f,hf1,hf⟩:=hf
 refine⟨f,_,hf1,rfl,?_⟩
 rw[hf,if_pos (by unfold sep;rw[h1,h2,h3];simpa using h),bx]
 unfold back
 rw[if_neg (by rw[h1];decide)]
theorem oP(hf:∃f:Nat,ts.length<=f/\p=(if sep (T.drop j2)then ci it f (ns++[back (T.drop j2) x]) (T.drop j2).tail else .ok (ns++[back (T.drop j2) x]) (T.drop j2)).bind F)(h1:aR [38] (T.drop j2)=false)(h2:aR [59] (T.drop j2)=false)(h3:isK 3 (T.drop j2)= !true):p=F (ns++[x]) (T.drop j2):=by
 obtain⟨f,_,hf⟩:=hf
 rw[hf,if_neg (by unfold sep;rw[h1,h2,h3];decide)]
 unfold back
 rw[if_neg (by rw[h1];decide)]
 rfl
end
theorem yD{W0:World}{g o cap:Nat}{tvs:List (Tok×Value)}(E:PEnv W0 g o cap tvs){d:Nat}{it:Pa Nd}(hw:Wp it 1)(HC:ct W0 g o cap tvs 51 d it):ct W0 g o cap tvs 26 d (fun ts=>(ci it (ts.length+1) [] ts).bind fun l r=>.ok (.mk 4 [] false [] [] [] l) r):=by
 intro b i v w hB hbb hv hb
 show Calls _ _ _ _ (cR W0 b d g o cap tvs w ((ci it (((TT tvs).drop i).length+1) [] ((TT tvs).drop i)).bind fun l r=>.ok (.mk 4 [] false [] [] [] l) r))
 obtain⟨PL,hpl⟩:∃p:PR Nd,((ci it (((TT tvs).drop i).length+1) [] ((TT tvs).drop i)).bind fun l r=>.ok (.mk 4 [] false [] [] [] l) r)=p:=⟨_,rfl⟩
 rw[hpl]
 have HPL:=yh hpl
 clear hpl
 have HW:=yh hw
 have HCC:=yh HC
 clear hw HC
 have hi:=hv.out.1
 have hmx:=E.max
 have HB0:=yh hB
 have HXB:=yh (xb hbb)
 have hL:Kn [b] w w [(b,.cells #[v,.int .i64 (d:Int)] 73 (0,0))]:=Kn.one hb
 have HBS:=yh hb
 clear hB hb
 have hF:=hL.fx
 go_enter Tryz.func26,Tryz.ntmps26
 go_wp2_with (first|(with_reducible refine zS ?_;intro W hL hF)|(go_at_call 49;(with_reducible refine zM (fun W hL=>dB E b i v d _ (af HB0.out hL HXB.out) hbb hv hL.h2) ?_);rintro W hL e W ⟨j0,vj0,rfl,HJ0,hb⟩;replace hL:=hL.jn 2 hb;clear hb;have hF:=hL.fx))
 have hj0:=HJ0.out.2.1.1
 go_loopg [] (tvs.length-j0) (fun n wr=>∃(j:Nat) (vj:Value) (ks:List (Nd×List Value)) (ak:Option Addr) (ck:Nat) (LC LK:List (Nat×Obj)),n=tvs.length-j/\Hid (AtV g o cap tvs j vj)/\Hid (∃(f:Nat) (ts:List Tok),((TT tvs).drop j).length<f/\ay ts=(TT tvs).drop j/\PL=(ci it f (ks.map (·.1)) ts).bind fun l r=>.ok (.mk 4 [] false [] [] [] l) r)/\Hid (RowL 7 41 LK (.slice ak ks.length ck) ks.length (ks.flatMap (·.2)))/\Hid (∀x∈ks,NodeL W0 LC x.1 x.2)/\ks.length<=j/\j<tvs.length/\Kn [b] w wr ((b,.cells #[vj,.int .i64 (d:Int)] 73 (0,0))::(w.heap.size+1,.cells #[.int .i64 4,.string ⟨#[]⟩,.bool false,.slice none 0 0,.slice none 0 0,.slice none 0 0,.slice ak ks.length ck] 41 (0,0))::(w.heap.size,.cells #[.int .i64 0,.string ⟨#[]⟩,.bool false,.slice none 0 0,.slice none 0 0,.slice none 0 0,.slice none 0 0] 41 (0,0))::(LC++LK)))
 case atStart=>exact⟨j0,vj0,[],none,0,[],[],rfl,yh HJ0.out.2.1,yh ⟨_,(TT tvs).drop i,by have:=HJ0.out.1;rw[List.length_drop,List.length_drop];omega,HJ0.out.2.2,HPL.out.symm⟩,yh RowL.nil,yh (by simp),Nat.zero_le _,hj0,by refine Kn.name ?_;clear hL;intro hL;exact hL.pm⟩
 case round=>
  clear hL;obtain⟨j,vj,ks,ak,ck,LC,LK,rfl,Hvj,HF,HRK,HKS,hsz,hjl,hL⟩:=hrel;have hF:=hL.fx;obtain⟨e1,he1⟩:∃z:Bool,gy ((TT tvs).drop j)=z:=⟨_,rfl⟩;have HE1:=yh he1;have HEN:=yh (fun W hB hb=>yC E b j vj d W hB hbb Hvj hb);rw[he1]at HEN;have HCJ:=yh (fun W hB hb=>HCC.out b j vj W hB hbb Hvj hb)
  cases e1
  ·cases hc:it ((TT tvs).drop j)with
   |bad er m2=>
    rw[hc]at HCJ;have HB9:=yh (rp HF.out HE1.out hc);clear hc;go_wp2_with (first|(with_reducible refine zS ?_;intro W hL hF)|(go_at_call 50;refine zC (fun W hL=>HEN.out _ (af HB0.out hL HXB.out) hL.h0) ?_;intro W hL hF)|(go_at_call 51;(with_reducible refine zM (fun W hL=>HCJ.out _ (af HB0.out hL HXB.out) hL.h0) ?_);rintro W hL e W ⟨vj2,dj,rfl,hb⟩;replace hL:=hL.jn 0 hb;clear hb;have hF:=hL.fx))
    refine⟨rfl,?_⟩;rw[HB9.out];exact⟨vj2,dj,rfl,hL.pm⟩
   |ok x r=>(
     have HLE2:=yh (fun j2 vj2 (h:AtV g o cap tvs j2 vj2) (hr:r=(TT tvs).drop j2)=>kQ h hjl (HW.out _) hc hr);rw[hc]at HCJ;have HF2:=yh (tA HF.out HE1.out hc);clear hc;go_upto_region 6 with(first|(go_at_call 50;refine zC (fun W hL=>HEN.out _ (af HB0.out hL HXB.out) hL.h0) ?_;intro W hL hF)|(go_at_call 51;(with_reducible refine zM (fun W hL=>HCJ.out _ (af HB0.out hL HXB.out) hL.h0) ?_);rintro W hL e W ⟨nm,aa,na,ca,aw,nw,cw,ar,nr,cr,ak,nk,ck,LN,j2,vj2,rfl,HN,HJ2,hb⟩;replace hL:=hL.jn 0 hb;clear hb;have hF:=hL.fx;replace hL:=hL.in1;clear hF;have hF:=hL.fx;obtain⟨W1,rfl⟩:∃W1:World,W1=W:=⟨_,rfl⟩))
     have hle:=HLE2.out _ _ HJ2.out.1 HJ2.out.2;have hj2:=HJ2.out.1.1;have Hvj2:=yh HJ2.out.1;have hrd:=HJ2.out.2;rw[hrd]at HF2;clear hrd;obtain⟨y,pa8,pn8,pc8,hx8,hx28⟩:=E.tok Hvj2.out;have HX8:=yh hx8;have HX28:=yh hx28;obtain⟨f08,f18,f28,f38,f48,f58⟩:=tkF y.1.kind y.1.fd y.1.line ⟨y.1.text.toArray⟩ ⟨y.1.plain.toArray⟩ pa8 pn8 pc8;clear hx8 hx28;obtain⟨k1,hk1⟩:∃z:Bool,aR [38] ((TT tvs).drop j2)=z:=⟨_,rfl⟩;obtain⟨k2,hk2⟩:∃z:Bool,aR [59] ((TT tvs).drop j2)=z:=⟨_,rfl⟩;obtain⟨k3,hk3⟩:∃z:Bool,((y.1.kind:Int) != 3)=z:=⟨_,rfl⟩;have HK1:Hid (aR (⟨#[38]⟩:ByteArray).data.toList ((TT tvs).drop j2)=k1):=yh hk1;have HK2:Hid (aR (⟨#[59]⟩:ByteArray).data.toList ((TT tvs).drop j2)=k2):=yh hk2;have HK3:Hid (isK 3 ((TT tvs).drop j2)= !k3):=yh (by rw[lF E HX8.out 3 (by omega),<- hk3];exact(Bool.not_not _).symm);clear hk1 hk2
     cases k1
     ·cases hsp:(k2|| !k3)with
      |true=>
       have HNE2:=yh (x8 (show sep ((TT tvs).drop j2)=true by unfold sep;rw[show aR [38] _=_ from HK1.out,show aR [59] _=_ from HK2.out,HK3.out];simpa using hsp));have HF3:=yh (rq HF2.out HK1.out HK2.out HK3.out (by simpa using hsp))
       cases k2<;>cases k3<;>first|exact absurd hsp (by decide)|(
       clear hsp;go_wp2_with (first|(with_reducible refine zS ?_;intro W hL hF)|(go_at_call 52;refine zG ?_;intro W hL hF;(((first|(with_reducible refine(d7 E b j2 vj2 (d:Int) _ (af HB0.out hL HXB.out) hbb Hvj2 (by first|exact hL.has _ m1|exact hL.has _ m2) ⟨#[38]⟩ _ HK1).mono ?_)|(with_reducible refine(d7 E b j2 vj2 (d:Int) _ (af HB0.out hL HXB.out) hbb Hvj2 hL.h2 ⟨#[59]⟩ _ HK2).mono ?_))));rintro e W ⟨rfl,hb⟩;replace hL:=hL.below hb;clear hb hF;have hF:=hL.fx)|(go_at_call 27;refine zC (fun W hL=>aK E b j2 vj2 (d:Int) _ (af HB0.out hL HXB.out) hbb Hvj2 hL.h2 HX8.out pa8 pn8 pc8 HX28.out) ?_;intro W hL hF)|(at_builtin;refine zL ?_;intro W hL hF;(refine ah rfl _ _ 39 39 rfl (_::_::_::_::_::(LN++LC)) LK hL ks.length 1 (ks.flatMap (·.2)) [.int .i64 (x.kind:Int),.string nm,.bool x.neg,.slice aa na ca,.slice aw nw cw,.slice ar nr cr,.slice ak nk ck] _ _ HRK.out rfl rfl (fun ho=>bM rfl (fun j u hu=>by rw[Go.WideShapes.add_plain,Nat.zero_add,aO hL m0];simpa using hu) (by intro u hu;simp only[List.mem_cons,List.not_mem_nil,or_false]at hu;rcases hu with rfl|rfl|rfl|rfl|rfl|rfl|rfl<;>rfl) (by omega) ho) ?_);intro LP3 a3 c3 W3 hL2 hr3;clear hL hF;have hL:=hL2;clear hL2;simp only[List.append_eq,List.cons_append,List.nil_append]at hL;have hF:=hL.fx)|(go_at_call 53;(with_reducible refine zM (fun W hL=>dO E b j2 vj2 (d:Int) _ (af HB0.out hL HXB.out) hbb Hvj2 hL.h2 HNE2.out) ?_);rintro W hL e W ⟨x1,pa1,pn1,pc1,vj3,rfl,HTX2,HVJ3,hb⟩;replace hL:=hL.jn 2 hb;clear hb;have hF:=hL.fx)|(go_at_call 49;(with_reducible refine zM (fun W hL=>dB E b (j2+1) vj3 d _ (af HB0.out hL HXB.out) hbb HVJ3 hL.h0) ?_);rintro W hL e W ⟨j4,vj4,rfl,HJ4,hb⟩;replace hL:=hL.jn 0 hb;clear hb;have hF:=hL.fx))
       go_roundg (tvs.length-j4)
       case measure=>have:=HJ4.out.1;have:=HJ4.out.2.1.1;omega
       case rel=>exact⟨j4,vj4,ks++[(x,[.int .i64 (x.kind:Int),.string nm,.bool x.neg,.slice aa na ca,.slice aw nw cw,.slice ar nr cr,.slice ak nk ck])],a3,c3,LN++LC,LP3,rfl,yh HJ4.out.2.1,yh (by obtain⟨f,ts,h1,rfl,h3⟩:=HF3.out;exact⟨f,_,by have h7:=HJ4.out.1;have h8:=HJ4.out.2.1.1;rw[List.length_drop,ep]at h1 |-;omega,HJ4.out.2.2,by simpa using h3⟩),yh (by simpa using hr3),yh (bQ (fun y hy=>(HKS.out y hy).r) HN.out.l),by have:=HJ4.out.1;simp only[List.length_append,List.length_singleton];omega,by have:=HJ4.out.2.1.1;omega,by refine Kn.name ?_;clear hL;intro hL;simp only[List.length_append,List.length_singleton];exact hL.pm⟩)
      |false=>
       obtain⟨rfl,rfl⟩:k2=false/\k3=true:=by cases k2<;>cases k3<;>first|exact⟨rfl,rfl⟩|cases hsp
       have HS9:=yh (oP HF2.out HK1.out HK2.out HK3.out);clear hsp;go_wp2_with (first|(with_reducible refine zS ?_;intro W hL hF)|(go_at_call 52;refine zG ?_;intro W hL hF;(((first|(with_reducible refine(d7 E b j2 vj2 (d:Int) _ (af HB0.out hL HXB.out) hbb Hvj2 (by first|exact hL.has _ m1|exact hL.has _ m2) ⟨#[38]⟩ _ HK1).mono ?_)|(with_reducible refine(d7 E b j2 vj2 (d:Int) _ (af HB0.out hL HXB.out) hbb Hvj2 hL.h2 ⟨#[59]⟩ _ HK2).mono ?_))));rintro e W ⟨rfl,hb⟩;replace hL:=hL.below hb;clear hb hF;have hF:=hL.fx)|(go_at_call 27;refine zC (fun W hL=>aK E b j2 vj2 (d:Int) _ (af HB0.out hL HXB.out) hbb Hvj2 hL.h2 HX8.out pa8 pn8 pc8 HX28.out) ?_;intro W hL hF)|(at_builtin;refine zL ?_;intro W hL hF;(refine ah rfl _ _ 39 39 rfl (_::_::_::_::_::(LN++LC)) LK hL ks.length 1 (ks.flatMap (·.2)) [.int .i64 (x.kind:Int),.string nm,.bool x.neg,.slice aa na ca,.slice aw nw cw,.slice ar nr cr,.slice ak nk ck] _ _ HRK.out rfl rfl (fun ho=>bM rfl (fun j u hu=>by rw[Go.WideShapes.add_plain,Nat.zero_add,aO hL m0];simpa using hu) (by intro u hu;simp only[List.mem_cons,List.not_mem_nil,or_false]at hu;rcases hu with rfl|rfl|rfl|rfl|rfl|rfl|rfl<;>rfl) (by omega) ho) ?_);intro LP3 a3 c3 W3 hL2 hr3;clear hL hF;have hL:=hL2;clear hL2;simp only[List.append_eq,List.cons_append,List.nil_append]at hL;have hF:=hL.fx))
       refine zF ?_;intro W hL hF;refine bodyPost_ret (by simp[results,Tryz.results26,go_sem, *];try rfl) rfl ?_;rw[HS9.out];exact rn 4 false (ks++[(x,[.int .i64 (x.kind:Int),.string nm,.bool x.neg,.slice aa na ca,.slice aw nw cw,.slice ar nr cr,.slice ak nk ck])]) (by simp) (by simpa using hr3) (bQ (fun y hy=>(HKS.out y hy).r) HN.out.l) Hvj2.out (by simp) (LC:=LN++LC) (hL.sub (sD (sD sR)))
     ·have HNE2:=yh (gV HK1.out)
      have HF3:=yh (oO HF2.out HK1.out);go_upto_region 7 with((go_at_call 52;refine zC (fun W hL=>d7 E b j2 vj2 (d:Int) _ (af HB0.out hL HXB.out) hbb Hvj2 hL.h1 ⟨#[38]⟩ _ HK1) ?_;intro W hL hF;obtain⟨W2,rfl⟩:∃W2:World,W2=W:=⟨_,rfl⟩))
      go_wp2_with (first|(with_reducible refine zS ?_;intro W hL hF)|(go_at_call 52;refine zC (fun W hL=>d7 E b j2 vj2 (d:Int) _ (af HB0.out hL HXB.out) hbb Hvj2 hL.h3 ⟨#[38]⟩ _ HK1) ?_;intro W hL hF)|(go_at_call 27;refine zC (fun W hL=>aK E b j2 vj2 (d:Int) _ (af HB0.out hL HXB.out) hbb Hvj2 hL.h0 HX8.out pa8 pn8 pc8 HX28.out) ?_;intro W hL hF)|(at_builtin;refine cT ?_;clear hF hL;intro W hL;simp only[kfb]at hL;have hF:=hL.fx;(refine ah rfl _ _ 39 39 rfl (_::_::_::_::_::_::(LN++LC)) LK hL ks.length 1 (ks.flatMap (·.2)) [.int .i64 5,.string ⟨#[]⟩,.bool false,.slice none 0 0,.slice none 0 0,.slice none 0 0,.slice (some ⟨W2.heap.size,0,none⟩) 1 1] _ _ HRK.out rfl rfl (fun ho=>bM rfl (fun j u hu=>by rw[Go.WideShapes.add_plain,Nat.zero_add,aO hL m0];simpa using hu) (by intro u hu;simp only[List.mem_cons,List.not_mem_nil,or_false]at hu;rcases hu with rfl|rfl|rfl|rfl|rfl|rfl|rfl<;>rfl) (by omega) ho) ?_);intro LP3 a3 c3 W3 hL2 hr3;clear hL hF;have hL:=hL2;clear hL2;simp only[List.append_eq,List.cons_append,List.nil_append]at hL;have hF:=hL.fx)|(go_at_call 53;(with_reducible refine zM (fun W hL=>dO E b j2 vj2 (d:Int) _ (af HB0.out hL HXB.out) hbb Hvj2 hL.h3 HNE2.out) ?_);rintro W hL e W ⟨x1,pa1,pn1,pc1,vj3,rfl,HTX2,HVJ3,hb⟩;replace hL:=hL.jn 3 hb;clear hb;have hF:=hL.fx)|(go_at_call 49;(with_reducible refine zM (fun W hL=>dB E b (j2+1) vj3 d _ (af HB0.out hL HXB.out) hbb HVJ3 hL.h0) ?_);rintro W hL e W ⟨j4,vj4,rfl,HJ4,hb⟩;replace hL:=hL.jn 0 hb;clear hb;have hF:=hL.fx))
      go_roundg (tvs.length-j4)
      case measure=>have:=HJ4.out.1;have:=HJ4.out.2.1.1;omega
      case rel=>exact⟨j4,vj4,ks++[(.mk 5 [] false [] [] [] [x],[.int .i64 5,.string ⟨#[]⟩,.bool false,.slice none 0 0,.slice none 0 0,.slice none 0 0,.slice (some ⟨W2.heap.size,0,none⟩) 1 1])],a3,c3,(W2.heap.size,Obj.cells #[.int .i64 (x.kind:Int),.string nm,.bool x.neg,.slice aa na ca,.slice aw nw cw,.slice ar nr cr,.slice ak nk ck] 41 (0,0))::(LN++LC),LP3,rfl,yh HJ4.out.2.1,yh (by obtain⟨f,ts,h1,rfl,h3⟩:=HF3.out;exact⟨f,_,by have h7:=HJ4.out.1;have h8:=HJ4.out.2.1.1;rw[List.length_drop,ep]at h1 |-;omega,HJ4.out.2.2,by simpa using h3⟩),yh (by simpa using hr3),yh (bQ (fun y hy=>(HKS.out y hy).mono fun p hp=>List.mem_cons_of_mem _ (List.mem_append_right _ hp)) (NodeL.one (name:=[]) (HN.out.mono fun p hp=>List.mem_cons_of_mem _ (List.mem_append_left _ hp)) m0 (by omega))),by have:=HJ4.out.1;simp only[List.length_append,List.length_singleton];omega,by have:=HJ4.out.2.1.1;omega,by refine Kn.name ?_;clear hL;intro hL;simp only[List.length_append,List.length_singleton];exact hL.pm⟩)
  ·have HS9:=yh (ro HF.out HE1.out)
   go_wp2_with (first|(with_reducible refine zS ?_;intro W hL hF)|(go_at_call 50;refine zC (fun W hL=>HEN.out _ (af HB0.out hL HXB.out) hL.h0) ?_;intro W hL hF))
   refine zF ?_;intro W hL hF;refine bodyPost_ret (by simp[results,Tryz.results26,go_sem, *];try rfl) rfl ?_;rw[HS9.out];exact jK 4 false ks HRK.out HKS.out Hvj.out hL
def BodyIs(W0:World)(LC LK:List (Nat×Obj))(a:Nd)(kz:Int)(nm:ByteArray)(vw:Value)(ak:Option Addr)(nk ck:Nat):Prop:=
 ∃(kind:Nat) (ws:List (List Prt×Value)) (ks:List (Nd×List Value)),a=.mk kind nm.data.toList false [] (ws.map (·.1)) [] (ks.map (·.1))/\kz=(kind:Int)/\RowM 1 W0 LC vw (ws.map fun x=>[x.2])/\(∀x∈ws,PRm W0 LC x.2 x.1)/\nk=ks.length/\RowL 7 41 LK (.slice ak nk ck) nk (ks.flatMap (·.2))/\∀x∈ks,NodeL W0 LC x.1 x.2
def fh(W0:World)(b d:Nat)(g o cap:Nat)(tvs:List (Tok×Value))(w:World)(p:PR Nd)(e:Ending)(w':World):Prop:=match p with
 |.ok a r=>∃(kz:Int) (nm:ByteArray) (aw:Option Addr) (nw cw:Nat) (ak:Option Addr) (nk ck:Nat) (LC LK:List (Nat×Obj)) (j:Nat) (vj:Value),e=.returned (.agg #[.int .i64 kz,.string nm,.bool false,.slice none 0 0,.slice aw nw cw,.slice none 0 0,.slice ak nk ck])/\Hid (BodyIs W0 LC LK a kz nm (.slice aw nw cw) ak nk ck)/\Hid (AtV g o cap tvs j vj/\r=(TT tvs).drop j)/\Kn [b] w w' ((b,.cells #[vj,.int .i64 (d:Int)] 73 (0,0))::(LC++LK))
 |.bad er m=>∃vj dj,e=.panicked [{v:=.iface 70 (.agg #[.int .i64 (jG er),.int .i64 (eL tvs m)]),recovered:=false}]/\Kn [b] w w' [(b,.cells #[vj,.int .i64 dj] 73 (0,0))]
def gn(W0:World)(g o cap:Nat)(tvs:List (Tok×Value))(f:FuncId)(d:Nat)(p:Pa Nd):Prop:=
 ∀(b i:Nat) (v:Value) (w:World),Below W0.heap.size W0 w->W0.heap.size<=b->Hid (AtV g o cap tvs i v)->w.heap[b]? =some (.cells #[v,.int .i64 (d:Nat)] 73 (0,0))->
  Calls Tryz.prog f #[.pointer (some ⟨b,0,none⟩)] w (fh W0 b d g o cap tvs w (p ((TT tvs).drop i)))
theorem BodyIs.node{W0:World}{LC LK:List (Nat×Obj)}{a:Nd}{kz:Int}{nm:ByteArray}{vw:Value}{ak:Option Addr}{nk ck:Nat}(h:BodyIs W0 LC LK a kz nm vw ak nk ck):NodeL W0 (LC++LK) a [.int .i64 kz,.string nm,.bool false,.slice none 0 0,vw,.slice none 0 0,.slice ak nk ck]:=by
 obtain⟨kind,ws,ks,rfl,rfl,h1,h2,rfl,h3,h4⟩:=h
 have:=NodeL.of (W0:=W0) (L:=LC++LK) (kind:=kind) (name:=nm.data.toList) (neg:=false) (h1.mono fun p hp=>List.mem_append_left _ hp) (fun x hx=>(h2 x hx).mono fun p hp=>List.mem_append_left _ hp) (iA h4 h3 fun p hp=>List.mem_append_right _ hp) (fun x hx=>(h4 x hx).l)
 rwa[cz]at this
theorem nc{t:TypeId}{g c:Nat}{cs:List Value}(hl:cs.length=7)(hc:c=1):RowL 7 t [(g,.cells cs.toArray t (0,0))] (.slice (some ⟨g,0,none⟩) 1 c) 1 cs:=
 .inr ⟨g,c,_,rfl,rfl,by subst hc;simp[hl],by omega,by subst hc;decide,by simpa using List.take_of_length_le (by omega),by omega⟩
theorem tB{t:TypeId}{g c:Nat}{cs ds:List Value}(hl:cs.length=7)(hl2:ds.length=7)(hc:c=2):RowL 7 t [(g,.cells (cs++ds).toArray t (0,0))] (.slice (some ⟨g,0,none⟩) 2 c) 2 (cs++ds):=
 .inr ⟨g,c,_,rfl,rfl,by subst hc;simp[hl,hl2],by omega,by subst hc;decide,by simpa using List.take_of_length_le (by simp;omega),by simp;omega⟩
theorem Kn.in0{X:List Nat}{w0 W:World}{p0 p1:Nat×Obj}{LP:List (Nat×Obj)}(h:Kn X w0 W (p0::(LP++[p1]))):Kn X w0 W (p0::p1::LP):=h.perm fun p=>by simp only[List.countP_cons,List.countP_append,List.countP_nil];omega
theorem Kn.swap01{X:List Nat}{w0 W:World}{p0 p1:Nat×Obj}{R:List (Nat×Obj)}(h:Kn X w0 W (p0::p1::R)):Kn X w0 W (p1::p0::R):=h.perm fun p=>by simp only[List.countP_cons];omega
theorem NodeL.nk{W0:World}{L:List (Nat×Obj)}{n:Nd}{v0 v1 v2 va vw vr:Value}{ak:Option Addr}{nk ck:Nat}(h:NodeL W0 L n [v0,v1,v2,va,vw,vr,.slice ak nk ck]):((nk:Int)==0)=n.kids.isEmpty:=by
 cases h with
 |mk kind name neg al ws rs ks va vw vr vk h1 h2 h3 h4 h5 h6 h7 h8=>
  obtain⟨ao,c,e,_⟩:=h7;injection e with e1 e2 e3
  rw[e2,List.length_map];show _=(ks.map (·.1)).isEmpty
  cases ks with
  |nil=>rfl
  |cons x r=>exact beq_false_of_ne (by simp;omega)
theorem yE{W0:World}{g o cap:Nat}{tvs:List (Tok×Value)}(E:PEnv W0 g o cap tvs){d:Nat}{li:Pa Nd}(HC:ct W0 g o cap tvs 26 d li):ct W0 g o cap tvs 162 d (fun ts=>(li ts).bind fun n r=>if n.kids.isEmpty then syn r else .ok n r):=by
 intro b i v w hB hbb hv hb
 have HCJ:=yh (fun W hB hb=>HC b i v W hB hbb hv hb)
 obtain⟨PL,hpl⟩:∃p:PR Nd,((li ((TT tvs).drop i)).bind fun n r=>if n.kids.isEmpty then syn r else .ok n r)=p:=⟨_,rfl⟩
 show Calls _ _ _ _ (cR W0 b d g o cap tvs w ((li ((TT tvs).drop i)).bind fun n r=>if n.kids.isEmpty then syn r else .ok n r))
 rw[hpl]
 clear HC
 have HB0:=yh hB
 have HXB:=yh (xb hbb)
 have hL:Kn [b] w w [(b,.cells #[v,.int .i64 (d:Int)] 73 (0,0))]:=Kn.one hb
 have HBS:=yh hb
 clear hB hb
 have hF:=hL.fx
 cases hc:li ((TT tvs).drop i)with
 |bad er m2=>
  rw[hc]at HCJ;have HB9:=yh (bB hpl.symm hc);clear hc hpl;go_enter Tryz.func162,Tryz.ntmps162;go_wp2_with (first|(with_reducible refine zS ?_;intro W hL hF)|(go_at_call 26;(with_reducible refine zM (fun W hL=>HCJ.out _ (af HB0.out hL HXB.out) hL.h1) ?_);rintro W hL e W ⟨vj2,dj,rfl,hb⟩;replace hL:=hL.jn 1 hb;clear hb;have hF:=hL.fx))
  refine⟨rfl,?_⟩;rw[HB9.out];exact⟨vj2,dj,rfl,hL.pm⟩
 |ok x r=>
  rw[hc]at HCJ;have HB9:=yh (b8 hpl.symm hc);clear hc hpl;obtain⟨e1,he1⟩:∃z:Bool,x.kids.isEmpty=z:=⟨_,rfl⟩;rw[he1]at HB9;have HE1:=yh he1;clear he1;go_enter Tryz.func162,Tryz.ntmps162;go_upto_region 2 with((go_at_call 26;(with_reducible refine zM (fun W hL=>HCJ.out _ (af HB0.out hL HXB.out) hL.h1) ?_);rintro W hL e W ⟨nm,aa,na,ca,aw,nw,cw,ar,nr,cr,ak,nk,ck,LN,j2,vj2,rfl,HN,HJ2,hb⟩;replace hL:=hL.jn 1 hb;clear hb;have hF:=hL.fx;replace hL:=hL.in0;clear hF;have hF:=hL.fx;obtain⟨W1,rfl⟩:∃W1:World,W1=W:=⟨_,rfl⟩))
  have hnk:=HN.out.nk;rw[HE1.out]at hnk;have Hvj2:=yh HJ2.out.1;obtain⟨m,hm⟩:∃m,m=((TT tvs).drop j2).length:=⟨_,rfl⟩;have Hm:=yh hm;clear hm
  cases e1
  ·go_upto_region 4 with fail
   refine zE ?_;intro W hL hF;go_wp2_with (with_reducible refine zS ?_;intro W hL hF)
   refine zF ?_;intro W hL hF;refine bodyPost_ret (by simp[results,Tryz.results162,go_sem, *];try rfl) rfl ?_;rw[show PL=.ok x ((TT tvs).drop j2)from by rw[HB9.out,HJ2.out.2];rfl];exact m_ HN.out Hvj2.out hL.swap01
  ·go_wp2_with (first|(with_reducible refine zS ?_;intro W hL hF)|(go_at_call 28;(with_reducible refine zM (fun W hL=>fg E b j2 vj2 d _ (af HB0.out hL HXB.out) hbb Hvj2 hL.h1 27 d 1 (yh rfl) m Hm) ?_);rintro W hL e W ⟨vj,dj,rfl,hb⟩;replace hL:=hL.jn 1 hb;clear hb;have hF:=hL.fx))
   refine⟨rfl,?_⟩;rw[show PL=.bad 1 m from by rw[HB9.out,HJ2.out.2,Hm.out];rfl];exact⟨vj,dj,rfl,hL.pm⟩
end
end Go.Proofs.YtgboffbbpmileaaGreatDoor
