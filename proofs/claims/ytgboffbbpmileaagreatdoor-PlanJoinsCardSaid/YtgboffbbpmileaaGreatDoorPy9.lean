/- Lemmas and walks for the law VLawPJoins (part 9). -/
import Derived.Test.YtgboffbbpmileaaGreatDoorPy8
import Derived.Test.YtgboffbbpmileaaGreatDoorProg
import Derived.WalkKit
import Derived.Handy
import Derived.Deep.Light
import Derived.WalkSmall
import Derived.StillTailTactics
import Derived.Lib.Hide
import Derived.Deep.LoopGhost
import Derived.Deep.DeepCutAuto
set_option maxRecDepth 20000
set_option maxHeartbeats 4000000
set_option linter.unusedVariables false
set_option linter.unusedSimpArgs false
namespace Go.Proofs.YtgboffbbpmileaaGreatDoor
open Go Go.RowKit
section
theorem kC{W0:World}{b d j g o cap:Nat}{tvs:List (Tok×Value)}{w W:World}{vj:Value}(kind:Nat)(neg:Bool)(ks:List (Nd×List Value)){ak:Option Addr}{ck:Nat}{LC LK:List (Nat×Obj)}(HRK:RowL 7 41 LK (.slice ak ks.length ck) ks.length (ks.flatMap (·.2)))(HK:∀x∈ks,NodeL W0 LC x.1 x.2)(Hvj:AtV g o cap tvs j vj){q1 q2:Nat×Obj}(hL:Kn [b] w W ((b,.cells #[vj,.int .i64 (d:Int)] 73 (0,0))::q1::q2::(LC++LK))):
  db W0 b d g o cap tvs w (.ok (.mk kind [] neg [] [] [] (ks.map (·.1))) ((TT tvs).drop j)) (.returned (.agg #[.int .i64 (kind:Int),.string ⟨#[]⟩,.bool neg,.slice none 0 0,.slice none 0 0,.slice none 0 0,.slice ak ks.length ck])) W:=
 ⟨⟨#[]⟩,none,0,0,none,0,0,none,0,0,ak,ks.length,ck,LC++LK,j,vj,rfl,yh (NodeL.of (ws:=[]) RowM.nil (fun x hx=>by cases hx) (i_ HK HRK fun p hp=>List.mem_append_right _ hp) fun x hx=>(HK x hx).l),yh ⟨Hvj,rfl⟩,hL.sub (sC (sD (sD sR)))⟩
theorem vd{cmd:Pa Nd}{f:Nat}{l:List Nd}{ts:List Tok}(h:aS [124] ts=false):dl cmd f l ts=.ok l ts:=by
 cases f with
 |zero=>rfl
 |succ f=>unfold dl;rw[h];rfl
theorem tc{cmd:Pa Nd}{f:Nat}{l:List Nd}{ts:List Tok}(h:aS [124] ts=true)(hf:ts.length<=f):∃f',ts.tail.length<=f'/\dl cmd f l ts=(cmd (au ts.tail)).bind fun x r=>dl cmd f' (l++[x]) r:=by
 have:=dR (eW h)
 cases f with
 |zero=>omega
 |succ f=>exact⟨f,by omega,by rw[dl,if_pos h]⟩
theorem lW{g o cap:Nat}{tvs:List (Tok×Value)}{j j2:Nat}{vj:Value}(h:AtV g o cap tvs j2 vj)(hj:j<tvs.length){p:PR Nd}{x:Nd}{r:List Tok}{d:Nat}(hw:Wi p ((TT tvs).drop j) d)(hp:p=.ok x r)(hr:r=(TT tvs).drop j2):j+d<=j2:=by
 subst hp hr
 have h1:=hw.2
 have h2:=h.1
 rw[List.length_drop,List.length_drop,eX]at h1
 omega
theorem lX{α β γ:Type}(p:PR α)(f:α->List Tok->PR β)(h:β->List Tok->PR γ):(p.bind f).bind h=p.bind fun a r=>(f a r).bind h:=by cases p<;>rfl
theorem cx{α β:Type}{p:PR α}{f:α->List Tok->PR β}{q:PR β}{a:α}{r:List Tok}(h:q=p.bind f)(hp:p=.ok a r):q=f a r:=by rw[h,hp];rfl
theorem bH{α β:Type}{p:PR α}{f:α->List Tok->PR β}{q:PR β}{e m:Nat}(h:q=p.bind f)(hp:p=.bad e m):q=.bad e m:=by rw[h,hp];rfl
theorem AL{W0:World}{g o cap:Nat}{tvs:List (Tok×Value)}(E:PEnv W0 g o cap tvs){d:Nat}{cmd:Pa Nd}(hw:Wp cmd 1)(HC:cL W0 g o cap tvs 105 d cmd):cL W0 g o cap tvs 87 d (pipe cmd):=by
 intro b i v w hB hbb hv hb
 obtain⟨k1,hk1⟩:∃z:Bool,bS [[33]] ((TT tvs).drop i)=z:=⟨_,rfl⟩
 have HK1:Hid (bS ([(⟨#[33]⟩:ByteArray)].map fun z=>z.data.toList) ((TT tvs).drop i)=k1):=yh hk1
 obtain⟨i1,hi1⟩:∃z:Nat,(if k1=true then i+1 else i)=z:=⟨_,rfl⟩
 have HP:pipe cmd ((TT tvs).drop i)=(cmd ((TT tvs).drop i1)).bind fun x r=>(dl cmd r.length [x] r).bind fun l r=>.ok (.mk 1 [] k1 [] [] [] l) r:=by
  show(cmd (if bS [[33]] ((TT tvs).drop i)then((TT tvs).drop i).tail else(TT tvs).drop i)).bind _=_
  rw[hk1,<- hi1]
  cases k1<;>simp only[Bool.false_eq_true,if_false,if_true,List.tail_drop]
 have HPL:=yh HP
 have HI1:=yh hi1
 have HW:=yh hw
 have HCC:=yh HC
 clear hk1 hi1 HP hw HC
 have hi:=hv.out.1
 have hmx:=E.max
 have HB0:=yh hB
 have HXB:=yh (xb hbb)
 have hL:Kn [b] w w [(b,.cells #[v,.int .i64 (d:Int)] 73 (0,0))]:=Kn.one hb
 have HBS:=yh hb
 clear hB hb
 have hF:=hL.fx
 go_enter Tryz.func87,Tryz.ntmps87
 go_upto_if 10 with((go_at_call 86;refine zC (fun W hL=>cK E b i v (d:Int) _ (ag HB0.out hL HXB.out) hbb hv hL.h3 _ 0 1 _ [⟨#[33]⟩] _ HK1 (yh rfl) (by omega) (b8 (ff hL m0)) (by(exact fg hL m2))) ?_;intro W hL hF))
 go_cut [] (fun wc=>∃(vj:Value) (ks:List (Nd×List Value)) (ak:Option Addr) (ck:Nat) (LC LK:List (Nat×Obj)),Hid (AtV g o cap tvs i1 vj)/\Hid (ks=[])/\Hid (RowL 7 41 LK (.slice ak ks.length ck) ks.length (ks.flatMap (·.2)))/\Hid (∀x∈ks,NodeL W0 LC x.1 x.2)/\Kn [b] w wc ((b,.cells #[vj,.int .i64 (d:Int)] 73 (0,0))::(w.heap.size+1,.cells #[.int .i64 1,.string ⟨#[]⟩,.bool k1,.slice none 0 0,.slice none 0 0,.slice none 0 0,.slice ak ks.length ck] 41 (0,0))::(w.heap.size,.cells #[.int .i64 0,.string ⟨#[]⟩,.bool false,.slice none 0 0,.slice none 0 0,.slice none 0 0,.slice none 0 0] 41 (0,0))::(LC++LK)))
 case first=>
  cases k1
  ·obtain rfl:i=i1:=HI1.out
   go_wp2;go_meet
   case rel=>exact⟨v,[],none,0,[],[],hv,yh rfl,yh RowL.nil,yh (by simp),by refine Kn.name ?_;clear hL;intro hL;simp only[kfb]at hL;exact hL.pm⟩
  ·have HNE:=yh (kk HK1.out)
   obtain rfl:i+1=i1:=HI1.out;go_wp2_with (first|(with_reducible refine zS ?_;intro W hL hF)|(go_at_call 53;(with_reducible refine zM (fun W hL=>ea E b i v (d:Int) _ (ag HB0.out hL HXB.out) hbb hv hL.h3 HNE.out) ?_);rintro W hL e W ⟨x1,pa1,pn1,pc1,vj,rfl,HTX,HVJ,hb⟩;replace hL:=hL.jn 3 hb;clear hb;have hF:=hL.fx))
   go_meet
   case rel=>exact⟨vj,[],none,0,[],[],HVJ,yh rfl,yh RowL.nil,yh (by simp),by refine Kn.name ?_;clear hL;intro hL;exact hL.pm⟩
 case rest=>
  clear hL;obtain⟨vj,ks,ak,ck,LC,LK,Hvj,HKS0,HRK,HKS,hL⟩:=hcut;have hF:=hL.fx;have HCJ:=yh (fun W hB hb=>HCC.out b i1 vj W hB hbb Hvj hb);have hks0:ks.length<=i1:=by rw[HKS0.out];exact Nat.zero_le _
  have hi1:=Hvj.out.1;have hi2:i1<=i+1:=by rw[<- HI1.out];split<;>omega
  cases hc:cmd ((TT tvs).drop i1)with
  |bad er m2=>
   rw[hc]at HCJ;have HB9:=yh (bH HPL.out hc);clear hc;go_wp2_with (first|(with_reducible refine zS ?_;intro W hL hF)|((with_reducible refine af 5 ?_);refine zE ?_;intro W hL hF;refine b' [0,1,2,3,4,5,6,7] [0,1,2,6] [5,7] [0,2,6] (by kernel_rfl) (by kernel_rfl) (sD (sC sN)) ?_;clear hF hL;intro Qp hQp;replace hQp:=yh hQp;intro ι F hne hC hFF;have hG:=fun n=>(hFF n).fx;clear hFF;(repeat(first|(refine cS ?_)|((first|refine cF hC ?_|refine cP ?_);intro K hK;go_big_quiet_op;go_big_quiet_on)|(refine cE ?_;intro W hL hF;go_at_call 105;(with_reducible refine(HCJ.out _ (ag HB0.out hL HXB.out) hL.h0).mono ?_);rintro e W ⟨vj2,dj,rfl,hb⟩;replace hL:=hL.jn 0 hb;clear hb hF;have hF:=hL.fx;refine⟨_,rfl,hQp.out _ _ ?_⟩;clear hQp;intro a' ha;simp only[Exit.then,Exit.inBlock];refine⟨ha,?_⟩;show db W0 b d g o cap tvs w (pipe cmd ((TT tvs).drop i)) _ _;rw[HB9.out];exact⟨vj2,dj,rfl,hL.pm⟩)|(refine cM ?_;intro W hL hF;go_wp2;refine zB2 ?_;clear hL hC hG;intro ι F hne hC hG)));((done))))
  |ok x r=>
   rw[hc]at HCJ;have HB9:=yh (cx HPL.out hc);have HLE:=yh (fun j2 vj2 (h:AtV g o cap tvs j2 vj2) (hr:r=(TT tvs).drop j2)=>lW h Hvj.out.1 (HW.out _) hc hr);clear hc;go_wp2_with (first|(with_reducible refine zS ?_;intro W hL hF)|((with_reducible refine af 5 ?_);refine zX [0,1,2,3,4,5,6,7] [5,7] ?_ (sD (sC sN));clear hF hL;intro ι F hne hC hG;(repeat(first|(refine cS ?_)|((first|refine cF hC ?_|refine cP ?_);intro K hK;go_big_quiet_op;go_big_quiet_on)|(refine cD ?_;intro W hL hF;go_at_call 105;(with_reducible refine(HCJ.out _ (ag HB0.out hL HXB.out) hL.h0).mono ?_);rintro e W ⟨nm,aa,na,ca,aw,nw,cw,ar,nr,cr,ak,nk,ck,LN,j2,vj2,rfl,HN,HJ2,hb⟩;replace hL:=hL.jn 0 hb;clear hb hF;have hF:=hL.fx;replace hL:=hL.in1;clear hF;have hF:=hL.fx;refine bM ?_;((refine a_ _ (by repeat' (first|(with_reducible exact List.nil_sublist _)|(with_reducible apply List.Sublist.cons_cons)|(with_reducible apply List.Sublist.cons))) ?_;clear hL hF));simp only[Act.put,zT])|(refine cM ?_;intro W hL hF;at_builtin;(refine ah rfl _ _ 39 39 rfl (_::_::_::_::(LN++LC)) LK hL ks.length 1 (ks.flatMap (·.2)) [.int .i64 (x.kind:Int),.string nm,.bool x.neg,.slice aa na ca,.slice aw nw cw,.slice ar nr cr,.slice ak nk ck] _ _ HRK.out rfl rfl (fun ho=>bV rfl (fun j u hu=>by rw[Go.WideShapes.add_plain,Nat.zero_add,aK hL m0];simpa using hu) (by intro u hu;simp only[List.mem_cons,List.not_mem_nil,or_false]at hu;rcases hu with rfl|rfl|rfl|rfl|rfl|rfl|rfl<;>rfl) (by omega) ho) ?_);intro LP3 a3 c3 W3 hL2 hr3;clear hL hF;have hL:=hL2;clear hL2;simp only[List.append_eq,List.cons_append,List.nil_append]at hL;have hF:=hL.fx;go_wp2;refine zB2 ?_;clear hL hF hC hG;intro ι F hne hC hG)|(refine cM ?_;intro W hL hF;go_wp2;refine ai ?_;(first|(refine bO _ (by rfl) ?_;clear hL hF hC hG;intro ι F hne hC hFF;have hG:=fun n=>(hFF n).fx;clear hFF)|(refine a_ _ (by repeat' (first|(with_reducible exact List.nil_sublist _)|(with_reducible apply List.Sublist.cons_cons)|(with_reducible apply List.Sublist.cons))) ?_;clear hL hF)))));refine zN ?_;clear hC hG;intro W hL hF))
   have hle:=HLE.out _ _ HJ2.out.1 HJ2.out.2;have hj2:=HJ2.out.1.1;go_loopg [] (tvs.length-j2) (fun n wr=>∃(j:Nat) (vj:Value) (ks:List (Nd×List Value)) (ak:Option Addr) (ck:Nat) (LC LK:List (Nat×Obj)),n=tvs.length-j/\Hid (AtV g o cap tvs j vj)/\Hid (∃f,((TT tvs).drop j).length<=f/\pipe cmd ((TT tvs).drop i)=(dl cmd f (ks.map (·.1)) ((TT tvs).drop j)).bind fun l r=>.ok (.mk 1 [] k1 [] [] [] l) r)/\Hid (RowL 7 41 LK (.slice ak ks.length ck) ks.length (ks.flatMap (·.2)))/\Hid (∀x∈ks,NodeL W0 LC x.1 x.2)/\ks.length<=j/\j<tvs.length/\Kn [b] w wr ((b,.cells #[vj,.int .i64 (d:Int)] 73 (0,0))::(w.heap.size+1,.cells #[.int .i64 1,.string ⟨#[]⟩,.bool k1,.slice none 0 0,.slice none 0 0,.slice none 0 0,.slice ak ks.length ck] 41 (0,0))::(w.heap.size,.cells #[.int .i64 0,.string ⟨#[]⟩,.bool false,.slice none 0 0,.slice none 0 0,.slice none 0 0,.slice none 0 0] 41 (0,0))::(LC++LK)))
   case atStart=>exact⟨j2,vj2,ks++[(x,[.int .i64 (x.kind:Int),.string nm,.bool x.neg,.slice aa na ca,.slice aw nw cw,.slice ar nr cr,.slice ak nk ck])],a3,c3,LN++LC,LP3,rfl,yh HJ2.out.1,yh (by have h9:=HB9.out;rw[HJ2.out.2]at h9;rw[HKS0.out];exact⟨_,Nat.le_refl _,h9⟩),yh (by simpa using hr3),yh (bY (fun y hy=>(HKS.out y hy).r) HN.out.l),by simp only[List.length_append,List.length_singleton];omega,by omega,by refine Kn.name ?_;clear hL;intro hL;simp only[List.length_append,List.length_singleton];exact hL.pm⟩
   case round=>(
    clear hL;obtain⟨j,vj,ks,ak,ck,LC,LK,rfl,Hvj,HF,HRK,HKS,hsz,hjl,hL⟩:=hrel;have hF:=hL.fx;obtain⟨k3,hk3⟩:∃z:Bool,aS [124] ((TT tvs).drop j)=z:=⟨_,rfl⟩;have HK3:Hid (aS (⟨#[124]⟩:ByteArray).data.toList ((TT tvs).drop j)=k3):=yh hk3;clear hk3
    cases k3
    ·have HS9:=yh (by obtain⟨f,_,hf⟩:=HF.out;rw[hf,vd HK3.out];rfl:pipe cmd ((TT tvs).drop i)=.ok (.mk 1 [] k1 [] [] [] (ks.map (·.1))) ((TT tvs).drop j))
     go_wp2_with (first|(with_reducible refine zS ?_;intro W hL hF)|(go_at_call 52;(with_reducible refine zM (fun W hL=>eC E b j vj (d:Int) _ (ag HB0.out hL HXB.out) hbb Hvj hL.h0 ⟨#[124]⟩ _ HK3) ?_);rintro W hL e W ⟨rfl,hb⟩;replace hL:=hL.below hb;clear hb;skip;have hF:=hL.fx))
     refine zF ?_;intro W hL hF;refine bodyPost_ret (by simp[results,Tryz.results87,go_sem, *];try rfl) rfl ?_;rw[HS9.out];exact kC 1 k1 ks HRK.out HKS.out Hvj.out hL
    ·have HNE2:=yh (eW HK3.out)
     go_upto_region 9 with(first|(go_at_call 52;(with_reducible refine zM (fun W hL=>eC E b j vj (d:Int) _ (ag HB0.out hL HXB.out) hbb Hvj hL.h0 ⟨#[124]⟩ _ HK3) ?_);rintro W hL e W ⟨rfl,hb⟩;replace hL:=hL.below hb;clear hb;skip;have hF:=hL.fx)|(go_at_call 53;(with_reducible refine zM (fun W hL=>ea E b j vj (d:Int) _ (ag HB0.out hL HXB.out) hbb Hvj hL.h0 HNE2.out) ?_);rintro W hL e W ⟨x1,pa1,pn1,pc1,vj2,rfl,HTX2,HVJ2,hb⟩;replace hL:=hL.jn 0 hb;clear hb;have hF:=hL.fx)|(go_at_call 49;(with_reducible refine zM (fun W hL=>dT E b (j+1) vj2 d _ (ag HB0.out hL HXB.out) hbb HVJ2 hL.h0) ?_);rintro W hL e W ⟨j3,vj3,rfl,HJ3,hb⟩;replace hL:=hL.jn 0 hb;clear hb;have hF:=hL.fx))
     have HF2:∃f,((TT tvs).drop (j+1)).length<=f/\pipe cmd ((TT tvs).drop i)=(cmd ((TT tvs).drop j3)).bind fun x r=>(dl cmd f (ks.map (·.1)++[x]) r).bind fun l r=>.ok (.mk 1 [] k1 [] [] [] l) r:=by
      obtain⟨f,hf1,hf⟩:=HF.out;obtain⟨f2,h1,h2⟩:=tc (cmd:=cmd) (l:=ks.map (·.1)) HK3.out hf1;rw[bE]at h1 h2;rw[HJ3.out.2.2]at h2;rw[h2,lX]at hf;exact⟨f2,h1,hf⟩
     have HCJ2:=yh (fun W hB hb=>HCC.out b j3 vj3 W hB hbb (yh HJ3.out.2.1) hb);have HF2:=yh HF2;have hj3:=HJ3.out.1
     cases hc2:cmd ((TT tvs).drop j3)with
     |bad er m2=>
      rw[hc2]at HCJ2;have HB8:=yh (by obtain⟨f,_,hf⟩:=HF2.out;exact bH hf hc2:pipe cmd ((TT tvs).drop i)=.bad er m2);clear hc2;go_wp2_with (first|(with_reducible refine zS ?_;intro W hL hF)|((with_reducible refine af 9 ?_);refine zE ?_;intro W hL hF;refine b' [0,1,2,3,4,5,6,7] [0,1,2,6] [5,7] [0,2,6] (by kernel_rfl) (by kernel_rfl) (sD (sC sN)) ?_;clear hF hL;intro Qp hQp;replace hQp:=yh hQp;intro ι F hne hC hFF;have hG:=fun n=>(hFF n).fx;clear hFF;(repeat(first|(refine cS ?_)|((first|refine cF hC ?_|refine cP ?_);intro K hK;go_big_quiet_op;go_big_quiet_on)|(refine cE ?_;intro W hL hF;go_at_call 105;(with_reducible refine(HCJ2.out _ (ag HB0.out hL HXB.out) hL.h0).mono ?_);rintro e W ⟨vj2,dj,rfl,hb⟩;replace hL:=hL.jn 0 hb;clear hb hF;have hF:=hL.fx;refine⟨_,rfl,hQp.out _ _ ?_⟩;clear hQp;intro a' ha;simp only[Exit.then,Exit.inBlock];refine⟨ha,?_⟩;show db W0 b d g o cap tvs w (pipe cmd ((TT tvs).drop i)) _ _;rw[HB8.out];exact⟨vj2,dj,rfl,hL.pm⟩)|(refine cM ?_;intro W hL hF;go_wp2;refine zB2 ?_;clear hL hC hG;intro ι F hne hC hG)));((done))))
     |ok x r=>
      rw[hc2]at HCJ2;have HF3:=yh (by obtain⟨f,hf1,hf⟩:=HF2.out;exact⟨f,hf1,cx hf hc2⟩:∃f,((TT tvs).drop (j+1)).length<=f/\pipe cmd ((TT tvs).drop i)=(dl cmd f (ks.map (·.1)++[x]) r).bind fun l r=>.ok (.mk 1 [] k1 [] [] [] l) r);have HLE2:=yh (fun j2 vj2 (h:AtV g o cap tvs j2 vj2) (hr:r=(TT tvs).drop j2)=>lW h HJ3.out.2.1.1 (HW.out _) hc2 hr);clear hc2;go_wp2_with (first|(with_reducible refine zS ?_;intro W hL hF)|((with_reducible refine af 9 ?_);refine zX [0,1,2,3,4,5,6,7] [5,7] ?_ (sD (sC sN));clear hF hL;intro ι F hne hC hG;(repeat(first|(refine cS ?_)|((first|refine cF hC ?_|refine cP ?_);intro K hK;go_big_quiet_op;go_big_quiet_on)|(refine cD ?_;intro W hL hF;go_at_call 105;(with_reducible refine(HCJ2.out _ (ag HB0.out hL HXB.out) hL.h0).mono ?_);rintro e W ⟨nm,aa,na,ca,aw,nw,cw,ar,nr,cr,ak,nk,ck,LN,j2,vj2,rfl,HN,HJ2,hb⟩;replace hL:=hL.jn 0 hb;clear hb hF;have hF:=hL.fx;replace hL:=hL.in1;clear hF;have hF:=hL.fx;refine bM ?_;((refine a_ _ (by repeat' (first|(with_reducible exact List.nil_sublist _)|(with_reducible apply List.Sublist.cons_cons)|(with_reducible apply List.Sublist.cons))) ?_;clear hL hF));simp only[Act.put,zT])|(refine cM ?_;intro W hL hF;at_builtin;(refine ah rfl _ _ 39 39 rfl (_::_::_::_::(LN++LC)) LK hL ks.length 1 (ks.flatMap (·.2)) [.int .i64 (x.kind:Int),.string nm,.bool x.neg,.slice aa na ca,.slice aw nw cw,.slice ar nr cr,.slice ak nk ck] _ _ HRK.out rfl rfl (fun ho=>bV rfl (fun j u hu=>by rw[Go.WideShapes.add_plain,Nat.zero_add,aK hL m0];simpa using hu) (by intro u hu;simp only[List.mem_cons,List.not_mem_nil,or_false]at hu;rcases hu with rfl|rfl|rfl|rfl|rfl|rfl|rfl<;>rfl) (by omega) ho) ?_);intro LP3 a3 c3 W3 hL2 hr3;clear hL hF;have hL:=hL2;clear hL2;simp only[List.append_eq,List.cons_append,List.nil_append]at hL;have hF:=hL.fx;go_wp2;refine zB2 ?_;clear hL hF hC hG;intro ι F hne hC hG)|(refine cM ?_;intro W hL hF;go_wp2;refine ai ?_;(first|(refine bO _ (by rfl) ?_;clear hL hF hC hG;intro ι F hne hC hFF;have hG:=fun n=>(hFF n).fx;clear hFF)|(refine a_ _ (by repeat' (first|(with_reducible exact List.nil_sublist _)|(with_reducible apply List.Sublist.cons_cons)|(with_reducible apply List.Sublist.cons))) ?_;clear hL hF)))));refine zN ?_;clear hC hG;intro W hL hF))
      have hle2:=HLE2.out _ _ HJ2.out.1 HJ2.out.2;have hj4:=HJ2.out.1.1;go_roundg (tvs.length-j2)
      case measure=>omega
      case rel=>exact⟨j2,vj2,ks++[(x,[.int .i64 (x.kind:Int),.string nm,.bool x.neg,.slice aa na ca,.slice aw nw cw,.slice ar nr cr,.slice ak nk ck])],a3,c3,LN++LC,LP3,rfl,yh HJ2.out.1,yh (by obtain⟨f,hf1,hf⟩:=HF3.out;rw[HJ2.out.2]at hf;exact⟨f,by rw[List.length_drop]at hf1 |-;omega,by simpa using hf⟩),yh (by simpa using hr3),yh (bY (fun y hy=>(HKS.out y hy).r) HN.out.l),by simp only[List.length_append,List.length_singleton];omega,by omega,by refine Kn.name ?_;clear hL;intro hL;simp only[List.length_append,List.length_singleton];exact hL.pm⟩)
theorem oJ{W0:World}{b d j g o cap:Nat}{tvs:List (Tok×Value)}{w W:World}{vj:Value}{n:Nd}{nm:ByteArray}{aa:Option Addr}{na:Nat}{ca:Nat}{aw:Option Addr}{nw:Nat}{cw:Nat}{ar:Option Addr}{nr:Nat}{cr:Nat}{ak:Option Addr}{nk:Nat}{ck:Nat}{LN:List (Nat×Obj)}(HN:NodeL W0 LN n [.int .i64 (n.kind:Int),.string nm,.bool n.neg,.slice aa na ca,.slice aw nw cw,.slice ar nr cr,.slice ak nk ck])(Hvj:AtV g o cap tvs j vj){q1 q2:Nat×Obj}(hL:Kn [b] w W ((b,.cells #[vj,.int .i64 (d:Int)] 73 (0,0))::q1::q2::LN)):
  db W0 b d g o cap tvs w (.ok n ((TT tvs).drop j)) (.returned (.agg #[.int .i64 (n.kind:Int),.string nm,.bool n.neg,.slice aa na ca,.slice aw nw cw,.slice ar nr cr,.slice ak nk ck])) W:=
 ⟨nm,aa,na,ca,aw,nw,cw,ar,nr,cr,ak,nk,ck,LN,j,vj,rfl,yh HN,yh ⟨Hvj,rfl⟩,hL.sub (sC (sD (sD sR)))⟩
theorem Kn.in1a{X:List Nat}{w0 W:World}{p0 p1 p2:Nat×Obj}{LP R:List (Nat×Obj)}(h:Kn X w0 W (p0::(LP++(p1::p2::R)))):Kn X w0 W (p0::p1::p2::(LP++R)):=h.perm fun p=>by simp only[List.countP_cons,List.countP_append];omega
theorem td{W0:World}{g o cap:Nat}{tvs:List (Tok×Value)}(E:PEnv W0 g o cap tvs){j:Nat}{y:Tok×Value}(hy:tvs[j]? =some y){e1 e2:Bool}(h1:aS [38,38] ((TT tvs).drop j)=e1)(h2:aS [124,124] ((TT tvs).drop j)=e2)(h:(e1||e2)=true):(y.1.text==[124,124])=e2:=by
 rw[rz E hy]at h1 h2
 have hk:((y.1.kind:Int)==1)=true:=by
  cases hk:((y.1.kind:Int)==1)with
  |true=>rfl
  |false=>rw[hk]at h1 h2;rw[<- h1,<- h2]at h;cases h
 rw[hk,Bool.true_and]at h2
 exact h2
theorem ve{pi:Pa Nd}{f:Nat}{n:Nd}{ts:List Tok}(h1:aS [38,38] ts=false)(h2:aS [124,124] ts=false):dk pi f n ts=.ok n ts:=by
 cases f with
 |zero=>rfl
 |succ f=>unfold dk;rw[h1,h2];rfl
theorem z7{ts:List Tok}{e1 e2:Bool}(h1:aS [38,38] ts=e1)(h2:aS [124,124] ts=e2)(h:(e1||e2)=true):ts≠[]:=by
 rintro rfl
 rw[<- h1,<- h2]at h
 cases h
theorem te{pi:Pa Nd}{n:Nd}{l:List Tok}{j j3:Nat}{p:PR Nd}{e1 e2:Bool}(h1:aS [38,38] (l.drop j)=e1)(h2:aS [124,124] (l.drop j)=e2)(h:(e1||e2)=true)(hf:∃f,(l.drop j).length<=f/\p=dk pi f n (l.drop j))(h3:au (l.drop (j+1))=l.drop j3):
  ∃f,(l.drop (j+1)).length<=f/\p=(pi (l.drop j3)).bind fun x r=>dk pi f (.mk (if e2 then 3 else 2) [] false [] [] [] [n,x]) r:=by
 obtain⟨f,hf1,hf⟩:=hf
 have hne:=dR (z7 h1 h2 h)
 rw[bE]at hne
 cases f with
 |zero=>omega
 |succ f=>
  refine⟨f,by omega,?_⟩;rw[hf,dk,h1,h2,if_pos h,bE,h3]
theorem vf{pi:Pa Nd}{p:PR Nd}{n x:Nd}{k m:Nat}{ts r:List Tok}(hf:∃f,m<=f/\p=(pi ts).bind fun x r=>dk pi f (.mk k [] false [] [] [] [n,x]) r)(h:pi ts=.ok x r):∃f,m<=f/\p=dk pi f (.mk k [] false [] [] [] [n,x]) r:=by
 obtain⟨f,h1,h2⟩:=hf
 exact⟨f,h1,by rw[h2,h];rfl⟩
theorem tf{W0:World}{b nb gq cc:Nat}{w W:World}{po:Obj}{p2:Nat×Obj}{n x:Nd}{kz:Int}{kind:Nat}{nm:ByteArray}{aa:Option Addr}{na:Nat}{ca:Nat}{aw:Option Addr}{nw:Nat}{cw:Nat}{ar:Option Addr}{nr:Nat}{cr:Nat}{ak:Option Addr}{nk:Nat}{ck:Nat}{nm2:ByteArray}{aa2:Option Addr}{na2:Nat}{ca2:Nat}{aw2:Option Addr}{nw2:Nat}{cw2:Nat}{ar2:Option Addr}{nr2:Nat}{cr2:Nat}{ak2:Option Addr}{nk2:Nat}{ck2:Nat}{LN LN2:List (Nat×Obj)}
  (hL:Kn [b] w W ((gq,.cells #[.int .i64 (n.kind:Int),.string nm,.bool n.neg,.slice aa na ca,.slice aw nw cw,.slice ar nr cr,.slice ak nk ck,.int .i64 (x.kind:Int),.string nm2,.bool x.neg,.slice aa2 na2 ca2,.slice aw2 nw2 cw2,.slice ar2 nr2 cr2,.slice ak2 nk2 ck2] 41 (0,0))::(b,po)::(nb,.cells #[.int .i64 kz,.string ⟨#[]⟩,.bool false,.slice none 0 0,.slice none 0 0,.slice none 0 0,.slice (some ⟨gq,0,none⟩) 2 cc] 41 (0,0))::p2::(LN2++LN))) (hk:kz=(kind:Int)) (hc:2<=cc) (h1:NodeL W0 LN n [.int .i64 (n.kind:Int),.string nm,.bool n.neg,.slice aa na ca,.slice aw nw cw,.slice ar nr cr,.slice ak nk ck]) (h2:NodeL W0 LN2 x [.int .i64 (x.kind:Int),.string nm2,.bool x.neg,.slice aa2 na2 ca2,.slice aw2 nw2 cw2,.slice ar2 nr2 cr2,.slice ak2 nk2 ck2]):
  ∃(nm3:ByteArray) (aa3:Option Addr) (na3:Nat) (ca3:Nat) (aw3:Option Addr) (nw3:Nat) (cw3:Nat) (ar3:Option Addr) (nr3:Nat) (cr3:Nat) (ak3:Option Addr) (nk3:Nat) (ck3:Nat) (LN3:List (Nat×Obj)),NodeL W0 LN3 (.mk kind [] false [] [] [] [n,x]) [.int .i64 ((Nd.mk kind [] false [] [] [] [n,x]).kind:Int),.string nm3,.bool (Nd.mk kind [] false [] [] [] [n,x]).neg,.slice aa3 na3 ca3,.slice aw3 nw3 cw3,.slice ar3 nr3 cr3,.slice ak3 nk3 ck3]/\Kn [b] w W ((b,po)::(nb,.cells #[.int .i64 ((Nd.mk kind [] false [] [] [] [n,x]).kind:Int),.string nm3,.bool (Nd.mk kind [] false [] [] [] [n,x]).neg,.slice aa3 na3 ca3,.slice aw3 nw3 cw3,.slice ar3 nr3 cr3,.slice ak3 nk3 ck3] 41 (0,0))::p2::LN3):=by
 subst hk
 refine⟨⟨#[]⟩,none,0,0,none,0,0,none,0,0,some ⟨gq,0,none⟩,2,cc,(gq,.cells #[.int .i64 (n.kind:Int),.string nm,.bool n.neg,.slice aa na ca,.slice aw nw cw,.slice ar nr cr,.slice ak nk ck,.int .i64 (x.kind:Int),.string nm2,.bool x.neg,.slice aa2 na2 ca2,.slice aw2 nw2 cw2,.slice ar2 nr2 cr2,.slice ak2 nk2 ck2] 41 (0,0))::(LN2++LN),?_,?_⟩
 ·exact NodeL.two (name:=[]) (h1.mono fun p hp=>List.mem_cons_of_mem _ (List.mem_append_right _ hp)) (h2.mono fun p hp=>List.mem_cons_of_mem _ (List.mem_append_left _ hp)) m0 hc
 ·show Kn [b] w W ((b,po)::(nb,.cells #[.int .i64 (kind:Int),.string ⟨#[]⟩,.bool false,.slice none 0 0,.slice none 0 0,.slice none 0 0,.slice (some ⟨gq,0,none⟩) 2 cc] 41 (0,0))::p2::(gq,.cells #[.int .i64 (n.kind:Int),.string nm,.bool n.neg,.slice aa na ca,.slice aw nw cw,.slice ar nr cr,.slice ak nk ck,.int .i64 (x.kind:Int),.string nm2,.bool x.neg,.slice aa2 na2 ca2,.slice aw2 nw2 cw2,.slice ar2 nr2 cr2,.slice ak2 nk2 ck2] 41 (0,0))::(LN2++LN))
  exact hL.pm
theorem AM{W0:World}{g o cap:Nat}{tvs:List (Tok×Value)}(E:PEnv W0 g o cap tvs){d:Nat}{pi:Pa Nd}(hw:Wp pi 1)(HC:cL W0 g o cap tvs 87 d pi):cL W0 g o cap tvs 51 d (item pi):=by
 intro b i v w hB hbb hv hb
 have HPL:Hid (item pi ((TT tvs).drop i)=(pi ((TT tvs).drop i)).bind fun n r=>dk pi r.length n r):=yh rfl
 have HW:=yh hw
 have HCC:=yh HC
 have HCJ:=yh (fun W hB hb=>HC b i v W hB hbb hv hb)
 clear hw HC
 have hi:=hv.out.1
 have hmx:=E.max
 have HB0:=yh hB
 have HXB:=yh (xb hbb)
 have hL:Kn [b] w w [(b,.cells #[v,.int .i64 (d:Int)] 73 (0,0))]:=Kn.one hb
 have HBS:=yh hb
 clear hB hb
 have hF:=hL.fx
 cases hc:pi ((TT tvs).drop i)with
 |bad er m2=>
  rw[hc]at HCJ;have HB9:=yh (bH HPL.out hc);clear hc;go_enter Tryz.func51,Tryz.ntmps51;go_wp2_with (first|(with_reducible refine zS ?_;intro W hL hF)|(go_at_call 87;(with_reducible refine zM (fun W hL=>HCJ.out _ (ag HB0.out hL HXB.out) hL.h1) ?_);rintro W hL e W ⟨vj2,dj,rfl,hb⟩;replace hL:=hL.jn 1 hb;clear hb;have hF:=hL.fx))
  refine⟨rfl,?_⟩;rw[HB9.out];exact⟨vj2,dj,rfl,hL.pm⟩
 |ok x r=>
  rw[hc]at HCJ;have HB9:=yh (cx HPL.out hc);have HLE:=yh (fun j2 vj2 (h:AtV g o cap tvs j2 vj2) (hr:r=(TT tvs).drop j2)=>lW h hi (HW.out _) hc hr);clear hc;go_enter Tryz.func51,Tryz.ntmps51;go_wp2_with (first|(with_reducible refine zS ?_;intro W hL hF)|(go_at_call 87;(with_reducible refine zM (fun W hL=>HCJ.out _ (ag HB0.out hL HXB.out) hL.h1) ?_);rintro W hL e W ⟨nm,aa,na,ca,aw,nw,cw,ar,nr,cr,ak,nk,ck,LN,j2,vj2,rfl,HN,HJ2,hb⟩;replace hL:=hL.jn 1 hb;clear hb;have hF:=hL.fx;obtain⟨W1,rfl⟩:∃W1:World,W1=W:=⟨_,rfl⟩))
  have hle:=HLE.out _ _ HJ2.out.1 HJ2.out.2;have hj2:=HJ2.out.1.1;go_loopg [] (tvs.length-j2) (fun n wr=>∃(j:Nat) (vj:Value) (nd:Nd) (nm:ByteArray) (aa:Option Addr) (na:Nat) (ca:Nat) (aw:Option Addr) (nw:Nat) (cw:Nat) (ar:Option Addr) (nr:Nat) (cr:Nat) (ak:Option Addr) (nk:Nat) (ck:Nat) (LN:List (Nat×Obj)),n=tvs.length-j/\Hid (AtV g o cap tvs j vj)/\Hid (∃f,((TT tvs).drop j).length<=f/\item pi ((TT tvs).drop i)=dk pi f nd ((TT tvs).drop j))/\Hid (NodeL W0 LN nd [.int .i64 (nd.kind:Int),.string nm,.bool nd.neg,.slice aa na ca,.slice aw nw cw,.slice ar nr cr,.slice ak nk ck])/\j<tvs.length/\Kn [b] w wr ((b,.cells #[vj,.int .i64 (d:Int)] 73 (0,0))::(W1.heap.size,.cells #[.int .i64 (nd.kind:Int),.string nm,.bool nd.neg,.slice aa na ca,.slice aw nw cw,.slice ar nr cr,.slice ak nk ck] 41 (0,0))::(w.heap.size,.cells #[.int .i64 0,.string ⟨#[]⟩,.bool false,.slice none 0 0,.slice none 0 0,.slice none 0 0,.slice none 0 0] 41 (0,0))::LN))
  case atStart=>exact⟨j2,vj2,x,nm,aa,na,ca,aw,nw,cw,ar,nr,cr,ak,nk,ck,LN,rfl,yh HJ2.out.1,yh (by have h9:=HB9.out;rw[HJ2.out.2]at h9;exact⟨_,Nat.le_refl _,h9⟩),HN,hj2,by refine Kn.name ?_;clear hL;intro hL;exact hL.pm⟩
  case round=>(
    clear hL;obtain⟨j,vj,nd,nm,aa,na,ca,aw,nw,cw,ar,nr,cr,ak,nk,ck,LN,rfl,Hvj,HF,HN,hjl,hL⟩:=hrel;have hF:=hL.fx;obtain⟨y,pa9,pn9,pc9,hx9,hx29⟩:=E.tok Hvj.out;have HX9:=yh hx9;have HX29:=yh hx29;obtain⟨f09,f19,f29,f39,f49,f59⟩:=tkF y.1.kind y.1.fd y.1.line ⟨y.1.text.toArray⟩ ⟨y.1.plain.toArray⟩ pa9 pn9 pc9;clear hx9 hx29;obtain⟨e1,he1⟩:∃z:Bool,aS [38,38] ((TT tvs).drop j)=z:=⟨_,rfl⟩;obtain⟨e2,he2⟩:∃z:Bool,aS [124,124] ((TT tvs).drop j)=z:=⟨_,rfl⟩;have HE1:Hid (aS (⟨#[38,38]⟩:ByteArray).data.toList ((TT tvs).drop j)=e1):=yh he1;have HE2:Hid (aS (⟨#[124,124]⟩:ByteArray).data.toList ((TT tvs).drop j)=e2):=yh he2;have HTE:=yh (td E HX9.out he1 he2);clear he1 he2
    cases hee:(e1||e2)with
    |false=>
     obtain⟨rfl,rfl⟩:=(Bool.or_eq_false_iff.1 hee);have HS9:=yh (by obtain⟨f,_,hf⟩:=HF.out;rw[hf,ve HE1.out HE2.out]:item pi ((TT tvs).drop i)=.ok nd ((TT tvs).drop j));clear hee;go_wp2_with (first|(with_reducible refine zS ?_;intro W hL hF)|(go_at_call 52;refine zG ?_;intro W hL hF;(((first|(with_reducible refine(eC E b j vj (d:Int) _ (ag HB0.out hL HXB.out) hbb Hvj hL.h0 ⟨#[38,38]⟩ _ HE1).mono ?_)|(with_reducible refine(eC E b j vj (d:Int) _ (ag HB0.out hL HXB.out) hbb Hvj hL.h0 ⟨#[124,124]⟩ _ HE2).mono ?_))));rintro e W ⟨rfl,hb⟩;replace hL:=hL.below hb;clear hb hF;have hF:=hL.fx))
     refine zF ?_;intro W hL hF;refine bodyPost_ret (by simp[results,Tryz.results51,go_sem, *];try rfl) rfl ?_;rw[HS9.out];exact oJ HN.out Hvj.out hL
    |true=>
     have HNE2:=yh (z7 HE1.out HE2.out hee);have HEE:=yh hee;have hte:=HTE.out hee;clear HTE;have H49:Hid (y.1.kind≠4):=yh (by rcases bI E HX9.out with h|h;exact absurd h.1 HNE2.out;exact h.2.1)
     cases e1<;>cases e2<;>first|exact absurd hee (by decide)|(
      clear hee;go_upto_region 7 with(first|(go_at_call 52;refine zG ?_;intro W hL hF;(((first|(with_reducible refine(eC E b j vj (d:Int) _ (ag HB0.out hL HXB.out) hbb Hvj hL.h0 ⟨#[38,38]⟩ _ HE1).mono ?_)|(with_reducible refine(eC E b j vj (d:Int) _ (ag HB0.out hL HXB.out) hbb Hvj hL.h0 ⟨#[124,124]⟩ _ HE2).mono ?_))));rintro e W ⟨rfl,hb⟩;replace hL:=hL.below hb;clear hb hF;have hF:=hL.fx)|(go_at_call 53;(with_reducible refine zM (fun W hL=>eE E b j vj (d:Int) _ (ag HB0.out hL HXB.out) hbb Hvj hL.h0 HX9.out pa9 pn9 pc9 HX29.out H49.out) ?_);rintro W hL e W ⟨rfl,vj2,HVJ2,hb⟩;replace hL:=hL.jn 0 hb;clear hb;have hF:=hL.fx)|(go_at_call 49;(with_reducible refine zM (fun W hL=>dT E b (j+1) vj2 d _ (ag HB0.out hL HXB.out) hbb HVJ2 hL.h0) ?_);rintro W hL e W ⟨j3,vj3,rfl,HJ3,hb⟩;replace hL:=hL.jn 0 hb;clear hb;have hF:=hL.fx))
      have HF2:=yh (te HE1.out HE2.out HEE.out HF.out HJ3.out.2.2);have HCJ2:=yh (fun W hB hb=>HCC.out b j3 vj3 W hB hbb (yh HJ3.out.2.1) hb);have hj3:=HJ3.out.1
      cases hc2:pi ((TT tvs).drop j3)with
      |bad er m2=>
       rw[hc2]at HCJ2;have HB8:=yh (by obtain⟨f,_,hf⟩:=HF2.out;exact bH hf hc2:item pi ((TT tvs).drop i)=.bad er m2);clear hc2;go_wp2_with (first|(with_reducible refine zS ?_;intro W hL hF)|((with_reducible refine af 7 ?_);refine zE ?_;intro W hL hF;refine b' [0,1,2,3,4,5,6] [0,1,2,5] [4,6] [0,2,5] (by kernel_rfl) (by kernel_rfl) (sD (sC sN)) ?_;clear hF hL;intro Qp hQp;replace hQp:=yh hQp;intro ι F hne hC hFF;have hG:=fun n=>(hFF n).fx;clear hFF;(repeat(first|(refine cS ?_)|((first|refine cF hC ?_|refine cP ?_);intro K hK;go_big_quiet_op;go_big_quiet_on)|(refine cE ?_;intro W hL hF;go_at_call 87;(with_reducible refine(HCJ2.out _ (ag HB0.out hL HXB.out) hL.h0).mono ?_);rintro e W ⟨vj2,dj,rfl,hb⟩;replace hL:=hL.jn 0 hb;clear hb hF;have hF:=hL.fx;refine⟨_,rfl,hQp.out _ _ ?_⟩;clear hQp;intro a' ha;simp only[Exit.then,Exit.inBlock];refine⟨ha,?_⟩;show db W0 b d g o cap tvs w (item pi ((TT tvs).drop i)) _ _;rw[HB8.out];exact⟨vj2,dj,rfl,hL.pm⟩)|(refine cM ?_;intro W hL hF;go_wp2;refine zB2 ?_;clear hL hC hG;intro ι F hne hC hG)));((done))))
      |ok x r=>
       rw[hc2]at HCJ2;have HF3:=yh (vf HF2.out hc2);have HLE2:=yh (fun j2 vj2 (h:AtV g o cap tvs j2 vj2) (hr:r=(TT tvs).drop j2)=>lW h HJ3.out.2.1.1 (HW.out _) hc2 hr);clear hc2;go_wp2_with (first|(with_reducible refine zS ?_;intro W hL hF)|((with_reducible refine af 7 ?_);refine zX [0,1,2,3,4,5,6] [4,6] ?_ (sD (sC sN));clear hF hL;intro ι F hne hC hG;(repeat(first|(refine cS ?_)|((first|refine cF hC ?_|refine cP ?_);intro K hK;go_big_quiet_op;go_big_quiet_on)|(refine cD ?_;intro W hL hF;go_at_call 87;(with_reducible refine(HCJ2.out _ (ag HB0.out hL HXB.out) hL.h0).mono ?_);rintro e W ⟨nm2,aa2,na2,ca2,aw2,nw2,cw2,ar2,nr2,cr2,ak2,nk2,ck2,LN2,j2,vj2,rfl,HN2,HJ2,hb⟩;replace hL:=hL.jn 0 hb;clear hb hF;have hF:=hL.fx;replace hL:=hL.in1a;clear hF;have hF:=hL.fx;refine bM ?_;((refine a_ _ (by repeat' (first|(with_reducible exact List.nil_sublist _)|(with_reducible apply List.Sublist.cons_cons)|(with_reducible apply List.Sublist.cons))) ?_;clear hL hF));simp only[Act.put,zT])|(refine cM ?_;intro W hL hF;go_wp2;refine zB2 ?_;clear hL hF hC hG;intro ι F hne hC hG)));refine zN ?_;clear hC hG;intro W hL hF))
       have hle2:=HLE2.out _ _ HJ2.out.1 HJ2.out.2;have hj4:=HJ2.out.1.1;obtain⟨nm3,aa3,na3,ca3,aw3,nw3,cw3,ar3,nr3,cr3,ak3,nk3,ck3,LN3,hn3,hL3⟩:=tf hL (by rfl) (by omega) HN.out HN2.out;go_roundg (tvs.length-j2)
       case measure=>omega
       case rel=>exact⟨j2,vj2,_,nm3,aa3,na3,ca3,aw3,nw3,cw3,ar3,nr3,cr3,ak3,nk3,ck3,LN3,rfl,yh HJ2.out.1,yh (by obtain⟨f,hf1,hf⟩:=HF3.out;rw[HJ2.out.2]at hf;exact⟨f,by rw[List.length_drop]at hf1 |-;omega,hf⟩),yh hn3,hj4,hL3⟩))
theorem x'{W0:World}{g o cap:Nat}{tvs:List (Tok×Value)}(E:PEnv W0 g o cap tvs){i:Nat}{x:Tok×Value}(hx:tvs[i]? =some x):fN ((TT tvs).drop i)=(((x.1.kind:Int)==4)||(aS [41] ((TT tvs).drop i)||(aS [59,59] ((TT tvs).drop i)||bS mr ((TT tvs).drop i)))):=by
 rcases bI E hx with⟨h1,h2,h3,h4⟩|⟨h1,h2,h3⟩
 ·rw[h1,h2];rfl
 ·rw[h1,show((x.1.kind:Int)==4)=false from beq_false_of_ne (by omega),Bool.false_or]
  show(_||_||_)=_
  rw[Bool.or_assoc]
def cz:List ByteArray:=closers.map fun s=>⟨s.toArray⟩
theorem gO:cz.map (fun z=>z.data.toList)=closers:=by
 unfold cz;rw[List.map_map];exact List.map_id _
theorem qy:(cz.take 8).map (fun z=>z.data.toList)=mr:=by decide
theorem rB{W0 W:World}(hB:Below W0.heap.size W0 W){cg co:Nat}(h:∀(j:Nat) s,closers[j]? =some s->W0.cell? ⟨cg,co+j,none⟩=some (bs s))(m:Nat):∀j,j<(cz.take m).length->W.cell? ⟨cg,co+j,none⟩=some (.string ((cz.take m).getD j ByteArray.empty)):=fun j hj=>by
 have hj2:j<cz.length:=by rw[List.length_take]at hj;omega
 have hj3:j<closers.length:=by unfold cz at hj2;rwa[List.length_map]at hj2
 have h1:=h j _ (List.getElem?_eq_getElem hj3)
 rw[bN h1 hB]
 congr 1
 rw[List.getD_eq_getElem?_getD,List.getElem?_eq_getElem hj,List.getElem_take,Option.getD_some]
 unfold cz
 rw[List.getElem_map]
 rfl
theorem kD{W0:World}{cg co:Nat}(h:∀(j:Nat) s,closers[j]? =some s->W0.cell? ⟨cg,co+j,none⟩=some (bs s)):cg<W0.heap.size:=aI (h 0 _ rfl)
theorem AO{W0:World}{g o cap:Nat}{tvs:List (Tok×Value)}(E:PEnv W0 g o cap tvs)(b i:Nat)(v:Value)(d:Nat)(w:World)(hB:Below W0.heap.size W0 w)(hbb:W0.heap.size<=b)(hv:Hid (AtV g o cap tvs i v))(hb:w.heap[b]? =some (.cells #[v,.int .i64 (d:Int)] 73 (0,0))):Calls Tryz.prog 50 #[.pointer (some ⟨b,0,none⟩)] w fun e w'=>e=.returned (.bool (fN ((TT tvs).drop i)))/\Below w.heap.size w w':=by
 obtain⟨x,pa,pn,pc,hx,hx2⟩:=E.tok hv.out
 have HX:=yh hx
 have HX2:=yh hx2
 obtain⟨f0,f1,f2,f3,f4,f5⟩:=tkF x.1.kind x.1.fd x.1.line ⟨x.1.text.toArray⟩ ⟨x.1.plain.toArray⟩ pa pn pc
 clear hx hx2
 rw[x' E HX.out]
 obtain⟨k1,hk1⟩:∃k:Bool,((x.1.kind:Int)==4)=k:=⟨_,rfl⟩
 obtain⟨k2,hk2⟩:∃k:Bool,(aS [41] ((TT tvs).drop i))=k:=⟨_,rfl⟩
 obtain⟨k3,hk3⟩:∃k:Bool,(aS [59,59] ((TT tvs).drop i))=k:=⟨_,rfl⟩
 obtain⟨k4,hk4⟩:∃k:Bool,bS mr ((TT tvs).drop i)=k:=⟨_,rfl⟩
 rw[hk1,hk2,hk3,hk4]
 have HK2:Hid (aS (⟨#[41]⟩:ByteArray).data.toList ((TT tvs).drop i)=k2):=yh hk2
 have HK3:Hid (aS (⟨#[59,59]⟩:ByteArray).data.toList ((TT tvs).drop i)=k3):=yh hk3
 have HK4:Hid (bS ((cz.take 8).map fun z=>z.data.toList) ((TT tvs).drop i)=k4):=yh (by rw[qy];exact hk4)
 clear hk2 hk3 hk4
 obtain⟨cg,co,cc,hc1,hc2,hc3⟩:=E.clo
 have HC3:=yh hc3
 have hg0:=aI hc1
 have hc4:=bN hc1 hB
 have hcb:Hid (cg≠b):=yh (by have:=kD hc3;omega)
 have hg1:0<b:=by omega
 have hg2:0<w.heap.size:=aI hc4
 have hg3:¬0=b:=by omega
 clear hc3 hc1
 have HB0:=yh hB
 have HXB:=yh (xb hbb)
 have hL:Kn [b] w w [(b,.cells #[v,.int .i64 (d:Int)] 73 (0,0))]:=Kn.one hb
 have HBS:=yh hb
 clear hB hb
 have hF:=hL.fx
 cases k1<;>cases k2<;>cases k3<;>(
  go_enter Tryz.func50,Tryz.ntmps50;go_wp2_with (first|(with_reducible refine zS ?_;intro W hL hF)|(go_at_call 27;refine zC (fun W hL=>aL E b i v (d:Int) _ (ag HB0.out hL HXB.out) hbb hv hL.h0 HX.out pa pn pc HX2.out) ?_;intro W hL hF)|(go_at_call 52;refine zG ?_;intro W hL hF;(((first|(with_reducible refine(eC E b i v (d:Int) _ (ag HB0.out hL HXB.out) hbb hv hL.h0 ⟨#[41]⟩ _ HK2).mono ?_)|(with_reducible refine(eC E b i v (d:Int) _ (ag HB0.out hL HXB.out) hbb hv hL.h0 ⟨#[59,59]⟩ _ HK3).mono ?_))));rintro e W ⟨rfl,hb⟩;replace hL:=hL.below hb;clear hb hF;have hF:=hL.fx)|(go_at_call 86;refine zC (fun W hL=>cK E b i v (d:Int) _ (ag HB0.out hL HXB.out) hbb hv hL.h0 cg co 8 _ (cz.take 8) _ HK4 (yh rfl) (by omega) (rB (ag HB0.out hL HXB.out) HC3.out 8) hcb.out) ?_;intro W hL hF))
  refine zF ?_;intro W hL hF;refine bodyPost_ret (by simp[results,Tryz.results50,go_sem, *];try rfl) rfl ?_;exact⟨rfl,ef (hL.sub (by repeat' ((exact List.Sublist.refl _)))) HBS.out⟩)
theorem th{W0:World}{b d j g o cap n:Nat}{tvs:List (Tok×Value)}{w W:World}{vj:Value}(kind:Nat)(neg:Bool)(ks:List (Nd×List Value)){ak:Option Addr}{ck:Nat}{LC LK:List (Nat×Obj)}(hn:n=ks.length)(HRK:RowL 7 41 LK (.slice ak n ck) n (ks.flatMap (·.2)))(HK:∀x∈ks,NodeL W0 LC x.1 x.2)(Hvj:AtV g o cap tvs j vj){l:List Nd}(hl:l=ks.map (·.1)){q1 q2:Nat×Obj}(hL:Kn [b] w W ((b,.cells #[vj,.int .i64 (d:Int)] 73 (0,0))::q1::q2::(LC++LK))):
  db W0 b d g o cap tvs w (.ok (.mk kind [] neg [] [] [] l) ((TT tvs).drop j)) (.returned (.agg #[.int .i64 (kind:Int),.string ⟨#[]⟩,.bool neg,.slice none 0 0,.slice none 0 0,.slice none 0 0,.slice ak n ck])) W:=by
 subst hn hl
 exact kC kind neg ks HRK HK Hvj hL
section
variable {it:Pa Nd} {ts l:List Tok} {ns:List Nd} {p:PR Nd} {F:List Nd->List Tok->PR Nd}
theorem ti(hf:∃(f:Nat) (us:List Tok),ts.length<f/\au us=ts/\p=(aR it f ns us).bind F)(he:fN ts=true):p=F ns ts:=by
 obtain⟨f,us,h1,h2,h3⟩:=hf
 cases f with
 |zero=>omega
 |succ f=>rw[h3,aR,h2,if_pos he];rfl
theorem vg{x:Nd}{r:List Tok}(hf:∃(f:Nat) (us:List Tok),ts.length<f/\au us=ts/\p=(aR it f ns us).bind F)(he:fN ts=false)(hx:it ts=.ok x r):
  ∃f:Nat,ts.length<=f/\p=(if sep r then aR it f (ns++[back r x]) r.tail else .ok (ns++[back r x]) r).bind F:=by
 obtain⟨f,us,h1,h2,h3⟩:=hf
 cases f with
 |zero=>omega
 |succ f=>
  refine⟨f,by omega,?_⟩;rw[h3,aR,h2,if_neg (by rw[he];decide),hx];rfl
theorem tj{e m:Nat}(hf:∃(f:Nat) (us:List Tok),ts.length<f/\au us=ts/\p=(aR it f ns us).bind F)(he:fN ts=false)(hx:it ts=.bad e m):p=.bad e m:=by
 obtain⟨f,us,h1,h2,h3⟩:=hf
 cases f with
 |zero=>omega
 |succ f=>rw[h3,aR,h2,if_neg (by rw[he];decide),hx];rfl
variable {T:List Tok} {j2:Nat} {x:Nd} {k2 k3:Bool}
theorem qz(hf:∃f:Nat,ts.length<=f/\p=(if sep (T.drop j2)then aR it f (ns++[back (T.drop j2) x]) (T.drop j2).tail else .ok (ns++[back (T.drop j2) x]) (T.drop j2)).bind F)(h1:aS [38] (T.drop j2)=true):
  ∃(f:Nat) (us:List Tok),ts.length<=f/\us=T.drop (j2+1)/\p=(aR it f (ns++[.mk 5 [] false [] [] [] [x]]) us).bind F:=by
 obtain⟨f,hf1,hf⟩:=hf
 refine⟨f,_,hf1,rfl,?_⟩
 rw[hf,if_pos (by unfold sep;rw[h1];rfl),bE]
 unfold back
 rw[if_pos h1]
theorem tm(hf:∃f:Nat,ts.length<=f/\p=(if sep (T.drop j2)then aR it f (ns++[back (T.drop j2) x]) (T.drop j2).tail else .ok (ns++[back (T.drop j2) x]) (T.drop j2)).bind F)(h1:aS [38] (T.drop j2)=false)(h2:aS [59] (T.drop j2)=k2)(h3:isK 3 (T.drop j2)= !k3)(h:(k2|| !k3)=true):
  ∃(f:Nat) (us:List Tok),ts.length<=f/\us=T.drop (j2+1)/\p=(aR it f (ns++[x]) us).bind F:=by
 obtain⟨f,hf1,hf⟩:=hf
 refine⟨f,_,hf1,rfl,?_⟩
 rw[hf,if_pos (by unfold sep;rw[h1,h2,h3];simpa using h),bE]
 unfold back
 rw[if_neg (by rw[h1];decide)]
theorem qA(hf:∃f:Nat,ts.length<=f/\p=(if sep (T.drop j2)then aR it f (ns++[back (T.drop j2) x]) (T.drop j2).tail else .ok (ns++[back (T.drop j2) x]) (T.drop j2)).bind F)(h1:aS [38] (T.drop j2)=false)(h2:aS [59] (T.drop j2)=false)(h3:isK 3 (T.drop j2)= !true):p=F (ns++[x]) (T.drop j2):=by
 obtain⟨f,_,hf⟩:=hf
 rw[hf,if_neg (by unfold sep;rw[h1,h2,h3];decide)]
 unfold back
 rw[if_neg (by rw[h1];decide)]
 rfl
end
theorem AP{W0:World}{g o cap:Nat}{tvs:List (Tok×Value)}(E:PEnv W0 g o cap tvs){d:Nat}{it:Pa Nd}(hw:Wp it 1)(HC:cL W0 g o cap tvs 51 d it):cL W0 g o cap tvs 26 d (fun ts=>(aR it (ts.length+1) [] ts).bind fun l r=>.ok (.mk 4 [] false [] [] [] l) r):=by
 intro b i v w hB hbb hv hb
 show Calls _ _ _ _ (db W0 b d g o cap tvs w ((aR it (((TT tvs).drop i).length+1) [] ((TT tvs).drop i)).bind fun l r=>.ok (.mk 4 [] false [] [] [] l) r))
 obtain⟨PL,hpl⟩:∃p:PR Nd,((aR it (((TT tvs).drop i).length+1) [] ((TT tvs).drop i)).bind fun l r=>.ok (.mk 4 [] false [] [] [] l) r)=p:=⟨_,rfl⟩
 rw[hpl]
 have HPL:=yh hpl
 clear hpl
 have HW:=yh hw
 have HCC:=yh HC
 clear hw HC
 have hi:=hv.out.1
 have hmx:=E.max
 have HB0:=yh hB
 have HXB:=yh (xb hbb)
 have hL:Kn [b] w w [(b,.cells #[v,.int .i64 (d:Int)] 73 (0,0))]:=Kn.one hb
 have HBS:=yh hb
 clear hB hb
 have hF:=hL.fx
 go_enter Tryz.func26,Tryz.ntmps26
 go_wp2_with (first|(with_reducible refine zS ?_;intro W hL hF)|(go_at_call 49;(with_reducible refine zM (fun W hL=>dT E b i v d _ (ag HB0.out hL HXB.out) hbb hv hL.h2) ?_);rintro W hL e W ⟨j0,vj0,rfl,HJ0,hb⟩;replace hL:=hL.jn 2 hb;clear hb;have hF:=hL.fx))
 have hj0:=HJ0.out.2.1.1
 go_loopg [] (tvs.length-j0) (fun n wr=>∃(j:Nat) (vj:Value) (ks:List (Nd×List Value)) (ak:Option Addr) (ck:Nat) (LC LK:List (Nat×Obj)),n=tvs.length-j/\Hid (AtV g o cap tvs j vj)/\Hid (∃(f:Nat) (ts:List Tok),((TT tvs).drop j).length<f/\au ts=(TT tvs).drop j/\PL=(aR it f (ks.map (·.1)) ts).bind fun l r=>.ok (.mk 4 [] false [] [] [] l) r)/\Hid (RowL 7 41 LK (.slice ak ks.length ck) ks.length (ks.flatMap (·.2)))/\Hid (∀x∈ks,NodeL W0 LC x.1 x.2)/\ks.length<=j/\j<tvs.length/\Kn [b] w wr ((b,.cells #[vj,.int .i64 (d:Int)] 73 (0,0))::(w.heap.size+1,.cells #[.int .i64 4,.string ⟨#[]⟩,.bool false,.slice none 0 0,.slice none 0 0,.slice none 0 0,.slice ak ks.length ck] 41 (0,0))::(w.heap.size,.cells #[.int .i64 0,.string ⟨#[]⟩,.bool false,.slice none 0 0,.slice none 0 0,.slice none 0 0,.slice none 0 0] 41 (0,0))::(LC++LK)))
 case atStart=>exact⟨j0,vj0,[],none,0,[],[],rfl,yh HJ0.out.2.1,yh ⟨_,(TT tvs).drop i,by have:=HJ0.out.1;rw[List.length_drop,List.length_drop];omega,HJ0.out.2.2,HPL.out.symm⟩,yh RowL.nil,yh (by simp),Nat.zero_le _,hj0,by refine Kn.name ?_;clear hL;intro hL;exact hL.pm⟩
 case round=>
  clear hL;obtain⟨j,vj,ks,ak,ck,LC,LK,rfl,Hvj,HF,HRK,HKS,hsz,hjl,hL⟩:=hrel;have hF:=hL.fx;obtain⟨e1,he1⟩:∃z:Bool,fN ((TT tvs).drop j)=z:=⟨_,rfl⟩;have HE1:=yh he1;have HEN:=yh (fun W hB hb=>AO E b j vj d W hB hbb Hvj hb);rw[he1]at HEN;have HCJ:=yh (fun W hB hb=>HCC.out b j vj W hB hbb Hvj hb)
  cases e1
  ·cases hc:it ((TT tvs).drop j)with
   |bad er m2=>
    rw[hc]at HCJ;have HB9:=yh (tj HF.out HE1.out hc);clear hc;go_wp2_with (first|(with_reducible refine zS ?_;intro W hL hF)|(go_at_call 50;refine zC (fun W hL=>HEN.out _ (ag HB0.out hL HXB.out) hL.h0) ?_;intro W hL hF)|(go_at_call 51;(with_reducible refine zM (fun W hL=>HCJ.out _ (ag HB0.out hL HXB.out) hL.h0) ?_);rintro W hL e W ⟨vj2,dj,rfl,hb⟩;replace hL:=hL.jn 0 hb;clear hb;have hF:=hL.fx))
    refine⟨rfl,?_⟩;rw[HB9.out];exact⟨vj2,dj,rfl,hL.pm⟩
   |ok x r=>(
     have HLE2:=yh (fun j2 vj2 (h:AtV g o cap tvs j2 vj2) (hr:r=(TT tvs).drop j2)=>lW h hjl (HW.out _) hc hr);rw[hc]at HCJ;have HF2:=yh (vg HF.out HE1.out hc);clear hc;go_upto_region 6 with(first|(go_at_call 50;refine zC (fun W hL=>HEN.out _ (ag HB0.out hL HXB.out) hL.h0) ?_;intro W hL hF)|(go_at_call 51;(with_reducible refine zM (fun W hL=>HCJ.out _ (ag HB0.out hL HXB.out) hL.h0) ?_);rintro W hL e W ⟨nm,aa,na,ca,aw,nw,cw,ar,nr,cr,ak,nk,ck,LN,j2,vj2,rfl,HN,HJ2,hb⟩;replace hL:=hL.jn 0 hb;clear hb;have hF:=hL.fx;replace hL:=hL.in1;clear hF;have hF:=hL.fx;obtain⟨W1,rfl⟩:∃W1:World,W1=W:=⟨_,rfl⟩))
     have hle:=HLE2.out _ _ HJ2.out.1 HJ2.out.2;have hj2:=HJ2.out.1.1;have Hvj2:=yh HJ2.out.1;have hrd:=HJ2.out.2;rw[hrd]at HF2;clear hrd;obtain⟨y,pa8,pn8,pc8,hx8,hx28⟩:=E.tok Hvj2.out;have HX8:=yh hx8;have HX28:=yh hx28;obtain⟨f08,f18,f28,f38,f48,f58⟩:=tkF y.1.kind y.1.fd y.1.line ⟨y.1.text.toArray⟩ ⟨y.1.plain.toArray⟩ pa8 pn8 pc8;clear hx8 hx28;obtain⟨k1,hk1⟩:∃z:Bool,aS [38] ((TT tvs).drop j2)=z:=⟨_,rfl⟩;obtain⟨k2,hk2⟩:∃z:Bool,aS [59] ((TT tvs).drop j2)=z:=⟨_,rfl⟩;obtain⟨k3,hk3⟩:∃z:Bool,((y.1.kind:Int) != 3)=z:=⟨_,rfl⟩;have HK1:Hid (aS (⟨#[38]⟩:ByteArray).data.toList ((TT tvs).drop j2)=k1):=yh hk1;have HK2:Hid (aS (⟨#[59]⟩:ByteArray).data.toList ((TT tvs).drop j2)=k2):=yh hk2;have HK3:Hid (isK 3 ((TT tvs).drop j2)= !k3):=yh (by rw[mE E HX8.out 3 (by omega),<- hk3];exact(Bool.not_not _).symm);clear hk1 hk2
     cases k1
     ·cases hsp:(k2|| !k3)with
      |true=>
       have HNE2:=yh (mv (show sep ((TT tvs).drop j2)=true by unfold sep;rw[show aS [38] _=_ from HK1.out,show aS [59] _=_ from HK2.out,HK3.out];simpa using hsp));have HF3:=yh (tm HF2.out HK1.out HK2.out HK3.out (by simpa using hsp))
       cases k2<;>cases k3<;>first|exact absurd hsp (by decide)|(
       clear hsp;go_wp2_with (first|(with_reducible refine zS ?_;intro W hL hF)|(go_at_call 52;refine zG ?_;intro W hL hF;(((first|(with_reducible refine(eC E b j2 vj2 (d:Int) _ (ag HB0.out hL HXB.out) hbb Hvj2 (by first|exact hL.has _ m1|exact hL.has _ m2) ⟨#[38]⟩ _ HK1).mono ?_)|(with_reducible refine(eC E b j2 vj2 (d:Int) _ (ag HB0.out hL HXB.out) hbb Hvj2 hL.h2 ⟨#[59]⟩ _ HK2).mono ?_))));rintro e W ⟨rfl,hb⟩;replace hL:=hL.below hb;clear hb hF;have hF:=hL.fx)|(go_at_call 27;refine zC (fun W hL=>aL E b j2 vj2 (d:Int) _ (ag HB0.out hL HXB.out) hbb Hvj2 hL.h2 HX8.out pa8 pn8 pc8 HX28.out) ?_;intro W hL hF)|(at_builtin;refine zL ?_;intro W hL hF;(refine ah rfl _ _ 39 39 rfl (_::_::_::_::_::(LN++LC)) LK hL ks.length 1 (ks.flatMap (·.2)) [.int .i64 (x.kind:Int),.string nm,.bool x.neg,.slice aa na ca,.slice aw nw cw,.slice ar nr cr,.slice ak nk ck] _ _ HRK.out rfl rfl (fun ho=>bV rfl (fun j u hu=>by rw[Go.WideShapes.add_plain,Nat.zero_add,aK hL m0];simpa using hu) (by intro u hu;simp only[List.mem_cons,List.not_mem_nil,or_false]at hu;rcases hu with rfl|rfl|rfl|rfl|rfl|rfl|rfl<;>rfl) (by omega) ho) ?_);intro LP3 a3 c3 W3 hL2 hr3;clear hL hF;have hL:=hL2;clear hL2;simp only[List.append_eq,List.cons_append,List.nil_append]at hL;have hF:=hL.fx)|(go_at_call 53;(with_reducible refine zM (fun W hL=>ea E b j2 vj2 (d:Int) _ (ag HB0.out hL HXB.out) hbb Hvj2 hL.h2 HNE2.out) ?_);rintro W hL e W ⟨x1,pa1,pn1,pc1,vj3,rfl,HTX2,HVJ3,hb⟩;replace hL:=hL.jn 2 hb;clear hb;have hF:=hL.fx)|(go_at_call 49;(with_reducible refine zM (fun W hL=>dT E b (j2+1) vj3 d _ (ag HB0.out hL HXB.out) hbb HVJ3 hL.h0) ?_);rintro W hL e W ⟨j4,vj4,rfl,HJ4,hb⟩;replace hL:=hL.jn 0 hb;clear hb;have hF:=hL.fx))
       go_roundg (tvs.length-j4)
       case measure=>have:=HJ4.out.1;have:=HJ4.out.2.1.1;omega
       case rel=>exact⟨j4,vj4,ks++[(x,[.int .i64 (x.kind:Int),.string nm,.bool x.neg,.slice aa na ca,.slice aw nw cw,.slice ar nr cr,.slice ak nk ck])],a3,c3,LN++LC,LP3,rfl,yh HJ4.out.2.1,yh (by obtain⟨f,ts,h1,rfl,h3⟩:=HF3.out;exact⟨f,_,by have h7:=HJ4.out.1;have h8:=HJ4.out.2.1.1;rw[List.length_drop,eX]at h1 |-;omega,HJ4.out.2.2,by simpa using h3⟩),yh (by simpa using hr3),yh (bY (fun y hy=>(HKS.out y hy).r) HN.out.l),by have:=HJ4.out.1;simp only[List.length_append,List.length_singleton];omega,by have:=HJ4.out.2.1.1;omega,by refine Kn.name ?_;clear hL;intro hL;simp only[List.length_append,List.length_singleton];exact hL.pm⟩)
      |false=>
       obtain⟨rfl,rfl⟩:k2=false/\k3=true:=by cases k2<;>cases k3<;>first|exact⟨rfl,rfl⟩|cases hsp
       have HS9:=yh (qA HF2.out HK1.out HK2.out HK3.out);clear hsp;go_wp2_with (first|(with_reducible refine zS ?_;intro W hL hF)|(go_at_call 52;refine zG ?_;intro W hL hF;(((first|(with_reducible refine(eC E b j2 vj2 (d:Int) _ (ag HB0.out hL HXB.out) hbb Hvj2 (by first|exact hL.has _ m1|exact hL.has _ m2) ⟨#[38]⟩ _ HK1).mono ?_)|(with_reducible refine(eC E b j2 vj2 (d:Int) _ (ag HB0.out hL HXB.out) hbb Hvj2 hL.h2 ⟨#[59]⟩ _ HK2).mono ?_))));rintro e W ⟨rfl,hb⟩;replace hL:=hL.below hb;clear hb hF;have hF:=hL.fx)|(go_at_call 27;refine zC (fun W hL=>aL E b j2 vj2 (d:Int) _ (ag HB0.out hL HXB.out) hbb Hvj2 hL.h2 HX8.out pa8 pn8 pc8 HX28.out) ?_;intro W hL hF)|(at_builtin;refine zL ?_;intro W hL hF;(refine ah rfl _ _ 39 39 rfl (_::_::_::_::_::(LN++LC)) LK hL ks.length 1 (ks.flatMap (·.2)) [.int .i64 (x.kind:Int),.string nm,.bool x.neg,.slice aa na ca,.slice aw nw cw,.slice ar nr cr,.slice ak nk ck] _ _ HRK.out rfl rfl (fun ho=>bV rfl (fun j u hu=>by rw[Go.WideShapes.add_plain,Nat.zero_add,aK hL m0];simpa using hu) (by intro u hu;simp only[List.mem_cons,List.not_mem_nil,or_false]at hu;rcases hu with rfl|rfl|rfl|rfl|rfl|rfl|rfl<;>rfl) (by omega) ho) ?_);intro LP3 a3 c3 W3 hL2 hr3;clear hL hF;have hL:=hL2;clear hL2;simp only[List.append_eq,List.cons_append,List.nil_append]at hL;have hF:=hL.fx))
       refine zF ?_;intro W hL hF;refine bodyPost_ret (by simp[results,Tryz.results26,go_sem, *];try rfl) rfl ?_;rw[HS9.out];exact th 4 false (ks++[(x,[.int .i64 (x.kind:Int),.string nm,.bool x.neg,.slice aa na ca,.slice aw nw cw,.slice ar nr cr,.slice ak nk ck])]) (by simp) (by simpa using hr3) (bY (fun y hy=>(HKS.out y hy).r) HN.out.l) Hvj2.out (by simp) (LC:=LN++LC) (hL.sub (sD (sD sR)))
     ·have HNE2:=yh (eW HK1.out)
      have HF3:=yh (qz HF2.out HK1.out);go_upto_region 7 with((go_at_call 52;refine zC (fun W hL=>eC E b j2 vj2 (d:Int) _ (ag HB0.out hL HXB.out) hbb Hvj2 hL.h1 ⟨#[38]⟩ _ HK1) ?_;intro W hL hF;obtain⟨W2,rfl⟩:∃W2:World,W2=W:=⟨_,rfl⟩))
      go_wp2_with (first|(with_reducible refine zS ?_;intro W hL hF)|(go_at_call 52;refine zC (fun W hL=>eC E b j2 vj2 (d:Int) _ (ag HB0.out hL HXB.out) hbb Hvj2 hL.h3 ⟨#[38]⟩ _ HK1) ?_;intro W hL hF)|(go_at_call 27;refine zC (fun W hL=>aL E b j2 vj2 (d:Int) _ (ag HB0.out hL HXB.out) hbb Hvj2 hL.h0 HX8.out pa8 pn8 pc8 HX28.out) ?_;intro W hL hF)|(at_builtin;refine dQ ?_;clear hF hL;intro W hL;simp only[kfb]at hL;have hF:=hL.fx;(refine ah rfl _ _ 39 39 rfl (_::_::_::_::_::_::(LN++LC)) LK hL ks.length 1 (ks.flatMap (·.2)) [.int .i64 5,.string ⟨#[]⟩,.bool false,.slice none 0 0,.slice none 0 0,.slice none 0 0,.slice (some ⟨W2.heap.size,0,none⟩) 1 1] _ _ HRK.out rfl rfl (fun ho=>bV rfl (fun j u hu=>by rw[Go.WideShapes.add_plain,Nat.zero_add,aK hL m0];simpa using hu) (by intro u hu;simp only[List.mem_cons,List.not_mem_nil,or_false]at hu;rcases hu with rfl|rfl|rfl|rfl|rfl|rfl|rfl<;>rfl) (by omega) ho) ?_);intro LP3 a3 c3 W3 hL2 hr3;clear hL hF;have hL:=hL2;clear hL2;simp only[List.append_eq,List.cons_append,List.nil_append]at hL;have hF:=hL.fx)|(go_at_call 53;(with_reducible refine zM (fun W hL=>ea E b j2 vj2 (d:Int) _ (ag HB0.out hL HXB.out) hbb Hvj2 hL.h3 HNE2.out) ?_);rintro W hL e W ⟨x1,pa1,pn1,pc1,vj3,rfl,HTX2,HVJ3,hb⟩;replace hL:=hL.jn 3 hb;clear hb;have hF:=hL.fx)|(go_at_call 49;(with_reducible refine zM (fun W hL=>dT E b (j2+1) vj3 d _ (ag HB0.out hL HXB.out) hbb HVJ3 hL.h0) ?_);rintro W hL e W ⟨j4,vj4,rfl,HJ4,hb⟩;replace hL:=hL.jn 0 hb;clear hb;have hF:=hL.fx))
      go_roundg (tvs.length-j4)
      case measure=>have:=HJ4.out.1;have:=HJ4.out.2.1.1;omega
      case rel=>exact⟨j4,vj4,ks++[(.mk 5 [] false [] [] [] [x],[.int .i64 5,.string ⟨#[]⟩,.bool false,.slice none 0 0,.slice none 0 0,.slice none 0 0,.slice (some ⟨W2.heap.size,0,none⟩) 1 1])],a3,c3,(W2.heap.size,Obj.cells #[.int .i64 (x.kind:Int),.string nm,.bool x.neg,.slice aa na ca,.slice aw nw cw,.slice ar nr cr,.slice ak nk ck] 41 (0,0))::(LN++LC),LP3,rfl,yh HJ4.out.2.1,yh (by obtain⟨f,ts,h1,rfl,h3⟩:=HF3.out;exact⟨f,_,by have h7:=HJ4.out.1;have h8:=HJ4.out.2.1.1;rw[List.length_drop,eX]at h1 |-;omega,HJ4.out.2.2,by simpa using h3⟩),yh (by simpa using hr3),yh (bY (fun y hy=>(HKS.out y hy).mono fun p hp=>List.mem_cons_of_mem _ (List.mem_append_right _ hp)) (NodeL.one (name:=[]) (HN.out.mono fun p hp=>List.mem_cons_of_mem _ (List.mem_append_left _ hp)) m0 (by omega))),by have:=HJ4.out.1;simp only[List.length_append,List.length_singleton];omega,by have:=HJ4.out.2.1.1;omega,by refine Kn.name ?_;clear hL;intro hL;simp only[List.length_append,List.length_singleton];exact hL.pm⟩)
  ·have HS9:=yh (ti HF.out HE1.out)
   go_wp2_with (first|(with_reducible refine zS ?_;intro W hL hF)|(go_at_call 50;refine zC (fun W hL=>HEN.out _ (ag HB0.out hL HXB.out) hL.h0) ?_;intro W hL hF))
   refine zF ?_;intro W hL hF;refine bodyPost_ret (by simp[results,Tryz.results26,go_sem, *];try rfl) rfl ?_;rw[HS9.out];exact kC 4 false ks HRK.out HKS.out Hvj.out hL
def BodyIs(W0:World)(LC LK:List (Nat×Obj))(a:Nd)(kz:Int)(nm:ByteArray)(vw:Value)(ak:Option Addr)(nk ck:Nat):Prop:=
 ∃(kind:Nat) (ws:List (List Prt×Value)) (ks:List (Nd×List Value)),a=.mk kind nm.data.toList false [] (ws.map (·.1)) [] (ks.map (·.1))/\kz=(kind:Int)/\RowM 1 W0 LC vw (ws.map fun x=>[x.2])/\(∀x∈ws,PRm W0 LC x.2 x.1)/\nk=ks.length/\RowL 7 41 LK (.slice ak nk ck) nk (ks.flatMap (·.2))/\∀x∈ks,NodeL W0 LC x.1 x.2
def gE(W0:World)(b d:Nat)(g o cap:Nat)(tvs:List (Tok×Value))(w:World)(p:PR Nd)(e:Ending)(w':World):Prop:=match p with
 |.ok a r=>∃(kz:Int) (nm:ByteArray) (aw:Option Addr) (nw cw:Nat) (ak:Option Addr) (nk ck:Nat) (LC LK:List (Nat×Obj)) (j:Nat) (vj:Value),e=.returned (.agg #[.int .i64 kz,.string nm,.bool false,.slice none 0 0,.slice aw nw cw,.slice none 0 0,.slice ak nk ck])/\Hid (BodyIs W0 LC LK a kz nm (.slice aw nw cw) ak nk ck)/\Hid (AtV g o cap tvs j vj/\r=(TT tvs).drop j)/\Kn [b] w w' ((b,.cells #[vj,.int .i64 (d:Int)] 73 (0,0))::(LC++LK))
 |.bad er m=>∃vj dj,e=.panicked [{v:=.iface 70 (.agg #[.int .i64 (ku er),.int .i64 (fp tvs m)]),recovered:=false}]/\Kn [b] w w' [(b,.cells #[vj,.int .i64 dj] 73 (0,0))]
def gZ(W0:World)(g o cap:Nat)(tvs:List (Tok×Value))(f:FuncId)(d:Nat)(p:Pa Nd):Prop:=
 ∀(b i:Nat) (v:Value) (w:World),Below W0.heap.size W0 w->W0.heap.size<=b->Hid (AtV g o cap tvs i v)->w.heap[b]? =some (.cells #[v,.int .i64 (d:Nat)] 73 (0,0))->
  Calls Tryz.prog f #[.pointer (some ⟨b,0,none⟩)] w (gE W0 b d g o cap tvs w (p ((TT tvs).drop i)))
theorem BodyIs.node{W0:World}{LC LK:List (Nat×Obj)}{a:Nd}{kz:Int}{nm:ByteArray}{vw:Value}{ak:Option Addr}{nk ck:Nat}(h:BodyIs W0 LC LK a kz nm vw ak nk ck):NodeL W0 (LC++LK) a [.int .i64 kz,.string nm,.bool false,.slice none 0 0,vw,.slice none 0 0,.slice ak nk ck]:=by
 obtain⟨kind,ws,ks,rfl,rfl,h1,h2,rfl,h3,h4⟩:=h
 have:=NodeL.of (W0:=W0) (L:=LC++LK) (kind:=kind) (name:=nm.data.toList) (neg:=false) (h1.mono fun p hp=>List.mem_append_left _ hp) (fun x hx=>(h2 x hx).mono fun p hp=>List.mem_append_left _ hp) (i_ h4 h3 fun p hp=>List.mem_append_right _ hp) (fun x hx=>(h4 x hx).l)
 rwa[cR]at this
theorem oK{t:TypeId}{g c:Nat}{cs:List Value}(hl:cs.length=7)(hc:c=1):RowL 7 t [(g,.cells cs.toArray t (0,0))] (.slice (some ⟨g,0,none⟩) 1 c) 1 cs:=
 .inr ⟨g,c,_,rfl,rfl,by subst hc;simp[hl],by omega,by subst hc;decide,by simpa using List.take_of_length_le (by omega),by omega⟩
theorem vh{t:TypeId}{g c:Nat}{cs ds:List Value}(hl:cs.length=7)(hl2:ds.length=7)(hc:c=2):RowL 7 t [(g,.cells (cs++ds).toArray t (0,0))] (.slice (some ⟨g,0,none⟩) 2 c) 2 (cs++ds):=
 .inr ⟨g,c,_,rfl,rfl,by subst hc;simp[hl,hl2],by omega,by subst hc;decide,by simpa using List.take_of_length_le (by simp;omega),by simp;omega⟩
theorem Kn.in0{X:List Nat}{w0 W:World}{p0 p1:Nat×Obj}{LP:List (Nat×Obj)}(h:Kn X w0 W (p0::(LP++[p1]))):Kn X w0 W (p0::p1::LP):=h.perm fun p=>by simp only[List.countP_cons,List.countP_append,List.countP_nil];omega
theorem Kn.swap01{X:List Nat}{w0 W:World}{p0 p1:Nat×Obj}{R:List (Nat×Obj)}(h:Kn X w0 W (p0::p1::R)):Kn X w0 W (p1::p0::R):=h.perm fun p=>by simp only[List.countP_cons];omega
theorem NodeL.nk{W0:World}{L:List (Nat×Obj)}{n:Nd}{v0 v1 v2 va vw vr:Value}{ak:Option Addr}{nk ck:Nat}(h:NodeL W0 L n [v0,v1,v2,va,vw,vr,.slice ak nk ck]):((nk:Int)==0)=n.kids.isEmpty:=by
 cases h with
 |mk kind name neg al ws rs ks va vw vr vk h1 h2 h3 h4 h5 h6 h7 h8=>
  obtain⟨ao,c,e,_⟩:=h7;injection e with e1 e2 e3
  rw[e2,List.length_map];show _=(ks.map (·.1)).isEmpty
  cases ks with
  |nil=>rfl
  |cons x r=>exact beq_false_of_ne (by simp;omega)
theorem AQ{W0:World}{g o cap:Nat}{tvs:List (Tok×Value)}(E:PEnv W0 g o cap tvs){d:Nat}{li:Pa Nd}(HC:cL W0 g o cap tvs 26 d li):cL W0 g o cap tvs 162 d (fun ts=>(li ts).bind fun n r=>if n.kids.isEmpty then syn r else .ok n r):=by
 intro b i v w hB hbb hv hb
 have HCJ:=yh (fun W hB hb=>HC b i v W hB hbb hv hb)
 obtain⟨PL,hpl⟩:∃p:PR Nd,((li ((TT tvs).drop i)).bind fun n r=>if n.kids.isEmpty then syn r else .ok n r)=p:=⟨_,rfl⟩
 show Calls _ _ _ _ (db W0 b d g o cap tvs w ((li ((TT tvs).drop i)).bind fun n r=>if n.kids.isEmpty then syn r else .ok n r))
 rw[hpl]
 clear HC
 have HB0:=yh hB
 have HXB:=yh (xb hbb)
 have hL:Kn [b] w w [(b,.cells #[v,.int .i64 (d:Int)] 73 (0,0))]:=Kn.one hb
 have HBS:=yh hb
 clear hB hb
 have hF:=hL.fx
 cases hc:li ((TT tvs).drop i)with
 |bad er m2=>
  rw[hc]at HCJ;have HB9:=yh (bH hpl.symm hc);clear hc hpl;go_enter Tryz.func162,Tryz.ntmps162;go_wp2_with (first|(with_reducible refine zS ?_;intro W hL hF)|(go_at_call 26;(with_reducible refine zM (fun W hL=>HCJ.out _ (ag HB0.out hL HXB.out) hL.h1) ?_);rintro W hL e W ⟨vj2,dj,rfl,hb⟩;replace hL:=hL.jn 1 hb;clear hb;have hF:=hL.fx))
  refine⟨rfl,?_⟩;rw[HB9.out];exact⟨vj2,dj,rfl,hL.pm⟩
 |ok x r=>
  rw[hc]at HCJ;have HB9:=yh (cx hpl.symm hc);clear hc hpl;obtain⟨e1,he1⟩:∃z:Bool,x.kids.isEmpty=z:=⟨_,rfl⟩;rw[he1]at HB9;have HE1:=yh he1;clear he1;go_enter Tryz.func162,Tryz.ntmps162;go_upto_region 2 with((go_at_call 26;(with_reducible refine zM (fun W hL=>HCJ.out _ (ag HB0.out hL HXB.out) hL.h1) ?_);rintro W hL e W ⟨nm,aa,na,ca,aw,nw,cw,ar,nr,cr,ak,nk,ck,LN,j2,vj2,rfl,HN,HJ2,hb⟩;replace hL:=hL.jn 1 hb;clear hb;have hF:=hL.fx;replace hL:=hL.in0;clear hF;have hF:=hL.fx;obtain⟨W1,rfl⟩:∃W1:World,W1=W:=⟨_,rfl⟩))
  have hnk:=HN.out.nk;rw[HE1.out]at hnk;have Hvj2:=yh HJ2.out.1;obtain⟨m,hm⟩:∃m,m=((TT tvs).drop j2).length:=⟨_,rfl⟩;have Hm:=yh hm;clear hm
  cases e1
  ·go_upto_region 4 with fail
   refine zE ?_;intro W hL hF;go_wp2_with (with_reducible refine zS ?_;intro W hL hF)
   refine zF ?_;intro W hL hF;refine bodyPost_ret (by simp[results,Tryz.results162,go_sem, *];try rfl) rfl ?_;rw[show PL=.ok x ((TT tvs).drop j2)from by rw[HB9.out,HJ2.out.2];rfl];exact oJ HN.out Hvj2.out hL.swap01
  ·go_wp2_with (first|(with_reducible refine zS ?_;intro W hL hF)|(go_at_call 28;(with_reducible refine zM (fun W hL=>fW E b j2 vj2 d _ (ag HB0.out hL HXB.out) hbb Hvj2 hL.h1 27 d 1 (yh rfl) m Hm) ?_);rintro W hL e W ⟨vj,dj,rfl,hb⟩;replace hL:=hL.jn 1 hb;clear hb;have hF:=hL.fx))
   refine⟨rfl,?_⟩;rw[show PL=.bad 1 m from by rw[HB9.out,HJ2.out.2,Hm.out];rfl];exact⟨vj,dj,rfl,hL.pm⟩
theorem AR{X:List Nat}{w0 W:World}{gq g7:Nat}{a0 a1 a2 a3 a4 a5 a6 a7 a8 a9 a10 a11 a12 a13 c0 c1 c2 c3 c4 c5 c6:Value}{t1 t2:TypeId}{f1 f2:Nat×Nat}{pb p1 p2:Nat×Obj}{LA LB:List (Nat×Obj)}(h:Kn X w0 W ((g7,Obj.cells #[c0,c1,c2,c3,c4,c5,c6] t2 f2)::(gq,Obj.cells #[a0,a1,a2,a3,a4,a5,a6,a7,a8,a9,a10,a11,a12,a13] t1 f1)::pb::p1::p2::(LA++LB))):Kn X w0 W (pb::((LA++LB)++[(gq,Obj.cells #[a0,a1,a2,a3,a4,a5,a6,a7,a8,a9,a10,a11,a12,a13] t1 f1)])):=h.perml fun p=>by simp only[List.countP_cons,List.countP_nil,List.countP_append];omega
theorem AU{X:List Nat}{w0 W:World}{gq g7:Nat}{a0 a1 a2 a3 a4 a5 a6 a7 a8 a9 a10 a11 a12 a13 c0 c1 c2 c3 c4 c5 c6:Value}{t1 t2:TypeId}{f1 f2:Nat×Nat}{pb p1 p2:Nat×Obj}{LA LB:List (Nat×Obj)}(h:Kn X w0 W ((gq,Obj.cells #[a0,a1,a2,a3,a4,a5,a6,a7,a8,a9,a10,a11,a12,a13] t1 f1)::(g7,Obj.cells #[c0,c1,c2,c3,c4,c5,c6] t2 f2)::pb::p1::p2::(LA++LB))):Kn X w0 W (pb::((LA++LB)++[(gq,Obj.cells #[a0,a1,a2,a3,a4,a5,a6,a7,a8,a9,a10,a11,a12,a13] t1 f1)])):=h.perml fun p=>by simp only[List.countP_cons,List.countP_nil,List.countP_append];omega
theorem AV{X:List Nat}{w0 W:World}{gq g7:Nat}{a0 a1 a2 a3 a4 a5 a6 a7 a8 a9 a10 a11 a12 a13 c0 c1 c2 c3 c4 c5 c6:Value}{t1 t2:TypeId}{f1 f2:Nat×Nat}{pb p1 p2:Nat×Obj}{LA LB:List (Nat×Obj)}(h:Kn X w0 W ((gq,Obj.cells #[a0,a1,a2,a3,a4,a5,a6,a7,a8,a9,a10,a11,a12,a13] t1 f1)::pb::(g7,Obj.cells #[c0,c1,c2,c3,c4,c5,c6] t2 f2)::p1::p2::(LA++LB))):Kn X w0 W (pb::((LA++LB)++[(gq,Obj.cells #[a0,a1,a2,a3,a4,a5,a6,a7,a8,a9,a10,a11,a12,a13] t1 f1)])):=h.perml fun p=>by simp only[List.countP_cons,List.countP_nil,List.countP_append];omega
theorem AW{X:List Nat}{w0 W:World}{gq g7:Nat}{a0 a1 a2 a3 a4 a5 a6 a7 a8 a9 a10 a11 a12 a13 c0 c1 c2 c3 c4 c5 c6:Value}{t1 t2:TypeId}{f1 f2:Nat×Nat}{pb p1 p2:Nat×Obj}{LA LB:List (Nat×Obj)}(h:Kn X w0 W (pb::(g7,Obj.cells #[c0,c1,c2,c3,c4,c5,c6] t2 f2)::(gq,Obj.cells #[a0,a1,a2,a3,a4,a5,a6,a7,a8,a9,a10,a11,a12,a13] t1 f1)::p1::p2::(LA++LB))):Kn X w0 W (pb::((LA++LB)++[(gq,Obj.cells #[a0,a1,a2,a3,a4,a5,a6,a7,a8,a9,a10,a11,a12,a13] t1 f1)])):=h.perml fun p=>by simp only[List.countP_cons,List.countP_nil,List.countP_append];omega
theorem AX{X:List Nat}{w0 W:World}{gq g7:Nat}{a0 a1 a2 a3 a4 a5 a6 a7 a8 a9 a10 a11 a12 a13 c0 c1 c2 c3 c4 c5 c6:Value}{t1 t2:TypeId}{f1 f2:Nat×Nat}{pb p1 p2:Nat×Obj}{LA LB:List (Nat×Obj)}(h:Kn X w0 W (pb::(gq,Obj.cells #[a0,a1,a2,a3,a4,a5,a6,a7,a8,a9,a10,a11,a12,a13] t1 f1)::(g7,Obj.cells #[c0,c1,c2,c3,c4,c5,c6] t2 f2)::p1::p2::(LA++LB))):Kn X w0 W (pb::((LA++LB)++[(gq,Obj.cells #[a0,a1,a2,a3,a4,a5,a6,a7,a8,a9,a10,a11,a12,a13] t1 f1)])):=h.perml fun p=>by simp only[List.countP_cons,List.countP_nil,List.countP_append];omega
theorem Kn.inP{X:List Nat}{w0 W:World}{p0 p1 p2:Nat×Obj}{LP R:List (Nat×Obj)}(h:Kn X w0 W (p0::(LP++(p1::p2::R)))):Kn X w0 W (p0::p1::p2::(LP++R)):=h.perm fun p=>by simp only[List.countP_cons,List.countP_append];omega
theorem Kn.inQ{X:List Nat}{w0 W:World}{p0 p1 p2 p3:Nat×Obj}{LP R:List (Nat×Obj)}(h:Kn X w0 W (p0::(LP++(p1::p2::p3::R)))):Kn X w0 W (p0::p1::p2::p3::(LP++R)):=h.perm fun p=>by simp only[List.countP_cons,List.countP_append];omega
theorem rC{W0:World}{b d j g o cap gq:Nat}{tvs:List (Tok×Value)}{w W:World}{vj:Value}{kind:Nat}{x y:Nd}{nm:ByteArray}{aa:Option Addr}{na:Nat}{ca:Nat}{aw:Option Addr}{nw:Nat}{cw:Nat}{ar:Option Addr}{nr:Nat}{cr:Nat}{ak:Option Addr}{nk:Nat}{ck:Nat}{nm2:ByteArray}{aa2:Option Addr}{na2:Nat}{ca2:Nat}{aw2:Option Addr}{nw2:Nat}{cw2:Nat}{ar2:Option Addr}{nr2:Nat}{cr2:Nat}{ak2:Option Addr}{nk2:Nat}{ck2:Nat}{LN LN2:List (Nat×Obj)}(HN:NodeL W0 LN x [.int .i64 (x.kind:Int),.string nm,.bool x.neg,.slice aa na ca,.slice aw nw cw,.slice ar nr cr,.slice ak nk ck])(HN2:NodeL W0 LN2 y [.int .i64 (y.kind:Int),.string nm2,.bool y.neg,.slice aa2 na2 ca2,.slice aw2 nw2 cw2,.slice ar2 nr2 cr2,.slice ak2 nk2 ck2])(Hvj:AtV g o cap tvs j vj)
  (hL:Kn [b] w W ((b,.cells #[vj,.int .i64 (d:Int)] 73 (0,0))::((LN2++LN)++[(gq,.cells #[.int .i64 (x.kind:Int),.string nm,.bool x.neg,.slice aa na ca,.slice aw nw cw,.slice ar nr cr,.slice ak nk ck,.int .i64 (y.kind:Int),.string nm2,.bool y.neg,.slice aa2 na2 ca2,.slice aw2 nw2 cw2,.slice ar2 nr2 cr2,.slice ak2 nk2 ck2] 41 (0,0))]))):
  gE W0 b d g o cap tvs w (.ok (.mk kind [] false [] [] [] [x,y]) ((TT tvs).drop j)) (.returned (.agg #[.int .i64 (kind:Int),.string ⟨#[]⟩,.bool false,.slice none 0 0,.slice none 0 0,.slice none 0 0,.slice (some ⟨gq,0,none⟩) 2 2])) W:=
 ⟨(kind:Int),⟨#[]⟩,none,0,0,some ⟨gq,0,none⟩,2,2,LN2++LN,_,j,vj,rfl,yh ⟨kind,[],[(x,[.int .i64 (x.kind:Int),.string nm,.bool x.neg,.slice aa na ca,.slice aw nw cw,.slice ar nr cr,.slice ak nk ck]),(y,[.int .i64 (y.kind:Int),.string nm2,.bool y.neg,.slice aa2 na2 ca2,.slice aw2 nw2 cw2,.slice ar2 nr2 cr2,.slice ak2 nk2 ck2])],rfl,rfl,RowM.nil,(fun x hx=>by cases hx),rfl,vh rfl rfl rfl,fun z hz=>by
  rcases List.mem_cons.1 hz with rfl|hz
  ·exact HN.r
  ·rw[List.mem_singleton.1 hz];exact HN2.l⟩,yh ⟨Hvj,rfl⟩,hL⟩
def qB(s:ByteArray):Option ab:=if s.data.toList=[]then none else some s.data.toList
theorem i'{W0:World}{g o cap:Nat}{tvs:List (Tok×Value)}(E:PEnv W0 g o cap tvs){d:Nat}{so:Pa Nd}(HC:cL W0 g o cap tvs 162 d so)(b i:Nat)(v:Value)(w:World)(hB:Below W0.heap.size W0 w)(hbb:W0.heap.size<=b)(hv:Hid (AtV g o cap tvs i v))(hb:w.heap[b]? =some (.cells #[v,.int .i64 (d:Nat)] 73 (0,0)))(kind:Nat)(s1 s2:ByteArray):
  Calls Tryz.prog 163 #[.pointer (some ⟨b,0,none⟩),.int .i64 (kind:Int),.string s1,.string s2] w (gE W0 b d g o cap tvs w (aO so kind s1.data.toList (qB s2) ((TT tvs).drop i))):=by
 obtain⟨PL,hpl⟩:∃p:PR Nd,aO so kind s1.data.toList (qB s2) ((TT tvs).drop i)=p:=⟨_,rfl⟩
 rw[hpl]
 unfold aO at hpl
 have HCJ:=yh (fun W hB hb=>HC b i v W hB hbb hv hb)
 have HCC:=yh HC
 obtain⟨e2,he2⟩:∃z:Bool,(s2.toList==[])=z:=⟨_,rfl⟩
 have HE2:Hid (qB s2=if e2 then none else some s2.data.toList):=yh (by unfold qB;rw[<- he2,Lib.toList_data];cases s2.data.toList<;>rfl)
 clear HC
 have HB0:=yh hB
 have HXB:=yh (show ∀y∈[b],W0.heap.size<=y from by simpa using hbb)
 have hL:Kn [b] w w [(b,.cells #[v,.int .i64 (d:Int)] 73 (0,0))]:=Kn.one hb
 have HBS:=yh hb
 clear hB hb
 have hF:=hL.fx
 cases hc:so ((TT tvs).drop i)with
 |bad er m2=>
  rw[hc]at HCJ;have HB9:=yh (bH hpl.symm hc);clear hc hpl;go_enter Tryz.func163,Tryz.ntmps163;go_wp2_with (first|((with_reducible refine zS ?_);clear hL;intro W hL hF)|(go_at_call 162;refine zG ?_;clear hF hL;intro W hL hF;(with_reducible refine(HCJ.out _ (ag HB0.out hL HXB.out) (by(exact hL.has _ (List.mem_cons_of_mem _ List.mem_cons_self)))).mono ?_);rintro e W ⟨vj2,dj,rfl,hb⟩;((replace hL:=hL.join1 1 rfl hb));clear hb hF;simp only[List.eraseIdx_cons_zero,List.eraseIdx_cons_succ,List.cons_append,List.nil_append]at hL;have hF:=hL.fx))
  refine⟨rfl,?_⟩;rw[HB9.out];exact⟨vj2,dj,rfl,(hL.perml fun p=>by simp only[List.countP_cons,List.countP_nil,List.countP_append,List.append_nil,List.nil_append,List.length_nil];omega)⟩
 |ok x r=>
  rw[hc]at HCJ;have HB9:=yh (cx hpl.symm hc);clear hc hpl;go_enter Tryz.func163,Tryz.ntmps163;go_upto_region 2 with((go_at_call 162;refine zG ?_;clear hF hL;intro W hL hF;(with_reducible refine(HCJ.out _ (ag HB0.out hL HXB.out) (by(exact hL.has _ (List.mem_cons_of_mem _ List.mem_cons_self)))).mono ?_);rintro e W ⟨nm,aa,na,ca,aw,nw,cw,ar,nr,cr,ak,nk,ck,LN,j2,vj2,rfl,HN,HJ2,hb⟩;((replace hL:=hL.join1 1 rfl hb));clear hb hF;simp only[List.eraseIdx_cons_zero,List.eraseIdx_cons_succ,List.cons_append,List.nil_append]at hL;have hF:=hL.fx;replace hL:=hL.in0;clear hF;have hF:=hL.fx;obtain⟨W1,rfl⟩:∃W1:World,W1=W:=⟨_,rfl⟩))
  refine jj ?_;clear hF hL;intro W hL;have hF:=hL.fx;have Hvj2:=yh HJ2.out.1;have HB8:=HB9.out;rw[HJ2.out.2]at HB8;have HW1:=yh (fun W hB hb=>eb E b j2 vj2 d W hB hbb Hvj2 hb s1)
  cases hw:aW s1.data.toList ((TT tvs).drop j2)with
  |bad er m2=>
   rw[hw]at HW1;replace HB8:=yh (bH HB8 hw);clear hw;go_wp2_with (first|((with_reducible refine zS ?_);clear hL;intro W hL hF)|(go_at_call 144;refine zG ?_;clear hF hL;intro W hL hF;(with_reducible refine(HW1.out _ (ag HB0.out hL HXB.out) (by(exact hL.has _ (List.mem_cons_of_mem _ List.mem_cons_self)))).mono ?_);rintro e W ⟨vj2,dj,rfl,hb⟩;((replace hL:=hL.join1 1 rfl hb));clear hb hF;simp only[List.eraseIdx_cons_zero,List.eraseIdx_cons_succ,List.cons_append,List.nil_append]at hL;have hF:=hL.fx))
   refine⟨rfl,?_⟩;rw[HB8.out];exact⟨vj2,dj,rfl,(hL.perml fun p=>by simp only[List.countP_cons,List.countP_nil,List.countP_append,List.append_nil,List.nil_append,List.length_nil];omega)⟩
  |ok u r3=>
   rw[hw]at HW1;replace HB8:=yh (cx HB8 hw);clear hw;go_upto_region 3 with((go_at_call 144;refine zG ?_;clear hF hL;intro W hL hF;(with_reducible refine(HW1.out _ (ag HB0.out hL HXB.out) (by(exact hL.has _ (List.mem_cons_of_mem _ List.mem_cons_self)))).mono ?_);rintro e W ⟨_,j3,vj3,rfl,rfl,HJ3,hb⟩;((replace hL:=hL.join1 1 rfl hb));clear hb hF;simp only[List.eraseIdx_cons_zero,List.eraseIdx_cons_succ,List.cons_append,List.nil_append]at hL;have hF:=hL.fx))
   have Hvj3:=yh HJ3.out.1;have HB7:=HB8.out;rw[HJ3.out.2]at HB7;have HCJ2:=yh (fun W hB hb=>HCC.out b j3 vj3 W hB hbb Hvj3 hb)
   cases hc2:so ((TT tvs).drop j3)with
   |bad er m2=>
    rw[hc2]at HCJ2;replace HB7:=yh (bH HB7 hc2);clear hc2;go_wp2_with (first|((with_reducible refine zS ?_);clear hL;intro W hL hF)|(focus ((with_reducible refine af 3 ?_);refine jj ?_;clear hF hL;intro W hL;have hF:=hL.fx;refine mK (by kernel_rfl) ?_;refine dL 6 3 (by decide) (by decide) (by decide) ?_ ?_;(focus (dsimp only[dG];refine ie [0,1,2,6,3,4,5,7] [0,1,2,5] [4,7] [0,2,5] (by kernel_rfl) (List.Sublist.cons _ (List.Sublist.cons_cons _ (List.nil_sublist _))) ?_));rotate_left;(focus (refine dL 6 4 (by decide) (by decide) (by decide) ?_ ?_;(focus (dsimp only[dG];refine ie [0,1,2,3,6,4,5,7] [0,1,2,5] [4,7] [0,2,5] (by kernel_rfl) (List.Sublist.cons _ (List.Sublist.cons_cons _ (List.nil_sublist _))) ?_));rotate_left;(focus ((dsimp only[dG];refine ie [0,1,2,3,4,5,6,7] [0,1,2,5] [4,6,7] [0,2,5] (by kernel_rfl) (List.Sublist.cons _ (List.Sublist.cons_cons _ (List.nil_sublist _))) ?_)))));all_goals (clear hF hL;intro Qp hQp;replace hQp:=yh hQp;intro ι F hne hC hFF;have hG:=fun n=>(hFF n).fx;clear hFF;(repeat(first|(refine cS ?_)|(refine cF hC ?_;intro K hK;go_big_quiet_op;go_big_quiet_on)|(refine cP ?_;intro K hK;go_big_quiet_op;go_big_quiet_on)|(refine lG rfl (by rfl) (by rfl) (fun _=>rfl) ?_;intro W hL;have hF:=hL.fx;simp only[zA,Act.eval];go_at_call 162;(with_reducible refine(HCJ2.out _ (ag HB0.out hL HXB.out) (by first|exact hL.has _ List.mem_cons_self|exact hL.has _ (List.mem_cons_of_mem _ List.mem_cons_self))).mono ?_);rintro e W ⟨vj2,dj,rfl,hb⟩;(first|replace hL:=hL.join1 0 rfl hb|replace hL:=hL.join1 1 rfl hb);clear hb hF;simp only[List.eraseIdx_cons_zero,List.eraseIdx_cons_succ,List.cons_append,List.nil_append]at hL;have hF:=hL.fx;refine⟨_,rfl,hQp.out _ _ ?_⟩;clear hQp;intro a' ha;simp only[Exit.then,Exit.inBlock];refine⟨ha,?_⟩;show gE W0 b d g o cap tvs w (PL) _ _;rw[HB7.out];exact⟨vj2,dj,rfl,(hL.perml fun p=>by simp only[List.countP_cons,List.countP_nil,List.countP_append,List.append_nil,List.nil_append,List.length_nil];omega)⟩)|(refine cN ?_;intro W hL;have hF:=hL.fx;go_wp2;refine ai ?_;(first|(refine bO _ (by rfl) ?_;clear hL hC hG;intro ι F hne hC hFF;have hG:=fun n=>(hFF n).fx;clear hFF)|(refine a_ _ (by repeat' (first|(with_reducible exact List.nil_sublist _)|(with_reducible apply List.Sublist.cons_cons)|(with_reducible apply List.Sublist.cons))) ?_;clear hL hF)))));((done))))))
   |ok y r4=>
    rw[hc2]at HCJ2;replace HB7:=yh (cx HB7 hc2);clear hc2;go_upto_region 4 with((with_reducible refine af 3 ?_);refine jj ?_;clear hF hL;intro W hL;have hF:=hL.fx;refine mK (by kernel_rfl) ?_;refine dL 6 3 (by decide) (by decide) (by decide) ?_ ?_;(focus (dsimp only[dG];refine cU [0,1,2,6,3,4,5,7] [0,1,2,5] [4,7] [0,2,5] (by kernel_rfl) (List.Sublist.cons _ (List.Sublist.cons_cons _ (List.nil_sublist _))) ?_;clear hF hL;intro ι F hne hC hFF;have hG:=fun n=>(hFF n).fx;clear hFF;(repeat(first|(refine cS ?_)|(refine cF hC ?_;intro K hK;go_big_quiet_op;go_big_quiet_on)|(refine cP ?_;intro K hK;go_big_quiet_op;go_big_quiet_on)|(refine cC ?_;intro W hL;have hF:=hL.fx;simp only[zA,Act.eval];go_at_call 162;(with_reducible refine(HCJ2.out _ (ag HB0.out hL HXB.out) (by(exact hL.has _ (List.mem_cons_of_mem _ List.mem_cons_self)))).mono ?_);rintro e W ⟨nm2,aa2,na2,ca2,aw2,nw2,cw2,ar2,nr2,cr2,ak2,nk2,ck2,LN2,j4,vj4,rfl,HN2,HJ4,hb⟩;((replace hL:=hL.join1 1 rfl hb));clear hb hF;simp only[List.eraseIdx_cons_zero,List.eraseIdx_cons_succ,List.cons_append,List.nil_append]at hL;have hF:=hL.fx;((replace hL:=hL.inQ));clear hF;have hF:=hL.fx;refine bM ?_;((refine a_ _ (by repeat' (first|(with_reducible exact List.nil_sublist _)|(with_reducible apply List.Sublist.cons_cons)|(with_reducible apply List.Sublist.cons))) ?_;clear hL hF));simp only[Act.put,zT])|(refine cN ?_;intro W hL;have hF:=hL.fx;go_wp2;refine ai ?_;(first|(refine bO _ (by rfl) ?_;clear hL hF hC hG;intro ι F hne hC hFF;have hG:=fun n=>(hFF n).fx;clear hFF)|(refine a_ _ (by repeat' (first|(with_reducible exact List.nil_sublist _)|(with_reducible apply List.Sublist.cons_cons)|(with_reducible apply List.Sublist.cons))) ?_;clear hL hF)))));refine ix ?_;clear hC hG;intro W hL;simp only[kfb]at hL;have hF:=hL.fx));rotate_left;(focus (refine dL 6 4 (by decide) (by decide) (by decide) ?_ ?_;(focus (dsimp only[dG];refine cU [0,1,2,3,6,4,5,7] [0,1,2,5] [4,7] [0,2,5] (by kernel_rfl) (List.Sublist.cons _ (List.Sublist.cons_cons _ (List.nil_sublist _))) ?_;clear hF hL;intro ι F hne hC hFF;have hG:=fun n=>(hFF n).fx;clear hFF;(repeat(first|(refine cS ?_)|(refine cF hC ?_;intro K hK;go_big_quiet_op;go_big_quiet_on)|(refine cP ?_;intro K hK;go_big_quiet_op;go_big_quiet_on)|(refine cC ?_;intro W hL;have hF:=hL.fx;simp only[zA,Act.eval];go_at_call 162;(with_reducible refine(HCJ2.out _ (ag HB0.out hL HXB.out) (by(exact hL.has _ List.mem_cons_self))).mono ?_);rintro e W ⟨nm2,aa2,na2,ca2,aw2,nw2,cw2,ar2,nr2,cr2,ak2,nk2,ck2,LN2,j4,vj4,rfl,HN2,HJ4,hb⟩;((replace hL:=hL.join1 0 rfl hb));clear hb hF;simp only[List.eraseIdx_cons_zero,List.eraseIdx_cons_succ,List.cons_append,List.nil_append]at hL;have hF:=hL.fx;((replace hL:=hL.inP));clear hF;have hF:=hL.fx;refine bM ?_;((refine a_ _ (by repeat' (first|(with_reducible exact List.nil_sublist _)|(with_reducible apply List.Sublist.cons_cons)|(with_reducible apply List.Sublist.cons))) ?_;clear hL hF));simp only[Act.put,zT])|(refine cN ?_;intro W hL;have hF:=hL.fx;go_wp2;refine ai ?_;(first|(refine bO _ (by rfl) ?_;clear hL hF hC hG;intro ι F hne hC hFF;have hG:=fun n=>(hFF n).fx;clear hFF)|(refine a_ _ (by repeat' (first|(with_reducible exact List.nil_sublist _)|(with_reducible apply List.Sublist.cons_cons)|(with_reducible apply List.Sublist.cons))) ?_;clear hL hF)))));refine ix ?_;clear hC hG;intro W hL;simp only[kfb]at hL;have hF:=hL.fx));rotate_left;(focus ((dsimp only[dG];refine cU [0,1,2,3,4,5,6,7] [0,1,2,5] [4,6,7] [0,2,5] (by kernel_rfl) (List.Sublist.cons _ (List.Sublist.cons_cons _ (List.nil_sublist _))) ?_;clear hF hL;intro ι F hne hC hFF;have hG:=fun n=>(hFF n).fx;clear hFF;(repeat(first|(refine cS ?_)|(refine cF hC ?_;intro K hK;go_big_quiet_op;go_big_quiet_on)|(refine cP ?_;intro K hK;go_big_quiet_op;go_big_quiet_on)|(refine cC ?_;intro W hL;have hF:=hL.fx;simp only[zA,Act.eval];go_at_call 162;(with_reducible refine(HCJ2.out _ (ag HB0.out hL HXB.out) (by(exact hL.has _ List.mem_cons_self))).mono ?_);rintro e W ⟨nm2,aa2,na2,ca2,aw2,nw2,cw2,ar2,nr2,cr2,ak2,nk2,ck2,LN2,j4,vj4,rfl,HN2,HJ4,hb⟩;((replace hL:=hL.join1 0 rfl hb));clear hb hF;simp only[List.eraseIdx_cons_zero,List.eraseIdx_cons_succ,List.cons_append,List.nil_append]at hL;have hF:=hL.fx;((replace hL:=hL.inP));clear hF;have hF:=hL.fx;refine bM ?_;((refine a_ _ (by repeat' (first|(with_reducible exact List.nil_sublist _)|(with_reducible apply List.Sublist.cons_cons)|(with_reducible apply List.Sublist.cons))) ?_;clear hL hF));simp only[Act.put,zT])|(refine cN ?_;intro W hL;have hF:=hL.fx;go_wp2;refine zB2 ?_;clear hL hF hC hG;intro ι F hne hC hG)));refine ix ?_;clear hC hG;intro W hL;simp only[kfb]at hL;have hF:=hL.fx))))))
    all_goals (
     have Hvj4:=yh HJ4.out.1;have HB6:=HB7.out;rw[HJ4.out.2,HE2.out]at HB6
     cases e2
     ·have HW2:=yh (fun W hB hb=>eb E b j4 vj4 d W hB hbb Hvj4 hb s2)
      cases hw:aW s2.data.toList ((TT tvs).drop j4)with
      |bad er m2=>
       rw[hw]at HW2;replace HB6:=yh (show PL=.bad er m2 by rw[HB6];simp only[Bool.false_eq_true,if_false,hw];rfl);clear hw;go_wp2_with (first|((with_reducible refine zS ?_);clear hL;intro W hL hF)|(go_at_call 144;refine zG ?_;clear hF hL;intro W hL hF;(with_reducible refine(HW2.out _ (ag HB0.out hL HXB.out) (by first|exact hL.has _ (List.mem_cons_of_mem _ List.mem_cons_self)|exact hL.has _ (List.mem_cons_of_mem _ (List.mem_cons_of_mem _ List.mem_cons_self)))).mono ?_);rintro e W ⟨vj2,dj,rfl,hb⟩;(first|(replace hL:=hL.join1 1 rfl hb)|(replace hL:=hL.join1 2 rfl hb));clear hb hF;simp only[List.eraseIdx_cons_zero,List.eraseIdx_cons_succ,List.cons_append,List.nil_append]at hL;have hF:=hL.fx))
       refine⟨rfl,?_⟩;rw[HB6.out];exact⟨vj2,dj,rfl,(hL.perml fun p=>by simp only[List.countP_cons,List.countP_nil,List.countP_append,List.append_nil,List.nil_append,List.length_nil];omega)⟩
      |ok u r5=>
       rw[hw]at HW2;replace HB6:=yh (show PL=.ok (.mk kind [] false [] [] [] [x,y]) r5 by rw[HB6];simp only[Bool.false_eq_true,if_false,hw];rfl);clear hw;go_wp2_with (first|((with_reducible refine zS ?_);clear hL;intro W hL hF)|(go_at_call 144;refine zG ?_;clear hF hL;intro W hL hF;(with_reducible refine(HW2.out _ (ag HB0.out hL HXB.out) (by first|exact hL.has _ (List.mem_cons_of_mem _ List.mem_cons_self)|exact hL.has _ (List.mem_cons_of_mem _ (List.mem_cons_of_mem _ List.mem_cons_self)))).mono ?_);rintro e W ⟨_,j5,vj5,rfl,rfl,HJ5,hb⟩;(first|(replace hL:=hL.join1 1 rfl hb)|(replace hL:=hL.join1 2 rfl hb));clear hb hF;simp only[List.eraseIdx_cons_zero,List.eraseIdx_cons_succ,List.cons_append,List.nil_append]at hL;have hF:=hL.fx))
       refine fa ?_;clear hF hL;intro W hL;simp only[kfb]at hL;have hF:=hL.fx;refine bodyPost_ret (by simp[results,Tryz.results163,go_sem, *];try rfl) rfl ?_;rw[HB6.out,HJ5.out.2];exact rC HN.out HN2.out HJ5.out.1 (by first|exact AW hL|exact AX hL)
     ·replace HB6:=yh (show PL=.ok (.mk kind [] false [] [] [] [x,y]) ((TT tvs).drop j4)from HB6)
      refine jj ?_;clear hF hL;intro W hL;have hF:=hL.fx;go_wp2_with ((with_reducible refine zS ?_);clear hL;intro W hL hF)
      refine fa ?_;clear hF hL;intro W hL;simp only[kfb]at hL;have hF:=hL.fx;refine bodyPost_ret (by simp[results,Tryz.results163,go_sem, *];try rfl) rfl ?_;rw[HB6.out];exact rC HN.out HN2.out Hvj4.out (by first|exact AR hL|exact AU hL|exact AV hL))
end
end Go.Proofs.YtgboffbbpmileaaGreatDoor
