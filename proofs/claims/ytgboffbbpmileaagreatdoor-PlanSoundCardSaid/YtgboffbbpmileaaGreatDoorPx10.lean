/- Lemmas and walks for the law VLawPSound (part 10). -/
import Derived.Test.YtgboffbbpmileaaGreatDoorPx9
import Derived.Test.YtgboffbbpmileaaGreatDoorProg
import Derived.WalkKit
import Derived.Handy
import Derived.Deep.Light
import Derived.WalkSmall
import Derived.StillTailTactics
import Derived.Lib.Hide
import Derived.Deep.LoopGhost
import Derived.Defers
import Derived.Deep.CutBlock
import Derived.Recover
import Derived.Laws.Pointers
import Derived.Shelf.Vars
import Derived.Lib.LaidIn
set_option maxRecDepth 20000
set_option maxHeartbeats 4000000
set_option linter.unusedVariables false
set_option linter.unusedSimpArgs false
namespace Go.Proofs.YtgboffbbpmileaaGreatDoor
open Go Go.RowKit
section
section
variable {rs:List (Int×Nat×List Prt)} {ts:List Tok} {p:PR Nd} {F:List (Int×Nat×List Prt)->List Tok->PR Nd}
theorem tV(hf:∃f,ts.length<=f/\p=(bC f rs ts).bind F)(h:isK 2 ts=false):p=F rs ts:=by
 obtain⟨f,_,hf⟩:=hf
 cases f with
 |zero=>exact hf
 |succ f=>rw[hf,bC,if_neg (by rw[h];decide)];rfl
theorem p_{er m:Nat}(h:isK 2 ts=true)(hf:∃f,ts.length<=f/\p=(bC f rs ts).bind F)(hr:dJ ts=.bad er m):p=.bad er m:=by
 obtain⟨f,h1,hf⟩:=hf
 cases f with
 |zero=>exact absurd (List.eq_nil_of_length_eq_zero (Nat.le_zero.1 h1)) (q_ h)
 |succ f=>rw[hf,bC,if_pos h,hr];rfl
theorem tW{z:Int×Nat×List Prt}{r:List Tok}(h:isK 2 ts=true)(hf:∃f,ts.length<=f/\p=(bC f rs ts).bind F)(hr:dJ ts=.ok z r):∃f,r.length<=f/\p=(bC f (rs++[z]) r).bind F:=by
 obtain⟨f,h1,hf⟩:=hf
 cases f with
 |zero=>exact absurd (List.eq_nil_of_length_eq_zero (Nat.le_zero.1 h1)) (q_ h)
 |succ f=>exact⟨f,by have:=eQ hr;omega,by rw[hf,bC,if_pos h,hr];rfl⟩
end
theorem nn{W0:World}{b d j g o cap:Nat}{tvs:List (Tok×Value)}{w W:World}{vj:Value}{kind:Nat}{nm:ByteArray}{aw ak ar:Option Addr}{nw cw nk ck cr:Nat}{ws:List (List Prt×Value)}{ks:List (Nd×List Value)}{rv:List ((Int×Nat×List Prt)×Value)}{x:Nd}{LC LK LR:List (Nat×Obj)}
  (hx:x=.mk kind nm.data.toList false [] (ws.map (·.1)) [] (ks.map (·.1))/\nk=ks.length) (h1:RowM 1 W0 LC (.slice aw nw cw) (ws.map fun x=>[x.2])) (h2:∀x∈ws,PRm W0 LC x.2 x.1) (h3:RowL 7 41 LK (.slice ak nk ck) nk (ks.flatMap (·.2))) (h4:∀x∈ks,NodeL W0 LC x.1 x.2)
  (h5:RowL 3 94 LR (.slice ar rv.length cr) rv.length (rv.flatMap rsc)) (h6:∀x∈rv,PRm W0 [] x.2 x.1.2.2) (Hvj:AtV g o cap tvs j vj) (hL:Kn [b] w W ((b,.cells #[vj,.int .i64 (d:Int)] 73 (0,0))::((LC++LK)++LR))):
  cR W0 b d g o cap tvs w (.ok (x.setRs (rv.map (·.1))) ((TT tvs).drop j)) (.returned (.agg #[.int .i64 (kind:Int),.string nm,.bool false,.slice none 0 0,.slice aw nw cw,.slice ar rv.length cr,.slice ak nk ck])) W:=by
 obtain⟨rfl,rfl⟩:=hx
 refine⟨nm,none,0,0,aw,nw,cw,ar,rv.length,cr,ak,ks.length,ck,(LC++LK)++LR,j,vj,rfl,yh ?_,yh ⟨Hvj,rfl⟩,hL⟩
 have hl:∀p∈LC,p∈(LC++LK)++LR:=fun p hp=>List.mem_append_left _ (List.mem_append_left _ hp)
 have:=NodeL.mk (W0:=W0) (L:=(LC++LK)++LR) kind nm.data.toList false [] ws rv ks (.slice none 0 0) (.slice aw nw cw) (.slice ar rv.length cr) (.slice ak ks.length ck) RowM.nil (fun x hx=>by cases hx) (h1.mono hl) (fun x hx=>(h2 x hx).mono hl) (RowL.rowM (fun _=>rfl) h5 fun p hp=>List.mem_append_right _ hp) (fun x hx=>(h6 x hx).mono fun p hp=>by cases hp) (iA (L:=(LC++LK)++LR) (fun x hx=>(h4 x hx).mono hl) h3 fun p hp=>List.mem_append_left _ (List.mem_append_right _ hp)) (fun x hx=>(h4 x hx).mono hl)
 rw[cz]at this
 exact this
def tX:Blk->FuncId
 |.sub=>136
 |.grp=>137
 |.iff=>138
 |.whl=>139
 |.unt=>140
 |.for_=>141
 |.case_=>142
theorem wn(bk:Blk):jN (some bk)=.func (.func (tX bk)) #[] #[]:=by cases bk<;>rfl
theorem tY(bk:Blk):∀(a:Array Value) (W:World),(callFunc (tX bk) a).run Tryz.prog W=.ok (.enter (tX bk) a) W:=fun a W=>by cases bk<;>kernel_rfl
theorem o6{W0:World}{g o cap:Nat}{tvs:List (Tok×Value)}(E:PEnv W0 g o cap tvs){d:Nat}(hd:d<20){bo:Blk->Pa Nd}(HB:∀bk,gn W0 g o cap tvs (tX bk) (d+1) (bo bk)):iS W0 g o cap tvs d (fL bo):=by
 intro bk b i v w hB hbb hv hb hne
 obtain⟨PL,hpl⟩:∃p:PR Nd,fL bo bk ((TT tvs).drop i)=p:=⟨_,rfl⟩
 rw[hpl]
 unfold fL at hpl
 rw[bx]at hpl
 have HBJ:=yh (HB bk)
 rw[wn]
 have hcf:=tY bk
 obtain⟨fb,hfb⟩:∃f,tX bk=f:=⟨_,rfl⟩
 rw[hfb]at HBJ hcf |-
 have HNE:=yh hne
 have HPL:=yh hpl.symm
 clear HB hfb hne hpl
 have hi:=hv.out.1
 have hmx:=E.max
 have HB0:=yh hB
 have HXB:=yh (xb hbb)
 have hL:Kn [b] w w [(b,.cells #[v,.int .i64 (d:Int)] 73 (0,0))]:=Kn.one hb
 have HBS:=yh hb
 clear hB hb
 have hF:=hL.fx
 go_enter_defers Tryz.func120,Tryz.ntmps120
 go_upto_region 3 with(first|(go_at_call 143;(with_reducible refine zM (fun W hL=>jQ E b i v d _ (af HB0.out hL HXB.out) hbb hv hL.h1 hd) ?_);rintro W hL e W ⟨c,rfl,hb⟩;replace hL:=hL.jn 1 hb;clear hb;have hF:=hL.fx)|(go_at_call 53;(with_reducible refine zM (fun W hL=>dO E b i v ((d+1:Nat):Int) _ (af HB0.out hL HXB.out) hbb hv hL.h0 HNE.out) ?_);rintro W hL e W ⟨x1,pa1,pn1,pc1,vj1,rfl,HTX1,HVJ1,hb⟩;replace hL:=hL.jn 0 hb;clear hb;have hF:=hL.fx))
 have hi1:=HVJ1.out.1
 have HCJ:=yh (fun W hB hb=>HBJ.out b (i+1) vj1 W hB hbb HVJ1 hb)
 cases hc:bo bk ((TT tvs).drop (i+1))with
 |bad er m2=>
  rw[hc]at HCJ;have HB9:=yh (bB HPL.out hc);clear hc;go_wp2_with (first|(with_reducible refine zS ?_;intro W hL hF)|((with_reducible refine zM (fun W hL=>HCJ.out _ (af HB0.out hL HXB.out) hL.h0) ?_);rintro W hL e W ⟨vj5,dj,rfl,hb⟩;replace hL:=hL.jn 0 hb;clear hb;have hF:=hL.fx))
  refine eI (v:=vj5) (dj:=dj) (show Kn [b] w _ [(b,.cells #[vj5,.int .i64 dj] 73 (0,0)),(c,.cells #[.pointer (some ⟨b,0,none⟩)] 71 (0,0))]from hL.pm) rfl ?_;intro W' dj' hL';show cR W0 b d g o cap tvs w PL _ _;rw[HB9.out];exact⟨vj5,dj',rfl,hL'⟩
 |ok x r=>
  rw[hc]at HCJ;have HB9:=b8 HPL.out hc;clear hc;go_upto_region 4 with(((with_reducible refine zM (fun W hL=>HCJ.out _ (af HB0.out hL HXB.out) hL.h0) ?_);rintro W hL e W ⟨kz,nm,aw,nw,cw,ak,nk,ck,LC,LK,j2,vj2,rfl,HBI,HJ2,hb⟩;replace hL:=hL.jn 0 hb;clear hb;have hF:=hL.fx;obtain⟨W1,rfl⟩:∃W1:World,W1=W:=⟨_,rfl⟩))
  refine zE ?_;intro W hL hF;have Hvj2:=yh HJ2.out.1;have hj2:=HJ2.out.1.1;rw[HJ2.out.2]at HB9;obtain⟨kind,ws,ks,hx,rfl,hr1,hr2,hnk,hr4,hr5⟩:=HBI.out;have HX5:=yh (And.intro hx hnk);have HR1:=yh hr1;have HR2:=yh hr2;have HRK:=yh hr4;have HKS:=yh hr5;have hxk:x.kind=kind:=by rw[hx];rfl
  have hxr:x.rs=[]:=by rw[hx];rfl
  clear hx hr1 hr2 hr4 hr5 hnk;obtain⟨k8,hk8⟩:∃z:Bool,((kind:Int)==8)=z:=⟨_,rfl⟩;rw[hxk,hxr]at HB9;have hL2:Kn [b] w W ((b,.cells #[vj2,.int .i64 ((d+1:Nat):Int)] 73 (0,0))::(W1.heap.size,.cells #[.int .i64 (kind:Int),.string nm,.bool false,.slice none 0 0,.slice aw nw cw,.slice none 0 0,.slice ak nk ck] 41 (0,0))::(c,.cells #[.pointer (some ⟨b,0,none⟩)] 71 (0,0))::(w.heap.size,.cells #[.int .i64 0,.string ⟨#[]⟩,.bool false,.slice none 0 0,.slice none 0 0,.slice none 0 0,.slice none 0 0] 41 (0,0))::(LC++LK)):=hL.pm;clear hL hF;have hL:=hL2;clear hL2;have hF:=hL.fx
  cases k8
  ·rw[if_neg (by rintro rfl;cases hk8)]at HB9
   have HB5:Hid (∃f,((TT tvs).drop j2).length<=f/\PL=(bC f (([]:List ((Int×Nat×List Prt)×Value)).map (·.1)) ((TT tvs).drop j2)).bind fun l r=>.ok (x.setRs l) r):=yh ⟨_,Nat.le_refl _,HB9⟩;clear HB9 hxk hxr;go_wp2;have hjl9:=Hvj2.out.1;go_loopg [] (tvs.length-j2) (fun n wr=>∃(j:Nat) (vj:Value) (rv:List ((Int×Nat×List Prt)×Value)) (ar:Option Addr) (cr:Nat) (LR:List (Nat×Obj)),n=tvs.length-j/\Hid (AtV g o cap tvs j vj)/\Hid (∃f,((TT tvs).drop j).length<=f/\PL=(bC f (rv.map (·.1)) ((TT tvs).drop j)).bind fun l r=>.ok (x.setRs l) r)/\Hid (RowL 3 94 LR (.slice ar rv.length cr) rv.length (rv.flatMap rsc))/\Hid (∀x∈rv,PRm W0 [] x.2 x.1.2.2)/\rv.length<=j/\j<tvs.length/\Kn [b] w wr ((b,.cells #[vj,.int .i64 ((d+1:Nat):Int)] 73 (0,0))::(W1.heap.size,.cells #[.int .i64 (kind:Int),.string nm,.bool false,.slice none 0 0,.slice aw nw cw,.slice ar rv.length cr,.slice ak nk ck] 41 (0,0))::(c,.cells #[.pointer (some ⟨b,0,none⟩)] 71 (0,0))::(w.heap.size,.cells #[.int .i64 0,.string ⟨#[]⟩,.bool false,.slice none 0 0,.slice none 0 0,.slice none 0 0,.slice none 0 0] 41 (0,0))::((LC++LK)++LR)))
   case atStart=>exact⟨j2,vj2,[],none,0,[],rfl,Hvj2,HB5,yh RowL.nil,yh (by simp),Nat.zero_le _,hjl9,by refine Kn.name ?_;clear hL;intro hL;exact hL.pm⟩
   case round=>
    clear hL;obtain⟨j,vj,rv,ar,cr,LR,rfl,Hvj,HF,HRR,HPR,hsz,hjl,hL⟩:=hrel;have hF:=hL.fx;obtain⟨y,pa9,pn9,pc9,hx9,hx29⟩:=E.tok Hvj.out;have HX9:=yh hx9;have HX29:=yh hx29;obtain⟨f09,f19,f29,f39,f49,f59⟩:=tkF y.1.kind y.1.fd y.1.line ⟨y.1.text.toArray⟩ ⟨y.1.plain.toArray⟩ pa9 pn9 pc9;clear hx9 hx29;obtain⟨k2,hk2⟩:∃z:Bool,((y.1.kind:Int)==2)=z:=⟨_,rfl⟩;have HK2:Hid (isK 2 ((TT tvs).drop j)=k2):=yh (by rw[lF E HX9.out 2 (by omega)];exact hk2)
    cases k2
    ·have HS9:=yh (tV HF.out HK2.out)
     go_wp2_with (first|(with_reducible refine zS ?_;intro W hL hF)|(go_at_call 27;refine zC (fun W hL=>aK E b j vj ((d+1:Nat):Int) _ (af HB0.out hL HXB.out) hbb Hvj hL.h0 HX9.out pa9 pn9 pc9 HX29.out) ?_;intro W hL hF))
     refine cZ ?_;clear hF hL;intro W hL;simp only[kfb]at hL;have hF:=hL.fx;simp only[bodyPostD];refine jg (by omega) (show Kn [b] w W ((b,.cells #[vj,.int .i64 ((d+1:Nat):Int)] 73 (0,0))::(c,.cells #[.pointer (some ⟨b,0,none⟩)] 71 (0,0))::(w.heap.size,.cells #[.int .i64 (kind:Int),.string nm,.bool false,.slice none 0 0,.slice aw nw cw,.slice ar rv.length cr,.slice ak nk ck] 41 (0,0))::((LC++LK)++LR))from hL.pm) (by simp) ?_;clear hL hF;intro W hL;have hF:=hL.fx;simp[Leaves,settle,results,Tryz.results120,go_sem,hF];rw[HS9.out];exact nn HX5.out HR1.out HR2.out HRK.out HKS.out HRR.out HPR.out Hvj.out hL.pm
    ·have HNE9:(TT tvs).drop j≠[]:=q_ HK2.out
     have HRD:=yh (fun W hB hb=>lM E b j vj (d+1) W hB hbb Hvj hb HNE9);clear HNE9
     cases hr:dJ ((TT tvs).drop j)with
     |bad er m2=>
      rw[hr]at HRD;have HB9:=yh (p_ HK2.out HF.out hr);clear hr;go_wp2_with (first|(with_reducible refine zS ?_;intro W hL hF)|(go_at_call 27;refine zC (fun W hL=>aK E b j vj ((d+1:Nat):Int) _ (af HB0.out hL HXB.out) hbb Hvj hL.h0 HX9.out pa9 pn9 pc9 HX29.out) ?_;intro W hL hF)|((with_reducible refine ac 7 ?_);refine zE ?_;intro W hL hF;refine bW [0,1,2,3,4,5,6,7] [0,1,2,6] [5,7] [0,2,6] (by kernel_rfl) (by kernel_rfl) (sD (sC sN)) ?_;clear hF hL;intro Qp hQp;replace hQp:=yh hQp;intro ι F hne hC hFF;have hG:=fun n=>(hFF n).fx;clear hFF;(repeat(first|(refine cS ?_)|((first|refine cF hC ?_|refine cP ?_);intro K hK;go_big_quiet_op;go_big_quiet_on)|(refine cE ?_;intro W hL hF;go_at_call 145;(with_reducible refine(HRD.out _ (af HB0.out hL HXB.out) hL.h0).mono ?_);rintro e W ⟨vj5,dj,rfl,hb⟩;replace hL:=hL.jn 0 hb;clear hb hF;have hF:=hL.fx;refine⟨_,rfl,hQp.out _ _ ?_⟩;clear hQp;intro a' ha;simp only[Exit.then,Exit.inBlock];show Leaves _ _ _ _ a'.defers _ _;rw[ha];refine eI (v:=vj5) (dj:=dj) (show Kn [b] w _ [(b,.cells #[vj5,.int .i64 dj] 73 (0,0)),(c,.cells #[.pointer (some ⟨b,0,none⟩)] 71 (0,0))]from hL.pm) rfl ?_;intro W' dj' hL';show cR W0 b d g o cap tvs w PL _ _;rw[HB9.out];exact⟨vj5,dj',rfl,hL'⟩)|(refine cM ?_;intro W hL hF;go_wp2;refine zB2 ?_;clear hL hC hG;intro ι F hne hC hG)));((done))))
     |ok z r2=>
      rw[hr]at HRD;have HF3:=yh (tW HK2.out HF.out hr);have HLN:=yh (eQ hr);clear hr;go_wp2_with (first|(with_reducible refine zS ?_;intro W hL hF)|(go_at_call 27;refine zC (fun W hL=>aK E b j vj ((d+1:Nat):Int) _ (af HB0.out hL HXB.out) hbb Hvj hL.h0 HX9.out pa9 pn9 pc9 HX29.out) ?_;intro W hL hF)|((with_reducible refine ac 7 ?_);refine zX [0,1,2,3,4,5,6,7] [5,7] ?_ (sD (sC sN));clear hF hL;intro ι F hne hC hG;(repeat(first|(refine cS ?_)|((first|refine cF hC ?_|refine cP ?_);intro K hK;go_big_quiet_op;go_big_quiet_on)|(refine cD ?_;intro W hL hF;go_at_call 145;(with_reducible refine(HRD.out _ (af HB0.out hL HXB.out) hL.h0).mono ?_);rintro e W ⟨_,j2,vj2,rfl,⟨x2,pa2,pn2,pc2,hm2,hq2,rfl,hps⟩,HV2,hb⟩;replace hL:=hL.jn 0 hb;clear hb hF;have hF:=hL.fx;refine bK ?_;((refine aQ _ (by repeat' (first|(with_reducible exact List.nil_sublist _)|(with_reducible apply List.Sublist.cons_cons)|(with_reducible apply List.Sublist.cons))) ?_;clear hL hF));simp only[Act.put,zT])|(refine cM ?_;intro W hL hF;at_builtin;(refine ah rfl _ _ 38 38 rfl (_::_::_::_::_::(LC++LK)) LR hL rv.length 1 (rv.flatMap rsc) [.int .i64 z.1,.int .i64 (z.2.1:Int),.slice pa2 pn2 pc2] _ _ HRR.out rfl rfl (fun ho=>eM rfl (fun j u hu=>by rw[Go.WideShapes.add_plain,Nat.zero_add,aO hL m0];simpa using hu) (by intro u hu;simp only[List.mem_cons,List.not_mem_nil,or_false]at hu;rcases hu with rfl|rfl|rfl<;>rfl) (by omega) ho) ?_);intro LP3 a3 c3 W3 hL2 hr3;clear hL hF;have hL:=hL2;clear hL2;simp only[List.append_eq,List.cons_append,List.nil_append]at hL;have hF:=hL.fx;go_wp2;refine zB2 ?_;clear hL hF hC hG;intro ι F hne hC hG)|(refine cM ?_;intro W hL hF;go_wp2;refine ai ?_;(first|(refine bH _ (by rfl) ?_;clear hL hF hC hG;intro ι F hne hC hFF;have hG:=fun n=>(hFF n).fx;clear hFF)|(refine aQ _ (by repeat' (first|(with_reducible exact List.nil_sublist _)|(with_reducible apply List.Sublist.cons_cons)|(with_reducible apply List.Sublist.cons))) ?_;clear hL hF)))));refine zN ?_;clear hC hG;intro W hL hF))
      have hlt9:j<j2:=by have h8:=HLN.out;rw[HV2.out.2]at h8;have:=pT HV2.out.1 h8 hjl;omega
      have hj29:=HV2.out.1.1;go_roundg (tvs.length-j2)
      case measure=>omega
      case rel=>exact⟨j2,vj2,rv++[(z,.slice pa2 pn2 pc2)],a3,c3,LP3,rfl,yh HV2.out.1,yh (by have h8:=HF3.out;rw[HV2.out.2]at h8;simpa using h8),yh (by simpa[rsc]using hr3),yh (bQ HPR.out (by have:=eH E hm2 (L:=[]);rw[hq2,<- hps]at this;exact this)),by simp only[List.length_append,List.length_singleton];omega,hj29,by refine Kn.name ?_;clear hL;intro hL;simp only[List.length_append,List.length_singleton];exact hL.pm⟩
  ·rw[if_pos (by have:=beq_iff_eq.1 hk8;omega)]at HB9
   have HB8:=yh HB9;clear HB9 hxk hxr;have HW1:=yh (fun W hB hb=>dP E b j2 vj2 (d+1) W hB hbb Hvj2 hb ⟨#[102,105]⟩)
   cases hw:aX kFi ((TT tvs).drop j2)with
   |bad er m2=>
    rw[show aX (⟨#[102,105]⟩:ByteArray).data.toList ((TT tvs).drop j2)=_ from hw]at HW1;have HB9:=yh (bB HB8.out hw);clear hw;go_wp2_with (first|(with_reducible refine zS ?_;intro W hL hF)|(go_at_call 144;(with_reducible refine zM (fun W hL=>HW1.out _ (af HB0.out hL HXB.out) hL.h0) ?_);rintro W hL e W ⟨vj5,dj,rfl,hb⟩;replace hL:=hL.jn 0 hb;clear hb;have hF:=hL.fx))
    refine eI (v:=vj5) (dj:=dj) (show Kn [b] w _ [(b,.cells #[vj5,.int .i64 dj] 73 (0,0)),(c,.cells #[.pointer (some ⟨b,0,none⟩)] 71 (0,0))]from hL.pm) rfl ?_;intro W' dj' hL';show cR W0 b d g o cap tvs w PL _ _;rw[HB9.out];exact⟨vj5,dj',rfl,hL'⟩
   |ok u r3=>
    rw[show aX (⟨#[102,105]⟩:ByteArray).data.toList ((TT tvs).drop j2)=_ from hw]at HW1;have HB9:=b8 HB8.out hw;clear hw;go_wp2_with (first|(with_reducible refine zS ?_;intro W hL hF)|(go_at_call 144;(with_reducible refine zM (fun W hL=>HW1.out _ (af HB0.out hL HXB.out) hL.h0) ?_);rintro W hL e W ⟨_,j3,vj3,rfl,rfl,HJ3,hb⟩;replace hL:=hL.jn 0 hb;clear hb;have hF:=hL.fx))
    have Hvj3:=yh HJ3.out.1;rw[HJ3.out.2]at HB9;have HB5:Hid (∃f,((TT tvs).drop j3).length<=f/\PL=(bC f (([]:List ((Int×Nat×List Prt)×Value)).map (·.1)) ((TT tvs).drop j3)).bind fun l r=>.ok (x.setRs l) r):=yh ⟨_,Nat.le_refl _,HB9⟩;clear HB9;have hjl9:=Hvj3.out.1;go_loopg [] (tvs.length-j3) (fun n wr=>∃(j:Nat) (vj:Value) (rv:List ((Int×Nat×List Prt)×Value)) (ar:Option Addr) (cr:Nat) (LR:List (Nat×Obj)),n=tvs.length-j/\Hid (AtV g o cap tvs j vj)/\Hid (∃f,((TT tvs).drop j).length<=f/\PL=(bC f (rv.map (·.1)) ((TT tvs).drop j)).bind fun l r=>.ok (x.setRs l) r)/\Hid (RowL 3 94 LR (.slice ar rv.length cr) rv.length (rv.flatMap rsc))/\Hid (∀x∈rv,PRm W0 [] x.2 x.1.2.2)/\rv.length<=j/\j<tvs.length/\Kn [b] w wr ((b,.cells #[vj,.int .i64 ((d+1:Nat):Int)] 73 (0,0))::(W1.heap.size,.cells #[.int .i64 (kind:Int),.string nm,.bool false,.slice none 0 0,.slice aw nw cw,.slice ar rv.length cr,.slice ak nk ck] 41 (0,0))::(c,.cells #[.pointer (some ⟨b,0,none⟩)] 71 (0,0))::(w.heap.size,.cells #[.int .i64 0,.string ⟨#[]⟩,.bool false,.slice none 0 0,.slice none 0 0,.slice none 0 0,.slice none 0 0] 41 (0,0))::((LC++LK)++LR)))
    case atStart=>exact⟨j3,vj3,[],none,0,[],rfl,Hvj3,HB5,yh RowL.nil,yh (by simp),Nat.zero_le _,hjl9,by refine Kn.name ?_;clear hL;intro hL;exact hL.pm⟩
    case round=>
     clear hL;obtain⟨j,vj,rv,ar,cr,LR,rfl,Hvj,HF,HRR,HPR,hsz,hjl,hL⟩:=hrel;have hF:=hL.fx;obtain⟨y,pa9,pn9,pc9,hx9,hx29⟩:=E.tok Hvj.out;have HX9:=yh hx9;have HX29:=yh hx29;obtain⟨f09,f19,f29,f39,f49,f59⟩:=tkF y.1.kind y.1.fd y.1.line ⟨y.1.text.toArray⟩ ⟨y.1.plain.toArray⟩ pa9 pn9 pc9;clear hx9 hx29;obtain⟨k2,hk2⟩:∃z:Bool,((y.1.kind:Int)==2)=z:=⟨_,rfl⟩;have HK2:Hid (isK 2 ((TT tvs).drop j)=k2):=yh (by rw[lF E HX9.out 2 (by omega)];exact hk2)
     cases k2
     ·have HS9:=yh (tV HF.out HK2.out)
      go_wp2_with (first|(with_reducible refine zS ?_;intro W hL hF)|(go_at_call 27;refine zC (fun W hL=>aK E b j vj ((d+1:Nat):Int) _ (af HB0.out hL HXB.out) hbb Hvj hL.h0 HX9.out pa9 pn9 pc9 HX29.out) ?_;intro W hL hF))
      refine cZ ?_;clear hF hL;intro W hL;simp only[kfb]at hL;have hF:=hL.fx;simp only[bodyPostD];refine jg (by omega) (show Kn [b] w W ((b,.cells #[vj,.int .i64 ((d+1:Nat):Int)] 73 (0,0))::(c,.cells #[.pointer (some ⟨b,0,none⟩)] 71 (0,0))::(w.heap.size,.cells #[.int .i64 (kind:Int),.string nm,.bool false,.slice none 0 0,.slice aw nw cw,.slice ar rv.length cr,.slice ak nk ck] 41 (0,0))::((LC++LK)++LR))from hL.pm) (by simp) ?_;clear hL hF;intro W hL;have hF:=hL.fx;simp[Leaves,settle,results,Tryz.results120,go_sem,hF];rw[HS9.out];exact nn HX5.out HR1.out HR2.out HRK.out HKS.out HRR.out HPR.out Hvj.out hL.pm
     ·have HNE9:(TT tvs).drop j≠[]:=q_ HK2.out
      have HRD:=yh (fun W hB hb=>lM E b j vj (d+1) W hB hbb Hvj hb HNE9);clear HNE9
      cases hr:dJ ((TT tvs).drop j)with
      |bad er m2=>
       rw[hr]at HRD;have HB9:=yh (p_ HK2.out HF.out hr);clear hr;go_wp2_with (first|(with_reducible refine zS ?_;intro W hL hF)|(go_at_call 27;refine zC (fun W hL=>aK E b j vj ((d+1:Nat):Int) _ (af HB0.out hL HXB.out) hbb Hvj hL.h0 HX9.out pa9 pn9 pc9 HX29.out) ?_;intro W hL hF)|((with_reducible refine ac 7 ?_);refine zE ?_;intro W hL hF;refine bW [0,1,2,3,4,5,6,7] [0,1,2,6] [5,7] [0,2,6] (by kernel_rfl) (by kernel_rfl) (sD (sC sN)) ?_;clear hF hL;intro Qp hQp;replace hQp:=yh hQp;intro ι F hne hC hFF;have hG:=fun n=>(hFF n).fx;clear hFF;(repeat(first|(refine cS ?_)|((first|refine cF hC ?_|refine cP ?_);intro K hK;go_big_quiet_op;go_big_quiet_on)|(refine cE ?_;intro W hL hF;go_at_call 145;(with_reducible refine(HRD.out _ (af HB0.out hL HXB.out) hL.h0).mono ?_);rintro e W ⟨vj5,dj,rfl,hb⟩;replace hL:=hL.jn 0 hb;clear hb hF;have hF:=hL.fx;refine⟨_,rfl,hQp.out _ _ ?_⟩;clear hQp;intro a' ha;simp only[Exit.then,Exit.inBlock];show Leaves _ _ _ _ a'.defers _ _;rw[ha];refine eI (v:=vj5) (dj:=dj) (show Kn [b] w _ [(b,.cells #[vj5,.int .i64 dj] 73 (0,0)),(c,.cells #[.pointer (some ⟨b,0,none⟩)] 71 (0,0))]from hL.pm) rfl ?_;intro W' dj' hL';show cR W0 b d g o cap tvs w PL _ _;rw[HB9.out];exact⟨vj5,dj',rfl,hL'⟩)|(refine cM ?_;intro W hL hF;go_wp2;refine zB2 ?_;clear hL hC hG;intro ι F hne hC hG)));((done))))
      |ok z r2=>
       rw[hr]at HRD;have HF3:=yh (tW HK2.out HF.out hr);have HLN:=yh (eQ hr);clear hr;go_wp2_with (first|(with_reducible refine zS ?_;intro W hL hF)|(go_at_call 27;refine zC (fun W hL=>aK E b j vj ((d+1:Nat):Int) _ (af HB0.out hL HXB.out) hbb Hvj hL.h0 HX9.out pa9 pn9 pc9 HX29.out) ?_;intro W hL hF)|((with_reducible refine ac 7 ?_);refine zX [0,1,2,3,4,5,6,7] [5,7] ?_ (sD (sC sN));clear hF hL;intro ι F hne hC hG;(repeat(first|(refine cS ?_)|((first|refine cF hC ?_|refine cP ?_);intro K hK;go_big_quiet_op;go_big_quiet_on)|(refine cD ?_;intro W hL hF;go_at_call 145;(with_reducible refine(HRD.out _ (af HB0.out hL HXB.out) hL.h0).mono ?_);rintro e W ⟨_,j2,vj2,rfl,⟨x2,pa2,pn2,pc2,hm2,hq2,rfl,hps⟩,HV2,hb⟩;replace hL:=hL.jn 0 hb;clear hb hF;have hF:=hL.fx;refine bK ?_;((refine aQ _ (by repeat' (first|(with_reducible exact List.nil_sublist _)|(with_reducible apply List.Sublist.cons_cons)|(with_reducible apply List.Sublist.cons))) ?_;clear hL hF));simp only[Act.put,zT])|(refine cM ?_;intro W hL hF;at_builtin;(refine ah rfl _ _ 38 38 rfl (_::_::_::_::_::(LC++LK)) LR hL rv.length 1 (rv.flatMap rsc) [.int .i64 z.1,.int .i64 (z.2.1:Int),.slice pa2 pn2 pc2] _ _ HRR.out rfl rfl (fun ho=>eM rfl (fun j u hu=>by rw[Go.WideShapes.add_plain,Nat.zero_add,aO hL m0];simpa using hu) (by intro u hu;simp only[List.mem_cons,List.not_mem_nil,or_false]at hu;rcases hu with rfl|rfl|rfl<;>rfl) (by omega) ho) ?_);intro LP3 a3 c3 W3 hL2 hr3;clear hL hF;have hL:=hL2;clear hL2;simp only[List.append_eq,List.cons_append,List.nil_append]at hL;have hF:=hL.fx;go_wp2;refine zB2 ?_;clear hL hF hC hG;intro ι F hne hC hG)|(refine cM ?_;intro W hL hF;go_wp2;refine ai ?_;(first|(refine bH _ (by rfl) ?_;clear hL hF hC hG;intro ι F hne hC hFF;have hG:=fun n=>(hFF n).fx;clear hFF)|(refine aQ _ (by repeat' (first|(with_reducible exact List.nil_sublist _)|(with_reducible apply List.Sublist.cons_cons)|(with_reducible apply List.Sublist.cons))) ?_;clear hL hF)))));refine zN ?_;clear hC hG;intro W hL hF))
       have hlt9:j<j2:=by have h8:=HLN.out;rw[HV2.out.2]at h8;have:=pT HV2.out.1 h8 hjl;omega
       have hj29:=HV2.out.1.1;go_roundg (tvs.length-j2)
       case measure=>omega
       case rel=>exact⟨j2,vj2,rv++[(z,.slice pa2 pn2 pc2)],a3,c3,LP3,rfl,yh HV2.out.1,yh (by have h8:=HF3.out;rw[HV2.out.2]at h8;simpa using h8),yh (by simpa[rsc]using hr3),yh (bQ HPR.out (by have:=eH E hm2 (L:=[]);rw[hq2,<- hps]at this;exact this)),by simp only[List.length_append,List.length_singleton];omega,hj29,by refine Kn.name ?_;clear hL;intro hL;simp only[List.length_append,List.length_singleton];exact hL.pm⟩
theorem kv{W0:World}{g o cap:Nat}{tvs:List (Tok×Value)}(E:PEnv W0 g o cap tvs){d:Nat}(hd:d=20):iS W0 g o cap tvs d (fun _ ts=>full ts):=by
 intro bk b i v w hB hbb hv hb hne
 obtain⟨m,hm⟩:∃m,m=((TT tvs).drop i).length:=⟨_,rfl⟩
 have Hm:=yh hm
 clear hm
 have HEF:=yh (fun W (hB:Below W0.heap.size W0 W) hb=>(gE E b i v d W hB hbb hv hb hd).mono (R':=fun e w'=>lE b d g o cap tvs W (α:=Unit) (fun _ _ _=>False) (.bad 2 m) e w') fun e w' h=>by rw[Hm.out];exact h)
 have HB6:Hid ((full ((TT tvs).drop i):PR Nd)=.bad 2 m):=yh (by rw[Hm.out];rfl)
 clear hne hd
 have HB0:=yh hB
 have HXB:=yh (xb hbb)
 have hL:Kn [b] w w [(b,.cells #[v,.int .i64 (d:Int)] 73 (0,0))]:=Kn.one hb
 have HBS:=yh hb
 clear hB hb
 have hF:=hL.fx
 go_enter_defers Tryz.func120,Tryz.ntmps120
 go_wp2_with (first|(with_reducible refine zS ?_;intro W hL hF)|(go_at_call 143;(with_reducible refine zM (fun W hL=>HEF.out _ (af HB0.out hL HXB.out) hL.h1) ?_);rintro W hL e W ⟨vj3,dj,rfl,hb⟩;replace hL:=hL.jn 1 hb;clear hb;have hF:=hL.fx))
 show cR W0 b d g o cap tvs w (full ((TT tvs).drop i)) _ _
 rw[HB6.out]
 exact⟨vj3,dj,rfl,hL.pm⟩
def Ab(inner:Option (Pa Nd))(x:Nd)(r:List Tok):PR Nd:=match inner with
 |none=>full r
 |some c=>(c r.tail).bind fun x2 r=>.ok (x.addKid x2) r
theorem tZ{so:Pa Nd}{k:Nat}{c:ab}{e:Option ab}{ts:List Tok}{n:Nd}{r:List Tok}(hh:aY so k c e ts=.ok n r):n.kids.length<=100:=by
 obtain⟨a,s,h1,h2⟩:=ag hh
 obtain⟨u,s2,h5,h6⟩:=ag h2
 obtain⟨b,s3,h7,h8⟩:=ag h6
 cases e with
 |none=>injection h8 with h8 h11;subst h8;exact(by decide:2<=100)
 |some c2=>
  obtain⟨u,s4,h11,h12⟩:=ag h8;injection h12 with h12 h13;subst h12;exact(by decide:2<=100)
def Ac(W0:World)(g o cap:Nat)(tvs:List (Tok×Value))(d:Nat)(inner:Option (Pa Nd)):Prop:=match inner with
 |none=>d=20
 |some c=>d<20/\gn W0 g o cap tvs 138 (d+1) c
theorem h_{W0:World}{g o cap:Nat}{tvs:List (Tok×Value)}(E:PEnv W0 g o cap tvs){d:Nat}{so:Pa Nd}{inner:Option (Pa Nd)}(HI:Ac W0 g o cap tvs d inner)(HC:ct W0 g o cap tvs 162 d so):gn W0 g o cap tvs 138 d (fK so inner):=by
 intro b i v w hB hbb hv hb
 obtain⟨PL,hpl⟩:∃p:PR Nd,fK so inner ((TT tvs).drop i)=p:=⟨_,rfl⟩
 rw[hpl]
 unfold fK at hpl
 obtain⟨BT,hbt⟩:∃p:PR Nd,aY so 8 mA none ((TT tvs).drop i)=p:=⟨_,rfl⟩
 rw[hbt]at hpl
 have HCJ:Hid (∀W,Below W0.heap.size W0 W->W.heap[b]? =some (.cells #[v,.int .i64 (d:Nat)] 73 (0,0))->Calls Tryz.prog 163 #[.pointer (some ⟨b,0,none⟩),.int .i64 8,.string ⟨#[116,104,101,110]⟩,.string ⟨#[]⟩] W (fh W0 b d g o cap tvs W BT)):=yh fun W hB hb=>by
  have h:=iB E HC b i v W hB hbb hv hb 8 ⟨#[116,104,101,110]⟩ ⟨#[]⟩;rw[show aY so 8 (⟨#[116,104,101,110]⟩:ByteArray).data.toList (oQ ⟨#[]⟩) ((TT tvs).drop i)=BT from hbt]at h;exact h
 have HCC:=yh HC
 have HKL:Hid (∀x r,BT=.ok x r->x.kids.length<=100):=yh fun x r h=>tZ (hbt.trans h)
 have HII:=yh HI
 clear HI
 clear HC hbt
 have hi:=hv.out.1
 have hmx:=E.max
 have HB0:=yh hB
 have HXB:=yh (xb hbb)
 have hL:Kn [b] w w [(b,.cells #[v,.int .i64 (d:Int)] 73 (0,0))]:=Kn.one hb
 have HBS:=yh hb
 clear hB hb
 have hF:=hL.fx
 cases BT with
 |bad er m2=>
  have HB9:Hid (PL=.bad er m2):=yh hpl.symm;clear hpl;go_enter_defers Tryz.func138,Tryz.ntmps138;go_wp2_with (first|(with_reducible refine zS ?_;intro W hL hF)|(go_at_call 163;(with_reducible refine zM (fun W hL=>HCJ.out _ (af HB0.out hL HXB.out) hL.h1) ?_);rintro W hL e W ⟨vj2,dj,rfl,hb⟩;replace hL:=hL.jn 1 hb;clear hb;have hF:=hL.fx))
  show fh W0 b d g o cap tvs w PL _ _
  rw[HB9.out];exact⟨vj2,dj,rfl,hL.pm⟩
 |ok x r=>
  have HB9:Hid (PL=if bP [mC] r then(so r.tail).bind fun c r=>.ok (x.addKid c) r else if bP [mB] r then Ab inner x r else .ok x r):=yh hpl.symm;clear hpl;go_enter_defers Tryz.func138,Tryz.ntmps138;go_upto_block 0 with((go_at_call 163;(with_reducible refine zM (fun W hL=>HCJ.out _ (af HB0.out hL HXB.out) hL.h1) ?_);rintro W hL e W ⟨kz,nm,aw,nw,cw,ak,nk,ck,LC,LK,j2,vj2,rfl,HBI,HJ2,hb⟩;replace hL:=hL.jn 1 hb;clear hb;have hF:=hL.fx;replace hL:=hL.in0;clear hF;have hF:=hL.fx;obtain⟨W1,rfl⟩:∃W1:World,W1=W:=⟨_,rfl⟩))
  refine zE ?_;intro W hL hF;have Hvj2:=yh HJ2.out.1;have hj2:=HJ2.out.1.1;have HB8:=HB9.out;rw[HJ2.out.2]at HB8;obtain⟨kind,ws,ks,hx,rfl,hr1,hr2,rfl,hr4,hr5⟩:=HBI.out;have hks:ks.length<=100:=by have h:=HKL.out _ _ rfl;rw[hx]at h;simpa[Nd.kids]using h
  have HX5:=yh hx;have HR1:=yh hr1;have HR2:=yh hr2;have HRK:=yh hr4;have HKS:=yh hr5;clear hx hr1 hr2 hr4 hr5 HKL;obtain⟨k1,hk1⟩:∃z:Bool,bP [mC] ((TT tvs).drop j2)=z:=⟨_,rfl⟩;obtain⟨k2,hk2⟩:∃z:Bool,bP [mB] ((TT tvs).drop j2)=z:=⟨_,rfl⟩;rw[hk1,hk2]at HB8;have HK1:Hid (bP ([(⟨#[101,108,115,101]⟩:ByteArray)].map fun z=>z.data.toList) ((TT tvs).drop j2)=k1):=yh hk1;have HK2:Hid (bP ([(⟨#[101,108,105,102]⟩:ByteArray)].map fun z=>z.data.toList) ((TT tvs).drop j2)=k2):=yh hk2;have HQ1:Hid (k1=true->(TT tvs).drop j2≠[]):=yh fun h=>mD (by rw[hk1];exact h)
  have HQ2:Hid (k2=true->(TT tvs).drop j2≠[]):=yh fun h=>mD (by rw[hk2];exact h)
  clear hk1 hk2;have hL2:Kn [b] w W ((b,.cells #[vj2,.int .i64 (d:Int)] 73 (0,0))::(W1.heap.size,.cells #[.int .i64 (kind:Int),.string nm,.bool false,.slice none 0 0,.slice aw nw cw,.slice none 0 0,.slice ak ks.length ck] 41 (0,0))::(w.heap.size,.cells #[.int .i64 0,.string ⟨#[]⟩,.bool false,.slice none 0 0,.slice none 0 0,.slice none 0 0,.slice none 0 0] 41 (0,0))::(LC++LK)):=hL.pm;clear hL hF;have hL:=hL2;clear hL2;have hF:=hL.fx
  cases k1
  ·rw[if_neg (by decide)]at HB8
   clear HQ1
   cases k2
   ·rw[if_neg (by decide)]at HB8
    have HB7:=yh HB8;clear HB8;go_wp2_with (first|(with_reducible refine zS ?_;intro W hL hF)|(go_at_call 86;refine zC (fun W hL=>cj E b j2 vj2 (d:Int) _ (af HB0.out hL HXB.out) hbb Hvj2 hL.h1 _ 0 1 _ [⟨#[101,108,115,101]⟩] _ HK1 (yh rfl) (by omega) (bT (eF hL m0)) (by(exact eG hL m0))) ?_;intro W hL hF;replace hL:=hL.drop1;clear hF;have hF:=hL.fx)|(go_at_call 86;refine zC (fun W hL=>cj E b j2 vj2 (d:Int) _ (af HB0.out hL HXB.out) hbb Hvj2 hL.h1 _ 0 1 _ [⟨#[101,108,105,102]⟩] _ HK2 (yh rfl) (by omega) (bT (eF hL m0)) (by(exact eG hL m0))) ?_;intro W hL hF;replace hL:=hL.drop1;clear hF;have hF:=hL.fx))
    refine cZ ?_;clear hF hL;intro W hL;simp only[kfb]at hL;have hF:=hL.fx;simp only[bodyPostD];simp[Leaves,settle,results,Tryz.results138,go_sem,hF];rw[HB7.out];exact⟨(kind:Int),nm,aw,nw,cw,ak,ks.length,ck,LC,LK,j2,vj2,rfl,yh ⟨kind,ws,ks,HX5.out,rfl,HR1.out,HR2.out,rfl,HRK.out,HKS.out⟩,yh ⟨Hvj2.out,rfl⟩,hL.pm⟩
   ·rw[if_pos rfl]at HB8
    have HNE2:=yh (HQ2.out rfl)
    cases inner with
    |none=>
     have hd:d=20:=HII.out;have HB7:Hid (PL=full ((TT tvs).drop j2)):=yh HB8;clear HB8 HII;obtain⟨m,hm⟩:∃m,m=((TT tvs).drop j2).length:=⟨_,rfl⟩;have Hm:=yh hm;clear hm;have HB6:Hid (PL=.bad 2 m):=yh (by rw[HB7.out,Hm.out];rfl);have HEF:=yh (fun W (hB:Below W0.heap.size W0 W) hb=>(gE E b j2 vj2 d W hB hbb Hvj2 hb hd).mono (R':=fun e w'=>lE b d g o cap tvs W (α:=Unit) (fun _ _ _=>False) (.bad 2 m) e w') fun e w' h=>by rw[Hm.out];exact h);clear hd;go_wp2_with (first|(with_reducible refine zS ?_;intro W hL hF)|(go_at_call 86;refine zC (fun W hL=>cj E b j2 vj2 (d:Int) _ (af HB0.out hL HXB.out) hbb Hvj2 hL.h1 _ 0 1 _ [⟨#[101,108,115,101]⟩] _ HK1 (yh rfl) (by omega) (bT (eF hL m0)) (by(exact eG hL m0))) ?_;intro W hL hF;replace hL:=hL.drop1;clear hF;have hF:=hL.fx)|(go_at_call 86;refine zC (fun W hL=>cj E b j2 vj2 (d:Int) _ (af HB0.out hL HXB.out) hbb Hvj2 hL.h1 _ 0 1 _ [⟨#[101,108,105,102]⟩] _ HK2 (yh rfl) (by omega) (bT (eF hL m0)) (by(exact eG hL m0))) ?_;intro W hL hF;replace hL:=hL.drop1;clear hF;have hF:=hL.fx)|(go_at_call 143;(with_reducible refine zM (fun W hL=>HEF.out _ (af HB0.out hL HXB.out) hL.h0) ?_);rintro W hL e W ⟨vj3,dj,rfl,hb⟩;replace hL:=hL.jn 0 hb;clear hb;have hF:=hL.fx))
     show fh W0 b d g o cap tvs w PL _ _
     rw[HB6.out];exact⟨vj3,dj,rfl,hL.pm⟩
    |some cn=>
     have hd:d<20:=HII.out.1;have HB7:Hid (PL=(cn ((TT tvs).drop j2).tail).bind fun x2 r=>.ok (x.addKid x2) r):=yh HB8;clear HB8;have HB6:=HB7.out;rw[bx]at HB6;go_upto_region 8 with(first|(go_at_call 86;refine zC (fun W hL=>cj E b j2 vj2 (d:Int) _ (af HB0.out hL HXB.out) hbb Hvj2 hL.h1 _ 0 1 _ [⟨#[101,108,115,101]⟩] _ HK1 (yh rfl) (by omega) (bT (eF hL m0)) (by(exact eG hL m0))) ?_;intro W hL hF;replace hL:=hL.drop1;clear hF;have hF:=hL.fx)|(go_at_call 86;refine zC (fun W hL=>cj E b j2 vj2 (d:Int) _ (af HB0.out hL HXB.out) hbb Hvj2 hL.h1 _ 0 1 _ [⟨#[101,108,105,102]⟩] _ HK2 (yh rfl) (by omega) (bT (eF hL m0)) (by(exact eG hL m0))) ?_;intro W hL hF;replace hL:=hL.drop1;clear hF;have hF:=hL.fx)|(go_at_call 143;(with_reducible refine zM (fun W hL=>jQ E b j2 vj2 d _ (af HB0.out hL HXB.out) hbb Hvj2 hL.h0 hd) ?_);rintro W hL e W ⟨c,rfl,hb⟩;replace hL:=hL.jn 0 hb;clear hb;have hF:=hL.fx)|(go_at_call 53;(with_reducible refine zM (fun W hL=>dO E b j2 vj2 ((d+1:Nat):Int) _ (af HB0.out hL HXB.out) hbb Hvj2 hL.h0 HNE2.out) ?_);rintro W hL e W ⟨x1,pa1,pn1,pc1,vj3,rfl,HTX2,HVJ3,hb⟩;replace hL:=hL.jn 0 hb;clear hb;have hF:=hL.fx))
     have hL2:Kn [b] w W ((b,.cells #[vj3,.int .i64 ((d+1:Nat):Int)] 73 (0,0))::(W1.heap.size,.cells #[.int .i64 (kind:Int),.string nm,.bool false,.slice none 0 0,.slice aw nw cw,.slice none 0 0,.slice ak ks.length ck] 41 (0,0))::(c,.cells #[.pointer (some ⟨b,0,none⟩)] 71 (0,0))::(w.heap.size,.cells #[.int .i64 0,.string ⟨#[]⟩,.bool false,.slice none 0 0,.slice none 0 0,.slice none 0 0,.slice none 0 0] 41 (0,0))::(LC++LK)):=hL.pm;clear hL hF;have hL:=hL2;clear hL2;have hF:=hL.fx;have HCJ2:=yh (fun W hB hb=>HII.out.2 b (j2+1) vj3 W hB hbb HVJ3 hb)
     cases hc:cn ((TT tvs).drop (j2+1))with
     |bad er m2=>
      rw[hc]at HCJ2;replace HB6:=yh (bB HB6 hc);clear hc;go_wp2_with (first|(with_reducible refine zS ?_;intro W hL hF)|((with_reducible refine ac 8 ?_);refine zE ?_;intro W hL hF;refine bW [0,1,2,3,4,5,6,7] [0,1,2,6] [5,7] [0,2,6] (by kernel_rfl) (by kernel_rfl) (sD (sC sN)) ?_;clear hF hL;intro Qp hQp;replace hQp:=yh hQp;intro ι F hne hC hFF;have hG:=fun n=>(hFF n).fx;clear hFF;(repeat(first|(refine cS ?_)|((first|refine cF hC ?_|refine cP ?_);intro K hK;go_big_quiet_op;go_big_quiet_on)|(refine cE ?_;intro W hL hF;go_at_call 138;(with_reducible refine(HCJ2.out _ (af HB0.out hL HXB.out) hL.h0).mono ?_);rintro e W ⟨vj5,dj,rfl,hb⟩;replace hL:=hL.jn 0 hb;clear hb hF;have hF:=hL.fx;refine⟨_,rfl,hQp.out _ _ ?_⟩;clear hQp;intro a' ha;simp only[Exit.then,Exit.inBlock];show Leaves _ _ _ _ a'.defers _ _;rw[ha];refine eI (v:=vj5) (dj:=dj) (show Kn [b] w _ [(b,.cells #[vj5,.int .i64 dj] 73 (0,0)),(c,.cells #[.pointer (some ⟨b,0,none⟩)] 71 (0,0))]from hL.pm) rfl ?_;intro W' dj' hL';show fh W0 b d g o cap tvs w PL _ _;rw[HB6.out];exact⟨vj5,dj',rfl,hL'⟩)|(refine cM ?_;intro W hL hF;go_wp2;refine zB2 ?_;clear hL hC hG;intro ι F hne hC hG)));((done))))
     |ok y r2=>
      rw[hc]at HCJ2;replace HB6:=yh (b8 HB6 hc);clear hc;go_wp2_with (first|(with_reducible refine zS ?_;intro W hL hF)|((with_reducible refine ac 8 ?_);refine zX [0,1,2,3,4,5,6,7] [5,7] ?_ (sD (sC sN));clear hF hL;intro ι F hne hC hG;(repeat(first|(refine cS ?_)|((first|refine cF hC ?_|refine cP ?_);intro K hK;go_big_quiet_op;go_big_quiet_on)|(refine cD ?_;intro W hL hF;go_at_call 138;(with_reducible refine(HCJ2.out _ (af HB0.out hL HXB.out) hL.h0).mono ?_);rintro e W ⟨kz2,nm2,aw2,nw2,cw2,ak2,nk2,ck2,LC2,LK2,j5,vj5,rfl,HBI2,HJ5,hb⟩;replace hL:=hL.jn 0 hb;clear hb hF;have hF:=hL.fx;replace hL:=hL.in1c;clear hF;have hF:=hL.fx;refine bK ?_;((refine aQ _ (by repeat' (first|(with_reducible exact List.nil_sublist _)|(with_reducible apply List.Sublist.cons_cons)|(with_reducible apply List.Sublist.cons))) ?_;clear hL hF));simp only[Act.put,zT])|(refine cM ?_;intro W hL hF;at_builtin;(refine ah rfl _ _ 39 39 rfl (_::_::_::_::_::((LC2++LK2)++LC)) LK hL ks.length 1 (ks.flatMap (·.2)) [.int .i64 kz2,.string nm2,.bool false,.slice none 0 0,.slice aw2 nw2 cw2,.slice none 0 0,.slice ak2 nk2 ck2] _ _ HRK.out rfl rfl (fun ho=>bM rfl (fun j u hu=>by rw[Go.WideShapes.add_plain,Nat.zero_add,aO hL m0];simpa using hu) (by intro u hu;simp only[List.mem_cons,List.not_mem_nil,or_false]at hu;rcases hu with rfl|rfl|rfl|rfl|rfl|rfl|rfl<;>rfl) (by omega) ho) ?_);intro LP3 a3 c3 W3 hL2 hr3;clear hL hF;have hL:=hL2;clear hL2;simp only[List.append_eq,List.cons_append,List.nil_append]at hL;have hF:=hL.fx;go_wp2;refine zB2 ?_;clear hL hF hC hG;intro ι F hne hC hG)|(refine cM ?_;intro W hL hF;go_wp2;refine ai ?_;(first|(refine bH _ (by rfl) ?_;clear hL hF hC hG;intro ι F hne hC hFF;have hG:=fun n=>(hFF n).fx;clear hFF)|(refine aQ _ (by repeat' (first|(with_reducible exact List.nil_sublist _)|(with_reducible apply List.Sublist.cons_cons)|(with_reducible apply List.Sublist.cons))) ?_;clear hL hF)))));refine zN ?_;clear hC hG;intro W hL hF))
      refine cZ ?_;clear hF hL;intro W hL;simp only[kfb]at hL;have hF:=hL.fx;simp only[bodyPostD];refine jg (by omega) (show Kn [b] w W ((b,.cells #[vj5,.int .i64 ((d+1:Nat):Int)] 73 (0,0))::(c,.cells #[.pointer (some ⟨b,0,none⟩)] 71 (0,0))::(w.heap.size,.cells #[.int .i64 (kind:Int),.string nm,.bool false,.slice none 0 0,.slice aw nw cw,.slice none 0 0,.slice a3 (ks.length+1) c3] 41 (0,0))::(((LC2++LK2)++LC)++LP3))from hL.pm) (by simp) ?_;clear hL hF;intro W hL;have hF:=hL.fx;simp[Leaves,settle,results,Tryz.results138,go_sem,hF];rw[HB6.out,HJ5.out.2];refine nj (d:=d) HX5.out HR1.out HR2.out HKS.out HBI2.out.node hr3 HJ5.out.1 ?_;exact hL.pm
  ·rw[if_pos rfl,bx]at HB8
   have HNE2:=yh (HQ1.out rfl);have HB7:=yh HB8;clear HB8;go_upto_region 4 with(first|(go_at_call 86;refine zC (fun W hL=>cj E b j2 vj2 (d:Int) _ (af HB0.out hL HXB.out) hbb Hvj2 hL.h1 _ 0 1 _ [⟨#[101,108,115,101]⟩] _ HK1 (yh rfl) (by omega) (bT (eF hL m0)) (by(exact eG hL m0))) ?_;intro W hL hF;replace hL:=hL.drop1;clear hF;have hF:=hL.fx)|(go_at_call 53;(with_reducible refine zM (fun W hL=>dO E b j2 vj2 (d:Int) _ (af HB0.out hL HXB.out) hbb Hvj2 hL.h0 HNE2.out) ?_);rintro W hL e W ⟨x1,pa1,pn1,pc1,vj3,rfl,HTX2,HVJ3,hb⟩;replace hL:=hL.jn 0 hb;clear hb;have hF:=hL.fx))
   have HCJ2:=yh (fun W hB hb=>HCC.out b (j2+1) vj3 W hB hbb HVJ3 hb)
   cases hc:so ((TT tvs).drop (j2+1))with
   |bad er m2=>
    rw[hc]at HCJ2;have HB6:=yh (bB HB7.out hc);clear hc;go_wp2_with (first|(with_reducible refine zS ?_;intro W hL hF)|((with_reducible refine ac 4 ?_);refine zE ?_;intro W hL hF;refine bW [0,1,2,3,4,5,6,7] [0,1,2,6] [5,7] [0,2,6] (by kernel_rfl) (by kernel_rfl) (sD (sC sN)) ?_;clear hF hL;intro Qp hQp;replace hQp:=yh hQp;intro ι F hne hC hFF;have hG:=fun n=>(hFF n).fx;clear hFF;(repeat(first|(refine cS ?_)|((first|refine cF hC ?_|refine cP ?_);intro K hK;go_big_quiet_op;go_big_quiet_on)|(refine cE ?_;intro W hL hF;go_at_call 162;(with_reducible refine(HCJ2.out _ (af HB0.out hL HXB.out) hL.h0).mono ?_);rintro e W ⟨vj5,dj,rfl,hb⟩;replace hL:=hL.jn 0 hb;clear hb hF;have hF:=hL.fx;refine⟨_,rfl,hQp.out _ _ ?_⟩;clear hQp;intro a' ha;simp only[Exit.then,Exit.inBlock];show Leaves _ _ _ _ a'.defers _ _;rw[ha];show fh W0 b d g o cap tvs w PL _ _;rw[HB6.out];exact⟨vj5,dj,rfl,hL.pm⟩)|(refine cM ?_;intro W hL hF;go_wp2;refine zB2 ?_;clear hL hC hG;intro ι F hne hC hG)));((done))))
   |ok y r2=>
    rw[hc]at HCJ2;have HB6:=yh (b8 HB7.out hc);clear hc;go_wp2_with (first|(with_reducible refine zS ?_;intro W hL hF)|((with_reducible refine ac 4 ?_);refine zX [0,1,2,3,4,5,6,7] [5,7] ?_ (sD (sC sN));clear hF hL;intro ι F hne hC hG;(repeat(first|(refine cS ?_)|((first|refine cF hC ?_|refine cP ?_);intro K hK;go_big_quiet_op;go_big_quiet_on)|(refine cD ?_;intro W hL hF;go_at_call 162;(with_reducible refine(HCJ2.out _ (af HB0.out hL HXB.out) hL.h0).mono ?_);rintro e W ⟨nm2,aa2,na2,ca2,aw2,nw2,cw2,ar2,nr2,cr2,ak2,nk2,ck2,LN,j5,vj5,rfl,HN,HJ5,hb⟩;replace hL:=hL.jn 0 hb;clear hb hF;have hF:=hL.fx;replace hL:=hL.in1;clear hF;have hF:=hL.fx;refine bK ?_;((refine aQ _ (by repeat' (first|(with_reducible exact List.nil_sublist _)|(with_reducible apply List.Sublist.cons_cons)|(with_reducible apply List.Sublist.cons))) ?_;clear hL hF));simp only[Act.put,zT])|(refine cM ?_;intro W hL hF;at_builtin;(refine ah rfl _ _ 39 39 rfl (_::_::_::_::(LN++LC)) LK hL ks.length 1 (ks.flatMap (·.2)) [.int .i64 (y.kind:Int),.string nm2,.bool y.neg,.slice aa2 na2 ca2,.slice aw2 nw2 cw2,.slice ar2 nr2 cr2,.slice ak2 nk2 ck2] _ _ HRK.out rfl rfl (fun ho=>bM rfl (fun j u hu=>by rw[Go.WideShapes.add_plain,Nat.zero_add,aO hL m0];simpa using hu) (by intro u hu;simp only[List.mem_cons,List.not_mem_nil,or_false]at hu;rcases hu with rfl|rfl|rfl|rfl|rfl|rfl|rfl<;>rfl) (by omega) ho) ?_);intro LP3 a3 c3 W3 hL2 hr3;clear hL hF;have hL:=hL2;clear hL2;simp only[List.append_eq,List.cons_append,List.nil_append]at hL;have hF:=hL.fx;go_wp2;refine zB2 ?_;clear hL hF hC hG;intro ι F hne hC hG)|(refine cM ?_;intro W hL hF;go_wp2;refine ai ?_;(first|(refine bH _ (by rfl) ?_;clear hL hF hC hG;intro ι F hne hC hFF;have hG:=fun n=>(hFF n).fx;clear hFF)|(refine aQ _ (by repeat' (first|(with_reducible exact List.nil_sublist _)|(with_reducible apply List.Sublist.cons_cons)|(with_reducible apply List.Sublist.cons))) ?_;clear hL hF)))));refine zN ?_;clear hC hG;intro W hL hF))
    refine cZ ?_;clear hF hL;intro W hL;simp only[kfb]at hL;have hF:=hL.fx;simp only[bodyPostD];simp[Leaves,settle,results,Tryz.results138,go_sem,hF];rw[HB6.out,HJ5.out.2];exact nj HX5.out HR1.out HR2.out HKS.out HN.out hr3 HJ5.out.1 hL.pm
section
variable {W0:World} {g o cap:Nat} {tvs:List (Tok×Value)} (E:PEnv W0 g o cap tvs)
theorem jT(E:PEnv W0 g o cap tvs){d k:Nat}(hc:ct W0 g o cap tvs 105 d (lev k).cmd):ct W0 g o cap tvs 26 d (cK (lev k).cmd):=
 yD E (it:=item (pipe (lev k).cmd)) (pK (lw (jB k).1)) (yB E (lw (jB k).1) (yA E (jB k).1 hc))
theorem jU(E:PEnv W0 g o cap tvs){d k:Nat}(hc:ct W0 g o cap tvs 105 d (lev k).cmd):ct W0 g o cap tvs 162 d (eD (lev k).cmd):=yE E (li:=cK (lev k).cmd) (jT E hc)
theorem xL(E:PEnv W0 g o cap tvs):∀(k d:Nat),d+k=20->ct W0 g o cap tvs 105 d (lev k).cmd/\gn W0 g o cap tvs 138 d (lev k).conds/\iS W0 g o cap tvs d (lev k).comp
 |0,d,hd=>by
  obtain rfl:d=20:=by omega
  have h1:iS W0 g o cap tvs 20 (lev 0).comp:=kv E rfl;have h2:ct W0 g o cap tvs 105 20 (lev 0).cmd:=kS E (inner:=none) h1 (ku E rfl);exact⟨h2,h_ E (inner:=none) rfl (jU E (k:=0) h2),h1⟩
 |k+1,d,hd=>by
  obtain⟨i1,i2,i3⟩:=xL E k (d+1) (by omega);have hl:=jT E i1;have hs:=jU E i1;have h1:iS W0 g o cap tvs d (lev (k+1)).comp:=o6 E (by omega) (bo:=kp (cK (lev k).cmd) (eD (lev k).cmd) (lev k).conds) (fun bk=>by
   cases bk
   ·exact oR E hs
   ·exact v_ E hs
   ·exact i2
   ·exact v7 E hs
   ·exact v8 E hs
   ·exact yN E hs
   ·exact tE E (sI (lx (jB k).1)) (z_ E hl))
  have h2:ct W0 g o cap tvs 105 d (lev (k+1)).cmd:=kS E (inner:=some (lev k).comp) h1 (o5 E (by omega) i3);exact⟨h2,h_ E (inner:=some (lev k).conds) ⟨by omega,i2⟩ (jU E (k:=k+1) h2),h1⟩
end
theorem nq(x:Value)(W:World):(Instr.typeAssert (.iface 70 x) 20 70 true).run Tryz.prog W=.ok (.tuple #[x,.bool true]) W:=by kernel_rfl
theorem t6(bo be bl:Nat)(kz:Int)(ng:Bool)(nm:ByteArray)(aa:Option Addr)(na:Nat)(ca:Nat)(aw:Option Addr)(nw:Nat)(cw:Nat)(ar:Option Addr)(nr:Nat)(cr:Nat)(ak:Option Addr)(nk:Nat)(ck:Nat)(e0 l0 k m:Int)(older:List PanicEntry)(w:World)(hL:Kn [bo,be,bl] w w [(bo,.cells #[.int .i64 kz,.string nm,.bool ng,.slice aa na ca,.slice aw nw cw,.slice ar nr cr,.slice ak nk ck] 41 (0,0)),(be,.cells #[.int .i64 e0] 26 (0,0)),(bl,.cells #[.int .i64 l0] 3 (0,0))]):
  CallsD Tryz.prog 25 #[.pointer (some ⟨bo,0,none⟩),.pointer (some ⟨be,0,none⟩),.pointer (some ⟨bl,0,none⟩)] (.panicking ({v:=.iface 70 (.agg #[.int .i64 k,.int .i64 m]),recovered:=false}::older)) w fun e u' w'=>
   e=.returned (.tuple #[])/\u'=.panicking ({v:=.iface 70 (.agg #[.int .i64 k,.int .i64 m]),recovered:=true}::older)/\Kn [bo,be,bl] w w' [(bo,.cells #[.int .i64 0,.string ⟨#[]⟩,.bool false,.slice none 0 0,.slice none 0 0,.slice none 0 0,.slice none 0 0] 41 (0,0)),(be,.cells #[.int .i64 k] 26 (0,0)),(bl,.cells #[.int .i64 m] 3 (0,0))]:=by
 refine callsD_of_wpS Tryz.func25 rfl fun c₀ cs hu=>?_
 apply wpS_seq
 apply wpS_region
 simp[wpOpsS,go_sem,recoverD,hu,Tryz.ntmps25,Exit.thenS]
 refine wpS_of_wp ?_
 have hF:=hL.fx
 generalize hR:(fun(e:Exit) (a':Act) (w':World)=>bodyPostS _ _ _ _ _ e a' _ w')=Q2
 have key:∀(a':Act) (w':World),a'.defers=[]->Kn [bo,be,bl] w w' [(bo,.cells #[.int .i64 0,.string ⟨#[]⟩,.bool false,.slice none 0 0,.slice none 0 0,.slice none 0 0,.slice none 0 0] 41 (0,0)),(be,.cells #[.int .i64 k] 26 (0,0)),(bl,.cells #[.int .i64 m] 3 (0,0))]->Q2 .normal a' w':=by
  intro a' w' h1 h2;rw[<- hR];refine⟨h1,_,rfl,.tuple #[],?_,rfl,rfl,h2⟩;simp[results,Tryz.results25,go_sem]
 have HK:=yh key
 clear hR key
 clear hu
 obtain⟨pz,hpz⟩:∃pz,Value.iface 70 (.agg #[.int .i64 k,.int .i64 m])=pz:=⟨_,rfl⟩
 rw[hpz]
 show Code.wp _ _ _ {tmps:=#[.pointer (some ⟨bo,0,none⟩),.pointer (some ⟨be,0,none⟩),.pointer (some ⟨bl,0,none⟩),undef,undef,undef,pz,undef,undef,undef,undef,undef,undef,undef,undef,undef,undef],defers:=[]} _
 subst hpz
 have hta:=nq (.agg #[.int .i64 k,.int .i64 m])
 go_wp2_with ((with_reducible refine ac 7 ?_);refine zX [0,1,2,3,4,5,6,7] [7] ?_ (sC (sD (sD (sD sR))));clear hF hL;intro ι F hne hC hG;(repeat(first|((first|refine cF hC ?_|refine cP ?_);intro K hK;go_big_quiet_op;go_big_quiet_on)|(refine cN ?_;intro W hL;(try simp only[kfb]at hL);have hF:=hL.fx;go_wp2;refine ai ?_;(first|(refine bH _ (by rfl) ?_;clear hL hF hC hG;intro ι F hne hC hFF;have hG:=fun n=>(hFF n).fx;clear hFF)|(refine aQ _ (by repeat' (first|(with_reducible exact List.nil_sublist _)|(with_reducible apply List.Sublist.cons_cons))) ?_;clear hL hF)))));refine zN ?_;clear hC hG;intro W hL hF)
 exact HK.out _ _ rfl hL.drop1
theorem Ad(bo be bl:Nat)(w:World):
  CallsD Tryz.prog 25 #[.pointer (some ⟨bo,0,none⟩),.pointer (some ⟨be,0,none⟩),.pointer (some ⟨bl,0,none⟩)] .returning w fun e u' w'=>e=.returned (.tuple #[])/\u'=.returning/\w'=w:=by
 refine callsD_of_wpS Tryz.func25 rfl fun c₀ cs hu=>?_
 apply wpS_seq
 apply wpS_region
 simp[wpOpsS,go_sem,recoverD,hu,Tryz.ntmps25,Exit.thenS]
 refine wpS_of_wp ?_
 generalize hR:(fun(e:Exit) (a':Act) (w':World)=>bodyPostS _ _ _ _ _ e a' _ w')=Q2
 have key:∀(a':Act),a'.defers=[]->Q2 .normal a' w:=by
  intro a' h1;rw[<- hR];refine⟨h1,c₀.mode,?_,.tuple #[],?_,rfl,hu,rfl⟩
  ·cases c₀;rfl
  ·simp[results,Tryz.results25,go_sem]
 have HK:=yh key
 clear hR key hu
 show Code.wp _ _ _ {tmps:=#[.pointer (some ⟨bo,0,none⟩),.pointer (some ⟨be,0,none⟩),.pointer (some ⟨bl,0,none⟩),undef,undef,undef,.nilIface,undef,undef,undef,undef,undef,undef,undef,undef,undef,undef],defers:=[]} _
 go_wp2
 exact HK.out _ rfl
def TkS(x:Tok):Prop:=x.kind≠4/\x.text.length<=2/\x.plain.length<=sz x.parts
theorem nt(ps:List Prt):(bn ps).length<=sz ps:=by
 unfold bn
 split
 ·rename_i p
  split
  ·simp_all[pY]
  grind
 grind
theorem t7{l r:ab}{fd:Int}{n0 n m:Nat}{x:Tok}(h:ioS l fd n0 n=.tok x r m):TkS x:=by
 unfold ioS at h
 split at h<;>(injection h with h1;subst h1;refine⟨by simp[ioT],?_,by simp[ioT]⟩;grind[ioT])
theorem wo{c:UInt8}{t r:ab}{n m:Nat}{x:Tok}(h:ba c t n=.tok x r m):TkS x:=by
 unfold ba at h
 split at h
 ·cases h
 split at h
 ·cases h
 split at h
 ·injection h with h1;subst h1;exact⟨by simp,by simp,by simp⟩
 split at h
 ·split at h<;>(injection h with h1;subst h1;exact⟨by simp[opT],by simp[opT],by simp[opT]⟩)
 split at h
 ·injection h with h1;subst h1;exact⟨by simp[opT],by simp[opT],by simp[opT]⟩
 split at h
 ·exact t7 h
 split at h
 ·cases h
 split at h
 ·cases h
 ·rename_i ps r2 m2 _
  split at h
  ·split at h
   ·exact t7 h
   ·injection h with h1;subst h1;exact⟨by simp,by simp,nt _⟩
  ·injection h with h1;subst h1;exact⟨by simp,by simp,nt _⟩
theorem lQ:∀(d:Nat) (l:ab) (n:Nat),l.length<=d->∀t∈(cQ l n).1,TkS t
 |0,l,n,hl=>by
  grind[df]
 |d+1,[],n,hl=>by rw[df];simp
 |d+1,c::t,n,hl=>by
  have hlt:=di c t n;rw[bO]
  cases hs:ba c t n with
  |bad m=>simp
  |skip r m=>
   rw[hs]at hlt;simp only[Step.rest,List.length_cons]at hlt hl;exact lQ d r m (by omega)
  |tok x r m=>
   rw[hs]at hlt;simp only[Step.rest,List.length_cons]at hlt hl;intro z hz;rcases List.mem_cons.1 hz with rfl|hz
   ·exact wo hs
   ·exact lQ d r m (by omega) z hz
structure LexT (ts:List Tok):Prop where
 pos:0<ts.length
 max:ts.length<=100000
 word:∀x∈ts,x.text.length<=100000/\x.plain.length<=100000/\x.parts.length<=100000/\∀p∈x.parts,p.t.length<=100000
 last:∀(i:Nat) x,ts[i]? =some x->(x.kind=4↔i+1=ts.length)
 fin:∀x,ts[ts.length-1]? =some x->x.text=[]/\x.plain=[]
theorem AL{s:ab}{ts:List Tok}(hs:s.length<=8000)(h:lex s=.ok ts):LexT ts:=by
 obtain⟨xs,m,h1,rfl,h3⟩:=lP hs h
 have h4:=lQ s.length s 1 (Nat.le_refl _)
 have h5:=jS s.length s 1 (Nat.le_refl _)
 rw[h1]at h4 h5
 refine⟨by simp,by grind,fun x hx=>?_,fun i x hx=>?_,fun x hx=>?_⟩
 ·rcases List.mem_append.1 hx with hx|hx
  ·obtain⟨_,h6,h7⟩:=h4 x hx
   have h8:=h5 x hx;refine⟨by omega,by omega,?_,fun p hp=>?_⟩
   ·grind[sz]
   ·have:=pY hp;omega
  grind[d9]
 ·have hi:=(List.getElem?_eq_some_iff.1 hx).1
  rw[List.length_append,List.length_singleton]at hi |-
  by_cases hl:i<xs.length
  ·rw[List.getElem?_append_left hl]at hx
   have:=(h4 x (List.mem_of_getElem? hx)).1;omega
  grind[d9]
 grind[d9]
inductive Sm (N:Nat):Nd->Prop
 |mk (k:Nat) (n:ab) (g:Bool) (a:List (ab×List Prt)) (w:List (List Prt)) (r:List (Int×Nat×List Prt)) (l:List Nd) (h1:a.length<=N) (h2:∀x∈a,x.2.length<=N) (h3:w.length<=N) (h4:∀ps∈w,ps.length<=N) (h5:r.length<=N) (h6:∀x∈r,x.2.2.length<=N) (h7:l.length<=N) (h8:∀y∈l,Sm N y):Sm N (.mk k n g a w r l)
def Tk(N:Nat)(ts:List Tok):Prop:=ts.length<=N/\∀t∈ts,t.parts.length<=N
theorem Tk.suf{N:Nat}{ts r:List Tok}(h:Tk N ts)(hs:r <:+ ts):Tk N r:=⟨Nat.le_trans hs.length_le h.1,fun t ht=>h.2 t (hs.subset ht)⟩
theorem Tk.tl{N:Nat}{t:Tok}{r:List Tok}(h:Tk N (t::r)):Tk N r:=h.suf ⟨[t],rfl⟩
section
variable {N:Nat}
def Sq(N:Nat)(P:Pa Nd):Prop:=∀ts,Tk N ts->∀a r,P ts=.ok a r->Sm (N+3) a/\Tk N r
theorem iT{k:Nat}{n:ab}{g:Bool}{w:List (List Prt)}{l:List Nd}(hw:w.length<=N+3)(hw2:∀ps∈w,ps.length<=N)(hl:l.length<=N+3)(h:∀y∈l,Sm (N+3) y):Sm (N+3) (.mk k n g [] w [] l):=
 .mk k n g [] w [] l (Nat.zero_le _) (fun x hx=>by cases hx) hw (fun ps hp=>by grind) (Nat.zero_le _) (fun x hx=>by cases hx) hl h
theorem o7{k:Nat}{n:ab}{g:Bool}{x:Nd}(h:Sm (N+3) x):Sm (N+3) (.mk k n g [] [] [] [x]):=iT (Nat.zero_le _) (fun x hx=>by cases hx) (by simp) (fun y hy=>by grind)
theorem o8{k:Nat}{n:ab}{g:Bool}{x z:Nd}(h:Sm (N+3) x)(h2:Sm (N+3) z):Sm (N+3) (.mk k n g [] [] [] [x,z]):=iT (Nat.zero_le _) (fun x hx=>by cases hx) (by simp) (fun y hy=>by
 grind)
theorem dV{s:ab}{ts:List Tok}(ht:Tk N ts){u:Unit}{r:List Tok}(h:aX s ts=.ok u r):Tk N r:=by
 unfold aX at h
 split at h
 ·injection h with h1 h2
  rw[<- h2];exact ht.suf (am ts)
 ·cases h
theorem ji{ts:List Tok}(ht:Tk N ts){ps:List Prt}{r:List Tok}(h:bS ts=.ok ps r):ps.length<=N/\Tk N r/\r.length+1<=ts.length:=by
 cases ts with
 |nil=>cases h
 |cons t u=>
  simp only[bS]at h;split at h
  ·injection h with h1 h2
   subst h1 h2;exact⟨ht.2 t List.mem_cons_self,ht.tl,by simp⟩
  ·cases h
theorem fm{α:Type}{P:α->Prop}{l:List α}{x:α}(hl:∀y∈l,P y)(hx:P x):∀y∈l++[x],P y:=fun y hy=>by
 grind
theorem nu{cmd:Pa Nd}(h:Sq N cmd):∀(f:Nat) (l:List Nd) (ts:List Tok),Tk N ts->(∀n∈l,Sm (N+3) n)->∀a r,dy cmd f l ts=.ok a r->(∀n∈a,Sm (N+3) n)/\Tk N r/\a.length<=l.length+f
 |0,l,ts,ht,hl,a,r,e=>by cases e;grind
 |f+1,l,ts,ht,hl,a,r,e=>by
  unfold dy at e;split at e
  ·obtain⟨x,s,h1,h2⟩:=ag e
   obtain⟨h3,h4⟩:=h _ (ht.suf ((aq _).trans (am ts))) _ _ h1;obtain⟨h5,h6,h7⟩:=nu h f _ s h4 (fm hl h3) a r h2;grind
  grind
theorem wu{cmd:Pa Nd}(h:Sq N cmd):Sq N (pipe cmd):=fun ts ht a r e=>by
 obtain⟨x,s,h1,h2⟩:=ag e
 obtain⟨h3,h4⟩:=h _ (by split;exact ht.suf (am ts);exact ht) _ _ h1
 obtain⟨l,s2,h5,h6⟩:=ag h2
 obtain⟨h7,h8,h9⟩:=nu h _ _ s h4 (fun n hn=>by grind) _ _ h5
 injection h6 with h6 h10
 subst h6 h10
 exact⟨iT (Nat.zero_le _) (fun x hx=>by cases hx) (by have:=h4.1;grind) h7,h8⟩
theorem ny{pi:Pa Nd}(h:Sq N pi):∀(f:Nat) (n:Nd) (ts:List Tok),Tk N ts->Sm (N+3) n->∀a r,dx pi f n ts=.ok a r->Sm (N+3) a/\Tk N r
 |0,n,ts,ht,hn,a,r,e=>by cases e;grind
 |f+1,n,ts,ht,hn,a,r,e=>by
  unfold dx at e;split at e
  ·obtain⟨x,s,h1,h2⟩:=ag e
   obtain⟨h3,h4⟩:=h _ (ht.suf ((aq _).trans (am ts))) _ _ h1;exact ny h f _ s h4 (o8 hn h3) a r h2
  grind
theorem ww{pi:Pa Nd}(h:Sq N pi):Sq N (item pi):=fun ts ht a r e=>by
 obtain⟨x,s,h1,h2⟩:=ag e
 obtain⟨h3,h4⟩:=h _ ht _ _ h1
 grind[ny]
theorem wy{ts:List Tok}{n:Nd}(h:Sm (N+3) n):Sm (N+3) (back ts n):=by
 grind[back,o7]
theorem nB{it:Pa Nd}(h:Sq N it):∀(f:Nat) (l:List Nd) (ts:List Tok),Tk N ts->(∀n∈l,Sm (N+3) n)->∀a r,ci it f l ts=.ok a r->(∀n∈a,Sm (N+3) n)/\Tk N r/\a.length<=l.length+f
 |0,l,ts,ht,hl,a,r,e=>by cases e;grind
 |f+1,l,ts,ht,hl,a,r,e=>by
  unfold ci at e;split at e
  ·cases e;exact⟨hl,ht.suf (aq ts),by omega⟩
  ·obtain⟨x,s,h1,h2⟩:=ag e
   obtain⟨h3,h4⟩:=h _ (ht.suf (aq ts)) _ _ h1;have h5:∀n∈l++[back s x],Sm (N+3) n:=fm hl (wy h3);split at h2
   ·obtain⟨h6,h7,h8⟩:=nB h f _ _ (h4.suf (am s)) h5 a r h2
    grind
   ·grind
theorem nC{cmd:Pa Nd}(h:Sq N cmd){ts:List Tok}(ht:Tk N ts){l:List Nd}{r:List Tok}(e:gh cmd ts=.ok l r):(∀n∈l,Sm (N+3) n)/\Tk N r/\l.length<=N+1:=by
 obtain⟨h1,h2,h3⟩:=nB (ww (wu h)) _ _ ts ht (fun n hn=>by cases hn) _ _ e
 exact⟨h1,h2,by have:=ht.1;grind⟩
theorem qa{cmd:Pa Nd}(h:Sq N cmd):Sq N (cK cmd):=fun ts ht a r e=>by
 obtain⟨l,s,h1,h2⟩:=ag e
 grind[nC,iT]
theorem lR{cmd:Pa Nd}(h:Sq N cmd):Sq N (eD cmd):=fun ts ht a r e=>by
 obtain⟨n,s,h1,h2⟩:=ag e
 obtain⟨h3,h5⟩:=qa h ts ht _ _ h1
 split at h2
 ·cases h2
 grind
theorem kU{so:Pa Nd}(h:Sq N so)(k:Nat)(c:ab):Sq N (closed so k c):=fun ts ht a r e=>by
 obtain⟨x,s,h1,h2⟩:=ag e
 obtain⟨h3,h4⟩:=h _ ht _ _ h1
 obtain⟨u,s2,h5,h6⟩:=ag h2
 grind[o7,dV]
theorem jV{so:Pa Nd}(h:Sq N so){k:Nat}{c:ab}{e:Option ab}{ts:List Tok}(ht:Tk N ts){n:Nd}{r:List Tok}(hh:aY so k c e ts=.ok n r):∃a b,n=.mk k [] false [] [] [] [a,b]/\Sm (N+3) a/\Sm (N+3) b/\Tk N r:=by
 obtain⟨a,s,h1,h2⟩:=ag hh
 obtain⟨h3,h4⟩:=h _ ht _ _ h1
 obtain⟨u,s2,h5,h6⟩:=ag h2
 obtain⟨b,s3,h7,h8⟩:=ag h6
 obtain⟨h9,h10⟩:=h _ (dV h4 h5) _ _ h7
 cases e with
 |none=>grind
 |some c2=>
  obtain⟨u,s4,h11,h12⟩:=ag h8;grind[dV]
theorem iU{so:Pa Nd}(h:Sq N so)(k:Nat)(c:ab)(e:Option ab):Sq N (aY so k c e):=fun ts ht a r hh=>by
 grind[jV,o8]
theorem iV:∀ts:List Tok,Tk N ts->(∀ps∈(aI ts).1,ps.length<=N)/\Tk N (aI ts).2/\(aI ts).1.length<=ts.length
 | [],h=>by grind[aI]
 |t::r,h=>by
  unfold aI;split
  ·obtain⟨h1,h2,h3⟩:=iV r h.tl
   exact⟨fun ps hp=>by rcases List.mem_cons.1 hp with rfl|hp;exact h.2 t List.mem_cons_self;grind,h2,by grind⟩
  grind
theorem jW{so:Pa Nd}(h:Sq N so){n:ab}{ws:List (List Prt)}(hw:∀ps∈ws,ps.length<=N)(hw2:ws.length<=N+3){ts:List Tok}(ht:Tk N ts){a:Nd}{r:List Tok}(hh:dk so n ws ts=.ok a r):Sm (N+3) a/\Tk N r:=by
 obtain⟨u,s,h1,h2⟩:=ag hh
 obtain⟨b,s2,h3,h4⟩:=ag h2
 obtain⟨u2,s3,h5,h6⟩:=ag h4
 obtain⟨h7,h8⟩:=h _ (dV (ht.suf (aq ts)) h1) _ _ h3
 grind[iT,dV]
theorem wz{so:Pa Nd}(h:Sq N so):Sq N (eE so):=fun ts ht a r hh=>by
 cases ts with
 |nil=>cases hh
 |cons t u=>
  simp only[eE]at hh;have hl:Tk N (ay u):=ht.tl.suf (aq u);have hn:1<=N:=by have:=ht.1;grind
  split at hh
  ·split at hh
   ·obtain⟨h1,h2,h3⟩:=iV (ay u).tail (hl.suf (am _))
    unfold gT at hh;split at hh
    ·exact jW h h1 (by have:=(hl.suf (am (ay u))).1;omega) (h2.suf (am _)) hh
    ·cases hh
   ·refine jW h (fun ps hp=>?_) (by simp[oB]) ?_ hh
    ·grind[oB]
    ·split
     ·exact hl.suf (am _)
     omega
  ·cases hh
theorem qc:∀(f:Nat) (l:List (List Prt)) (ts:List Tok),Tk N ts->(∀ps∈l,ps.length<=N)->∀a r,fD f l ts=.ok a r->(∀ps∈a,ps.length<=N)/\Tk N r/\a.length<=l.length+f
 |0,l,ts,ht,hl,a,r,e=>by cases e;grind
 |f+1,l,ts,ht,hl,a,r,e=>by
  unfold fD at e;split at e
  ·obtain⟨w,s,h1,h2⟩:=ag e
   obtain⟨h3,h4,_⟩:=ji (ht.suf (am ts)) h1;obtain⟨h5,h6,h7⟩:=qc f _ s h4 (fm hl h3) a r h2;grind
  grind
theorem yO{li:Pa Nd}(h:Sq N li):Sq N (arm li):=fun ts ht a r e=>by
 obtain⟨w,s,h1,h2⟩:=ag e
 obtain⟨h3,h4,_⟩:=ji (by split;exact ht.suf (am ts);exact ht) h1
 obtain⟨ws,s2,h5,h6⟩:=ag h2
 obtain⟨h7,h8,h8b⟩:=qc _ _ s h4 (fun ps hp=>by grind) _ _ h5
 obtain⟨u,s3,h9,h10⟩:=ag h6
 obtain⟨n,s4,h11,h12⟩:=ag h10
 obtain⟨h13,h14⟩:=h _ (dV h8 h9) _ _ h11
 obtain⟨u2,s5,h15,h16⟩:=ag h12
 injection h16 with h16 h17
 subst h16 h17
 exact⟨iT (by have:=h4.1;grind) h7 (by simp) (fun y hy=>by grind),dV h14 h15⟩
theorem nD{ar:Pa Nd}(h:Sq N ar):∀(f:Nat) (l:List Nd) (ts:List Tok),Tk N ts->(∀n∈l,Sm (N+3) n)->∀a r,dg ar f l ts=.ok a r->(∀n∈a,Sm (N+3) n)/\Tk N r/\a.length<=l.length+f
 |0,l,ts,ht,hl,a,r,e=>by cases e;grind
 |f+1,l,ts,ht,hl,a,r,e=>by
  unfold dg at e;split at e
  ·cases e;exact⟨hl,ht.suf (aq ts),by omega⟩
  ·obtain⟨x,s,h1,h2⟩:=ag e
   obtain⟨h3,h4⟩:=h _ (ht.suf (aq ts)) _ _ h1;obtain⟨h5,h6,h7⟩:=nD h f _ s h4 (fm hl h3) a r h2;grind
theorem rC{li:Pa Nd}(h:Sq N li):Sq N (gA li):=fun ts ht a r e=>by
 obtain⟨w,s,h1,h2⟩:=ag e
 obtain⟨h3,h4,_⟩:=ji ht h1
 obtain⟨u,s2,h5,h6⟩:=ag h2
 have h20:=dV (h4.suf (aq s)) h5
 obtain⟨l,s3,h7,h8⟩:=ag h6
 obtain⟨h9,h10,h10b⟩:=nD (yO h) _ _ s2 h20 (fun n hn=>by cases hn) _ _ h7
 obtain⟨u2,s4,h11,h12⟩:=ag h8
 injection h12 with h12 h13
 subst h12 h13
 exact⟨iT (by simp) (fun ps hp=>by grind) (by have:=h20.1;grind) h9,dV h10 h11⟩
theorem qe{so:Pa Nd}{inner:Option (Pa Nd)}(h:Sq N so)(hi:∀c,inner=some c->Sq N c):Sq N (fK so inner):=fun ts ht a r e=>by
 obtain⟨n,s,h1,h2⟩:=ag e
 obtain⟨c,t,rfl,h3,h4,h5⟩:=jV h ht h1
 have key:∀z:Nd,Sm (N+3) z->Sm (N+3) (Nd.addKid (.mk 8 [] false [] [] [] [c,t]) z):=fun z hz=>iT (Nat.zero_le _) (fun x hx=>by cases hx) (by simp) (fun y hy=>by
  grind)
 split at h2
 ·obtain⟨k,s2,h10,h11⟩:=ag h2
  obtain⟨h12,h13⟩:=h _ (h5.suf (am s)) _ _ h10;grind
 ·split at h2
  ·cases inner with
   |none=>cases h2
   |some i=>
    obtain⟨k,s2,h10,h11⟩:=ag h2;obtain⟨h12,h13⟩:=hi i rfl _ (h5.suf (am s)) _ _ h10;grind
  grind[o8]
theorem nE{ts:List Tok}(ht:Tk N ts){x:Int×Nat×List Prt}{r:List Tok}(h:dJ ts=.ok x r):x.2.2.length<=N/\Tk N r/\r.length+1<=ts.length:=by
 cases ts with
 |nil=>cases h
 |cons t u=>
  obtain⟨w,s,h1,h2⟩:=ag (p:=bS u) h;obtain⟨h3,h4,h6⟩:=ji ht.tl h1;injection h2 with h2 h5
  subst h2 h5;exact⟨h3,h4,by grind⟩
theorem jX:∀(f:Nat) (l:List (Int×Nat×List Prt)) (ts:List Tok),Tk N ts->(∀x∈l,x.2.2.length<=N)->∀a r,bC f l ts=.ok a r->(∀x∈a,x.2.2.length<=N)/\Tk N r/\a.length<=l.length+f
 |0,l,ts,ht,hl,a,r,e=>by cases e;grind
 |f+1,l,ts,ht,hl,a,r,e=>by
  unfold bC at e;split at e
  ·obtain⟨w,s,h1,h2⟩:=ag e
   obtain⟨h3,h4,_⟩:=nE ht h1;obtain⟨h5,h6,h7⟩:=jX f _ s h4 (fm hl h3) a r h2;grind
  grind
theorem wB{li so conds:Pa Nd}(h1:Sq N li)(h2:Sq N so)(h3:Sq N conds):∀b,Sq N (kp li so conds b)
 |.sub=>kU h2 _ _
 |.grp=>kU h2 _ _
 |.iff=>h3
 |.whl=>iU h2 9 kDo (some dw)
 |.unt=>iU h2 10 kDo (some dw)
 |.for_=>wz h2
 |.case_=>rC h1
theorem wC{bo:Blk->Pa Nd}(h:∀b,Sq N (bo b))(hr:∀b ts a r,bo b ts=.ok a r->a.rs=[])(b:Blk):Sq N (fL bo b):=fun ts ht a r e=>by
 obtain⟨n,s,h1,h2⟩:=ag e
 have h3:=hr _ _ _ _ h1
 obtain⟨h4,h5⟩:=h b _ (ht.suf (am ts)) _ _ h1
 obtain⟨u,s2,h6,h7⟩:=ag h2
 have h8:Tk N s2:=by
  grind[dV]
 obtain⟨l,s3,h9,h10⟩:=ag h7
 rw[h3]at h9
 obtain⟨h11,h12,h13⟩:=jX _ _ s2 h8 (fun x hx=>by cases hx) _ _ h9
 injection h10 with h10 h14
 subst h10 h14
 refine⟨?_,h12⟩
 cases h4 with
 |mk k n g a w r l2 g1 g2 g3 g4 g5 g6 g7 g8=>exact .mk k n g a w l l2 g1 g2 g3 g4 (by have:=h8.1;grind) (fun x hx=>by grind) g7 g8
theorem yP{ps:List Prt}(h:ps.length<=N){x:ab×List Prt}(e:aG ps=some x):x.2.length<=N:=by
 cases ps with
 |nil=>cases e
 |cons p r=>
  grind[aG]
theorem gG:∀(f:Nat) (x:Sim) (ts:List Tok),Tk N ts->x.a.length+x.w.length+x.r.length+f<=N->(∀y∈x.a,y.2.length<=N)->(∀ps∈x.w,ps.length<=N)->(∀y∈x.r,y.2.2.length<=N)->∀n r,aS f x ts=.ok n r->Sm (N+3) n/\Tk N r
 |f,x,ts,ht,hl,ha,hw,hr,n,r,e=>by
  have hend:Sm (N+3) x.nd:=.mk 0 [] false x.a x.w x.r [] (by omega) (fun y hy=>by grind) (by omega) (fun y hy=>by grind) (by omega) (fun y hy=>by grind) (Nat.zero_le _) (fun y hy=>by cases hy)
  cases f with
  |zero=>cases e;grind
  |succ f=>
   cases ts with
   |nil=>cases e;grind
   |cons t u=>
    simp only[aS]at e;split at e
    ·obtain⟨y,s,h1,h2⟩:=ag e
     obtain⟨h3,h4,_⟩:=nE ht h1;exact gG f ⟨x.a,x.w,x.r++[y]⟩ s h4 (by grind) ha hw (fm hr h3) n r h2
    ·split at e
     ·have hp:=ht.2 t List.mem_cons_self
      refine gG f _ u ht.tl ?_ ?_ ?_ ?_ n r e
      ·grind[Sim.word]
      ·unfold Sim.word;split
       ·split
        ·rename_i z hz _
         exact fm ha (yP hp hz)
        omega
       omega
      ·unfold Sim.word;grind
      grind[Sim.word]
     grind
theorem rD:Sq N simple:=fun ts ht a r e=>by
 unfold simple at e
 split at e
 ·exact gG _ _ _ ht (by have:=ht.1;grind) (fun y hy=>by cases hy) (fun y hy=>by cases hy) (fun y hy=>by cases hy) a r e
 ·cases e
theorem yQ{comp:Blk->Pa Nd}(h:∀b,Sq N (comp b)):Sq N (iu comp):=fun ts ht a r e=>by
 cases ts with
 |nil=>cases e
 |cons t u=>
  simp only[iu]at e;split at e
  ·split at e
   ·cases e
   ·obtain⟨x,s,h1,h2⟩:=ag e
    obtain⟨h3,h4⟩:=h _ _ (ht.tl.suf ((aq _).trans ((am _).trans (am _)))) _ _ h1;grind[o7]
  ·cases e
theorem t8{comp:Blk->Pa Nd}{inner:Option (Blk->Pa Nd)}(h:∀b,Sq N (comp b))(hi:∀c,inner=some c->∀b,Sq N (c b)):Sq N (gU comp inner):=fun ts ht a r e=>by
 unfold gU at e
 split at e
 ·exact h _ _ ht _ _ e
 ·split at e
  ·cases e
  ·split at e
   ·cases inner with
    |none=>cases e
    |some c=>exact yQ (hi c rfl) _ ht _ _ e
   ·exact rD _ ht _ _ e
theorem gH{so:Pa Nd}{k:Nat}{c:ab}{e:Option ab}{ts:List Tok}{n:Nd}{r:List Tok}(hh:aY so k c e ts=.ok n r):n.rs=[]:=by
 obtain⟨a,s,h1,h2⟩:=ag hh
 obtain⟨u,s2,h5,h6⟩:=ag h2
 obtain⟨b,s3,h7,h8⟩:=ag h6
 cases e with
 |none=>injection h8 with h8 h11;subst h8;rfl
 |some c2=>
  obtain⟨u,s4,h11,h12⟩:=ag h8;injection h12 with h12 h13;subst h12;rfl
theorem kV{so:Pa Nd}{k:Nat}{c:ab}{ts:List Tok}{n:Nd}{r:List Tok}(hh:closed so k c ts=.ok n r):n.rs=[]:=by
 obtain⟨x,s,h1,h2⟩:=ag hh
 obtain⟨u,s2,h5,h6⟩:=ag h2
 injection h6 with h6 h7
 subst h6;rfl
theorem jY{so:Pa Nd}{n:ab}{ws:List (List Prt)}{ts:List Tok}{a:Nd}{r:List Tok}(hh:dk so n ws ts=.ok a r):a.rs=[]:=by
 obtain⟨u,s,h1,h2⟩:=ag hh
 obtain⟨b,s2,h3,h4⟩:=ag h2
 obtain⟨u2,s3,h5,h6⟩:=ag h4
 injection h6 with h6 h9
 subst h6;rfl
theorem wD{so:Pa Nd}{ts:List Tok}{a:Nd}{r:List Tok}(hh:eE so ts=.ok a r):a.rs=[]:=by
 cases ts with
 |nil=>cases hh
 |cons t u=>
  simp only[eE]at hh;split at hh
  ·split at hh
   ·unfold gT at hh
    split at hh
    ·exact jY hh
    ·cases hh
   ·exact jY hh
  ·cases hh
theorem rE{li:Pa Nd}{ts:List Tok}{a:Nd}{r:List Tok}(e:gA li ts=.ok a r):a.rs=[]:=by
 obtain⟨w,s,h1,h2⟩:=ag e
 obtain⟨u,s2,h5,h6⟩:=ag h2
 obtain⟨l,s3,h7,h8⟩:=ag h6
 obtain⟨u2,s4,h11,h12⟩:=ag h8
 injection h12 with h12 h13
 subst h12;rfl
theorem qf{so:Pa Nd}:∀{inner:Option (Pa Nd)} {ts:List Tok} {a:Nd} {r:List Tok},fK so inner ts=.ok a r->a.rs=[]:=by
 intro inner ts a r e
 obtain⟨n,s,h1,h2⟩:=ag e
 have h3:=gH h1
 have key:∀z,(n.addKid z).rs=[]:=fun z=>by cases n;exact h3
 split at h2
 ·obtain⟨k,s2,h10,h11⟩:=ag h2
  grind
 ·split at h2
  ·cases inner with
   |none=>cases h2
   |some i=>
    obtain⟨k,s2,h10,h11⟩:=ag h2;grind
  grind
theorem qg{li so conds:Pa Nd}(hc:∀ts a r,conds ts=.ok a r->a.rs=[]):∀b ts a r,kp li so conds b ts=.ok a r->a.rs=[]
 |.sub,_,_,_,h=>kV h
 |.grp,_,_,_,h=>kV h
 |.iff,_,_,_,h=>hc _ _ _ h
 |.whl,_,_,_,h=>gH (so:=so) (k:=9) (c:=kDo) (e:=some dw) h
 |.unt,_,_,_,h=>gH (so:=so) (k:=10) (c:=kDo) (e:=some dw) h
 |.for_,_,_,_,h=>wD h
 |.case_,_,_,_,h=>rE h
theorem o_:∀k:Nat,Sq N (lev k).cmd/\Sq N (lev k).conds/\(∀b,Sq N ((lev k).comp b))/\∀ts a r,(lev k).conds ts=.ok a r->a.rs=[]
 |0=>by
  have h1:∀b,Sq N ((lev 0).comp b):=fun b ts ht a r e=>by cases e
  have h2:Sq N (lev 0).cmd:=t8 (inner:=none) h1 (fun c h=>by cases h);exact⟨h2,qe (inner:=none) (lR h2) (fun c h=>by cases h),h1,fun ts a r e=>qf (so:=eD (lev 0).cmd) (inner:=none) e⟩
 |k+1=>by
  obtain⟨i1,i2,i3,i4⟩:=o_ k;have h1:∀b,Sq N ((lev (k+1)).comp b):=fun b=>wC (wB (qa i1) (lR i1) i2) (qg i4) b
  have h2:Sq N (lev (k+1)).cmd:=t8 (inner:=some (lev k).comp) h1 (fun c h=>by simp_all);exact⟨h2,qe (inner:=some (lev k).conds) (lR h2) (fun c h=>by grind),h1,fun ts a r e=>qf (so:=eD (lev (k+1)).cmd) (inner:=some (lev k).conds) e⟩
end
theorem kW{s:ab}{l:List Nd}(hs:s.length<=8000)(h:aH s=.ok l):l.length<=16004/\∀n∈l,Sm 16003 n:=by
 unfold aH at h
 cases hx:lex s with
 |err f m=>grind
 |ok ts=>
  rw[hx]at h;obtain⟨xs,m,h1,rfl,h3⟩:=lP hs hx;have h5:=jS s.length s 1 (Nat.le_refl _);rw[h1]at h5;simp only[gF,List.dropLast_concat]at h
  cases hp:eK 20 (xs.map fB)with
  |bad e m=>grind
  |ok l2 r=>
   rw[hp]at h
   cases h
   obtain⟨l3,s3,h6,h7⟩:=ag (p:=gh (lev 20).cmd (xs.map fB)) hp;have ht:Tk 16000 (xs.map fB):=⟨by grind,fun t ht=>by
    obtain⟨y,hy,rfl⟩:=List.mem_map.1 ht;have:=h5 y hy;show y.parts.length<=16000
    grind[sz]⟩
   obtain⟨h8,h9,h10⟩:=nC (N:=16000) (o_ 20).1 ht h6;split at h7
   ·grind
   ·cases h7
def TabP(w:World):Prop:=(∃m:Int,w.cell? ⟨1,0,none⟩=some (.int .i64 m))/\∃cg co cc,w.cell? ⟨0,0,none⟩=some (.slice (some ⟨cg,co,none⟩) 10 cc)/\10<=cc/\∀(j:Nat) s,closers[j]? =some s->w.cell? ⟨cg,co+j,none⟩=some (bs s)
theorem TabP.ext{w w':World}(h:TabP w)(k:Below w.heap.size w w'):TabP w':=by
 obtain⟨⟨m,h1⟩,cg,co,cc,h2,h3,h4⟩:=h
 exact⟨⟨m,bL h1 k⟩,cg,co,cc,bL h2 k,h3,fun j s hs=>bL (h4 j s hs) k⟩
theorem wE{W0:World}{v:Value}{ts:List Tok}(hT:TokRow W0 v ts)(hl:LexT ts)(hP:TabP W0):∃(g o cap:Nat) (tvs:List (Tok×Value)),v=.slice (some ⟨g,o,none⟩) tvs.length cap/\tvs.map (·.1)=ts/\PEnv W0 g o cap tvs/\TyV W0 76 v:=by
 obtain⟨hc,hty,tvs,rfl,hr,hp⟩:=hT
 obtain⟨ao,c,rfl,h2⟩:=hr
 obtain⟨_,_,_,e,hle⟩:=hc
 injection e with e1 e2 e3
 subst e1 e2 e3
 have hpos:=hl.pos
 rw[List.length_map]at hpos hle
 obtain⟨x0,hx0⟩:∃x,tvs[0]? =some x:=⟨_,List.getElem?_eq_getElem hpos⟩
 obtain⟨g,o,hg,_⟩:=h2 0 (tkc x0) (by grind)
 subst hg
 have hmem:∀x∈tvs,x.1∈tvs.map (·.1):=fun x hx=>List.mem_map.2 ⟨x,hx,rfl⟩
 refine⟨g,o,c,tvs,by grind,rfl,⟨fun i x hx cc u hu=>?_,fun x hx=>⟨(hp x hx).1,(hp x hx).2.1⟩,fun x hx a n cc e cl t f hcl=>?_,hle,hpos,by have:=hl.max;grind,fun x hx=>hl.word _ (hmem x hx),fun i x hx=>?_,fun x hx=>?_,hP.1,hP.2⟩,hty⟩
 ·obtain⟨g2,o2,hg2,h3⟩:=h2 i (tkc x) (by grind)
  grind
 ·obtain⟨cells,h3⟩:=(hp x hx).2.2 a n cc e
  grind
 ·have:=hl.last i x.1 (by grind)
  grind
 ·exact hl.fin x.1 (by grind)
theorem xM{tvs:List (Tok×Value)}{ts:List Tok}(h:tvs.map (·.1)=ts):ts.dropLast.map fB=TT tvs:=by
 subst h
 unfold TT
 rw[<- List.map_dropLast,List.map_map]
 rfl
theorem qh{tvs:List (Tok×Value)}{ts:List Tok}(h:tvs.map (·.1)=ts)(m:Nat):(ts.getD (ts.length-1-m) (d9 0)).line=eL tvs m:=by
 subst h
 unfold eL
 rw[List.getD_eq_getElem?_getD,List.length_map,List.getElem?_map]
 cases tvs[tvs.length-1-m]? <;>rfl
section
variable {s:ab} {ts:List Tok} {tvs:List (Tok×Value)} (hx:lex s=.ok ts) (ht:tvs.map (·.1)=ts)
theorem rF(hx:lex s=.ok ts)(ht:tvs.map (·.1)=ts){er m:Nat}(h:cK (lev 20).cmd (TT tvs)=.bad er m):aH s=.err (er==2) (eL tvs m):=by
 unfold aH
 rw[hx]
 show gF ts=_
 unfold gF eK
 rw[xM ht]
 unfold cK at h
 cases hk:gh (lev 20).cmd (TT tvs)with
 |ok l r=>rw[hk]at h;cases h
 |bad e2 m2=>
  grind[PR.bind,qh]
theorem t_(hx:lex s=.ok ts)(ht:tvs.map (·.1)=ts){x:Nd}{r:List Tok}(h:cK (lev 20).cmd (TT tvs)=.ok x r):∃l,x=.mk 4 [] false [] [] [] l/\aH s=if r.isEmpty then .ok l else .err false (eL tvs r.length):=by
 unfold cK at h
 cases hk:gh (lev 20).cmd (TT tvs)with
 |bad e2 m2=>rw[hk]at h;cases h
 |ok l r2=>
  rw[hk]at h;injection h with h1 h2
  subst h1 h2;refine⟨l,rfl,?_⟩;unfold aH;grind[gF,eK,xM,PR.bind,syn,qh]
end
theorem ua(er:Nat):jG er=if(er==2)=true then 6 else 27:=by
 grind[jG]
theorem fo{X:List Nat}{w0 W:World}{L:List (Nat×Obj)}(h:Kn X w0 W L)(h1:∀x∈X,∃o,(x,o)∈L/\w0.heap[x]? =some o):Below w0.heap.size w0 W:=
 ⟨h.os,h.tape,h.output,h.size,fun k hk=>by
  by_cases hm:k∈X
  ·obtain⟨o,ho,he⟩:=h1 k hm
   rw[he];exact h.has _ ho
  ·exact h.block k hk hm⟩
theorem wF{X Y:List Nat}{w0 W:World}{L:List (Nat×Obj)}(h:Kn X w0 W L)(h1:∀x∈X,x∈Y\/∃o,(x,o)∈L/\w0.heap[x]? =some o):Kn Y w0 W []:=by
 refine⟨h.os,h.tape,h.output,h.size,fun k hk hy=>?_,fun p hp=>absurd hp List.not_mem_nil,fun p hp=>absurd hp List.not_mem_nil,List.nodup_nil⟩
 by_cases hm:k∈X
 ·rcases h1 k hm with hx|⟨o,ho,he⟩
  ·grind
  ·rw[he];exact h.has _ ho
 ·exact h.block k hk hm
theorem dD{X:List Nat}{g o:Nat}{v:Value}{w W:World}{L:List (Nat×Obj)}(hL:Kn X w W L)(h:w.cell? ⟨g,o,none⟩=some v)(hg:g∉X):W.cell? ⟨g,o,none⟩=some v:=
 (da (hL.block g (aF h) hg)).trans h
theorem RowM.rowF{k:Nat}{W0:World}{L:List (Nat×Obj)}{v:Value}{xs:List (List Value)}{X Y:List Nat}{w0 w:World}{K:List (Nat×Obj)}(h:RowM k W0 L v xs)(hB:∀g,g<W0.heap.size->w.heap[g]? =W0.heap[g]?)(hz:W0.heap.size<=w.heap.size)(hk:Kn X w0 w K)(hs:∀p∈L,p∈K)(hY:∀p∈L,p.1∉Y)(hY0:∀g,g<W0.heap.size->vR W0 g->g∉Y):RowY k Y w v xs:=by
 obtain⟨ao,cap,h1,h2,h3⟩:=h
 refine⟨ao,cap,h1,h2,fun j cs hj=>?_⟩
 obtain⟨g,o,h4,h5⟩:=h3 j cs hj
 rcases h5 with⟨cells,t,hm,hc⟩|⟨hg,hn,hc⟩
 ·exact⟨g,o,h4,hY _ hm,hk.lt (hs _ hm),fun c x hx=>by rw[aO hk (hs _ hm)];grind⟩
 grind[da]
theorem NodeL.isF{W0:World}{L:List (Nat×Obj)}{n:Nd}{cs:List Value}(h:NodeL W0 L n cs){X Y:List Nat}{w0 w:World}{K:List (Nat×Obj)}(hB:∀g,g<W0.heap.size->w.heap[g]? =W0.heap[g]?)(hz:W0.heap.size<=w.heap.size)(hk:Kn X w0 w K)(hs:∀p∈L,p∈K)(hY:∀p∈L,p.1∉Y)(hY0:∀g,g<W0.heap.size->vR W0 g->g∉Y):NodeIs Y w n cs:=by
 induction h with
 |mk kind name neg al ws rs ks va vw vr vk h1 h2 h3 h4 h5 h6 h7 h8 ih=>
  exact .mk kind name neg al ws rs ks va vw vr vk (h1.rowF hB hz hk hs hY hY0) (fun x hx=>RowM.rowF (h2 x hx) hB hz hk hs hY hY0) (h3.rowF hB hz hk hs hY hY0) (fun x hx=>RowM.rowF (h4 x hx) hB hz hk hs hY hY0) (h5.rowF hB hz hk hs hY hY0) (fun x hx=>RowM.rowF (h6 x hx) hB hz hk hs hY hY0) (h7.rowF hB hz hk hs hY hY0) ih
theorem pd{X:List Nat}{w w0 W:World}{L:List (Nat×Obj)}(h0:Kn X w w0 L)(h:Kn (keys L) w0 W L):Below w0.heap.size w0 W:=fo h fun x hx=>by
 obtain⟨p,hp,rfl⟩:=List.mem_map.1 hx
 exact⟨p.2,hp,h0.has p hp⟩
def ub(w:World)(p:PAns)(e:Ending)(w':World):Prop:=match p with
 |.ok l=>∃(nm:ByteArray) (aa:Option Addr) (na:Nat) (ca:Nat) (aw:Option Addr) (nw:Nat) (cw:Nat) (ar:Option Addr) (nr:Nat) (cr:Nat) (ak:Option Addr) (nk:Nat) (ck:Nat),e=.returned (.tuple #[.agg #[.int .i64 ((4:Nat):Int),.string nm,.bool false,.slice aa na ca,.slice aw nw cw,.slice ar nr cr,.slice ak nk ck],.int .i64 0,.int .i64 0])/\∀Y:List Nat,(∀y∈Y,∃c t,w.heap[y]? =some (.cells c t (0,0))/\t≠118)->NodeIs Y w' (.mk 4 [] false [] [] [] l) [.int .i64 ((4:Nat):Int),.string nm,.bool false,.slice aa na ca,.slice aw nw cw,.slice ar nr cr,.slice ak nk ck]
 |.err f m=>e=.returned (.tuple #[.agg #[.int .i64 0,.string ⟨#[]⟩,.bool false,.slice none 0 0,.slice none 0 0,.slice none 0 0,.slice none 0 0],.int .i64 (if f=true then 6 else 27),.int .i64 m])
def Ae(src:ByteArray)(w:World)(e:Ending)(w':World):Prop:=Below w.heap.size w w'/\ub w (aH src.data.toList) e w'
end
end Go.Proofs.YtgboffbbpmileaaGreatDoor
namespace Go.Proofs.YtgboffbbpmileaaGreatDoor
open Go Go.ChangeAt Go.ChangeShapes Go.RowKit Go.WideShapes
theorem own:ownKnob Tryz.prog.godebug=none:=by kernel_rfl
theorem kids:Kids Tryz.prog (· <Tryz.prog.types.size):=kids_rows (by kernel_rfl) (by kernel_rfl)
theorem uc:∀t e,t<Tryz.prog.types.size->Tryz.prog.underlying t=some (.slice e)->0<Tryz.prog.cellsOf e:=slices_full_of _ (by kernel_rfl)
def jZ:List (String×DataW Unit):=[("math/bits.deBruijn32tab",Rows.laid_math_bits_deBruijn32tab),("math/bits.deBruijn64tab",Rows.laid_math_bits_deBruijn64tab),("internal/strconv.uint64pow10",Rows.laid_internal_strconv_uint64pow10),("unicode/utf8.acceptRanges",Rows.laid_unicode_utf8_acceptRanges),("strconv.ErrRange",Rows.laid_strconv_ErrRange),("strconv.ErrSyntax",Rows.laid_strconv_ErrSyntax),("rehearsal/parse.closers",Rows.laid_rehearsal_parse_closers),("unicode/utf8.first",Rows.laid_unicode_utf8_first)]
set_option maxRecDepth 100000 in
theorem tables{W:World}(h:laidMetH Tryz.prog jZ W)(hSh:W.ShapedOpen Tryz.prog):TabP W:=by
 have h':laidMet Tryz.prog jZ W:=h
 obtain⟨ps,hV,_⟩:=h'
 obtain⟨T0,qs0,hV1⟩:=jr (k:=.u8) (zs:=[0,1,28,2,29,14,24,3,30,22,20,15,25,17,4,8,31,27,13,23,21,19,16,7,26,12,18,6,11,5,10,9]) (g:=7) (by kernel_rfl) (by kernel_rfl) Tryz.underlying212 Tryz.underlying5 (by kernel_rfl) (by kernel_rfl) hV
 obtain⟨T1,qs1,hV2⟩:=jr (k:=.u8) (zs:=[0,1,56,2,57,49,28,3,61,58,42,50,38,29,17,4,62,47,59,36,45,43,51,22,53,39,33,30,24,18,12,5,63,55,48,27,60,41,37,16,46,35,44,21,52,32,23,11,54,26,40,15,34,20,31,10,25,14,19,9,13,8,7,6]) (g:=8) (by kernel_rfl) (by kernel_rfl) Tryz.underlying213 Tryz.underlying5 (by kernel_rfl) (by kernel_rfl) hV1
 obtain⟨T2,qs2,hV3⟩:=jr (k:=.u64) (zs:=[1,10,100,1000,10000,100000,1000000,10000000,100000000,1000000000,10000000000,100000000000,1000000000000,10000000000000,100000000000000,1000000000000000,10000000000000000,100000000000000000,1000000000000000000,10000000000000000000]) (g:=6) (by kernel_rfl) (by kernel_rfl) Tryz.underlying207 Tryz.underlying183 (by kernel_rfl) (by kernel_rfl) hV2
 obtain⟨qs3,hV4⟩:=kC hV3
 obtain⟨T4,qs4,hV5⟩:=js (g:=3) (by kernel_rfl) (by kernel_rfl) Tryz.underlying145 hV4
 obtain⟨T5,qs5,hV6⟩:=js (g:=2) (by kernel_rfl) (by kernel_rfl) Tryz.underlying145 hV5
 obtain⟨T6,qs6,hV7⟩:=mh (ss:=[[116,104,101,110],[101,108,105,102],[101,108,115,101],[102,105],[100,111],[100,111,110,101],[101,115,97,99],[125],[105,110],[33]]) (g:=0) (by kernel_rfl) (by kernel_rfl) Tryz.underlying50 Tryz.underlying9 (by kernel_rfl) (by simp) hV6
 obtain⟨qs7,hV8⟩:=kC hV7
 obtain⟨m,hm⟩:=cell_of_shapedOpen_int (g:=1) (zero:=#[.int .i64 0]) (t:=3) hSh (of_decide_eq_true (by kernel_rfl)) (by kernel_rfl) rfl (by kernel_rfl) (by kernel_rfl) Tryz.underlying3
 obtain⟨cg,co,cc,h1,h2,h3⟩:=T6
 exact⟨⟨m,hm⟩,cg,co,cc,h1,h2,fun j s hs=>h3 j s hs⟩
def low:Nat:=14
def lay(h:Array Obj)(g:Nat)(cs:Array Value):Array Obj:=h.modify g fun
 |.cells _ t frozen=>.cells cs t frozen
 |o=>o
noncomputable def laidWorld (os:Os):World:=
 {World.holding Tryz.prog os ⟨#[.cells #[.string ⟨#[118,97,108,117,101,32,111,117,116,32,111,102,32,114,97,110,103,101]⟩] 199,.cells #[.string ⟨#[105,110,118,97,108,105,100,32,115,121,110,116,97,120]⟩] 199,.cells #[.string ⟨#[116,104,101,110]⟩,.string ⟨#[101,108,105,102]⟩,.string ⟨#[101,108,115,101]⟩,.string ⟨#[102,105]⟩,.string ⟨#[100,111]⟩,.string ⟨#[100,111,110,101]⟩,.string ⟨#[101,115,97,99]⟩,.string ⟨#[125]⟩,.string ⟨#[105,110]⟩,.string ⟨#[33]⟩] 9],#[],[]⟩with heap:=(lay (lay (lay (lay (lay (lay (lay (lay (World.holding Tryz.prog os ⟨#[.cells #[.string ⟨#[118,97,108,117,101,32,111,117,116,32,111,102,32,114,97,110,103,101]⟩] 199,.cells #[.string ⟨#[105,110,118,97,108,105,100,32,115,121,110,116,97,120]⟩] 199,.cells #[.string ⟨#[116,104,101,110]⟩,.string ⟨#[101,108,105,102]⟩,.string ⟨#[101,108,115,101]⟩,.string ⟨#[102,105]⟩,.string ⟨#[100,111]⟩,.string ⟨#[100,111,110,101]⟩,.string ⟨#[101,115,97,99]⟩,.string ⟨#[125]⟩,.string ⟨#[105,110]⟩,.string ⟨#[33]⟩] 9],#[],[]⟩).heap 7 #[.int .u8 0,.int .u8 1,.int .u8 28,.int .u8 2,.int .u8 29,.int .u8 14,.int .u8 24,.int .u8 3,.int .u8 30,.int .u8 22,.int .u8 20,.int .u8 15,.int .u8 25,.int .u8 17,.int .u8 4,.int .u8 8,.int .u8 31,.int .u8 27,.int .u8 13,.int .u8 23,.int .u8 21,.int .u8 19,.int .u8 16,.int .u8 7,.int .u8 26,.int .u8 12,.int .u8 18,.int .u8 6,.int .u8 11,.int .u8 5,.int .u8 10,.int .u8 9]) 8 #[.int .u8 0,.int .u8 1,.int .u8 56,.int .u8 2,.int .u8 57,.int .u8 49,.int .u8 28,.int .u8 3,.int .u8 61,.int .u8 58,.int .u8 42,.int .u8 50,.int .u8 38,.int .u8 29,.int .u8 17,.int .u8 4,.int .u8 62,.int .u8 47,.int .u8 59,.int .u8 36,.int .u8 45,.int .u8 43,.int .u8 51,.int .u8 22,.int .u8 53,.int .u8 39,.int .u8 33,.int .u8 30,.int .u8 24,.int .u8 18,.int .u8 12,.int .u8 5,.int .u8 63,.int .u8 55,.int .u8 48,.int .u8 27,.int .u8 60,.int .u8 41,.int .u8 37,.int .u8 16,.int .u8 46,.int .u8 35,.int .u8 44,.int .u8 21,.int .u8 52,.int .u8 32,.int .u8 23,.int .u8 11,.int .u8 54,.int .u8 26,.int .u8 40,.int .u8 15,.int .u8 34,.int .u8 20,.int .u8 31,.int .u8 10,.int .u8 25,.int .u8 14,.int .u8 19,.int .u8 9,.int .u8 13,.int .u8 8,.int .u8 7,.int .u8 6]) 6 #[.int .u64 1,.int .u64 10,.int .u64 100,.int .u64 1000,.int .u64 10000,.int .u64 100000,.int .u64 1000000,.int .u64 10000000,.int .u64 100000000,.int .u64 1000000000,.int .u64 10000000000,.int .u64 100000000000,.int .u64 1000000000000,.int .u64 10000000000000,.int .u64 100000000000000,.int .u64 1000000000000000,.int .u64 10000000000000000,.int .u64 100000000000000000,.int .u64 1000000000000000000,.int .u64 10000000000000000000]) 5 #[.int .u8 128,.int .u8 191,.int .u8 160,.int .u8 191,.int .u8 128,.int .u8 159,.int .u8 144,.int .u8 191,.int .u8 128,.int .u8 143,.int .u8 0,.int .u8 0,.int .u8 0,.int .u8 0,.int .u8 0,.int .u8 0,.int .u8 0,.int .u8 0,.int .u8 0,.int .u8 0,.int .u8 0,.int .u8 0,.int .u8 0,.int .u8 0,.int .u8 0,.int .u8 0,.int .u8 0,.int .u8 0,.int .u8 0,.int .u8 0,.int .u8 0,.int .u8 0]) 3 #[.iface 197 (.pointer (some ⟨low+0,0,none⟩))]) 2 #[.iface 197 (.pointer (some ⟨low+1,0,none⟩))]) 0 #[.slice (some ⟨low+2,0,none⟩) 10 10]) 4 (Go.Pinned.utf8FirstZ.map fun z:Nat=>Value.int .u8 z).toArray)}
theorem ud(os:Os)(args:Array Value):laidMet Tryz.prog jZ ((laidWorld os).forCall (fun _ _=>0) ⟨#[],args,[]⟩).memory:=
 (LaidIn.of_run [7,8,6,5,3,2,0,4,14,15,16] 8 (by kernel_rfl) (by kernel_rfl) (by kernel_rfl) (by kernel_rfl)).met
end Go.Proofs.YtgboffbbpmileaaGreatDoor
namespace Go.Proofs.YtgboffbbpmileaaGreatDoor
open Go Go.RowKit
theorem jj(u:ByteArray)(k:UInt8):(u++⟨#[k]⟩).data.toList=u.data.toList++[k]:=by simp
theorem yR(c:UInt8)(W:World):(convert 119 9 (.slice (some ⟨W.heap.size,0,none⟩) 1 1)).run Tryz.prog (W.alloc (.cells #[.int .u8 c.toNat] 5))=.ok (.string ⟨#[c]⟩) (W.alloc (.cells #[.int .u8 c.toNat] 5)):=
 jD (BOwn.new (Kn.refl [] W) [c] #[.int .u8 c.toNat] rfl 1 rfl (by simp)) ⟨#[c]⟩ rfl
theorem qi(u:ByteArray)(q:Int)(k:UInt8)(kz:Int)(hk:kz=k.toNat)(hl:u.size<=1000000)(w:World):Calls Tryz.prog 68 #[.agg #[.string u,.int .i64 q],.int .u8 kz] w fun e w'=>e=.returned (.agg #[.string (u++⟨#[k]⟩),.int .i64 q])/\Below w.heap.size w w':=by
 subst hk
 have hcv:=yR k
 have hmax:IntKind.i64.max=9223372036854775807:=rfl
 have m1:¬IntKind.i64.max<((u.size+(⟨#[k]⟩:ByteArray).size:Nat):Int):=by rw[hmax,show(⟨#[k]⟩:ByteArray).size=1 from rfl];omega
 clear hmax
 have hL:Kn [] w w []:=Kn.refl [] w;have hF:=hL.fx;go_enter Tryz.func68,Tryz.ntmps68
 go_upto_region 1 with(fail)
 refine zE ?_;intro W hL hF
 go_wp2
 refine zF ?_;intro W hL hF
 refine bodyPost_ret (by simp[results,Tryz.results68,go_sem, *];try rfl) rfl ?_
 exact⟨rfl,hL.below0⟩
theorem lS(u u0:ByteArray)(q:Int)(k:UInt8)(kz:Int)(hk:kz=k.toNat)(hu:u.data.toList=u0.data.toList++[k])(hl:u.size<=1000000)(w:World):Calls Tryz.prog 69 #[.agg #[.string u,.int .i64 q],.int .u8 kz] w fun e w'=>e=.returned (.tuple #[.agg #[.string u0,.int .i64 q],.bool true])/\Below w.heap.size w w':=by
 subst hk
 obtain⟨n,hn⟩:∃n,u.size=n+1:=⟨u0.size,by rw[<- szl,hu,List.length_append,szl];rfl⟩
 have hn0:u0.data.toList.length=n:=by have h:=congrArg List.length hu;rw[szl,List.length_append,List.length_singleton]at h;omega
 have hlt9:n<u.size:=by omega
 have hc0:u.data.toList[n]? =some k:=by rw[hu,List.getElem?_append_right (by omega),hn0,Nat.sub_self];rfl
 have eb0:=bY hc0 hlt9
 have hx:u.extract 0 n=u0:=by
  have h1:u.data.toList.take n=u0.data.toList:=by rw[hu,<- hn0,List.take_left]
  have h2:(u.extract 0 n).data.toList=u0.data.toList:=by rw[aW,<- h1];simp
  cases h3:u.extract 0 n;rw[h3]at h2;cases u0;simp only at h2;exact congrArg ByteArray.mk (Array.toList_inj.1 h2)
 have q3:u.toList.isEmpty=false:=by
  rw[Lib.toList_data,hu];simp
 have p3:((k.toNat:Int) != (k.toNat:Int))=false:=by simp
 have p4:wrap64 ((u.size:Int)-1)=(n:Int):=by rw[IntWalk.wrap64_in _ (by omega)];omega
 have p5:(n:Int)<u.size:=by omega
 have p6:0<u.size:=by omega
 have p7:IntKind.i64.wrap ((u.size:Int)-1)=(n:Int):=by rw[IntWalk.i64_in _ (by omega)];omega
 clear hu hn0
 have hL:Kn [] w w []:=Kn.refl [] w;have hF:=hL.fx;go_enter Tryz.func69,Tryz.ntmps69
 go_wp2
 refine zF ?_;intro W hL hF
 refine bodyPost_ret (by simp[results,Tryz.results69,go_sem, *];try rfl) rfl ?_
 exact⟨rfl,hL.below0⟩
end Go.Proofs.YtgboffbbpmileaaGreatDoor
