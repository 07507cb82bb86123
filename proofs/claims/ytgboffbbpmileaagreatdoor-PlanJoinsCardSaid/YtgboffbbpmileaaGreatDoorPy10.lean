/- Lemmas and walks for the law VLawPJoins (part 10). -/
import Derived.Test.YtgboffbbpmileaaGreatDoorPy9
import Derived.Test.YtgboffbbpmileaaGreatDoorProg
import Derived.WalkKit
import Derived.Handy
import Derived.Deep.Light
import Derived.WalkSmall
import Derived.StillTailTactics
import Derived.Lib.Hide
import Derived.Maps.OwnSet
import Derived.Maps.OwnOps
import Derived.Laws.EntriesVeiled
set_option maxRecDepth 20000
set_option maxHeartbeats 4000000
set_option linter.unusedVariables false
set_option linter.unusedSimpArgs false
namespace Go.Proofs.YtgboffbbpmileaaGreatDoor
open Go Go.RowKit
section
theorem rD{W0:World}{b d j g o cap gq:Nat}{tvs:List (Tok×Value)}{w W:World}{vj:Value}{kind:Nat}{x:Nd}{nm:ByteArray}{aa:Option Addr}{na:Nat}{ca:Nat}{aw:Option Addr}{nw:Nat}{cw:Nat}{ar:Option Addr}{nr:Nat}{cr:Nat}{ak:Option Addr}{nk:Nat}{ck:Nat}{LN:List (Nat×Obj)}(HN:NodeL W0 LN x [.int .i64 (x.kind:Int),.string nm,.bool x.neg,.slice aa na ca,.slice aw nw cw,.slice ar nr cr,.slice ak nk ck])(Hvj:AtV g o cap tvs j vj)
  (hL:Kn [b] w W ((b,.cells #[vj,.int .i64 (d:Int)] 73 (0,0))::(LN++[(gq,.cells #[.int .i64 (x.kind:Int),.string nm,.bool x.neg,.slice aa na ca,.slice aw nw cw,.slice ar nr cr,.slice ak nk ck] 41 (0,0))]))):
  gE W0 b d g o cap tvs w (.ok (.mk kind [] false [] [] [] [x]) ((TT tvs).drop j)) (.returned (.agg #[.int .i64 (kind:Int),.string ⟨#[]⟩,.bool false,.slice none 0 0,.slice none 0 0,.slice none 0 0,.slice (some ⟨gq,0,none⟩) 1 1])) W:=
 ⟨(kind:Int),⟨#[]⟩,none,0,0,some ⟨gq,0,none⟩,1,1,LN,_,j,vj,rfl,yh ⟨kind,[],[(x,[.int .i64 (x.kind:Int),.string nm,.bool x.neg,.slice aa na ca,.slice aw nw cw,.slice ar nr cr,.slice ak nk ck])],rfl,rfl,RowM.nil,(fun x hx=>by cases hx),rfl,oK rfl rfl,fun z hz=>by rw[List.mem_singleton.1 hz];exact HN⟩,yh ⟨Hvj,rfl⟩,hL⟩
theorem yb{W0:World}{g o cap:Nat}{tvs:List (Tok×Value)}(E:PEnv W0 g o cap tvs){d:Nat}{so:Pa Nd}(HC:cL W0 g o cap tvs 162 d so):gZ W0 g o cap tvs 139 d (aO so 9 kDo (some dw)):=by
 intro b i v w hB hbb hv hb
 obtain⟨PL,hpl⟩:∃p:PR Nd,aO so 9 kDo (some dw) ((TT tvs).drop i)=p:=⟨_,rfl⟩
 rw[hpl]
 have HCJ:Hid (∀W,Below W0.heap.size W0 W->W.heap[b]? =some (.cells #[v,.int .i64 (d:Nat)] 73 (0,0))->Calls Tryz.prog 163 #[.pointer (some ⟨b,0,none⟩),.int .i64 9,.string ⟨#[100,111]⟩,.string ⟨#[100,111,110,101]⟩] W (gE W0 b d g o cap tvs W PL)):=yh fun W hB hb=>by
  have h:=i' E HC b i v W hB hbb hv hb 9 ⟨#[100,111]⟩ ⟨#[100,111,110,101]⟩;rw[show aO so 9 (⟨#[100,111]⟩:ByteArray).data.toList (qB ⟨#[100,111,110,101]⟩) ((TT tvs).drop i)=PL from hpl]at h;exact h
 clear hpl
 have HB0:=yh hB
 have HXB:=yh (xb hbb)
 have hL:Kn [b] w w [(b,.cells #[v,.int .i64 (d:Int)] 73 (0,0))]:=Kn.one hb
 have HBS:=yh hb
 clear hB hb
 have hF:=hL.fx
 cases PL with
 |bad er m2=>
  go_enter Tryz.func139,Tryz.ntmps139;go_wp2_with (first|(with_reducible refine zS ?_;intro W hL hF)|(go_at_call 163;(with_reducible refine zM (fun W hL=>HCJ.out _ (ag HB0.out hL HXB.out) hL.h1) ?_);rintro W hL e W ⟨vj2,dj,rfl,hb⟩;replace hL:=hL.jn 1 hb;clear hb;have hF:=hL.fx))
  exact⟨rfl,vj2,dj,rfl,hL.pm⟩
 |ok x r=>
  go_enter Tryz.func139,Tryz.ntmps139;go_wp2_with (first|(with_reducible refine zS ?_;intro W hL hF)|(go_at_call 163;(with_reducible refine zM (fun W hL=>HCJ.out _ (ag HB0.out hL HXB.out) hL.h1) ?_);rintro W hL e W ⟨kz,nm,aw,nw,cw,ak,nk,ck,LC,LK,j2,vj2,rfl,HBI,HJ2,hb⟩;replace hL:=hL.jn 1 hb;clear hb;have hF:=hL.fx;replace hL:=hL.in0;clear hF;have hF:=hL.fx))
  refine zF ?_;intro W hL hF;refine bodyPost_ret (by simp[results,Tryz.results139,go_sem, *];try rfl) rfl ?_;exact⟨kz,nm,aw,nw,cw,ak,nk,ck,LC,LK,j2,vj2,rfl,HBI,HJ2,hL.pm⟩
theorem yg{W0:World}{g o cap:Nat}{tvs:List (Tok×Value)}(E:PEnv W0 g o cap tvs){d:Nat}{so:Pa Nd}(HC:cL W0 g o cap tvs 162 d so):gZ W0 g o cap tvs 140 d (aO so 10 kDo (some dw)):=by
 intro b i v w hB hbb hv hb
 obtain⟨PL,hpl⟩:∃p:PR Nd,aO so 10 kDo (some dw) ((TT tvs).drop i)=p:=⟨_,rfl⟩
 rw[hpl]
 have HCJ:Hid (∀W,Below W0.heap.size W0 W->W.heap[b]? =some (.cells #[v,.int .i64 (d:Nat)] 73 (0,0))->Calls Tryz.prog 163 #[.pointer (some ⟨b,0,none⟩),.int .i64 10,.string ⟨#[100,111]⟩,.string ⟨#[100,111,110,101]⟩] W (gE W0 b d g o cap tvs W PL)):=yh fun W hB hb=>by
  have h:=i' E HC b i v W hB hbb hv hb 10 ⟨#[100,111]⟩ ⟨#[100,111,110,101]⟩;rw[show aO so 10 (⟨#[100,111]⟩:ByteArray).data.toList (qB ⟨#[100,111,110,101]⟩) ((TT tvs).drop i)=PL from hpl]at h;exact h
 clear hpl
 have HB0:=yh hB
 have HXB:=yh (xb hbb)
 have hL:Kn [b] w w [(b,.cells #[v,.int .i64 (d:Int)] 73 (0,0))]:=Kn.one hb
 have HBS:=yh hb
 clear hB hb
 have hF:=hL.fx
 cases PL with
 |bad er m2=>
  go_enter Tryz.func140,Tryz.ntmps140;go_wp2_with (first|(with_reducible refine zS ?_;intro W hL hF)|(go_at_call 163;(with_reducible refine zM (fun W hL=>HCJ.out _ (ag HB0.out hL HXB.out) hL.h1) ?_);rintro W hL e W ⟨vj2,dj,rfl,hb⟩;replace hL:=hL.jn 1 hb;clear hb;have hF:=hL.fx))
  exact⟨rfl,vj2,dj,rfl,hL.pm⟩
 |ok x r=>
  go_enter Tryz.func140,Tryz.ntmps140;go_wp2_with (first|(with_reducible refine zS ?_;intro W hL hF)|(go_at_call 163;(with_reducible refine zM (fun W hL=>HCJ.out _ (ag HB0.out hL HXB.out) hL.h1) ?_);rintro W hL e W ⟨kz,nm,aw,nw,cw,ak,nk,ck,LC,LK,j2,vj2,rfl,HBI,HJ2,hb⟩;replace hL:=hL.jn 1 hb;clear hb;have hF:=hL.fx;replace hL:=hL.in0;clear hF;have hF:=hL.fx))
  refine zF ?_;intro W hL hF;refine bodyPost_ret (by simp[results,Tryz.results140,go_sem, *];try rfl) rfl ?_;exact⟨kz,nm,aw,nw,cw,ak,nk,ck,LC,LK,j2,vj2,rfl,HBI,HJ2,hL.pm⟩
theorem qC{W0:World}{g o cap:Nat}{tvs:List (Tok×Value)}(E:PEnv W0 g o cap tvs){d:Nat}{so:Pa Nd}(HC:cL W0 g o cap tvs 162 d so):gZ W0 g o cap tvs 136 d (closed so 6 [41]):=by
 intro b i v w hB hbb hv hb
 have HCJ:=yh (fun W hB hb=>HC b i v W hB hbb hv hb)
 obtain⟨PL,hpl⟩:∃p:PR Nd,closed so 6 [41] ((TT tvs).drop i)=p:=⟨_,rfl⟩
 rw[hpl]
 unfold closed at hpl
 clear HC
 have HB0:=yh hB
 have HXB:=yh (xb hbb)
 have hL:Kn [b] w w [(b,.cells #[v,.int .i64 (d:Int)] 73 (0,0))]:=Kn.one hb
 have HBS:=yh hb
 clear hB hb
 have hF:=hL.fx
 cases hc:so ((TT tvs).drop i)with
 |bad er m2=>
  rw[hc]at HCJ;have HB9:=yh (bH hpl.symm hc);clear hc hpl;go_enter Tryz.func136,Tryz.ntmps136;go_wp2_with (first|(with_reducible refine zS ?_;intro W hL hF)|(go_at_call 162;(with_reducible refine zM (fun W hL=>HCJ.out _ (ag HB0.out hL HXB.out) hL.h1) ?_);rintro W hL e W ⟨vj2,dj,rfl,hb⟩;replace hL:=hL.jn 1 hb;clear hb;have hF:=hL.fx))
  refine⟨rfl,?_⟩;rw[HB9.out];exact⟨vj2,dj,rfl,hL.pm⟩
 |ok x r=>
  rw[hc]at HCJ;have HB9:=yh (cx hpl.symm hc);clear hc hpl;go_enter Tryz.func136,Tryz.ntmps136;go_upto_region 2 with((go_at_call 162;(with_reducible refine zM (fun W hL=>HCJ.out _ (ag HB0.out hL HXB.out) hL.h1) ?_);rintro W hL e W ⟨nm,aa,na,ca,aw,nw,cw,ar,nr,cr,ak,nk,ck,LN,j2,vj2,rfl,HN,HJ2,hb⟩;replace hL:=hL.jn 1 hb;clear hb;have hF:=hL.fx;replace hL:=hL.in0;clear hF;have hF:=hL.fx;obtain⟨W1,rfl⟩:∃W1:World,W1=W:=⟨_,rfl⟩))
  refine zE ?_;intro W hL hF;have Hvj2:=yh HJ2.out.1;have HB8:=HB9.out;rw[HJ2.out.2]at HB8;have HW1:=yh (fun W hB hb=>eb E b j2 vj2 d W hB hbb Hvj2 hb ⟨#[41]⟩)
  cases hw:aW [41] ((TT tvs).drop j2)with
  |bad er m2=>
   rw[show aW (⟨#[41]⟩:ByteArray).data.toList ((TT tvs).drop j2)=_ from hw]at HW1;replace HB8:=yh (bH HB8 hw);clear hw;go_wp2_with (first|(with_reducible refine zS ?_;intro W hL hF)|(go_at_call 144;(with_reducible refine zM (fun W hL=>HW1.out _ (ag HB0.out hL HXB.out) hL.h2) ?_);rintro W hL e W ⟨vj2,dj,rfl,hb⟩;replace hL:=hL.jn 2 hb;clear hb;have hF:=hL.fx))
   refine⟨rfl,?_⟩;rw[HB8.out];exact⟨vj2,dj,rfl,hL.pm⟩
  |ok u r3=>
   rw[show aW (⟨#[41]⟩:ByteArray).data.toList ((TT tvs).drop j2)=_ from hw]at HW1;replace HB8:=yh (cx HB8 hw);clear hw;go_wp2_with (first|(with_reducible refine zS ?_;intro W hL hF)|(go_at_call 144;(with_reducible refine zM (fun W hL=>HW1.out _ (ag HB0.out hL HXB.out) hL.h2) ?_);rintro W hL e W ⟨_,j3,vj3,rfl,rfl,HJ3,hb⟩;replace hL:=hL.jn 2 hb;clear hb;have hF:=hL.fx))
   refine zF ?_;intro W hL hF;refine bodyPost_ret (by simp[results,Tryz.results136,go_sem, *];try rfl) rfl ?_;rw[HB8.out,HJ3.out.2];exact rD HN.out HJ3.out.1 hL.pm
theorem yi{W0:World}{g o cap:Nat}{tvs:List (Tok×Value)}(E:PEnv W0 g o cap tvs){d:Nat}{so:Pa Nd}(HC:cL W0 g o cap tvs 162 d so):gZ W0 g o cap tvs 137 d (closed so 7 [125]):=by
 intro b i v w hB hbb hv hb
 have HCJ:=yh (fun W hB hb=>HC b i v W hB hbb hv hb)
 obtain⟨PL,hpl⟩:∃p:PR Nd,closed so 7 [125] ((TT tvs).drop i)=p:=⟨_,rfl⟩
 rw[hpl]
 unfold closed at hpl
 clear HC
 have HB0:=yh hB
 have HXB:=yh (xb hbb)
 have hL:Kn [b] w w [(b,.cells #[v,.int .i64 (d:Int)] 73 (0,0))]:=Kn.one hb
 have HBS:=yh hb
 clear hB hb
 have hF:=hL.fx
 cases hc:so ((TT tvs).drop i)with
 |bad er m2=>
  rw[hc]at HCJ;have HB9:=yh (bH hpl.symm hc);clear hc hpl;go_enter Tryz.func137,Tryz.ntmps137;go_wp2_with (first|(with_reducible refine zS ?_;intro W hL hF)|(go_at_call 162;(with_reducible refine zM (fun W hL=>HCJ.out _ (ag HB0.out hL HXB.out) hL.h1) ?_);rintro W hL e W ⟨vj2,dj,rfl,hb⟩;replace hL:=hL.jn 1 hb;clear hb;have hF:=hL.fx))
  refine⟨rfl,?_⟩;rw[HB9.out];exact⟨vj2,dj,rfl,hL.pm⟩
 |ok x r=>
  rw[hc]at HCJ;have HB9:=yh (cx hpl.symm hc);clear hc hpl;go_enter Tryz.func137,Tryz.ntmps137;go_upto_region 2 with((go_at_call 162;(with_reducible refine zM (fun W hL=>HCJ.out _ (ag HB0.out hL HXB.out) hL.h1) ?_);rintro W hL e W ⟨nm,aa,na,ca,aw,nw,cw,ar,nr,cr,ak,nk,ck,LN,j2,vj2,rfl,HN,HJ2,hb⟩;replace hL:=hL.jn 1 hb;clear hb;have hF:=hL.fx;replace hL:=hL.in0;clear hF;have hF:=hL.fx;obtain⟨W1,rfl⟩:∃W1:World,W1=W:=⟨_,rfl⟩))
  refine zE ?_;intro W hL hF;have Hvj2:=yh HJ2.out.1;have HB8:=HB9.out;rw[HJ2.out.2]at HB8;have HW1:=yh (fun W hB hb=>eb E b j2 vj2 d W hB hbb Hvj2 hb ⟨#[125]⟩)
  cases hw:aW [125] ((TT tvs).drop j2)with
  |bad er m2=>
   rw[show aW (⟨#[125]⟩:ByteArray).data.toList ((TT tvs).drop j2)=_ from hw]at HW1;replace HB8:=yh (bH HB8 hw);clear hw;go_wp2_with (first|(with_reducible refine zS ?_;intro W hL hF)|(go_at_call 144;(with_reducible refine zM (fun W hL=>HW1.out _ (ag HB0.out hL HXB.out) hL.h2) ?_);rintro W hL e W ⟨vj2,dj,rfl,hb⟩;replace hL:=hL.jn 2 hb;clear hb;have hF:=hL.fx))
   refine⟨rfl,?_⟩;rw[HB8.out];exact⟨vj2,dj,rfl,hL.pm⟩
  |ok u r3=>
   rw[show aW (⟨#[125]⟩:ByteArray).data.toList ((TT tvs).drop j2)=_ from hw]at HW1;replace HB8:=yh (cx HB8 hw);clear hw;go_wp2_with (first|(with_reducible refine zS ?_;intro W hL hF)|(go_at_call 144;(with_reducible refine zM (fun W hL=>HW1.out _ (ag HB0.out hL HXB.out) hL.h2) ?_);rintro W hL e W ⟨_,j3,vj3,rfl,rfl,HJ3,hb⟩;replace hL:=hL.jn 2 hb;clear hb;have hF:=hL.fx))
   refine zF ?_;intro W hL hF;refine bodyPost_ret (by simp[results,Tryz.results137,go_sem, *];try rfl) rfl ?_;rw[HB8.out,HJ3.out.2];exact rD HN.out HJ3.out.1 hL.pm
theorem BP{t:TypeId}{g:Nat}{x:Value}:RowL 1 t [(g,.cells #[x] t (0,0))] (.slice (some ⟨g,0,none⟩) 1 1) 1 [x]:=
 .inr ⟨g,1,_,rfl,rfl,rfl,by omega,by decide,rfl,rfl⟩
theorem kE{l:List Tok}{j j2:Nat}{ps:List Prt}{r:List Tok}(h:bT (l.drop j)=.ok ps r)(hr:r=l.drop j2)(h1:j<=l.length)(h2:j2<=l.length):j+1<=j2:=by
 have:=fR (l.drop j)
 rw[h]at this
 have:=this.2
 rw[hr,List.length_drop,List.length_drop]at this
 omega
theorem yj{W0:World}{b d j g o cap gq:Nat}{tvs:List (Tok×Value)}{w W:World}{vj:Value}{kind:Nat}{x:Nd}{wv:List (List Prt×Value)}{nm:ByteArray}{aa:Option Addr}{na:Nat}{ca:Nat}{aw:Option Addr}{nw:Nat}{cw:Nat}{ar:Option Addr}{nr:Nat}{cr:Nat}{ak:Option Addr}{nk:Nat}{ck:Nat}{awv:Option Addr}{cwv:Nat}{LN LW:List (Nat×Obj)}(HN:NodeL W0 LN x [.int .i64 (x.kind:Int),.string nm,.bool x.neg,.slice aa na ca,.slice aw nw cw,.slice ar nr cr,.slice ak nk ck])(HRW:RowL 1 29 LW (.slice awv wv.length cwv) wv.length (wv.flatMap fun x=>[x.2]))(HPW:∀x∈wv,PRm W0 [] x.2 x.1)(Hvj:AtV g o cap tvs j vj)
  (hL:Kn [b] w W ((b,.cells #[vj,.int .i64 (d:Int)] 73 (0,0))::(gq,.cells #[.int .i64 (x.kind:Int),.string nm,.bool x.neg,.slice aa na ca,.slice aw nw cw,.slice ar nr cr,.slice ak nk ck] 41 (0,0))::(LN++LW))):
  db W0 b d g o cap tvs w (.ok (.mk kind [] false [] (wv.map (·.1)) [] [x]) ((TT tvs).drop j)) (.returned (.agg #[.int .i64 (kind:Int),.string ⟨#[]⟩,.bool false,.slice none 0 0,.slice awv wv.length cwv,.slice none 0 0,.slice (some ⟨gq,0,none⟩) 1 1])) W:=
 ⟨⟨#[]⟩,none,0,0,awv,wv.length,cwv,none,0,0,some ⟨gq,0,none⟩,1,1,(gq,.cells #[.int .i64 (x.kind:Int),.string nm,.bool x.neg,.slice aa na ca,.slice aw nw cw,.slice ar nr cr,.slice ak nk ck] 41 (0,0))::(LN++LW),j,vj,rfl,yh (NodeL.of (name:=[]) (ks:=[(x,[.int .i64 (x.kind:Int),.string nm,.bool x.neg,.slice aa na ca,.slice aw nw cw,.slice ar nr cr,.slice ak nk ck])]) (RowL.rowM (fun _=>rfl) HRW fun p hp=>List.mem_cons_of_mem _ (List.mem_append_right _ hp)) (fun x hx=>(HPW x hx).mono fun p hp=>by cases hp) (RowM.one m0 (Nat.le_refl _)) (fun y hy=>by rw[List.mem_singleton.1 hy];exact HN.mono fun p hp=>List.mem_cons_of_mem _ (List.mem_append_left _ hp))),yh ⟨Hvj,rfl⟩,hL⟩
theorem yl{T:Type}{ws:List (List Prt)}{ts:List Tok}{p:PR T}{F:List (List Prt)->List Tok->PR T}(hf:∃f,ts.length<=f/\p=(e_ f ws ts).bind F)(h:aS [124] ts=false):p=F ws ts:=by
 obtain⟨f,_,hf⟩:=hf
 cases f with
 |zero=>exact hf
 |succ f=>rw[hf,e_,if_neg (by rw[h];decide)];rfl
theorem vi{T:Type}{ws:List (List Prt)}{l:List Tok}{j:Nat}{p:PR T}{F:List (List Prt)->List Tok->PR T}(hf:∃f,(l.drop j).length<=f/\p=(e_ f ws (l.drop j)).bind F)(h:aS [124] (l.drop j)=true):
  ∃f,(l.drop (j+1)).length<=f/\p=(bT (l.drop (j+1))).bind fun w r=>(e_ f (ws++[w]) r).bind F:=by
 obtain⟨f,hf1,hf⟩:=hf
 have:=dR (eW h)
 rw[bE]at this
 cases f with
 |zero=>omega
 |succ f=>
  refine⟨f,by omega,?_⟩;rw[hf,e_,if_pos h,bE,lX]
theorem BQ{W0:World}{g o cap:Nat}{tvs:List (Tok×Value)}(E:PEnv W0 g o cap tvs){d:Nat}{li:Pa Nd}(HC:cL W0 g o cap tvs 26 d li):cL W0 g o cap tvs 165 d (arm li):=by
 intro b i v w hB hbb hv hb
 obtain⟨k1,hk1⟩:∃z:Bool,aS [40] ((TT tvs).drop i)=z:=⟨_,rfl⟩
 have HK1:Hid (aS (⟨#[40]⟩:ByteArray).data.toList ((TT tvs).drop i)=k1):=yh hk1
 obtain⟨i1,hi1⟩:∃z:Nat,(if k1=true then i+1 else i)=z:=⟨_,rfl⟩
 have HP:arm li ((TT tvs).drop i)=(bT ((TT tvs).drop i1)).bind fun w r=>(e_ r.length [w] r).bind fun ws r=>(aW [41] r).bind fun _ r=>(li r).bind fun n r=>(aW [59,59] r).bind fun _ r=>.ok (.mk 13 [] false [] ws [] [n]) r:=by
  show(bT (if aS [40] ((TT tvs).drop i)then((TT tvs).drop i).tail else(TT tvs).drop i)).bind _=_
  rw[hk1,<- hi1]
  cases k1<;>simp only[Bool.false_eq_true,if_false,if_true,List.tail_drop]
 obtain⟨PL,hpl⟩:∃p:PR Nd,arm li ((TT tvs).drop i)=p:=⟨_,rfl⟩
 rw[hpl]
 rw[hpl]at HP
 have HPL:=yh HP
 have HI1:=yh hi1
 have HCC:=yh HC
 clear hk1 hi1 HP HC hpl
 have hi:=hv.out.1
 have hmx:=E.max
 have HB0:=yh hB
 have HXB:=yh (xb hbb)
 have hL:Kn [b] w w [(b,.cells #[v,.int .i64 (d:Int)] 73 (0,0))]:=Kn.one hb
 have HBS:=yh hb
 clear hB hb
 have hF:=hL.fx
 go_enter Tryz.func165,Tryz.ntmps165
 go_upto_if 5 with((go_at_call 52;(with_reducible refine zM (fun W hL=>eC E b i v (d:Int) _ (ag HB0.out hL HXB.out) hbb hv hL.h1 ⟨#[40]⟩ _ HK1) ?_);rintro W hL e W ⟨rfl,hb⟩;replace hL:=hL.below hb;clear hb;skip;have hF:=hL.fx))
 go_cut [] (fun wc=>∃(vj:Value),Hid (AtV g o cap tvs i1 vj)/\Kn [b] w wc ((b,.cells #[vj,.int .i64 (d:Int)] 73 (0,0))::(w.heap.size,.cells #[.int .i64 0,.string ⟨#[]⟩,.bool false,.slice none 0 0,.slice none 0 0,.slice none 0 0,.slice none 0 0] 41 (0,0))::[]))
 case first=>
  cases k1
  ·obtain rfl:i=i1:=HI1.out
   go_wp2;go_meet
   case rel=>exact⟨v,hv,by refine Kn.name ?_;clear hL;intro hL;exact hL.pm⟩
  ·have HNE:=yh (eW HK1.out)
   obtain rfl:i+1=i1:=HI1.out;go_wp2_with (first|(with_reducible refine zS ?_;intro W hL hF)|(go_at_call 53;(with_reducible refine zM (fun W hL=>ea E b i v (d:Int) _ (ag HB0.out hL HXB.out) hbb hv hL.h1 HNE.out) ?_);rintro W hL e W ⟨x1,pa1,pn1,pc1,vj,rfl,HTX,HVJ,hb⟩;replace hL:=hL.jn 1 hb;clear hb;have hF:=hL.fx))
   go_meet
   case rel=>exact⟨vj,HVJ,by refine Kn.name ?_;clear hL;intro hL;exact hL.pm⟩
 case rest=>
  clear hL;obtain⟨vj,Hvj,hL⟩:=hcut;have hF:=hL.fx;have hi1:=Hvj.out.1;have hi2:i1<=i+1:=by rw[<- HI1.out];split<;>omega
  have HWD:=yh (fun W hB hb=>mG E b i1 vj d W hB hbb Hvj hb)
  cases hw:bT ((TT tvs).drop i1)with
  |bad er m2=>
   rw[hw]at HWD;have HB9:=yh (bH HPL.out hw);clear hw;go_wp2_with (first|(with_reducible refine zS ?_;intro W hL hF)|(go_at_call 164;(with_reducible refine zM (fun W hL=>HWD.out _ (ag HB0.out hL HXB.out) hL.h0) ?_);rintro W hL e W ⟨vj2,dj,rfl,hb⟩;replace hL:=hL.jn 0 hb;clear hb;have hF:=hL.fx))
   refine⟨rfl,?_⟩;rw[HB9.out];exact⟨vj2,dj,rfl,hL.pm⟩
  |ok ps r=>
   rw[hw]at HWD;have HB9:=yh (cx HPL.out hw);have HLE:=yh (fun j2 (hr:r=(TT tvs).drop j2) (h:j2<tvs.length)=>kE (l:=TT tvs) hw hr (by rw[eX];omega) (by rw[eX];omega));clear hw;go_wp2_with (first|(with_reducible refine zS ?_;intro W hL hF)|(go_at_call 164;(with_reducible refine zM (fun W hL=>HWD.out _ (ag HB0.out hL HXB.out) hL.h0) ?_);rintro W hL e W ⟨_,j2,vj2,rfl,⟨x2,pa2,pn2,pc2,hm2,hq2,rfl,hps⟩,HJ2,hb⟩;replace hL:=hL.jn 0 hb;clear hb;have hF:=hL.fx;have g3:=sW x2.1.kind x2.1.fd x2.1.line ⟨x2.1.text.toArray⟩ ⟨x2.1.plain.toArray⟩ pa2 pn2 pc2;obtain⟨W1,rfl⟩:∃W1:World,W1=W:=⟨_,rfl⟩))
   have hj2:=HJ2.out.1.1;have hle:=HLE.out _ HJ2.out.2 hj2;go_loopg [] (tvs.length-j2) (fun n wr=>∃(j:Nat) (vj:Value) (wv:List (List Prt×Value)) (aw:Option Addr) (cw:Nat) (LW:List (Nat×Obj)),n=tvs.length-j/\Hid (AtV g o cap tvs j vj)/\Hid (∃f,((TT tvs).drop j).length<=f/\PL=(e_ f (wv.map (·.1)) ((TT tvs).drop j)).bind fun ws r=>(aW [41] r).bind fun _ r=>(li r).bind fun n r=>(aW [59,59] r).bind fun _ r=>.ok (.mk 13 [] false [] ws [] [n]) r)/\Hid (RowL 1 29 LW (.slice aw wv.length cw) wv.length (wv.flatMap fun x=>[x.2]))/\Hid (∀x∈wv,PRm W0 [] x.2 x.1)/\wv.length<=j/\j<tvs.length/\Kn [b] w wr ((b,.cells #[vj,.int .i64 (d:Int)] 73 (0,0))::(W1.heap.size+1,.cells #[.int .i64 13,.string ⟨#[]⟩,.bool false,.slice none 0 0,.slice aw wv.length cw,.slice none 0 0,.slice none 0 0] 41 (0,0))::(w.heap.size,.cells #[.int .i64 0,.string ⟨#[]⟩,.bool false,.slice none 0 0,.slice none 0 0,.slice none 0 0,.slice none 0 0] 41 (0,0))::LW))
   case atStart=>exact⟨j2,vj2,[(ps,.slice pa2 pn2 pc2)],some ⟨W1.heap.size,0,none⟩,1,[(W1.heap.size,.cells #[.slice pa2 pn2 pc2] 29 (0,0))],rfl,yh HJ2.out.1,yh (by have h9:=HB9.out;rw[HJ2.out.2]at h9;exact⟨_,Nat.le_refl _,h9⟩),yh BP,yh (fun x hx=>by rw[List.mem_singleton.1 hx];have:=fh E hm2 (L:=[]);rw[hq2,<- hps]at this;exact this),by simp only[List.length_singleton];omega,hj2,by refine Kn.name ?_;clear hL;intro hL;simp only[List.length_append,List.length_singleton];exact hL.pm⟩
   case round=>(
    clear hL;obtain⟨j,vj,wv,aw,cw,LW,rfl,Hvj,HF,HRW,HPW,hsz,hjl,hL⟩:=hrel;have hF:=hL.fx;obtain⟨k3,hk3⟩:∃z:Bool,aS [124] ((TT tvs).drop j)=z:=⟨_,rfl⟩;have HK3:Hid (aS (⟨#[124]⟩:ByteArray).data.toList ((TT tvs).drop j)=k3):=yh hk3;clear hk3
    cases k3
    ·have HB1:=yh (yl HF.out HK3.out)
     go_upto_region 7 with((go_at_call 52;(with_reducible refine zM (fun W hL=>eC E b j vj (d:Int) _ (ag HB0.out hL HXB.out) hbb Hvj hL.h0 ⟨#[124]⟩ _ HK3) ?_);rintro W hL e W ⟨rfl,hb⟩;replace hL:=hL.below hb;clear hb;skip;have hF:=hL.fx))
     have HB2:=HB1.out;have HW1:=yh (fun W hB hb=>eb E b j vj d W hB hbb Hvj hb ⟨#[41]⟩)
     cases hw:aW [41] ((TT tvs).drop j)with
     |bad er m2=>
      rw[show aW (⟨#[41]⟩:ByteArray).data.toList ((TT tvs).drop j)=_ from hw]at HW1;replace HB2:=yh (bH HB2 hw);clear hw;go_wp2_with (first|(with_reducible refine zS ?_;intro W hL hF)|(go_at_call 144;(with_reducible refine zM (fun W hL=>HW1.out _ (ag HB0.out hL HXB.out) hL.h0) ?_);rintro W hL e W ⟨vj2,dj,rfl,hb⟩;replace hL:=hL.jn 0 hb;clear hb;have hF:=hL.fx))
      refine⟨rfl,?_⟩;rw[HB2.out];exact⟨vj2,dj,rfl,hL.pm⟩
     |ok u r3=>
      rw[show aW (⟨#[41]⟩:ByteArray).data.toList ((TT tvs).drop j)=_ from hw]at HW1;replace HB2:=cx HB2 hw;clear hw;replace HB2:=yh HB2;go_upto_region 8 with((go_at_call 144;(with_reducible refine zM (fun W hL=>HW1.out _ (ag HB0.out hL HXB.out) hL.h0) ?_);rintro W hL e W ⟨_,j3,vj3,rfl,rfl,HJ3,hb⟩;replace hL:=hL.jn 0 hb;clear hb;have hF:=hL.fx))
      have Hvj3:=yh HJ3.out.1;have HB3:=HB2.out;rw[HJ3.out.2]at HB3;have HCJ:=yh (fun W hB hb=>HCC.out b j3 vj3 W hB hbb Hvj3 hb)
      cases hc:li ((TT tvs).drop j3)with
      |bad er m2=>
       rw[hc]at HCJ;replace HB3:=yh (bH HB3 hc);clear hc;go_wp2_with (first|(with_reducible refine zS ?_;intro W hL hF)|(go_at_call 26;(with_reducible refine zM (fun W hL=>HCJ.out _ (ag HB0.out hL HXB.out) hL.h0) ?_);rintro W hL e W ⟨vj2,dj,rfl,hb⟩;replace hL:=hL.jn 0 hb;clear hb;have hF:=hL.fx))
       refine⟨rfl,?_⟩;rw[HB3.out];exact⟨vj2,dj,rfl,hL.pm⟩
      |ok n r4=>
       rw[hc]at HCJ;replace HB3:=yh (cx HB3 hc);clear hc;go_upto_region 9 with((go_at_call 26;(with_reducible refine zM (fun W hL=>HCJ.out _ (ag HB0.out hL HXB.out) hL.h0) ?_);rintro W hL e W ⟨nm,aa,na,ca,aw,nw,cw,ar,nr,cr,ak,nk,ck,LN,j4,vj4,rfl,HN,HJ4,hb⟩;replace hL:=hL.jn 0 hb;clear hb;have hF:=hL.fx;replace hL:=hL.inP;clear hF;have hF:=hL.fx;obtain⟨W2,rfl⟩:∃W2:World,W2=W:=⟨_,rfl⟩))
       refine zE ?_;intro W hL hF;have Hvj4:=yh HJ4.out.1;have HB4:=HB3.out;rw[HJ4.out.2]at HB4;have HW2:=yh (fun W hB hb=>eb E b j4 vj4 d W hB hbb Hvj4 hb ⟨#[59,59]⟩)
       cases hw:aW [59,59] ((TT tvs).drop j4)with
       |bad er m2=>
        rw[show aW (⟨#[59,59]⟩:ByteArray).data.toList ((TT tvs).drop j4)=_ from hw]at HW2;replace HB4:=yh (bH HB4 hw);clear hw;go_wp2_with (first|(with_reducible refine zS ?_;intro W hL hF)|(go_at_call 144;(with_reducible refine zM (fun W hL=>HW2.out _ (ag HB0.out hL HXB.out) hL.h1) ?_);rintro W hL e W ⟨vj2,dj,rfl,hb⟩;replace hL:=hL.jn 1 hb;clear hb;have hF:=hL.fx))
        refine⟨rfl,?_⟩;rw[HB4.out];exact⟨vj2,dj,rfl,hL.pm⟩
       |ok u r5=>
        rw[show aW (⟨#[59,59]⟩:ByteArray).data.toList ((TT tvs).drop j4)=_ from hw]at HW2;replace HB4:=yh (cx HB4 hw);clear hw;go_wp2_with (first|(with_reducible refine zS ?_;intro W hL hF)|(go_at_call 144;(with_reducible refine zM (fun W hL=>HW2.out _ (ag HB0.out hL HXB.out) hL.h1) ?_);rintro W hL e W ⟨_,j5,vj5,rfl,rfl,HJ5,hb⟩;replace hL:=hL.jn 1 hb;clear hb;have hF:=hL.fx))
        refine zF ?_;intro W hL hF;refine bodyPost_ret (by simp[results,Tryz.results165,go_sem, *];try rfl) rfl ?_;rw[HB4.out,HJ5.out.2];exact yj HN.out HRW.out HPW.out HJ5.out.1 hL.pm
    ·have HNE2:=yh (eW HK3.out)
     go_upto_region 6 with(first|(go_at_call 52;(with_reducible refine zM (fun W hL=>eC E b j vj (d:Int) _ (ag HB0.out hL HXB.out) hbb Hvj hL.h0 ⟨#[124]⟩ _ HK3) ?_);rintro W hL e W ⟨rfl,hb⟩;replace hL:=hL.below hb;clear hb;skip;have hF:=hL.fx)|(go_at_call 53;(with_reducible refine zM (fun W hL=>ea E b j vj (d:Int) _ (ag HB0.out hL HXB.out) hbb Hvj hL.h0 HNE2.out) ?_);rintro W hL e W ⟨x1,pa1,pn1,pc1,vj1,rfl,HTX2,HVJ1,hb⟩;replace hL:=hL.jn 0 hb;clear hb;have hF:=hL.fx))
     have HF2:=vi HF.out HK3.out;have HWD2:=yh (fun W hB hb=>mG E b (j+1) vj1 d W hB hbb HVJ1 hb);have hj1:=HVJ1.out.1
     cases hw2:bT ((TT tvs).drop (j+1))with
     |bad er m2=>
      rw[hw2]at HWD2;have HB8:=yh (by obtain⟨f,_,hf⟩:=HF2;exact bH hf hw2:PL=.bad er m2);clear hw2 HF2;go_wp2_with (first|(with_reducible refine zS ?_;intro W hL hF)|((with_reducible refine af 6 ?_);refine zE ?_;intro W hL hF;refine b' [0,1,2,3,4,5,6,7,8] [0,1,2,4,7] [6,8] [0,2,4,7] (by kernel_rfl) (by kernel_rfl) (sD (sC sN)) ?_;clear hF hL;intro Qp hQp;replace hQp:=yh hQp;intro ι F hne hC hFF;have hG:=fun n=>(hFF n).fx;clear hFF;(repeat(first|(refine cS ?_)|((first|refine cF hC ?_|refine cP ?_);intro K hK;go_big_quiet_op;go_big_quiet_on)|(refine cE ?_;intro W hL hF;go_at_call 164;(with_reducible refine(HWD2.out _ (ag HB0.out hL HXB.out) hL.h0).mono ?_);rintro e W ⟨vj2,dj,rfl,hb⟩;replace hL:=hL.jn 0 hb;clear hb hF;have hF:=hL.fx;refine⟨_,rfl,hQp.out _ _ ?_⟩;clear hQp;intro a' ha;simp only[Exit.then,Exit.inBlock];refine⟨ha,?_⟩;show db W0 b d g o cap tvs w (PL) _ _;rw[HB8.out];exact⟨vj2,dj,rfl,hL.pm⟩)|(refine cM ?_;intro W hL hF;go_wp2;refine zB2 ?_;clear hL hC hG;intro ι F hne hC hG)));((done))))
     |ok ps r=>
      rw[hw2]at HWD2;have HF3:=yh (by obtain⟨f,hf1,hf⟩:=HF2;exact⟨f,hf1,cx hf hw2⟩:∃f,((TT tvs).drop (j+1)).length<=f/\PL=(e_ f (wv.map (·.1)++[ps]) r).bind fun ws r=>(aW [41] r).bind fun _ r=>(li r).bind fun n r=>(aW [59,59] r).bind fun _ r=>.ok (.mk 13 [] false [] ws [] [n]) r);have HLE2:=yh (fun j2 (hr:r=(TT tvs).drop j2) (h:j2<tvs.length)=>kE (l:=TT tvs) hw2 hr (by rw[eX];omega) (by rw[eX];omega));clear hw2 HF2;go_wp2_with (first|(with_reducible refine zS ?_;intro W hL hF)|((with_reducible refine af 6 ?_);refine zX [0,1,2,3,4,5,6,7,8] [6,8] ?_ (sD (sC sN));clear hF hL;intro ι F hne hC hG;(repeat(first|(refine cS ?_)|((first|refine cF hC ?_|refine cP ?_);intro K hK;go_big_quiet_op;go_big_quiet_on)|(refine cD ?_;intro W hL hF;go_at_call 164;(with_reducible refine(HWD2.out _ (ag HB0.out hL HXB.out) hL.h0).mono ?_);rintro e W ⟨_,j2,vj2,rfl,⟨x2,pa2,pn2,pc2,hm2,hq2,rfl,hps⟩,HJ2,hb⟩;replace hL:=hL.jn 0 hb;clear hb hF;have hF:=hL.fx;have g3:=sW x2.1.kind x2.1.fd x2.1.line ⟨x2.1.text.toArray⟩ ⟨x2.1.plain.toArray⟩ pa2 pn2 pc2;refine bM ?_;((refine a_ _ (by repeat' (first|(with_reducible exact List.nil_sublist _)|(with_reducible apply List.Sublist.cons_cons)|(with_reducible apply List.Sublist.cons))) ?_;clear hL hF));simp only[Act.put,zT])|(refine cM ?_;intro W hL hF;at_builtin;(refine ah rfl _ _ 37 37 rfl [_,_,_,_] LW hL wv.length 1 (wv.flatMap fun x=>[x.2]) [.slice pa2 pn2 pc2] _ _ HRW.out rfl rfl (fun ho=>ej rfl (fun j u hu=>by rw[Go.WideShapes.add_plain,Nat.zero_add,aK hL m0];simpa using hu) (by intro u hu;simp only[List.mem_cons,List.not_mem_nil,or_false]at hu;subst hu;rfl) (by omega) ho) ?_);intro LP3 a3 c3 W3 hL2 hr3;clear hL hF;have hL:=hL2;clear hL2;simp only[List.append_eq,List.cons_append,List.nil_append]at hL;have hF:=hL.fx;go_wp2;refine zB2 ?_;clear hL hF hC hG;intro ι F hne hC hG)|(refine cM ?_;intro W hL hF;go_wp2;refine ai ?_;(first|(refine bO _ (by rfl) ?_;clear hL hF hC hG;intro ι F hne hC hFF;have hG:=fun n=>(hFF n).fx;clear hFF)|(refine a_ _ (by repeat' (first|(with_reducible exact List.nil_sublist _)|(with_reducible apply List.Sublist.cons_cons)|(with_reducible apply List.Sublist.cons))) ?_;clear hL hF)))));refine zN ?_;clear hC hG;intro W hL hF))
      have hj4:=HJ2.out.1.1;have hle2:=HLE2.out _ HJ2.out.2 hj4;go_roundg (tvs.length-j2)
      case measure=>omega
      case rel=>exact⟨j2,vj2,wv++[(ps,.slice pa2 pn2 pc2)],a3,c3,LP3,rfl,yh HJ2.out.1,yh (by obtain⟨f,hf1,hf⟩:=HF3.out;rw[HJ2.out.2]at hf;exact⟨f,by rw[List.length_drop]at hf1 |-;omega,by simpa using hf⟩),yh (by simpa using hr3),yh (bY HPW.out (by have:=fh E hm2 (L:=[]);rw[hq2,<- hps]at this;exact this)),by simp only[List.length_append,List.length_singleton];omega,hj4,by refine Kn.name ?_;clear hL;intro hL;simp only[List.length_append,List.length_singleton];exact hL.pm⟩)
section
variable {ar:Pa Nd} {ts:List Tok} {ns:List Nd} {p:PR Nd} {F:List Nd->List Tok->PR Nd}
theorem tn(hf:∃(f:Nat) (us:List Tok),ts.length<f/\au us=ts/\p=(de ar f ns us).bind F)(he:bS [eT] ts=true):p=F ns ts:=by
 obtain⟨f,us,h1,h2,h3⟩:=hf
 cases f with
 |zero=>omega
 |succ f=>rw[h3,de,h2,if_pos he];rfl
theorem vl{x:Nd}{r:List Tok}(hf:∃(f:Nat) (us:List Tok),ts.length<f/\au us=ts/\p=(de ar f ns us).bind F)(he:bS [eT] ts=false)(hx:ar ts=.ok x r):
  ∃f:Nat,ts.length<=f/\p=(de ar f (ns++[x]) r).bind F:=by
 obtain⟨f,us,h1,h2,h3⟩:=hf
 cases f with
 |zero=>omega
 |succ f=>
  refine⟨f,by omega,?_⟩;rw[h3,de,h2,if_neg (by rw[he];decide),hx];rfl
theorem tp{e m:Nat}(hf:∃(f:Nat) (us:List Tok),ts.length<f/\au us=ts/\p=(de ar f ns us).bind F)(he:bS [eT] ts=false)(hx:ar ts=.bad e m):p=.bad e m:=by
 obtain⟨f,us,h1,h2,h3⟩:=hf
 cases f with
 |zero=>omega
 |succ f=>rw[h3,de,h2,if_neg (by rw[he];decide),hx];rfl
end
theorem AY{W0:World}{b d j g o cap gw:Nat}{tvs:List (Tok×Value)}{w W:World}{vj vp:Value}{ps:List Prt}{ks:List (Nd×List Value)}{ak:Option Addr}{ck:Nat}{LC LK:List (Nat×Obj)}(HP:PRm W0 [] vp ps)(HM:(gw,Obj.cells #[vp] 29 (0,0))∈LC)(HRK:RowL 7 41 LK (.slice ak ks.length ck) ks.length (ks.flatMap (·.2)))(HK:∀x∈ks,NodeL W0 LC x.1 x.2)(Hvj:AtV g o cap tvs j vj)
  (hL:Kn [b] w W ((b,.cells #[vj,.int .i64 (d:Int)] 73 (0,0))::(LC++LK))):
  gE W0 b d g o cap tvs w (.ok (.mk 12 [] false [] [ps] [] (ks.map (·.1))) ((TT tvs).drop j)) (.returned (.agg #[.int .i64 12,.string ⟨#[]⟩,.bool false,.slice none 0 0,.slice (some ⟨gw,0,none⟩) 1 1,.slice none 0 0,.slice ak ks.length ck])) W:=
 ⟨12,⟨#[]⟩,some ⟨gw,0,none⟩,1,1,ak,ks.length,ck,LC,LK,j,vj,rfl,yh ⟨12,[(ps,vp)],ks,rfl,rfl,RowM.one (cs:=[vp]) HM (Nat.le_refl _),(fun x hx=>by rw[List.mem_singleton.1 hx];exact HP.mono fun p hp=>by cases hp),rfl,HRK,HK⟩,yh ⟨Hvj,rfl⟩,hL⟩
theorem vm{W0:World}{g o cap:Nat}{tvs:List (Tok×Value)}(E:PEnv W0 g o cap tvs){d:Nat}{ar:Pa Nd}(hw:Wp ar 1)(HC:cL W0 g o cap tvs 165 d ar):gZ W0 g o cap tvs 142 d (fun ts=>(bT ts).bind fun ps r=>(aW kIn (au r)).bind fun _ r=>(de ar (r.length+1) [] r).bind fun l r=>(aW eT r).bind fun _ r=>.ok (.mk 12 [] false [] [ps] [] l) r):=by
 intro b i v w hB hbb hv hb
 obtain⟨PL,hpl⟩:∃p:PR Nd,((bT ((TT tvs).drop i)).bind fun ps r=>(aW kIn (au r)).bind fun _ r=>(de ar (r.length+1) [] r).bind fun l r=>(aW eT r).bind fun _ r=>.ok (.mk 12 [] false [] [ps] [] l) r)=p:=⟨_,rfl⟩
 show Calls _ _ _ _ (gE W0 b d g o cap tvs w ((bT ((TT tvs).drop i)).bind fun ps r=>(aW kIn (au r)).bind fun _ r=>(de ar (r.length+1) [] r).bind fun l r=>(aW eT r).bind fun _ r=>.ok (.mk 12 [] false [] [ps] [] l) r))
 rw[hpl]
 have HW:=yh hw
 have HCC:=yh HC
 clear hw HC
 have hi:=hv.out.1
 have hmx:=E.max
 have HWD:=yh (fun W hB hb=>mG E b i v d W hB hbb hv hb)
 have HB0:=yh hB
 have HXB:=yh (xb hbb)
 have hL:Kn [b] w w [(b,.cells #[v,.int .i64 (d:Int)] 73 (0,0))]:=Kn.one hb
 have HBS:=yh hb
 clear hB hb
 have hF:=hL.fx
 cases hw:bT ((TT tvs).drop i)with
 |bad er m2=>
  rw[hw]at HWD;have HB9:=yh (bH hpl.symm hw);clear hw hpl;go_enter Tryz.func142,Tryz.ntmps142;go_wp2_with (first|(with_reducible refine zS ?_;intro W hL hF)|(go_at_call 164;(with_reducible refine zM (fun W hL=>HWD.out _ (ag HB0.out hL HXB.out) hL.h1) ?_);rintro W hL e W ⟨vj2,dj,rfl,hb⟩;replace hL:=hL.jn 1 hb;clear hb;have hF:=hL.fx))
  refine⟨rfl,?_⟩;rw[HB9.out];exact⟨vj2,dj,rfl,hL.pm⟩
 |ok ps r=>
  rw[hw]at HWD;have HB9:=yh (cx hpl.symm hw);clear hw hpl;go_enter Tryz.func142,Tryz.ntmps142;go_upto_region 2 with((go_at_call 164;(with_reducible refine zM (fun W hL=>HWD.out _ (ag HB0.out hL HXB.out) hL.h1) ?_);rintro W hL e W ⟨_,j2,vj2,rfl,⟨x2,pa2,pn2,pc2,hm2,hq2,rfl,hps⟩,HJ2,hb⟩;replace hL:=hL.jn 1 hb;clear hb;have hF:=hL.fx;have g3:=sW x2.1.kind x2.1.fd x2.1.line ⟨x2.1.text.toArray⟩ ⟨x2.1.plain.toArray⟩ pa2 pn2 pc2;obtain⟨W1,rfl⟩:∃W1:World,W1=W:=⟨_,rfl⟩))
  refine zE ?_;intro W hL hF;have HPS:Hid (PRm W0 [] (.slice pa2 pn2 pc2) ps):=yh (by have:=fh E hm2 (L:=[]);rw[hq2,<- hps]at this;exact this);have Hvj2:=yh HJ2.out.1;go_upto_region 3 with((go_at_call 49;(with_reducible refine zM (fun W hL=>dT E b j2 vj2 d _ (ag HB0.out hL HXB.out) hbb Hvj2 hL.h2) ?_);rintro W hL e W ⟨j3,vj3,rfl,HJ3,hb⟩;replace hL:=hL.jn 2 hb;clear hb;have hF:=hL.fx))
  have Hvj3:=yh HJ3.out.2.1;have HB8:=HB9.out;rw[HJ2.out.2,HJ3.out.2.2]at HB8;have HWI:=yh (fun W hB hb=>eb E b j3 vj3 d W hB hbb Hvj3 hb ⟨#[105,110]⟩)
  cases hw:aW kIn ((TT tvs).drop j3)with
  |bad er m2=>
   rw[show aW (⟨#[105,110]⟩:ByteArray).data.toList ((TT tvs).drop j3)=_ from hw]at HWI;replace HB8:=yh (bH HB8 hw);clear hw;go_wp2_with (first|(with_reducible refine zS ?_;intro W hL hF)|(go_at_call 144;(with_reducible refine zM (fun W hL=>HWI.out _ (ag HB0.out hL HXB.out) hL.h0) ?_);rintro W hL e W ⟨vj2,dj,rfl,hb⟩;replace hL:=hL.jn 0 hb;clear hb;have hF:=hL.fx))
   refine⟨rfl,?_⟩;rw[HB8.out];exact⟨vj2,dj,rfl,hL.pm⟩
  |ok u r3=>
   rw[show aW (⟨#[105,110]⟩:ByteArray).data.toList ((TT tvs).drop j3)=_ from hw]at HWI;replace HB8:=yh (cx HB8 hw);clear hw;go_upto_region 4 with((go_at_call 144;(with_reducible refine zM (fun W hL=>HWI.out _ (ag HB0.out hL HXB.out) hL.h0) ?_);rintro W hL e W ⟨_,j5,vj5,rfl,rfl,HJ5,hb⟩;replace hL:=hL.jn 0 hb;clear hb;have hF:=hL.fx))
   have Hvj5:=yh HJ5.out.1;have HB7:=HB8.out;rw[HJ5.out.2]at HB7;replace HB7:=yh HB7;go_wp2_with (first|(with_reducible refine zS ?_;intro W hL hF)|(go_at_call 49;(with_reducible refine zM (fun W hL=>dT E b j5 vj5 d _ (ag HB0.out hL HXB.out) hbb Hvj5 hL.h0) ?_);rintro W hL e W ⟨j6,vj6,rfl,HJ6,hb⟩;replace hL:=hL.jn 0 hb;clear hb;have hF:=hL.fx))
   have hj6:=HJ6.out.2.1.1;go_loopg [] (tvs.length-j6) (fun n wr=>∃(j:Nat) (vj:Value) (ks:List (Nd×List Value)) (ak:Option Addr) (ck:Nat) (LC LK:List (Nat×Obj)),n=tvs.length-j/\Hid (AtV g o cap tvs j vj)/\Hid (∃(f:Nat) (ts:List Tok),((TT tvs).drop j).length<f/\au ts=(TT tvs).drop j/\PL=(de ar f (ks.map (·.1)) ts).bind fun l r=>(aW eT r).bind fun _ r=>.ok (.mk 12 [] false [] [ps] [] l) r)/\Hid (RowL 7 41 LK (.slice ak ks.length ck) ks.length (ks.flatMap (·.2)))/\Hid (∀x∈ks,NodeL W0 LC x.1 x.2)/\Hid ((W1.heap.size,Obj.cells #[.slice pa2 pn2 pc2] 29 (0,0))∈LC)/\ks.length<=j/\j<tvs.length/\Kn [b] w wr ((b,.cells #[vj,.int .i64 (d:Int)] 73 (0,0))::(W1.heap.size+1,.cells #[.int .i64 12,.string ⟨#[]⟩,.bool false,.slice none 0 0,.slice (some ⟨W1.heap.size,0,none⟩) 1 1,.slice none 0 0,.slice ak ks.length ck] 41 (0,0))::(w.heap.size,.cells #[.int .i64 0,.string ⟨#[]⟩,.bool false,.slice none 0 0,.slice none 0 0,.slice none 0 0,.slice none 0 0] 41 (0,0))::(LC++LK)))
   case atStart=>exact⟨j6,vj6,[],none,0,[(W1.heap.size,Obj.cells #[.slice pa2 pn2 pc2] 29 (0,0))],[],rfl,yh HJ6.out.2.1,yh ⟨_,(TT tvs).drop j5,by have:=HJ6.out.1;rw[List.length_drop,List.length_drop];omega,HJ6.out.2.2,HB7.out⟩,yh RowL.nil,yh (by simp),yh m0,Nat.zero_le _,hj6,by refine Kn.name ?_;clear hL;intro hL;exact hL.pm⟩
   case round=>(
    clear hL;obtain⟨j,vj,ks,ak,ck,LC,LK,rfl,Hvj,HF,HRK,HKS,HCM,hsz,hjl,hL⟩:=hrel;have hF:=hL.fx;obtain⟨k3,hk3⟩:∃z:Bool,bS [eT] ((TT tvs).drop j)=z:=⟨_,rfl⟩;have HK3:Hid (bS ([(⟨#[101,115,97,99]⟩:ByteArray)].map fun z=>z.data.toList) ((TT tvs).drop j)=k3):=yh hk3;have HK4:Hid (bS [eT] ((TT tvs).drop j)=k3):=yh hk3;clear hk3
    cases k3
    ·have HCJ:=yh (fun W hB hb=>HCC.out b j vj W hB hbb Hvj hb)
     cases hc:ar ((TT tvs).drop j)with
     |bad er m2=>
      rw[hc]at HCJ;have HB8:=yh (tp HF.out HK4.out hc);clear hc;go_wp2_with (first|(with_reducible refine zS ?_;intro W hL hF)|(go_at_call 86;refine zC (fun W hL=>cK E b j vj (d:Int) _ (ag HB0.out hL HXB.out) hbb Hvj hL.h1 _ 0 1 _ [⟨#[101,115,97,99]⟩] _ HK3 (yh rfl) (by omega) (b8 (ff hL m0)) (by(exact fg hL m0))) ?_;intro W hL hF;replace hL:=hL.drop1;clear hF;have hF:=hL.fx)|((with_reducible refine af 7 ?_);refine zE ?_;intro W hL hF;refine b' [0,1,2,3,4,5,6,7] [0,1,2,6] [5,7] [0,2,6] (by kernel_rfl) (by kernel_rfl) (sD (sC sN)) ?_;clear hF hL;intro Qp hQp;replace hQp:=yh hQp;intro ι F hne hC hFF;have hG:=fun n=>(hFF n).fx;clear hFF;(repeat(first|(refine cS ?_)|((first|refine cF hC ?_|refine cP ?_);intro K hK;go_big_quiet_op;go_big_quiet_on)|(refine cE ?_;intro W hL hF;go_at_call 165;(with_reducible refine(HCJ.out _ (ag HB0.out hL HXB.out) hL.h0).mono ?_);rintro e W ⟨vj2,dj,rfl,hb⟩;replace hL:=hL.jn 0 hb;clear hb hF;have hF:=hL.fx;refine⟨_,rfl,hQp.out _ _ ?_⟩;clear hQp;intro a' ha;simp only[Exit.then,Exit.inBlock];refine⟨ha,?_⟩;show gE W0 b d g o cap tvs w (PL) _ _;rw[HB8.out];exact⟨vj2,dj,rfl,hL.pm⟩)|(refine cM ?_;intro W hL hF;go_wp2;refine zB2 ?_;clear hL hC hG;intro ι F hne hC hG)));((done))))
     |ok x r=>
      rw[hc]at HCJ;have HF2:=yh (vl HF.out HK4.out hc);have HLE2:=yh (fun j2 vj2 (h:AtV g o cap tvs j2 vj2) (hr:r=(TT tvs).drop j2)=>lW h hjl (HW.out _) hc hr);clear hc;go_upto_region 6 with(first|(go_at_call 86;refine zC (fun W hL=>cK E b j vj (d:Int) _ (ag HB0.out hL HXB.out) hbb Hvj hL.h1 _ 0 1 _ [⟨#[101,115,97,99]⟩] _ HK3 (yh rfl) (by omega) (b8 (ff hL m0)) (by(exact fg hL m0))) ?_;intro W hL hF;replace hL:=hL.drop1;clear hF;have hF:=hL.fx)|((with_reducible refine af 7 ?_);refine zX [0,1,2,3,4,5,6,7] [5,7] ?_ (sD (sC sN));clear hF hL;intro ι F hne hC hG;(repeat(first|(refine cS ?_)|((first|refine cF hC ?_|refine cP ?_);intro K hK;go_big_quiet_op;go_big_quiet_on)|(refine cD ?_;intro W hL hF;go_at_call 165;(with_reducible refine(HCJ.out _ (ag HB0.out hL HXB.out) hL.h0).mono ?_);rintro e W ⟨nm,aa,na,ca,aw,nw,cw,ar,nr,cr,ak,nk,ck,LN,j2,vj2,rfl,HN,HJ2,hb⟩;replace hL:=hL.jn 0 hb;clear hb hF;have hF:=hL.fx;replace hL:=hL.in1;clear hF;have hF:=hL.fx;refine bM ?_;((refine a_ _ (by repeat' (first|(with_reducible exact List.nil_sublist _)|(with_reducible apply List.Sublist.cons_cons)|(with_reducible apply List.Sublist.cons))) ?_;clear hL hF));simp only[Act.put,zT])|(refine cM ?_;intro W hL hF;at_builtin;(refine ah rfl _ _ 39 39 rfl (_::_::_::_::(LN++LC)) LK hL ks.length 1 (ks.flatMap (·.2)) [.int .i64 (x.kind:Int),.string nm,.bool x.neg,.slice aa na ca,.slice aw nw cw,.slice ar nr cr,.slice ak nk ck] _ _ HRK.out rfl rfl (fun ho=>bV rfl (fun j u hu=>by rw[Go.WideShapes.add_plain,Nat.zero_add,aK hL m0];simpa using hu) (by intro u hu;simp only[List.mem_cons,List.not_mem_nil,or_false]at hu;rcases hu with rfl|rfl|rfl|rfl|rfl|rfl|rfl<;>rfl) (by omega) ho) ?_);intro LP3 a3 c3 W3 hL2 hr3;clear hL hF;have hL:=hL2;clear hL2;simp only[List.append_eq,List.cons_append,List.nil_append]at hL;have hF:=hL.fx;go_wp2;refine zB2 ?_;clear hL hF hC hG;intro ι F hne hC hG)|(refine cM ?_;intro W hL hF;go_wp2;refine ai ?_;(first|(refine bO _ (by rfl) ?_;clear hL hF hC hG;intro ι F hne hC hFF;have hG:=fun n=>(hFF n).fx;clear hFF)|(refine a_ _ (by repeat' (first|(with_reducible exact List.nil_sublist _)|(with_reducible apply List.Sublist.cons_cons)|(with_reducible apply List.Sublist.cons))) ?_;clear hL hF)))));refine zN ?_;clear hC hG;intro W hL hF))
      have hle2:=HLE2.out _ _ HJ2.out.1 HJ2.out.2;have hj4:=HJ2.out.1.1;have Hvj2:=yh HJ2.out.1;go_wp2_with (first|(with_reducible refine zS ?_;intro W hL hF)|(go_at_call 49;(with_reducible refine zM (fun W hL=>dT E b j2 vj2 d _ (ag HB0.out hL HXB.out) hbb Hvj2 hL.h1) ?_);rintro W hL e W ⟨j4,vj4,rfl,HJ4,hb⟩;replace hL:=hL.jn 1 hb;clear hb;have hF:=hL.fx))
      have hj5:=HJ4.out.1;have hj6:=HJ4.out.2.1.1;go_roundg (tvs.length-j4)
      case measure=>omega
      case rel=>exact⟨j4,vj4,ks++[(x,[.int .i64 (x.kind:Int),.string nm,.bool x.neg,.slice aa na ca,.slice aw nw cw,.slice ar nr cr,.slice ak nk ck])],a3,c3,LN++LC,LP3,rfl,yh HJ4.out.2.1,yh (by obtain⟨f,hf1,hf⟩:=HF2.out;rw[HJ2.out.2]at hf;exact⟨f,_,by rw[List.length_drop,eX]at hf1 |-;omega,HJ4.out.2.2,by simpa using hf⟩),yh (by simpa using hr3),yh (bY (fun y hy=>(HKS.out y hy).r) HN.out.l),yh (List.mem_append_right _ HCM.out),by simp only[List.length_append,List.length_singleton];omega,hj6,by refine Kn.name ?_;clear hL;intro hL;simp only[List.length_append,List.length_singleton];exact hL.pm⟩
    ·have HB1:=yh (tn HF.out HK4.out)
     go_upto_region 8 with((go_at_call 86;refine zC (fun W hL=>cK E b j vj (d:Int) _ (ag HB0.out hL HXB.out) hbb Hvj hL.h1 _ 0 1 _ [⟨#[101,115,97,99]⟩] _ HK3 (yh rfl) (by omega) (b8 (ff hL m0)) (by(exact fg hL m0))) ?_;intro W hL hF;replace hL:=hL.drop1;clear hF;have hF:=hL.fx))
     have HB2:=HB1.out;have HW1:=yh (fun W hB hb=>eb E b j vj d W hB hbb Hvj hb ⟨#[101,115,97,99]⟩)
     cases hw:aW eT ((TT tvs).drop j)with
     |bad er m2=>
      rw[show aW (⟨#[101,115,97,99]⟩:ByteArray).data.toList ((TT tvs).drop j)=_ from hw]at HW1;replace HB2:=yh (bH HB2 hw);clear hw;go_wp2_with (first|(with_reducible refine zS ?_;intro W hL hF)|(go_at_call 144;(with_reducible refine zM (fun W hL=>HW1.out _ (ag HB0.out hL HXB.out) hL.h0) ?_);rintro W hL e W ⟨vj2,dj,rfl,hb⟩;replace hL:=hL.jn 0 hb;clear hb;have hF:=hL.fx))
      refine⟨rfl,?_⟩;rw[HB2.out];exact⟨vj2,dj,rfl,hL.pm⟩
     |ok u r3=>
      rw[show aW (⟨#[101,115,97,99]⟩:ByteArray).data.toList ((TT tvs).drop j)=_ from hw]at HW1;replace HB2:=yh (cx HB2 hw);clear hw;go_wp2_with (first|(with_reducible refine zS ?_;intro W hL hF)|(go_at_call 144;(with_reducible refine zM (fun W hL=>HW1.out _ (ag HB0.out hL HXB.out) hL.h0) ?_);rintro W hL e W ⟨_,j3,vj3,rfl,rfl,HJ3,hb⟩;replace hL:=hL.jn 0 hb;clear hb;have hF:=hL.fx))
      refine zF ?_;intro W hL hF;refine bodyPost_ret (by simp[results,Tryz.results142,go_sem, *];try rfl) rfl ?_;rw[HB2.out,HJ3.out.2];exact AY HPS.out HCM.out HRK.out HKS.out HJ3.out.1 hL.pm)
structure MapV (P:Program) (k:TypeId) (es:Array MapEntry) (M:List (Value×Value)):Prop where
 ents:es.toList.map (fun e=>(e.key,e.val))=M
 keys:∀p∈M,∃l,keyOf P k p.1=some l
 nd:(M.map (·.1)).Nodup
theorem MapV.nil{P:Program}{k:TypeId}:MapV P k #[] []:=⟨rfl,fun _ h=>(by cases h),List.nodup_nil⟩
section
variable {P:Program} {k:TypeId} {es:Array MapEntry} {M:List (Value×Value)} {w:World} {t e:TypeId} {b:Nat} {clock:Nat}
theorem MapV.key_of(h:MapV P k es M):∀x∈es.toList,∃l,keyOf P k x.key=some l:=fun x hx=>
 h.keys (x.key,x.val) (by rw[<- h.ents];grind)
theorem MapV.size(h:MapV P k es M):es.size=M.length:=by rw[<- h.ents];simp
theorem vn{M:List (Value×Value)}(nd:(M.map (·.1)).Nodup){a u v:Value}(h1:(a,u)∈M)(h2:(a,v)∈M):u=v:=by
 obtain⟨i,hi,e1⟩:=List.mem_iff_getElem.1 h1
 obtain⟨j,hj,e2⟩:=List.mem_iff_getElem.1 h2
 have e3:(M.map (·.1))[i]'(by grind)=(M.map (·.1))[j]'(by grind):=by grind
 have:=(List.getElem_inj nd).1 e3
 grind
theorem MapV.run_hit(c:Bool)(h:MapV P k es M)(K:Maps.Keyed P k)(ht:P.underlying t=some (.map k e))(hb:w.heap[b]? =some (.map es clock)){key v:Value}(hm:(key,v)∈M):
  (Instr.lookup t (.map (some b)) key c).run P w=.ok (if c then .tuple #[v,.bool true]else v) w:=by
 obtain⟨kl,hkey⟩:=h.keys _ hm
 replace hkey:keyOf P k key=some kl:=hkey
 rcases K.find w hkey es.toList h.key_of with⟨h1,h2⟩|⟨j,e0,h1,h2,h3⟩
 ·exfalso
  rw[<- h.ents]at hm;grind
 ·have e4:e0.val=v:=by
   refine vn h.nd (a:=key) ?_ hm;rw[<- h.ents,<- h3];grind
  subst e4
  cases c<;>simp[Instr.lookup,run_underlying ht,MapKept.run_getObj_map hb,K.check w _ hkey,h1,Result.andThen]
theorem MapV.run_miss(c:Bool)(h:MapV P k es M)(K:Maps.Keyed P k)(ht:P.underlying t=some (.map k e)){z:Value}(hz:(zeroValue e).run P w=.ok z w)(hb:w.heap[b]? =some (.map es clock)){key:Value}{kl:Lit}(hkey:keyOf P k key=some kl)(hm:∀p∈M,p.1≠key):
  (Instr.lookup t (.map (some b)) key c).run P w=.ok (if c then .tuple #[z,.bool false]else z) w:=by
 rcases K.find w hkey es.toList h.key_of with⟨h1,h2⟩|⟨j,e0,h1,h2,h3⟩
 ·cases c<;>simp[Instr.lookup,run_underlying ht,MapKept.run_getObj_map hb,K.check w _ hkey,h1,hz,Result.andThen]
 ·exfalso
  refine hm (e0.key,e0.val) ?_ h3;rw[<- h.ents];grind
theorem MapV.run_new(h:MapV P k es M)(K:Maps.Keyed P k)(ht:P.underlying t=some (.map k e))(hb:w.heap[b]? =some (.map es clock))(hroom:M.length<maxLen){key:Value}(val:Value){kl:Lit}(hkey:keyOf P k key=some kl)(hm:∀p∈M,p.1≠key):
  ∃es' clock',(Instr.mapUpdate t (.map (some b)) key val).run P w=.ok () {w with heap:=w.heap.setIfInBounds b (.map es' clock')}/\MapV P k es' (M++[(key,val)]):=by
 rcases K.find w hkey es.toList h.key_of with⟨h1,h2⟩|⟨j,e0,h1,h2,h3⟩
 ·have:=h.size
  refine⟨es.push ⟨key,val,clock⟩,clock+1,?_,?_,?_,?_⟩
  ·simp[Instr.mapUpdate,run_underlying ht,MapKept.run_getObj_map hb,K.check w false hkey,h1,MapKept.run_setObj_map _ hb,Result.andThen]
  ·simp[h.ents]
  ·intro p hp
   rcases List.mem_append.1 hp with hp|hp
   ·exact h.keys p hp
   grind
  ·rw[List.map_append,List.nodup_append]
   refine⟨h.nd,by simp,fun a ha b hb=>?_⟩;grind
 ·exfalso
  refine hm (e0.key,e0.val) ?_ h3;rw[<- h.ents];grind
end
theorem Kn.setBlk{X:List Nat}{w0 w:World}{L:List (Nat×Obj)}(h:Kn X w0 w L){j b:Nat}{o:Obj}(hj:L[j]? =some (b,o))(o':Obj):Kn X w0 {w with heap:=w.heap.setIfInBounds b o'} (L.set j (b,o')):=by
 have hm:(b,o)∈L:=List.mem_of_getElem? hj
 have hlt:=h.lt hm
 have hkeys:(L.set j (b,o')).map (·.1)=L.map (·.1):=by
  rw[List.map_set];apply List.ext_getElem?;grind
 have hmem:∀p∈L.set j (b,o'),p=(b,o')\/(p∈L/\p.1≠b):=by
  intro p hp;obtain⟨i,hi⟩:=List.mem_iff_getElem?.1 hp;rw[List.getElem?_set]at hi;split at hi
  ·grind
  ·rename_i hij
   right
   refine⟨List.mem_of_getElem? hi,fun e=>hij ?_⟩;obtain⟨hil,hie⟩:=List.getElem?_eq_some_iff.1 hi;obtain⟨hjl,hje⟩:=List.getElem?_eq_some_iff.1 hj;have h1:(L.map (·.1))[j]'(by grind)=(L.map (·.1))[i]'(by grind):=by grind
   exact(List.getElem_inj h.nd).1 h1
 refine⟨h.os,h.tape,h.output,by simpa using h.size,fun d hd hx=>?_,fun p hp=>?_,fun p hp=>?_,by rw[hkeys];exact h.nd⟩
 ·have hdb:b≠d:=by
   rintro rfl;rcases h.own _ hm with e|e
   ·omega
   grind
  show(w.heap.setIfInBounds b o')[d]? =_
  rw[Array.getElem?_setIfInBounds,if_neg hdb];exact h.block d hd hx
 ·rcases hmem p hp with rfl|⟨hp,_⟩
  ·exact h.own (b,o) hm
  ·exact h.own p hp
 ·rcases hmem p hp with rfl|⟨hp,hne⟩
  ·grind
  ·show(w.heap.setIfInBounds b o')[p.1]? =_
   rw[Array.getElem?_setIfInBounds,if_neg (fun e=>hne e.symm)];exact h.has p hp
section
variable {P:Program} {k:TypeId} {es:Array MapEntry} {M:List (Value×Value)} {w:World} {t e:TypeId} {b clock:Nat} {X:List Nat} {w0:World} {L:List (Nat×Obj)} {ops:Array Oper} {rest:List Oper} {o:Oper} {a:Act} {Q:Exit->Act->World->Prop}
theorem ig(hg:o.guard=none)(m x:Operand)(c:Bool)(hop:o.op=Op.lookup t m x c)(K:Maps.Keyed P k)(ht:P.underlying t=some (.map k e))(hb:w.heap[b]? =some (.map es clock))(hM:MapV P k es M)
  (hm:a.eval m=.map (some b)) (key v:Value) (hx:a.eval x=key) (hv:(key,v)∈M) (h:wpList P ops Q rest (a.put o.dst (if c then .tuple #[v,.bool true]else v)) w):wpList P ops Q (o::rest) a w:=by
 refine wpList_plain hg fun K' hK'=>?_
 have hrun:=hM.run_hit c K ht hb hv
 unfold Oper.wp
 simp only[execOp,hop,hm,hx,hrun,Sem.run_bind,Sem.run_pure,Result.andThen_ok]
 exact hK' _ _ h
theorem oL(hg:o.guard=none)(m x:Operand)(c:Bool)(hop:o.op=Op.lookup t m x c)(K:Maps.Keyed P k)(ht:P.underlying t=some (.map k e))(z:Value)(hz:∀w,(zeroValue e).run P w=.ok z w)(hb:w.heap[b]? =some (.map es clock))(hM:MapV P k es M)
  (hm:a.eval m=.map (some b)) (key:Value) (kl:Lit) (hx:a.eval x=key) (hkey:keyOf P k key=some kl) (hn:∀p∈M,p.1≠key) (h:wpList P ops Q rest (a.put o.dst (if c then .tuple #[z,.bool false]else z)) w):wpList P ops Q (o::rest) a w:=by
 refine wpList_plain hg fun K' hK'=>?_
 have hrun:=hM.run_miss c K ht (hz w) hb hkey hn
 unfold Oper.wp
 simp only[execOp,hop,hm,hx,hrun,Sem.run_bind,Sem.run_pure,Result.andThen_ok]
 exact hK' _ _ h
theorem mM{dst:Option Tmp}{ty:TypeId}{pos:String}{after:Array Edge}{g:Option (Nat×Bool)}{m x u:Operand}(h:wpList P ops Q (⟨dst,.insert t m x u,ty,pos,after,g⟩::rest) a w):wpList P ops Q (⟨dst,.insert t m x u,ty,pos,after,g⟩::rest) a w:=h
theorem fX{dst:Option Tmp}{ty:TypeId}{pos:String}{after:Array Edge}{m x u:Operand}(K:Maps.Keyed P k)(ht:P.underlying t=some (.map k e))(hk:Kn X w0 w L)(j:Nat)(hj:L[j]? =some (b,.map es clock))(hM:MapV P k es M)(hroom:M.length<maxLen)
  (hm:a.eval m=.map (some b)) (key val:Value) (kl:Lit) (hx:a.eval x=key) (hu:a.eval u=val) (hkey:keyOf P k key=some kl) (hn:∀p∈M,p.1≠key)
  (h:∀W es' clock',Kn X w0 W (L.set j (b,.map es' clock'))->MapV P k es' (M++[(key,val)])->wpList P ops Q rest (a.put dst undef) W):wpList P ops Q (⟨dst,.insert t m x u,ty,pos,after,none⟩::rest) a w:=by
 refine wpList_plain rfl fun K' hK'=>?_
 obtain⟨es',clock',hrun,h2⟩:=hM.run_new K ht (hk.has _ (List.mem_of_getElem? hj)) hroom val hkey hn
 unfold Oper.wp
 simp only[execOp,hm,hx,hu,hrun,Sem.run_bind,Sem.run_pure,Result.andThen_ok]
 exact hK' _ _ (h _ es' clock' (hk.setBlk hj _) h2)
end
theorem fY:Tryz.prog.underlying 160=some (.map 9 149):=Tryz.underlying160
theorem mN:Maps.Keyed Tryz.prog 9:=Maps.string_keyed Tryz.underlying9
theorem qD(s:ByteArray)(hs:s.size<=1000000):keyOf Tryz.prog 9 (.string s)=some (.string s.data.toList):=WideMaps.keyOf_string_mk Tryz.underlying9 (by unfold maxLen;omega)
theorem vo{a b:ByteArray}(h:(a.data.toList==b.data.toList)=false):Value.string a≠Value.string b:=by
 intro e
 injection e with e
 subst e
 simp at h
theorem BR(w:World):(zeroValue 149).run Tryz.prog w=.ok .nilFunc w:=by kernel_rfl
def kF:Option Blk->Value
 |none=>.nilFunc
 |some .sub=>Value.func (.func 136) #[] #[]
 |some .grp=>Value.func (.func 137) #[] #[]
 |some .iff=>Value.func (.func 138) #[] #[]
 |some .whl=>Value.func (.func 139) #[] #[]
 |some .unt=>Value.func (.func 140) #[] #[]
 |some .for_=>Value.func (.func 141) #[] #[]
 |some .case_=>Value.func (.func 142) #[] #[]
theorem vq{W0:World}{g o cap:Nat}{tvs:List (Tok×Value)}(E:PEnv W0 g o cap tvs){i:Nat}{x:Tok×Value}(hx:tvs[i]? =some x):bU ((TT tvs).drop i)=if aS [40] ((TT tvs).drop i)then some .sub else if((x.1.kind:Int) != 0)=true then none else fP x.1.plain:=by
 rcases bI E hx with⟨h1,h2,h3,h4⟩|⟨h1,h2,h3⟩
 ·rw[h1,h2];rfl
 ·rw[h1]
  unfold bU;congr 1;show(if x.1.kind=0 then _ else _)=_
  by_cases h:x.1.kind=0
  ·rw[if_pos h,if_neg (by rw[h];decide)]
  ·rw[if_neg h,if_pos (by rw[bne_iff_ne];omega)]
theorem qE{s:ab}(h:fP s=none):s≠[123]/\s≠[105,102]/\s≠[119,104,105,108,101]/\s≠[117,110,116,105,108]/\s≠[102,111,114]/\s≠[99,97,115,101]:=by
 unfold fP kIf qf qg Ap uG at h
 (repeat' split at h)<;>first|(cases h;done)|(refine⟨?_,?_,?_,?_,?_,?_⟩<;>assumption)
theorem oM{s:ab}{b:Blk}(h:fP s=some b):(b=.grp/\s=[123])\/(b=.iff/\s=[105,102])\/(b=.whl/\s=[119,104,105,108,101])\/(b=.unt/\s=[117,110,116,105,108])\/(b=.for_/\s=[102,111,114])\/(b=.case_/\s=[99,97,115,101]):=by
 unfold fP kIf qf qg Ap uG at h
 (repeat' split at h)<;>first|(cases h;done)|(cases h;simp[*])
theorem gP{W0:World}{g o cap:Nat}{tvs:List (Tok×Value)}(E:PEnv W0 g o cap tvs)(b i:Nat)(v:Value)(d:Nat)(w:World)(hB:Below W0.heap.size W0 w)(hbb:W0.heap.size<=b)(hv:Hid (AtV g o cap tvs i v))(hb:w.heap[b]? =some (.cells #[v,.int .i64 (d:Int)] 73 (0,0))):Calls Tryz.prog 119 #[.pointer (some ⟨b,0,none⟩)] w fun e w'=>e=.returned (kF (bU ((TT tvs).drop i)))/\Below w.heap.size w w':=by
 obtain⟨x,pa,pn,pc,hx,hx2⟩:=E.tok hv.out
 have HX:=yh hx
 have HX2:=yh hx2
 obtain⟨f0,f1,f2,f3,f4,f5⟩:=tkF x.1.kind x.1.fd x.1.line ⟨x.1.text.toArray⟩ ⟨x.1.plain.toArray⟩ pa pn pc
 clear hx hx2
 rw[vq E HX.out]
 obtain⟨k0,hk0⟩:∃z:Bool,aS [40] ((TT tvs).drop i)=z:=⟨_,rfl⟩
 obtain⟨kz,hkz⟩:∃z:Bool,((x.1.kind:Int) != 0)=z:=⟨_,rfl⟩
 have HK0:Hid (aS (⟨#[40]⟩:ByteArray).data.toList ((TT tvs).drop i)=k0):=yh hk0
 rw[hk0,hkz]
 clear hk0
 have hmm:=@run_makeMap Tryz.prog
 have hM:=MapV.nil (P:=Tryz.prog) (k:=9)
 have HSZ:Hid ((⟨x.1.plain.toArray⟩:ByteArray).size<=1000000):=yh (by have:=(E.word x (List.mem_of_getElem? HX.out)).2.1;rw[<- szl];simp only[List.toList_toArray];omega)
 cases k0
 ·cases kz
  ·rw[if_neg (by decide),if_neg (by decide)]
   cases hbw:fP x.1.plain with
   |none=>
    have HNO:Hid (∀p∈([(Value.string ⟨#[123]⟩,Value.func (.func 137) #[] #[]),(Value.string ⟨#[105,102]⟩,Value.func (.func 138) #[] #[]),(Value.string ⟨#[119,104,105,108,101]⟩,Value.func (.func 139) #[] #[]),(Value.string ⟨#[117,110,116,105,108]⟩,Value.func (.func 140) #[] #[]),(Value.string ⟨#[102,111,114]⟩,Value.func (.func 141) #[] #[]),(Value.string ⟨#[99,97,115,101]⟩,Value.func (.func 142) #[] #[])]:List (Value×Value)),p.1≠Value.string ⟨x.1.plain.toArray⟩):=yh (by
     intro p hp e;obtain⟨h1,h2,h3,h4,h5,h6⟩:=qE hbw;(repeat' (first|exact absurd hp List.not_mem_nil|(rcases List.mem_cons.1 hp with rfl|hp)))
     all_goals (injection e with e;injection e with e;have e:=(congrArg Array.toList e).symm;simp only[List.toList_toArray]at e;first|exact h1 e|exact h2 e|exact h3 e|exact h4 e|exact h5 e|exact h6 e))
    clear hbw;have HB0:=yh hB;have HXB:=yh (xb hbb);have hL:Kn [b] w w [(b,.cells #[v,.int .i64 (d:Int)] 73 (0,0))]:=Kn.one hb;have HBS:=yh hb;clear hB hb;have hF:=hL.fx;go_enter Tryz.func119,Tryz.ntmps119;go_wp2_with (first|(with_reducible refine zS ?_;intro W hL hF)|(go_at_call 52;(with_reducible refine zM (fun W hL=>eC E b i v (d:Int) _ (ag HB0.out hL HXB.out) hbb hv hL.h0 ⟨#[40]⟩ _ HK0) ?_);rintro W hL e W ⟨rfl,hb⟩;replace hL:=hL.below hb;clear hb;skip;have hF:=hL.fx)|(go_at_call 27;refine zC (fun W hL=>aL E b i v (d:Int) _ (ag HB0.out hL HXB.out) hbb hv (by first|exact hL.has _ m0|exact hL.has _ m1) HX.out pa pn pc HX2.out) ?_;intro W hL hF)|((with_reducible refine mM ?_);refine zL ?_;intro W hL hF;(refine fX mN fY hL 0 rfl hM (by simp[maxLen]) rfl _ _ _ rfl rfl (qD _ (by decide)) (by intro p hp;(repeat' (first|exact absurd hp List.not_mem_nil|(rcases List.mem_cons.1 hp with rfl|hp)));all_goals exact vo (by decide)) ?_);intro W2 es2 ck2 hL2 hM2;clear hL hF hM;have hL:=hL2;have hM:=hM2;clear hL2 hM2;simp only[List.nil_append,List.cons_append]at hM;simp only[zA,Act.eval]at hM;simp only[kfb]at hL;have hF:=hL.fx)|(at_lookup;(refine oL rfl _ _ _ rfl mN fY _ BR (hL.has _ m0) hM rfl _ _ rfl (qD _ HSZ.out) HNO.out ?_);simp only[Bool.false_eq_true,if_false]))
    refine zF ?_;intro W hL hF;refine bodyPost_ret (by simp[results,Tryz.results119,go_sem, *];try rfl) rfl ?_;exact⟨rfl,ef (hL.sub (by repeat' (first|exact List.Sublist.refl _|apply List.Sublist.cons))) HBS.out⟩
   |some bk=>
    have HB0:=yh hB;have HXB:=yh (xb hbb);have hL:Kn [b] w w [(b,.cells #[v,.int .i64 (d:Int)] 73 (0,0))]:=Kn.one hb;have HBS:=yh hb;clear hB hb;have hF:=hL.fx;rcases oM hbw with⟨rfl,hpw⟩|⟨rfl,hpw⟩|⟨rfl,hpw⟩|⟨rfl,hpw⟩|⟨rfl,hpw⟩|⟨rfl,hpw⟩
    all_goals
     have HPW:=yh hpw;clear hpw hbw;go_enter Tryz.func119,Tryz.ntmps119;go_wp2_with (first|(with_reducible refine zS ?_;intro W hL hF)|(go_at_call 52;(with_reducible refine zM (fun W hL=>eC E b i v (d:Int) _ (ag HB0.out hL HXB.out) hbb hv hL.h0 ⟨#[40]⟩ _ HK0) ?_);rintro W hL e W ⟨rfl,hb⟩;replace hL:=hL.below hb;clear hb;skip;have hF:=hL.fx)|(go_at_call 27;refine zC (fun W hL=>aL E b i v (d:Int) _ (ag HB0.out hL HXB.out) hbb hv (by first|exact hL.has _ m0|exact hL.has _ m1) HX.out pa pn pc HX2.out) ?_;intro W hL hF)|((with_reducible refine mM ?_);refine zL ?_;intro W hL hF;(refine fX mN fY hL 0 rfl hM (by simp[maxLen]) rfl _ _ _ rfl rfl (qD _ (by decide)) (by intro p hp;(repeat' (first|exact absurd hp List.not_mem_nil|(rcases List.mem_cons.1 hp with rfl|hp)));all_goals exact vo (by decide)) ?_);intro W2 es2 ck2 hL2 hM2;clear hL hF hM;have hL:=hL2;have hM:=hM2;clear hL2 hM2;simp only[List.nil_append,List.cons_append]at hM;simp only[zA,Act.eval]at hM;simp only[kfb]at hL;have hF:=hL.fx)|(at_lookup;(refine ig rfl _ _ _ rfl mN fY (hL.has _ m0) hM rfl _ (Value.func (.func _) #[] #[]) rfl (by rw[HPW.out];(repeat(first|exact m0|apply List.mem_cons_of_mem))) ?_);simp only[Bool.false_eq_true,if_false]))
     refine zF ?_;intro W hL hF;refine bodyPost_ret (by simp[results,Tryz.results119,go_sem, *];try rfl) rfl ?_;exact⟨rfl,ef (hL.sub (by repeat' (first|exact List.Sublist.refl _|apply List.Sublist.cons))) HBS.out⟩
  ·rw[if_neg (by decide),if_pos rfl]
   clear hM hmm;have HB0:=yh hB;have HXB:=yh (xb hbb);have hL:Kn [b] w w [(b,.cells #[v,.int .i64 (d:Int)] 73 (0,0))]:=Kn.one hb;have HBS:=yh hb;clear hB hb;have hF:=hL.fx;go_enter Tryz.func119,Tryz.ntmps119;go_wp2_with (first|(with_reducible refine zS ?_;intro W hL hF)|(go_at_call 52;(with_reducible refine zM (fun W hL=>eC E b i v (d:Int) _ (ag HB0.out hL HXB.out) hbb hv hL.h0 ⟨#[40]⟩ _ HK0) ?_);rintro W hL e W ⟨rfl,hb⟩;replace hL:=hL.below hb;clear hb;skip;have hF:=hL.fx)|(go_at_call 27;refine zC (fun W hL=>aL E b i v (d:Int) _ (ag HB0.out hL HXB.out) hbb hv hL.h0 HX.out pa pn pc HX2.out) ?_;intro W hL hF))
   refine zF ?_;intro W hL hF;refine bodyPost_ret (by simp[results,Tryz.results119,go_sem, *];try rfl) rfl ?_;exact⟨rfl,ef (hL.sub (by repeat' ((exact List.Sublist.refl _)))) HBS.out⟩
 ·rw[if_pos rfl]
  clear hM hmm;have HB0:=yh hB;have HXB:=yh (xb hbb);have hL:Kn [b] w w [(b,.cells #[v,.int .i64 (d:Int)] 73 (0,0))]:=Kn.one hb;have HBS:=yh hb;clear hB hb;have hF:=hL.fx;go_enter Tryz.func119,Tryz.ntmps119;go_wp2_with (first|(with_reducible refine zS ?_;intro W hL hF)|(go_at_call 52;(with_reducible refine zM (fun W hL=>eC E b i v (d:Int) _ (ag HB0.out hL HXB.out) hbb hv hL.h0 ⟨#[40]⟩ _ HK0) ?_);rintro W hL e W ⟨rfl,hb⟩;replace hL:=hL.below hb;clear hb;skip;have hF:=hL.fx)|(go_at_call 27;refine zC (fun W hL=>aL E b i v (d:Int) _ (ag HB0.out hL HXB.out) hbb hv hL.h0 HX.out pa pn pc HX2.out) ?_;intro W hL hF))
  refine zF ?_;intro W hL hF;refine bodyPost_ret (by simp[results,Tryz.results119,go_sem, *];try rfl) rfl ?_;exact⟨rfl,ef (hL.sub (by repeat' ((exact List.Sublist.refl _)))) HBS.out⟩
theorem vt(bk:Blk):∀W:World,(binOp .neq 149 (kF (some bk)) .nilFunc).run Tryz.prog W=.ok (.bool true) W:=fun W=>by cases bk<;>kernel_rfl
theorem vu(bk:Blk)(x y:Operand):∀W:World,(eqGuard .neq 149 x y (kF (some bk)) .nilFunc).run Tryz.prog W=.ok () W:=fun W=>by cases bk<;>kernel_rfl
theorem jQ:∀W:World,(binOp .neq 149 .nilFunc .nilFunc).run Tryz.prog W=.ok (.bool false) W:=fun W=>by kernel_rfl
theorem cG{W0 W:World}(hB:Below W0.heap.size W0 W){cg co:Nat}(h:∀(j:Nat) s,closers[j]? =some s->W0.cell? ⟨cg,co+j,none⟩=some (bs s)):∀j,j<cz.length->W.cell? ⟨cg,co+j,none⟩=some (.string (cz.getD j ByteArray.empty)):=by
 have:=rB hB h 10
 rwa[List.take_of_length_le (by decide)]at this
def jw(W0:World)(g o cap:Nat)(tvs:List (Tok×Value))(d:Nat)(comp:Blk->Pa Nd):Prop:=
 ∀(bk:Blk) (b i:Nat) (v:Value) (w:World),Below W0.heap.size W0 w->W0.heap.size<=b->Hid (AtV g o cap tvs i v)->w.heap[b]? =some (.cells #[v,.int .i64 (d:Nat)] 73 (0,0))->(TT tvs).drop i≠[]->
  Calls Tryz.prog 120 #[.pointer (some ⟨b,0,none⟩),kF (some bk)] w (db W0 b d g o cap tvs w (comp bk ((TT tvs).drop i)))
def AZ(W0:World)(g o cap:Nat)(tvs:List (Tok×Value))(d:Nat)(fn:Pa Nd):Prop:=
 ∀(b i:Nat) (v:Value) (w:World),Below W0.heap.size W0 w->W0.heap.size<=b->Hid (AtV g o cap tvs i v)->w.heap[b]? =some (.cells #[v,.int .i64 (d:Nat)] 73 (0,0))->qi ((TT tvs).drop i)=true->
  Calls Tryz.prog 122 #[.pointer (some ⟨b,0,none⟩)] w (db W0 b d g o cap tvs w (fn ((TT tvs).drop i)))
def fnP(inner:Option (Blk->Pa Nd)):Pa Nd:=fun ts=>match inner with
 |none=>full ts
 |some c=>ia c ts
theorem oN{W0:World}{g o cap:Nat}{tvs:List (Tok×Value)}(E:PEnv W0 g o cap tvs){d:Nat}{comp:Blk->Pa Nd}(HC:jw W0 g o cap tvs d comp)(b i:Nat)(v:Value)(w:World)(hB:Below W0.heap.size W0 w)(hbb:W0.heap.size<=b)(hv:Hid (AtV g o cap tvs i v))(hb:w.heap[b]? =some (.cells #[v,.int .i64 (d:Nat)] 73 (0,0)))(bk:Blk)(hbo:bU ((TT tvs).drop i)=some bk):Calls Tryz.prog 105 #[.pointer (some ⟨b,0,none⟩)] w fun e w'=>db W0 b d g o cap tvs w (comp bk ((TT tvs).drop i)) e w':=by
 have HBL:Hid (∀W,Below W0.heap.size W0 W->W.heap[b]? =some (.cells #[v,.int .i64 (d:Nat)] 73 (0,0))->Calls Tryz.prog 119 #[.pointer (some ⟨b,0,none⟩)] W fun e w'=>e=.returned (kF (some bk))/\Below W.heap.size W w'):=yh fun W hB hb=>by have h:=gP E b i v d W hB hbb hv hb;rw[hbo]at h;exact h
 have HNE:=fv hbo
 have HCJ:=yh (fun W hB hb=>HC bk b i v W hB hbb hv hb HNE)
 have hfn:=vt bk
 have hge:=vu bk
 obtain⟨bv,hbv⟩:∃z,kF (some bk)=z:=⟨_,rfl⟩
 rw[hbv]at HBL HCJ hfn
 simp only[hbv]at hge
 obtain⟨PL,hpl⟩:∃p:PR Nd,comp bk ((TT tvs).drop i)=p:=⟨_,rfl⟩
 rw[hpl]at HCJ |-
 clear HC HNE hbo hbv hpl
 have HB0:=yh hB
 have HXB:=yh (xb hbb)
 have hL:Kn [b] w w [(b,.cells #[v,.int .i64 (d:Int)] 73 (0,0))]:=Kn.one hb
 have HBS:=yh hb
 clear hB hb
 have hF:=hL.fx
 cases PL with
 |bad er m2=>
  go_enter Tryz.func105,Tryz.ntmps105;go_wp2_with (first|(with_reducible refine zS ?_;intro W hL hF)|(go_at_call 119;refine zC (fun W hL=>HBL.out _ (ag HB0.out hL HXB.out) hL.h1) ?_;intro W hL hF)|(go_at_call 120;(with_reducible refine zM (fun W hL=>HCJ.out _ (ag HB0.out hL HXB.out) hL.h1) ?_);rintro W hL e W ⟨vj2,dj,rfl,hb⟩;replace hL:=hL.jn 1 hb;clear hb;have hF:=hL.fx))
  exact⟨rfl,vj2,dj,rfl,hL.pm⟩
 |ok x r=>
  go_enter Tryz.func105,Tryz.ntmps105;go_wp2_with (first|(with_reducible refine zS ?_;intro W hL hF)|(go_at_call 119;refine zC (fun W hL=>HBL.out _ (ag HB0.out hL HXB.out) hL.h1) ?_;intro W hL hF)|(go_at_call 120;(with_reducible refine zM (fun W hL=>HCJ.out _ (ag HB0.out hL HXB.out) hL.h1) ?_);rintro W hL e W ⟨nm,aa,na,ca,aw,nw,cw,ar,nr,cr,ak,nk,ck,LN,j2,vj2,rfl,HN,HJ2,hb⟩;replace hL:=hL.jn 1 hb;clear hb;have hF:=hL.fx;replace hL:=hL.in0;clear hF;have hF:=hL.fx))
  refine zF ?_;intro W hL hF;refine bodyPost_ret (by simp[results,Tryz.results105,go_sem, *];try rfl) rfl ?_;exact⟨nm,aa,na,ca,aw,nw,cw,ar,nr,cr,ak,nk,ck,LN,j2,vj2,rfl,HN,HJ2,hL.pm⟩
theorem oO{W0:World}{g o cap:Nat}{tvs:List (Tok×Value)}(E:PEnv W0 g o cap tvs){d:Nat}(b i:Nat)(v:Value)(w:World)(hB:Below W0.heap.size W0 w)(hbb:W0.heap.size<=b)(hv:Hid (AtV g o cap tvs i v))(hb:w.heap[b]? =some (.cells #[v,.int .i64 (d:Nat)] 73 (0,0)))(hbo:bU ((TT tvs).drop i)=none)(hk1:bS closers ((TT tvs).drop i)=true):Calls Tryz.prog 105 #[.pointer (some ⟨b,0,none⟩)] w fun e w'=>db W0 b d g o cap tvs w (syn ((TT tvs).drop i)) e w':=by
 have HBL:Hid (∀W,Below W0.heap.size W0 W->W.heap[b]? =some (.cells #[v,.int .i64 (d:Nat)] 73 (0,0))->Calls Tryz.prog 119 #[.pointer (some ⟨b,0,none⟩)] W fun e w'=>e=.returned (.nilFunc)/\Below W.heap.size W w'):=yh fun W hB hb=>by have h:=gP E b i v d W hB hbb hv hb;rw[hbo]at h;exact h
 have hfn:=jQ
 have HK1:Hid (bS (cz.map fun z=>z.data.toList) ((TT tvs).drop i)=true):=yh (by rw[gO];exact hk1)
 clear hbo hk1
 obtain⟨cg,co,cc,hc1,hc2,hc3⟩:=E.clo
 have HC3:=yh hc3
 have hg0:=aI hc1
 have hc4:=bN hc1 hB
 have hcb:Hid (cg≠b):=yh (by have:=kD hc3;omega)
 have hg1:0<b:=by omega
 have hg2:0<w.heap.size:=aI hc4
 have hg3:¬0=b:=by omega
 clear hc3 hc1
 obtain⟨m,hm⟩:∃m,m=((TT tvs).drop i).length:=⟨_,rfl⟩
 have Hm:=yh hm
 clear hm
 have HB0:=yh hB
 have HXB:=yh (xb hbb)
 have hL:Kn [b] w w [(b,.cells #[v,.int .i64 (d:Int)] 73 (0,0))]:=Kn.one hb
 have HBS:=yh hb
 clear hB hb
 have hF:=hL.fx
 go_enter Tryz.func105,Tryz.ntmps105
 go_wp2_with (first|(with_reducible refine zS ?_;intro W hL hF)|(go_at_call 119;refine zC (fun W hL=>HBL.out _ (ag HB0.out hL HXB.out) hL.h1) ?_;intro W hL hF)|(go_at_call 86;refine zC (fun W hL=>cK E b i v (d:Int) _ (ag HB0.out hL HXB.out) hbb hv hL.h1 cg co 10 _ cz _ HK1 (yh rfl) (by omega) (cG (ag HB0.out hL HXB.out) HC3.out) hcb.out) ?_;intro W hL hF)|(go_at_call 28;(with_reducible refine zM (fun W hL=>fW E b i v d _ (ag HB0.out hL HXB.out) hbb hv hL.h1 27 d 1 (yh rfl) m Hm) ?_);rintro W hL e W ⟨vj,dj,rfl,hb⟩;replace hL:=hL.jn 1 hb;clear hb;have hF:=hL.fx))
 exact⟨rfl,_,_,by rw[Hm.out]<;>rfl,hL.sub (by repeat' (first|exact List.Sublist.refl _|apply List.Sublist.cons_cons|apply List.Sublist.cons))⟩
theorem Kn.in02{X:List Nat}{w0 W:World}{p0 p1 p2:Nat×Obj}{LP:List (Nat×Obj)}(h:Kn X w0 W (p0::(LP++[p1,p2]))):Kn X w0 W (p0::p1::p2::LP):=h.perm fun p=>by simp only[List.countP_cons,List.countP_append,List.countP_nil];omega
theorem kG{W0:World}{g o cap:Nat}{tvs:List (Tok×Value)}(E:PEnv W0 g o cap tvs){d:Nat}{pl:Pa Nd}(b i:Nat)(v:Value)(w:World)(hB:Below W0.heap.size W0 w)(hbb:W0.heap.size<=b)(hv:Hid (AtV g o cap tvs i v))(hb:w.heap[b]? =some (.cells #[v,.int .i64 (d:Nat)] 73 (0,0)))(HSI:∀W:World,Below W0.heap.size W0 W->W.heap[b]? =some (.cells #[v,.int .i64 (d:Nat)] 73 (0,0))->Calls Tryz.prog 123 #[.pointer (some ⟨b,0,none⟩)] W (db W0 b d g o cap tvs W (pl ((TT tvs).drop i))))(hbo:bU ((TT tvs).drop i)=none)(hk1:bS closers ((TT tvs).drop i)=false){x:Tok×Value}(hx0:tvs[i]? =some x)(hno:((x.1.kind:Int)==0)=false\/cT x.1.plain=false):Calls Tryz.prog 105 #[.pointer (some ⟨b,0,none⟩)] w fun e w'=>db W0 b d g o cap tvs w (pl ((TT tvs).drop i)) e w':=by
 have HBL:Hid (∀W,Below W0.heap.size W0 W->W.heap[b]? =some (.cells #[v,.int .i64 (d:Nat)] 73 (0,0))->Calls Tryz.prog 119 #[.pointer (some ⟨b,0,none⟩)] W fun e w'=>e=.returned (.nilFunc)/\Below W.heap.size W w'):=yh fun W hB hb=>by have h:=gP E b i v d W hB hbb hv hb;rw[hbo]at h;exact h
 have hfn:=jQ
 have HK1:Hid (bS (cz.map fun z=>z.data.toList) ((TT tvs).drop i)=false):=yh (by rw[gO];exact hk1)
 clear hbo hk1
 obtain⟨cg,co,cc,hc1,hc2,hc3⟩:=E.clo
 have HC3:=yh hc3
 have hg0:=aI hc1
 have hc4:=bN hc1 hB
 have hcb:Hid (cg≠b):=yh (by have:=kD hc3;omega)
 have hg1:0<b:=by omega
 have hg2:0<w.heap.size:=aI hc4
 have hg3:¬0=b:=by omega
 clear hc3 hc1
 obtain⟨x9,pa,pn,pc,hx,hx2⟩:=E.tok hv.out
 obtain rfl:x=x9:=Option.some.inj (hx0.symm.trans hx)
 clear hx0
 have HX:=yh hx
 have HX2:=yh hx2
 obtain⟨f0,f1,f2,f3,f4,f5⟩:=tkF x.1.kind x.1.fd x.1.line ⟨x.1.text.toArray⟩ ⟨x.1.plain.toArray⟩ pa pn pc
 clear hx hx2
 have HSZ:Hid ((⟨x.1.plain.toArray⟩:ByteArray).size<=1000000):=yh (by have:=(E.word x (List.mem_of_getElem? HX.out)).2.1;rw[<- szl];simp only[List.toList_toArray];omega)
 have HIN:=yh (fun W=>eO ⟨x.1.plain.toArray⟩ HSZ.out W)
 simp only[List.toList_toArray]at HIN
 obtain⟨kx,hkx⟩:∃z:Bool,((x.1.kind:Int)==0)=z:=⟨_,rfl⟩
 obtain⟨nm,hnm⟩:∃z:Bool,cT x.1.plain=z:=⟨_,rfl⟩
 rw[hnm]at HIN hno
 rw[hkx]at hno
 clear hnm
 have HSC:=yh HSI
 obtain⟨PL,hpl⟩:∃p:PR Nd,pl ((TT tvs).drop i)=p:=⟨_,rfl⟩
 rw[hpl]at HSC |-
 clear hpl HSI
 have HB0:=yh hB
 have HXB:=yh (xb hbb)
 have hL:Kn [b] w w [(b,.cells #[v,.int .i64 (d:Int)] 73 (0,0))]:=Kn.one hb
 have HBS:=yh hb
 clear hB hb
 have hF:=hL.fx
 cases kx
 ·cases PL with
  |bad er m2=>
   go_enter Tryz.func105,Tryz.ntmps105;go_wp2_with (first|(with_reducible refine zS ?_;intro W hL hF)|(go_at_call 119;refine zC (fun W hL=>HBL.out _ (ag HB0.out hL HXB.out) hL.h1) ?_;intro W hL hF)|(go_at_call 86;refine zC (fun W hL=>cK E b i v (d:Int) _ (ag HB0.out hL HXB.out) hbb hv hL.h1 cg co 10 _ cz _ HK1 (yh rfl) (by omega) (cG (ag HB0.out hL HXB.out) HC3.out) hcb.out) ?_;intro W hL hF)|(go_at_call 27;refine zC (fun W hL=>aL E b i v (d:Int) _ (ag HB0.out hL HXB.out) hbb hv hL.h1 HX.out pa pn pc HX2.out) ?_;intro W hL hF)|(go_at_call 123;(with_reducible refine zM (fun W hL=>HSC.out _ (ag HB0.out hL HXB.out) hL.h2) ?_);rintro W hL e W ⟨vj2,dj,rfl,hb⟩;replace hL:=hL.jn 2 hb;clear hb;have hF:=hL.fx))
   exact⟨rfl,vj2,dj,rfl,hL.pm⟩
  |ok z r=>
   go_enter Tryz.func105,Tryz.ntmps105;go_wp2_with (first|(with_reducible refine zS ?_;intro W hL hF)|(go_at_call 119;refine zC (fun W hL=>HBL.out _ (ag HB0.out hL HXB.out) hL.h1) ?_;intro W hL hF)|(go_at_call 86;refine zC (fun W hL=>cK E b i v (d:Int) _ (ag HB0.out hL HXB.out) hbb hv hL.h1 cg co 10 _ cz _ HK1 (yh rfl) (by omega) (cG (ag HB0.out hL HXB.out) HC3.out) hcb.out) ?_;intro W hL hF)|(go_at_call 27;refine zC (fun W hL=>aL E b i v (d:Int) _ (ag HB0.out hL HXB.out) hbb hv hL.h1 HX.out pa pn pc HX2.out) ?_;intro W hL hF)|(go_at_call 123;(with_reducible refine zM (fun W hL=>HSC.out _ (ag HB0.out hL HXB.out) hL.h2) ?_);rintro W hL e W ⟨nm,aa,na,ca,aw,nw,cw,ar,nr,cr,ak,nk,ck,LN,j2,vj2,rfl,HN,HJ2,hb⟩;replace hL:=hL.jn 2 hb;clear hb;have hF:=hL.fx;replace hL:=hL.in02;clear hF;have hF:=hL.fx))
   refine zF ?_;intro W hL hF;refine bodyPost_ret (by simp[results,Tryz.results105,go_sem, *];try rfl) rfl ?_;exact⟨nm,aa,na,ca,aw,nw,cw,ar,nr,cr,ak,nk,ck,LN,j2,vj2,rfl,HN,HJ2,hL.pm⟩
 ·obtain rfl:nm=false:=hno.resolve_left (by decide)
  clear hno
  cases PL with
  |bad er m2=>
   go_enter Tryz.func105,Tryz.ntmps105;go_wp2_with (first|(with_reducible refine zS ?_;intro W hL hF)|(go_at_call 119;refine zC (fun W hL=>HBL.out _ (ag HB0.out hL HXB.out) hL.h1) ?_;intro W hL hF)|(go_at_call 86;refine zC (fun W hL=>cK E b i v (d:Int) _ (ag HB0.out hL HXB.out) hbb hv hL.h1 cg co 10 _ cz _ HK1 (yh rfl) (by omega) (cG (ag HB0.out hL HXB.out) HC3.out) hcb.out) ?_;intro W hL hF)|(go_at_call 27;refine zC (fun W hL=>aL E b i v (d:Int) _ (ag HB0.out hL HXB.out) hbb hv hL.h1 HX.out pa pn pc HX2.out) ?_;intro W hL hF)|(go_at_call 121;refine zC (fun W hL=>HIN.out _) ?_;intro W hL hF)|(go_at_call 123;(with_reducible refine zM (fun W hL=>HSC.out _ (ag HB0.out hL HXB.out) hL.h2) ?_);rintro W hL e W ⟨vj2,dj,rfl,hb⟩;replace hL:=hL.jn 2 hb;clear hb;have hF:=hL.fx))
   exact⟨rfl,vj2,dj,rfl,hL.pm⟩
  |ok z r=>
   go_enter Tryz.func105,Tryz.ntmps105;go_wp2_with (first|(with_reducible refine zS ?_;intro W hL hF)|(go_at_call 119;refine zC (fun W hL=>HBL.out _ (ag HB0.out hL HXB.out) hL.h1) ?_;intro W hL hF)|(go_at_call 86;refine zC (fun W hL=>cK E b i v (d:Int) _ (ag HB0.out hL HXB.out) hbb hv hL.h1 cg co 10 _ cz _ HK1 (yh rfl) (by omega) (cG (ag HB0.out hL HXB.out) HC3.out) hcb.out) ?_;intro W hL hF)|(go_at_call 27;refine zC (fun W hL=>aL E b i v (d:Int) _ (ag HB0.out hL HXB.out) hbb hv hL.h1 HX.out pa pn pc HX2.out) ?_;intro W hL hF)|(go_at_call 121;refine zC (fun W hL=>HIN.out _) ?_;intro W hL hF)|(go_at_call 123;(with_reducible refine zM (fun W hL=>HSC.out _ (ag HB0.out hL HXB.out) hL.h2) ?_);rintro W hL e W ⟨nm,aa,na,ca,aw,nw,cw,ar,nr,cr,ak,nk,ck,LN,j2,vj2,rfl,HN,HJ2,hb⟩;replace hL:=hL.jn 2 hb;clear hb;have hF:=hL.fx;replace hL:=hL.in02;clear hF;have hF:=hL.fx))
   refine zF ?_;intro W hL hF;refine bodyPost_ret (by simp[results,Tryz.results105,go_sem, *];try rfl) rfl ?_;exact⟨nm,aa,na,ca,aw,nw,cw,ar,nr,cr,ak,nk,ck,LN,j2,vj2,rfl,HN,HJ2,hL.pm⟩
end
end Go.Proofs.YtgboffbbpmileaaGreatDoor
