/- Lemmas and walks for the law VLawPSound (part 9). -/
import Derived.Test.YtgboffbbpmileaaGreatDoorPx8
import Derived.Test.YtgboffbbpmileaaGreatDoorProg
import Derived.WalkKit
import Derived.Handy
import Derived.Deep.Light
import Derived.WalkSmall
import Derived.StillTailTactics
import Derived.Lib.Hide
import Derived.Defers
import Derived.IntWalk
import Derived.Recover
import Derived.Deep.LoopGhost
import Derived.Deep.DeepCutAuto
import Derived.Deep.CutBlock
set_option maxRecDepth 20000
set_option maxHeartbeats 4000000
set_option linter.unusedVariables false
set_option linter.unusedSimpArgs false
namespace Go.Proofs.YtgboffbbpmileaaGreatDoor
open Go Go.RowKit
section
theorem Kn.in02{X:List Nat}{w0 W:World}{p0 p1 p2:Nat×Obj}{LP:List (Nat×Obj)}(h:Kn X w0 W (p0::(LP++[p1,p2]))):Kn X w0 W (p0::p1::p2::LP):=h.perm fun p=>by simp only[List.countP_cons,List.countP_append,List.countP_nil];omega
theorem jO{W0:World}{g o cap:Nat}{tvs:List (Tok×Value)}(E:PEnv W0 g o cap tvs){d:Nat}{pl:Pa Nd}(b i:Nat)(v:Value)(w:World)(hB:Below W0.heap.size W0 w)(hbb:W0.heap.size<=b)(hv:Hid (AtV g o cap tvs i v))(hb:w.heap[b]? =some (.cells #[v,.int .i64 (d:Nat)] 73 (0,0)))(HSI:∀W:World,Below W0.heap.size W0 W->W.heap[b]? =some (.cells #[v,.int .i64 (d:Nat)] 73 (0,0))->Calls Tryz.prog 123 #[.pointer (some ⟨b,0,none⟩)] W (cR W0 b d g o cap tvs W (pl ((TT tvs).drop i))))(hbo:cV ((TT tvs).drop i)=none)(hk1:bP closers ((TT tvs).drop i)=false){x:Tok×Value}(hx0:tvs[i]? =some x)(hno:((x.1.kind:Int)==0)=false\/cG x.1.plain=false):Calls Tryz.prog 105 #[.pointer (some ⟨b,0,none⟩)] w fun e w'=>cR W0 b d g o cap tvs w (pl ((TT tvs).drop i)) e w':=by
 have HBL:Hid (∀W,Below W0.heap.size W0 W->W.heap[b]? =some (.cells #[v,.int .i64 (d:Nat)] 73 (0,0))->Calls Tryz.prog 119 #[.pointer (some ⟨b,0,none⟩)] W fun e w'=>e=.returned (.nilFunc)/\Below W.heap.size W w'):=yh fun W hB hb=>by have h:=f6 E b i v d W hB hbb hv hb;rw[hbo]at h;exact h
 have hfn:=jf
 have HK1:Hid (bP (b_.map fun z=>z.data.toList) ((TT tvs).drop i)=false):=yh (by rw[fZ];exact hk1)
 clear hbo hk1
 obtain⟨cg,co,cc,hc1,hc2,hc3⟩:=E.clo
 have HC3:=yh hc3
 have hg0:=aF hc1
 have hc4:=bL hc1 hB
 have hcb:Hid (cg≠b):=yh (by have:=jL hc3;omega)
 have hg1:0<b:=by omega
 have hg2:0<w.heap.size:=aF hc4
 have hg3:¬0=b:=by omega
 clear hc3 hc1
 obtain⟨x9,pa,pn,pc,hx,hx2⟩:=E.tok hv.out
 obtain rfl:x=x9:=Option.some.inj (hx0.symm.trans hx)
 clear hx0
 have HX:=yh hx
 have HX2:=yh hx2
 obtain⟨f0,f1,f2,f3,f4,f5⟩:=tkF x.1.kind x.1.fd x.1.line ⟨x.1.text.toArray⟩ ⟨x.1.plain.toArray⟩ pa pn pc
 clear hx hx2
 have HSZ:Hid ((⟨x.1.plain.toArray⟩:ByteArray).size<=1000000):=yh (by have:=(E.word x (List.mem_of_getElem? HX.out)).2.1;rw[<- szl];simp only[List.toList_toArray];omega)
 have HIN:=yh (fun W=>ej ⟨x.1.plain.toArray⟩ HSZ.out W)
 simp only[List.toList_toArray]at HIN
 obtain⟨kx,hkx⟩:∃z:Bool,((x.1.kind:Int)==0)=z:=⟨_,rfl⟩
 obtain⟨nm,hnm⟩:∃z:Bool,cG x.1.plain=z:=⟨_,rfl⟩
 rw[hnm]at HIN hno
 rw[hkx]at hno
 clear hnm
 have HSC:=yh HSI
 obtain⟨PL,hpl⟩:∃p:PR Nd,pl ((TT tvs).drop i)=p:=⟨_,rfl⟩
 rw[hpl]at HSC |-
 clear hpl HSI
 have HB0:=yh hB
 have HXB:=yh (xb hbb)
 have hL:Kn [b] w w [(b,.cells #[v,.int .i64 (d:Int)] 73 (0,0))]:=Kn.one hb
 have HBS:=yh hb
 clear hB hb
 have hF:=hL.fx
 cases kx
 ·cases PL with
  |bad er m2=>
   go_enter Tryz.func105,Tryz.ntmps105;go_wp2_with (first|(with_reducible refine zS ?_;intro W hL hF)|(go_at_call 119;refine zC (fun W hL=>HBL.out _ (af HB0.out hL HXB.out) hL.h1) ?_;intro W hL hF)|(go_at_call 86;refine zC (fun W hL=>cj E b i v (d:Int) _ (af HB0.out hL HXB.out) hbb hv hL.h1 cg co 10 _ b_ _ HK1 (yh rfl) (by omega) (b' (af HB0.out hL HXB.out) HC3.out) hcb.out) ?_;intro W hL hF)|(go_at_call 27;refine zC (fun W hL=>aK E b i v (d:Int) _ (af HB0.out hL HXB.out) hbb hv hL.h1 HX.out pa pn pc HX2.out) ?_;intro W hL hF)|(go_at_call 123;(with_reducible refine zM (fun W hL=>HSC.out _ (af HB0.out hL HXB.out) hL.h2) ?_);rintro W hL e W ⟨vj2,dj,rfl,hb⟩;replace hL:=hL.jn 2 hb;clear hb;have hF:=hL.fx))
   exact⟨rfl,vj2,dj,rfl,hL.pm⟩
  |ok z r=>
   go_enter Tryz.func105,Tryz.ntmps105;go_wp2_with (first|(with_reducible refine zS ?_;intro W hL hF)|(go_at_call 119;refine zC (fun W hL=>HBL.out _ (af HB0.out hL HXB.out) hL.h1) ?_;intro W hL hF)|(go_at_call 86;refine zC (fun W hL=>cj E b i v (d:Int) _ (af HB0.out hL HXB.out) hbb hv hL.h1 cg co 10 _ b_ _ HK1 (yh rfl) (by omega) (b' (af HB0.out hL HXB.out) HC3.out) hcb.out) ?_;intro W hL hF)|(go_at_call 27;refine zC (fun W hL=>aK E b i v (d:Int) _ (af HB0.out hL HXB.out) hbb hv hL.h1 HX.out pa pn pc HX2.out) ?_;intro W hL hF)|(go_at_call 123;(with_reducible refine zM (fun W hL=>HSC.out _ (af HB0.out hL HXB.out) hL.h2) ?_);rintro W hL e W ⟨nm,aa,na,ca,aw,nw,cw,ar,nr,cr,ak,nk,ck,LN,j2,vj2,rfl,HN,HJ2,hb⟩;replace hL:=hL.jn 2 hb;clear hb;have hF:=hL.fx;replace hL:=hL.in02;clear hF;have hF:=hL.fx))
   refine zF ?_;intro W hL hF;refine bodyPost_ret (by simp[results,Tryz.results105,go_sem, *];try rfl) rfl ?_;exact⟨nm,aa,na,ca,aw,nw,cw,ar,nr,cr,ak,nk,ck,LN,j2,vj2,rfl,HN,HJ2,hL.pm⟩
 ·obtain rfl:nm=false:=hno.resolve_left (by decide)
  clear hno
  cases PL with
  |bad er m2=>
   go_enter Tryz.func105,Tryz.ntmps105;go_wp2_with (first|(with_reducible refine zS ?_;intro W hL hF)|(go_at_call 119;refine zC (fun W hL=>HBL.out _ (af HB0.out hL HXB.out) hL.h1) ?_;intro W hL hF)|(go_at_call 86;refine zC (fun W hL=>cj E b i v (d:Int) _ (af HB0.out hL HXB.out) hbb hv hL.h1 cg co 10 _ b_ _ HK1 (yh rfl) (by omega) (b' (af HB0.out hL HXB.out) HC3.out) hcb.out) ?_;intro W hL hF)|(go_at_call 27;refine zC (fun W hL=>aK E b i v (d:Int) _ (af HB0.out hL HXB.out) hbb hv hL.h1 HX.out pa pn pc HX2.out) ?_;intro W hL hF)|(go_at_call 121;refine zC (fun W hL=>HIN.out _) ?_;intro W hL hF)|(go_at_call 123;(with_reducible refine zM (fun W hL=>HSC.out _ (af HB0.out hL HXB.out) hL.h2) ?_);rintro W hL e W ⟨vj2,dj,rfl,hb⟩;replace hL:=hL.jn 2 hb;clear hb;have hF:=hL.fx))
   exact⟨rfl,vj2,dj,rfl,hL.pm⟩
  |ok z r=>
   go_enter Tryz.func105,Tryz.ntmps105;go_wp2_with (first|(with_reducible refine zS ?_;intro W hL hF)|(go_at_call 119;refine zC (fun W hL=>HBL.out _ (af HB0.out hL HXB.out) hL.h1) ?_;intro W hL hF)|(go_at_call 86;refine zC (fun W hL=>cj E b i v (d:Int) _ (af HB0.out hL HXB.out) hbb hv hL.h1 cg co 10 _ b_ _ HK1 (yh rfl) (by omega) (b' (af HB0.out hL HXB.out) HC3.out) hcb.out) ?_;intro W hL hF)|(go_at_call 27;refine zC (fun W hL=>aK E b i v (d:Int) _ (af HB0.out hL HXB.out) hbb hv hL.h1 HX.out pa pn pc HX2.out) ?_;intro W hL hF)|(go_at_call 121;refine zC (fun W hL=>HIN.out _) ?_;intro W hL hF)|(go_at_call 123;(with_reducible refine zM (fun W hL=>HSC.out _ (af HB0.out hL HXB.out) hL.h2) ?_);rintro W hL e W ⟨nm,aa,na,ca,aw,nw,cw,ar,nr,cr,ak,nk,ck,LN,j2,vj2,rfl,HN,HJ2,hb⟩;replace hL:=hL.jn 2 hb;clear hb;have hF:=hL.fx;replace hL:=hL.in02;clear hF;have hF:=hL.fx))
   refine zF ?_;intro W hL hF;refine bodyPost_ret (by simp[results,Tryz.results105,go_sem, *];try rfl) rfl ?_;exact⟨nm,aa,na,ca,aw,nw,cw,ar,nr,cr,ak,nk,ck,LN,j2,vj2,rfl,HN,HJ2,hL.pm⟩
theorem jP{W0:World}{g o cap:Nat}{tvs:List (Tok×Value)}(E:PEnv W0 g o cap tvs){d:Nat}{pl:Pa Nd}(b i:Nat)(v:Value)(w:World)(hB:Below W0.heap.size W0 w)(hbb:W0.heap.size<=b)(hv:Hid (AtV g o cap tvs i v))(hb:w.heap[b]? =some (.cells #[v,.int .i64 (d:Nat)] 73 (0,0)))(HSI:∀W:World,Below W0.heap.size W0 W->W.heap[b]? =some (.cells #[v,.int .i64 (d:Nat)] 73 (0,0))->Calls Tryz.prog 123 #[.pointer (some ⟨b,0,none⟩)] W (cR W0 b d g o cap tvs W (pl ((TT tvs).drop i))))(hbo:cV ((TT tvs).drop i)=none)(hk1:bP closers ((TT tvs).drop i)=false){x y:Tok×Value}(hx0:tvs[i]? =some x)(hy:tvs[i+1]? =some y)(hkx:((x.1.kind:Int)==0)=true)(hnm:cG x.1.plain=true)(hno:((y.1.kind:Int)==1)=false\/(y.1.text==[40])=false):Calls Tryz.prog 105 #[.pointer (some ⟨b,0,none⟩)] w fun e w'=>cR W0 b d g o cap tvs w (pl ((TT tvs).drop i)) e w':=by
 have HBL:Hid (∀W,Below W0.heap.size W0 W->W.heap[b]? =some (.cells #[v,.int .i64 (d:Nat)] 73 (0,0))->Calls Tryz.prog 119 #[.pointer (some ⟨b,0,none⟩)] W fun e w'=>e=.returned (.nilFunc)/\Below W.heap.size W w'):=yh fun W hB hb=>by have h:=f6 E b i v d W hB hbb hv hb;rw[hbo]at h;exact h
 have hfn:=jf
 have HK1:Hid (bP (b_.map fun z=>z.data.toList) ((TT tvs).drop i)=false):=yh (by rw[fZ];exact hk1)
 clear hbo hk1
 obtain⟨cg,co,cc,hc1,hc2,hc3⟩:=E.clo
 have HC3:=yh hc3
 have hg0:=aF hc1
 have hc4:=bL hc1 hB
 have hcb:Hid (cg≠b):=yh (by have:=jL hc3;omega)
 have hg1:0<b:=by omega
 have hg2:0<w.heap.size:=aF hc4
 have hg3:¬0=b:=by omega
 clear hc3 hc1
 obtain⟨x9,pa,pn,pc,hx,hx2⟩:=E.tok hv.out
 obtain rfl:x=x9:=Option.some.inj (hx0.symm.trans hx)
 clear hx0
 have HX:=yh hx
 have HX2:=yh hx2
 obtain⟨f0,f1,f2,f3,f4,f5⟩:=tkF x.1.kind x.1.fd x.1.line ⟨x.1.text.toArray⟩ ⟨x.1.plain.toArray⟩ pa pn pc
 clear hx hx2
 have HSZ:Hid ((⟨x.1.plain.toArray⟩:ByteArray).size<=1000000):=yh (by have:=(E.word x (List.mem_of_getElem? HX.out)).2.1;rw[<- szl];simp only[List.toList_toArray];omega)
 have HIN:=yh (fun W=>ej ⟨x.1.plain.toArray⟩ HSZ.out W)
 simp only[List.toList_toArray]at HIN
 rw[hnm]at HIN
 clear hnm
 have hn9:i+1<tvs.length:=(List.getElem?_eq_some_iff.1 hy).1
 have hi9:=hv.out.1
 have hmx:=E.max
 have hve:=hv.out.2
 have q1:decide ((1:Int)<((tvs.length-i:Nat):Int))=true:=decide_eq_true (by omega)
 have q2:1<tvs.length-i:=by omega
 obtain⟨pay,pny,pcy,hyp⟩:∃a n c,y.2=.slice a n c:=by obtain⟨a,n,c,h,_⟩:=(E.parts y (List.mem_of_getElem? hy)).2;exact⟨a,n,c,h⟩
 have hcy:=fE E hB hy pay pny pcy hyp
 have hy0:w.cell? ⟨g,o+i*6+6,none⟩=some (.int .i64 (y.1.kind:Int)):=by have:=hcy.1;rwa[show o+(i+1)*6=o+i*6+6 by omega]at this
 have hy1:w.cell? ⟨g,o+i*6+6+1,none⟩=some (.string ⟨y.1.text.toArray⟩):=by have:=hcy.2.1;rwa[show o+(i+1)*6+1=o+i*6+6+1 by omega]at this
 have hgl:=aF hy0
 have hgb:g≠b:=by have:=aF (fE E (Below.refl _ W0) hy pay pny pcy hyp).1;omega
 clear hcy hyp
 clear hy
 have HSC:=yh HSI
 obtain⟨PL,hpl⟩:∃p:PR Nd,pl ((TT tvs).drop i)=p:=⟨_,rfl⟩
 rw[hpl]at HSC |-
 clear hpl HSI
 obtain⟨ky,hky⟩:∃z:Bool,((y.1.kind:Int)==1)=z:=⟨_,rfl⟩
 obtain⟨ty,hty⟩:∃z:Bool,(y.1.text==[40])=z:=⟨_,rfl⟩
 rw[hky,hty]at hno
 have HB0:=yh hB
 have HXB:=yh (xb hbb)
 have hL:Kn [b] w w [(b,.cells #[v,.int .i64 (d:Int)] 73 (0,0))]:=Kn.one hb
 have HBS:=yh hb
 clear hB hb
 have hF:=hL.fx
 cases ky
 ·cases PL with
  |bad er m2=>
   go_enter Tryz.func105,Tryz.ntmps105;go_wp2_with (first|(with_reducible refine zS ?_;intro W hL hF)|(go_at_call 119;refine zC (fun W hL=>HBL.out _ (af HB0.out hL HXB.out) hL.h1) ?_;intro W hL hF)|(go_at_call 86;refine zC (fun W hL=>cj E b i v (d:Int) _ (af HB0.out hL HXB.out) hbb hv hL.h1 cg co 10 _ b_ _ HK1 (yh rfl) (by omega) (b' (af HB0.out hL HXB.out) HC3.out) hcb.out) ?_;intro W hL hF)|(go_at_call 27;refine zC (fun W hL=>aK E b i v (d:Int) _ (af HB0.out hL HXB.out) hbb hv hL.h1 HX.out pa pn pc HX2.out) ?_;intro W hL hF)|(go_at_call 121;refine zC (fun W hL=>HIN.out _) ?_;intro W hL hF)|(go_at_call 123;(with_reducible refine zM (fun W hL=>HSC.out _ (af HB0.out hL HXB.out) hL.h2) ?_);rintro W hL e W ⟨vj2,dj,rfl,hb⟩;replace hL:=hL.jn 2 hb;clear hb;have hF:=hL.fx))
   exact⟨rfl,vj2,dj,rfl,hL.pm⟩
  |ok z r=>
   go_enter Tryz.func105,Tryz.ntmps105;go_wp2_with (first|(with_reducible refine zS ?_;intro W hL hF)|(go_at_call 119;refine zC (fun W hL=>HBL.out _ (af HB0.out hL HXB.out) hL.h1) ?_;intro W hL hF)|(go_at_call 86;refine zC (fun W hL=>cj E b i v (d:Int) _ (af HB0.out hL HXB.out) hbb hv hL.h1 cg co 10 _ b_ _ HK1 (yh rfl) (by omega) (b' (af HB0.out hL HXB.out) HC3.out) hcb.out) ?_;intro W hL hF)|(go_at_call 27;refine zC (fun W hL=>aK E b i v (d:Int) _ (af HB0.out hL HXB.out) hbb hv hL.h1 HX.out pa pn pc HX2.out) ?_;intro W hL hF)|(go_at_call 121;refine zC (fun W hL=>HIN.out _) ?_;intro W hL hF)|(go_at_call 123;(with_reducible refine zM (fun W hL=>HSC.out _ (af HB0.out hL HXB.out) hL.h2) ?_);rintro W hL e W ⟨nm,aa,na,ca,aw,nw,cw,ar,nr,cr,ak,nk,ck,LN,j2,vj2,rfl,HN,HJ2,hb⟩;replace hL:=hL.jn 2 hb;clear hb;have hF:=hL.fx;replace hL:=hL.in02;clear hF;have hF:=hL.fx))
   refine zF ?_;intro W hL hF;refine bodyPost_ret (by simp[results,Tryz.results105,go_sem, *];try rfl) rfl ?_;exact⟨nm,aa,na,ca,aw,nw,cw,ar,nr,cr,ak,nk,ck,LN,j2,vj2,rfl,HN,HJ2,hL.pm⟩
 ·obtain rfl:ty=false:=hno.resolve_left (by decide)
  clear hno
  cases PL with
  |bad er m2=>
   go_enter Tryz.func105,Tryz.ntmps105;go_wp2_with (first|(with_reducible refine zS ?_;intro W hL hF)|(go_at_call 119;refine zC (fun W hL=>HBL.out _ (af HB0.out hL HXB.out) hL.h1) ?_;intro W hL hF)|(go_at_call 86;refine zC (fun W hL=>cj E b i v (d:Int) _ (af HB0.out hL HXB.out) hbb hv hL.h1 cg co 10 _ b_ _ HK1 (yh rfl) (by omega) (b' (af HB0.out hL HXB.out) HC3.out) hcb.out) ?_;intro W hL hF)|(go_at_call 27;refine zC (fun W hL=>aK E b i v (d:Int) _ (af HB0.out hL HXB.out) hbb hv hL.h1 HX.out pa pn pc HX2.out) ?_;intro W hL hF)|(go_at_call 121;refine zC (fun W hL=>HIN.out _) ?_;intro W hL hF)|(go_at_call 123;(with_reducible refine zM (fun W hL=>HSC.out _ (af HB0.out hL HXB.out) hL.h2) ?_);rintro W hL e W ⟨vj2,dj,rfl,hb⟩;replace hL:=hL.jn 2 hb;clear hb;have hF:=hL.fx))
   exact⟨rfl,vj2,dj,rfl,hL.pm⟩
  |ok z r=>
   go_enter Tryz.func105,Tryz.ntmps105;go_wp2_with (first|(with_reducible refine zS ?_;intro W hL hF)|(go_at_call 119;refine zC (fun W hL=>HBL.out _ (af HB0.out hL HXB.out) hL.h1) ?_;intro W hL hF)|(go_at_call 86;refine zC (fun W hL=>cj E b i v (d:Int) _ (af HB0.out hL HXB.out) hbb hv hL.h1 cg co 10 _ b_ _ HK1 (yh rfl) (by omega) (b' (af HB0.out hL HXB.out) HC3.out) hcb.out) ?_;intro W hL hF)|(go_at_call 27;refine zC (fun W hL=>aK E b i v (d:Int) _ (af HB0.out hL HXB.out) hbb hv hL.h1 HX.out pa pn pc HX2.out) ?_;intro W hL hF)|(go_at_call 121;refine zC (fun W hL=>HIN.out _) ?_;intro W hL hF)|(go_at_call 123;(with_reducible refine zM (fun W hL=>HSC.out _ (af HB0.out hL HXB.out) hL.h2) ?_);rintro W hL e W ⟨nm,aa,na,ca,aw,nw,cw,ar,nr,cr,ak,nk,ck,LN,j2,vj2,rfl,HN,HJ2,hb⟩;replace hL:=hL.jn 2 hb;clear hb;have hF:=hL.fx;replace hL:=hL.in02;clear hF;have hF:=hL.fx))
   refine zF ?_;intro W hL hF;refine bodyPost_ret (by simp[results,Tryz.results105,go_sem, *];try rfl) rfl ?_;exact⟨nm,aa,na,ca,aw,nw,cw,ar,nr,cr,ak,nk,ck,LN,j2,vj2,rfl,HN,HJ2,hL.pm⟩
theorem rx{W0:World}{g o cap:Nat}{tvs:List (Tok×Value)}(E:PEnv W0 g o cap tvs){d:Nat}{pl:Pa Nd}(b i:Nat)(v:Value)(w:World)(hB:Below W0.heap.size W0 w)(hbb:W0.heap.size<=b)(hv:Hid (AtV g o cap tvs i v))(hb:w.heap[b]? =some (.cells #[v,.int .i64 (d:Nat)] 73 (0,0)))(HSI:∀W:World,Below W0.heap.size W0 W->W.heap[b]? =some (.cells #[v,.int .i64 (d:Nat)] 73 (0,0))->Calls Tryz.prog 122 #[.pointer (some ⟨b,0,none⟩)] W (cR W0 b d g o cap tvs W (pl ((TT tvs).drop i))))(hbo:cV ((TT tvs).drop i)=none)(hk1:bP closers ((TT tvs).drop i)=false){x y:Tok×Value}(hx0:tvs[i]? =some x)(hy:tvs[i+1]? =some y)(hkx:((x.1.kind:Int)==0)=true)(hnm:cG x.1.plain=true)(hky:((y.1.kind:Int)==1)=true)(hty:(y.1.text==[40])=true):Calls Tryz.prog 105 #[.pointer (some ⟨b,0,none⟩)] w fun e w'=>cR W0 b d g o cap tvs w (pl ((TT tvs).drop i)) e w':=by
 have HBL:Hid (∀W,Below W0.heap.size W0 W->W.heap[b]? =some (.cells #[v,.int .i64 (d:Nat)] 73 (0,0))->Calls Tryz.prog 119 #[.pointer (some ⟨b,0,none⟩)] W fun e w'=>e=.returned (.nilFunc)/\Below W.heap.size W w'):=yh fun W hB hb=>by have h:=f6 E b i v d W hB hbb hv hb;rw[hbo]at h;exact h
 have hfn:=jf
 have HK1:Hid (bP (b_.map fun z=>z.data.toList) ((TT tvs).drop i)=false):=yh (by rw[fZ];exact hk1)
 clear hbo hk1
 obtain⟨cg,co,cc,hc1,hc2,hc3⟩:=E.clo
 have HC3:=yh hc3
 have hg0:=aF hc1
 have hc4:=bL hc1 hB
 have hcb:Hid (cg≠b):=yh (by have:=jL hc3;omega)
 have hg1:0<b:=by omega
 have hg2:0<w.heap.size:=aF hc4
 have hg3:¬0=b:=by omega
 clear hc3 hc1
 obtain⟨x9,pa,pn,pc,hx,hx2⟩:=E.tok hv.out
 obtain rfl:x=x9:=Option.some.inj (hx0.symm.trans hx)
 clear hx0
 have HX:=yh hx
 have HX2:=yh hx2
 obtain⟨f0,f1,f2,f3,f4,f5⟩:=tkF x.1.kind x.1.fd x.1.line ⟨x.1.text.toArray⟩ ⟨x.1.plain.toArray⟩ pa pn pc
 clear hx hx2
 have HSZ:Hid ((⟨x.1.plain.toArray⟩:ByteArray).size<=1000000):=yh (by have:=(E.word x (List.mem_of_getElem? HX.out)).2.1;rw[<- szl];simp only[List.toList_toArray];omega)
 have HIN:=yh (fun W=>ej ⟨x.1.plain.toArray⟩ HSZ.out W)
 simp only[List.toList_toArray]at HIN
 rw[hnm]at HIN
 clear hnm
 have hn9:i+1<tvs.length:=(List.getElem?_eq_some_iff.1 hy).1
 have hi9:=hv.out.1
 have hmx:=E.max
 have hve:=hv.out.2
 have q1:decide ((1:Int)<((tvs.length-i:Nat):Int))=true:=decide_eq_true (by omega)
 have q2:1<tvs.length-i:=by omega
 obtain⟨pay,pny,pcy,hyp⟩:∃a n c,y.2=.slice a n c:=by obtain⟨a,n,c,h,_⟩:=(E.parts y (List.mem_of_getElem? hy)).2;exact⟨a,n,c,h⟩
 have hcy:=fE E hB hy pay pny pcy hyp
 have hy0:w.cell? ⟨g,o+i*6+6,none⟩=some (.int .i64 (y.1.kind:Int)):=by have:=hcy.1;rwa[show o+(i+1)*6=o+i*6+6 by omega]at this
 have hy1:w.cell? ⟨g,o+i*6+6+1,none⟩=some (.string ⟨y.1.text.toArray⟩):=by have:=hcy.2.1;rwa[show o+(i+1)*6+1=o+i*6+6+1 by omega]at this
 have hgl:=aF hy0
 have hgb:g≠b:=by have:=aF (fE E (Below.refl _ W0) hy pay pny pcy hyp).1;omega
 clear hcy hyp
 clear hy
 have HSC:=yh HSI
 obtain⟨PL,hpl⟩:∃p:PR Nd,pl ((TT tvs).drop i)=p:=⟨_,rfl⟩
 rw[hpl]at HSC |-
 clear hpl HSI
 have HB0:=yh hB
 have HXB:=yh (xb hbb)
 have hL:Kn [b] w w [(b,.cells #[v,.int .i64 (d:Int)] 73 (0,0))]:=Kn.one hb
 have HBS:=yh hb
 clear hB hb
 have hF:=hL.fx
 cases PL with
 |bad er m2=>
  go_enter Tryz.func105,Tryz.ntmps105;go_wp2_with (first|(with_reducible refine zS ?_;intro W hL hF)|(go_at_call 119;refine zC (fun W hL=>HBL.out _ (af HB0.out hL HXB.out) hL.h1) ?_;intro W hL hF)|(go_at_call 86;refine zC (fun W hL=>cj E b i v (d:Int) _ (af HB0.out hL HXB.out) hbb hv hL.h1 cg co 10 _ b_ _ HK1 (yh rfl) (by omega) (b' (af HB0.out hL HXB.out) HC3.out) hcb.out) ?_;intro W hL hF)|(go_at_call 27;refine zC (fun W hL=>aK E b i v (d:Int) _ (af HB0.out hL HXB.out) hbb hv hL.h1 HX.out pa pn pc HX2.out) ?_;intro W hL hF)|(go_at_call 121;refine zC (fun W hL=>HIN.out _) ?_;intro W hL hF)|(go_at_call 122;(with_reducible refine zM (fun W hL=>HSC.out _ (af HB0.out hL HXB.out) hL.h2) ?_);rintro W hL e W ⟨vj2,dj,rfl,hb⟩;replace hL:=hL.jn 2 hb;clear hb;have hF:=hL.fx))
  exact⟨rfl,vj2,dj,rfl,hL.pm⟩
 |ok z r=>
  go_enter Tryz.func105,Tryz.ntmps105;go_wp2_with (first|(with_reducible refine zS ?_;intro W hL hF)|(go_at_call 119;refine zC (fun W hL=>HBL.out _ (af HB0.out hL HXB.out) hL.h1) ?_;intro W hL hF)|(go_at_call 86;refine zC (fun W hL=>cj E b i v (d:Int) _ (af HB0.out hL HXB.out) hbb hv hL.h1 cg co 10 _ b_ _ HK1 (yh rfl) (by omega) (b' (af HB0.out hL HXB.out) HC3.out) hcb.out) ?_;intro W hL hF)|(go_at_call 27;refine zC (fun W hL=>aK E b i v (d:Int) _ (af HB0.out hL HXB.out) hbb hv hL.h1 HX.out pa pn pc HX2.out) ?_;intro W hL hF)|(go_at_call 121;refine zC (fun W hL=>HIN.out _) ?_;intro W hL hF)|(go_at_call 122;(with_reducible refine zM (fun W hL=>HSC.out _ (af HB0.out hL HXB.out) hL.h2) ?_);rintro W hL e W ⟨nm,aa,na,ca,aw,nw,cw,ar,nr,cr,ak,nk,ck,LN,j2,vj2,rfl,HN,HJ2,hb⟩;replace hL:=hL.jn 2 hb;clear hb;have hF:=hL.fx;replace hL:=hL.in02;clear hF;have hF:=hL.fx))
  refine zF ?_;intro W hL hF;refine bodyPost_ret (by simp[results,Tryz.results105,go_sem, *];try rfl) rfl ?_;exact⟨nm,aa,na,ca,aw,nw,cw,ar,nr,cr,ak,nk,ck,LN,j2,vj2,rfl,HN,HJ2,hL.pm⟩
theorem pX{W0:World}{g o cap:Nat}{tvs:List (Tok×Value)}(E:PEnv W0 g o cap tvs){i:Nat}{x:Tok×Value}(hx:tvs[i]? =some x):x7 ((TT tvs).drop i)=(((x.1.kind:Int)==0)&&cG x.1.plain&&aR [40] ((TT tvs).drop (i+1))):=by
 rcases bD E hx with⟨h1,h2,h3,h4⟩|⟨h1,h2,h3⟩
 ·rw[h1,h2];rfl
 ·rw[h1]
  show((x.1.kind==0)&&_&&_)=_
  congr 2;rw[Bool.eq_iff_iff,beq_iff_eq,beq_iff_eq];omega
theorem kS{W0:World}{g o cap:Nat}{tvs:List (Tok×Value)}(E:PEnv W0 g o cap tvs){d:Nat}{comp:Blk->Pa Nd}{inner:Option (Blk->Pa Nd)}(HCO:iS W0 g o cap tvs d comp)(HFN:yL W0 g o cap tvs d (fnP inner)):ct W0 g o cap tvs 105 d (gU comp inner):=by
 intro b i v w hB hbb hv hb
 obtain⟨x,pa,pn,pc,hx,_⟩:=E.tok hv.out
 unfold gU
 cases hbo:cV ((TT tvs).drop i)with
 |some bk=>exact nh E HCO b i v w hB hbb hv hb bk hbo
 |none=>
  have HSI:=fun(W:World) (hB:Below W0.heap.size W0 W) hb=>tp E b i v d W hB hbb hv hb
  simp only
  cases hk1:bP closers ((TT tvs).drop i)with
  |true=>rw[if_pos rfl];exact ni E b i v w hB hbb hv hb hbo hk1
  |false=>
   rw[if_neg (by decide)];have hf:=pX E hx
   cases hkx:((x.1.kind:Int)==0)with
   |false=>
    rw[hkx]at hf;rw[if_neg (by rw[hf];simp)];exact jO E b i v w hB hbb hv hb HSI hbo hk1 hx (.inl hkx)
   |true=>
    cases hnm:cG x.1.plain with
    |false=>
     rw[hnm]at hf;rw[if_neg (by rw[hf];simp)];exact jO E b i v w hB hbb hv hb HSI hbo hk1 hx (.inr hnm)
    |true=>
     have h9:i+1<tvs.length:=by
      rcases bD E hx with h|h
      ·have:=h.2.1;rw[beq_iff_eq]at hkx;omega
      ·exact h.2.2
     obtain⟨y,hy⟩:∃y,tvs[i+1]? =some y:=⟨_,List.getElem?_eq_getElem h9⟩;rw[hkx,hnm,pS E hy]at hf
     cases hky:((y.1.kind:Int)==1)with
     |false=>
      rw[hky]at hf;rw[if_neg (by rw[hf];simp)];exact jP E b i v w hB hbb hv hb HSI hbo hk1 hx hy hkx hnm (.inl hky)
     |true=>
      cases hty:(y.1.text==[40])with
      |false=>
       rw[hky,hty]at hf;rw[if_neg (by rw[hf];decide)];exact jP E b i v w hB hbb hv hb HSI hbo hk1 hx hy hkx hnm (.inr hty)
      |true=>
       rw[hky,hty]at hf;rw[if_pos (by rw[hf];decide)];exact rx E (pl:=fnP inner) b i v w hB hbb hv hb (fun W hB hb=>HFN b i v W hB hbb hv hb (by rw[hf];decide)) hbo hk1 hx hy hkx hnm hky hty
theorem gE{W0:World}{g o cap:Nat}{tvs:List (Tok×Value)}(E:PEnv W0 g o cap tvs)(b i:Nat)(v:Value)(d:Nat)(w:World)(hB:Below W0.heap.size W0 w)(hbb:W0.heap.size<=b)(hv:Hid (AtV g o cap tvs i v))(hb:w.heap[b]? =some (.cells #[v,.int .i64 (d:Int)] 73 (0,0)))(h20:d=20):Calls Tryz.prog 143 #[.pointer (some ⟨b,0,none⟩)] w fun e w'=>lE b d g o cap tvs w (α:=Unit) (fun _ _ _=>False) (full ((TT tvs).drop i)) e w':=by
 obtain⟨m,hm⟩:∃m,m=((TT tvs).drop i).length:=⟨_,rfl⟩
 have Hm:=yh hm
 clear hm
 have q0:((d:Int)==20)=true:=by rw[h20];rfl
 have HB0:=yh hB
 have HXB:=yh (xb hbb)
 have hL:Kn [b] w w [(b,.cells #[v,.int .i64 (d:Int)] 73 (0,0))]:=Kn.one hb
 have HBS:=yh hb
 clear hB hb
 have hF:=hL.fx
 have hmf:∀(fn:Fn) (first cap:Array Value) (w:World),(Instr.makeFunc fn first cap).run Tryz.prog w=.ok (.func fn first cap) w:=fun _ _ _ _=>rfl
 go_enter Tryz.func143,Tryz.ntmps143
 go_wp2_with (first|(with_reducible refine zS ?_;intro W hL hF)|(go_at_call 28;(with_reducible refine zM (fun W hL=>fg E b i v d _ (af HB0.out hL HXB.out) hbb hv hL.h1 6 d 2 (yh rfl) m Hm) ?_);rintro W hL e W ⟨vj,dj,rfl,hb⟩;replace hL:=hL.jn 1 hb;clear hb;have hF:=hL.fx))
 exact⟨rfl,_,_,by rw[Hm.out]<;>rfl,hL.sub (by repeat' (first|exact List.Sublist.refl _|apply List.Sublist.cons_cons|apply List.Sublist.cons))⟩
theorem jQ{W0:World}{g o cap:Nat}{tvs:List (Tok×Value)}(E:PEnv W0 g o cap tvs)(b i:Nat)(v:Value)(d:Nat)(w:World)(hB:Below W0.heap.size W0 w)(hbb:W0.heap.size<=b)(hv:Hid (AtV g o cap tvs i v))(hb:w.heap[b]? =some (.cells #[v,.int .i64 (d:Int)] 73 (0,0)))(h20:d<20):Calls Tryz.prog 143 #[.pointer (some ⟨b,0,none⟩)] w fun e w'=>∃c,e=.returned (.func (.func 166) #[] #[.pointer (some ⟨c,0,none⟩)])/\Kn [b] w w' [(b,.cells #[v,.int .i64 ((d+1:Nat):Int)] 73 (0,0)),(c,.cells #[.pointer (some ⟨b,0,none⟩)] 71 (0,0))]:=by
 have q0:((d:Int)==20)=false:=beq_false_of_ne (by omega)
 have q1:IntKind.i64.wrap ((d:Int)+1)=((d+1:Nat):Int):=by rw[IntWalk.i64_in _ (by omega)];omega
 have HB0:=yh hB
 have HXB:=yh (xb hbb)
 have hL:Kn [b] w w [(b,.cells #[v,.int .i64 (d:Int)] 73 (0,0))]:=Kn.one hb
 have HBS:=yh hb
 clear hB hb
 have hF:=hL.fx
 have hmf:∀(fn:Fn) (first cap:Array Value) (w:World),(Instr.makeFunc fn first cap).run Tryz.prog w=.ok (.func fn first cap) w:=fun _ _ _ _=>rfl
 go_enter Tryz.func143,Tryz.ntmps143
 go_wp2
 refine zF ?_;intro W hL hF
 refine bodyPost_ret (by simp[results,Tryz.results143,go_sem, *];try rfl) rfl ?_
 exact⟨_,rfl,Kn.ofPerm hL (List.Perm.swap _ _ _)⟩
theorem tK(b c:Nat)(v:Value)(dj:Int)(u:FrameMode)(w:World)(hL:Kn [b,c] w w [(b,.cells #[v,.int .i64 dj] 73 (0,0)),(c,.cells #[.pointer (some ⟨b,0,none⟩)] 71 (0,0))]):
    CallsD Tryz.prog 166 #[.pointer (some ⟨c,0,none⟩)] u w fun e u' w'=>u'=u/\e=.returned (.tuple #[])/\Kn [b,c] w w' [(b,.cells #[v,.int .i64 (wrap64 (dj-1))] 73 (0,0)),(c,.cells #[.pointer (some ⟨b,0,none⟩)] 71 (0,0))]:=by
  have hF:=hL.fx;go_enter_d Tryz.func166,Tryz.ntmps166;go_wp2;first
  |exact⟨rfl,rfl,rfl,aE⟩
  | (go_end0
     (exact⟨rfl,aE⟩))
theorem jg{fn:Func}{tmps:Array Value}{R:Ending->World->Prop}{b c:Nat}{v:Value}{d:Nat}{u:FrameMode}{X:List Nat}{w0 W:World}{L:List (Nat×Obj)}(hd:d<1000)(hL:Kn X w0 W ((b,.cells #[v,.int .i64 ((d+1:Nat):Int)] 73 (0,0))::(c,.cells #[.pointer (some ⟨b,0,none⟩)] 71 (0,0))::L))(hu:u≠ .run)(k:∀W',Kn X w0 W' ((b,.cells #[v,.int .i64 (d:Int)] 73 (0,0))::L)->Leaves Tryz.prog fn tmps R [] (settle u) W'):
  Leaves Tryz.prog fn tmps R [{target:=.fn (.func 166) #[.pointer (some ⟨c,0,none⟩)],args:=#[]}] u W:=by
 have h1:Kn [b,c] W W [(b,.cells #[v,.int .i64 ((d+1:Nat):Int)] 73 (0,0)),(c,.cells #[.pointer (some ⟨b,0,none⟩)] 71 (0,0))]:=Kn.self (P:=[(b,.cells #[v,.int .i64 ((d+1:Nat):Int)] 73 (0,0)),(c,.cells #[.pointer (some ⟨b,0,none⟩)] 71 (0,0))]) [] L hL
 refine leaves_cons (f:=166) (args:=#[.pointer (some ⟨c,0,none⟩)]) hu (by simp[go_sem]) ?_
 refine(tK b c v ((d+1:Nat):Int) u W h1).mono ?_
 rintro e u' w' ⟨rfl,rfl,hK⟩
 have h2:=Kn.joinA (P:=[(b,.cells #[v,.int .i64 ((d+1:Nat):Int)] 73 (0,0)),(c,.cells #[.pointer (some ⟨b,0,none⟩)] 71 (0,0))]) [] L hL hK
 rw[show wrap64 (((d+1:Nat):Int)-1)=(d:Int)from by rw[show((d+1:Nat):Int)-1=(d:Int) by omega];exact IntWalk.wrap64_in (d:Int) (by omega)]at h2
 exact k w' (h2.sub (sC (sD sR)))
theorem tL{fn:Func}{tmps:Array Value}{R:Ending->World->Prop}{b c:Nat}{v:Value}{dj:Int}{u:FrameMode}{X:List Nat}{w0 W:World}{L:List (Nat×Obj)}(hL:Kn X w0 W ((b,.cells #[v,.int .i64 dj] 73 (0,0))::(c,.cells #[.pointer (some ⟨b,0,none⟩)] 71 (0,0))::L))(hu:u≠ .run)(k:∀W' dj,Kn X w0 W' ((b,.cells #[v,.int .i64 dj] 73 (0,0))::L)->Leaves Tryz.prog fn tmps R [] (settle u) W'):
  Leaves Tryz.prog fn tmps R [{target:=.fn (.func 166) #[.pointer (some ⟨c,0,none⟩)],args:=#[]}] u W:=by
 have h1:Kn [b,c] W W [(b,.cells #[v,.int .i64 dj] 73 (0,0)),(c,.cells #[.pointer (some ⟨b,0,none⟩)] 71 (0,0))]:=Kn.self (P:=[(b,.cells #[v,.int .i64 dj] 73 (0,0)),(c,.cells #[.pointer (some ⟨b,0,none⟩)] 71 (0,0))]) [] L hL
 refine leaves_cons (f:=166) (args:=#[.pointer (some ⟨c,0,none⟩)]) hu (by simp[go_sem]) ?_
 refine(tK b c v dj u W h1).mono ?_
 rintro e u' w' ⟨rfl,rfl,hK⟩
 have h2:=Kn.joinA (P:=[(b,.cells #[v,.int .i64 dj] 73 (0,0)),(c,.cells #[.pointer (some ⟨b,0,none⟩)] 71 (0,0))]) [] L hL hK
 exact k w' _ (h2.sub (sC (sD sR)))
theorem eI{fn:Func}{tmps:Array Value}{R:Ending->World->Prop}{b c:Nat}{v:Value}{dj:Int}{km:List PanicEntry}{e:PanicEntry}{X:List Nat}{w0 W:World}(hL:Kn X w0 W [(b,.cells #[v,.int .i64 dj] 73 (0,0)),(c,.cells #[.pointer (some ⟨b,0,none⟩)] 71 (0,0))])(he:e.recovered=false)(k:∀W' dj,Kn X w0 W' [(b,.cells #[v,.int .i64 dj] 73 (0,0))]->R (.panicked (e::km)) W'):
  Leaves Tryz.prog fn tmps R [{target:=.fn (.func 166) #[.pointer (some ⟨c,0,none⟩)],args:=#[]}] (.panicking (e::km)) W:=
 tL (L:=[]) hL (by simp) fun W' dj' h=>by
  have:settle (.panicking (e::km))=.panicking (e::km):=by
   obtain⟨v,r,gx⟩:=e;simp only at he;subst he;rfl
  rw[this];exact k W' dj' h
theorem Kn.in1c{X:List Nat}{w0 W:World}{p0 p1 p2 p3:Nat×Obj}{LP LC R:List (Nat×Obj)}(h:Kn X w0 W (p0::(LP++(p1::p2::p3::(LC++R))))):Kn X w0 W (p0::p1::p2::p3::((LP++LC)++R)):=h.perm fun p=>by grind
theorem nj{W0:World}{b d j g o cap:Nat}{tvs:List (Tok×Value)}{w W:World}{vj:Value}{kind:Nat}{nm:ByteArray}{aw:Option Addr}{nw cw:Nat}{ws:List (List Prt×Value)}{ks:List (Nd×List Value)}{x y:Nd}{cs:List Value}{a3:Option Addr}{c3:Nat}{LC LN LP:List (Nat×Obj)}
  (hx:x=.mk kind nm.data.toList false [] (ws.map (·.1)) [] (ks.map (·.1))) (h1:RowM 1 W0 LC (.slice aw nw cw) (ws.map fun x=>[x.2])) (h2:∀x∈ws,PRm W0 LC x.2 x.1) (h4:∀x∈ks,NodeL W0 LC x.1 x.2) (HN:NodeL W0 LN y cs)
  (hr:RowL 7 41 LP (.slice a3 (ks.length+1) c3) (ks.length+1) (ks.flatMap (·.2)++cs)) (Hvj:AtV g o cap tvs j vj) (hL:Kn [b] w W ((b,.cells #[vj,.int .i64 (d:Int)] 73 (0,0))::((LN++LC)++LP))):
  fh W0 b d g o cap tvs w (.ok (x.addKid y) ((TT tvs).drop j)) (.returned (.agg #[.int .i64 (kind:Int),.string nm,.bool false,.slice none 0 0,.slice aw nw cw,.slice none 0 0,.slice a3 (ks.length+1) c3])) W:=
 ⟨(kind:Int),nm,aw,nw,cw,a3,ks.length+1,c3,LN++LC,LP,j,vj,rfl,yh ⟨kind,ws,ks++[(y,cs)],by grind[Nd.addKid],rfl,h1.mono fun p hp=>List.mem_append_right _ hp,fun x hx=>(h2 x hx).mono fun p hp=>List.mem_append_right _ hp,by simp,by grind,bQ (fun y hy=>(h4 y hy).r) HN.l⟩,yh ⟨Hvj,rfl⟩,hL⟩
theorem ag{α β:Type}{p:PR α}{f:α->List Tok->PR β}{b:β}{r:List Tok}(h:p.bind f=.ok b r):∃a r1,p=.ok a r1/\f a r1=.ok b r:=by
 cases p with
 |bad e m=>cases h
 |ok a r1=>exact⟨a,r1,rfl,h⟩
section
variable {ln:Tok} {e:List Tok}
section
variable {cmd it pi li so ar:Pa Nd}
end
end
section
variable {cmd it pi li so ar:Pa Nd}
end
theorem ry{k:Nat}{ts r:List Tok}{l:List Nd}(h:eK k ts=.ok l r):gh (lev k).cmd ts=.ok l []/\r=[]:=by
 unfold eK at h
 obtain⟨a,r1,h1,h2⟩:=ag h
 split at h2
 ·grind
 ·cases h2
section
variable {cmd cmd' it it' pi pi' li li' so so' ar ar' conds conds':Pa Nd}
end
def ndP(x:Nd):Nd:=.mk 1 [] false [] [] [] [x]
section
variable {k:Nat} {T:List Tok} {ks:List Nd}
end
theorem jR{ps:List Prt}{s:ab}{n m:Nat}{q:Bool}(h:au ps s n q=.bad m):m=n:=by
 grind[au]
theorem yM(c:UInt8):lf [c]<=1:=by
 grind[lf]
theorem oV(n0 K:Nat)(h0:n0<=K):∀(f:Nat) (ps:List Prt) (l:ab) (n m:Nat),n+l.length<=K->a_ f n0 (ps,l,n)=.bad m->m<=K:=by
 intro f
 induction f with
 |zero=>intro ps l n m _ h;injection h with h;omega
 |succ f ih2=>
  intro ps l n m hl h
  cases l with
  |nil=>injection h with h;omega
  |cons c t=>
   simp only[List.length_cons]at hl;rw[aN]at h;split at h
   ·cases h
   ·split at h
    ·cases hd:au ps t n true with
     |bad k=>grind[jR]
     |ok x=>
      obtain⟨ps',r,k⟩:=x;rw[hd]at h;have h1:=ei hd;grind
    grind[yM]
theorem rz{ps:List Prt}{c:UInt8}{t:ab}{n m:Nat}(h:aV ps c t n=.bad m):m<=n+t.length:=by
 unfold aV at h
 split at h
 ·grind
 ·split at h
  ·exact oV n (n+t.length) (by omega) _ _ _ _ _ (Nat.le_refl _) h
  grind[jR]
theorem tM:∀(f:Nat) (ps:List Prt) (l:ab) (n m:Nat),word f (ps,l,n)=.bad m->m<=n+l.length:=by
 intro f
 induction f with
 |zero=>intro ps l n m h;cases h
 |succ f ih=>
  intro ps l n m h
  cases l with
  |nil=>cases h
  |cons c t=>
   rw[aT]at h;simp only[List.length_cons];split at h
   ·cases h
   ·cases hp:aV ps c t n with
    |bad k=>rw[hp]at h;injection h with h;have:=rz hp;omega
    |ok x=>
     obtain⟨ps',r,k⟩:=x;rw[hp]at h;have h1:=eO hp;grind
theorem tN{c:UInt8}{t:ab}{n m:Nat}(h:ba c t n=.bad m):m<=n+(c::t).length:=by
 have hio:∀(l:ab) (fd:Int) (n0 n:Nat),ioS l fd n0 n≠ .bad m:=by
  grind[ioS]
 unfold ba at h
 split at h
 ·cases h
 ·split at h
  ·cases h
  ·split at h
   ·cases h
   ·split at h
    ·grind
    ·split at h
     ·cases h
     ·split at h
      ·grind
      ·split at h
       ·cases h
       ·cases hw:word (t.length+2) ([],c::t,n)with
        |bad k=>rw[hw]at h;injection h with h;rw[<- h];exact tM _ _ _ _ _ hw
        |ok x=>
         grind
def Fin.le(k:Nat):Fin->Prop
 |.fin m=>m<=k
 |.bad m=>m<=k
theorem oW:∀(d:Nat) (l:ab) (n:Nat),l.length<=d->(cQ l n).1.length<=l.length/\(∀t∈(cQ l n).1,t.line<=n+l.length)/\(cQ l n).2.le (n+l.length):=by
 intro d
 induction d with
 |zero=>
  intro l n hl;obtain rfl:=List.eq_nil_of_length_eq_zero (Nat.le_zero.1 hl);rw[df];exact⟨Nat.le_refl _,by simp,Nat.le_refl _⟩
 |succ d ih=>
  intro l n hl
  cases l with
  |nil=>
   grind
  |cons c t=>
   have hlt:=di c t n;have hg:=qZ c t n;have hsl:=kO c t n;have fl:∀{a b:Nat} {x:Fin},x.le a->a<=b->x.le b:=fun {a b x} h k=>by
    cases x<;>exact Nat.le_trans h k
   rw[bO]
   cases hs:ba c t n with
   |bad m=>exact⟨Nat.zero_le _,by simp,tN hs⟩
   |skip r m'=>
    grind[Step.rest,gj]
   |tok x r m'=>
    rw[hs]at hlt hg hsl;simp only[Step.rest,List.length_cons,gj]at hlt hl hsl;obtain⟨h1,h2,h3⟩:=ih r m' (by omega);obtain⟨g1,g2,g3⟩:=hg;grind
theorem lP{s:ab}{ts:List Tok}(hs:s.length<=8000)(h:lex s=.ok ts):∃xs m,cQ s 1=(xs,.fin m)/\ts=xs++[d9 m]/\xs.length<=2000:=by
 grind[pH,lim,cQ]
theorem oX:∀(f:Nat) (ps:List Prt) (l:ab) (n:Nat) (st:St),word f (ps,l,n)=.ok st->sz st.1+2*st.2.1.length<=sz ps+2*l.length:=by
 intro f
 induction f with
 |zero=>intro ps l n st h;injection h with h;grind
 |succ f ih=>
  intro ps l n st h
  cases l with
  |nil=>injection h with h;grind
  |cons c t=>
   rw[aT]at h;split at h
   ·grind
   ·cases hp:aV ps c t n with
    |bad m=>grind
    |ok x=>
     obtain⟨ps',r,m⟩:=x;rw[hp]at h;have h1:=eO hp;grind
theorem oY{c:UInt8}{t r:ab}{n m:Nat}{x:Tok}(h:ba c t n=.tok x r m):sz x.parts<=2*(c::t).length:=by
 have hio:∀(l:ab) (fd:Int) (n0 n:Nat),ioS l fd n0 n=.tok x r m->sz x.parts=0:=by
  intro l fd n0 n e;unfold ioS at e;split at e<;>(injection e with e;rw[<- e];rfl)
 have hop:∀{s:ab} {k:Nat} {r':ab} {m':Nat},Step.tok (opT s k) r' m'=.tok x r m->sz x.parts=0:=by
  intro s k r' m' e;injection e with e;rw[<- e];rfl
 unfold ba at h
 split at h
 ·cases h
 ·split at h
  ·cases h
  ·split at h
   ·injection h with h;rw[<- h];exact Nat.zero_le _
   ·split at h
    ·grind
    ·split at h
     ·grind
     ·split at h
      ·grind
      ·split at h
       ·cases h
       ·cases hw:word (t.length+2) ([],c::t,n)with
        |bad k=>grind
        |ok x=>
         obtain⟨ps,r',k⟩:=x;have hs:=oX _ _ _ _ _ hw;rw[hw]at h;have hz:sz ps<=2*(c::t).length:=by
          have h0:sz ([]:List Prt)=0:=rfl;grind
         grind
theorem jS:∀(d:Nat) (l:ab) (n:Nat),l.length<=d->∀t∈(cQ l n).1,sz t.parts<=2*l.length:=by
 intro d
 induction d with
 |zero=>
  grind[df]
 |succ d ih=>
  intro l n hl
  cases l with
  |nil=>grind
  |cons c t=>
   have hlt:=di c t n;grind[bO,ba,Step.rest,oY]
theorem pY{ps:List Prt}{p:Prt}(h:p∈ps):p.t.length<=sz ps:=by
 induction ps with
 |nil=>cases h
 |cons q qs ih=>
  grind[sz,tot]
theorem dC(c:UInt8)(t:ab):lf (c::t)=lf [c]+lf t:=by
 grind[lf]
theorem oZ(a b:ab):lf (a++b)=lf a+lf b:=by grind[lf]
theorem jh(k:Nat)(s:ab):lf (s.drop k)<=lf s:=by
 unfold lf
 exact List.Sublist.count_le _ (List.drop_sublist k s)
def LB(n0 n:Nat)(l:ab):R St->Prop
 |.ok st=>n<=st.2.2/\st.2.2+lf st.2.1<=n+lf l
 |.bad m=>n0<=m/\m<=n+lf l
theorem LB.up{n0 n1 n n':Nat}{l l':ab}{x:R St}(h:LB n0 n l x)(h0:n1<=n0)(h1:n'<=n)(h2:n+lf l<=n'+lf l'):LB n1 n' l' x:=by
 cases x with
 |ok st=>have h:n<=st.2.2/\st.2.2+lf st.2.1<=n+lf l:=h;exact⟨by omega,by omega⟩
 |bad m=>have h:n0<=m/\m<=n+lf l:=h;exact⟨by omega,by omega⟩
theorem kT(ps:List Prt)(s:ab)(n:Nat)(q:Bool):LB n n s (au ps s n q):=by
 unfold au
 split
 ·rename_i h40
  cases s with
  |nil=>cases h40
  |cons c t=>
   cases hp:dm ((c::t).drop 1)with
   |none=>exact⟨Nat.le_refl _,by omega⟩
   |some z=>
    obtain⟨a,r⟩:=z;have h1:=dL _ _ _ _ _ hp;have h2:lf t=lf a+lf (41::r):=by
     rw[<- oZ];exact congrArg lf h1
    have:=dC 41 r;have:=dC c t;exact⟨by grind,by grind⟩
 ·split
  ·rename_i h123
   cases s with
   |nil=>grind
   |cons c t=>
    cases hp:brk 125 ((c::t).drop 1)with
    |none=>exact⟨Nat.le_refl _,by omega⟩
    |some z=>
     obtain⟨a,r⟩:=z;have h1:=(bq hp).1;have h2:lf t=lf a+lf (125::r):=by
      grind[oZ,lf]
     have:=dC 125 r;have:=dC c t;simp only;split
     ·exact⟨Nat.le_refl _,by omega⟩
     ·exact⟨Nat.le_refl _,by grind⟩
  ·split
   ·have:=jh (bj s) s
    exact⟨Nat.le_refl _,by grind⟩
   ·exact⟨Nat.le_refl _,Nat.le_refl _⟩
theorem rA(n0:Nat):∀(f:Nat) (ps:List Prt) (l:ab) (n:Nat),n0<=n->LB n0 n l (a_ f n0 (ps,l,n)):=by
 intro f
 induction f with
 |zero=>intro ps l n h;exact⟨Nat.le_refl _,by omega⟩
 |succ f ih=>
  intro ps l n h
  cases l with
  |nil=>exact⟨Nat.le_refl _,by omega⟩
  |cons c t=>
   rw[aN];have hc:=dC c t;split
   ·exact⟨Nat.le_refl _,by grind⟩
   ·split
    ·have hd:=kT ps t n true
     cases hx:au ps t n true with
     |bad m=>rw[hx]at hd;have hd:n<=m/\m<=n+lf t:=hd;exact⟨by omega,by omega⟩
     |ok st=>
      obtain⟨ps',r,k⟩:=st;rw[hx]at hd;have hd:n<=k/\k+lf r<=n+lf t:=hd;exact(ih ps' r k (by omega)).up (Nat.le_refl _) hd.1 (by omega)
    ·split
     ·cases t with
      |nil=>exact(ih _ _ _ h).up (Nat.le_refl _) (Nat.le_refl _) (by omega)
      |cons d r=>
       have:=dC d r;simp only;split
       ·exact(ih _ _ _ h).up (Nat.le_refl _) (Nat.le_refl _) (by omega)
       ·exact(ih _ _ _ h).up (Nat.le_refl _) (Nat.le_refl _) (by omega)
     ·exact(ih _ _ _ (by omega)).up (Nat.le_refl _) (by omega) (by omega)
theorem tO(ps:List Prt)(c:UInt8)(t:ab)(n:Nat):LB n n (c::t) (aV ps c t n):=by
 have hc:=dC c t
 unfold aV
 split
 ·cases hp:brk 39 t with
  |none=>exact⟨Nat.le_refl _,by omega⟩
  |some z=>
   obtain⟨a,r⟩:=z;have h1:=(bq hp).1;have h2:lf t=lf a+lf (39::r):=by grind[oZ,lf]
   have:=dC 39 r;exact⟨by grind,by grind⟩
 ·split
  ·exact(rA n _ _ t n (Nat.le_refl _)).up (Nat.le_refl _) (Nat.le_refl _) (by omega)
  ·split
   ·cases t with
    |nil=>exact⟨Nat.le_refl _,by grind⟩
    |cons d r=>
     have:=dC d r;simp only;split
     ·rename_i h10
      subst h10;have h3:lf [10]=1:=by decide
      exact⟨by grind,by grind⟩
     ·exact⟨Nat.le_refl _,by grind⟩
   ·split
    ·exact(kT ps t n false).up (Nat.le_refl _) (Nat.le_refl _) (by omega)
    ·exact⟨Nat.le_refl _,by grind⟩
theorem we:∀(f:Nat) (ps:List Prt) (l:ab) (n:Nat),LB n n l (word f (ps,l,n)):=by
 intro f
 induction f with
 |zero=>intro ps l n;exact⟨Nat.le_refl _,Nat.le_refl _⟩
 |succ f ih=>
  intro ps l n
  cases l with
  |nil=>exact⟨Nat.le_refl _,Nat.le_refl _⟩
  |cons c t=>
   rw[aT];split
   ·exact⟨Nat.le_refl _,Nat.le_refl _⟩
   ·have hp:=tO ps c t n
    cases hx:aV ps c t n with
    |bad m=>grind
    |ok st=>
     obtain⟨ps',r,k⟩:=st;rw[hx]at hp;have hp:n<=k/\k+lf r<=n+lf (c::t):=hp;exact(ih ps' r k).up hp.1 hp.1 hp.2
def SB(n:Nat)(l:ab):Step->Prop
 |.skip r m=>n<=m/\m+lf r<=n+lf l
 |.tok x r m=>n<=x.line/\x.line<=n+lf l/\n<=m/\m+lf r<=n+lf l
 |.bad m=>n<=m/\m<=n+lf l
theorem tP(l:ab)(fd:Int)(n0 n:Nat)(K:ab)(h:n0<=n)(hk:n+lf l<=n0+lf K):SB n0 K (ioS l fd n0 n):=by
 unfold ioS
 have h1:=jh 2 l
 have h2:=jh 1 l
 split
 ·exact⟨Nat.le_refl _,Nat.le_add_right _ _,h,by omega⟩
 ·exact⟨Nat.le_refl _,Nat.le_add_right _ _,h,by omega⟩
theorem wg(c:UInt8)(t:ab)(n:Nat):SB n (c::t) (ba c t n):=by
 have hc:=dC c t
 unfold ba
 split
 ·exact⟨Nat.le_refl _,by omega⟩
 ·split
  ·have:lf (t.dropWhile (· != 10))<=lf t:=by
    unfold lf;exact List.Sublist.count_le _ (List.dropWhile_sublist _)
   exact⟨Nat.le_refl _,by omega⟩
  ·split
   ·rename_i h10
    subst h10;have h3:lf [10]=1:=by decide
    exact⟨Nat.le_refl _,Nat.le_add_right _ _,by omega,by omega⟩
   ·split
    ·have h2:=jh 1 t
     split
     ·exact⟨Nat.le_refl _,Nat.le_add_right _ _,Nat.le_refl _,by omega⟩
     ·exact⟨Nat.le_refl _,Nat.le_add_right _ _,Nat.le_refl _,by omega⟩
    ·split
     ·exact⟨Nat.le_refl _,Nat.le_add_right _ _,Nat.le_refl _,by omega⟩
     ·split
      ·grind[tP]
      ·split
       ·rename_i h
        cases t with
        |nil=>grind
        |cons d r=>
         have h2:d=10:=by grind
         subst h2;have h3:lf [10]=1:=by decide
         have:=dC 10 r;exact⟨by omega,by grind⟩
       ·have hw:=we (t.length+2) [] (c::t) n
        cases hx:word (t.length+2) ([],c::t,n)with
        |bad m=>rw[hx]at hw;exact hw
        |ok st=>
         obtain⟨ps,r,m⟩:=st;rw[hx]at hw;have hw:n<=m/\m+lf r<=n+lf (c::t):=hw;simp only;split
         ·split
          ·grind[tP]
          ·exact⟨Nat.le_refl _,Nat.le_add_right _ _,hw.1,hw.2⟩
         ·exact⟨Nat.le_refl _,Nat.le_add_right _ _,hw.1,hw.2⟩
def Fin.line:Fin->Nat
 |.fin m=>m
 |.bad m=>m
theorem wh:∀(d:Nat) (l:ab) (n:Nat),l.length<=d->(∀t∈(cQ l n).1,n<=t.line/\t.line<=n+lf l)/\n<=(cQ l n).2.line/\(cQ l n).2.line<=n+lf l:=by
 intro d
 induction d with
 |zero=>
  intro l n hl;obtain rfl:=List.eq_nil_of_length_eq_zero (Nat.le_zero.1 hl);rw[df];exact⟨by simp,Nat.le_refl _,Nat.le_refl _⟩
 |succ d ih=>
  intro l n hl
  cases l with
  |nil=>
   grind
  |cons c t=>
   have hlt:=di c t n;have hb:=wg c t n;rw[bO]
   cases hs:ba c t n with
   |bad m=>rw[hs]at hb;exact⟨by simp,hb.1,hb.2⟩
   |skip r m'=>
    rw[hs]at hlt hb;simp only[Step.rest,List.length_cons]at hlt hl;obtain⟨h1,h2,h3⟩:=ih r m' (by omega);have hb:n<=m'/\m'+lf r<=n+lf (c::t):=hb;grind
   |tok x r m'=>
    rw[hs]at hlt hb;simp only[Step.rest,List.length_cons]at hlt hl;obtain⟨h1,h2,h3⟩:=ih r m' (by omega);have hb:n<=x.line/\x.line<=n+lf (c::t)/\n<=m'/\m'+lf r<=n+lf (c::t):=hb;grind
def fB(t:Tok):Tok:={t with line:=0}
inductive PAns where
 |ok (l:List Nd)
 |err (full:Bool) (line:Nat)
def gF(ts:List Tok):PAns:=match eK 20 (ts.dropLast.map fB)with
 |.ok l _=>.ok l
 |.bad e m=>.err (e==2) (ts.getD (ts.length-1-m) (d9 0)).line
def aH(src:ab):PAns:=match lex src with
 |.err f m=>.err f m
 |.ok ts=>gF ts
def tQ(l:ab)(T:List Tok):Prop:=∀n,1<=n->(cQ l n).1.map fB=T/\∃m,n<=m/\(cQ l n).2=.fin m
theorem tR{l:ab}{xs:List Tok}{m:Nat}(h:cQ l 1=(xs,.fin m)):tQ l (xs.map fB):=fun n hn=>by
 obtain⟨k,rfl⟩:∃k,n=1+k:=⟨n-1,by omega⟩
 have h1:=(wh l.length l 1 (Nat.le_refl _)).2.1
 rw[vq k l.length l 1 (Nat.le_refl _),h]
 rw[h]at h1
 have h1:1<=m:=h1
 refine⟨?_,m+k,by omega,rfl⟩
 simp_all[Tok.up,fB]
theorem rB{s:ab}{l:List Nd}(hs:s.length<=8000)(h:aH s=.ok l):∃T,tQ s T/\T.length<=s.length/\eK 20 T=.ok l []:=by
 unfold aH at h
 cases hx:lex s with
 |err f m=>grind
 |ok ts=>
  rw[hx]at h;obtain⟨xs,m,h1,rfl,h3⟩:=lP hs hx;refine⟨_,tR h1,?_,?_⟩
  ·grind[oW]
  ·simp only[gF,List.dropLast_concat]at h
   grind[eK,fB,ry]
theorem Aa{W0:World}{g o cap:Nat}{tvs:List (Tok×Value)}(E:PEnv W0 g o cap tvs){i:Nat}{x:Tok×Value}(hx:tvs[i]? =some x):aI ((TT tvs).drop i)=if((x.1.kind:Int)==0)=true then(x.1.parts::(aI ((TT tvs).drop (i+1))).1,(aI ((TT tvs).drop (i+1))).2)else([],(TT tvs).drop i):=by
 rcases bD E hx with⟨h1,h2,h3,h4⟩|⟨h1,h2,h3⟩
 ·rw[h1,h2];rfl
 ·rw[h1]
  show(if x.1.kind=0 then _ else _)=_
  by_cases h:x.1.kind=0
  ·rw[if_pos h,if_pos (by rw[h];rfl)]
  ·rw[if_neg h,if_neg (by rw[beq_iff_eq];omega)]
def pZ(so:Pa Nd)(nm:ab)(r:List Tok):PR Nd:=if bP [kIn] (ay r)then gT so nm (ay r).tail else dk so nm oB (if aR [59] (ay r)&& !isK 3 r then(ay r).tail else ay r)
theorem wk{W0:World}{g o cap:Nat}{tvs:List (Tok×Value)}(E:PEnv W0 g o cap tvs){so:Pa Nd}{i:Nat}{x:Tok×Value}(hx:tvs[i]? =some x):eE so ((TT tvs).drop i)=if(((x.1.kind:Int)==0)&&cG x.1.plain)=true then pZ so x.1.plain ((TT tvs).drop (i+1))else syn ((TT tvs).drop i):=by
 rcases bD E hx with⟨h1,h2,h3,h4⟩|⟨h1,h2,h3⟩
 ·rw[h1,h2];rfl
 ·rw[h1]
  show(if x.1.kind=0/\cG x.1.plain=true then pZ so x.1.plain ((TT tvs).drop (i+1))else _)=_
  by_cases h:x.1.kind=0/\cG x.1.plain=true
  ·rw[if_pos h,if_pos (by rw[h.1,h.2];rfl)]
  ·rw[if_neg h,if_neg (by intro e;apply h;simp only[Bool.and_eq_true,beq_iff_eq]at e;exact⟨by omega,e.2⟩)]
theorem tS{W0:World}{b d j g o cap gq:Nat}{tvs:List (Tok×Value)}{w W:World}{vj:Value}{nm:ab}{aw:Option Addr}{nw cw:Nat}{ws:List (List Prt×Value)}{n:Nd}{nm2:ByteArray}{aa2:Option Addr}{na2:Nat}{ca2:Nat}{aw2:Option Addr}{nw2:Nat}{cw2:Nat}{ar2:Option Addr}{nr2:Nat}{cr2:Nat}{ak2:Option Addr}{nk2:Nat}{ck2:Nat}{LN LW:List (Nat×Obj)}(HN:NodeL W0 LN n [.int .i64 (n.kind:Int),.string nm2,.bool n.neg,.slice aa2 na2 ca2,.slice aw2 nw2 cw2,.slice ar2 nr2 cr2,.slice ak2 nk2 ck2])
  (h1:RowM 1 W0 LW (.slice aw nw cw) (ws.map fun x=>[x.2])) (h2:∀x∈ws,PRm W0 LW x.2 x.1) (Hvj:AtV g o cap tvs j vj) (hL:Kn [b] w W ((b,.cells #[vj,.int .i64 (d:Int)] 73 (0,0))::((LN++LW)++[(gq,.cells #[.int .i64 (n.kind:Int),.string nm2,.bool n.neg,.slice aa2 na2 ca2,.slice aw2 nw2 cw2,.slice ar2 nr2 cr2,.slice ak2 nk2 ck2] 41 (0,0))]))):
  fh W0 b d g o cap tvs w (.ok (.mk 11 nm false [] (ws.map (·.1)) [] [n]) ((TT tvs).drop j)) (.returned (.agg #[.int .i64 11,.string ⟨nm.toArray⟩,.bool false,.slice none 0 0,.slice aw nw cw,.slice none 0 0,.slice (some ⟨gq,0,none⟩) 1 1])) W:=
 ⟨11,⟨nm.toArray⟩,aw,nw,cw,some ⟨gq,0,none⟩,1,1,LN++LW,_,j,vj,rfl,yh ⟨11,ws,[(n,[.int .i64 (n.kind:Int),.string nm2,.bool n.neg,.slice aa2 na2 ca2,.slice aw2 nw2 cw2,.slice ar2 nr2 cr2,.slice ak2 nk2 ck2])],by simp,rfl,h1.mono fun p hp=>List.mem_append_right _ hp,fun x hx=>(h2 x hx).mono fun p hp=>List.mem_append_right _ hp,rfl,nc rfl rfl,fun z hz=>by rw[List.mem_singleton.1 hz];exact HN.l⟩,yh ⟨Hvj,rfl⟩,hL⟩
theorem yN{W0:World}{g o cap:Nat}{tvs:List (Tok×Value)}(E:PEnv W0 g o cap tvs){d:Nat}{so:Pa Nd}(HC:ct W0 g o cap tvs 162 d so):gn W0 g o cap tvs 141 d (eE so):=by
  intro b i v w hB hbb hv hb;obtain⟨PL,hpl⟩:∃p:PR Nd,eE so ((TT tvs).drop i)=p:=⟨_,rfl⟩;rw[hpl];have HCC:=yh HC;clear HC;obtain⟨m,hm⟩:∃m,m=((TT tvs).drop i).length:=⟨_,rfl⟩;have Hm:=yh hm;clear hm;obtain⟨x,pa,pn,pc,hx,hx2⟩:=E.tok hv.out;have HX:=yh hx;have HX2:=yh hx2;obtain⟨f0,f1,f2,f3,f4,f5⟩:=tkF x.1.kind x.1.fd x.1.line ⟨x.1.text.toArray⟩ ⟨x.1.plain.toArray⟩ pa pn pc;clear hx hx2;rw[wk E HX.out]at hpl;have HSZ:Hid ((⟨x.1.plain.toArray⟩:ByteArray).size<=1000000):=yh (by have:=(E.word x (List.mem_of_getElem? HX.out)).2.1;rw[<- szl];simp only[List.toList_toArray];omega);have HIN:=yh (fun W=>ej ⟨x.1.plain.toArray⟩ HSZ.out W);simp only[List.toList_toArray]at HIN;obtain⟨kx,hkx⟩:∃z:Bool,((x.1.kind:Int)==0)=z:=⟨_,rfl⟩;obtain⟨nx,hnx⟩:∃z:Bool,cG x.1.plain=z:=⟨_,rfl⟩;have hkx2:((x.1.kind:Int) != 0)= !kx:=by rw[<- hkx];rfl
  rw[hnx]at HIN;rw[hkx,hnx]at hpl;have H4X:Hid (kx=true->x.1.kind≠4):=yh (fun h e4=>by rw[e4]at hkx;rw[h]at hkx;cases hkx);have HPL:=yh hpl.symm;clear hpl hnx;have hi:=hv.out.1;have hmx:=E.max;have HB0:=yh hB;have HXB:=yh (xb hbb);have hL:Kn [b] w w [(b,.cells #[v,.int .i64 (d:Int)] 73 (0,0))]:=Kn.one hb;have HBS:=yh hb;clear hB hb;have hF:=hL.fx
  cases hq:(kx&&nx)with
  |false=>
    have HB9:Hid (PL=.bad 1 m):=yh (by rw[HPL.out,hq,if_neg (by decide),Hm.out];rfl);clear HPL
    cases kx<;>cases nx<;>first|exact absurd hq (by decide)|(
      clear hq;go_enter Tryz.func141,Tryz.ntmps141;go_wp2_with (first|(with_reducible refine zS ?_;intro W hL hF)|(go_at_call 27;refine zC (fun W hL=>aK E b i v (d:Int) _ (af HB0.out hL HXB.out) hbb hv hL.h1 HX.out pa pn pc HX2.out) ?_;intro W hL hF)|(go_at_call 121;refine zC (fun W hL=>HIN.out _) ?_;intro W hL hF)|(go_at_call 28;(with_reducible refine zM (fun W hL=>fg E b i v d _ (af HB0.out hL HXB.out) hbb hv hL.h1 27 d 1 (yh rfl) m Hm) ?_);rintro W hL e W ⟨vj,dj,rfl,hb⟩;replace hL:=hL.jn 1 hb;clear hb;have hF:=hL.fx))
      refine⟨rfl,?_⟩;rw[HB9.out];exact⟨vj,dj,rfl,hL.pm⟩)
  |true=>
    obtain⟨rfl,rfl⟩:kx=true/\nx=true:=by cases kx<;>cases nx<;>first|exact⟨rfl,rfl⟩|cases hq
    have HB9:Hid (PL=pZ so x.1.plain ((TT tvs).drop (i+1))):=yh (by rw[HPL.out];exact if_pos rfl);have H4:=yh (H4X.out rfl);clear HPL hq H4X;go_enter Tryz.func141,Tryz.ntmps141;go_upto_region 4 with(first|(go_at_call 27;refine zC (fun W hL=>aK E b i v (d:Int) _ (af HB0.out hL HXB.out) hbb hv hL.h1 HX.out pa pn pc HX2.out) ?_;intro W hL hF)|(go_at_call 121;refine zC (fun W hL=>HIN.out _) ?_;intro W hL hF)|(go_at_call 53;(with_reducible refine zM (fun W hL=>d_ E b i v (d:Int) _ (af HB0.out hL HXB.out) hbb hv hL.h1 HX.out pa pn pc HX2.out H4.out) ?_);rintro W hL e W ⟨rfl,vj0,HVJ0,hb⟩;replace hL:=hL.jn 1 hb;clear hb;have hF:=hL.fx;obtain⟨W1,rfl⟩:∃W1:World,W1=W:=⟨_,rfl⟩))
    refine zE ?_;intro W hL hF;have hj0:=HVJ0.out.1;have Hvj0:=HVJ0;obtain⟨y,pa8,pn8,pc8,hx8,hx28⟩:=E.tok Hvj0.out;have HX8:=yh hx8;have HX28:=yh hx28;obtain⟨f08,f18,f28,f38,f48,f58⟩:=tkF y.1.kind y.1.fd y.1.line ⟨y.1.text.toArray⟩ ⟨y.1.plain.toArray⟩ pa8 pn8 pc8;clear hx8 hx28;obtain⟨k3,hk3⟩:∃z:Bool,((y.1.kind:Int)==3)=z:=⟨_,rfl⟩;have HK3:Hid (isK 3 ((TT tvs).drop (i+1))=k3):=yh (by rw[lF E HX8.out 3 (by omega)];exact hk3);go_upto_block 0 with(first|(go_at_call 27;refine zC (fun W hL=>aK E b (i+1) vj0 (d:Int) _ (af HB0.out hL HXB.out) hbb Hvj0 hL.h1 HX8.out pa8 pn8 pc8 HX28.out) ?_;intro W hL hF)|(go_at_call 49;(with_reducible refine zM (fun W hL=>dB E b (i+1) vj0 d _ (af HB0.out hL HXB.out) hbb Hvj0 hL.h1) ?_);rintro W hL e W ⟨j1,vj1,rfl,HJ1,hb⟩;replace hL:=hL.jn 1 hb;clear hb;have hF:=hL.fx))
    have Hvj1:=yh HJ1.out.2.1;have hj1:=HJ1.out.2.1.1;obtain⟨k5,hk5⟩:∃z:Bool,bP [kIn] ((TT tvs).drop j1)=z:=⟨_,rfl⟩;have HK5:Hid (bP ([(⟨#[105,110]⟩:ByteArray)].map fun z=>z.data.toList) ((TT tvs).drop j1)=k5):=yh hk5;obtain⟨k6,hk6⟩:∃z:Bool,aR [59] ((TT tvs).drop j1)=z:=⟨_,rfl⟩;have HK6:Hid (aR (⟨#[59]⟩:ByteArray).data.toList ((TT tvs).drop j1)=k6):=yh hk6;have HB0_:Hid (PL=if k5=true then gT so x.1.plain ((TT tvs).drop j1).tail else dk so x.1.plain oB (if(k6&& !k3)=true then((TT tvs).drop j1).tail else(TT tvs).drop j1)):=yh (by rw[HB9.out];unfold pZ;rw[HJ1.out.2.2,hk5,hk6,HK3.out]);go_cut [] (fun wc=>∃(j:Nat) (vj:Value) (ws:List (List Prt×Value)) (aw:Option Addr) (nw cw:Nat) (LW:List (Nat×Obj)),Hid (AtV g o cap tvs j vj)/\Hid (PL=dk so x.1.plain (ws.map (·.1)) ((TT tvs).drop j))/\Hid (RowM 1 W0 LW (.slice aw nw cw) (ws.map fun x=>[x.2])/\∀x∈ws,PRm W0 LW x.2 x.1)/\Kn [b] w wc ((b,.cells #[vj,.int .i64 (d:Int)] 73 (0,0))::(W1.heap.size,.cells #[.int .i64 11,.string ⟨x.1.plain.toArray⟩,.bool false,.slice none 0 0,.slice aw nw cw,.slice none 0 0,.slice none 0 0] 41 (0,0))::(w.heap.size,.cells #[.int .i64 0,.string ⟨#[]⟩,.bool false,.slice none 0 0,.slice none 0 0,.slice none 0 0,.slice none 0 0] 41 (0,0))::LW))
    case first=>
      have HB8:=HB0_.out;clear HB0_
      cases k5
      · rw[if_neg (by decide)]at HB8
        have HB7:=yh HB8;clear HB8;go_upto_region 6 with((go_at_call 86;refine zC (fun W hL=>cj E b j1 vj1 (d:Int) _ (af HB0.out hL HXB.out) hbb Hvj1 hL.h1 _ 0 1 _ [⟨#[105,110]⟩] _ HK5 (yh rfl) (by omega) (bT (eF hL m0)) (by(exact eG hL m0))) ?_;intro W hL hF;replace hL:=hL.drop1;clear hF;have hF:=hL.fx))
        have hne7:Hid ((k6&& !k3)=true->(TT tvs).drop j1≠[]):=yh fun h=>gV (s:=[59]) (by cases k6 with|true=>exact HK6.out|false=>cases h)
        refine zE ?_;intro W hL hF;obtain⟨W2,hW2⟩:∃W2,W=W2:=⟨_,rfl⟩;subst hW2;have HR9:Hid (RowM 1 W0 [(W.heap.size+1,.cells #[.slice (some ⟨W.heap.size,0,none⟩) 1 1] 29 (0,0)),(W.heap.size,.cells #[.int .i64 1,.string ⟨#[64]⟩,.bool true] 118 (0,0))] (.slice (some ⟨W.heap.size+1,0,none⟩) 1 1) ([((⟨1,[64],true⟩:Prt)::[],Value.slice (some ⟨W.heap.size,0,none⟩) 1 1)].map fun x=>[x.2])/\∀x∈[((⟨1,[64],true⟩:Prt)::[],Value.slice (some ⟨W.heap.size,0,none⟩) 1 1)],PRm W0 [(W.heap.size+1,.cells #[.slice (some ⟨W.heap.size,0,none⟩) 1 1] 29 (0,0)),(W.heap.size,.cells #[.int .i64 1,.string ⟨#[64]⟩,.bool true] 118 (0,0))] x.2 x.1):=yh ⟨RowM.one (cs:=[.slice (some ⟨W.heap.size,0,none⟩) 1 1]) m0 (Nat.le_refl _),fun x hx=>by rw[List.mem_singleton.1 hx];exact RowM.one (cs:=[.int .i64 1,.string ⟨#[64]⟩,.bool true]) m1 (Nat.le_refl _)⟩
        cases k6<;>cases k3<;>first
        | (have HNE7:=yh (hne7.out rfl)
           go_wp2_with (first|(with_reducible refine zS ?_;intro W hL hF)|(go_at_call 52;refine aj ?_;clear hF hL;intro W hL;simp only[kfb]at hL;have hF:=hL.fx;(with_reducible refine(d7 E b j1 vj1 (d:Int) _ (af HB0.out hL HXB.out) hbb Hvj1 hL.h2 ⟨#[59]⟩ _ HK6).mono ?_);rintro e W ⟨rfl,hb⟩;replace hL:=hL.below hb;clear hb hF;have hF:=hL.fx)|(go_at_call 53;(with_reducible refine zM (fun W hL=>dO E b j1 vj1 (d:Int) _ (af HB0.out hL HXB.out) hbb Hvj1 hL.h2 HNE7.out) ?_);rintro W hL e W ⟨x1,pa1,pn1,pc1,vj5,rfl,HTX5,HVJ5,hb⟩;replace hL:=hL.jn 2 hb;clear hb;have hF:=hL.fx))
           go_meet
           case rel=>exact⟨j1+1,vj5,_,_,_,_,_,HVJ5,yh (by rw[HB7.out];simp only[bx];rfl),HR9,by refine Kn.name ?_;clear hL;intro hL;exact hL.pm⟩)
        | (go_wp2_with (first|(with_reducible refine zS ?_;intro W hL hF)|(go_at_call 52;refine aj ?_;clear hF hL;intro W hL;simp only[kfb]at hL;have hF:=hL.fx;(with_reducible refine(d7 E b j1 vj1 (d:Int) _ (af HB0.out hL HXB.out) hbb Hvj1 hL.h2 ⟨#[59]⟩ _ HK6).mono ?_);rintro e W ⟨rfl,hb⟩;replace hL:=hL.below hb;clear hb hF;have hF:=hL.fx))
           go_meet
           case rel=>exact⟨j1,vj1,_,_,_,_,_,Hvj1,yh (by rw[HB7.out];rfl),HR9,by refine Kn.name ?_;clear hL;intro hL;exact hL.pm⟩)
      · rw[if_pos rfl,bx]at HB8
        have HNE1:=yh (mD hk5);have HB7:=yh HB8;clear HB8 hk6 HK6;go_wp2_with (first|(with_reducible refine zS ?_;intro W hL hF)|(go_at_call 86;refine zC (fun W hL=>cj E b j1 vj1 (d:Int) _ (af HB0.out hL HXB.out) hbb Hvj1 hL.h1 _ 0 1 _ [⟨#[105,110]⟩] _ HK5 (yh rfl) (by omega) (bT (eF hL m0)) (by(exact eG hL m0))) ?_;intro W hL hF;replace hL:=hL.drop1;clear hF;have hF:=hL.fx)|(go_at_call 53;(with_reducible refine zM (fun W hL=>dO E b j1 vj1 (d:Int) _ (af HB0.out hL HXB.out) hbb Hvj1 hL.h0 HNE1.out) ?_);rintro W hL e W ⟨x1,pa1,pn1,pc1,vj2,rfl,HTX1,HVJ2,hb⟩;replace hL:=hL.jn 0 hb;clear hb;have hF:=hL.fx))
        have hj2:=HVJ2.out.1;go_loopg [] (tvs.length-(j1+1)) (fun n wr=>∃(j:Nat) (vj:Value) (wv:List (List Prt×Value)) (aw:Option Addr) (cw:Nat) (LW:List (Nat×Obj)),n=tvs.length-j/\Hid (AtV g o cap tvs j vj)/\Hid (aI ((TT tvs).drop (j1+1))=(wv.map (·.1)++(aI ((TT tvs).drop j)).1,(aI ((TT tvs).drop j)).2))/\Hid (RowL 1 29 LW (.slice aw wv.length cw) wv.length (wv.flatMap fun x=>[x.2]))/\Hid (∀x∈wv,PRm W0 [] x.2 x.1)/\wv.length<=j/\j<tvs.length/\Kn [b] w wr ((b,.cells #[vj,.int .i64 (d:Int)] 73 (0,0))::(W1.heap.size,.cells #[.int .i64 11,.string ⟨x.1.plain.toArray⟩,.bool false,.slice none 0 0,.slice aw wv.length cw,.slice none 0 0,.slice none 0 0] 41 (0,0))::(w.heap.size,.cells #[.int .i64 0,.string ⟨#[]⟩,.bool false,.slice none 0 0,.slice none 0 0,.slice none 0 0,.slice none 0 0] 41 (0,0))::LW))
        case atStart=>exact⟨j1+1,vj2,[],none,0,[],rfl,HVJ2,yh rfl,yh RowL.nil,yh (by simp),Nat.zero_le _,hj2,by refine Kn.name ?_;clear hL;intro hL;exact hL.pm⟩
        case round=>
          clear hL;obtain⟨j,vj,wv,aw,cw,LW,rfl,Hvj,HF,HRW,HPW,hsz,hjl,hL⟩:=hrel;have hF:=hL.fx;obtain⟨y,pa9,pn9,pc9,hx9,hx29⟩:=E.tok Hvj.out;have HX9:=yh hx9;have HX29:=yh hx29;obtain⟨f09,f19,f29,f39,f49,f59⟩:=tkF y.1.kind y.1.fd y.1.line ⟨y.1.text.toArray⟩ ⟨y.1.plain.toArray⟩ pa9 pn9 pc9;clear hx9 hx29;obtain⟨k0,hk0⟩:∃z:Bool,((y.1.kind:Int)==0)=z:=⟨_,rfl⟩;have HFW:=yh (Aa E HX9.out);rw[hk0]at HFW;have H49:Hid (k0=true->y.1.kind≠4):=yh (fun h e4=>by rw[e4]at hk0;rw[h]at hk0;cases hk0)
          cases k0
          · have HF5:Hid (aI ((TT tvs).drop (j1+1))=(wv.map (·.1),(TT tvs).drop j)):=yh (by have h8:=HFW.out;rw[if_neg (by decide)]at h8;rw[HF.out,h8];simp)
            obtain⟨k6,hk6⟩:∃z:Bool,aR [59] ((TT tvs).drop j)=z:=⟨_,rfl⟩;have HK6:Hid (aR (⟨#[59]⟩:ByteArray).data.toList ((TT tvs).drop j)=k6):=yh hk6;obtain⟨k7,hk7⟩:∃z:Bool,((y.1.kind:Int) != 3)=z:=⟨_,rfl⟩;have HK7:Hid (isK 3 ((TT tvs).drop j)= !k7):=yh (by rw[lF E HX9.out 3 (by omega),<- hk7];exact(Bool.not_not _).symm);have HB4:Hid (PL=if k6|| !k7 then dk so x.1.plain (wv.map (·.1)) ((TT tvs).drop (j+1))else syn ((TT tvs).drop j)):=yh (by rw[HB7.out];unfold gT;rw[HF5.out];simp only;rw[hk6,HK7.out,bx]);have HNE5:Hid ((k6|| !k7)=true->(TT tvs).drop j≠[]):=yh (fun h=>by
              cases hq:k6 with
              |true=>exact gV (by rw[hk6];exact hq)
              |false=>rw[hq]at h;exact q_ (by rw[HK7.out];simpa using h))
            have HR9:Hid (RowM 1 W0 LW (.slice aw wv.length cw) (wv.map fun x=>[x.2])/\∀x∈wv,PRm W0 LW x.2 x.1):=yh ⟨RowL.rowM (fun _=>rfl) HRW.out fun p hp=>hp,fun x hx=>(HPW.out x hx).mono fun p hp=>by cases hp⟩;obtain⟨m,hm⟩:∃m,m=((TT tvs).drop j).length:=⟨_,rfl⟩;have Hm:=yh hm;clear hm;clear hk6
            cases k6<;>cases k7<;>first
            | (have HB5:=HB4.out
               rw[if_pos (by decide)]at HB5;have HB3:=yh HB5;have HNE6:=yh (HNE5.out (by decide));clear HB4 HB5 HNE5;go_wp2_with (first|(with_reducible refine zS ?_;intro W hL hF)|(go_at_call 27;refine zC (fun W hL=>aK E b j vj (d:Int) _ (af HB0.out hL HXB.out) hbb Hvj hL.h0 HX9.out pa9 pn9 pc9 HX29.out) ?_;intro W hL hF)|(go_at_call 52;(with_reducible refine zM (fun W hL=>d7 E b j vj (d:Int) _ (af HB0.out hL HXB.out) hbb Hvj hL.h0 ⟨#[59]⟩ _ HK6) ?_);rintro W hL e W ⟨rfl,hb⟩;replace hL:=hL.below hb;clear hb;skip;have hF:=hL.fx)|(go_at_call 53;(with_reducible refine zM (fun W hL=>dO E b j vj (d:Int) _ (af HB0.out hL HXB.out) hbb Hvj hL.h0 HNE6.out) ?_);rintro W hL e W ⟨x1,pa1,pn1,pc1,vj5,rfl,HTX5,HVJ5,hb⟩;replace hL:=hL.jn 0 hb;clear hb;have hF:=hL.fx))
               go_meet
               case rel=>exact⟨j+1,vj5,wv,aw,wv.length,cw,LW,HVJ5,HB3,HR9,by refine Kn.name ?_;clear hL;intro hL;exact hL.pm⟩)
            | (have HB5:=HB4.out
               rw[if_neg (by decide)]at HB5;have HB3:Hid (PL=.bad 1 m):=yh (by rw[HB5,Hm.out];rfl);clear HB4 HB5 HNE5;go_wp2_with (first|(with_reducible refine zS ?_;intro W hL hF)|(go_at_call 27;refine zC (fun W hL=>aK E b j vj (d:Int) _ (af HB0.out hL HXB.out) hbb Hvj hL.h0 HX9.out pa9 pn9 pc9 HX29.out) ?_;intro W hL hF)|(go_at_call 52;(with_reducible refine zM (fun W hL=>d7 E b j vj (d:Int) _ (af HB0.out hL HXB.out) hbb Hvj hL.h0 ⟨#[59]⟩ _ HK6) ?_);rintro W hL e W ⟨rfl,hb⟩;replace hL:=hL.below hb;clear hb;skip;have hF:=hL.fx)|(go_at_call 28;(with_reducible refine zM (fun W hL=>fg E b j vj d _ (af HB0.out hL HXB.out) hbb Hvj hL.h0 27 d 1 (yh rfl) m Hm) ?_);rintro W hL e W ⟨vj5,dj,rfl,hb⟩;replace hL:=hL.jn 0 hb;clear hb;have hF:=hL.fx))
               refine⟨rfl,?_⟩;rw[HB3.out];exact⟨vj5,dj,rfl,hL.pm⟩)
          · have H4:=yh (H49.out rfl)
            have HPT:=yh (eH E (List.mem_of_getElem? HX9.out) (L:=[]));rw[HX29.out]at HPT;go_wp2_with (first|(with_reducible refine zS ?_;intro W hL hF)|(go_at_call 27;refine zC (fun W hL=>aK E b j vj (d:Int) _ (af HB0.out hL HXB.out) hbb Hvj hL.h0 HX9.out pa9 pn9 pc9 HX29.out) ?_;intro W hL hF)|((with_reducible refine ac 12 ?_);refine zX [0,1,2,3,4,5,6,7,8] [6,8] ?_ (sD (sC sN));clear hF hL;intro ι F hne hC hG;(repeat(first|(refine cS ?_)|((first|refine cF hC ?_|refine cP ?_);intro K hK;go_big_quiet_op;go_big_quiet_on)|(refine cD ?_;intro W hL hF;go_at_call 53;(with_reducible refine(d_ E b j vj (d:Int) _ (af HB0.out hL HXB.out) hbb Hvj hL.h0 HX9.out pa9 pn9 pc9 HX29.out H4.out).mono ?_);rintro e W ⟨rfl,vj5,HVJ5,hb⟩;replace hL:=hL.jn 0 hb;clear hb hF;have hF:=hL.fx;refine bK ?_;((refine aQ _ (by repeat' (first|(with_reducible exact List.nil_sublist _)|(with_reducible apply List.Sublist.cons_cons)|(with_reducible apply List.Sublist.cons))) ?_;clear hL hF));simp only[Act.put,zT])|(refine cM ?_;intro W hL hF;at_builtin;(refine ah rfl _ _ 37 37 rfl [_,_,_,_] LW hL wv.length 1 (wv.flatMap fun x=>[x.2]) [.slice pa9 pn9 pc9] _ _ HRW.out rfl rfl (fun ho=>dU rfl (fun j u hu=>by rw[Go.WideShapes.add_plain,Nat.zero_add,aO hL m0];simpa using hu) (by intro u hu;simp only[List.mem_cons,List.not_mem_nil,or_false]at hu;subst hu;rfl) (by omega) ho) ?_);intro LP3 a3 c3 W3 hL2 hr3;clear hL hF;have hL:=hL2;clear hL2;simp only[List.append_eq,List.cons_append,List.nil_append]at hL;have hF:=hL.fx;go_wp2;refine zB2 ?_;clear hL hF hC hG;intro ι F hne hC hG)|(refine cM ?_;intro W hL hF;go_wp2;refine ai ?_;(first|(refine bH _ (by rfl) ?_;clear hL hF hC hG;intro ι F hne hC hFF;have hG:=fun n=>(hFF n).fx;clear hFF)|(refine aQ _ (by repeat' (first|(with_reducible exact List.nil_sublist _)|(with_reducible apply List.Sublist.cons_cons)|(with_reducible apply List.Sublist.cons))) ?_;clear hL hF)))));refine zN ?_;clear hC hG;intro W hL hF))
            have hj5:=HVJ5.out.1;go_roundg (tvs.length-(j+1))
            case measure=>omega
            case rel=>exact⟨j+1,vj5,wv++[(y.1.parts,.slice pa9 pn9 pc9)],a3,c3,LP3,rfl,HVJ5,yh (by have h8:=HFW.out;rw[if_pos trivial]at h8;rw[HF.out,h8];simp),yh (by simpa using hr3),yh (bQ HPW.out HPT.out),by simp only[List.length_append,List.length_singleton];omega,hj5,by refine Kn.name ?_;clear hL;intro hL;simp only[List.length_append,List.length_singleton];exact hL.pm⟩
    case rest=>
      clear hL HB0_ hk5 hk6 hk3 HK5 HK6 HK3;obtain⟨j,vj,ws,aw,nw,cw,LW,Hvj,HB7,HRW,hL⟩:=hcut;have hF:=hL.fx;have hjl:=Hvj.out.1;go_upto_region 17 with((go_at_call 49;(with_reducible refine zM (fun W hL=>dB E b j vj d _ (af HB0.out hL HXB.out) hbb Hvj hL.h0) ?_);rintro W hL e W ⟨j2,vj2,rfl,HJ2,hb⟩;replace hL:=hL.jn 0 hb;clear hb;have hF:=hL.fx))
      have Hvj2:=yh HJ2.out.2.1;have HB2:=HB7.out;unfold dk at HB2;rw[HJ2.out.2.2]at HB2;have HW1:=yh (fun W hB hb=>dP E b j2 vj2 d W hB hbb Hvj2 hb ⟨#[100,111]⟩)
      cases hw:aX kDo ((TT tvs).drop j2)with
      |bad er m2=>
        rw[show aX (⟨#[100,111]⟩:ByteArray).data.toList ((TT tvs).drop j2)=_ from hw]at HW1;replace HB2:=yh (bB HB2 hw);clear hw;go_wp2_with (first|(with_reducible refine zS ?_;intro W hL hF)|(go_at_call 144;(with_reducible refine zM (fun W hL=>HW1.out _ (af HB0.out hL HXB.out) hL.h0) ?_);rintro W hL e W ⟨vj2,dj,rfl,hb⟩;replace hL:=hL.jn 0 hb;clear hb;have hF:=hL.fx))
        refine⟨rfl,?_⟩;rw[HB2.out];exact⟨vj2,dj,rfl,hL.pm⟩
      |ok u r3=>
        rw[show aX (⟨#[100,111]⟩:ByteArray).data.toList ((TT tvs).drop j2)=_ from hw]at HW1;replace HB2:=b8 HB2 hw;clear hw;replace HB2:=yh HB2;go_upto_region 18 with((go_at_call 144;(with_reducible refine zM (fun W hL=>HW1.out _ (af HB0.out hL HXB.out) hL.h0) ?_);rintro W hL e W ⟨_,j3,vj3,rfl,rfl,HJ3,hb⟩;replace hL:=hL.jn 0 hb;clear hb;have hF:=hL.fx))
        have Hvj3:=yh HJ3.out.1;have HB3:=HB2.out;rw[HJ3.out.2]at HB3;have HCJ:=yh (fun W hB hb=>HCC.out b j3 vj3 W hB hbb Hvj3 hb)
        cases hc:so ((TT tvs).drop j3)with
        |bad er m2=>
          rw[hc]at HCJ;replace HB3:=yh (bB HB3 hc);clear hc;go_wp2_with (first|(with_reducible refine zS ?_;intro W hL hF)|(go_at_call 162;(with_reducible refine zM (fun W hL=>HCJ.out _ (af HB0.out hL HXB.out) hL.h0) ?_);rintro W hL e W ⟨vj2,dj,rfl,hb⟩;replace hL:=hL.jn 0 hb;clear hb;have hF:=hL.fx))
          refine⟨rfl,?_⟩;rw[HB3.out];exact⟨vj2,dj,rfl,hL.pm⟩
        |ok n r4=>
          rw[hc]at HCJ;replace HB3:=yh (b8 HB3 hc);clear hc;go_upto_region 19 with((go_at_call 162;(with_reducible refine zM (fun W hL=>HCJ.out _ (af HB0.out hL HXB.out) hL.h0) ?_);rintro W hL e W ⟨nm2,aa2,na2,ca2,aw2,nw2,cw2,ar2,nr2,cr2,ak2,nk2,ck2,LN,j4,vj4,rfl,HN,HJ4,hb⟩;replace hL:=hL.jn 0 hb;clear hb;have hF:=hL.fx;replace hL:=hL.inP;clear hF;have hF:=hL.fx;obtain⟨W2,rfl⟩:∃W2:World,W2=W:=⟨_,rfl⟩))
          refine zE ?_;intro W hL hF;have Hvj4:=yh HJ4.out.1;have HB4:=HB3.out;rw[HJ4.out.2]at HB4;have HW2:=yh (fun W hB hb=>dP E b j4 vj4 d W hB hbb Hvj4 hb ⟨#[100,111,110,101]⟩)
          cases hw:aX dw ((TT tvs).drop j4)with
          |bad er m2=>
            rw[show aX (⟨#[100,111,110,101]⟩:ByteArray).data.toList ((TT tvs).drop j4)=_ from hw]at HW2;replace HB4:=yh (bB HB4 hw);clear hw;go_wp2_with (first|(with_reducible refine zS ?_;intro W hL hF)|(go_at_call 144;(with_reducible refine zM (fun W hL=>HW2.out _ (af HB0.out hL HXB.out) hL.h1) ?_);rintro W hL e W ⟨vj2,dj,rfl,hb⟩;replace hL:=hL.jn 1 hb;clear hb;have hF:=hL.fx))
            refine⟨rfl,?_⟩;rw[HB4.out];exact⟨vj2,dj,rfl,hL.pm⟩
          |ok u r5=>
            rw[show aX (⟨#[100,111,110,101]⟩:ByteArray).data.toList ((TT tvs).drop j4)=_ from hw]at HW2;replace HB4:=yh (b8 HB4 hw);clear hw;go_wp2_with (first|(with_reducible refine zS ?_;intro W hL hF)|(go_at_call 144;(with_reducible refine zM (fun W hL=>HW2.out _ (af HB0.out hL HXB.out) hL.h1) ?_);rintro W hL e W ⟨_,j5,vj5,rfl,rfl,HJ5,hb⟩;replace hL:=hL.jn 1 hb;clear hb;have hF:=hL.fx))
            refine zF ?_;intro W hL hF;refine bodyPost_ret (by simp[results,Tryz.results141,go_sem, *];try rfl) rfl ?_;rw[HB4.out,HJ5.out.2];exact tS HN.out HRW.out.1 HRW.out.2 HJ5.out.1 hL.pm
theorem Kn.rotL{X:List Nat}{w0 W:World}{p0:Nat×Obj}{LP R:List (Nat×Obj)}(h:Kn X w0 W (p0::(LP++R))):Kn X w0 W (p0::(R++LP)):=h.perm fun p=>by simp only[List.countP_cons,List.countP_append];omega
theorem tT(bk:Blk):∀W:World,(binOp .eql 149 (jN (some bk)) .nilFunc).run Tryz.prog W=.ok (.bool false) W:=fun W=>by cases bk<;>kernel_rfl
theorem tU(bk:Blk)(x y:Operand):∀W:World,(eqGuard .eql 149 x y (jN (some bk)) .nilFunc).run Tryz.prog W=.ok () W:=fun W=>by cases bk<;>kernel_rfl
theorem wl:∀W:World,(binOp .eql 149 .nilFunc .nilFunc).run Tryz.prog W=.ok (.bool true) W:=fun W=>by kernel_rfl
theorem wm{W0:World}{b d j g o cap gq:Nat}{tvs:List (Tok×Value)}{w W:World}{vj:Value}{nm9:ab}{y:Nd}{nm:ByteArray}{aa:Option Addr}{na:Nat}{ca:Nat}{aw:Option Addr}{nw:Nat}{cw:Nat}{ar:Option Addr}{nr:Nat}{cr:Nat}{ak:Option Addr}{nk:Nat}{ck:Nat}{LN:List (Nat×Obj)}(HN:NodeL W0 LN y [.int .i64 (y.kind:Int),.string nm,.bool y.neg,.slice aa na ca,.slice aw nw cw,.slice ar nr cr,.slice ak nk ck])(Hvj:AtV g o cap tvs j vj)
  (hL:Kn [b] w W ((b,.cells #[vj,.int .i64 (d:Int)] 73 (0,0))::(gq,.cells #[.int .i64 (y.kind:Int),.string nm,.bool y.neg,.slice aa na ca,.slice aw nw cw,.slice ar nr cr,.slice ak nk ck] 41 (0,0))::LN)):
  cR W0 b d g o cap tvs w (.ok (.mk 14 nm9 false [] [] [] [y]) ((TT tvs).drop j)) (.returned (.agg #[.int .i64 14,.string ⟨nm9.toArray⟩,.bool false,.slice none 0 0,.slice none 0 0,.slice none 0 0,.slice (some ⟨gq,0,none⟩) 1 1])) W:=
 ⟨⟨nm9.toArray⟩,none,0,0,none,0,0,none,0,0,some ⟨gq,0,none⟩,1,1,_,j,vj,rfl,yh (NodeL.one (name:=nm9) (HN.mono fun p hp=>List.mem_cons_of_mem _ hp) m0 (Nat.le_refl _)),yh ⟨Hvj,rfl⟩,hL⟩
theorem o5{W0:World}{g o cap:Nat}{tvs:List (Tok×Value)}(E:PEnv W0 g o cap tvs){d:Nat}(hd:d<20){comp:Blk->Pa Nd}(HC:iS W0 g o cap tvs (d+1) comp):yL W0 g o cap tvs d (fnP (some comp)):=by
  intro b i v w hB hbb hv hb hfn;obtain⟨PL,hpl⟩:∃p:PR Nd,iu comp ((TT tvs).drop i)=p:=⟨_,rfl⟩;show Calls _ _ _ _ (cR W0 b d g o cap tvs w (iu comp ((TT tvs).drop i)))
  rw[hpl];have HCC:=yh HC;obtain⟨x,pa,pn,pc,hx,hx2⟩:=E.tok hv.out;have HX:=yh hx;have HX2:=yh hx2;obtain⟨f0,f1,f2,f3,f4,f5⟩:=tkF x.1.kind x.1.fd x.1.line ⟨x.1.text.toArray⟩ ⟨x.1.plain.toArray⟩ pa pn pc;clear hx hx2;have hf9:=pX E HX.out;rw[hfn]at hf9;have hf9:=hf9.symm;simp only[Bool.and_eq_true]at hf9;obtain⟨⟨hkx,hnx⟩,hop⟩:=hf9;have h4x:x.1.kind≠4:=fun e=>by rw[e]at hkx;cases hkx
  have hi2:i+2<tvs.length:=by
    rcases bD E HX.out with h|h
    · exact absurd h.2.1 h4x
    · obtain⟨y,hy⟩:∃y,tvs[i+1]? =some y:=⟨_,List.getElem?_eq_getElem h.2.2⟩
      rcases bD E hy with h2|h2
      · rw[h2.1]at hop;cases hop
      · exact h2.2.2
  obtain⟨z,hz⟩:∃z,tvs[i+2]? =some z:=⟨_,List.getElem?_eq_getElem hi2⟩;obtain⟨paz,pnz,pcz,hzp⟩:∃a n c,z.2=.slice a n c:=by obtain⟨a,n,c,h,_⟩:=(E.parts z (List.mem_of_getElem? hz)).2;exact⟨a,n,c,h⟩
  have hcz:=fE E hB hz paz pnz pcz hzp;have hcd:=fun(k:Nat)=>show o+(i+2)*6+k=o+i*6+12+k by omega
  obtain⟨hz0,hz1,hz2,hz3,hz4,hz5⟩:=hcz;rw[hcd]at hz1 hz2 hz3 hz4 hz5;rw[show o+(i+2)*6=o+i*6+12 by omega]at hz0;have hgl:=aF hz0;have hgb:g≠b:=by have:=aF (fE E (Below.refl _ W0) hz paz pnz pcz hzp).1;omega
  obtain⟨kz,hkz⟩:∃k:Bool,((z.1.kind:Int)==1)=k:=⟨_,rfl⟩;obtain⟨tz,htz⟩:∃k:Bool,(z.1.text==[41])=k:=⟨_,rfl⟩;have hkz2:((z.1.kind:Int) != 1)= !kz:=by rw[<- hkz];rfl
  have htz2:(z.1.text != [41])= !tz:=by rw[<- htz];rfl
  have hz41:aR [41] ((TT tvs).drop (i+2))=(kz&&tz):=by rw[pS E hz,hkz,htz]
  have hpl2:PL=if(kz&&tz)=true then(match cV (ay ((TT tvs).drop (i+3)))with
      |none=>syn (ay ((TT tvs).drop (i+3)))
      |some bk=>(comp bk (ay ((TT tvs).drop (i+3)))).bind fun y r=>.ok (.mk 14 x.1.plain false [] [] [] [y]) r)else syn ((TT tvs).drop (i+2)):=by
    rw[<- hpl,<- hz41];rcases bD E HX.out with h|h
    · exact absurd h.2.1 h4x
    · rw[h.1]
      simp only[iu,bx];rfl
  have HPL:=yh hpl2;have H4X:=yh h4x;have hwo:aX [40] ((TT tvs).drop (i+1))=.ok () ((TT tvs).drop (i+2)):=by unfold aX;rw[hop];simp only[Bool.true_or,if_true,bx]
  have hwc:(kz&&tz)=true->aX [41] ((TT tvs).drop (i+2))=.ok () ((TT tvs).drop (i+3)):=fun h=>by unfold aX;rw[hz41,h];simp only[Bool.true_or,if_true,bx]
  have HWO:=yh hwo;have HWCL:=yh hwc;have HLZ:Hid (∀m,m=((TT tvs).drop (i+2)).length->eL tvs m=z.1.line):=yh fun m hm=>lG hz m hm
  have hve:=hv.out.2;have hlen:=E.len;have hmx:=E.max;obtain⟨n9,hn9⟩:∃n,tvs.length-i=n:=⟨_,rfl⟩;obtain⟨c9,hc9⟩:∃n,cap-i=n:=⟨_,rfl⟩;obtain⟨q9,hq9⟩:∃n,o+i*6=n:=⟨_,rfl⟩;rw[hn9,hc9,hq9]at hve;rw[hq9]at hz0 hz1 hz2 hz3 hz4 hz5;have HVE:=yh hve;have HN9:=yh hn9;have q1:wrap64 ((n9:Int)-1)=((n9-1:Nat):Int):=by rw[show(n9:Int)-1=((n9-1:Nat):Int) by omega];exact IntWalk.wrap64_in _ (by omega)
  have q2:2<n9:=by omega
  have q3:¬((n9-1:Nat):Int)<2:=by omega
  have q6:min (2:Int) ((n9-1:Nat):Int)=2:=by omega
  clear hn9 hc9 hq9 hve;clear hf9 hkx hnx hz hop hcd hzp HC hfn hpl hpl2 h4x hwo hwc hz41;have HB0:=yh hB;have HXB:=yh (xb hbb);have hL:Kn [b] w w [(b,.cells #[v,.int .i64 (d:Int)] 73 (0,0))]:=Kn.one hb;have HBS:=yh hb;clear hB hb;have hF:=hL.fx;go_enter_defers Tryz.func122,Tryz.ntmps122;go_upto_region 2 with((go_at_call 143;(with_reducible refine zM (fun W hL=>jQ E b i v d _ (af HB0.out hL HXB.out) hbb hv hL.h1 hd) ?_);rintro W hL e W ⟨c,rfl,hb⟩;replace hL:=hL.jn 1 hb;clear hb;have hF:=hL.fx))
  rw[HVE.out]at hL;clear hF;have hF:=hL.fx;go_upto_region 3 with((with_reducible refine ac 2 ?_);refine zX [0,1,2,3,4,5,6,7,8,9,10,11,12,13,14] [14] ?_;clear hF hL;intro ι F hne hC hG;(repeat(first|((first|refine cF hC ?_|refine cP ?_);intro K hK;go_big_quiet_op;go_big_quiet_on)|(refine cM ?_;intro W hL hF;go_wp2;(first|(refine zB2 ?_;clear hL hF hC hG;intro ι F hne hC hG)|(refine zO2 ?_;clear hL hF)))));refine zN ?_;clear hC hG;intro W hL hF)
  have Hv9:Hid (AtV g o cap tvs i (.slice (some ⟨g,q9,none⟩) n9 c9)):=yh (by rw[<- HVE.out];exact hv.out);obtain⟨m,hm⟩:∃m,m=((TT tvs).drop (i+2)).length:=⟨_,rfl⟩;have Hm:=yh hm;clear hm
  cases hkt:(kz&&tz)with
  |false=>
    have HB9:Hid (PL=.bad 1 m):=yh (by rw[HPL.out,hkt,if_neg (by decide),Hm.out];rfl);clear HPL
    cases kz<;>cases tz<;>first
    | (exfalso;exact absurd hkt (by decide))
    | (clear hkt
       go_wp2;refine eI (v:=(.slice (some ⟨g,q9,none⟩) n9 c9)) (dj:=((d+1:Nat):Int)) (show Kn [b] w _ [(b,.cells #[(.slice (some ⟨g,q9,none⟩) n9 c9),.int .i64 ((d+1:Nat):Int)] 73 (0,0)),(c,.cells #[.pointer (some ⟨b,0,none⟩)] 71 (0,0))]from hL.pm) rfl ?_;intro W' dj' hL';show cR W0 b d g o cap tvs w PL _ _
       rw[HB9.out];refine⟨_,dj',?_,hL'⟩;rw[HLZ.out _ Hm.out];rfl)
  |true=>
    obtain⟨rfl,rfl⟩:kz=true/\tz=true:=by cases kz<;>cases tz<;>first|exact⟨rfl,rfl⟩|cases hkt
    have HB9:=HPL.out;rw[if_pos (by rfl)]at HB9;have HWC2:=yh (HWCL.out rfl);clear HPL HWCL hkt;go_upto_region 6 with((go_at_call 53;(with_reducible refine zM (fun W hL=>d_ E b i _ ((d+1:Nat):Int) _ (af HB0.out hL HXB.out) hbb Hv9 hL.h1 HX.out pa pn pc HX2.out H4X.out) ?_);rintro W hL e W ⟨rfl,vj1,HVJ1,hb⟩;replace hL:=hL.jn 1 hb;clear hb;have hF:=hL.fx;obtain⟨W1,rfl⟩:∃W1:World,W1=W:=⟨_,rfl⟩))
    refine zE ?_;intro W hL hF;have HW1:=yh (fun W hB hb=>dP E b (i+1) vj1 (d+1) W hB hbb HVJ1 hb ⟨#[40]⟩);rw[show aX (⟨#[40]⟩:ByteArray).data.toList ((TT tvs).drop (i+1))=_ from HWO.out]at HW1;go_upto_region 7 with((go_at_call 144;(with_reducible refine zM (fun W hL=>HW1.out _ (af HB0.out hL HXB.out) hL.h1) ?_);rintro W hL e W ⟨_,j3,vj3,rfl,rfl,HJ3,hb⟩;replace hL:=hL.jn 1 hb;clear hb;have hF:=hL.fx))
    have Hvj3:=yh HJ3.out.1;have hwc3:=HWC2.out;rw[HJ3.out.2]at hwc3;have HW2:=yh (fun W hB hb=>dP E b j3 vj3 (d+1) W hB hbb Hvj3 hb ⟨#[41]⟩);rw[show aX (⟨#[41]⟩:ByteArray).data.toList ((TT tvs).drop j3)=_ from hwc3]at HW2;clear hwc3;go_upto_region 8 with((go_at_call 144;(with_reducible refine zM (fun W hL=>HW2.out _ (af HB0.out hL HXB.out) hL.h0) ?_);rintro W hL e W ⟨_,j4,vj4,rfl,rfl,HJ4,hb⟩;replace hL:=hL.jn 0 hb;clear hb;have hF:=hL.fx))
    have Hvj4:=yh HJ4.out.1;go_upto_region 9 with((go_at_call 49;(with_reducible refine zM (fun W hL=>dB E b j4 vj4 (d+1) _ (af HB0.out hL HXB.out) hbb Hvj4 hL.h0) ?_);rintro W hL e W ⟨j5,vj5,rfl,HJ5,hb⟩;replace hL:=hL.jn 0 hb;clear hb;have hF:=hL.fx))
    have Hvj5:=yh HJ5.out.2.1;rw[HJ4.out.2,HJ5.out.2.2]at HB9;obtain⟨m5,hm5⟩:∃m5,m5=((TT tvs).drop j5).length:=⟨_,rfl⟩;have Hm5:=yh hm5;clear hm5;have HBL:=yh (fun W hB hb=>f6 E b j5 vj5 (d+1) W hB hbb Hvj5 hb)
    cases hbo:cV ((TT tvs).drop j5)with
    |none=>
      rw[hbo]at HB9 HBL;simp only[show jN none=Value.nilFunc from rfl]at HBL;have HB8:Hid (PL=.bad 1 m5):=yh (by rw[HB9,Hm5.out];rfl);have hq0:=wl;clear HB9;go_wp2_with (first|(with_reducible refine zS ?_;intro W hL hF)|(go_at_call 119;refine zC (fun W hL=>HBL.out _ (af HB0.out hL HXB.out) hL.h0) ?_;intro W hL hF)|(go_at_call 28;(with_reducible refine zM (fun W hL=>fg E b j5 vj5 ((d+1:Nat):Int) _ (af HB0.out hL HXB.out) hbb Hvj5 hL.h0 27 (d+1) 1 (yh rfl) m5 Hm5) ?_);rintro W hL e W ⟨vj6,dj,rfl,hb⟩;replace hL:=hL.jn 0 hb;clear hb;have hF:=hL.fx))
      refine eI (v:=vj6) (dj:=dj) (show Kn [b] w _ [(b,.cells #[vj6,.int .i64 dj] 73 (0,0)),(c,.cells #[.pointer (some ⟨b,0,none⟩)] 71 (0,0))]from hL.pm) rfl ?_;intro W' dj' hL';show cR W0 b d g o cap tvs w PL _ _;rw[HB8.out];exact⟨vj6,dj',rfl,hL'⟩
    |some bk=>
      rw[hbo]at HB9 HBL;have HB8:Hid (PL=(comp bk ((TT tvs).drop j5)).bind fun y r=>.ok (.mk 14 x.1.plain false [] [] [] [y]) r):=yh HB9;have HNE5:=gZ hbo;have HCJ:=yh (fun W hB hb=>HCC.out bk b j5 vj5 W hB hbb Hvj5 hb HNE5);have hq1:=tT bk;have hq2:=tU bk;obtain⟨bv,hbv⟩:∃z,jN (some bk)=z:=⟨_,rfl⟩;rw[hbv]at HBL HCJ hq1;simp only[hbv]at hq2;clear HNE5 hbo HB9 hbv
      cases hc:comp bk ((TT tvs).drop j5)with
      |bad er m2=>
        rw[hc]at HCJ;have HB7:=yh (bB HB8.out hc);clear hc;go_wp2_with (first|(with_reducible refine zS ?_;intro W hL hF)|(go_at_call 119;refine zC (fun W hL=>HBL.out _ (af HB0.out hL HXB.out) hL.h0) ?_;intro W hL hF)|(go_at_call 120;(with_reducible refine zM (fun W hL=>HCJ.out _ (af HB0.out hL HXB.out) hL.h0) ?_);rintro W hL e W ⟨vj6,dj,rfl,hb⟩;replace hL:=hL.jn 0 hb;clear hb;have hF:=hL.fx))
        refine eI (v:=vj6) (dj:=dj) (show Kn [b] w _ [(b,.cells #[vj6,.int .i64 dj] 73 (0,0)),(c,.cells #[.pointer (some ⟨b,0,none⟩)] 71 (0,0))]from hL.pm) rfl ?_;intro W' dj' hL';show cR W0 b d g o cap tvs w PL _ _;rw[HB7.out];exact⟨vj6,dj',rfl,hL'⟩
      |ok y r=>
        rw[hc]at HCJ;have HB7:=yh (b8 HB8.out hc);clear hc;go_upto_region 13 with(first|(go_at_call 119;refine zC (fun W hL=>HBL.out _ (af HB0.out hL HXB.out) hL.h0) ?_;intro W hL hF)|(go_at_call 120;(with_reducible refine zM (fun W hL=>HCJ.out _ (af HB0.out hL HXB.out) hL.h0) ?_);rintro W hL e W ⟨nm,aa,na,ca,aw,nw,cw,ar,nr,cr,ak,nk,ck,LN,j6,vj6,rfl,HN,HJ6,hb⟩;replace hL:=hL.jn 0 hb;clear hb;have hF:=hL.fx;replace hL:=hL.rotL;clear hF;simp only[kfb]at hL;have hF:=hL.fx;obtain⟨W2,rfl⟩:∃W2:World,W2=W:=⟨_,rfl⟩))
        go_wp2;refine cZ ?_;clear hF hL;intro W hL;simp only[kfb]at hL;have hF:=hL.fx;simp only[bodyPostD];refine jg (by omega) (show Kn [b] w W ((b,.cells #[vj6,.int .i64 ((d+1:Nat):Int)] 73 (0,0))::(c,.cells #[.pointer (some ⟨b,0,none⟩)] 71 (0,0))::(w.heap.size,.cells #[.int .i64 14,.string ⟨x.1.plain.toArray⟩,.bool false,.slice none 0 0,.slice none 0 0,.slice none 0 0,.slice (some ⟨W2.heap.size,0,none⟩) 1 1] 41 (0,0))::(W2.heap.size,.cells #[.int .i64 (y.kind:Int),.string nm,.bool y.neg,.slice aa na ca,.slice aw nw cw,.slice ar nr cr,.slice ak nk ck] 41 (0,0))::LN)from hL.pm) (by simp) ?_;clear hL hF;intro W hL;have hF:=hL.fx;simp[Leaves,settle,results,Tryz.results122,go_sem,hF];rw[HB7.out,HJ6.out.2];exact wm HN.out HJ6.out.1 hL.pm
theorem ku{W0:World}{g o cap:Nat}{tvs:List (Tok×Value)}(E:PEnv W0 g o cap tvs){d:Nat}(hd:d=20):yL W0 g o cap tvs d (fnP none):=by
 intro b i v w hB hbb hv hb hfn
 show Calls _ _ _ _ (cR W0 b d g o cap tvs w (full ((TT tvs).drop i)))
 obtain⟨m,hm⟩:∃m,m=((TT tvs).drop i).length:=⟨_,rfl⟩
 have Hm:=yh hm
 clear hm
 have HEF:=yh (fun W (hB:Below W0.heap.size W0 W) hb=>(gE E b i v d W hB hbb hv hb hd).mono (R':=fun e w'=>lE b d g o cap tvs W (α:=Unit) (fun _ _ _=>False) (.bad 2 m) e w') fun e w' h=>by rw[Hm.out];exact h)
 have HB6:Hid ((full ((TT tvs).drop i):PR Nd)=.bad 2 m):=yh (by rw[Hm.out];rfl)
 clear hfn hd
 have HB0:=yh hB
 have HXB:=yh (xb hbb)
 have hL:Kn [b] w w [(b,.cells #[v,.int .i64 (d:Int)] 73 (0,0))]:=Kn.one hb
 have HBS:=yh hb
 clear hB hb
 have hF:=hL.fx
 go_enter_defers Tryz.func122,Tryz.ntmps122
 go_wp2_with (first|(with_reducible refine zS ?_;intro W hL hF)|(go_at_call 143;(with_reducible refine zM (fun W hL=>HEF.out _ (af HB0.out hL HXB.out) hL.h1) ?_);rintro W hL e W ⟨vj3,dj,rfl,hb⟩;replace hL:=hL.jn 1 hb;clear hb;have hF:=hL.fx))
 show cR W0 b d g o cap tvs w (full ((TT tvs).drop i)) _ _
 rw[HB6.out]
 exact⟨vj3,dj,rfl,hL.pm⟩
end
end Go.Proofs.YtgboffbbpmileaaGreatDoor
