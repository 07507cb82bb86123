/- Lemmas and walks for the law VLawPJoins (part 11). -/
import Derived.Test.YtgboffbbpmileaaGreatDoorPy10
import Derived.Test.YtgboffbbpmileaaGreatDoorProg
import Derived.WalkKit
import Derived.Handy
import Derived.Deep.Light
import Derived.WalkSmall
import Derived.StillTailTactics
import Derived.Lib.Hide
import Derived.Defers
import Derived.IntWalk
import Derived.Recover
set_option maxRecDepth 20000
set_option maxHeartbeats 4000000
set_option linter.unusedVariables false
set_option linter.unusedSimpArgs false
namespace Go.Proofs.YtgboffbbpmileaaGreatDoor
open Go Go.RowKit
section
theorem kH{W0:World}{g o cap:Nat}{tvs:List (Tok×Value)}(E:PEnv W0 g o cap tvs){d:Nat}{pl:Pa Nd}(b i:Nat)(v:Value)(w:World)(hB:Below W0.heap.size W0 w)(hbb:W0.heap.size<=b)(hv:Hid (AtV g o cap tvs i v))(hb:w.heap[b]? =some (.cells #[v,.int .i64 (d:Nat)] 73 (0,0)))(HSI:∀W:World,Below W0.heap.size W0 W->W.heap[b]? =some (.cells #[v,.int .i64 (d:Nat)] 73 (0,0))->Calls Tryz.prog 123 #[.pointer (some ⟨b,0,none⟩)] W (db W0 b d g o cap tvs W (pl ((TT tvs).drop i))))(hbo:bU ((TT tvs).drop i)=none)(hk1:bS closers ((TT tvs).drop i)=false){x y:Tok×Value}(hx0:tvs[i]? =some x)(hy:tvs[i+1]? =some y)(hkx:((x.1.kind:Int)==0)=true)(hnm:cT x.1.plain=true)(hno:((y.1.kind:Int)==1)=false\/(y.1.text==[40])=false):Calls Tryz.prog 105 #[.pointer (some ⟨b,0,none⟩)] w fun e w'=>db W0 b d g o cap tvs w (pl ((TT tvs).drop i)) e w':=by
 have HBL:Hid (∀W,Below W0.heap.size W0 W->W.heap[b]? =some (.cells #[v,.int .i64 (d:Nat)] 73 (0,0))->Calls Tryz.prog 119 #[.pointer (some ⟨b,0,none⟩)] W fun e w'=>e=.returned (.nilFunc)/\Below W.heap.size W w'):=yh fun W hB hb=>by have h:=gP E b i v d W hB hbb hv hb;rw[hbo]at h;exact h
 have hfn:=jQ
 have HK1:Hid (bS (cz.map fun z=>z.data.toList) ((TT tvs).drop i)=false):=yh (by rw[gO];exact hk1)
 clear hbo hk1
 obtain⟨cg,co,cc,hc1,hc2,hc3⟩:=E.clo
 have HC3:=yh hc3
 have hg0:=aI hc1
 have hc4:=bN hc1 hB
 have hcb:Hid (cg≠b):=yh (by have:=kD hc3;omega)
 have hg1:0<b:=by omega
 have hg2:0<w.heap.size:=aI hc4
 have hg3:¬0=b:=by omega
 clear hc3 hc1
 obtain⟨x9,pa,pn,pc,hx,hx2⟩:=E.tok hv.out
 obtain rfl:x=x9:=Option.some.inj (hx0.symm.trans hx)
 clear hx0
 have HX:=yh hx
 have HX2:=yh hx2
 obtain⟨f0,f1,f2,f3,f4,f5⟩:=tkF x.1.kind x.1.fd x.1.line ⟨x.1.text.toArray⟩ ⟨x.1.plain.toArray⟩ pa pn pc
 clear hx hx2
 have HSZ:Hid ((⟨x.1.plain.toArray⟩:ByteArray).size<=1000000):=yh (by have:=(E.word x (List.mem_of_getElem? HX.out)).2.1;rw[<- szl];simp only[List.toList_toArray];omega)
 have HIN:=yh (fun W=>eO ⟨x.1.plain.toArray⟩ HSZ.out W)
 simp only[List.toList_toArray]at HIN
 rw[hnm]at HIN
 clear hnm
 have hn9:i+1<tvs.length:=(List.getElem?_eq_some_iff.1 hy).1
 have hi9:=hv.out.1
 have hmx:=E.max
 have hve:=hv.out.2
 have q1:decide ((1:Int)<((tvs.length-i:Nat):Int))=true:=decide_eq_true (by omega)
 have q2:1<tvs.length-i:=by omega
 obtain⟨pay,pny,pcy,hyp⟩:∃a n c,y.2=.slice a n c:=by obtain⟨a,n,c,h,_⟩:=(E.parts y (List.mem_of_getElem? hy)).2;exact⟨a,n,c,h⟩
 have hcy:=gn E hB hy pay pny pcy hyp
 have hy0:w.cell? ⟨g,o+i*6+6,none⟩=some (.int .i64 (y.1.kind:Int)):=by have:=hcy.1;rwa[show o+(i+1)*6=o+i*6+6 by omega]at this
 have hy1:w.cell? ⟨g,o+i*6+6+1,none⟩=some (.string ⟨y.1.text.toArray⟩):=by have:=hcy.2.1;rwa[show o+(i+1)*6+1=o+i*6+6+1 by omega]at this
 have hgl:=aI hy0
 have hgb:g≠b:=by have:=aI (gn E (Below.refl _ W0) hy pay pny pcy hyp).1;omega
 clear hcy hyp
 clear hy
 have HSC:=yh HSI
 obtain⟨PL,hpl⟩:∃p:PR Nd,pl ((TT tvs).drop i)=p:=⟨_,rfl⟩
 rw[hpl]at HSC |-
 clear hpl HSI
 obtain⟨ky,hky⟩:∃z:Bool,((y.1.kind:Int)==1)=z:=⟨_,rfl⟩
 obtain⟨ty,hty⟩:∃z:Bool,(y.1.text==[40])=z:=⟨_,rfl⟩
 rw[hky,hty]at hno
 have HB0:=yh hB
 have HXB:=yh (xb hbb)
 have hL:Kn [b] w w [(b,.cells #[v,.int .i64 (d:Int)] 73 (0,0))]:=Kn.one hb
 have HBS:=yh hb
 clear hB hb
 have hF:=hL.fx
 cases ky
 ·cases PL with
  |bad er m2=>
   go_enter Tryz.func105,Tryz.ntmps105;go_wp2_with (first|(with_reducible refine zS ?_;intro W hL hF)|(go_at_call 119;refine zC (fun W hL=>HBL.out _ (ag HB0.out hL HXB.out) hL.h1) ?_;intro W hL hF)|(go_at_call 86;refine zC (fun W hL=>cK E b i v (d:Int) _ (ag HB0.out hL HXB.out) hbb hv hL.h1 cg co 10 _ cz _ HK1 (yh rfl) (by omega) (cG (ag HB0.out hL HXB.out) HC3.out) hcb.out) ?_;intro W hL hF)|(go_at_call 27;refine zC (fun W hL=>aL E b i v (d:Int) _ (ag HB0.out hL HXB.out) hbb hv hL.h1 HX.out pa pn pc HX2.out) ?_;intro W hL hF)|(go_at_call 121;refine zC (fun W hL=>HIN.out _) ?_;intro W hL hF)|(go_at_call 123;(with_reducible refine zM (fun W hL=>HSC.out _ (ag HB0.out hL HXB.out) hL.h2) ?_);rintro W hL e W ⟨vj2,dj,rfl,hb⟩;replace hL:=hL.jn 2 hb;clear hb;have hF:=hL.fx))
   exact⟨rfl,vj2,dj,rfl,hL.pm⟩
  |ok z r=>
   go_enter Tryz.func105,Tryz.ntmps105;go_wp2_with (first|(with_reducible refine zS ?_;intro W hL hF)|(go_at_call 119;refine zC (fun W hL=>HBL.out _ (ag HB0.out hL HXB.out) hL.h1) ?_;intro W hL hF)|(go_at_call 86;refine zC (fun W hL=>cK E b i v (d:Int) _ (ag HB0.out hL HXB.out) hbb hv hL.h1 cg co 10 _ cz _ HK1 (yh rfl) (by omega) (cG (ag HB0.out hL HXB.out) HC3.out) hcb.out) ?_;intro W hL hF)|(go_at_call 27;refine zC (fun W hL=>aL E b i v (d:Int) _ (ag HB0.out hL HXB.out) hbb hv hL.h1 HX.out pa pn pc HX2.out) ?_;intro W hL hF)|(go_at_call 121;refine zC (fun W hL=>HIN.out _) ?_;intro W hL hF)|(go_at_call 123;(with_reducible refine zM (fun W hL=>HSC.out _ (ag HB0.out hL HXB.out) hL.h2) ?_);rintro W hL e W ⟨nm,aa,na,ca,aw,nw,cw,ar,nr,cr,ak,nk,ck,LN,j2,vj2,rfl,HN,HJ2,hb⟩;replace hL:=hL.jn 2 hb;clear hb;have hF:=hL.fx;replace hL:=hL.in02;clear hF;have hF:=hL.fx))
   refine zF ?_;intro W hL hF;refine bodyPost_ret (by simp[results,Tryz.results105,go_sem, *];try rfl) rfl ?_;exact⟨nm,aa,na,ca,aw,nw,cw,ar,nr,cr,ak,nk,ck,LN,j2,vj2,rfl,HN,HJ2,hL.pm⟩
 ·obtain rfl:ty=false:=hno.resolve_left (by decide)
  clear hno
  cases PL with
  |bad er m2=>
   go_enter Tryz.func105,Tryz.ntmps105;go_wp2_with (first|(with_reducible refine zS ?_;intro W hL hF)|(go_at_call 119;refine zC (fun W hL=>HBL.out _ (ag HB0.out hL HXB.out) hL.h1) ?_;intro W hL hF)|(go_at_call 86;refine zC (fun W hL=>cK E b i v (d:Int) _ (ag HB0.out hL HXB.out) hbb hv hL.h1 cg co 10 _ cz _ HK1 (yh rfl) (by omega) (cG (ag HB0.out hL HXB.out) HC3.out) hcb.out) ?_;intro W hL hF)|(go_at_call 27;refine zC (fun W hL=>aL E b i v (d:Int) _ (ag HB0.out hL HXB.out) hbb hv hL.h1 HX.out pa pn pc HX2.out) ?_;intro W hL hF)|(go_at_call 121;refine zC (fun W hL=>HIN.out _) ?_;intro W hL hF)|(go_at_call 123;(with_reducible refine zM (fun W hL=>HSC.out _ (ag HB0.out hL HXB.out) hL.h2) ?_);rintro W hL e W ⟨vj2,dj,rfl,hb⟩;replace hL:=hL.jn 2 hb;clear hb;have hF:=hL.fx))
   exact⟨rfl,vj2,dj,rfl,hL.pm⟩
  |ok z r=>
   go_enter Tryz.func105,Tryz.ntmps105;go_wp2_with (first|(with_reducible refine zS ?_;intro W hL hF)|(go_at_call 119;refine zC (fun W hL=>HBL.out _ (ag HB0.out hL HXB.out) hL.h1) ?_;intro W hL hF)|(go_at_call 86;refine zC (fun W hL=>cK E b i v (d:Int) _ (ag HB0.out hL HXB.out) hbb hv hL.h1 cg co 10 _ cz _ HK1 (yh rfl) (by omega) (cG (ag HB0.out hL HXB.out) HC3.out) hcb.out) ?_;intro W hL hF)|(go_at_call 27;refine zC (fun W hL=>aL E b i v (d:Int) _ (ag HB0.out hL HXB.out) hbb hv hL.h1 HX.out pa pn pc HX2.out) ?_;intro W hL hF)|(go_at_call 121;refine zC (fun W hL=>HIN.out _) ?_;intro W hL hF)|(go_at_call 123;(with_reducible refine zM (fun W hL=>HSC.out _ (ag HB0.out hL HXB.out) hL.h2) ?_);rintro W hL e W ⟨nm,aa,na,ca,aw,nw,cw,ar,nr,cr,ak,nk,ck,LN,j2,vj2,rfl,HN,HJ2,hb⟩;replace hL:=hL.jn 2 hb;clear hb;have hF:=hL.fx;replace hL:=hL.in02;clear hF;have hF:=hL.fx))
   refine zF ?_;intro W hL hF;refine bodyPost_ret (by simp[results,Tryz.results105,go_sem, *];try rfl) rfl ?_;exact⟨nm,aa,na,ca,aw,nw,cw,ar,nr,cr,ak,nk,ck,LN,j2,vj2,rfl,HN,HJ2,hL.pm⟩
theorem tq{W0:World}{g o cap:Nat}{tvs:List (Tok×Value)}(E:PEnv W0 g o cap tvs){d:Nat}{pl:Pa Nd}(b i:Nat)(v:Value)(w:World)(hB:Below W0.heap.size W0 w)(hbb:W0.heap.size<=b)(hv:Hid (AtV g o cap tvs i v))(hb:w.heap[b]? =some (.cells #[v,.int .i64 (d:Nat)] 73 (0,0)))(HSI:∀W:World,Below W0.heap.size W0 W->W.heap[b]? =some (.cells #[v,.int .i64 (d:Nat)] 73 (0,0))->Calls Tryz.prog 122 #[.pointer (some ⟨b,0,none⟩)] W (db W0 b d g o cap tvs W (pl ((TT tvs).drop i))))(hbo:bU ((TT tvs).drop i)=none)(hk1:bS closers ((TT tvs).drop i)=false){x y:Tok×Value}(hx0:tvs[i]? =some x)(hy:tvs[i+1]? =some y)(hkx:((x.1.kind:Int)==0)=true)(hnm:cT x.1.plain=true)(hky:((y.1.kind:Int)==1)=true)(hty:(y.1.text==[40])=true):Calls Tryz.prog 105 #[.pointer (some ⟨b,0,none⟩)] w fun e w'=>db W0 b d g o cap tvs w (pl ((TT tvs).drop i)) e w':=by
 have HBL:Hid (∀W,Below W0.heap.size W0 W->W.heap[b]? =some (.cells #[v,.int .i64 (d:Nat)] 73 (0,0))->Calls Tryz.prog 119 #[.pointer (some ⟨b,0,none⟩)] W fun e w'=>e=.returned (.nilFunc)/\Below W.heap.size W w'):=yh fun W hB hb=>by have h:=gP E b i v d W hB hbb hv hb;rw[hbo]at h;exact h
 have hfn:=jQ
 have HK1:Hid (bS (cz.map fun z=>z.data.toList) ((TT tvs).drop i)=false):=yh (by rw[gO];exact hk1)
 clear hbo hk1
 obtain⟨cg,co,cc,hc1,hc2,hc3⟩:=E.clo
 have HC3:=yh hc3
 have hg0:=aI hc1
 have hc4:=bN hc1 hB
 have hcb:Hid (cg≠b):=yh (by have:=kD hc3;omega)
 have hg1:0<b:=by omega
 have hg2:0<w.heap.size:=aI hc4
 have hg3:¬0=b:=by omega
 clear hc3 hc1
 obtain⟨x9,pa,pn,pc,hx,hx2⟩:=E.tok hv.out
 obtain rfl:x=x9:=Option.some.inj (hx0.symm.trans hx)
 clear hx0
 have HX:=yh hx
 have HX2:=yh hx2
 obtain⟨f0,f1,f2,f3,f4,f5⟩:=tkF x.1.kind x.1.fd x.1.line ⟨x.1.text.toArray⟩ ⟨x.1.plain.toArray⟩ pa pn pc
 clear hx hx2
 have HSZ:Hid ((⟨x.1.plain.toArray⟩:ByteArray).size<=1000000):=yh (by have:=(E.word x (List.mem_of_getElem? HX.out)).2.1;rw[<- szl];simp only[List.toList_toArray];omega)
 have HIN:=yh (fun W=>eO ⟨x.1.plain.toArray⟩ HSZ.out W)
 simp only[List.toList_toArray]at HIN
 rw[hnm]at HIN
 clear hnm
 have hn9:i+1<tvs.length:=(List.getElem?_eq_some_iff.1 hy).1
 have hi9:=hv.out.1
 have hmx:=E.max
 have hve:=hv.out.2
 have q1:decide ((1:Int)<((tvs.length-i:Nat):Int))=true:=decide_eq_true (by omega)
 have q2:1<tvs.length-i:=by omega
 obtain⟨pay,pny,pcy,hyp⟩:∃a n c,y.2=.slice a n c:=by obtain⟨a,n,c,h,_⟩:=(E.parts y (List.mem_of_getElem? hy)).2;exact⟨a,n,c,h⟩
 have hcy:=gn E hB hy pay pny pcy hyp
 have hy0:w.cell? ⟨g,o+i*6+6,none⟩=some (.int .i64 (y.1.kind:Int)):=by have:=hcy.1;rwa[show o+(i+1)*6=o+i*6+6 by omega]at this
 have hy1:w.cell? ⟨g,o+i*6+6+1,none⟩=some (.string ⟨y.1.text.toArray⟩):=by have:=hcy.2.1;rwa[show o+(i+1)*6+1=o+i*6+6+1 by omega]at this
 have hgl:=aI hy0
 have hgb:g≠b:=by have:=aI (gn E (Below.refl _ W0) hy pay pny pcy hyp).1;omega
 clear hcy hyp
 clear hy
 have HSC:=yh HSI
 obtain⟨PL,hpl⟩:∃p:PR Nd,pl ((TT tvs).drop i)=p:=⟨_,rfl⟩
 rw[hpl]at HSC |-
 clear hpl HSI
 have HB0:=yh hB
 have HXB:=yh (xb hbb)
 have hL:Kn [b] w w [(b,.cells #[v,.int .i64 (d:Int)] 73 (0,0))]:=Kn.one hb
 have HBS:=yh hb
 clear hB hb
 have hF:=hL.fx
 cases PL with
 |bad er m2=>
  go_enter Tryz.func105,Tryz.ntmps105;go_wp2_with (first|(with_reducible refine zS ?_;intro W hL hF)|(go_at_call 119;refine zC (fun W hL=>HBL.out _ (ag HB0.out hL HXB.out) hL.h1) ?_;intro W hL hF)|(go_at_call 86;refine zC (fun W hL=>cK E b i v (d:Int) _ (ag HB0.out hL HXB.out) hbb hv hL.h1 cg co 10 _ cz _ HK1 (yh rfl) (by omega) (cG (ag HB0.out hL HXB.out) HC3.out) hcb.out) ?_;intro W hL hF)|(go_at_call 27;refine zC (fun W hL=>aL E b i v (d:Int) _ (ag HB0.out hL HXB.out) hbb hv hL.h1 HX.out pa pn pc HX2.out) ?_;intro W hL hF)|(go_at_call 121;refine zC (fun W hL=>HIN.out _) ?_;intro W hL hF)|(go_at_call 122;(with_reducible refine zM (fun W hL=>HSC.out _ (ag HB0.out hL HXB.out) hL.h2) ?_);rintro W hL e W ⟨vj2,dj,rfl,hb⟩;replace hL:=hL.jn 2 hb;clear hb;have hF:=hL.fx))
  exact⟨rfl,vj2,dj,rfl,hL.pm⟩
 |ok z r=>
  go_enter Tryz.func105,Tryz.ntmps105;go_wp2_with (first|(with_reducible refine zS ?_;intro W hL hF)|(go_at_call 119;refine zC (fun W hL=>HBL.out _ (ag HB0.out hL HXB.out) hL.h1) ?_;intro W hL hF)|(go_at_call 86;refine zC (fun W hL=>cK E b i v (d:Int) _ (ag HB0.out hL HXB.out) hbb hv hL.h1 cg co 10 _ cz _ HK1 (yh rfl) (by omega) (cG (ag HB0.out hL HXB.out) HC3.out) hcb.out) ?_;intro W hL hF)|(go_at_call 27;refine zC (fun W hL=>aL E b i v (d:Int) _ (ag HB0.out hL HXB.out) hbb hv hL.h1 HX.out pa pn pc HX2.out) ?_;intro W hL hF)|(go_at_call 121;refine zC (fun W hL=>HIN.out _) ?_;intro W hL hF)|(go_at_call 122;(with_reducible refine zM (fun W hL=>HSC.out _ (ag HB0.out hL HXB.out) hL.h2) ?_);rintro W hL e W ⟨nm,aa,na,ca,aw,nw,cw,ar,nr,cr,ak,nk,ck,LN,j2,vj2,rfl,HN,HJ2,hb⟩;replace hL:=hL.jn 2 hb;clear hb;have hF:=hL.fx;replace hL:=hL.in02;clear hF;have hF:=hL.fx))
  refine zF ?_;intro W hL hF;refine bodyPost_ret (by simp[results,Tryz.results105,go_sem, *];try rfl) rfl ?_;exact⟨nm,aa,na,ca,aw,nw,cw,ar,nr,cr,ak,nk,ck,LN,j2,vj2,rfl,HN,HJ2,hL.pm⟩
theorem rE{W0:World}{g o cap:Nat}{tvs:List (Tok×Value)}(E:PEnv W0 g o cap tvs){i:Nat}{x:Tok×Value}(hx:tvs[i]? =some x):qi ((TT tvs).drop i)=(((x.1.kind:Int)==0)&&cT x.1.plain&&aS [40] ((TT tvs).drop (i+1))):=by
 rcases bI E hx with⟨h1,h2,h3,h4⟩|⟨h1,h2,h3⟩
 ·rw[h1,h2];rfl
 ·rw[h1]
  show((x.1.kind==0)&&_&&_)=_
  congr 2;rw[Bool.eq_iff_iff,beq_iff_eq,beq_iff_eq];omega
theorem lY{W0:World}{g o cap:Nat}{tvs:List (Tok×Value)}(E:PEnv W0 g o cap tvs){d:Nat}{comp:Blk->Pa Nd}{inner:Option (Blk->Pa Nd)}(HCO:jw W0 g o cap tvs d comp)(HFN:AZ W0 g o cap tvs d (fnP inner)):cL W0 g o cap tvs 105 d (gT comp inner):=by
 intro b i v w hB hbb hv hb
 obtain⟨x,pa,pn,pc,hx,_⟩:=E.tok hv.out
 unfold gT
 cases hbo:bU ((TT tvs).drop i)with
 |some bk=>exact oN E HCO b i v w hB hbb hv hb bk hbo
 |none=>
  have HSI:=fun(W:World) (hB:Below W0.heap.size W0 W) hb=>vc E b i v d W hB hbb hv hb
  simp only
  cases hk1:bS closers ((TT tvs).drop i)with
  |true=>rw[if_pos rfl];exact oO E b i v w hB hbb hv hb hbo hk1
  |false=>
   rw[if_neg (by decide)];have hf:=rE E hx
   cases hkx:((x.1.kind:Int)==0)with
   |false=>
    rw[hkx]at hf;rw[if_neg (by rw[hf];simp)];exact kG E b i v w hB hbb hv hb HSI hbo hk1 hx (.inl hkx)
   |true=>
    cases hnm:cT x.1.plain with
    |false=>
     rw[hnm]at hf;rw[if_neg (by rw[hf];simp)];exact kG E b i v w hB hbb hv hb HSI hbo hk1 hx (.inr hnm)
    |true=>
     have h9:i+1<tvs.length:=by
      rcases bI E hx with h|h
      ·have:=h.2.1;rw[beq_iff_eq]at hkx;omega
      ·exact h.2.2
     obtain⟨y,hy⟩:∃y,tvs[i+1]? =some y:=⟨_,List.getElem?_eq_getElem h9⟩;rw[hkx,hnm,rz E hy]at hf
     cases hky:((y.1.kind:Int)==1)with
     |false=>
      rw[hky]at hf;rw[if_neg (by rw[hf];simp)];exact kH E b i v w hB hbb hv hb HSI hbo hk1 hx hy hkx hnm (.inl hky)
     |true=>
      cases hty:(y.1.text==[40])with
      |false=>
       rw[hky,hty]at hf;rw[if_neg (by rw[hf];decide)];exact kH E b i v w hB hbb hv hb HSI hbo hk1 hx hy hkx hnm (.inr hty)
      |true=>
       rw[hky,hty]at hf;rw[if_pos (by rw[hf];decide)];exact tq E (pl:=fnP inner) b i v w hB hbb hv hb (fun W hB hb=>HFN b i v W hB hbb hv hb (by rw[hf];decide)) hbo hk1 hx hy hkx hnm hky hty
theorem ii{W0:World}{g o cap:Nat}{tvs:List (Tok×Value)}(E:PEnv W0 g o cap tvs)(b i:Nat)(v:Value)(d:Nat)(w:World)(hB:Below W0.heap.size W0 w)(hbb:W0.heap.size<=b)(hv:Hid (AtV g o cap tvs i v))(hb:w.heap[b]? =some (.cells #[v,.int .i64 (d:Int)] 73 (0,0)))(h20:d=20):Calls Tryz.prog 143 #[.pointer (some ⟨b,0,none⟩)] w fun e w'=>mD b d g o cap tvs w (α:=Unit) (fun _ _ _=>False) (full ((TT tvs).drop i)) e w':=by
 obtain⟨m,hm⟩:∃m,m=((TT tvs).drop i).length:=⟨_,rfl⟩
 have Hm:=yh hm
 clear hm
 have q0:((d:Int)==20)=true:=by rw[h20];rfl
 have HB0:=yh hB
 have HXB:=yh (xb hbb)
 have hL:Kn [b] w w [(b,.cells #[v,.int .i64 (d:Int)] 73 (0,0))]:=Kn.one hb
 have HBS:=yh hb
 clear hB hb
 have hF:=hL.fx
 have hmf:∀(fn:Fn) (first cap:Array Value) (w:World),(Instr.makeFunc fn first cap).run Tryz.prog w=.ok (.func fn first cap) w:=fun _ _ _ _=>rfl
 go_enter Tryz.func143,Tryz.ntmps143
 go_wp2_with (first|(with_reducible refine zS ?_;intro W hL hF)|(go_at_call 28;(with_reducible refine zM (fun W hL=>fW E b i v d _ (ag HB0.out hL HXB.out) hbb hv hL.h1 6 d 2 (yh rfl) m Hm) ?_);rintro W hL e W ⟨vj,dj,rfl,hb⟩;replace hL:=hL.jn 1 hb;clear hb;have hF:=hL.fx))
 exact⟨rfl,_,_,by rw[Hm.out]<;>rfl,hL.sub (by repeat' (first|exact List.Sublist.refl _|apply List.Sublist.cons_cons|apply List.Sublist.cons))⟩
theorem kI{W0:World}{g o cap:Nat}{tvs:List (Tok×Value)}(E:PEnv W0 g o cap tvs)(b i:Nat)(v:Value)(d:Nat)(w:World)(hB:Below W0.heap.size W0 w)(hbb:W0.heap.size<=b)(hv:Hid (AtV g o cap tvs i v))(hb:w.heap[b]? =some (.cells #[v,.int .i64 (d:Int)] 73 (0,0)))(h20:d<20):Calls Tryz.prog 143 #[.pointer (some ⟨b,0,none⟩)] w fun e w'=>∃c,e=.returned (.func (.func 166) #[] #[.pointer (some ⟨c,0,none⟩)])/\Kn [b] w w' [(b,.cells #[v,.int .i64 ((d+1:Nat):Int)] 73 (0,0)),(c,.cells #[.pointer (some ⟨b,0,none⟩)] 71 (0,0))]:=by
 have q0:((d:Int)==20)=false:=beq_false_of_ne (by omega)
 have q1:IntKind.i64.wrap ((d:Int)+1)=((d+1:Nat):Int):=by rw[IntWalk.i64_in _ (by omega)];omega
 have HB0:=yh hB
 have HXB:=yh (xb hbb)
 have hL:Kn [b] w w [(b,.cells #[v,.int .i64 (d:Int)] 73 (0,0))]:=Kn.one hb
 have HBS:=yh hb
 clear hB hb
 have hF:=hL.fx
 have hmf:∀(fn:Fn) (first cap:Array Value) (w:World),(Instr.makeFunc fn first cap).run Tryz.prog w=.ok (.func fn first cap) w:=fun _ _ _ _=>rfl
 go_enter Tryz.func143,Tryz.ntmps143
 go_wp2
 refine zF ?_;intro W hL hF
 refine bodyPost_ret (by simp[results,Tryz.results143,go_sem, *];try rfl) rfl ?_
 exact⟨_,rfl,Kn.ofPerm hL (List.Perm.swap _ _ _)⟩
theorem vv(b c:Nat)(v:Value)(dj:Int)(u:FrameMode)(w:World)(hL:Kn [b,c] w w [(b,.cells #[v,.int .i64 dj] 73 (0,0)),(c,.cells #[.pointer (some ⟨b,0,none⟩)] 71 (0,0))]):
    CallsD Tryz.prog 166 #[.pointer (some ⟨c,0,none⟩)] u w fun e u' w'=>u'=u/\e=.returned (.tuple #[])/\Kn [b,c] w w' [(b,.cells #[v,.int .i64 (wrap64 (dj-1))] 73 (0,0)),(c,.cells #[.pointer (some ⟨b,0,none⟩)] 71 (0,0))]:=by
  have hF:=hL.fx;go_enter_d Tryz.func166,Tryz.ntmps166;go_wp2;first
  |exact⟨rfl,rfl,rfl,aV⟩
  | (go_end0
     (exact⟨rfl,aV⟩))
theorem jR{fn:Func}{tmps:Array Value}{R:Ending->World->Prop}{b c:Nat}{v:Value}{d:Nat}{u:FrameMode}{X:List Nat}{w0 W:World}{L:List (Nat×Obj)}(hd:d<1000)(hL:Kn X w0 W ((b,.cells #[v,.int .i64 ((d+1:Nat):Int)] 73 (0,0))::(c,.cells #[.pointer (some ⟨b,0,none⟩)] 71 (0,0))::L))(hu:u≠ .run)(k:∀W',Kn X w0 W' ((b,.cells #[v,.int .i64 (d:Int)] 73 (0,0))::L)->Leaves Tryz.prog fn tmps R [] (settle u) W'):
  Leaves Tryz.prog fn tmps R [{target:=.fn (.func 166) #[.pointer (some ⟨c,0,none⟩)],args:=#[]}] u W:=by
 have h1:Kn [b,c] W W [(b,.cells #[v,.int .i64 ((d+1:Nat):Int)] 73 (0,0)),(c,.cells #[.pointer (some ⟨b,0,none⟩)] 71 (0,0))]:=Kn.self (P:=[(b,.cells #[v,.int .i64 ((d+1:Nat):Int)] 73 (0,0)),(c,.cells #[.pointer (some ⟨b,0,none⟩)] 71 (0,0))]) [] L hL
 refine leaves_cons (f:=166) (args:=#[.pointer (some ⟨c,0,none⟩)]) hu (by simp[go_sem]) ?_
 refine(vv b c v ((d+1:Nat):Int) u W h1).mono ?_
 rintro e u' w' ⟨rfl,rfl,hK⟩
 have h2:=Kn.joinA (P:=[(b,.cells #[v,.int .i64 ((d+1:Nat):Int)] 73 (0,0)),(c,.cells #[.pointer (some ⟨b,0,none⟩)] 71 (0,0))]) [] L hL hK
 rw[show wrap64 (((d+1:Nat):Int)-1)=(d:Int)from by rw[show((d+1:Nat):Int)-1=(d:Int) by omega];exact IntWalk.wrap64_in (d:Int) (by omega)]at h2
 exact k w' (h2.sub (sC (sD sR)))
theorem vA{fn:Func}{tmps:Array Value}{R:Ending->World->Prop}{b c:Nat}{v:Value}{dj:Int}{u:FrameMode}{X:List Nat}{w0 W:World}{L:List (Nat×Obj)}(hL:Kn X w0 W ((b,.cells #[v,.int .i64 dj] 73 (0,0))::(c,.cells #[.pointer (some ⟨b,0,none⟩)] 71 (0,0))::L))(hu:u≠ .run)(k:∀W' dj,Kn X w0 W' ((b,.cells #[v,.int .i64 dj] 73 (0,0))::L)->Leaves Tryz.prog fn tmps R [] (settle u) W'):
  Leaves Tryz.prog fn tmps R [{target:=.fn (.func 166) #[.pointer (some ⟨c,0,none⟩)],args:=#[]}] u W:=by
 have h1:Kn [b,c] W W [(b,.cells #[v,.int .i64 dj] 73 (0,0)),(c,.cells #[.pointer (some ⟨b,0,none⟩)] 71 (0,0))]:=Kn.self (P:=[(b,.cells #[v,.int .i64 dj] 73 (0,0)),(c,.cells #[.pointer (some ⟨b,0,none⟩)] 71 (0,0))]) [] L hL
 refine leaves_cons (f:=166) (args:=#[.pointer (some ⟨c,0,none⟩)]) hu (by simp[go_sem]) ?_
 refine(vv b c v dj u W h1).mono ?_
 rintro e u' w' ⟨rfl,rfl,hK⟩
 have h2:=Kn.joinA (P:=[(b,.cells #[v,.int .i64 dj] 73 (0,0)),(c,.cells #[.pointer (some ⟨b,0,none⟩)] 71 (0,0))]) [] L hL hK
 exact k w' _ (h2.sub (sC (sD sR)))
theorem fj{fn:Func}{tmps:Array Value}{R:Ending->World->Prop}{b c:Nat}{v:Value}{dj:Int}{lq:List PanicEntry}{e:PanicEntry}{X:List Nat}{w0 W:World}(hL:Kn X w0 W [(b,.cells #[v,.int .i64 dj] 73 (0,0)),(c,.cells #[.pointer (some ⟨b,0,none⟩)] 71 (0,0))])(he:e.recovered=false)(k:∀W' dj,Kn X w0 W' [(b,.cells #[v,.int .i64 dj] 73 (0,0))]->R (.panicked (e::lq)) W'):
  Leaves Tryz.prog fn tmps R [{target:=.fn (.func 166) #[.pointer (some ⟨c,0,none⟩)],args:=#[]}] (.panicking (e::lq)) W:=
 vA (L:=[]) hL (by simp) fun W' dj' h=>by
  have:settle (.panicking (e::lq))=.panicking (e::lq):=by
   obtain⟨v,r,gx⟩:=e;simp only at he;subst he;rfl
  rw[this];exact k W' dj' h
theorem Kn.in1c{X:List Nat}{w0 W:World}{p0 p1 p2 p3:Nat×Obj}{LP LC R:List (Nat×Obj)}(h:Kn X w0 W (p0::(LP++(p1::p2::p3::(LC++R))))):Kn X w0 W (p0::p1::p2::p3::((LP++LC)++R)):=h.perm fun p=>by grind
theorem oP{W0:World}{b d j g o cap:Nat}{tvs:List (Tok×Value)}{w W:World}{vj:Value}{kind:Nat}{nm:ByteArray}{aw:Option Addr}{nw cw:Nat}{ws:List (List Prt×Value)}{ks:List (Nd×List Value)}{x y:Nd}{cs:List Value}{a3:Option Addr}{c3:Nat}{LC LN LP:List (Nat×Obj)}
  (hx:x=.mk kind nm.data.toList false [] (ws.map (·.1)) [] (ks.map (·.1))) (h1:RowM 1 W0 LC (.slice aw nw cw) (ws.map fun x=>[x.2])) (h2:∀x∈ws,PRm W0 LC x.2 x.1) (h4:∀x∈ks,NodeL W0 LC x.1 x.2) (HN:NodeL W0 LN y cs)
  (hr:RowL 7 41 LP (.slice a3 (ks.length+1) c3) (ks.length+1) (ks.flatMap (·.2)++cs)) (Hvj:AtV g o cap tvs j vj) (hL:Kn [b] w W ((b,.cells #[vj,.int .i64 (d:Int)] 73 (0,0))::((LN++LC)++LP))):
  gE W0 b d g o cap tvs w (.ok (x.addKid y) ((TT tvs).drop j)) (.returned (.agg #[.int .i64 (kind:Int),.string nm,.bool false,.slice none 0 0,.slice aw nw cw,.slice none 0 0,.slice a3 (ks.length+1) c3])) W:=
 ⟨(kind:Int),nm,aw,nw,cw,a3,ks.length+1,c3,LN++LC,LP,j,vj,rfl,yh ⟨kind,ws,ks++[(y,cs)],by grind[Nd.addKid],rfl,h1.mono fun p hp=>List.mem_append_right _ hp,fun x hx=>(h2 x hx).mono fun p hp=>List.mem_append_right _ hp,by simp,by grind,bY (fun y hy=>(h4 y hy).r) HN.l⟩,yh ⟨Hvj,rfl⟩,hL⟩
theorem ac{α β:Type}{p:PR α}{f:α->List Tok->PR β}{b:β}{r:List Tok}(h:p.bind f=.ok b r):∃a r1,p=.ok a r1/\f a r1=.ok b r:=by
 cases p with
 |bad e m=>cases h
 |ok a r1=>exact⟨a,r1,rfl,h⟩
theorem aG{α β:Type}{p:PR α}{f:α->List Tok->PR β}{a:α}{r:List Tok}(h:p=.ok a r):p.bind f=f a r:=by rw[h];rfl
section
variable {ln:Tok} {e:List Tok}
def XT{α:Type}(ln:Tok)(e:List Tok)(P:Pa α):Prop:=∀ts a r,P ts=.ok a r->P (ts++ln::e)=.ok a (r++ln::e)
def XN{α:Type}(ln:Tok)(e:List Tok)(P:Pa α):Prop:=∀ts a r,P ts=.ok a r->r≠[]->P (ts++ln::e)=.ok a (r++ln::e)
theorem jc(hl:ln.kind=3)(s:ab)(ts:List Tok):aS s (ts++ln::e)=aS s ts:=by
 cases ts with
 |nil=>simp[aS,hl]
 |cons t r=>rfl
theorem mO(hl:ln.kind=3)(l:List ab)(ts:List Tok):bS l (ts++ln::e)=bS l ts:=by
 cases ts with
 |nil=>simp[bS,hl]
 |cons t r=>rfl
theorem k_x(hl:ln.kind=3){k:Nat}(hk:k≠3)(ts:List Tok):isK k (ts++ln::e)=isK k ts:=by
 cases ts with
 |nil=>grind[isK]
 |cons t r=>rfl
theorem A0{ts:List Tok}(h:ts≠[]):isK 3 (ts++ln::e)=isK 3 ts:=by
 cases ts with
 |nil=>grind
 |cons t r=>rfl
theorem dI{ts:List Tok}(h:ts≠[]):(ts++ln::e).tail=ts.tail++ln::e:=by
 grind
theorem df:∀{ts:List Tok},au ts≠[]->au (ts++ln::e)=au ts++ln::e
 | [],h=>absurd rfl h
 |t::r,h=>by
  unfold au at h |-
  rw[List.cons_append,List.dropWhile_cons,List.dropWhile_cons]at *;split
  ·rename_i ht
   rw[if_pos ht]at h;exact df h
  ·rfl
theorem oQ(hl:ln.kind=3):∀{ts:List Tok},au ts=[]->au (ts++ln::e)=au e
 | [],h=>by
  simp_all[au]
 |t::r,h=>by
  unfold au at h |-
  rw[List.dropWhile_cons]at h;rw[List.cons_append,List.dropWhile_cons];split
  ·rename_i ht
   rw[if_pos ht]at h;exact oQ hl h
  grind
theorem rF(hl:ln.kind=3)(ts:List Tok):bU (ts++ln::e)=bU ts:=by
 unfold bU
 grind[jc]
theorem ek{s:ab}{ts r:List Tok}{u:Unit}(h:aW s ts=.ok u r):ts≠[]:=by
 rintro rfl
 cases h
theorem el(hl:ln.kind=3)(s:ab):XT ln e (aW s):=fun ts a r h=>by
 have hn:=ek h
 unfold aW at h |-
 rw[jc hl,mO hl]
 split at h
 ·grind
 ·cases h
theorem iJ:XT ln e bT:=fun ts a r h=>by
 cases ts with
 |nil=>cases h
 |cons t r0=>
  simp only[bT,List.cons_append]at h |-
  split at h
  ·grind
  ·cases h
theorem oR:XT ln e dx:=fun ts a r h=>by
 cases ts with
 |nil=>cases h
 |cons t r0=>
  simp only[dx,List.cons_append]at h |-
  obtain⟨w,r1,h1,h2⟩:=ac h;rw[aG (iJ _ _ _ h1)];grind
theorem gF{g n:Nat}(h:n+1<=g):∃g',g=g'+1/\n<=g':=⟨g-1,by omega,by omega⟩
theorem z8(ts:List Tok):(ts++ln::e).length=ts.length+(e.length+1):=by simp
theorem lZ(hl:ln.kind=3):∀(f:Nat) (l:List (Int×Nat×List Prt)) (ts:List Tok) a r,bp f l ts=.ok a r->ts.length<=f->∀g,ts.length+(e.length+1)<=g->bp g l (ts++ln::e)=.ok a (r++ln::e)
 |f,l,ts,a,r,h,hf,g,hg=>by
  obtain⟨g,rfl,hg⟩:=gF (show ts.length+e.length+1<=g by omega);unfold bp;rw[k_x hl (by decide)]
  cases f with
  |zero=>
   obtain rfl:ts=[]:=List.eq_nil_of_length_eq_zero (by omega)
   cases h
   rfl
  |succ f=>
   unfold bp at h;split at h
   ·rename_i hc
    rw[if_pos hc];obtain⟨x,r1,h1,h2⟩:=ac h;have hw:Wi (dx ts) ts 2:=fu ts;rw[h1]at hw;have hw2:=hw.2;rw[aG (oR _ _ _ h1)];exact lZ hl f _ r1 a r h2 (by omega) g (by omega)
   grind
section
variable {cmd it pi li so ar:Pa Nd}
theorem kJ{α:Type}{P:Pa α}(hw:Wp P 1){ts:List Tok}{a:α}{r:List Tok}(h:P ts=.ok a r):ts≠[]:=by
 rintro rfl
 have:=hw []
 rw[h]at this
 have h2:=this.2
 grind
theorem rG(hl:ln.kind=3)(hw:Wp pi 1)(h0:XT ln e pi):∀(f:Nat) (n:Nd) (ts:List Tok) a r,dk pi f n ts=.ok a r->ts.length<=f->∀g,ts.length+(e.length+1)<=g->dk pi g n (ts++ln::e)=.ok a (r++ln::e)
 |f,n,ts,a,r,h,hf,g,hg=>by
  obtain⟨g,rfl,hg⟩:=gF (show ts.length+e.length+1<=g by omega);unfold dk;rw[jc hl,jc hl]
  cases f with
  |zero=>
   obtain rfl:ts=[]:=List.eq_nil_of_length_eq_zero (by omega)
   cases h
   rfl
  |succ f=>
   unfold dk at h;split at h
   ·rename_i hc
    rw[if_pos hc];have hn:ts≠[]:=by
     grind[eW]
    obtain⟨x,r1,h1,h2⟩:=ac h;rw[dI hn,df (kJ hw h1),aG (h0 _ _ _ h1)];have hw1:=hw (au ts.tail);rw[h1]at hw1;have:=hw1.2;have:=dK ts.tail;have:=dR hn;exact rG hl hw h0 f _ r1 a r h2 (by omega) g (by omega)
   grind
theorem rH(hl:ln.kind=3)(hw:Wp pi 1)(h0:XT ln e pi):XT ln e (item pi):=fun ts a r h=>by
 unfold item at h |-
 obtain⟨n,r1,h1,h2⟩:=ac h
 rw[aG (h0 _ _ _ h1)]
 grind[rG,z8]
theorem rI(hl:ln.kind=3)(hw:Wp cmd 1)(h0:XT ln e cmd):∀(f:Nat) (l:List Nd) (ts:List Tok) a r,dl cmd f l ts=.ok a r->ts.length<=f->∀g,ts.length+(e.length+1)<=g->dl cmd g l (ts++ln::e)=.ok a (r++ln::e)
 |f,n,ts,a,r,h,hf,g,hg=>by
  obtain⟨g,rfl,hg⟩:=gF (show ts.length+e.length+1<=g by omega);unfold dl;rw[jc hl]
  cases f with
  |zero=>
   obtain rfl:ts=[]:=List.eq_nil_of_length_eq_zero (by omega)
   cases h
   rfl
  |succ f=>
   unfold dl at h;split at h
   ·rename_i hc
    rw[if_pos hc];have hn:ts≠[]:=eW hc;obtain⟨x,r1,h1,h2⟩:=ac h;rw[dI hn,df (kJ hw h1),aG (h0 _ _ _ h1)];have hw1:=hw (au ts.tail);rw[h1]at hw1;have:=hw1.2;have:=dK ts.tail;have:=dR hn;exact rI hl hw h0 f _ r1 a r h2 (by omega) g (by omega)
   grind
theorem rJ(hl:ln.kind=3)(hw:Wp cmd 1)(h0:XT ln e cmd):XT ln e (pipe cmd):=fun ts a r h=>by
 unfold pipe at h |-
 obtain⟨x,r1,h1,h2⟩:=ac h
 rw[mO hl]
 have h3:cmd (if bS [[33]] ts then(ts++ln::e).tail else ts++ln::e)=.ok x (r1++ln::e):=by
  split at h1
  ·rename_i hc
   rw[if_pos hc,dI (kk hc)];exact h0 _ _ _ h1
  ·rename_i hc
   rw[if_neg hc];exact h0 _ _ _ h1
 rw[aG h3]
 obtain⟨l,r2,h4,h5⟩:=ac h2
 rw[aG (rI hl hw h0 _ _ _ _ _ h4 (Nat.le_refl _) _ (by grind))]
 grind
theorem mP(hl:ln.kind=3){ts:List Tok}(h:ts≠[]):fN (ts++ln::e)=fN ts:=by
 cases ts with
 |nil=>grind
 |cons t r=>rfl
theorem qF(hl:ln.kind=3)(ts:List Tok)(x:Nd):back (ts++ln::e) x=back ts x:=by
 grind[back,jc]
theorem vB(hl:ln.kind=3){ts:List Tok}(h:ts≠[]):sep (ts++ln::e)=sep ts:=by
 grind[sep,jc,A0]
theorem rK(hl:ln.kind=3)(hw:Wp it 1)(h0:XT ln e it):∀(f:Nat) (l:List Nd) (ts:List Tok) a r,aR it f l ts=.ok a r->r≠[]->ts.length+1<=f->∀g,ts.length+(e.length+1)+1<=g->aR it g l (ts++ln::e)=.ok a (r++ln::e)
 |0,l,ts,a,r,h,hr,hf,g,hg=>by omega
 |f+1,l,ts,a,r,h,hr,hf,g,hg=>by
  obtain⟨g,rfl,hg⟩:=gF hg;unfold aR at h |-
  split at h
  ·grind[df,mP]
  ·rename_i hc
   have hn:au ts≠[]:=fun e=>hc (by rw[e];rfl)
   rw[df hn,mP hl hn,if_neg hc];obtain⟨x,r1,h1,h2⟩:=ac h;rw[aG (h0 _ _ _ h1),qF hl];have hw1:=hw (au ts);rw[h1]at hw1;have:=hw1.2;have:=dK ts;split at h2
   ·rename_i hs
    have hn1:=mv hs;have:=dR hn1;rw[vB hl hn1,if_pos hs,dI hn1];exact rK hl hw h0 f _ r1.tail a r h2 hr (by omega) g (by omega)
   grind[vB]
theorem rL(hl:ln.kind=3)(hw:Wp cmd 1)(h0:XT ln e cmd):XN ln e (cj cmd):=fun ts a r h hr=>by
 unfold cj at h |-
 obtain⟨l,r1,h1,h2⟩:=ac h
 cases h2
 unfold eF at h1 |-
 rw[aG (rK hl (jL (fS hw)) (rH hl (fS hw) (rJ hl hw h0)) _ _ _ _ _ h1 hr (Nat.le_refl _) _ (by grind))]
theorem mQ(hl:ln.kind=3)(hw:Wp cmd 1)(h0:XT ln e cmd):XN ln e (eA cmd):=fun ts a r h hr=>by
 unfold eA at h |-
 obtain⟨n,r1,h1,h2⟩:=ac h
 split at h2
 ·cases h2
 ·rename_i hc
  cases h2
  rw[aG (rL hl hw h0 _ _ _ h1 hr),if_neg hc]
theorem jd(hl:ln.kind=3):∀(f:Nat) (x:Sim) (ts:List Tok) a r,aM f x ts=.ok a r->ts.length<=f->∀g,ts.length+(e.length+1)<=g->aM g x (ts++ln::e)=.ok a (r++ln::e)
 |f,x,ts,a,r,h,hf,g,hg=>by
  obtain⟨g,rfl,hg⟩:=gF (show ts.length+e.length+1<=g by omega)
  cases ts with
  |nil=>
   have h2:a=x.nd/\r=[]:=by
    cases f with
    |zero=>cases h;grind
    |succ f=>cases h;grind
   grind[aM]
  |cons t ts=>
   cases f with
   |zero=>grind
   |succ f=>
    rw[List.cons_append];unfold aM at h |-
    simp only at h |-
    simp only[List.length_cons]at hf hg;split at h
    ·rename_i hc
     rw[if_pos hc];obtain⟨y,r1,h1,h2⟩:=ac h;have hw:Wi (dx (t::ts)) (t::ts) 2:=fu _;rw[h1]at hw;have hw2:=hw.2;simp only[List.length_cons]at hw2;rw[<- List.cons_append,aG (oR _ _ _ h1)];exact jd hl f _ r1 a r h2 (by omega) g (by omega)
    ·rename_i hc
     rw[if_neg hc];split at h
     ·rename_i hc2
      rw[if_pos hc2];exact jd hl f _ ts a r h (by omega) g (by omega)
     grind
theorem tt(hl:ln.kind=3):XT ln e simple:=fun ts a r h=>by
 unfold simple at h |-
 rw[k_x hl (by decide),k_x hl (by decide)]
 split at h
 ·grind[jd,z8]
 ·cases h
theorem l4(hl:ln.kind=3)(h0:XN ln e so)(k:Nat)(c:ab):XT ln e (closed so k c):=fun ts a r h=>by
 unfold closed at h |-
 obtain⟨x,r1,h1,h2⟩:=ac h
 obtain⟨u,r2,h3,h4⟩:=ac h2
 rw[aG (h0 _ _ _ h1 (ek h3)),aG (el hl c _ _ _ h3)]
 grind
theorem je(hl:ln.kind=3)(h0:XN ln e so)(k:Nat)(f:ab)(s:Option ab)(ts:List Tok)(a:Nd)(r:List Tok)(h:aO so k f s ts=.ok a r)(hr:s=none->r≠[]):aO so k f s (ts++ln::e)=.ok a (r++ln::e):=by
 unfold aO at h |-
 obtain⟨x,r1,h1,h2⟩:=ac h
 obtain⟨u,r2,h3,h4⟩:=ac h2
 obtain⟨y,r3,h5,h6⟩:=ac h4
 rw[aG (h0 _ _ _ h1 (ek h3)),aG (el hl f _ _ _ h3)]
 cases s with
 |none=>
  cases h6
  rw[aG (h0 _ _ _ h5 (hr rfl))]
 |some s=>
  obtain⟨v,r4,h7,h8⟩:=ac h6;rw[aG (h0 _ _ _ h5 (ek h7))];simp only;rw[aG (el hl s _ _ _ h7)];grind
theorem kK(hl:ln.kind=3):∀ts:List Tok,aE (ts++ln::e)=((aE ts).1,(aE ts).2++ln::e)
 | []=>by simp[aE,hl]
 |t::r=>by
  rw[List.cons_append];unfold aE;split
  ·rw[kK hl r]
  ·rfl
theorem kL{n:ab}{ws:List (List Prt)}{ts r:List Tok}{a:Nd}(h:cf so n ws ts=.ok a r):au ts≠[]:=by
 unfold cf at h
 obtain⟨u,r1,h1,h2⟩:=ac h
 exact ek h1
theorem ij(hl:ln.kind=3)(h0:XN ln e so)(n:ab)(ws:List (List Prt)):XT ln e (cf so n ws):=fun ts a r h=>by
 have hn:=kL h
 unfold cf at h |-
 obtain⟨u,r1,h1,h2⟩:=ac h
 obtain⟨b,r2,h3,h4⟩:=ac h2
 obtain⟨v,r3,h5,h6⟩:=ac h4
 rw[df hn,aG (el hl kDo _ _ _ h1),aG (h0 _ _ _ h3 (ek h5)),aG (el hl dw _ _ _ h5)]
 grind
theorem ym(hl:ln.kind=3)(h0:XN ln e so):XT ln e (eG so):=fun ts a r h=>by
 cases ts with
 |nil=>cases h
 |cons t r0=>
  rw[List.cons_append];simp only[eG]at h |-
  split at h
  ·rename_i hc
   rw[if_pos hc];split at h
   ·rename_i hi
    have hn:=kk hi;rw[df hn,mO hl,if_pos hi,dI hn];unfold gV at h |-
    rw[kK hl];simp only;split at h
    ·rename_i hs
     have hn2:(aE (au r0).tail).2≠[]:=by
      grind[eW,qj]
     rw[jc hl,A0 hn2,if_pos hs,dI hn2];exact ij hl h0 _ _ _ _ _ h
    ·cases h
   ·rename_i hi
    have hn:au r0≠[]:=by
     intro hh;rw[hh]at h;have:=kL h;exact this rfl
    have hn0:r0≠[]:=by rintro rfl;exact hn rfl
    rw[df hn,mO hl,if_neg hi,jc hl,A0 hn0];split at h
    ·rename_i hs
     rw[if_pos hs,dI hn];exact ij hl h0 _ _ _ _ _ h
    ·rename_i hs
     rw[if_neg hs];exact ij hl h0 _ _ _ _ _ h
  ·cases h
theorem vC(hl:ln.kind=3):∀(f:Nat) (l:List (List Prt)) (ts:List Tok) a r,e_ f l ts=.ok a r->ts.length<=f->∀g,ts.length+(e.length+1)<=g->e_ g l (ts++ln::e)=.ok a (r++ln::e)
 |f,l,ts,a,r,h,hf,g,hg=>by
  obtain⟨g,rfl,hg⟩:=gF (show ts.length+e.length+1<=g by omega);unfold e_;rw[jc hl]
  cases f with
  |zero=>
   obtain rfl:ts=[]:=List.eq_nil_of_length_eq_zero (by omega)
   cases h
   rfl
  |succ f=>
   unfold e_ at h;split at h
   ·rename_i hc
    rw[if_pos hc];have hn:=eW hc;obtain⟨x,r1,h1,h2⟩:=ac h;have hw:Wi (bT ts.tail) ts.tail 1:=fR _;rw[h1]at hw;have hw2:=hw.2;have:=dR hn;rw[dI hn,aG (iJ _ _ _ h1)];exact vC hl f _ r1 a r h2 (by omega) g (by omega)
   grind
theorem A1(hl:ln.kind=3)(h0:XN ln e li):XT ln e (arm li):=fun ts a r h=>by
 unfold arm at h |-
 obtain⟨w,r1,h1,h2⟩:=ac h
 obtain⟨ws,r2,h3,h4⟩:=ac h2
 obtain⟨u,r3,h5,h6⟩:=ac h4
 obtain⟨n,r4,h7,h8⟩:=ac h6
 obtain⟨v,r5,h9,h10⟩:=ac h8
 rw[jc hl]
 have h11:bT (if aS [40] ts then(ts++ln::e).tail else ts++ln::e)=.ok w (r1++ln::e):=by
  split at h1
  ·rename_i hc
   rw[if_pos hc,dI (eW hc)];exact iJ _ _ _ h1
  ·rename_i hc
   rw[if_neg hc];exact iJ _ _ _ h1
 rw[aG h11,aG (vC hl _ _ _ _ _ h3 (Nat.le_refl _) _ (by grind)),aG (el hl _ _ _ _ h5),aG (h0 _ _ _ h7 (ek h9)),aG (el hl _ _ _ _ h9)]
 grind
theorem rM(hl:ln.kind=3)(hw:Wp ar 1)(h0:XT ln e ar):∀(f:Nat) (l:List Nd) (ts:List Tok) a r,de ar f l ts=.ok a r->r≠[]->ts.length+1<=f->∀g,ts.length+(e.length+1)+1<=g->de ar g l (ts++ln::e)=.ok a (r++ln::e)
 |0,l,ts,a,r,h,hr,hf,g,hg=>by omega
 |f+1,l,ts,a,r,h,hr,hf,g,hg=>by
  obtain⟨g,rfl,hg⟩:=gF hg;unfold de at h |-
  split at h
  ·grind[df,mO]
  ·rename_i hc
   obtain⟨x,r1,h1,h2⟩:=ac h;rw[df (kJ hw h1),mO hl,if_neg hc,aG (h0 _ _ _ h1)];have hw1:=hw (au ts);rw[h1]at hw1;have:=hw1.2;have:=dK ts;exact rM hl hw h0 f _ r1 a r h2 hr (by omega) g (by omega)
theorem tu(hl:ln.kind=3)(hw:Wp li 0)(h0:XN ln e li):XT ln e (fQ li):=fun ts a r h=>by
 unfold fQ at h |-
 obtain⟨w,r1,h1,h2⟩:=ac h
 obtain⟨u,r2,h3,h4⟩:=ac h2
 obtain⟨l,r3,h5,h6⟩:=ac h4
 obtain⟨v,r4,h7,h8⟩:=ac h6
 rw[aG (iJ _ _ _ h1),df (ek h3),aG (el hl _ _ _ _ h3),aG (rM hl (qk hw) (A1 hl h0) _ _ _ _ _ h5 (ek h7) (Nat.le_refl _) _ (by grind)),aG (el hl _ _ _ _ h7)]
 grind
theorem oS(hl:ln.kind=3){inner:Option (Pa Nd)}(h0:XN ln e so)(hi:∀c,inner=some c->XN ln e c)(hwi:Wp so 0)(hwc:∀c,inner=some c->Wp c 0):XN ln e (eU so inner):=fun ts a r h hr=>by
 unfold eU at h |-
 obtain⟨n,r1,h1,h2⟩:=ac h
 have hr1:r1≠[]:=by
  rintro rfl
  cases h2
  grind
 rw[aG (je hl h0 _ _ _ _ _ _ h1 (fun _=>hr1)),mO hl,mO hl]
 split at h2
 ·rename_i hc
  rw[if_pos hc,dI hr1];obtain⟨c,r2,h3,h4⟩:=ac h2
  cases h4
  rw[aG (h0 _ _ _ h3 hr)]
 ·rename_i hc
  rw[if_neg hc];split at h2
  ·rename_i hc2
   rw[if_pos hc2,dI hr1]
   cases inner with
   |none=>cases h2
   |some c=>
    obtain⟨x,r2,h3,h4⟩:=ac h2
    cases h4
    show(c (r1.tail++ln::e)).bind _=_
    rw[aG (hi c rfl _ _ _ h3 hr)]
  grind
theorem jx(n x:Nd):(n.addKid x).kind=n.kind:=by cases n;rfl
theorem kM{inner:Option (Pa Nd)}{ts r:List Tok}{n:Nd}(h:eU so inner ts=.ok n r)(hi:∀c,inner=some c->True):n.kind=8:=by
 unfold eU at h
 obtain⟨m,r1,h1,h2⟩:=ac h
 have hm:m.kind=8:=by
  unfold aO at h1;obtain⟨x,r1,h1,h2⟩:=ac h1;obtain⟨u,r2,h3,h4⟩:=ac h2;obtain⟨y,r3,h5,h6⟩:=ac h4
  cases h6
  rfl
 split at h2
 ·obtain⟨c,r2,h3,h4⟩:=ac h2
  grind[jx]
 ·split at h2
  ·cases inner with
   |none=>cases h2
   |some c=>
    obtain⟨x,r2,h3,h4⟩:=ac h2;grind[jx]
  grind
theorem vD(hl:ln.kind=3){li so conds:Pa Nd}(hw:Wp li 0)(h1:XN ln e li)(h2:XN ln e so)(h3:XN ln e conds)(hk:∀ts n r,conds ts=.ok n r->n.kind=8)(bk:Blk)(ts:List Tok)(a:Nd)(r:List Tok)(hn:ts≠[])(h:eV (iC li so conds) bk ts=.ok a r):eV (iC li so conds) bk (ts++ln::e)=.ok a (r++ln::e):=by
 unfold eV at h |-
 rw[dI hn]
 obtain⟨n,r1,h4,h5⟩:=ac h
 obtain⟨u,r2,h6,h7⟩:=ac h5
 obtain⟨l,r3,h8,h9⟩:=ac h7
 have hb:iC li so conds bk (ts.tail++ln::e)=.ok n (r1++ln::e):=by
  cases bk with
  |sub=>exact l4 hl h2 _ _ _ _ _ h4
  |grp=>exact l4 hl h2 _ _ _ _ _ h4
  |iff=>
   rw[if_pos (hk _ _ _ h4)]at h6;exact h3 _ _ _ h4 (ek h6)
  |whl=>exact je hl h2 9 kDo (some dw) _ _ _ h4 (fun h=>by cases h)
  |unt=>exact je hl h2 10 kDo (some dw) _ _ _ h4 (fun h=>by cases h)
  |for_=>exact ym hl h2 _ _ _ h4
  |case_=>exact tu hl hw h1 _ _ _ h4
 rw[aG hb]
 have h10:(if n.kind=8 then aW kFi (r1++ln::e)else .ok () (r1++ln::e))=.ok u (r2++ln::e):=by
  split at h6
  ·rename_i hc
   rw[if_pos hc];exact el hl _ _ _ _ h6
  grind
 rw[aG h10,aG (lZ hl _ _ _ _ _ h8 (Nat.le_refl _) _ (by grind))]
 grind
def XC(ln:Tok)(e:List Tok)(comp:Blk->Pa Nd):Prop:=∀b ts a r,ts≠[]->comp b ts=.ok a r->comp b (ts++ln::e)=.ok a (r++ln::e)
theorem yn(hl:ln.kind=3){comp:Blk->Pa Nd}(h0:XC ln e comp):XT ln e (ia comp):=fun ts a r h=>by
 cases ts with
 |nil=>cases h
 |cons t r0=>
  rw[List.cons_append];simp only[ia]at h |-
  split at h
  ·rename_i hc
   have hn1:=eW hc;have hn0:r0≠[]:=by grind
   rw[dI hn0,jc hl,if_pos hc,dI hn1]
   cases hb:bU (au r0.tail.tail)with
   |none=>rw[hb]at h;cases h
   |some bk=>
    rw[hb]at h;have hn2:=fv hb;rw[df hn2,rF hl,hb];obtain⟨x,r1,h1,h2⟩:=ac h;show(comp bk _).bind _=_
    rw[aG (h0 bk _ _ _ hn2 h1)];grind
  ·cases h
theorem A2(hl:ln.kind=3)(ts:List Tok):qi (ts++ln::e)=qi ts:=by
 cases ts with
 |nil=>simp[qi,hl]
 |cons t r=>grind[qi,jc]
theorem rN(hl:ln.kind=3){comp:Blk->Pa Nd}{inner:Option (Blk->Pa Nd)}(h0:XC ln e comp)(hi:∀c,inner=some c->XC ln e c):XT ln e (gT comp inner):=fun ts a r h=>by
 unfold gT at h |-
 rw[rF hl,mO hl,A2 hl]
 cases hb:bU ts with
 |some bk=>
  rw[hb]at h;exact h0 bk ts a r (fv hb) h
 |none=>
  rw[hb]at h;simp only at h |-
  split at h
  ·cases h
  ·rename_i hc
   rw[if_neg hc];split at h
   ·rename_i hf
    rw[if_pos hf]
    cases inner with
    |none=>cases h
    |some c=>exact yn hl (hi c rfl) _ _ _ h
   ·rename_i hf
    rw[if_neg hf];exact tt hl _ _ _ h
end
theorem kN:∀(k:Nat) (ts:List Tok) (n:Nd) (r:List Tok),(lev k).conds ts=.ok n r->n.kind=8
 |0,ts,n,r,h=>kM (inner:=none) h (fun _ _=>trivial)
 |k+1,ts,n,r,h=>kM (inner:=some (lev k).conds) h (fun _ _=>trivial)
theorem z_(hl:ln.kind=3):∀k:Nat,XT ln e (lev k).cmd/\XN ln e (lev k).conds/\XC ln e (lev k).comp
 |0=>by
  have h1:XC ln e (fun(_:Blk) (ts:List Tok)=>(full ts:PR Nd)):=fun b ts a r _ h=>by cases h
  have h2:=rN hl (inner:=none) h1 (fun c h=>by cases h);have hw:=(fU 0).1;have h3:=oS hl (inner:=none) (mQ hl hw h2) (fun c h=>by cases h) (iD hw) (fun c h=>by cases h);exact⟨h2,h3,h1⟩
 |k+1=>by
  obtain⟨i1,i2,i3⟩:=z_ hl k;have hwk:=fU k;have h1:XC ln e (eV (iC (cj (lev k).cmd) (eA (lev k).cmd) (lev k).conds)):=fun b ts a r hn h=>
   vD hl (jM hwk.1) (rL hl hwk.1 i1) (mQ hl hwk.1 i1) i2 (kN k) b ts a r hn h
  grind[rN,lev,fU,oS,mQ,iD]
end
section
variable {cmd it pi li so ar:Pa Nd}
theorem ik(hw:Wp it 1):∀(f g:Nat) (l:List Nd) (ts:List Tok),ts.length<f->ts.length<g->aR it f l ts=aR it g l ts
 |0,g,l,ts,hf,hg=>by omega
 |f+1,0,l,ts,hf,hg=>by omega
 |f+1,g+1,l,ts,hf,hg=>by
  unfold aR;split
  ·rfl
  ·cases h:it (au ts)with
   |bad e m=>rfl
   |ok x r=>
    show(if sep r then aR it f _ r.tail else _)=(if sep r then aR it g _ r.tail else _)
    split
    ·rename_i hs
     have hw1:=hw (au ts);rw[h]at hw1;have:=hw1.2;have:=dK ts;have:=dR (mv hs);exact ik hw f g _ _ (by omega) (by omega)
    ·rfl
theorem jf:∀(f:Nat) (l:List Nd) (ts:List Tok),aR it f l ts=(aR it f [] ts).bind fun k r=>.ok (l++k) r
 |0,l,ts=>by
  show PR.ok l ts=PR.ok (l++[]) ts
  grind
 |f+1,l,ts=>by
  unfold aR;split
  ·show PR.ok l _=PR.ok (l++[]) _
   grind
  ·cases h:it (au ts)with
   |bad e m=>rfl
   |ok x r=>
    show(if sep r then aR it f _ r.tail else .ok _ r)=(if sep r then aR it f _ r.tail else .ok _ r).bind _
    split
    ·rw[jf f (l++[back r x]),jf f ([]++[back r x])]
     cases aR it f [] r.tail with
     |bad e m=>rfl
     |ok k r2=>
      show PR.ok (l++[back r x]++k) r2=PR.ok (l++([]++[back r x]++k)) r2
      grind
    ·rfl
theorem kO{ln:Tok}{e:List Tok}(hl:ln.kind=3)(hw:Wp it 1)(h0:XT ln e it):∀(f:Nat) (l:List Nd) (ts:List Tok) a,aR it f l ts=.ok a []->ts.length+1<=f->∀g g',ts.length+(e.length+1)+1<=g->e.length<g'->aR it g l (ts++ln::e)=aR it g' a e
 |0,l,ts,a,h,hf,g,g',hg,hg'=>by omega
 |f+1,l,ts,a,h,hf,g,g',hg,hg'=>by
  obtain⟨g,rfl,hg⟩:=gF hg;unfold aR at h;split at h
  ·rename_i hc
   simp only[PR.ok.injEq]at h;obtain⟨h1,h2⟩:=h;subst h1;have e1:aR it (g+1) l (ts++ln::e)=aR it (g+1) l e:=by
    unfold aR;rw[oQ hl h2]
   rw[e1];exact ik hw _ _ _ _ (by omega) hg'
  ·rename_i hc
   have hn:au ts≠[]:=fun e=>hc (by rw[e];rfl)
   obtain⟨x,r1,h1,h2⟩:=ac h;have hw1:=hw (au ts);rw[h1]at hw1;have:=hw1.2;have:=dK ts;split at h2
   ·rename_i hs
    have hn1:=mv hs;have:=dR hn1;have e1:aR it (g+1) l (ts++ln::e)=aR it g (l++[back r1 x]) (r1.tail++ln::e):=by
     conv=>lhs;unfold aR
     rw[df hn,mP hl hn,if_neg hc,aG (h0 _ _ _ h1),qF hl,vB hl hn1,if_pos hs,dI hn1]
    rw[e1];exact kO hl hw h0 f _ r1.tail a h2 (by omega) g g' (by omega) hg'
   ·rename_i hs
    simp only[PR.ok.injEq]at h2;obtain⟨h3,rfl⟩:=h2;subst h3;have e1:aR it (g+1) l (ts++ln::e)=aR it g (l++[back [] x]) e:=by
     conv=>lhs;unfold aR
     rw[df hn,mP hl hn,if_neg hc,aG (h0 _ _ _ h1),qF hl];have hs2:sep ([]++ln::e)=true:=by simp[sep,isK,hl]
     rw[if_pos hs2];rfl
    rw[e1];exact ik hw _ _ _ _ (by omega) hg'
theorem qG{ln:Tok}{e:List Tok}(hl:ln.kind=3)(hw:Wp cmd 1)(h0:XT ln e cmd){ts:List Tok}{ks:List Nd}(h:eF cmd ts=.ok ks []):eF cmd (ts++ln::e)=(eF cmd e).bind fun k r=>.ok (ks++k) r:=by
 unfold eF at h |-
 rw[kO hl (jL (fS hw)) (rH hl (fS hw) (rJ hl hw h0)) _ _ _ _ h (Nat.le_refl _) _ (e.length+1) (by grind) (Nat.lt_succ_self _)]
 exact jf _ _ _
end
theorem l5{k:Nat}{ts r:List Tok}{l:List Nd}(h:dm k ts=.ok l r):eF (lev k).cmd ts=.ok l []/\r=[]:=by
 unfold dm at h
 obtain⟨a,r1,h1,h2⟩:=ac h
 split at h2
 ·grind
 ·cases h2
theorem tA{k:Nat}{ts:List Tok}{l:List Nd}(h:eF (lev k).cmd ts=.ok l []):dm k ts=.ok l []:=by
 grind[dm,aG]
theorem oT{k:Nat}{a b:List Tok}{ln:Tok}(hl:ln.kind=3){x y:List Nd}(ha:dm k a=.ok x [])(hb:dm k b=.ok y []):dm k (a++ln::b)=.ok (x++y) []:=by
 grind[qG,fU,z_,l5,aG,tA]
section
variable {cmd cmd' it it' pi pi' li li' so so' ar ar' conds conds':Pa Nd}
end
def tL:Tok:=⟨3,[],[],[],-1,0⟩
def ndP(x:Nd):Nd:=.mk 1 [] false [] [] [] [x]
section
variable {k:Nat} {T:List Tok} {ks:List Nd}
end
theorem kP{ps:List Prt}{s:ab}{n m:Nat}{q:Bool}(h:aH ps s n q=.bad m):m=n:=by
 grind[aH]
theorem A3(c:UInt8):lf [c]<=1:=by
 grind[lf]
theorem qH(n0 K:Nat)(h0:n0<=K):∀(f:Nat) (ps:List Prt) (l:ab) (n m:Nat),n+l.length<=K->bn f n0 (ps,l,n)=.bad m->m<=K:=by
 intro f
 induction f with
 |zero=>intro ps l n m _ h;injection h with h;omega
 |succ f ih2=>
  intro ps l n m hl h
  cases l with
  |nil=>injection h with h;omega
  |cons c t=>
   simp only[List.length_cons]at hl;rw[aQ]at h;split at h
   ·cases h
   ·split at h
    ·cases hd:aH ps t n true with
     |bad k=>grind[kP]
     |ok x=>
      obtain⟨ps',r,k⟩:=x;rw[hd]at h;have h1:=eN hd;grind
    grind[A3]
theorem tB{ps:List Prt}{c:UInt8}{t:ab}{n m:Nat}(h:bh ps c t n=.bad m):m<=n+t.length:=by
 unfold bh at h
 split at h
 ·grind
 ·split at h
  ·exact qH n (n+t.length) (by omega) _ _ _ _ _ (Nat.le_refl _) h
  grind[kP]
theorem vE:∀(f:Nat) (ps:List Prt) (l:ab) (n m:Nat),word f (ps,l,n)=.bad m->m<=n+l.length:=by
 intro f
 induction f with
 |zero=>intro ps l n m h;cases h
 |succ f ih=>
  intro ps l n m h
  cases l with
  |nil=>cases h
  |cons c t=>
   rw[ba]at h;simp only[List.length_cons];split at h
   ·cases h
   ·cases hp:bh ps c t n with
    |bad k=>rw[hp]at h;injection h with h;have:=tB hp;omega
    |ok x=>
     obtain⟨ps',r,k⟩:=x;rw[hp]at h;have h1:=fw hp;grind
theorem vF{c:UInt8}{t:ab}{n m:Nat}(h:aT c t n=.bad m):m<=n+(c::t).length:=by
 have hio:∀(l:ab) (fd:Int) (n0 n:Nat),ioS l fd n0 n≠ .bad m:=by
  grind[ioS]
 unfold aT at h
 split at h
 ·cases h
 ·split at h
  ·cases h
  ·split at h
   ·cases h
   ·split at h
    ·grind
    ·split at h
     ·cases h
     ·split at h
      ·grind
      ·split at h
       ·cases h
       ·cases hw:word (t.length+2) ([],c::t,n)with
        |bad k=>rw[hw]at h;injection h with h;rw[<- h];exact vE _ _ _ _ _ hw
        |ok x=>
         grind
def Fin.le(k:Nat):Fin->Prop
 |.fin m=>m<=k
 |.bad m=>m<=k
theorem qI:∀(d:Nat) (l:ab) (n:Nat),l.length<=d->(bG l n).1.length<=l.length/\(∀t∈(bG l n).1,t.line<=n+l.length)/\(bG l n).2.le (n+l.length):=by
 intro d
 induction d with
 |zero=>
  intro l n hl;obtain rfl:=List.eq_nil_of_length_eq_zero (Nat.le_zero.1 hl);rw[ci];exact⟨Nat.le_refl _,by simp,Nat.le_refl _⟩
 |succ d ih=>
  intro l n hl
  cases l with
  |nil=>
   grind
  |cons c t=>
   have hlt:=du c t n;have hg:=sS c t n;have hsl:=lU c t n;have fl:∀{a b:Nat} {x:Fin},x.le a->a<=b->x.le b:=fun {a b x} h k=>by
    cases x<;>exact Nat.le_trans h k
   rw[bD]
   cases hs:aT c t n with
   |bad m=>exact⟨Nat.zero_le _,by simp,vF hs⟩
   |skip r m'=>
    grind[Step.rest,gY]
   |tok x r m'=>
    rw[hs]at hlt hg hsl;simp only[Step.rest,List.length_cons,gY]at hlt hl hsl;obtain⟨h1,h2,h3⟩:=ih r m' (by omega);obtain⟨g1,g2,g3⟩:=hg;grind
theorem mR{s:ab}{ts:List Tok}(hs:s.length<=8000)(h:lex s=.ok ts):∃xs m,bG s 1=(xs,.fin m)/\ts=xs++[ew m]/\xs.length<=2000:=by
 grind[jJ,lim,bG]
theorem vG{s:ab}{xs:List Tok}{m:Nat}(hs:s.length<=8000)(h:bG s 1=(xs,.fin m))(hl:xs.length<=2000):lex s=.ok (xs++[ew m]):=by
 grind[jJ,lim]
theorem vH{s:ab}{xs:List Tok}{f:Fin}(hs:s.length<=8000)(h:bG s 1=(xs,f))(hl:2000<xs.length):∃m,lex s=.err true m:=by
 simp_all[jJ,lim]
theorem qJ:∀(f:Nat) (ps:List Prt) (l:ab) (n:Nat) (st:St),word f (ps,l,n)=.ok st->sz st.1+2*st.2.1.length<=sz ps+2*l.length:=by
 intro f
 induction f with
 |zero=>intro ps l n st h;injection h with h;grind
 |succ f ih=>
  intro ps l n st h
  cases l with
  |nil=>injection h with h;grind
  |cons c t=>
   rw[ba]at h;split at h
   ·grind
   ·cases hp:bh ps c t n with
    |bad m=>grind
    |ok x=>
     obtain⟨ps',r,m⟩:=x;rw[hp]at h;have h1:=fw hp;grind
theorem qK{c:UInt8}{t r:ab}{n m:Nat}{x:Tok}(h:aT c t n=.tok x r m):sz x.parts<=2*(c::t).length:=by
 have hio:∀(l:ab) (fd:Int) (n0 n:Nat),ioS l fd n0 n=.tok x r m->sz x.parts=0:=by
  intro l fd n0 n e;unfold ioS at e;split at e<;>(injection e with e;rw[<- e];rfl)
 have hop:∀{s:ab} {k:Nat} {r':ab} {m':Nat},Step.tok (opT s k) r' m'=.tok x r m->sz x.parts=0:=by
  intro s k r' m' e;injection e with e;rw[<- e];rfl
 unfold aT at h
 split at h
 ·cases h
 ·split at h
  ·cases h
  ·split at h
   ·injection h with h;rw[<- h];exact Nat.zero_le _
   ·split at h
    ·grind
    ·split at h
     ·grind
     ·split at h
      ·grind
      ·split at h
       ·cases h
       ·cases hw:word (t.length+2) ([],c::t,n)with
        |bad k=>grind
        |ok x=>
         obtain⟨ps,r',k⟩:=x;have hs:=qJ _ _ _ _ _ hw;rw[hw]at h;have hz:sz ps<=2*(c::t).length:=by
          have h0:sz ([]:List Prt)=0:=rfl;grind
         grind
theorem kQ:∀(d:Nat) (l:ab) (n:Nat),l.length<=d->∀t∈(bG l n).1,sz t.parts<=2*l.length:=by
 intro d
 induction d with
 |zero=>
  grind[ci]
 |succ d ih=>
  intro l n hl
  cases l with
  |nil=>grind
  |cons c t=>
   have hlt:=du c t n;grind[bD,aT,Step.rest,qK]
theorem rO{ps:List Prt}{p:Prt}(h:p∈ps):p.t.length<=sz ps:=by
 induction ps with
 |nil=>cases h
 |cons q qs ih=>
  grind[sz,tot]
theorem dU(c:UInt8)(t:ab):lf (c::t)=lf [c]+lf t:=by
 grind[lf]
theorem qL(a b:ab):lf (a++b)=lf a+lf b:=by grind[lf]
theorem jS(k:Nat)(s:ab):lf (s.drop k)<=lf s:=by
 unfold lf
 exact List.Sublist.count_le _ (List.drop_sublist k s)
def LB(n0 n:Nat)(l:ab):R St->Prop
 |.ok st=>n<=st.2.2/\st.2.2+lf st.2.1<=n+lf l
 |.bad m=>n0<=m/\m<=n+lf l
theorem LB.up{n0 n1 n n':Nat}{l l':ab}{x:R St}(h:LB n0 n l x)(h0:n1<=n0)(h1:n'<=n)(h2:n+lf l<=n'+lf l'):LB n1 n' l' x:=by
 cases x with
 |ok st=>have h:n<=st.2.2/\st.2.2+lf st.2.1<=n+lf l:=h;exact⟨by omega,by omega⟩
 |bad m=>have h:n0<=m/\m<=n+lf l:=h;exact⟨by omega,by omega⟩
theorem l6(ps:List Prt)(s:ab)(n:Nat)(q:Bool):LB n n s (aH ps s n q):=by
 unfold aH
 split
 ·rename_i h40
  cases s with
  |nil=>cases h40
  |cons c t=>
   cases hp:dF ((c::t).drop 1)with
   |none=>exact⟨Nat.le_refl _,by omega⟩
   |some z=>
    obtain⟨a,r⟩:=z;have h1:=d8 _ _ _ _ _ hp;have h2:lf t=lf a+lf (41::r):=by
     rw[<- qL];exact congrArg lf h1
    have:=dU 41 r;have:=dU c t;exact⟨by grind,by grind⟩
 ·split
  ·rename_i h123
   cases s with
   |nil=>grind
   |cons c t=>
    cases hp:brk 125 ((c::t).drop 1)with
    |none=>exact⟨Nat.le_refl _,by omega⟩
    |some z=>
     obtain⟨a,r⟩:=z;have h1:=(bB hp).1;have h2:lf t=lf a+lf (125::r):=by
      grind[qL,lf]
     have:=dU 125 r;have:=dU c t;simp only;split
     ·exact⟨Nat.le_refl _,by omega⟩
     ·exact⟨Nat.le_refl _,by grind⟩
  ·split
   ·have:=jS (bw s) s
    exact⟨Nat.le_refl _,by grind⟩
   ·exact⟨Nat.le_refl _,Nat.le_refl _⟩
theorem tC(n0:Nat):∀(f:Nat) (ps:List Prt) (l:ab) (n:Nat),n0<=n->LB n0 n l (bn f n0 (ps,l,n)):=by
 intro f
 induction f with
 |zero=>intro ps l n h;exact⟨Nat.le_refl _,by omega⟩
 |succ f ih=>
  intro ps l n h
  cases l with
  |nil=>exact⟨Nat.le_refl _,by omega⟩
  |cons c t=>
   rw[aQ];have hc:=dU c t;split
   ·exact⟨Nat.le_refl _,by grind⟩
   ·split
    ·have hd:=l6 ps t n true
     cases hx:aH ps t n true with
     |bad m=>rw[hx]at hd;have hd:n<=m/\m<=n+lf t:=hd;exact⟨by omega,by omega⟩
     |ok st=>
      obtain⟨ps',r,k⟩:=st;rw[hx]at hd;have hd:n<=k/\k+lf r<=n+lf t:=hd;exact(ih ps' r k (by omega)).up (Nat.le_refl _) hd.1 (by omega)
    ·split
     ·cases t with
      |nil=>exact(ih _ _ _ h).up (Nat.le_refl _) (Nat.le_refl _) (by omega)
      |cons d r=>
       have:=dU d r;simp only;split
       ·exact(ih _ _ _ h).up (Nat.le_refl _) (Nat.le_refl _) (by omega)
       ·exact(ih _ _ _ h).up (Nat.le_refl _) (Nat.le_refl _) (by omega)
     ·exact(ih _ _ _ (by omega)).up (Nat.le_refl _) (by omega) (by omega)
theorem vI(ps:List Prt)(c:UInt8)(t:ab)(n:Nat):LB n n (c::t) (bh ps c t n):=by
 have hc:=dU c t
 unfold bh
 split
 ·cases hp:brk 39 t with
  |none=>exact⟨Nat.le_refl _,by omega⟩
  |some z=>
   obtain⟨a,r⟩:=z;have h1:=(bB hp).1;have h2:lf t=lf a+lf (39::r):=by grind[qL,lf]
   have:=dU 39 r;exact⟨by grind,by grind⟩
 ·split
  ·exact(tC n _ _ t n (Nat.le_refl _)).up (Nat.le_refl _) (Nat.le_refl _) (by omega)
  ·split
   ·cases t with
    |nil=>exact⟨Nat.le_refl _,by grind⟩
    |cons d r=>
     have:=dU d r;simp only;split
     ·rename_i h10
      subst h10;have h3:lf [10]=1:=by decide
      exact⟨by grind,by grind⟩
     ·exact⟨Nat.le_refl _,by grind⟩
   ·split
    ·exact(l6 ps t n false).up (Nat.le_refl _) (Nat.le_refl _) (by omega)
    ·exact⟨Nat.le_refl _,by grind⟩
theorem yo:∀(f:Nat) (ps:List Prt) (l:ab) (n:Nat),LB n n l (word f (ps,l,n)):=by
 intro f
 induction f with
 |zero=>intro ps l n;exact⟨Nat.le_refl _,Nat.le_refl _⟩
 |succ f ih=>
  intro ps l n
  cases l with
  |nil=>exact⟨Nat.le_refl _,Nat.le_refl _⟩
  |cons c t=>
   rw[ba];split
   ·exact⟨Nat.le_refl _,Nat.le_refl _⟩
   ·have hp:=vI ps c t n
    cases hx:bh ps c t n with
    |bad m=>grind
    |ok st=>
     obtain⟨ps',r,k⟩:=st;rw[hx]at hp;have hp:n<=k/\k+lf r<=n+lf (c::t):=hp;exact(ih ps' r k).up hp.1 hp.1 hp.2
def SB(n:Nat)(l:ab):Step->Prop
 |.skip r m=>n<=m/\m+lf r<=n+lf l
 |.tok x r m=>n<=x.line/\x.line<=n+lf l/\n<=m/\m+lf r<=n+lf l
 |.bad m=>n<=m/\m<=n+lf l
theorem vJ(l:ab)(fd:Int)(n0 n:Nat)(K:ab)(h:n0<=n)(hk:n+lf l<=n0+lf K):SB n0 K (ioS l fd n0 n):=by
 unfold ioS
 have h1:=jS 2 l
 have h2:=jS 1 l
 split
 ·exact⟨Nat.le_refl _,Nat.le_add_right _ _,h,by omega⟩
 ·exact⟨Nat.le_refl _,Nat.le_add_right _ _,h,by omega⟩
theorem yp(c:UInt8)(t:ab)(n:Nat):SB n (c::t) (aT c t n):=by
 have hc:=dU c t
 unfold aT
 split
 ·exact⟨Nat.le_refl _,by omega⟩
 ·split
  ·have:lf (t.dropWhile (· != 10))<=lf t:=by
    unfold lf;exact List.Sublist.count_le _ (List.dropWhile_sublist _)
   exact⟨Nat.le_refl _,by omega⟩
  ·split
   ·rename_i h10
    subst h10;have h3:lf [10]=1:=by decide
    exact⟨Nat.le_refl _,Nat.le_add_right _ _,by omega,by omega⟩
   ·split
    ·have h2:=jS 1 t
     split
     ·exact⟨Nat.le_refl _,Nat.le_add_right _ _,Nat.le_refl _,by omega⟩
     ·exact⟨Nat.le_refl _,Nat.le_add_right _ _,Nat.le_refl _,by omega⟩
    ·split
     ·exact⟨Nat.le_refl _,Nat.le_add_right _ _,Nat.le_refl _,by omega⟩
     ·split
      ·grind[vJ]
      ·split
       ·rename_i h
        cases t with
        |nil=>grind
        |cons d r=>
         have h2:d=10:=by grind
         subst h2;have h3:lf [10]=1:=by decide
         have:=dU 10 r;exact⟨by omega,by grind⟩
       ·have hw:=yo (t.length+2) [] (c::t) n
        cases hx:word (t.length+2) ([],c::t,n)with
        |bad m=>rw[hx]at hw;exact hw
        |ok st=>
         obtain⟨ps,r,m⟩:=st;rw[hx]at hw;have hw:n<=m/\m+lf r<=n+lf (c::t):=hw;simp only;split
         ·split
          ·grind[vJ]
          ·exact⟨Nat.le_refl _,Nat.le_add_right _ _,hw.1,hw.2⟩
         ·exact⟨Nat.le_refl _,Nat.le_add_right _ _,hw.1,hw.2⟩
def Fin.line:Fin->Nat
 |.fin m=>m
 |.bad m=>m
theorem yq:∀(d:Nat) (l:ab) (n:Nat),l.length<=d->(∀t∈(bG l n).1,n<=t.line/\t.line<=n+lf l)/\n<=(bG l n).2.line/\(bG l n).2.line<=n+lf l:=by
 intro d
 induction d with
 |zero=>
  intro l n hl;obtain rfl:=List.eq_nil_of_length_eq_zero (Nat.le_zero.1 hl);rw[ci];exact⟨by simp,Nat.le_refl _,Nat.le_refl _⟩
 |succ d ih=>
  intro l n hl
  cases l with
  |nil=>
   grind
  |cons c t=>
   have hlt:=du c t n;have hb:=yp c t n;rw[bD]
   cases hs:aT c t n with
   |bad m=>rw[hs]at hb;exact⟨by simp,hb.1,hb.2⟩
   |skip r m'=>
    rw[hs]at hlt hb;simp only[Step.rest,List.length_cons]at hlt hl;obtain⟨h1,h2,h3⟩:=ih r m' (by omega);have hb:n<=m'/\m'+lf r<=n+lf (c::t):=hb;grind
   |tok x r m'=>
    rw[hs]at hlt hb;simp only[Step.rest,List.length_cons]at hlt hl;obtain⟨h1,h2,h3⟩:=ih r m' (by omega);have hb:n<=x.line/\x.line<=n+lf (c::t)/\n<=m'/\m'+lf r<=n+lf (c::t):=hb;grind
def fA(t:Tok):Tok:={t with line:=0}
inductive PAns where
 |ok (l:List Nd)
 |err (full:Bool) (line:Nat)
def fZ(ts:List Tok):PAns:=match dm 20 (ts.dropLast.map fA)with
 |.ok l _=>.ok l
 |.bad e m=>.err (e==2) (ts.getD (ts.length-1-m) (ew 0)).line
def ax(src:ab):PAns:=match lex src with
 |.err f m=>.err f m
 |.ok ts=>fZ ts
def kR(l:ab)(T:List Tok):Prop:=∀n,1<=n->(bG l n).1.map fA=T/\∃m,n<=m/\(bG l n).2=.fin m
theorem vK{l:ab}{xs:List Tok}{m:Nat}(h:bG l 1=(xs,.fin m)):kR l (xs.map fA):=fun n hn=>by
 obtain⟨k,rfl⟩:∃k,n=1+k:=⟨n-1,by omega⟩
 have h1:=(yq l.length l 1 (Nat.le_refl _)).2.1
 rw[xy k l.length l 1 (Nat.le_refl _),h]
 rw[h]at h1
 have h1:1<=m:=h1
 refine⟨?_,m+k,by omega,rfl⟩
 simp_all[Tok.up,fA]
theorem qM{a b:ab}{T V:List Tok}(ha:kR a T)(he:a.getLast? ≠some 92)(hb:kR b V):kR (a++10::b) (T++tL::V):=fun n hn=>by
 obtain⟨h1,m,h2,h3⟩:=ha n hn
 obtain⟨h4,k,h5,h6⟩:=hb (m+1) (by omega)
 rw[sM a b n m h3 he]
 refine⟨?_,k,by omega,h6⟩
 show((bG a n).1++_::(bG b (m+1)).1).map fA=_
 rw[List.map_append,List.map_cons,h1,h4]
 rfl
theorem tD{s:ab}{T:List Tok}(hs:s.length<=8000)(h:kR s T):(∃m,2000<T.length/\ax s=.err true m)\/(T.length<=2000/\(∀l,dm 20 T=.ok l []->ax s=.ok l)/\∀m,dm 20 T=.bad 2 m->∃k,ax s=.err true k):=by
 obtain⟨h1,m,h2,h3⟩:=h 1 (Nat.le_refl _)
 obtain⟨xs,hxs⟩:∃xs,(bG s 1).1=xs:=⟨_,rfl⟩
 have hr:bG s 1=(xs,.fin m):=by grind
 rw[hxs]at h1
 subst h1
 rw[List.length_map]
 by_cases hl:xs.length<=2000
 ·right
  refine⟨hl,fun l hp=>?_,fun k hp=>?_⟩
  ·unfold ax fZ
   rw[vG hs hr hl];grind
  ·unfold ax fZ
   rw[vG hs hr hl];simp_all
 ·left
  obtain⟨k,hk⟩:=vH hs hr (by omega);simp_all[ax]
theorem jg{s:ab}{l:List Nd}(hs:s.length<=8000)(h:ax s=.ok l):∃T,kR s T/\T.length<=s.length/\dm 20 T=.ok l []:=by
 unfold ax at h
 cases hx:lex s with
 |err f m=>grind
 |ok ts=>
  rw[hx]at h;obtain⟨xs,m,h1,rfl,h3⟩:=mR hs hx;refine⟨_,vK h1,?_,?_⟩
  ·grind[qI]
  ·simp only[fZ,List.dropLast_concat]at h
   grind[dm,fA,l5]
end
end Go.Proofs.YtgboffbbpmileaaGreatDoor
