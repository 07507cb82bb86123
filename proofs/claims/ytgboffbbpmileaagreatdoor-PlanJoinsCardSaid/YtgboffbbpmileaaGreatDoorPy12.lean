/- Lemmas and walks for the law VLawPJoins (part 12). -/
import Derived.Test.YtgboffbbpmileaaGreatDoorPy11
import Derived.Test.YtgboffbbpmileaaGreatDoorProg
import Derived.WalkKit
import Derived.Handy
import Derived.Deep.Light
import Derived.WalkSmall
import Derived.StillTailTactics
import Derived.Lib.Hide
import Derived.Deep.LoopGhost
import Derived.Deep.DeepCutAuto
import Derived.Deep.CutBlock
import Derived.Defers
set_option maxRecDepth 20000
set_option maxHeartbeats 4000000
set_option linter.unusedVariables false
set_option linter.unusedSimpArgs false
namespace Go.Proofs.YtgboffbbpmileaaGreatDoor
open Go Go.RowKit
section
theorem BS{W0:World}{g o cap:Nat}{tvs:List (Tok×Value)}(E:PEnv W0 g o cap tvs){i:Nat}{x:Tok×Value}(hx:tvs[i]? =some x):aE ((TT tvs).drop i)=if((x.1.kind:Int)==0)=true then(x.1.parts::(aE ((TT tvs).drop (i+1))).1,(aE ((TT tvs).drop (i+1))).2)else([],(TT tvs).drop i):=by
 rcases bI E hx with⟨h1,h2,h3,h4⟩|⟨h1,h2,h3⟩
 ·rw[h1,h2];rfl
 ·rw[h1]
  show(if x.1.kind=0 then _ else _)=_
  by_cases h:x.1.kind=0
  ·rw[if_pos h,if_pos (by rw[h];rfl)]
  ·rw[if_neg h,if_neg (by rw[beq_iff_eq];omega)]
def rP(so:Pa Nd)(nm:ab)(r:List Tok):PR Nd:=if bS [kIn] (au r)then gV so nm (au r).tail else cf so nm qh (if aS [59] (au r)&& !isK 3 r then(au r).tail else au r)
theorem ys{W0:World}{g o cap:Nat}{tvs:List (Tok×Value)}(E:PEnv W0 g o cap tvs){so:Pa Nd}{i:Nat}{x:Tok×Value}(hx:tvs[i]? =some x):eG so ((TT tvs).drop i)=if(((x.1.kind:Int)==0)&&cT x.1.plain)=true then rP so x.1.plain ((TT tvs).drop (i+1))else syn ((TT tvs).drop i):=by
 rcases bI E hx with⟨h1,h2,h3,h4⟩|⟨h1,h2,h3⟩
 ·rw[h1,h2];rfl
 ·rw[h1]
  show(if x.1.kind=0/\cT x.1.plain=true then rP so x.1.plain ((TT tvs).drop (i+1))else _)=_
  by_cases h:x.1.kind=0/\cT x.1.plain=true
  ·rw[if_pos h,if_pos (by rw[h.1,h.2];rfl)]
  ·rw[if_neg h,if_neg (by intro e;apply h;simp only[Bool.and_eq_true,beq_iff_eq]at e;exact⟨by omega,e.2⟩)]
theorem vL{W0:World}{b d j g o cap gq:Nat}{tvs:List (Tok×Value)}{w W:World}{vj:Value}{nm:ab}{aw:Option Addr}{nw cw:Nat}{ws:List (List Prt×Value)}{n:Nd}{nm2:ByteArray}{aa2:Option Addr}{na2:Nat}{ca2:Nat}{aw2:Option Addr}{nw2:Nat}{cw2:Nat}{ar2:Option Addr}{nr2:Nat}{cr2:Nat}{ak2:Option Addr}{nk2:Nat}{ck2:Nat}{LN LW:List (Nat×Obj)}(HN:NodeL W0 LN n [.int .i64 (n.kind:Int),.string nm2,.bool n.neg,.slice aa2 na2 ca2,.slice aw2 nw2 cw2,.slice ar2 nr2 cr2,.slice ak2 nk2 ck2])
  (h1:RowM 1 W0 LW (.slice aw nw cw) (ws.map fun x=>[x.2])) (h2:∀x∈ws,PRm W0 LW x.2 x.1) (Hvj:AtV g o cap tvs j vj) (hL:Kn [b] w W ((b,.cells #[vj,.int .i64 (d:Int)] 73 (0,0))::((LN++LW)++[(gq,.cells #[.int .i64 (n.kind:Int),.string nm2,.bool n.neg,.slice aa2 na2 ca2,.slice aw2 nw2 cw2,.slice ar2 nr2 cr2,.slice ak2 nk2 ck2] 41 (0,0))]))):
  gE W0 b d g o cap tvs w (.ok (.mk 11 nm false [] (ws.map (·.1)) [] [n]) ((TT tvs).drop j)) (.returned (.agg #[.int .i64 11,.string ⟨nm.toArray⟩,.bool false,.slice none 0 0,.slice aw nw cw,.slice none 0 0,.slice (some ⟨gq,0,none⟩) 1 1])) W:=
 ⟨11,⟨nm.toArray⟩,aw,nw,cw,some ⟨gq,0,none⟩,1,1,LN++LW,_,j,vj,rfl,yh ⟨11,ws,[(n,[.int .i64 (n.kind:Int),.string nm2,.bool n.neg,.slice aa2 na2 ca2,.slice aw2 nw2 cw2,.slice ar2 nr2 cr2,.slice ak2 nk2 ck2])],by simp,rfl,h1.mono fun p hp=>List.mem_append_right _ hp,fun x hx=>(h2 x hx).mono fun p hp=>List.mem_append_right _ hp,rfl,oK rfl rfl,fun z hz=>by rw[List.mem_singleton.1 hz];exact HN.l⟩,yh ⟨Hvj,rfl⟩,hL⟩
theorem A4{W0:World}{g o cap:Nat}{tvs:List (Tok×Value)}(E:PEnv W0 g o cap tvs){d:Nat}{so:Pa Nd}(HC:cL W0 g o cap tvs 162 d so):gZ W0 g o cap tvs 141 d (eG so):=by
  intro b i v w hB hbb hv hb;obtain⟨PL,hpl⟩:∃p:PR Nd,eG so ((TT tvs).drop i)=p:=⟨_,rfl⟩;rw[hpl];have HCC:=yh HC;clear HC;obtain⟨m,hm⟩:∃m,m=((TT tvs).drop i).length:=⟨_,rfl⟩;have Hm:=yh hm;clear hm;obtain⟨x,pa,pn,pc,hx,hx2⟩:=E.tok hv.out;have HX:=yh hx;have HX2:=yh hx2;obtain⟨f0,f1,f2,f3,f4,f5⟩:=tkF x.1.kind x.1.fd x.1.line ⟨x.1.text.toArray⟩ ⟨x.1.plain.toArray⟩ pa pn pc;clear hx hx2;rw[ys E HX.out]at hpl;have HSZ:Hid ((⟨x.1.plain.toArray⟩:ByteArray).size<=1000000):=yh (by have:=(E.word x (List.mem_of_getElem? HX.out)).2.1;rw[<- szl];simp only[List.toList_toArray];omega);have HIN:=yh (fun W=>eO ⟨x.1.plain.toArray⟩ HSZ.out W);simp only[List.toList_toArray]at HIN;obtain⟨kx,hkx⟩:∃z:Bool,((x.1.kind:Int)==0)=z:=⟨_,rfl⟩;obtain⟨nx,hnx⟩:∃z:Bool,cT x.1.plain=z:=⟨_,rfl⟩;have hkx2:((x.1.kind:Int) != 0)= !kx:=by rw[<- hkx];rfl
  rw[hnx]at HIN;rw[hkx,hnx]at hpl;have H4X:Hid (kx=true->x.1.kind≠4):=yh (fun h e4=>by rw[e4]at hkx;rw[h]at hkx;cases hkx);have HPL:=yh hpl.symm;clear hpl hnx;have hi:=hv.out.1;have hmx:=E.max;have HB0:=yh hB;have HXB:=yh (xb hbb);have hL:Kn [b] w w [(b,.cells #[v,.int .i64 (d:Int)] 73 (0,0))]:=Kn.one hb;have HBS:=yh hb;clear hB hb;have hF:=hL.fx
  cases hq:(kx&&nx)with
  |false=>
    have HB9:Hid (PL=.bad 1 m):=yh (by rw[HPL.out,hq,if_neg (by decide),Hm.out];rfl);clear HPL
    cases kx<;>cases nx<;>first|exact absurd hq (by decide)|(
      clear hq;go_enter Tryz.func141,Tryz.ntmps141;go_wp2_with (first|(with_reducible refine zS ?_;intro W hL hF)|(go_at_call 27;refine zC (fun W hL=>aL E b i v (d:Int) _ (ag HB0.out hL HXB.out) hbb hv hL.h1 HX.out pa pn pc HX2.out) ?_;intro W hL hF)|(go_at_call 121;refine zC (fun W hL=>HIN.out _) ?_;intro W hL hF)|(go_at_call 28;(with_reducible refine zM (fun W hL=>fW E b i v d _ (ag HB0.out hL HXB.out) hbb hv hL.h1 27 d 1 (yh rfl) m Hm) ?_);rintro W hL e W ⟨vj,dj,rfl,hb⟩;replace hL:=hL.jn 1 hb;clear hb;have hF:=hL.fx))
      refine⟨rfl,?_⟩;rw[HB9.out];exact⟨vj,dj,rfl,hL.pm⟩)
  |true=>
    obtain⟨rfl,rfl⟩:kx=true/\nx=true:=by cases kx<;>cases nx<;>first|exact⟨rfl,rfl⟩|cases hq
    have HB9:Hid (PL=rP so x.1.plain ((TT tvs).drop (i+1))):=yh (by rw[HPL.out];exact if_pos rfl);have H4:=yh (H4X.out rfl);clear HPL hq H4X;go_enter Tryz.func141,Tryz.ntmps141;go_upto_region 4 with(first|(go_at_call 27;refine zC (fun W hL=>aL E b i v (d:Int) _ (ag HB0.out hL HXB.out) hbb hv hL.h1 HX.out pa pn pc HX2.out) ?_;intro W hL hF)|(go_at_call 121;refine zC (fun W hL=>HIN.out _) ?_;intro W hL hF)|(go_at_call 53;(with_reducible refine zM (fun W hL=>eE E b i v (d:Int) _ (ag HB0.out hL HXB.out) hbb hv hL.h1 HX.out pa pn pc HX2.out H4.out) ?_);rintro W hL e W ⟨rfl,vj0,HVJ0,hb⟩;replace hL:=hL.jn 1 hb;clear hb;have hF:=hL.fx;obtain⟨W1,rfl⟩:∃W1:World,W1=W:=⟨_,rfl⟩))
    refine zE ?_;intro W hL hF;have hj0:=HVJ0.out.1;have Hvj0:=HVJ0;obtain⟨y,pa8,pn8,pc8,hx8,hx28⟩:=E.tok Hvj0.out;have HX8:=yh hx8;have HX28:=yh hx28;obtain⟨f08,f18,f28,f38,f48,f58⟩:=tkF y.1.kind y.1.fd y.1.line ⟨y.1.text.toArray⟩ ⟨y.1.plain.toArray⟩ pa8 pn8 pc8;clear hx8 hx28;obtain⟨k3,hk3⟩:∃z:Bool,((y.1.kind:Int)==3)=z:=⟨_,rfl⟩;have HK3:Hid (isK 3 ((TT tvs).drop (i+1))=k3):=yh (by rw[mE E HX8.out 3 (by omega)];exact hk3);go_upto_block 0 with(first|(go_at_call 27;refine zC (fun W hL=>aL E b (i+1) vj0 (d:Int) _ (ag HB0.out hL HXB.out) hbb Hvj0 hL.h1 HX8.out pa8 pn8 pc8 HX28.out) ?_;intro W hL hF)|(go_at_call 49;(with_reducible refine zM (fun W hL=>dT E b (i+1) vj0 d _ (ag HB0.out hL HXB.out) hbb Hvj0 hL.h1) ?_);rintro W hL e W ⟨j1,vj1,rfl,HJ1,hb⟩;replace hL:=hL.jn 1 hb;clear hb;have hF:=hL.fx))
    have Hvj1:=yh HJ1.out.2.1;have hj1:=HJ1.out.2.1.1;obtain⟨k5,hk5⟩:∃z:Bool,bS [kIn] ((TT tvs).drop j1)=z:=⟨_,rfl⟩;have HK5:Hid (bS ([(⟨#[105,110]⟩:ByteArray)].map fun z=>z.data.toList) ((TT tvs).drop j1)=k5):=yh hk5;obtain⟨k6,hk6⟩:∃z:Bool,aS [59] ((TT tvs).drop j1)=z:=⟨_,rfl⟩;have HK6:Hid (aS (⟨#[59]⟩:ByteArray).data.toList ((TT tvs).drop j1)=k6):=yh hk6;have HB0_:Hid (PL=if k5=true then gV so x.1.plain ((TT tvs).drop j1).tail else cf so x.1.plain qh (if(k6&& !k3)=true then((TT tvs).drop j1).tail else(TT tvs).drop j1)):=yh (by rw[HB9.out];unfold rP;rw[HJ1.out.2.2,hk5,hk6,HK3.out]);go_cut [] (fun wc=>∃(j:Nat) (vj:Value) (ws:List (List Prt×Value)) (aw:Option Addr) (nw cw:Nat) (LW:List (Nat×Obj)),Hid (AtV g o cap tvs j vj)/\Hid (PL=cf so x.1.plain (ws.map (·.1)) ((TT tvs).drop j))/\Hid (RowM 1 W0 LW (.slice aw nw cw) (ws.map fun x=>[x.2])/\∀x∈ws,PRm W0 LW x.2 x.1)/\Kn [b] w wc ((b,.cells #[vj,.int .i64 (d:Int)] 73 (0,0))::(W1.heap.size,.cells #[.int .i64 11,.string ⟨x.1.plain.toArray⟩,.bool false,.slice none 0 0,.slice aw nw cw,.slice none 0 0,.slice none 0 0] 41 (0,0))::(w.heap.size,.cells #[.int .i64 0,.string ⟨#[]⟩,.bool false,.slice none 0 0,.slice none 0 0,.slice none 0 0,.slice none 0 0] 41 (0,0))::LW))
    case first=>
      have HB8:=HB0_.out;clear HB0_
      cases k5
      · rw[if_neg (by decide)]at HB8
        have HB7:=yh HB8;clear HB8;go_upto_region 6 with((go_at_call 86;refine zC (fun W hL=>cK E b j1 vj1 (d:Int) _ (ag HB0.out hL HXB.out) hbb Hvj1 hL.h1 _ 0 1 _ [⟨#[105,110]⟩] _ HK5 (yh rfl) (by omega) (b8 (ff hL m0)) (by(exact fg hL m0))) ?_;intro W hL hF;replace hL:=hL.drop1;clear hF;have hF:=hL.fx))
        have hne7:Hid ((k6&& !k3)=true->(TT tvs).drop j1≠[]):=yh fun h=>eW (s:=[59]) (by cases k6 with|true=>exact HK6.out|false=>cases h)
        refine zE ?_;intro W hL hF;obtain⟨W2,hW2⟩:∃W2,W=W2:=⟨_,rfl⟩;subst hW2;have HR9:Hid (RowM 1 W0 [(W.heap.size+1,.cells #[.slice (some ⟨W.heap.size,0,none⟩) 1 1] 29 (0,0)),(W.heap.size,.cells #[.int .i64 1,.string ⟨#[64]⟩,.bool true] 118 (0,0))] (.slice (some ⟨W.heap.size+1,0,none⟩) 1 1) ([((⟨1,[64],true⟩:Prt)::[],Value.slice (some ⟨W.heap.size,0,none⟩) 1 1)].map fun x=>[x.2])/\∀x∈[((⟨1,[64],true⟩:Prt)::[],Value.slice (some ⟨W.heap.size,0,none⟩) 1 1)],PRm W0 [(W.heap.size+1,.cells #[.slice (some ⟨W.heap.size,0,none⟩) 1 1] 29 (0,0)),(W.heap.size,.cells #[.int .i64 1,.string ⟨#[64]⟩,.bool true] 118 (0,0))] x.2 x.1):=yh ⟨RowM.one (cs:=[.slice (some ⟨W.heap.size,0,none⟩) 1 1]) m0 (Nat.le_refl _),fun x hx=>by rw[List.mem_singleton.1 hx];exact RowM.one (cs:=[.int .i64 1,.string ⟨#[64]⟩,.bool true]) m1 (Nat.le_refl _)⟩
        cases k6<;>cases k3<;>first
        | (have HNE7:=yh (hne7.out rfl)
           go_wp2_with (first|(with_reducible refine zS ?_;intro W hL hF)|(go_at_call 52;refine aj ?_;clear hF hL;intro W hL;simp only[kfb]at hL;have hF:=hL.fx;(with_reducible refine(eC E b j1 vj1 (d:Int) _ (ag HB0.out hL HXB.out) hbb Hvj1 hL.h2 ⟨#[59]⟩ _ HK6).mono ?_);rintro e W ⟨rfl,hb⟩;replace hL:=hL.below hb;clear hb hF;have hF:=hL.fx)|(go_at_call 53;(with_reducible refine zM (fun W hL=>ea E b j1 vj1 (d:Int) _ (ag HB0.out hL HXB.out) hbb Hvj1 hL.h2 HNE7.out) ?_);rintro W hL e W ⟨x1,pa1,pn1,pc1,vj5,rfl,HTX5,HVJ5,hb⟩;replace hL:=hL.jn 2 hb;clear hb;have hF:=hL.fx))
           go_meet
           case rel=>exact⟨j1+1,vj5,_,_,_,_,_,HVJ5,yh (by rw[HB7.out];simp only[bE];rfl),HR9,by refine Kn.name ?_;clear hL;intro hL;exact hL.pm⟩)
        | (go_wp2_with (first|(with_reducible refine zS ?_;intro W hL hF)|(go_at_call 52;refine aj ?_;clear hF hL;intro W hL;simp only[kfb]at hL;have hF:=hL.fx;(with_reducible refine(eC E b j1 vj1 (d:Int) _ (ag HB0.out hL HXB.out) hbb Hvj1 hL.h2 ⟨#[59]⟩ _ HK6).mono ?_);rintro e W ⟨rfl,hb⟩;replace hL:=hL.below hb;clear hb hF;have hF:=hL.fx))
           go_meet
           case rel=>exact⟨j1,vj1,_,_,_,_,_,Hvj1,yh (by rw[HB7.out];rfl),HR9,by refine Kn.name ?_;clear hL;intro hL;exact hL.pm⟩)
      · rw[if_pos rfl,bE]at HB8
        have HNE1:=yh (kk hk5);have HB7:=yh HB8;clear HB8 hk6 HK6;go_wp2_with (first|(with_reducible refine zS ?_;intro W hL hF)|(go_at_call 86;refine zC (fun W hL=>cK E b j1 vj1 (d:Int) _ (ag HB0.out hL HXB.out) hbb Hvj1 hL.h1 _ 0 1 _ [⟨#[105,110]⟩] _ HK5 (yh rfl) (by omega) (b8 (ff hL m0)) (by(exact fg hL m0))) ?_;intro W hL hF;replace hL:=hL.drop1;clear hF;have hF:=hL.fx)|(go_at_call 53;(with_reducible refine zM (fun W hL=>ea E b j1 vj1 (d:Int) _ (ag HB0.out hL HXB.out) hbb Hvj1 hL.h0 HNE1.out) ?_);rintro W hL e W ⟨x1,pa1,pn1,pc1,vj2,rfl,HTX1,HVJ2,hb⟩;replace hL:=hL.jn 0 hb;clear hb;have hF:=hL.fx))
        have hj2:=HVJ2.out.1;go_loopg [] (tvs.length-(j1+1)) (fun n wr=>∃(j:Nat) (vj:Value) (wv:List (List Prt×Value)) (aw:Option Addr) (cw:Nat) (LW:List (Nat×Obj)),n=tvs.length-j/\Hid (AtV g o cap tvs j vj)/\Hid (aE ((TT tvs).drop (j1+1))=(wv.map (·.1)++(aE ((TT tvs).drop j)).1,(aE ((TT tvs).drop j)).2))/\Hid (RowL 1 29 LW (.slice aw wv.length cw) wv.length (wv.flatMap fun x=>[x.2]))/\Hid (∀x∈wv,PRm W0 [] x.2 x.1)/\wv.length<=j/\j<tvs.length/\Kn [b] w wr ((b,.cells #[vj,.int .i64 (d:Int)] 73 (0,0))::(W1.heap.size,.cells #[.int .i64 11,.string ⟨x.1.plain.toArray⟩,.bool false,.slice none 0 0,.slice aw wv.length cw,.slice none 0 0,.slice none 0 0] 41 (0,0))::(w.heap.size,.cells #[.int .i64 0,.string ⟨#[]⟩,.bool false,.slice none 0 0,.slice none 0 0,.slice none 0 0,.slice none 0 0] 41 (0,0))::LW))
        case atStart=>exact⟨j1+1,vj2,[],none,0,[],rfl,HVJ2,yh rfl,yh RowL.nil,yh (by simp),Nat.zero_le _,hj2,by refine Kn.name ?_;clear hL;intro hL;exact hL.pm⟩
        case round=>
          clear hL;obtain⟨j,vj,wv,aw,cw,LW,rfl,Hvj,HF,HRW,HPW,hsz,hjl,hL⟩:=hrel;have hF:=hL.fx;obtain⟨y,pa9,pn9,pc9,hx9,hx29⟩:=E.tok Hvj.out;have HX9:=yh hx9;have HX29:=yh hx29;obtain⟨f09,f19,f29,f39,f49,f59⟩:=tkF y.1.kind y.1.fd y.1.line ⟨y.1.text.toArray⟩ ⟨y.1.plain.toArray⟩ pa9 pn9 pc9;clear hx9 hx29;obtain⟨k0,hk0⟩:∃z:Bool,((y.1.kind:Int)==0)=z:=⟨_,rfl⟩;have HFW:=yh (BS E HX9.out);rw[hk0]at HFW;have H49:Hid (k0=true->y.1.kind≠4):=yh (fun h e4=>by rw[e4]at hk0;rw[h]at hk0;cases hk0)
          cases k0
          · have HF5:Hid (aE ((TT tvs).drop (j1+1))=(wv.map (·.1),(TT tvs).drop j)):=yh (by have h8:=HFW.out;rw[if_neg (by decide)]at h8;rw[HF.out,h8];simp)
            obtain⟨k6,hk6⟩:∃z:Bool,aS [59] ((TT tvs).drop j)=z:=⟨_,rfl⟩;have HK6:Hid (aS (⟨#[59]⟩:ByteArray).data.toList ((TT tvs).drop j)=k6):=yh hk6;obtain⟨k7,hk7⟩:∃z:Bool,((y.1.kind:Int) != 3)=z:=⟨_,rfl⟩;have HK7:Hid (isK 3 ((TT tvs).drop j)= !k7):=yh (by rw[mE E HX9.out 3 (by omega),<- hk7];exact(Bool.not_not _).symm);have HB4:Hid (PL=if k6|| !k7 then cf so x.1.plain (wv.map (·.1)) ((TT tvs).drop (j+1))else syn ((TT tvs).drop j)):=yh (by rw[HB7.out];unfold gV;rw[HF5.out];simp only;rw[hk6,HK7.out,bE]);have HNE5:Hid ((k6|| !k7)=true->(TT tvs).drop j≠[]):=yh (fun h=>by
              cases hq:k6 with
              |true=>exact eW (by rw[hk6];exact hq)
              |false=>rw[hq]at h;exact qj (by rw[HK7.out];simpa using h))
            have HR9:Hid (RowM 1 W0 LW (.slice aw wv.length cw) (wv.map fun x=>[x.2])/\∀x∈wv,PRm W0 LW x.2 x.1):=yh ⟨RowL.rowM (fun _=>rfl) HRW.out fun p hp=>hp,fun x hx=>(HPW.out x hx).mono fun p hp=>by cases hp⟩;obtain⟨m,hm⟩:∃m,m=((TT tvs).drop j).length:=⟨_,rfl⟩;have Hm:=yh hm;clear hm;clear hk6
            cases k6<;>cases k7<;>first
            | (have HB5:=HB4.out
               rw[if_pos (by decide)]at HB5;have HB3:=yh HB5;have HNE6:=yh (HNE5.out (by decide));clear HB4 HB5 HNE5;go_wp2_with (first|(with_reducible refine zS ?_;intro W hL hF)|(go_at_call 27;refine zC (fun W hL=>aL E b j vj (d:Int) _ (ag HB0.out hL HXB.out) hbb Hvj hL.h0 HX9.out pa9 pn9 pc9 HX29.out) ?_;intro W hL hF)|(go_at_call 52;(with_reducible refine zM (fun W hL=>eC E b j vj (d:Int) _ (ag HB0.out hL HXB.out) hbb Hvj hL.h0 ⟨#[59]⟩ _ HK6) ?_);rintro W hL e W ⟨rfl,hb⟩;replace hL:=hL.below hb;clear hb;skip;have hF:=hL.fx)|(go_at_call 53;(with_reducible refine zM (fun W hL=>ea E b j vj (d:Int) _ (ag HB0.out hL HXB.out) hbb Hvj hL.h0 HNE6.out) ?_);rintro W hL e W ⟨x1,pa1,pn1,pc1,vj5,rfl,HTX5,HVJ5,hb⟩;replace hL:=hL.jn 0 hb;clear hb;have hF:=hL.fx))
               go_meet
               case rel=>exact⟨j+1,vj5,wv,aw,wv.length,cw,LW,HVJ5,HB3,HR9,by refine Kn.name ?_;clear hL;intro hL;exact hL.pm⟩)
            | (have HB5:=HB4.out
               rw[if_neg (by decide)]at HB5;have HB3:Hid (PL=.bad 1 m):=yh (by rw[HB5,Hm.out];rfl);clear HB4 HB5 HNE5;go_wp2_with (first|(with_reducible refine zS ?_;intro W hL hF)|(go_at_call 27;refine zC (fun W hL=>aL E b j vj (d:Int) _ (ag HB0.out hL HXB.out) hbb Hvj hL.h0 HX9.out pa9 pn9 pc9 HX29.out) ?_;intro W hL hF)|(go_at_call 52;(with_reducible refine zM (fun W hL=>eC E b j vj (d:Int) _ (ag HB0.out hL HXB.out) hbb Hvj hL.h0 ⟨#[59]⟩ _ HK6) ?_);rintro W hL e W ⟨rfl,hb⟩;replace hL:=hL.below hb;clear hb;skip;have hF:=hL.fx)|(go_at_call 28;(with_reducible refine zM (fun W hL=>fW E b j vj d _ (ag HB0.out hL HXB.out) hbb Hvj hL.h0 27 d 1 (yh rfl) m Hm) ?_);rintro W hL e W ⟨vj5,dj,rfl,hb⟩;replace hL:=hL.jn 0 hb;clear hb;have hF:=hL.fx))
               refine⟨rfl,?_⟩;rw[HB3.out];exact⟨vj5,dj,rfl,hL.pm⟩)
          · have H4:=yh (H49.out rfl)
            have HPT:=yh (fh E (List.mem_of_getElem? HX9.out) (L:=[]));rw[HX29.out]at HPT;go_wp2_with (first|(with_reducible refine zS ?_;intro W hL hF)|(go_at_call 27;refine zC (fun W hL=>aL E b j vj (d:Int) _ (ag HB0.out hL HXB.out) hbb Hvj hL.h0 HX9.out pa9 pn9 pc9 HX29.out) ?_;intro W hL hF)|((with_reducible refine af 12 ?_);refine zX [0,1,2,3,4,5,6,7,8] [6,8] ?_ (sD (sC sN));clear hF hL;intro ι F hne hC hG;(repeat(first|(refine cS ?_)|((first|refine cF hC ?_|refine cP ?_);intro K hK;go_big_quiet_op;go_big_quiet_on)|(refine cD ?_;intro W hL hF;go_at_call 53;(with_reducible refine(eE E b j vj (d:Int) _ (ag HB0.out hL HXB.out) hbb Hvj hL.h0 HX9.out pa9 pn9 pc9 HX29.out H4.out).mono ?_);rintro e W ⟨rfl,vj5,HVJ5,hb⟩;replace hL:=hL.jn 0 hb;clear hb hF;have hF:=hL.fx;refine bM ?_;((refine a_ _ (by repeat' (first|(with_reducible exact List.nil_sublist _)|(with_reducible apply List.Sublist.cons_cons)|(with_reducible apply List.Sublist.cons))) ?_;clear hL hF));simp only[Act.put,zT])|(refine cM ?_;intro W hL hF;at_builtin;(refine ah rfl _ _ 37 37 rfl [_,_,_,_] LW hL wv.length 1 (wv.flatMap fun x=>[x.2]) [.slice pa9 pn9 pc9] _ _ HRW.out rfl rfl (fun ho=>ej rfl (fun j u hu=>by rw[Go.WideShapes.add_plain,Nat.zero_add,aK hL m0];simpa using hu) (by intro u hu;simp only[List.mem_cons,List.not_mem_nil,or_false]at hu;subst hu;rfl) (by omega) ho) ?_);intro LP3 a3 c3 W3 hL2 hr3;clear hL hF;have hL:=hL2;clear hL2;simp only[List.append_eq,List.cons_append,List.nil_append]at hL;have hF:=hL.fx;go_wp2;refine zB2 ?_;clear hL hF hC hG;intro ι F hne hC hG)|(refine cM ?_;intro W hL hF;go_wp2;refine ai ?_;(first|(refine bO _ (by rfl) ?_;clear hL hF hC hG;intro ι F hne hC hFF;have hG:=fun n=>(hFF n).fx;clear hFF)|(refine a_ _ (by repeat' (first|(with_reducible exact List.nil_sublist _)|(with_reducible apply List.Sublist.cons_cons)|(with_reducible apply List.Sublist.cons))) ?_;clear hL hF)))));refine zN ?_;clear hC hG;intro W hL hF))
            have hj5:=HVJ5.out.1;go_roundg (tvs.length-(j+1))
            case measure=>omega
            case rel=>exact⟨j+1,vj5,wv++[(y.1.parts,.slice pa9 pn9 pc9)],a3,c3,LP3,rfl,HVJ5,yh (by have h8:=HFW.out;rw[if_pos trivial]at h8;rw[HF.out,h8];simp),yh (by simpa using hr3),yh (bY HPW.out HPT.out),by simp only[List.length_append,List.length_singleton];omega,hj5,by refine Kn.name ?_;clear hL;intro hL;simp only[List.length_append,List.length_singleton];exact hL.pm⟩
    case rest=>
      clear hL HB0_ hk5 hk6 hk3 HK5 HK6 HK3;obtain⟨j,vj,ws,aw,nw,cw,LW,Hvj,HB7,HRW,hL⟩:=hcut;have hF:=hL.fx;have hjl:=Hvj.out.1;go_upto_region 17 with((go_at_call 49;(with_reducible refine zM (fun W hL=>dT E b j vj d _ (ag HB0.out hL HXB.out) hbb Hvj hL.h0) ?_);rintro W hL e W ⟨j2,vj2,rfl,HJ2,hb⟩;replace hL:=hL.jn 0 hb;clear hb;have hF:=hL.fx))
      have Hvj2:=yh HJ2.out.2.1;have HB2:=HB7.out;unfold cf at HB2;rw[HJ2.out.2.2]at HB2;have HW1:=yh (fun W hB hb=>eb E b j2 vj2 d W hB hbb Hvj2 hb ⟨#[100,111]⟩)
      cases hw:aW kDo ((TT tvs).drop j2)with
      |bad er m2=>
        rw[show aW (⟨#[100,111]⟩:ByteArray).data.toList ((TT tvs).drop j2)=_ from hw]at HW1;replace HB2:=yh (bH HB2 hw);clear hw;go_wp2_with (first|(with_reducible refine zS ?_;intro W hL hF)|(go_at_call 144;(with_reducible refine zM (fun W hL=>HW1.out _ (ag HB0.out hL HXB.out) hL.h0) ?_);rintro W hL e W ⟨vj2,dj,rfl,hb⟩;replace hL:=hL.jn 0 hb;clear hb;have hF:=hL.fx))
        refine⟨rfl,?_⟩;rw[HB2.out];exact⟨vj2,dj,rfl,hL.pm⟩
      |ok u r3=>
        rw[show aW (⟨#[100,111]⟩:ByteArray).data.toList ((TT tvs).drop j2)=_ from hw]at HW1;replace HB2:=cx HB2 hw;clear hw;replace HB2:=yh HB2;go_upto_region 18 with((go_at_call 144;(with_reducible refine zM (fun W hL=>HW1.out _ (ag HB0.out hL HXB.out) hL.h0) ?_);rintro W hL e W ⟨_,j3,vj3,rfl,rfl,HJ3,hb⟩;replace hL:=hL.jn 0 hb;clear hb;have hF:=hL.fx))
        have Hvj3:=yh HJ3.out.1;have HB3:=HB2.out;rw[HJ3.out.2]at HB3;have HCJ:=yh (fun W hB hb=>HCC.out b j3 vj3 W hB hbb Hvj3 hb)
        cases hc:so ((TT tvs).drop j3)with
        |bad er m2=>
          rw[hc]at HCJ;replace HB3:=yh (bH HB3 hc);clear hc;go_wp2_with (first|(with_reducible refine zS ?_;intro W hL hF)|(go_at_call 162;(with_reducible refine zM (fun W hL=>HCJ.out _ (ag HB0.out hL HXB.out) hL.h0) ?_);rintro W hL e W ⟨vj2,dj,rfl,hb⟩;replace hL:=hL.jn 0 hb;clear hb;have hF:=hL.fx))
          refine⟨rfl,?_⟩;rw[HB3.out];exact⟨vj2,dj,rfl,hL.pm⟩
        |ok n r4=>
          rw[hc]at HCJ;replace HB3:=yh (cx HB3 hc);clear hc;go_upto_region 19 with((go_at_call 162;(with_reducible refine zM (fun W hL=>HCJ.out _ (ag HB0.out hL HXB.out) hL.h0) ?_);rintro W hL e W ⟨nm2,aa2,na2,ca2,aw2,nw2,cw2,ar2,nr2,cr2,ak2,nk2,ck2,LN,j4,vj4,rfl,HN,HJ4,hb⟩;replace hL:=hL.jn 0 hb;clear hb;have hF:=hL.fx;replace hL:=hL.inP;clear hF;have hF:=hL.fx;obtain⟨W2,rfl⟩:∃W2:World,W2=W:=⟨_,rfl⟩))
          refine zE ?_;intro W hL hF;have Hvj4:=yh HJ4.out.1;have HB4:=HB3.out;rw[HJ4.out.2]at HB4;have HW2:=yh (fun W hB hb=>eb E b j4 vj4 d W hB hbb Hvj4 hb ⟨#[100,111,110,101]⟩)
          cases hw:aW dw ((TT tvs).drop j4)with
          |bad er m2=>
            rw[show aW (⟨#[100,111,110,101]⟩:ByteArray).data.toList ((TT tvs).drop j4)=_ from hw]at HW2;replace HB4:=yh (bH HB4 hw);clear hw;go_wp2_with (first|(with_reducible refine zS ?_;intro W hL hF)|(go_at_call 144;(with_reducible refine zM (fun W hL=>HW2.out _ (ag HB0.out hL HXB.out) hL.h1) ?_);rintro W hL e W ⟨vj2,dj,rfl,hb⟩;replace hL:=hL.jn 1 hb;clear hb;have hF:=hL.fx))
            refine⟨rfl,?_⟩;rw[HB4.out];exact⟨vj2,dj,rfl,hL.pm⟩
          |ok u r5=>
            rw[show aW (⟨#[100,111,110,101]⟩:ByteArray).data.toList ((TT tvs).drop j4)=_ from hw]at HW2;replace HB4:=yh (cx HB4 hw);clear hw;go_wp2_with (first|(with_reducible refine zS ?_;intro W hL hF)|(go_at_call 144;(with_reducible refine zM (fun W hL=>HW2.out _ (ag HB0.out hL HXB.out) hL.h1) ?_);rintro W hL e W ⟨_,j5,vj5,rfl,rfl,HJ5,hb⟩;replace hL:=hL.jn 1 hb;clear hb;have hF:=hL.fx))
            refine zF ?_;intro W hL hF;refine bodyPost_ret (by simp[results,Tryz.results141,go_sem, *];try rfl) rfl ?_;rw[HB4.out,HJ5.out.2];exact vL HN.out HRW.out.1 HRW.out.2 HJ5.out.1 hL.pm
theorem Kn.rotL{X:List Nat}{w0 W:World}{p0:Nat×Obj}{LP R:List (Nat×Obj)}(h:Kn X w0 W (p0::(LP++R))):Kn X w0 W (p0::(R++LP)):=h.perm fun p=>by simp only[List.countP_cons,List.countP_append];omega
theorem vM(bk:Blk):∀W:World,(binOp .eql 149 (kF (some bk)) .nilFunc).run Tryz.prog W=.ok (.bool false) W:=fun W=>by cases bk<;>kernel_rfl
theorem vN(bk:Blk)(x y:Operand):∀W:World,(eqGuard .eql 149 x y (kF (some bk)) .nilFunc).run Tryz.prog W=.ok () W:=fun W=>by cases bk<;>kernel_rfl
theorem yt:∀W:World,(binOp .eql 149 .nilFunc .nilFunc).run Tryz.prog W=.ok (.bool true) W:=fun W=>by kernel_rfl
theorem yv{W0:World}{b d j g o cap gq:Nat}{tvs:List (Tok×Value)}{w W:World}{vj:Value}{nm9:ab}{y:Nd}{nm:ByteArray}{aa:Option Addr}{na:Nat}{ca:Nat}{aw:Option Addr}{nw:Nat}{cw:Nat}{ar:Option Addr}{nr:Nat}{cr:Nat}{ak:Option Addr}{nk:Nat}{ck:Nat}{LN:List (Nat×Obj)}(HN:NodeL W0 LN y [.int .i64 (y.kind:Int),.string nm,.bool y.neg,.slice aa na ca,.slice aw nw cw,.slice ar nr cr,.slice ak nk ck])(Hvj:AtV g o cap tvs j vj)
  (hL:Kn [b] w W ((b,.cells #[vj,.int .i64 (d:Int)] 73 (0,0))::(gq,.cells #[.int .i64 (y.kind:Int),.string nm,.bool y.neg,.slice aa na ca,.slice aw nw cw,.slice ar nr cr,.slice ak nk ck] 41 (0,0))::LN)):
  db W0 b d g o cap tvs w (.ok (.mk 14 nm9 false [] [] [] [y]) ((TT tvs).drop j)) (.returned (.agg #[.int .i64 14,.string ⟨nm9.toArray⟩,.bool false,.slice none 0 0,.slice none 0 0,.slice none 0 0,.slice (some ⟨gq,0,none⟩) 1 1])) W:=
 ⟨⟨nm9.toArray⟩,none,0,0,none,0,0,none,0,0,some ⟨gq,0,none⟩,1,1,_,j,vj,rfl,yh (NodeL.one (name:=nm9) (HN.mono fun p hp=>List.mem_cons_of_mem _ hp) m0 (Nat.le_refl _)),yh ⟨Hvj,rfl⟩,hL⟩
theorem qN{W0:World}{g o cap:Nat}{tvs:List (Tok×Value)}(E:PEnv W0 g o cap tvs){d:Nat}(hd:d<20){comp:Blk->Pa Nd}(HC:jw W0 g o cap tvs (d+1) comp):AZ W0 g o cap tvs d (fnP (some comp)):=by
  intro b i v w hB hbb hv hb hfn;obtain⟨PL,hpl⟩:∃p:PR Nd,ia comp ((TT tvs).drop i)=p:=⟨_,rfl⟩;show Calls _ _ _ _ (db W0 b d g o cap tvs w (ia comp ((TT tvs).drop i)))
  rw[hpl];have HCC:=yh HC;obtain⟨x,pa,pn,pc,hx,hx2⟩:=E.tok hv.out;have HX:=yh hx;have HX2:=yh hx2;obtain⟨f0,f1,f2,f3,f4,f5⟩:=tkF x.1.kind x.1.fd x.1.line ⟨x.1.text.toArray⟩ ⟨x.1.plain.toArray⟩ pa pn pc;clear hx hx2;have hf9:=rE E HX.out;rw[hfn]at hf9;have hf9:=hf9.symm;simp only[Bool.and_eq_true]at hf9;obtain⟨⟨hkx,hnx⟩,hop⟩:=hf9;have h4x:x.1.kind≠4:=fun e=>by rw[e]at hkx;cases hkx
  have hi2:i+2<tvs.length:=by
    rcases bI E HX.out with h|h
    · exact absurd h.2.1 h4x
    · obtain⟨y,hy⟩:∃y,tvs[i+1]? =some y:=⟨_,List.getElem?_eq_getElem h.2.2⟩
      rcases bI E hy with h2|h2
      · rw[h2.1]at hop;cases hop
      · exact h2.2.2
  obtain⟨z,hz⟩:∃z,tvs[i+2]? =some z:=⟨_,List.getElem?_eq_getElem hi2⟩;obtain⟨paz,pnz,pcz,hzp⟩:∃a n c,z.2=.slice a n c:=by obtain⟨a,n,c,h,_⟩:=(E.parts z (List.mem_of_getElem? hz)).2;exact⟨a,n,c,h⟩
  have hcz:=gn E hB hz paz pnz pcz hzp;have hcd:=fun(k:Nat)=>show o+(i+2)*6+k=o+i*6+12+k by omega
  obtain⟨hz0,hz1,hz2,hz3,hz4,hz5⟩:=hcz;rw[hcd]at hz1 hz2 hz3 hz4 hz5;rw[show o+(i+2)*6=o+i*6+12 by omega]at hz0;have hgl:=aI hz0;have hgb:g≠b:=by have:=aI (gn E (Below.refl _ W0) hz paz pnz pcz hzp).1;omega
  obtain⟨kz,hkz⟩:∃k:Bool,((z.1.kind:Int)==1)=k:=⟨_,rfl⟩;obtain⟨tz,htz⟩:∃k:Bool,(z.1.text==[41])=k:=⟨_,rfl⟩;have hkz2:((z.1.kind:Int) != 1)= !kz:=by rw[<- hkz];rfl
  have htz2:(z.1.text != [41])= !tz:=by rw[<- htz];rfl
  have hz41:aS [41] ((TT tvs).drop (i+2))=(kz&&tz):=by rw[rz E hz,hkz,htz]
  have hpl2:PL=if(kz&&tz)=true then(match bU (au ((TT tvs).drop (i+3)))with
      |none=>syn (au ((TT tvs).drop (i+3)))
      |some bk=>(comp bk (au ((TT tvs).drop (i+3)))).bind fun y r=>.ok (.mk 14 x.1.plain false [] [] [] [y]) r)else syn ((TT tvs).drop (i+2)):=by
    rw[<- hpl,<- hz41];rcases bI E HX.out with h|h
    · exact absurd h.2.1 h4x
    · rw[h.1]
      simp only[ia,bE];rfl
  have HPL:=yh hpl2;have H4X:=yh h4x;have hwo:aW [40] ((TT tvs).drop (i+1))=.ok () ((TT tvs).drop (i+2)):=by unfold aW;rw[hop];simp only[Bool.true_or,if_true,bE]
  have hwc:(kz&&tz)=true->aW [41] ((TT tvs).drop (i+2))=.ok () ((TT tvs).drop (i+3)):=fun h=>by unfold aW;rw[hz41,h];simp only[Bool.true_or,if_true,bE]
  have HWO:=yh hwo;have HWCL:=yh hwc;have HLZ:Hid (∀m,m=((TT tvs).drop (i+2)).length->fp tvs m=z.1.line):=yh fun m hm=>mF hz m hm
  have hve:=hv.out.2;have hlen:=E.len;have hmx:=E.max;obtain⟨n9,hn9⟩:∃n,tvs.length-i=n:=⟨_,rfl⟩;obtain⟨c9,hc9⟩:∃n,cap-i=n:=⟨_,rfl⟩;obtain⟨q9,hq9⟩:∃n,o+i*6=n:=⟨_,rfl⟩;rw[hn9,hc9,hq9]at hve;rw[hq9]at hz0 hz1 hz2 hz3 hz4 hz5;have HVE:=yh hve;have HN9:=yh hn9;have q1:wrap64 ((n9:Int)-1)=((n9-1:Nat):Int):=by rw[show(n9:Int)-1=((n9-1:Nat):Int) by omega];exact IntWalk.wrap64_in _ (by omega)
  have q2:2<n9:=by omega
  have q3:¬((n9-1:Nat):Int)<2:=by omega
  have q6:min (2:Int) ((n9-1:Nat):Int)=2:=by omega
  clear hn9 hc9 hq9 hve;clear hf9 hkx hnx hz hop hcd hzp HC hfn hpl hpl2 h4x hwo hwc hz41;have HB0:=yh hB;have HXB:=yh (xb hbb);have hL:Kn [b] w w [(b,.cells #[v,.int .i64 (d:Int)] 73 (0,0))]:=Kn.one hb;have HBS:=yh hb;clear hB hb;have hF:=hL.fx;go_enter_defers Tryz.func122,Tryz.ntmps122;go_upto_region 2 with((go_at_call 143;(with_reducible refine zM (fun W hL=>kI E b i v d _ (ag HB0.out hL HXB.out) hbb hv hL.h1 hd) ?_);rintro W hL e W ⟨c,rfl,hb⟩;replace hL:=hL.jn 1 hb;clear hb;have hF:=hL.fx))
  rw[HVE.out]at hL;clear hF;have hF:=hL.fx;go_upto_region 3 with((with_reducible refine af 2 ?_);refine zX [0,1,2,3,4,5,6,7,8,9,10,11,12,13,14] [14] ?_;clear hF hL;intro ι F hne hC hG;(repeat(first|((first|refine cF hC ?_|refine cP ?_);intro K hK;go_big_quiet_op;go_big_quiet_on)|(refine cM ?_;intro W hL hF;go_wp2;(first|(refine zB2 ?_;clear hL hF hC hG;intro ι F hne hC hG)|(refine zO2 ?_;clear hL hF)))));refine zN ?_;clear hC hG;intro W hL hF)
  have Hv9:Hid (AtV g o cap tvs i (.slice (some ⟨g,q9,none⟩) n9 c9)):=yh (by rw[<- HVE.out];exact hv.out);obtain⟨m,hm⟩:∃m,m=((TT tvs).drop (i+2)).length:=⟨_,rfl⟩;have Hm:=yh hm;clear hm
  cases hkt:(kz&&tz)with
  |false=>
    have HB9:Hid (PL=.bad 1 m):=yh (by rw[HPL.out,hkt,if_neg (by decide),Hm.out];rfl);clear HPL
    cases kz<;>cases tz<;>first
    | (exfalso;exact absurd hkt (by decide))
    | (clear hkt
       go_wp2;refine fj (v:=(.slice (some ⟨g,q9,none⟩) n9 c9)) (dj:=((d+1:Nat):Int)) (show Kn [b] w _ [(b,.cells #[(.slice (some ⟨g,q9,none⟩) n9 c9),.int .i64 ((d+1:Nat):Int)] 73 (0,0)),(c,.cells #[.pointer (some ⟨b,0,none⟩)] 71 (0,0))]from hL.pm) rfl ?_;intro W' dj' hL';show db W0 b d g o cap tvs w PL _ _
       rw[HB9.out];refine⟨_,dj',?_,hL'⟩;rw[HLZ.out _ Hm.out];rfl)
  |true=>
    obtain⟨rfl,rfl⟩:kz=true/\tz=true:=by cases kz<;>cases tz<;>first|exact⟨rfl,rfl⟩|cases hkt
    have HB9:=HPL.out;rw[if_pos (by rfl)]at HB9;have HWC2:=yh (HWCL.out rfl);clear HPL HWCL hkt;go_upto_region 6 with((go_at_call 53;(with_reducible refine zM (fun W hL=>eE E b i _ ((d+1:Nat):Int) _ (ag HB0.out hL HXB.out) hbb Hv9 hL.h1 HX.out pa pn pc HX2.out H4X.out) ?_);rintro W hL e W ⟨rfl,vj1,HVJ1,hb⟩;replace hL:=hL.jn 1 hb;clear hb;have hF:=hL.fx;obtain⟨W1,rfl⟩:∃W1:World,W1=W:=⟨_,rfl⟩))
    refine zE ?_;intro W hL hF;have HW1:=yh (fun W hB hb=>eb E b (i+1) vj1 (d+1) W hB hbb HVJ1 hb ⟨#[40]⟩);rw[show aW (⟨#[40]⟩:ByteArray).data.toList ((TT tvs).drop (i+1))=_ from HWO.out]at HW1;go_upto_region 7 with((go_at_call 144;(with_reducible refine zM (fun W hL=>HW1.out _ (ag HB0.out hL HXB.out) hL.h1) ?_);rintro W hL e W ⟨_,j3,vj3,rfl,rfl,HJ3,hb⟩;replace hL:=hL.jn 1 hb;clear hb;have hF:=hL.fx))
    have Hvj3:=yh HJ3.out.1;have hwc3:=HWC2.out;rw[HJ3.out.2]at hwc3;have HW2:=yh (fun W hB hb=>eb E b j3 vj3 (d+1) W hB hbb Hvj3 hb ⟨#[41]⟩);rw[show aW (⟨#[41]⟩:ByteArray).data.toList ((TT tvs).drop j3)=_ from hwc3]at HW2;clear hwc3;go_upto_region 8 with((go_at_call 144;(with_reducible refine zM (fun W hL=>HW2.out _ (ag HB0.out hL HXB.out) hL.h0) ?_);rintro W hL e W ⟨_,j4,vj4,rfl,rfl,HJ4,hb⟩;replace hL:=hL.jn 0 hb;clear hb;have hF:=hL.fx))
    have Hvj4:=yh HJ4.out.1;go_upto_region 9 with((go_at_call 49;(with_reducible refine zM (fun W hL=>dT E b j4 vj4 (d+1) _ (ag HB0.out hL HXB.out) hbb Hvj4 hL.h0) ?_);rintro W hL e W ⟨j5,vj5,rfl,HJ5,hb⟩;replace hL:=hL.jn 0 hb;clear hb;have hF:=hL.fx))
    have Hvj5:=yh HJ5.out.2.1;rw[HJ4.out.2,HJ5.out.2.2]at HB9;obtain⟨m5,hm5⟩:∃m5,m5=((TT tvs).drop j5).length:=⟨_,rfl⟩;have Hm5:=yh hm5;clear hm5;have HBL:=yh (fun W hB hb=>gP E b j5 vj5 (d+1) W hB hbb Hvj5 hb)
    cases hbo:bU ((TT tvs).drop j5)with
    |none=>
      rw[hbo]at HB9 HBL;simp only[show kF none=Value.nilFunc from rfl]at HBL;have HB8:Hid (PL=.bad 1 m5):=yh (by rw[HB9,Hm5.out];rfl);have hq0:=yt;clear HB9;go_wp2_with (first|(with_reducible refine zS ?_;intro W hL hF)|(go_at_call 119;refine zC (fun W hL=>HBL.out _ (ag HB0.out hL HXB.out) hL.h0) ?_;intro W hL hF)|(go_at_call 28;(with_reducible refine zM (fun W hL=>fW E b j5 vj5 ((d+1:Nat):Int) _ (ag HB0.out hL HXB.out) hbb Hvj5 hL.h0 27 (d+1) 1 (yh rfl) m5 Hm5) ?_);rintro W hL e W ⟨vj6,dj,rfl,hb⟩;replace hL:=hL.jn 0 hb;clear hb;have hF:=hL.fx))
      refine fj (v:=vj6) (dj:=dj) (show Kn [b] w _ [(b,.cells #[vj6,.int .i64 dj] 73 (0,0)),(c,.cells #[.pointer (some ⟨b,0,none⟩)] 71 (0,0))]from hL.pm) rfl ?_;intro W' dj' hL';show db W0 b d g o cap tvs w PL _ _;rw[HB8.out];exact⟨vj6,dj',rfl,hL'⟩
    |some bk=>
      rw[hbo]at HB9 HBL;have HB8:Hid (PL=(comp bk ((TT tvs).drop j5)).bind fun y r=>.ok (.mk 14 x.1.plain false [] [] [] [y]) r):=yh HB9;have HNE5:=fv hbo;have HCJ:=yh (fun W hB hb=>HCC.out bk b j5 vj5 W hB hbb Hvj5 hb HNE5);have hq1:=vM bk;have hq2:=vN bk;obtain⟨bv,hbv⟩:∃z,kF (some bk)=z:=⟨_,rfl⟩;rw[hbv]at HBL HCJ hq1;simp only[hbv]at hq2;clear HNE5 hbo HB9 hbv
      cases hc:comp bk ((TT tvs).drop j5)with
      |bad er m2=>
        rw[hc]at HCJ;have HB7:=yh (bH HB8.out hc);clear hc;go_wp2_with (first|(with_reducible refine zS ?_;intro W hL hF)|(go_at_call 119;refine zC (fun W hL=>HBL.out _ (ag HB0.out hL HXB.out) hL.h0) ?_;intro W hL hF)|(go_at_call 120;(with_reducible refine zM (fun W hL=>HCJ.out _ (ag HB0.out hL HXB.out) hL.h0) ?_);rintro W hL e W ⟨vj6,dj,rfl,hb⟩;replace hL:=hL.jn 0 hb;clear hb;have hF:=hL.fx))
        refine fj (v:=vj6) (dj:=dj) (show Kn [b] w _ [(b,.cells #[vj6,.int .i64 dj] 73 (0,0)),(c,.cells #[.pointer (some ⟨b,0,none⟩)] 71 (0,0))]from hL.pm) rfl ?_;intro W' dj' hL';show db W0 b d g o cap tvs w PL _ _;rw[HB7.out];exact⟨vj6,dj',rfl,hL'⟩
      |ok y r=>
        rw[hc]at HCJ;have HB7:=yh (cx HB8.out hc);clear hc;go_upto_region 13 with(first|(go_at_call 119;refine zC (fun W hL=>HBL.out _ (ag HB0.out hL HXB.out) hL.h0) ?_;intro W hL hF)|(go_at_call 120;(with_reducible refine zM (fun W hL=>HCJ.out _ (ag HB0.out hL HXB.out) hL.h0) ?_);rintro W hL e W ⟨nm,aa,na,ca,aw,nw,cw,ar,nr,cr,ak,nk,ck,LN,j6,vj6,rfl,HN,HJ6,hb⟩;replace hL:=hL.jn 0 hb;clear hb;have hF:=hL.fx;replace hL:=hL.rotL;clear hF;simp only[kfb]at hL;have hF:=hL.fx;obtain⟨W2,rfl⟩:∃W2:World,W2=W:=⟨_,rfl⟩))
        go_wp2;refine dq ?_;clear hF hL;intro W hL;simp only[kfb]at hL;have hF:=hL.fx;simp only[bodyPostD];refine jR (by omega) (show Kn [b] w W ((b,.cells #[vj6,.int .i64 ((d+1:Nat):Int)] 73 (0,0))::(c,.cells #[.pointer (some ⟨b,0,none⟩)] 71 (0,0))::(w.heap.size,.cells #[.int .i64 14,.string ⟨x.1.plain.toArray⟩,.bool false,.slice none 0 0,.slice none 0 0,.slice none 0 0,.slice (some ⟨W2.heap.size,0,none⟩) 1 1] 41 (0,0))::(W2.heap.size,.cells #[.int .i64 (y.kind:Int),.string nm,.bool y.neg,.slice aa na ca,.slice aw nw cw,.slice ar nr cr,.slice ak nk ck] 41 (0,0))::LN)from hL.pm) (by simp) ?_;clear hL hF;intro W hL;have hF:=hL.fx;simp[Leaves,settle,results,Tryz.results122,go_sem,hF];rw[HB7.out,HJ6.out.2];exact yv HN.out HJ6.out.1 hL.pm
theorem lB{W0:World}{g o cap:Nat}{tvs:List (Tok×Value)}(E:PEnv W0 g o cap tvs){d:Nat}(hd:d=20):AZ W0 g o cap tvs d (fnP none):=by
 intro b i v w hB hbb hv hb hfn
 show Calls _ _ _ _ (db W0 b d g o cap tvs w (full ((TT tvs).drop i)))
 obtain⟨m,hm⟩:∃m,m=((TT tvs).drop i).length:=⟨_,rfl⟩
 have Hm:=yh hm
 clear hm
 have HEF:=yh (fun W (hB:Below W0.heap.size W0 W) hb=>(ii E b i v d W hB hbb hv hb hd).mono (R':=fun e w'=>mD b d g o cap tvs W (α:=Unit) (fun _ _ _=>False) (.bad 2 m) e w') fun e w' h=>by rw[Hm.out];exact h)
 have HB6:Hid ((full ((TT tvs).drop i):PR Nd)=.bad 2 m):=yh (by rw[Hm.out];rfl)
 clear hfn hd
 have HB0:=yh hB
 have HXB:=yh (xb hbb)
 have hL:Kn [b] w w [(b,.cells #[v,.int .i64 (d:Int)] 73 (0,0))]:=Kn.one hb
 have HBS:=yh hb
 clear hB hb
 have hF:=hL.fx
 go_enter_defers Tryz.func122,Tryz.ntmps122
 go_wp2_with (first|(with_reducible refine zS ?_;intro W hL hF)|(go_at_call 143;(with_reducible refine zM (fun W hL=>HEF.out _ (ag HB0.out hL HXB.out) hL.h1) ?_);rintro W hL e W ⟨vj3,dj,rfl,hb⟩;replace hL:=hL.jn 1 hb;clear hb;have hF:=hL.fx))
 show db W0 b d g o cap tvs w (full ((TT tvs).drop i)) _ _
 rw[HB6.out]
 exact⟨vj3,dj,rfl,hL.pm⟩
section
variable {rs:List (Int×Nat×List Prt)} {ts:List Tok} {p:PR Nd} {F:List (Int×Nat×List Prt)->List Tok->PR Nd}
theorem vO(hf:∃f,ts.length<=f/\p=(bp f rs ts).bind F)(h:isK 2 ts=false):p=F rs ts:=by
 obtain⟨f,_,hf⟩:=hf
 cases f with
 |zero=>exact hf
 |succ f=>rw[hf,bp,if_neg (by rw[h];decide)];rfl
theorem rQ{er m:Nat}(h:isK 2 ts=true)(hf:∃f,ts.length<=f/\p=(bp f rs ts).bind F)(hr:dx ts=.bad er m):p=.bad er m:=by
 obtain⟨f,h1,hf⟩:=hf
 cases f with
 |zero=>exact absurd (List.eq_nil_of_length_eq_zero (Nat.le_zero.1 h1)) (qj h)
 |succ f=>rw[hf,bp,if_pos h,hr];rfl
theorem vP{z:Int×Nat×List Prt}{r:List Tok}(h:isK 2 ts=true)(hf:∃f,ts.length<=f/\p=(bp f rs ts).bind F)(hr:dx ts=.ok z r):∃f,r.length<=f/\p=(bp f (rs++[z]) r).bind F:=by
 obtain⟨f,h1,hf⟩:=hf
 cases f with
 |zero=>exact absurd (List.eq_nil_of_length_eq_zero (Nat.le_zero.1 h1)) (qj h)
 |succ f=>exact⟨f,by have:=fz hr;omega,by rw[hf,bp,if_pos h,hr];rfl⟩
end
theorem oU{W0:World}{b d j g o cap:Nat}{tvs:List (Tok×Value)}{w W:World}{vj:Value}{kind:Nat}{nm:ByteArray}{aw ak ar:Option Addr}{nw cw nk ck cr:Nat}{ws:List (List Prt×Value)}{ks:List (Nd×List Value)}{rv:List ((Int×Nat×List Prt)×Value)}{x:Nd}{LC LK LR:List (Nat×Obj)}
  (hx:x=.mk kind nm.data.toList false [] (ws.map (·.1)) [] (ks.map (·.1))/\nk=ks.length) (h1:RowM 1 W0 LC (.slice aw nw cw) (ws.map fun x=>[x.2])) (h2:∀x∈ws,PRm W0 LC x.2 x.1) (h3:RowL 7 41 LK (.slice ak nk ck) nk (ks.flatMap (·.2))) (h4:∀x∈ks,NodeL W0 LC x.1 x.2)
  (h5:RowL 3 94 LR (.slice ar rv.length cr) rv.length (rv.flatMap rsc)) (h6:∀x∈rv,PRm W0 [] x.2 x.1.2.2) (Hvj:AtV g o cap tvs j vj) (hL:Kn [b] w W ((b,.cells #[vj,.int .i64 (d:Int)] 73 (0,0))::((LC++LK)++LR))):
  db W0 b d g o cap tvs w (.ok (x.setRs (rv.map (·.1))) ((TT tvs).drop j)) (.returned (.agg #[.int .i64 (kind:Int),.string nm,.bool false,.slice none 0 0,.slice aw nw cw,.slice ar rv.length cr,.slice ak nk ck])) W:=by
 obtain⟨rfl,rfl⟩:=hx
 refine⟨nm,none,0,0,aw,nw,cw,ar,rv.length,cr,ak,ks.length,ck,(LC++LK)++LR,j,vj,rfl,yh ?_,yh ⟨Hvj,rfl⟩,hL⟩
 have hl:∀p∈LC,p∈(LC++LK)++LR:=fun p hp=>List.mem_append_left _ (List.mem_append_left _ hp)
 have:=NodeL.mk (W0:=W0) (L:=(LC++LK)++LR) kind nm.data.toList false [] ws rv ks (.slice none 0 0) (.slice aw nw cw) (.slice ar rv.length cr) (.slice ak ks.length ck) RowM.nil (fun x hx=>by cases hx) (h1.mono hl) (fun x hx=>(h2 x hx).mono hl) (RowL.rowM (fun _=>rfl) h5 fun p hp=>List.mem_append_right _ hp) (fun x hx=>(h6 x hx).mono fun p hp=>by cases hp) (i_ (L:=(LC++LK)++LR) (fun x hx=>(h4 x hx).mono hl) h3 fun p hp=>List.mem_append_left _ (List.mem_append_right _ hp)) (fun x hx=>(h4 x hx).mono hl)
 rw[cR]at this
 exact this
def vQ:Blk->FuncId
 |.sub=>136
 |.grp=>137
 |.iff=>138
 |.whl=>139
 |.unt=>140
 |.for_=>141
 |.case_=>142
theorem yx(bk:Blk):kF (some bk)=.func (.func (vQ bk)) #[] #[]:=by cases bk<;>rfl
theorem vR(bk:Blk):∀(a:Array Value) (W:World),(callFunc (vQ bk) a).run Tryz.prog W=.ok (.enter (vQ bk) a) W:=fun a W=>by cases bk<;>kernel_rfl
theorem qO{W0:World}{g o cap:Nat}{tvs:List (Tok×Value)}(E:PEnv W0 g o cap tvs){d:Nat}(hd:d<20){bo:Blk->Pa Nd}(HB:∀bk,gZ W0 g o cap tvs (vQ bk) (d+1) (bo bk)):jw W0 g o cap tvs d (eV bo):=by
 intro bk b i v w hB hbb hv hb hne
 obtain⟨PL,hpl⟩:∃p:PR Nd,eV bo bk ((TT tvs).drop i)=p:=⟨_,rfl⟩
 rw[hpl]
 unfold eV at hpl
 rw[bE]at hpl
 have HBJ:=yh (HB bk)
 rw[yx]
 have hcf:=vR bk
 obtain⟨fb,hfb⟩:∃f,vQ bk=f:=⟨_,rfl⟩
 rw[hfb]at HBJ hcf |-
 have HNE:=yh hne
 have HPL:=yh hpl.symm
 clear HB hfb hne hpl
 have hi:=hv.out.1
 have hmx:=E.max
 have HB0:=yh hB
 have HXB:=yh (xb hbb)
 have hL:Kn [b] w w [(b,.cells #[v,.int .i64 (d:Int)] 73 (0,0))]:=Kn.one hb
 have HBS:=yh hb
 clear hB hb
 have hF:=hL.fx
 go_enter_defers Tryz.func120,Tryz.ntmps120
 go_upto_region 3 with(first|(go_at_call 143;(with_reducible refine zM (fun W hL=>kI E b i v d _ (ag HB0.out hL HXB.out) hbb hv hL.h1 hd) ?_);rintro W hL e W ⟨c,rfl,hb⟩;replace hL:=hL.jn 1 hb;clear hb;have hF:=hL.fx)|(go_at_call 53;(with_reducible refine zM (fun W hL=>ea E b i v ((d+1:Nat):Int) _ (ag HB0.out hL HXB.out) hbb hv hL.h0 HNE.out) ?_);rintro W hL e W ⟨x1,pa1,pn1,pc1,vj1,rfl,HTX1,HVJ1,hb⟩;replace hL:=hL.jn 0 hb;clear hb;have hF:=hL.fx))
 have hi1:=HVJ1.out.1
 have HCJ:=yh (fun W hB hb=>HBJ.out b (i+1) vj1 W hB hbb HVJ1 hb)
 cases hc:bo bk ((TT tvs).drop (i+1))with
 |bad er m2=>
  rw[hc]at HCJ;have HB9:=yh (bH HPL.out hc);clear hc;go_wp2_with (first|(with_reducible refine zS ?_;intro W hL hF)|((with_reducible refine zM (fun W hL=>HCJ.out _ (ag HB0.out hL HXB.out) hL.h0) ?_);rintro W hL e W ⟨vj5,dj,rfl,hb⟩;replace hL:=hL.jn 0 hb;clear hb;have hF:=hL.fx))
  refine fj (v:=vj5) (dj:=dj) (show Kn [b] w _ [(b,.cells #[vj5,.int .i64 dj] 73 (0,0)),(c,.cells #[.pointer (some ⟨b,0,none⟩)] 71 (0,0))]from hL.pm) rfl ?_;intro W' dj' hL';show db W0 b d g o cap tvs w PL _ _;rw[HB9.out];exact⟨vj5,dj',rfl,hL'⟩
 |ok x r=>
  rw[hc]at HCJ;have HB9:=cx HPL.out hc;clear hc;go_upto_region 4 with(((with_reducible refine zM (fun W hL=>HCJ.out _ (ag HB0.out hL HXB.out) hL.h0) ?_);rintro W hL e W ⟨kz,nm,aw,nw,cw,ak,nk,ck,LC,LK,j2,vj2,rfl,HBI,HJ2,hb⟩;replace hL:=hL.jn 0 hb;clear hb;have hF:=hL.fx;obtain⟨W1,rfl⟩:∃W1:World,W1=W:=⟨_,rfl⟩))
  refine zE ?_;intro W hL hF;have Hvj2:=yh HJ2.out.1;have hj2:=HJ2.out.1.1;rw[HJ2.out.2]at HB9;obtain⟨kind,ws,ks,hx,rfl,hr1,hr2,hnk,hr4,hr5⟩:=HBI.out;have HX5:=yh (And.intro hx hnk);have HR1:=yh hr1;have HR2:=yh hr2;have HRK:=yh hr4;have HKS:=yh hr5;have hxk:x.kind=kind:=by rw[hx];rfl
  have hxr:x.rs=[]:=by rw[hx];rfl
  clear hx hr1 hr2 hr4 hr5 hnk;obtain⟨k8,hk8⟩:∃z:Bool,((kind:Int)==8)=z:=⟨_,rfl⟩;rw[hxk,hxr]at HB9;have hL2:Kn [b] w W ((b,.cells #[vj2,.int .i64 ((d+1:Nat):Int)] 73 (0,0))::(W1.heap.size,.cells #[.int .i64 (kind:Int),.string nm,.bool false,.slice none 0 0,.slice aw nw cw,.slice none 0 0,.slice ak nk ck] 41 (0,0))::(c,.cells #[.pointer (some ⟨b,0,none⟩)] 71 (0,0))::(w.heap.size,.cells #[.int .i64 0,.string ⟨#[]⟩,.bool false,.slice none 0 0,.slice none 0 0,.slice none 0 0,.slice none 0 0] 41 (0,0))::(LC++LK)):=hL.pm;clear hL hF;have hL:=hL2;clear hL2;have hF:=hL.fx
  cases k8
  ·rw[if_neg (by rintro rfl;cases hk8)]at HB9
   have HB5:Hid (∃f,((TT tvs).drop j2).length<=f/\PL=(bp f (([]:List ((Int×Nat×List Prt)×Value)).map (·.1)) ((TT tvs).drop j2)).bind fun l r=>.ok (x.setRs l) r):=yh ⟨_,Nat.le_refl _,HB9⟩;clear HB9 hxk hxr;go_wp2;have hjl9:=Hvj2.out.1;go_loopg [] (tvs.length-j2) (fun n wr=>∃(j:Nat) (vj:Value) (rv:List ((Int×Nat×List Prt)×Value)) (ar:Option Addr) (cr:Nat) (LR:List (Nat×Obj)),n=tvs.length-j/\Hid (AtV g o cap tvs j vj)/\Hid (∃f,((TT tvs).drop j).length<=f/\PL=(bp f (rv.map (·.1)) ((TT tvs).drop j)).bind fun l r=>.ok (x.setRs l) r)/\Hid (RowL 3 94 LR (.slice ar rv.length cr) rv.length (rv.flatMap rsc))/\Hid (∀x∈rv,PRm W0 [] x.2 x.1.2.2)/\rv.length<=j/\j<tvs.length/\Kn [b] w wr ((b,.cells #[vj,.int .i64 ((d+1:Nat):Int)] 73 (0,0))::(W1.heap.size,.cells #[.int .i64 (kind:Int),.string nm,.bool false,.slice none 0 0,.slice aw nw cw,.slice ar rv.length cr,.slice ak nk ck] 41 (0,0))::(c,.cells #[.pointer (some ⟨b,0,none⟩)] 71 (0,0))::(w.heap.size,.cells #[.int .i64 0,.string ⟨#[]⟩,.bool false,.slice none 0 0,.slice none 0 0,.slice none 0 0,.slice none 0 0] 41 (0,0))::((LC++LK)++LR)))
   case atStart=>exact⟨j2,vj2,[],none,0,[],rfl,Hvj2,HB5,yh RowL.nil,yh (by simp),Nat.zero_le _,hjl9,by refine Kn.name ?_;clear hL;intro hL;exact hL.pm⟩
   case round=>
    clear hL;obtain⟨j,vj,rv,ar,cr,LR,rfl,Hvj,HF,HRR,HPR,hsz,hjl,hL⟩:=hrel;have hF:=hL.fx;obtain⟨y,pa9,pn9,pc9,hx9,hx29⟩:=E.tok Hvj.out;have HX9:=yh hx9;have HX29:=yh hx29;obtain⟨f09,f19,f29,f39,f49,f59⟩:=tkF y.1.kind y.1.fd y.1.line ⟨y.1.text.toArray⟩ ⟨y.1.plain.toArray⟩ pa9 pn9 pc9;clear hx9 hx29;obtain⟨k2,hk2⟩:∃z:Bool,((y.1.kind:Int)==2)=z:=⟨_,rfl⟩;have HK2:Hid (isK 2 ((TT tvs).drop j)=k2):=yh (by rw[mE E HX9.out 2 (by omega)];exact hk2)
    cases k2
    ·have HS9:=yh (vO HF.out HK2.out)
     go_wp2_with (first|(with_reducible refine zS ?_;intro W hL hF)|(go_at_call 27;refine zC (fun W hL=>aL E b j vj ((d+1:Nat):Int) _ (ag HB0.out hL HXB.out) hbb Hvj hL.h0 HX9.out pa9 pn9 pc9 HX29.out) ?_;intro W hL hF))
     refine dq ?_;clear hF hL;intro W hL;simp only[kfb]at hL;have hF:=hL.fx;simp only[bodyPostD];refine jR (by omega) (show Kn [b] w W ((b,.cells #[vj,.int .i64 ((d+1:Nat):Int)] 73 (0,0))::(c,.cells #[.pointer (some ⟨b,0,none⟩)] 71 (0,0))::(w.heap.size,.cells #[.int .i64 (kind:Int),.string nm,.bool false,.slice none 0 0,.slice aw nw cw,.slice ar rv.length cr,.slice ak nk ck] 41 (0,0))::((LC++LK)++LR))from hL.pm) (by simp) ?_;clear hL hF;intro W hL;have hF:=hL.fx;simp[Leaves,settle,results,Tryz.results120,go_sem,hF];rw[HS9.out];exact oU HX5.out HR1.out HR2.out HRK.out HKS.out HRR.out HPR.out Hvj.out hL.pm
    ·have HNE9:(TT tvs).drop j≠[]:=qj HK2.out
     have HRD:=yh (fun W hB hb=>mL E b j vj (d+1) W hB hbb Hvj hb HNE9);clear HNE9
     cases hr:dx ((TT tvs).drop j)with
     |bad er m2=>
      rw[hr]at HRD;have HB9:=yh (rQ HK2.out HF.out hr);clear hr;go_wp2_with (first|(with_reducible refine zS ?_;intro W hL hF)|(go_at_call 27;refine zC (fun W hL=>aL E b j vj ((d+1:Nat):Int) _ (ag HB0.out hL HXB.out) hbb Hvj hL.h0 HX9.out pa9 pn9 pc9 HX29.out) ?_;intro W hL hF)|((with_reducible refine af 7 ?_);refine zE ?_;intro W hL hF;refine b' [0,1,2,3,4,5,6,7] [0,1,2,6] [5,7] [0,2,6] (by kernel_rfl) (by kernel_rfl) (sD (sC sN)) ?_;clear hF hL;intro Qp hQp;replace hQp:=yh hQp;intro ι F hne hC hFF;have hG:=fun n=>(hFF n).fx;clear hFF;(repeat(first|(refine cS ?_)|((first|refine cF hC ?_|refine cP ?_);intro K hK;go_big_quiet_op;go_big_quiet_on)|(refine cE ?_;intro W hL hF;go_at_call 145;(with_reducible refine(HRD.out _ (ag HB0.out hL HXB.out) hL.h0).mono ?_);rintro e W ⟨vj5,dj,rfl,hb⟩;replace hL:=hL.jn 0 hb;clear hb hF;have hF:=hL.fx;refine⟨_,rfl,hQp.out _ _ ?_⟩;clear hQp;intro a' ha;simp only[Exit.then,Exit.inBlock];show Leaves _ _ _ _ a'.defers _ _;rw[ha];refine fj (v:=vj5) (dj:=dj) (show Kn [b] w _ [(b,.cells #[vj5,.int .i64 dj] 73 (0,0)),(c,.cells #[.pointer (some ⟨b,0,none⟩)] 71 (0,0))]from hL.pm) rfl ?_;intro W' dj' hL';show db W0 b d g o cap tvs w PL _ _;rw[HB9.out];exact⟨vj5,dj',rfl,hL'⟩)|(refine cM ?_;intro W hL hF;go_wp2;refine zB2 ?_;clear hL hC hG;intro ι F hne hC hG)));((done))))
     |ok z r2=>
      rw[hr]at HRD;have HF3:=yh (vP HK2.out HF.out hr);have HLN:=yh (fz hr);clear hr;go_wp2_with (first|(with_reducible refine zS ?_;intro W hL hF)|(go_at_call 27;refine zC (fun W hL=>aL E b j vj ((d+1:Nat):Int) _ (ag HB0.out hL HXB.out) hbb Hvj hL.h0 HX9.out pa9 pn9 pc9 HX29.out) ?_;intro W hL hF)|((with_reducible refine af 7 ?_);refine zX [0,1,2,3,4,5,6,7] [5,7] ?_ (sD (sC sN));clear hF hL;intro ι F hne hC hG;(repeat(first|(refine cS ?_)|((first|refine cF hC ?_|refine cP ?_);intro K hK;go_big_quiet_op;go_big_quiet_on)|(refine cD ?_;intro W hL hF;go_at_call 145;(with_reducible refine(HRD.out _ (ag HB0.out hL HXB.out) hL.h0).mono ?_);rintro e W ⟨_,j2,vj2,rfl,⟨x2,pa2,pn2,pc2,hm2,hq2,rfl,hps⟩,HV2,hb⟩;replace hL:=hL.jn 0 hb;clear hb hF;have hF:=hL.fx;refine bM ?_;((refine a_ _ (by repeat' (first|(with_reducible exact List.nil_sublist _)|(with_reducible apply List.Sublist.cons_cons)|(with_reducible apply List.Sublist.cons))) ?_;clear hL hF));simp only[Act.put,zT])|(refine cM ?_;intro W hL hF;at_builtin;(refine ah rfl _ _ 38 38 rfl (_::_::_::_::_::(LC++LK)) LR hL rv.length 1 (rv.flatMap rsc) [.int .i64 z.1,.int .i64 (z.2.1:Int),.slice pa2 pn2 pc2] _ _ HRR.out rfl rfl (fun ho=>fq rfl (fun j u hu=>by rw[Go.WideShapes.add_plain,Nat.zero_add,aK hL m0];simpa using hu) (by intro u hu;simp only[List.mem_cons,List.not_mem_nil,or_false]at hu;rcases hu with rfl|rfl|rfl<;>rfl) (by omega) ho) ?_);intro LP3 a3 c3 W3 hL2 hr3;clear hL hF;have hL:=hL2;clear hL2;simp only[List.append_eq,List.cons_append,List.nil_append]at hL;have hF:=hL.fx;go_wp2;refine zB2 ?_;clear hL hF hC hG;intro ι F hne hC hG)|(refine cM ?_;intro W hL hF;go_wp2;refine ai ?_;(first|(refine bO _ (by rfl) ?_;clear hL hF hC hG;intro ι F hne hC hFF;have hG:=fun n=>(hFF n).fx;clear hFF)|(refine a_ _ (by repeat' (first|(with_reducible exact List.nil_sublist _)|(with_reducible apply List.Sublist.cons_cons)|(with_reducible apply List.Sublist.cons))) ?_;clear hL hF)))));refine zN ?_;clear hC hG;intro W hL hF))
      have hlt9:j<j2:=by have h8:=HLN.out;rw[HV2.out.2]at h8;have:=rA HV2.out.1 h8 hjl;omega
      have hj29:=HV2.out.1.1;go_roundg (tvs.length-j2)
      case measure=>omega
      case rel=>exact⟨j2,vj2,rv++[(z,.slice pa2 pn2 pc2)],a3,c3,LP3,rfl,yh HV2.out.1,yh (by have h8:=HF3.out;rw[HV2.out.2]at h8;simpa using h8),yh (by simpa[rsc]using hr3),yh (bY HPR.out (by have:=fh E hm2 (L:=[]);rw[hq2,<- hps]at this;exact this)),by simp only[List.length_append,List.length_singleton];omega,hj29,by refine Kn.name ?_;clear hL;intro hL;simp only[List.length_append,List.length_singleton];exact hL.pm⟩
  ·rw[if_pos (by have:=beq_iff_eq.1 hk8;omega)]at HB9
   have HB8:=yh HB9;clear HB9 hxk hxr;have HW1:=yh (fun W hB hb=>eb E b j2 vj2 (d+1) W hB hbb Hvj2 hb ⟨#[102,105]⟩)
   cases hw:aW kFi ((TT tvs).drop j2)with
   |bad er m2=>
    rw[show aW (⟨#[102,105]⟩:ByteArray).data.toList ((TT tvs).drop j2)=_ from hw]at HW1;have HB9:=yh (bH HB8.out hw);clear hw;go_wp2_with (first|(with_reducible refine zS ?_;intro W hL hF)|(go_at_call 144;(with_reducible refine zM (fun W hL=>HW1.out _ (ag HB0.out hL HXB.out) hL.h0) ?_);rintro W hL e W ⟨vj5,dj,rfl,hb⟩;replace hL:=hL.jn 0 hb;clear hb;have hF:=hL.fx))
    refine fj (v:=vj5) (dj:=dj) (show Kn [b] w _ [(b,.cells #[vj5,.int .i64 dj] 73 (0,0)),(c,.cells #[.pointer (some ⟨b,0,none⟩)] 71 (0,0))]from hL.pm) rfl ?_;intro W' dj' hL';show db W0 b d g o cap tvs w PL _ _;rw[HB9.out];exact⟨vj5,dj',rfl,hL'⟩
   |ok u r3=>
    rw[show aW (⟨#[102,105]⟩:ByteArray).data.toList ((TT tvs).drop j2)=_ from hw]at HW1;have HB9:=cx HB8.out hw;clear hw;go_wp2_with (first|(with_reducible refine zS ?_;intro W hL hF)|(go_at_call 144;(with_reducible refine zM (fun W hL=>HW1.out _ (ag HB0.out hL HXB.out) hL.h0) ?_);rintro W hL e W ⟨_,j3,vj3,rfl,rfl,HJ3,hb⟩;replace hL:=hL.jn 0 hb;clear hb;have hF:=hL.fx))
    have Hvj3:=yh HJ3.out.1;rw[HJ3.out.2]at HB9;have HB5:Hid (∃f,((TT tvs).drop j3).length<=f/\PL=(bp f (([]:List ((Int×Nat×List Prt)×Value)).map (·.1)) ((TT tvs).drop j3)).bind fun l r=>.ok (x.setRs l) r):=yh ⟨_,Nat.le_refl _,HB9⟩;clear HB9;have hjl9:=Hvj3.out.1;go_loopg [] (tvs.length-j3) (fun n wr=>∃(j:Nat) (vj:Value) (rv:List ((Int×Nat×List Prt)×Value)) (ar:Option Addr) (cr:Nat) (LR:List (Nat×Obj)),n=tvs.length-j/\Hid (AtV g o cap tvs j vj)/\Hid (∃f,((TT tvs).drop j).length<=f/\PL=(bp f (rv.map (·.1)) ((TT tvs).drop j)).bind fun l r=>.ok (x.setRs l) r)/\Hid (RowL 3 94 LR (.slice ar rv.length cr) rv.length (rv.flatMap rsc))/\Hid (∀x∈rv,PRm W0 [] x.2 x.1.2.2)/\rv.length<=j/\j<tvs.length/\Kn [b] w wr ((b,.cells #[vj,.int .i64 ((d+1:Nat):Int)] 73 (0,0))::(W1.heap.size,.cells #[.int .i64 (kind:Int),.string nm,.bool false,.slice none 0 0,.slice aw nw cw,.slice ar rv.length cr,.slice ak nk ck] 41 (0,0))::(c,.cells #[.pointer (some ⟨b,0,none⟩)] 71 (0,0))::(w.heap.size,.cells #[.int .i64 0,.string ⟨#[]⟩,.bool false,.slice none 0 0,.slice none 0 0,.slice none 0 0,.slice none 0 0] 41 (0,0))::((LC++LK)++LR)))
    case atStart=>exact⟨j3,vj3,[],none,0,[],rfl,Hvj3,HB5,yh RowL.nil,yh (by simp),Nat.zero_le _,hjl9,by refine Kn.name ?_;clear hL;intro hL;exact hL.pm⟩
    case round=>
     clear hL;obtain⟨j,vj,rv,ar,cr,LR,rfl,Hvj,HF,HRR,HPR,hsz,hjl,hL⟩:=hrel;have hF:=hL.fx;obtain⟨y,pa9,pn9,pc9,hx9,hx29⟩:=E.tok Hvj.out;have HX9:=yh hx9;have HX29:=yh hx29;obtain⟨f09,f19,f29,f39,f49,f59⟩:=tkF y.1.kind y.1.fd y.1.line ⟨y.1.text.toArray⟩ ⟨y.1.plain.toArray⟩ pa9 pn9 pc9;clear hx9 hx29;obtain⟨k2,hk2⟩:∃z:Bool,((y.1.kind:Int)==2)=z:=⟨_,rfl⟩;have HK2:Hid (isK 2 ((TT tvs).drop j)=k2):=yh (by rw[mE E HX9.out 2 (by omega)];exact hk2)
     cases k2
     ·have HS9:=yh (vO HF.out HK2.out)
      go_wp2_with (first|(with_reducible refine zS ?_;intro W hL hF)|(go_at_call 27;refine zC (fun W hL=>aL E b j vj ((d+1:Nat):Int) _ (ag HB0.out hL HXB.out) hbb Hvj hL.h0 HX9.out pa9 pn9 pc9 HX29.out) ?_;intro W hL hF))
      refine dq ?_;clear hF hL;intro W hL;simp only[kfb]at hL;have hF:=hL.fx;simp only[bodyPostD];refine jR (by omega) (show Kn [b] w W ((b,.cells #[vj,.int .i64 ((d+1:Nat):Int)] 73 (0,0))::(c,.cells #[.pointer (some ⟨b,0,none⟩)] 71 (0,0))::(w.heap.size,.cells #[.int .i64 (kind:Int),.string nm,.bool false,.slice none 0 0,.slice aw nw cw,.slice ar rv.length cr,.slice ak nk ck] 41 (0,0))::((LC++LK)++LR))from hL.pm) (by simp) ?_;clear hL hF;intro W hL;have hF:=hL.fx;simp[Leaves,settle,results,Tryz.results120,go_sem,hF];rw[HS9.out];exact oU HX5.out HR1.out HR2.out HRK.out HKS.out HRR.out HPR.out Hvj.out hL.pm
     ·have HNE9:(TT tvs).drop j≠[]:=qj HK2.out
      have HRD:=yh (fun W hB hb=>mL E b j vj (d+1) W hB hbb Hvj hb HNE9);clear HNE9
      cases hr:dx ((TT tvs).drop j)with
      |bad er m2=>
       rw[hr]at HRD;have HB9:=yh (rQ HK2.out HF.out hr);clear hr;go_wp2_with (first|(with_reducible refine zS ?_;intro W hL hF)|(go_at_call 27;refine zC (fun W hL=>aL E b j vj ((d+1:Nat):Int) _ (ag HB0.out hL HXB.out) hbb Hvj hL.h0 HX9.out pa9 pn9 pc9 HX29.out) ?_;intro W hL hF)|((with_reducible refine af 7 ?_);refine zE ?_;intro W hL hF;refine b' [0,1,2,3,4,5,6,7] [0,1,2,6] [5,7] [0,2,6] (by kernel_rfl) (by kernel_rfl) (sD (sC sN)) ?_;clear hF hL;intro Qp hQp;replace hQp:=yh hQp;intro ι F hne hC hFF;have hG:=fun n=>(hFF n).fx;clear hFF;(repeat(first|(refine cS ?_)|((first|refine cF hC ?_|refine cP ?_);intro K hK;go_big_quiet_op;go_big_quiet_on)|(refine cE ?_;intro W hL hF;go_at_call 145;(with_reducible refine(HRD.out _ (ag HB0.out hL HXB.out) hL.h0).mono ?_);rintro e W ⟨vj5,dj,rfl,hb⟩;replace hL:=hL.jn 0 hb;clear hb hF;have hF:=hL.fx;refine⟨_,rfl,hQp.out _ _ ?_⟩;clear hQp;intro a' ha;simp only[Exit.then,Exit.inBlock];show Leaves _ _ _ _ a'.defers _ _;rw[ha];refine fj (v:=vj5) (dj:=dj) (show Kn [b] w _ [(b,.cells #[vj5,.int .i64 dj] 73 (0,0)),(c,.cells #[.pointer (some ⟨b,0,none⟩)] 71 (0,0))]from hL.pm) rfl ?_;intro W' dj' hL';show db W0 b d g o cap tvs w PL _ _;rw[HB9.out];exact⟨vj5,dj',rfl,hL'⟩)|(refine cM ?_;intro W hL hF;go_wp2;refine zB2 ?_;clear hL hC hG;intro ι F hne hC hG)));((done))))
      |ok z r2=>
       rw[hr]at HRD;have HF3:=yh (vP HK2.out HF.out hr);have HLN:=yh (fz hr);clear hr;go_wp2_with (first|(with_reducible refine zS ?_;intro W hL hF)|(go_at_call 27;refine zC (fun W hL=>aL E b j vj ((d+1:Nat):Int) _ (ag HB0.out hL HXB.out) hbb Hvj hL.h0 HX9.out pa9 pn9 pc9 HX29.out) ?_;intro W hL hF)|((with_reducible refine af 7 ?_);refine zX [0,1,2,3,4,5,6,7] [5,7] ?_ (sD (sC sN));clear hF hL;intro ι F hne hC hG;(repeat(first|(refine cS ?_)|((first|refine cF hC ?_|refine cP ?_);intro K hK;go_big_quiet_op;go_big_quiet_on)|(refine cD ?_;intro W hL hF;go_at_call 145;(with_reducible refine(HRD.out _ (ag HB0.out hL HXB.out) hL.h0).mono ?_);rintro e W ⟨_,j2,vj2,rfl,⟨x2,pa2,pn2,pc2,hm2,hq2,rfl,hps⟩,HV2,hb⟩;replace hL:=hL.jn 0 hb;clear hb hF;have hF:=hL.fx;refine bM ?_;((refine a_ _ (by repeat' (first|(with_reducible exact List.nil_sublist _)|(with_reducible apply List.Sublist.cons_cons)|(with_reducible apply List.Sublist.cons))) ?_;clear hL hF));simp only[Act.put,zT])|(refine cM ?_;intro W hL hF;at_builtin;(refine ah rfl _ _ 38 38 rfl (_::_::_::_::_::(LC++LK)) LR hL rv.length 1 (rv.flatMap rsc) [.int .i64 z.1,.int .i64 (z.2.1:Int),.slice pa2 pn2 pc2] _ _ HRR.out rfl rfl (fun ho=>fq rfl (fun j u hu=>by rw[Go.WideShapes.add_plain,Nat.zero_add,aK hL m0];simpa using hu) (by intro u hu;simp only[List.mem_cons,List.not_mem_nil,or_false]at hu;rcases hu with rfl|rfl|rfl<;>rfl) (by omega) ho) ?_);intro LP3 a3 c3 W3 hL2 hr3;clear hL hF;have hL:=hL2;clear hL2;simp only[List.append_eq,List.cons_append,List.nil_append]at hL;have hF:=hL.fx;go_wp2;refine zB2 ?_;clear hL hF hC hG;intro ι F hne hC hG)|(refine cM ?_;intro W hL hF;go_wp2;refine ai ?_;(first|(refine bO _ (by rfl) ?_;clear hL hF hC hG;intro ι F hne hC hFF;have hG:=fun n=>(hFF n).fx;clear hFF)|(refine a_ _ (by repeat' (first|(with_reducible exact List.nil_sublist _)|(with_reducible apply List.Sublist.cons_cons)|(with_reducible apply List.Sublist.cons))) ?_;clear hL hF)))));refine zN ?_;clear hC hG;intro W hL hF))
       have hlt9:j<j2:=by have h8:=HLN.out;rw[HV2.out.2]at h8;have:=rA HV2.out.1 h8 hjl;omega
       have hj29:=HV2.out.1.1;go_roundg (tvs.length-j2)
       case measure=>omega
       case rel=>exact⟨j2,vj2,rv++[(z,.slice pa2 pn2 pc2)],a3,c3,LP3,rfl,yh HV2.out.1,yh (by have h8:=HF3.out;rw[HV2.out.2]at h8;simpa using h8),yh (by simpa[rsc]using hr3),yh (bY HPR.out (by have:=fh E hm2 (L:=[]);rw[hq2,<- hps]at this;exact this)),by simp only[List.length_append,List.length_singleton];omega,hj29,by refine Kn.name ?_;clear hL;intro hL;simp only[List.length_append,List.length_singleton];exact hL.pm⟩
theorem lC{W0:World}{g o cap:Nat}{tvs:List (Tok×Value)}(E:PEnv W0 g o cap tvs){d:Nat}(hd:d=20):jw W0 g o cap tvs d (fun _ ts=>full ts):=by
 intro bk b i v w hB hbb hv hb hne
 obtain⟨m,hm⟩:∃m,m=((TT tvs).drop i).length:=⟨_,rfl⟩
 have Hm:=yh hm
 clear hm
 have HEF:=yh (fun W (hB:Below W0.heap.size W0 W) hb=>(ii E b i v d W hB hbb hv hb hd).mono (R':=fun e w'=>mD b d g o cap tvs W (α:=Unit) (fun _ _ _=>False) (.bad 2 m) e w') fun e w' h=>by rw[Hm.out];exact h)
 have HB6:Hid ((full ((TT tvs).drop i):PR Nd)=.bad 2 m):=yh (by rw[Hm.out];rfl)
 clear hne hd
 have HB0:=yh hB
 have HXB:=yh (xb hbb)
 have hL:Kn [b] w w [(b,.cells #[v,.int .i64 (d:Int)] 73 (0,0))]:=Kn.one hb
 have HBS:=yh hb
 clear hB hb
 have hF:=hL.fx
 go_enter_defers Tryz.func120,Tryz.ntmps120
 go_wp2_with (first|(with_reducible refine zS ?_;intro W hL hF)|(go_at_call 143;(with_reducible refine zM (fun W hL=>HEF.out _ (ag HB0.out hL HXB.out) hL.h1) ?_);rintro W hL e W ⟨vj3,dj,rfl,hb⟩;replace hL:=hL.jn 1 hb;clear hb;have hF:=hL.fx))
 show db W0 b d g o cap tvs w (full ((TT tvs).drop i)) _ _
 rw[HB6.out]
 exact⟨vj3,dj,rfl,hL.pm⟩
def BU(inner:Option (Pa Nd))(x:Nd)(r:List Tok):PR Nd:=match inner with
 |none=>full r
 |some c=>(c r.tail).bind fun x2 r=>.ok (x.addKid x2) r
theorem vS{so:Pa Nd}{k:Nat}{c:ab}{e:Option ab}{ts:List Tok}{n:Nd}{r:List Tok}(hh:aO so k c e ts=.ok n r):n.kids.length<=100:=by
 obtain⟨a,s,h1,h2⟩:=ac hh
 obtain⟨u,s2,h5,h6⟩:=ac h2
 obtain⟨b,s3,h7,h8⟩:=ac h6
 cases e with
 |none=>injection h8 with h8 h11;subst h8;exact(by decide:2<=100)
 |some c2=>
  obtain⟨u,s4,h11,h12⟩:=ac h8;injection h12 with h12 h13;subst h12;exact(by decide:2<=100)
def BV(W0:World)(g o cap:Nat)(tvs:List (Tok×Value))(d:Nat)(inner:Option (Pa Nd)):Prop:=match inner with
 |none=>d=20
 |some c=>d<20/\gZ W0 g o cap tvs 138 (d+1) c
theorem iK{W0:World}{g o cap:Nat}{tvs:List (Tok×Value)}(E:PEnv W0 g o cap tvs){d:Nat}{so:Pa Nd}{inner:Option (Pa Nd)}(HI:BV W0 g o cap tvs d inner)(HC:cL W0 g o cap tvs 162 d so):gZ W0 g o cap tvs 138 d (eU so inner):=by
 intro b i v w hB hbb hv hb
 obtain⟨PL,hpl⟩:∃p:PR Nd,eU so inner ((TT tvs).drop i)=p:=⟨_,rfl⟩
 rw[hpl]
 unfold eU at hpl
 obtain⟨BT,hbt⟩:∃p:PR Nd,aO so 8 n4 none ((TT tvs).drop i)=p:=⟨_,rfl⟩
 rw[hbt]at hpl
 have HCJ:Hid (∀W,Below W0.heap.size W0 W->W.heap[b]? =some (.cells #[v,.int .i64 (d:Nat)] 73 (0,0))->Calls Tryz.prog 163 #[.pointer (some ⟨b,0,none⟩),.int .i64 8,.string ⟨#[116,104,101,110]⟩,.string ⟨#[]⟩] W (gE W0 b d g o cap tvs W BT)):=yh fun W hB hb=>by
  have h:=i' E HC b i v W hB hbb hv hb 8 ⟨#[116,104,101,110]⟩ ⟨#[]⟩;rw[show aO so 8 (⟨#[116,104,101,110]⟩:ByteArray).data.toList (qB ⟨#[]⟩) ((TT tvs).drop i)=BT from hbt]at h;exact h
 have HCC:=yh HC
 have HKL:Hid (∀x r,BT=.ok x r->x.kids.length<=100):=yh fun x r h=>vS (hbt.trans h)
 have HII:=yh HI
 clear HI
 clear HC hbt
 have hi:=hv.out.1
 have hmx:=E.max
 have HB0:=yh hB
 have HXB:=yh (xb hbb)
 have hL:Kn [b] w w [(b,.cells #[v,.int .i64 (d:Int)] 73 (0,0))]:=Kn.one hb
 have HBS:=yh hb
 clear hB hb
 have hF:=hL.fx
 cases BT with
 |bad er m2=>
  have HB9:Hid (PL=.bad er m2):=yh hpl.symm;clear hpl;go_enter_defers Tryz.func138,Tryz.ntmps138;go_wp2_with (first|(with_reducible refine zS ?_;intro W hL hF)|(go_at_call 163;(with_reducible refine zM (fun W hL=>HCJ.out _ (ag HB0.out hL HXB.out) hL.h1) ?_);rintro W hL e W ⟨vj2,dj,rfl,hb⟩;replace hL:=hL.jn 1 hb;clear hb;have hF:=hL.fx))
  show gE W0 b d g o cap tvs w PL _ _
  rw[HB9.out];exact⟨vj2,dj,rfl,hL.pm⟩
 |ok x r=>
  have HB9:Hid (PL=if bS [n6] r then(so r.tail).bind fun c r=>.ok (x.addKid c) r else if bS [n5] r then BU inner x r else .ok x r):=yh hpl.symm;clear hpl;go_enter_defers Tryz.func138,Tryz.ntmps138;go_upto_block 0 with((go_at_call 163;(with_reducible refine zM (fun W hL=>HCJ.out _ (ag HB0.out hL HXB.out) hL.h1) ?_);rintro W hL e W ⟨kz,nm,aw,nw,cw,ak,nk,ck,LC,LK,j2,vj2,rfl,HBI,HJ2,hb⟩;replace hL:=hL.jn 1 hb;clear hb;have hF:=hL.fx;replace hL:=hL.in0;clear hF;have hF:=hL.fx;obtain⟨W1,rfl⟩:∃W1:World,W1=W:=⟨_,rfl⟩))
  refine zE ?_;intro W hL hF;have Hvj2:=yh HJ2.out.1;have hj2:=HJ2.out.1.1;have HB8:=HB9.out;rw[HJ2.out.2]at HB8;obtain⟨kind,ws,ks,hx,rfl,hr1,hr2,rfl,hr4,hr5⟩:=HBI.out;have hks:ks.length<=100:=by have h:=HKL.out _ _ rfl;rw[hx]at h;simpa[Nd.kids]using h
  have HX5:=yh hx;have HR1:=yh hr1;have HR2:=yh hr2;have HRK:=yh hr4;have HKS:=yh hr5;clear hx hr1 hr2 hr4 hr5 HKL;obtain⟨k1,hk1⟩:∃z:Bool,bS [n6] ((TT tvs).drop j2)=z:=⟨_,rfl⟩;obtain⟨k2,hk2⟩:∃z:Bool,bS [n5] ((TT tvs).drop j2)=z:=⟨_,rfl⟩;rw[hk1,hk2]at HB8;have HK1:Hid (bS ([(⟨#[101,108,115,101]⟩:ByteArray)].map fun z=>z.data.toList) ((TT tvs).drop j2)=k1):=yh hk1;have HK2:Hid (bS ([(⟨#[101,108,105,102]⟩:ByteArray)].map fun z=>z.data.toList) ((TT tvs).drop j2)=k2):=yh hk2;have HQ1:Hid (k1=true->(TT tvs).drop j2≠[]):=yh fun h=>kk (by rw[hk1];exact h)
  have HQ2:Hid (k2=true->(TT tvs).drop j2≠[]):=yh fun h=>kk (by rw[hk2];exact h)
  clear hk1 hk2;have hL2:Kn [b] w W ((b,.cells #[vj2,.int .i64 (d:Int)] 73 (0,0))::(W1.heap.size,.cells #[.int .i64 (kind:Int),.string nm,.bool false,.slice none 0 0,.slice aw nw cw,.slice none 0 0,.slice ak ks.length ck] 41 (0,0))::(w.heap.size,.cells #[.int .i64 0,.string ⟨#[]⟩,.bool false,.slice none 0 0,.slice none 0 0,.slice none 0 0,.slice none 0 0] 41 (0,0))::(LC++LK)):=hL.pm;clear hL hF;have hL:=hL2;clear hL2;have hF:=hL.fx
  cases k1
  ·rw[if_neg (by decide)]at HB8
   clear HQ1
   cases k2
   ·rw[if_neg (by decide)]at HB8
    have HB7:=yh HB8;clear HB8;go_wp2_with (first|(with_reducible refine zS ?_;intro W hL hF)|(go_at_call 86;refine zC (fun W hL=>cK E b j2 vj2 (d:Int) _ (ag HB0.out hL HXB.out) hbb Hvj2 hL.h1 _ 0 1 _ [⟨#[101,108,115,101]⟩] _ HK1 (yh rfl) (by omega) (b8 (ff hL m0)) (by(exact fg hL m0))) ?_;intro W hL hF;replace hL:=hL.drop1;clear hF;have hF:=hL.fx)|(go_at_call 86;refine zC (fun W hL=>cK E b j2 vj2 (d:Int) _ (ag HB0.out hL HXB.out) hbb Hvj2 hL.h1 _ 0 1 _ [⟨#[101,108,105,102]⟩] _ HK2 (yh rfl) (by omega) (b8 (ff hL m0)) (by(exact fg hL m0))) ?_;intro W hL hF;replace hL:=hL.drop1;clear hF;have hF:=hL.fx))
    refine dq ?_;clear hF hL;intro W hL;simp only[kfb]at hL;have hF:=hL.fx;simp only[bodyPostD];simp[Leaves,settle,results,Tryz.results138,go_sem,hF];rw[HB7.out];exact⟨(kind:Int),nm,aw,nw,cw,ak,ks.length,ck,LC,LK,j2,vj2,rfl,yh ⟨kind,ws,ks,HX5.out,rfl,HR1.out,HR2.out,rfl,HRK.out,HKS.out⟩,yh ⟨Hvj2.out,rfl⟩,hL.pm⟩
   ·rw[if_pos rfl]at HB8
    have HNE2:=yh (HQ2.out rfl)
    cases inner with
    |none=>
     have hd:d=20:=HII.out;have HB7:Hid (PL=full ((TT tvs).drop j2)):=yh HB8;clear HB8 HII;obtain⟨m,hm⟩:∃m,m=((TT tvs).drop j2).length:=⟨_,rfl⟩;have Hm:=yh hm;clear hm;have HB6:Hid (PL=.bad 2 m):=yh (by rw[HB7.out,Hm.out];rfl);have HEF:=yh (fun W (hB:Below W0.heap.size W0 W) hb=>(ii E b j2 vj2 d W hB hbb Hvj2 hb hd).mono (R':=fun e w'=>mD b d g o cap tvs W (α:=Unit) (fun _ _ _=>False) (.bad 2 m) e w') fun e w' h=>by rw[Hm.out];exact h);clear hd;go_wp2_with (first|(with_reducible refine zS ?_;intro W hL hF)|(go_at_call 86;refine zC (fun W hL=>cK E b j2 vj2 (d:Int) _ (ag HB0.out hL HXB.out) hbb Hvj2 hL.h1 _ 0 1 _ [⟨#[101,108,115,101]⟩] _ HK1 (yh rfl) (by omega) (b8 (ff hL m0)) (by(exact fg hL m0))) ?_;intro W hL hF;replace hL:=hL.drop1;clear hF;have hF:=hL.fx)|(go_at_call 86;refine zC (fun W hL=>cK E b j2 vj2 (d:Int) _ (ag HB0.out hL HXB.out) hbb Hvj2 hL.h1 _ 0 1 _ [⟨#[101,108,105,102]⟩] _ HK2 (yh rfl) (by omega) (b8 (ff hL m0)) (by(exact fg hL m0))) ?_;intro W hL hF;replace hL:=hL.drop1;clear hF;have hF:=hL.fx)|(go_at_call 143;(with_reducible refine zM (fun W hL=>HEF.out _ (ag HB0.out hL HXB.out) hL.h0) ?_);rintro W hL e W ⟨vj3,dj,rfl,hb⟩;replace hL:=hL.jn 0 hb;clear hb;have hF:=hL.fx))
     show gE W0 b d g o cap tvs w PL _ _
     rw[HB6.out];exact⟨vj3,dj,rfl,hL.pm⟩
    |some cn=>
     have hd:d<20:=HII.out.1;have HB7:Hid (PL=(cn ((TT tvs).drop j2).tail).bind fun x2 r=>.ok (x.addKid x2) r):=yh HB8;clear HB8;have HB6:=HB7.out;rw[bE]at HB6;go_upto_region 8 with(first|(go_at_call 86;refine zC (fun W hL=>cK E b j2 vj2 (d:Int) _ (ag HB0.out hL HXB.out) hbb Hvj2 hL.h1 _ 0 1 _ [⟨#[101,108,115,101]⟩] _ HK1 (yh rfl) (by omega) (b8 (ff hL m0)) (by(exact fg hL m0))) ?_;intro W hL hF;replace hL:=hL.drop1;clear hF;have hF:=hL.fx)|(go_at_call 86;refine zC (fun W hL=>cK E b j2 vj2 (d:Int) _ (ag HB0.out hL HXB.out) hbb Hvj2 hL.h1 _ 0 1 _ [⟨#[101,108,105,102]⟩] _ HK2 (yh rfl) (by omega) (b8 (ff hL m0)) (by(exact fg hL m0))) ?_;intro W hL hF;replace hL:=hL.drop1;clear hF;have hF:=hL.fx)|(go_at_call 143;(with_reducible refine zM (fun W hL=>kI E b j2 vj2 d _ (ag HB0.out hL HXB.out) hbb Hvj2 hL.h0 hd) ?_);rintro W hL e W ⟨c,rfl,hb⟩;replace hL:=hL.jn 0 hb;clear hb;have hF:=hL.fx)|(go_at_call 53;(with_reducible refine zM (fun W hL=>ea E b j2 vj2 ((d+1:Nat):Int) _ (ag HB0.out hL HXB.out) hbb Hvj2 hL.h0 HNE2.out) ?_);rintro W hL e W ⟨x1,pa1,pn1,pc1,vj3,rfl,HTX2,HVJ3,hb⟩;replace hL:=hL.jn 0 hb;clear hb;have hF:=hL.fx))
     have hL2:Kn [b] w W ((b,.cells #[vj3,.int .i64 ((d+1:Nat):Int)] 73 (0,0))::(W1.heap.size,.cells #[.int .i64 (kind:Int),.string nm,.bool false,.slice none 0 0,.slice aw nw cw,.slice none 0 0,.slice ak ks.length ck] 41 (0,0))::(c,.cells #[.pointer (some ⟨b,0,none⟩)] 71 (0,0))::(w.heap.size,.cells #[.int .i64 0,.string ⟨#[]⟩,.bool false,.slice none 0 0,.slice none 0 0,.slice none 0 0,.slice none 0 0] 41 (0,0))::(LC++LK)):=hL.pm;clear hL hF;have hL:=hL2;clear hL2;have hF:=hL.fx;have HCJ2:=yh (fun W hB hb=>HII.out.2 b (j2+1) vj3 W hB hbb HVJ3 hb)
     cases hc:cn ((TT tvs).drop (j2+1))with
     |bad er m2=>
      rw[hc]at HCJ2;replace HB6:=yh (bH HB6 hc);clear hc;go_wp2_with (first|(with_reducible refine zS ?_;intro W hL hF)|((with_reducible refine af 8 ?_);refine zE ?_;intro W hL hF;refine b' [0,1,2,3,4,5,6,7] [0,1,2,6] [5,7] [0,2,6] (by kernel_rfl) (by kernel_rfl) (sD (sC sN)) ?_;clear hF hL;intro Qp hQp;replace hQp:=yh hQp;intro ι F hne hC hFF;have hG:=fun n=>(hFF n).fx;clear hFF;(repeat(first|(refine cS ?_)|((first|refine cF hC ?_|refine cP ?_);intro K hK;go_big_quiet_op;go_big_quiet_on)|(refine cE ?_;intro W hL hF;go_at_call 138;(with_reducible refine(HCJ2.out _ (ag HB0.out hL HXB.out) hL.h0).mono ?_);rintro e W ⟨vj5,dj,rfl,hb⟩;replace hL:=hL.jn 0 hb;clear hb hF;have hF:=hL.fx;refine⟨_,rfl,hQp.out _ _ ?_⟩;clear hQp;intro a' ha;simp only[Exit.then,Exit.inBlock];show Leaves _ _ _ _ a'.defers _ _;rw[ha];refine fj (v:=vj5) (dj:=dj) (show Kn [b] w _ [(b,.cells #[vj5,.int .i64 dj] 73 (0,0)),(c,.cells #[.pointer (some ⟨b,0,none⟩)] 71 (0,0))]from hL.pm) rfl ?_;intro W' dj' hL';show gE W0 b d g o cap tvs w PL _ _;rw[HB6.out];exact⟨vj5,dj',rfl,hL'⟩)|(refine cM ?_;intro W hL hF;go_wp2;refine zB2 ?_;clear hL hC hG;intro ι F hne hC hG)));((done))))
     |ok y r2=>
      rw[hc]at HCJ2;replace HB6:=yh (cx HB6 hc);clear hc;go_wp2_with (first|(with_reducible refine zS ?_;intro W hL hF)|((with_reducible refine af 8 ?_);refine zX [0,1,2,3,4,5,6,7] [5,7] ?_ (sD (sC sN));clear hF hL;intro ι F hne hC hG;(repeat(first|(refine cS ?_)|((first|refine cF hC ?_|refine cP ?_);intro K hK;go_big_quiet_op;go_big_quiet_on)|(refine cD ?_;intro W hL hF;go_at_call 138;(with_reducible refine(HCJ2.out _ (ag HB0.out hL HXB.out) hL.h0).mono ?_);rintro e W ⟨kz2,nm2,aw2,nw2,cw2,ak2,nk2,ck2,LC2,LK2,j5,vj5,rfl,HBI2,HJ5,hb⟩;replace hL:=hL.jn 0 hb;clear hb hF;have hF:=hL.fx;replace hL:=hL.in1c;clear hF;have hF:=hL.fx;refine bM ?_;((refine a_ _ (by repeat' (first|(with_reducible exact List.nil_sublist _)|(with_reducible apply List.Sublist.cons_cons)|(with_reducible apply List.Sublist.cons))) ?_;clear hL hF));simp only[Act.put,zT])|(refine cM ?_;intro W hL hF;at_builtin;(refine ah rfl _ _ 39 39 rfl (_::_::_::_::_::((LC2++LK2)++LC)) LK hL ks.length 1 (ks.flatMap (·.2)) [.int .i64 kz2,.string nm2,.bool false,.slice none 0 0,.slice aw2 nw2 cw2,.slice none 0 0,.slice ak2 nk2 ck2] _ _ HRK.out rfl rfl (fun ho=>bV rfl (fun j u hu=>by rw[Go.WideShapes.add_plain,Nat.zero_add,aK hL m0];simpa using hu) (by intro u hu;simp only[List.mem_cons,List.not_mem_nil,or_false]at hu;rcases hu with rfl|rfl|rfl|rfl|rfl|rfl|rfl<;>rfl) (by omega) ho) ?_);intro LP3 a3 c3 W3 hL2 hr3;clear hL hF;have hL:=hL2;clear hL2;simp only[List.append_eq,List.cons_append,List.nil_append]at hL;have hF:=hL.fx;go_wp2;refine zB2 ?_;clear hL hF hC hG;intro ι F hne hC hG)|(refine cM ?_;intro W hL hF;go_wp2;refine ai ?_;(first|(refine bO _ (by rfl) ?_;clear hL hF hC hG;intro ι F hne hC hFF;have hG:=fun n=>(hFF n).fx;clear hFF)|(refine a_ _ (by repeat' (first|(with_reducible exact List.nil_sublist _)|(with_reducible apply List.Sublist.cons_cons)|(with_reducible apply List.Sublist.cons))) ?_;clear hL hF)))));refine zN ?_;clear hC hG;intro W hL hF))
      refine dq ?_;clear hF hL;intro W hL;simp only[kfb]at hL;have hF:=hL.fx;simp only[bodyPostD];refine jR (by omega) (show Kn [b] w W ((b,.cells #[vj5,.int .i64 ((d+1:Nat):Int)] 73 (0,0))::(c,.cells #[.pointer (some ⟨b,0,none⟩)] 71 (0,0))::(w.heap.size,.cells #[.int .i64 (kind:Int),.string nm,.bool false,.slice none 0 0,.slice aw nw cw,.slice none 0 0,.slice a3 (ks.length+1) c3] 41 (0,0))::(((LC2++LK2)++LC)++LP3))from hL.pm) (by simp) ?_;clear hL hF;intro W hL;have hF:=hL.fx;simp[Leaves,settle,results,Tryz.results138,go_sem,hF];rw[HB6.out,HJ5.out.2];refine oP (d:=d) HX5.out HR1.out HR2.out HKS.out HBI2.out.node hr3 HJ5.out.1 ?_;exact hL.pm
  ·rw[if_pos rfl,bE]at HB8
   have HNE2:=yh (HQ1.out rfl);have HB7:=yh HB8;clear HB8;go_upto_region 4 with(first|(go_at_call 86;refine zC (fun W hL=>cK E b j2 vj2 (d:Int) _ (ag HB0.out hL HXB.out) hbb Hvj2 hL.h1 _ 0 1 _ [⟨#[101,108,115,101]⟩] _ HK1 (yh rfl) (by omega) (b8 (ff hL m0)) (by(exact fg hL m0))) ?_;intro W hL hF;replace hL:=hL.drop1;clear hF;have hF:=hL.fx)|(go_at_call 53;(with_reducible refine zM (fun W hL=>ea E b j2 vj2 (d:Int) _ (ag HB0.out hL HXB.out) hbb Hvj2 hL.h0 HNE2.out) ?_);rintro W hL e W ⟨x1,pa1,pn1,pc1,vj3,rfl,HTX2,HVJ3,hb⟩;replace hL:=hL.jn 0 hb;clear hb;have hF:=hL.fx))
   have HCJ2:=yh (fun W hB hb=>HCC.out b (j2+1) vj3 W hB hbb HVJ3 hb)
   cases hc:so ((TT tvs).drop (j2+1))with
   |bad er m2=>
    rw[hc]at HCJ2;have HB6:=yh (bH HB7.out hc);clear hc;go_wp2_with (first|(with_reducible refine zS ?_;intro W hL hF)|((with_reducible refine af 4 ?_);refine zE ?_;intro W hL hF;refine b' [0,1,2,3,4,5,6,7] [0,1,2,6] [5,7] [0,2,6] (by kernel_rfl) (by kernel_rfl) (sD (sC sN)) ?_;clear hF hL;intro Qp hQp;replace hQp:=yh hQp;intro ι F hne hC hFF;have hG:=fun n=>(hFF n).fx;clear hFF;(repeat(first|(refine cS ?_)|((first|refine cF hC ?_|refine cP ?_);intro K hK;go_big_quiet_op;go_big_quiet_on)|(refine cE ?_;intro W hL hF;go_at_call 162;(with_reducible refine(HCJ2.out _ (ag HB0.out hL HXB.out) hL.h0).mono ?_);rintro e W ⟨vj5,dj,rfl,hb⟩;replace hL:=hL.jn 0 hb;clear hb hF;have hF:=hL.fx;refine⟨_,rfl,hQp.out _ _ ?_⟩;clear hQp;intro a' ha;simp only[Exit.then,Exit.inBlock];show Leaves _ _ _ _ a'.defers _ _;rw[ha];show gE W0 b d g o cap tvs w PL _ _;rw[HB6.out];exact⟨vj5,dj,rfl,hL.pm⟩)|(refine cM ?_;intro W hL hF;go_wp2;refine zB2 ?_;clear hL hC hG;intro ι F hne hC hG)));((done))))
   |ok y r2=>
    rw[hc]at HCJ2;have HB6:=yh (cx HB7.out hc);clear hc;go_wp2_with (first|(with_reducible refine zS ?_;intro W hL hF)|((with_reducible refine af 4 ?_);refine zX [0,1,2,3,4,5,6,7] [5,7] ?_ (sD (sC sN));clear hF hL;intro ι F hne hC hG;(repeat(first|(refine cS ?_)|((first|refine cF hC ?_|refine cP ?_);intro K hK;go_big_quiet_op;go_big_quiet_on)|(refine cD ?_;intro W hL hF;go_at_call 162;(with_reducible refine(HCJ2.out _ (ag HB0.out hL HXB.out) hL.h0).mono ?_);rintro e W ⟨nm2,aa2,na2,ca2,aw2,nw2,cw2,ar2,nr2,cr2,ak2,nk2,ck2,LN,j5,vj5,rfl,HN,HJ5,hb⟩;replace hL:=hL.jn 0 hb;clear hb hF;have hF:=hL.fx;replace hL:=hL.in1;clear hF;have hF:=hL.fx;refine bM ?_;((refine a_ _ (by repeat' (first|(with_reducible exact List.nil_sublist _)|(with_reducible apply List.Sublist.cons_cons)|(with_reducible apply List.Sublist.cons))) ?_;clear hL hF));simp only[Act.put,zT])|(refine cM ?_;intro W hL hF;at_builtin;(refine ah rfl _ _ 39 39 rfl (_::_::_::_::(LN++LC)) LK hL ks.length 1 (ks.flatMap (·.2)) [.int .i64 (y.kind:Int),.string nm2,.bool y.neg,.slice aa2 na2 ca2,.slice aw2 nw2 cw2,.slice ar2 nr2 cr2,.slice ak2 nk2 ck2] _ _ HRK.out rfl rfl (fun ho=>bV rfl (fun j u hu=>by rw[Go.WideShapes.add_plain,Nat.zero_add,aK hL m0];simpa using hu) (by intro u hu;simp only[List.mem_cons,List.not_mem_nil,or_false]at hu;rcases hu with rfl|rfl|rfl|rfl|rfl|rfl|rfl<;>rfl) (by omega) ho) ?_);intro LP3 a3 c3 W3 hL2 hr3;clear hL hF;have hL:=hL2;clear hL2;simp only[List.append_eq,List.cons_append,List.nil_append]at hL;have hF:=hL.fx;go_wp2;refine zB2 ?_;clear hL hF hC hG;intro ι F hne hC hG)|(refine cM ?_;intro W hL hF;go_wp2;refine ai ?_;(first|(refine bO _ (by rfl) ?_;clear hL hF hC hG;intro ι F hne hC hFF;have hG:=fun n=>(hFF n).fx;clear hFF)|(refine a_ _ (by repeat' (first|(with_reducible exact List.nil_sublist _)|(with_reducible apply List.Sublist.cons_cons)|(with_reducible apply List.Sublist.cons))) ?_;clear hL hF)))));refine zN ?_;clear hC hG;intro W hL hF))
    refine dq ?_;clear hF hL;intro W hL;simp only[kfb]at hL;have hF:=hL.fx;simp only[bodyPostD];simp[Leaves,settle,results,Tryz.results138,go_sem,hF];rw[HB6.out,HJ5.out.2];exact oP HX5.out HR1.out HR2.out HKS.out HN.out hr3 HJ5.out.1 hL.pm
section
variable {W0:World} {g o cap:Nat} {tvs:List (Tok×Value)} (E:PEnv W0 g o cap tvs)
theorem kS(E:PEnv W0 g o cap tvs){d k:Nat}(hc:cL W0 g o cap tvs 105 d (lev k).cmd):cL W0 g o cap tvs 26 d (cj (lev k).cmd):=
 AP E (it:=item (pipe (lev k).cmd)) (jL (fS (fU k).1)) (AM E (fS (fU k).1) (AL E (fU k).1 hc))
theorem kT(E:PEnv W0 g o cap tvs){d k:Nat}(hc:cL W0 g o cap tvs 105 d (lev k).cmd):cL W0 g o cap tvs 162 d (eA (lev k).cmd):=AQ E (li:=cj (lev k).cmd) (kS E hc)
theorem z'(E:PEnv W0 g o cap tvs):∀(k d:Nat),d+k=20->cL W0 g o cap tvs 105 d (lev k).cmd/\gZ W0 g o cap tvs 138 d (lev k).conds/\jw W0 g o cap tvs d (lev k).comp
 |0,d,hd=>by
  obtain rfl:d=20:=by omega
  have h1:jw W0 g o cap tvs 20 (lev 0).comp:=lC E rfl;have h2:cL W0 g o cap tvs 105 20 (lev 0).cmd:=lY E (inner:=none) h1 (lB E rfl);exact⟨h2,iK E (inner:=none) rfl (kT E (k:=0) h2),h1⟩
 |k+1,d,hd=>by
  obtain⟨i1,i2,i3⟩:=z' E k (d+1) (by omega);have hl:=kS E i1;have hs:=kT E i1;have h1:jw W0 g o cap tvs d (lev (k+1)).comp:=qO E (by omega) (bo:=iC (cj (lev k).cmd) (eA (lev k).cmd) (lev k).conds) (fun bk=>by
   cases bk
   ·exact qC E hs
   ·exact yi E hs
   ·exact i2
   ·exact yb E hs
   ·exact yg E hs
   ·exact A4 E hs
   ·exact vm E (qk (jM (fU k).1)) (BQ E hl))
  have h2:cL W0 g o cap tvs 105 d (lev (k+1)).cmd:=lY E (inner:=some (lev k).comp) h1 (qN E (by omega) i3);exact⟨h2,iK E (inner:=some (lev k).conds) ⟨by omega,i2⟩ (kT E (k:=k+1) h2),h1⟩
end
end
end Go.Proofs.YtgboffbbpmileaaGreatDoor
