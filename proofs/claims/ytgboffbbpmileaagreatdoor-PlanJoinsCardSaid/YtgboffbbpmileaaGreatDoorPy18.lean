/- Lemmas and walks for the law VLawPJoins (part 18). -/
import Derived.Test.YtgboffbbpmileaaGreatDoorPy17
import Derived.Test.YtgboffbbpmileaaGreatDoorProg
import Derived.WalkKit
import Derived.Handy
import Derived.Deep.Light
import Derived.WalkSmall
import Derived.StillTailTactics
import Derived.Lib.Hide
import Derived.Defers
import Derived.Deep.DeepCutAuto
set_option maxRecDepth 20000
set_option maxHeartbeats 4000000
set_option linter.unusedVariables false
set_option linter.unusedSimpArgs false
namespace Go.Proofs.YtgboffbbpmileaaGreatDoor
open Go Go.RowKit
theorem xf{W0:World}{w9:Wd}{l:Am}{r9:Ws}(hw9:bL W0 w9)(hl:l.alla (bL W0) (cI W0))(hsz:l.nds.length<=100000):MkF W0 64 (Tr.case_ w9 l r9).nd (cwt w9.ps+Nd.cos l.nds+7) (fun s=>((l.gb (((l.gm ((w9.g s).add {op:=19,w:=w9.ps}) []).1.op 5 0).op 1 0) (l.gm ((w9.g s).add {op:=19,w:=w9.ps}) []).2 [((l.gm ((w9.g s).add {op:=19,w:=w9.ps}) []).1.op 5 0).n]).1.heres (l.gb (((l.gm ((w9.g s).add {op:=19,w:=w9.ps}) []).1.op 5 0).op 1 0) (l.gm ((w9.g s).add {op:=19,w:=w9.ps}) []).2 [((l.gm ((w9.g s).add {op:=19,w:=w9.ps}) []).1.op 5 0).n]).2).op 21 0):=by
 refine MkF.mk ?_
 intro LZ b s ao cap LP w X9 kz nm ng na nw nr nk aa ca aw cw9 ar cr ak ck hm HKZ HNM HNG HNA HNW HNR HNK HN HM HWB hL
 have hF:=hL.fx
 go_enter Tryz.func64,Tryz.ntmps64
 have hnk:l.nds.length=nk:=HNK.out
 rw[hnk]at hsz
 have HN9:=yh hnk
 have HOK:=yh (⟨hl,rfl⟩:l.alla (bL W0) (cI W0)/\l.nds=l.nds.drop 0)
 have HM9:Hid (s.n+(cwt w9.ps+(l.wb+l.bb)+7)<=900000):=yh (by have h:=qY l;omega)
 have hnw1:0<nw:=by rw[<- HNW.out];simp[Tr.nd,Nd.ws]
 have HX1:=yh hw9.1.1
 unfold MkW at HX1
 have HX2:=yh hw9.1.2
 clear hnk hm hl hw9
 obtain⟨qw,ow,pv,hga,gx,gl,c0,hpw⟩:=(sn HN.out).at (j:=0) (ps:=w9.ps) (by simp only[Tr.nd];rfl)
 subst hga
 have HPV:=yh hpw
 obtain⟨pa,pn,pc,hpv⟩:∃a n c,pv=.slice a n c:=by
  obtain⟨a,c,h,_⟩:=id hpw;exact⟨a,_,c,h⟩
 subst hpv
 have HW0:Hid (CelO (b::keys LP) w qw ow [.slice pa pn pc]):=yh ⟨gx,gl,fun c x hx=>by
  match c,hx with
  |0,hx=>obtain rfl:=Option.some.inj hx;exact c0⟩
 clear hpw gx gl c0
 go_upto_region 1 with(fail)
 (with_reducible refine zT1 HWB.out HM.out ?_);clear hF;clear hL HM HWB;intro W HB HM HWB hJ hL hF;replace HN:=cy HN hJ;replace HPV:=cy HPV hJ;replace HW0:=yh (HW0.out.mk2 hJ);clear hJ
 have n0:=HB.out.c7
 have wq:=HW0.out.2.1;have wx:=HW0.out.1;simp only[List.mem_cons,not_or]at wx;have w00:=HW0.out.2.2 0 _ rfl;rw[Nat.add_zero]at w00
 go_wp2_with (first|(with_reducible refine zS ?_;intro W hL hF)|(first|(go_at_call 67;(with_reducible refine zK [] HWB.out HM.out (fun W hL hS hN=>HX1.out b _ ao cap LP _ _ (by have h0:=HM9.out;simp only[nO]at *;omega) hS hN (HPV.out.at_ hL)) ?_);clear hF hL HWB HM;intro W ao cap LP HWB HM hJ hL hF;replace HN:=cy HN hJ;replace HB:=cy HB hJ;replace HPV:=cy HPV hJ;replace HW0:=yh (HW0.out.mk2 hJ);clear hJ;clear n0;have n0:=HB.out.c7;clear wq wx w00;have wq:=HW0.out.2.1;have wx:=HW0.out.1;simp only[List.mem_cons,not_or]at wx;have w00:=HW0.out.2.2 0 _ rfl;rw[Nat.add_zero]at w00)|(go_at_call 30;(with_reducible refine zK [] HWB.out HM.out (fun W hL hS hN=>gk W0 b _ ao cap LP _ {op:=19,w:=w9.ps} 19 0 0 ⟨#[]⟩ _ rfl rfl rfl rfl (HPV.out.at_ hL) (by have h0:=HM9.out;have h1:=HX2.out s;omega) hS hN.w) ?_);clear hF hL HWB HM;intro W ao cap LP HWB HM hJ hL hF;replace HN:=cy HN hJ;replace HB:=cy HB hJ;clear hJ;clear n0;have n0:=HB.out.c7)))
 clear HPV HW0 wq wx w00
 go_loopw [4,33] (fun av z wr=>∃(k:Nat) (r:Am) (s2:PS) (hs:List (List Nat)) (xs:List Value) (LA:List (Nat×Obj)) (aa9:Option Addr) (ca9:Nat) (ao:Option Addr) (cap:Nat) (LP:List (Nat×Obj)),av=.slice aa9 k ca9/\z=.int .i64 k/\k<=nk/\Hid (r.alla (bL W0) (cI W0)/\r.nds=l.nds.drop k/\l.gm ((w9.g s).add {op:=19,w:=w9.ps}) []=r.gm s2 hs/\(∀ks∈hs,ks.length<=900000/\∀q∈ks,q<s2.n)/\hs.length=k)/\Hid (s2.n+r.wb<=s.n+cwt w9.ps+1+l.wb)/\Kn X9 w wr ((b,.cells #[.slice ao s2.n cap,.int .i64 (s2.i:Int),.int .i64 (s2.e:Int)] 81 (0,0))::LP)/\Hid (MkQ W0 (LA++LZ) wr b s2 (.slice ao s2.n cap) LP)/\Hid (NodeIs (b::keys LP) wr (Tr.case_ w9 l r9).nd [.int .i64 kz,.string nm,.bool ng,.slice aa na ca,.slice (some ⟨qw,ow,none⟩) nw cw9,.slice ar nr cr,.slice ak nk ck])/\Hid (CelY (b::keys LP) wr w.heap.size [.int .i64 kz,.string nm,.bool ng,.slice aa na ca,.slice (some ⟨qw,ow,none⟩) nw cw9,.slice ar nr cr,.slice ak nk ck])/\Hid (RowL 1 132 LA (.slice aa9 k ca9) k xs)/\Hid (FRows b (b::keys LP) wr xs hs)) (fun _ z _=>nk-(intOf z).toNat)
 case atStart=>exact⟨0,l,((w9.g s).add {op:=19,w:=w9.ps}),[],[],[],none,0,ao,cap,LP,rfl,rfl,Nat.zero_le _,yh ⟨HOK.out.1,HOK.out.2,rfl,fun ks h=>(by cases h),rfl⟩,yh (by have h:=HX2.out s;rw[bt];omega),HWB.out,HM,HN,HB,yh RowL.nil,yh FRows.nil⟩
 case round=>
  clear HWB HM HN HB HX1 HX2;obtain⟨k,r,s2,hs,xs,LA,aa9,ca9,ao,cap,LP,rfl,rfl,hk,HR,HB9,hWB,HM,HN,HB,HRA,HFR⟩:=hrel;have HWB:=yh hWB;clear hL hF hWB n0;have hL:=Kn.self0q HWB.out;have hF:=hL.fx;have n0:=HB.out.c7
  cases r with
  |nil=>
   have hkn:nk=k:=by
    have h:=congrArg List.length HR.out.2.1;rw[List.length_drop,HN9.out]at h;simp only[Am.nds,List.length_nil]at h;omega
   subst hkn;have HGM:Hid (l.gm ((w9.g s).add {op:=19,w:=w9.ps}) []=(s2,hs)):=yh (by rw[HR.out.2.2.1];simp only[Am.gm]);have HB1:Hid (s2.n<=s.n+cwt w9.ps+1+l.wb):=yh (by have h:=HB9.out;simp only[Am.wb]at h;omega);obtain⟨LC,hLC,hzt⟩:=HM.out.open;subst hLC;have hJ:=hL.drC;have hA:=hL.drE;have HAR:Hid (ARow (b::keys (LC++LZ)) wr (.slice aa9 nk ca9) xs):=yh (HRA.out.row1 hA);have h2:=yh (HM.out.rez hJ fun p hp=>hzt p (List.mem_append_right _ hp));clear HM;have HM:=h2;clear h2 hzt;replace HN:=cy HN hJ;replace HB:=cy HB hJ;replace HFR:=yh (HFR.out.mk2 hJ);have h2:=yh (HWB.out.tail0 hJ);clear HWB;have HWB:=h2;clear h2 hJ hA HRA;obtain⟨LP,hLP⟩:∃x,LC++LZ=x:=⟨_,rfl⟩;rw[hLP]at HWB HM HN HB HFR HAR;clear hLP hF hL;have hL:=Kn.self0q HWB.out;have hF:=hL.fx;clear n0;have n0:=HB.out.c7;go_upto_region 18 with(first|(go_at_call 66;(with_reducible refine zK [] HWB.out HM.out (fun W hL hS hN=>bW 5 0 5 rfl W0 b _ ao cap LP _ (by have h0:=HM9.out;have h1:=HB1.out;omega) hS hN) ?_);clear hF hL HWB HM;intro W ao cap LP HWB HM hJ hL hF;replace HN:=cy HN hJ;replace HB:=cy HB hJ;replace HFR:=yh (HFR.out.mk2 hJ);replace HAR:=yh (HAR.out.mk2 hJ);clear hJ;clear n0;have n0:=HB.out.c7)|(go_at_call 91;(with_reducible refine zJ [] HWB.out HM.out (fun W hL hS hN=>wY W0 b _ ao cap LP _ (by have h0:=HM9.out;have h1:=HB1.out;simp only[nO]at *;omega) hS hN) ?_);clear hF hL HWB HM;intro V ao cap LP hp9 hq9 HP HQ HWB HM hJ hL hF;replace HN:=cy HN hJ;replace HB:=cy HB hJ;replace HFR:=yh (HFR.out.mk2 hJ);replace HAR:=yh (HAR.out.mk2 hJ);clear hJ;clear n0;obtain⟨LC,hLC,hzt⟩:=HM.out.open;have HZT:=yh hzt;subst hLC;clear hzt))
   refine jj ?_;clear hF hL;intro W hL;have hJ:=hL.ptC;have HRE:=yh (zu (e:=1) (g:=V.heap.size) (v:=.func (.func 106) #[] #[.pointer (some ⟨hp9,0,none⟩),.pointer (some ⟨hq9,0,none⟩)]));have HJ:Hid (JVs b (b::keys (LC++([(V.heap.size,.cells #[.func (.func 106) #[] #[.pointer (some ⟨hp9,0,none⟩),.pointer (some ⟨hq9,0,none⟩)]] 1 (0,0))]++LZ))) W [.func (.func 106) #[] #[.pointer (some ⟨hp9,0,none⟩),.pointer (some ⟨hq9,0,none⟩)]] [(s2.op 5 0).n]):=yh ((JVs.nil.snoc ⟨hp9,hq9,rfl,HP.out,HQ.out⟩).mk2 hJ);have h2:=yh (HM.out.rez hJ fun p hp=>by
    rcases List.mem_append.1 hp with hp|hp
    ·exact HRE.out.typed (by decide) p hp
    ·exact HZT.out p hp);clear HM;have HM:=h2;clear h2 HZT HP HQ
   replace HN:=cy HN hJ;replace HB:=cy HB hJ;replace HFR:=yh (HFR.out.mk2 hJ);replace HAR:=yh (HAR.out.mk2 hJ);have h2:=yh (HWB.out.tail0 hJ);clear HWB;have HWB:=h2;clear h2 hJ hL;obtain⟨LE,hLE⟩:∃x,[(V.heap.size,Obj.cells #[.func (.func 106) #[] #[.pointer (some ⟨hp9,0,none⟩),.pointer (some ⟨hq9,0,none⟩)]] 1 (0,0))]=x:=⟨_,rfl⟩;obtain⟨ve9,hve9⟩:∃x,V.heap.size=x:=⟨_,rfl⟩;rw[hLE]at HWB HM HN HB HFR HAR HRE HJ;rw[hve9]at HRE |-
   obtain⟨LP,hLP⟩:∃x,LC++(LE++LZ)=x:=⟨_,rfl⟩;rw[hLP]at HWB HM HN HB HFR HAR HJ;clear hLP hLE hve9;have hL:=Kn.self0q HWB.out;have hF:=hL.fx;have n0:=HB.out.c7;go_wp2;go_loopw [10,69] (fun ev z wr2=>∃(k2:Nat) (r2:Am) (s3:PS) (es:List Nat) (fs:List Value) (LE:List (Nat×Obj)) (ae:Option Addr) (ce:Nat) (ao:Option Addr) (cap:Nat) (LP:List (Nat×Obj)),ev=.slice ae (k2+1) ce/\z=.int .i64 k2/\k2<=nk/\Hid (r2.alla (bL W0) (cI W0)/\r2.nds=l.nds.drop k2/\l.gb ((s2.op 5 0).op 1 0) hs [(s2.op 5 0).n]=r2.gb s3 (hs.drop k2) es/\(∀q∈es,q<s3.n)/\es.length=k2+1/\s2.n<=s3.n)/\Hid (s3.n+r2.bb<=s.n+cwt w9.ps+3+l.wb+l.bb)/\Kn X9 w wr2 ((b,.cells #[.slice ao s3.n cap,.int .i64 (s3.i:Int),.int .i64 (s3.e:Int)] 81 (0,0))::LP)/\Hid (MkQ W0 (LE++LZ) wr2 b s3 (.slice ao s3.n cap) LP)/\Hid (NodeIs (b::keys LP) wr2 (Tr.case_ w9 l r9).nd [.int .i64 kz,.string nm,.bool ng,.slice aa na ca,.slice (some ⟨qw,ow,none⟩) nw cw9,.slice ar nr cr,.slice ak nk ck])/\Hid (CelY (b::keys LP) wr2 w.heap.size [.int .i64 kz,.string nm,.bool ng,.slice aa na ca,.slice (some ⟨qw,ow,none⟩) nw cw9,.slice ar nr cr,.slice ak nk ck])/\Hid (RowL 1 1 LE (.slice ae (k2+1) ce) (k2+1) fs)/\Hid (JVs b (b::keys LP) wr2 fs es)/\Hid (ARow (b::keys LP) wr2 (.slice aa9 nk ca9) xs)/\Hid (FRows b (b::keys LP) wr2 xs hs)) (fun _ z _=>nk-(intOf z).toNat)
   case atStart=>exact⟨0,l,((s2.op 5 0).op 1 0),_,_,LE,_,_,ao,cap,LP,rfl,rfl,Nat.zero_le _,yh ⟨HOK.out.1,HOK.out.2,rfl,fun q hq=>(by rw[List.mem_singleton.1 hq];simp only[cd];omega),rfl,by simp only[cd];omega⟩,yh (by have:=HB1.out;simp only[cd];omega),HWB.out,HM,HN,HB,HRE,HJ,HAR,HFR⟩
   case round=>
    clear HWB HM HN HB HFR HAR HRE HJ;obtain⟨k2,r2,s3,es,fs,LE,ae,ce,ao,cap,LP,rfl,rfl,hk2,HR2,HB2,hWB,HM,HN,HB,HRL,HJ,HAR,HFR⟩:=hrel;have HWB:=yh hWB;clear hL hF hWB n0;have hL:=Kn.self0q HWB.out;have hF:=hL.fx;have n0:=HB.out.c7
    cases r2 with
    |nil=>
     have hkn:k2=nk:=by
      have h:=congrArg List.length HR2.out.2.1;rw[List.length_drop,HN9.out]at h;simp only[Am.nds,List.length_nil]at h;omega
     subst hkn;have HGB:Hid (l.gb ((s2.op 5 0).op 1 0) hs [(s2.op 5 0).n]=(s3,es)):=yh (by rw[HR2.out.2.2.1];simp only[Am.gb]);have HB3:Hid (s3.n<=s.n+cwt w9.ps+3+l.wb+l.bb):=yh (by have h:=HB2.out;simp only[Am.bb]at h;omega);obtain⟨LC,hLC,hzt⟩:=HM.out.open;subst hLC;have hJ:=hL.drC;have hA:=hL.drE;have HFE:Hid (FRow b (b::keys (LC++LZ)) wr (.slice ae (k2+1) ce) es):=yh ⟨fs,HRL.out.row1 hA,HJ.out.mk2 hJ⟩;have h2:=yh (HM.out.rez hJ fun p hp=>hzt p (List.mem_append_right _ hp));clear HM;have HM:=h2;clear h2 hzt;have h2:=yh (HWB.out.tail0 hJ);clear HWB;have HWB:=h2;clear h2 hJ hA HRL HN HB HFR HAR HJ;obtain⟨LP,hLP⟩:∃x,LC++LZ=x:=⟨_,rfl⟩;rw[hLP]at HWB HM HFE;clear hLP hF hL n0;obtain⟨n8,hn8⟩:∃x,k2+1=x:=⟨_,rfl⟩;rw[hn8]at HFE |-
     have HES:Hid (es.length=n8):=yh (by rw[<- hn8];exact HR2.out.2.2.2.2.1);have h8:n8<=100001:=by omega
     clear hn8;have hL:=Kn.self0q HWB.out;have hF:=hL.fx;go_wp2;go_loopw [103] (fun z wj=>∃(j:Nat) (s4:PS) (ao:Option Addr) (cap:Nat) (LP:List (Nat×Obj)),z=.int .i64 j/\j<=n8/\Hid (s3.heres es=s4.heres (es.drop j)/\s4.n=s3.n)/\Kn X9 w wj ((b,.cells #[.slice ao s4.n cap,.int .i64 (s4.i:Int),.int .i64 (s4.e:Int)] 81 (0,0))::LP)/\Hid (MkQ W0 LZ wj b s4 (.slice ao s4.n cap) LP)/\Hid (FRow b (b::keys LP) wj (.slice ae n8 ce) es)) (fun z _=>n8-(intOf z).toNat)
     case atStart=>exact⟨0,s3,ao,cap,LP,rfl,Nat.zero_le _,yh ⟨rfl,rfl⟩,HWB.out,HM,HFE⟩
     case round=>
      clear HWB HM HFE;obtain⟨j,s4,ao,cap,LP,rfl,hj,HR4,hWB,HM,HFE⟩:=hrel;have HWB:=yh hWB;clear hL hF hWB;have hL:=Kn.self0q HWB.out;have hF:=hL.fx;by_cases hjn:j<n8
      ·obtain⟨q8,hq8⟩:∃q,es[j]? =some q:=⟨_,List.getElem?_eq_getElem (by rw[HES.out];exact hjn)⟩
       obtain⟨g1,o1,p9,q9,hga,gx,gl,c0,hP,hQ⟩:=HFE.out.at hq8;subst hga;simp only[List.mem_cons,not_or]at gx;have HP:=yh hP;have HQ:=yh hQ;have HQK:Hid (q8<s4.n):=yh (by have:=HR2.out.2.2.2.1 q8 (List.mem_of_getElem? hq8);have:=HR4.out.2;omega);have HD4:Hid (es.drop j=q8::es.drop (j+1)):=yh (by obtain⟨h,e⟩:=List.getElem?_eq_some_iff.1 hq8;rw[List.drop_eq_getElem_cons h,e]);clear hP hQ hq8;go_wp2_with (first|(with_reducible refine zS ?_;intro W hL hF)|(go_at_call 106;(with_reducible refine zK [] HWB.out HM.out (fun W hL hS hN=>dX _ _ _ W0 b _ ao cap LP _ HQK.out (by have h0:=HM9.out;have h1:=HB3.out;have h2:=HR4.out.2;simp only[nO]at *;omega) (HP.out.mk2 (Kn.sub hL sR)) (HQ.out.mk2 (Kn.sub hL sR)) hS hN) ?_);clear hF hL HWB HM;intro W ao cap LP HWB HM hJ hL hF;replace HFE:=yh (HFE.out.mk2 hJ);clear hJ))
       refine⟨⟨j+1,s4.here q8,ao,cap,LP,by go_num,by omega,yh ⟨by rw[HR4.out.1,HD4.out];rfl,by rw[cV];exact HR4.out.2⟩,HWB.out,HM,HFE⟩,by simp[intOf];omega⟩
      ·have hjn2:j=n8:=by omega
       subst hjn2;have HS4:Hid (s3.heres es=s4/\s4.n=s3.n):=yh ⟨by rw[HR4.out.1,List.drop_of_length_le (by rw[HES.out];exact Nat.le_refl _)];rfl,HR4.out.2⟩;clear HFE HR4 hjn;go_wp2_with (first|(with_reducible refine zS ?_;intro W hL hF)|(go_at_call 66;(with_reducible refine zK [] HWB.out HM.out (fun W hL hS hN=>bW 21 0 21 rfl W0 b _ ao cap LP _ (by have h0:=HM9.out;have h1:=HB3.out;have h2:=HS4.out.2;simp only[nO]at *;omega) hS hN) ?_);clear hF hL HWB HM;intro W ao cap LP HWB HM hJ hL hF;clear hJ))
       refine bodyPost_end (by simp[results,Tryz.results64,go_sem, *];try rfl) rfl ?_;simp only[HGM.out,HGB.out,HS4.out.1];exact⟨ao,cap,LP,by first|rfl|trivial,HWB.out,HM⟩
    |cons aw9 b9 r2=>
    obtain⟨AN,hAN⟩:∃y,Nd.mk 13 [] false [] aw9.ws [] [b9.nd]=y:=⟨_,rfl⟩;have hnds:l.nds.drop k2=AN::r2.nds:=by rw[<- hAN];have h:=HR2.out.2.1;simp only[Am.nds]at h;exact h.symm
    obtain⟨HD1,HD2,HD3⟩:=bF hnds;have HD:Hid (l.nds.drop (k2+1)=r2.nds):=yh HD2;have hkn:k2<nk:=by rw[<- HN9.out];exact HD3
    obtain⟨gq,oq,dq0,dq1,dq2,dq3,dq4,dq5,dq6,keq,kxq,klq,kiq,HKNq,HKD,kq0,kq1,kq2,kq3,kq4,kq5,kq6⟩:=bC HN.out (i:=k2) (y:=AN) HD1;(first|subst keq|(injection keq with keq;injection keq with kfq kgq;subst kfq kgq))
    skip
    obtain⟨ya,yc,yw,yd,yr,ye,yk,yf,hcs⟩:=dh HKD.out;obtain⟨yu,hyu⟩:∃u:ByteArray,bs (AN).name=.string u:=⟨_,rfl⟩;rw[hyu]at hcs;simp only[List.cons.injEq,and_true]at hcs;obtain⟨rfl,rfl,rfl,rfl,rfl,rfl,rfl⟩:=hcs;clear hyu;clear HD1 HD2 HD3 HKNq hnds;have HAK:Hid (AN.kids=[b9.nd]):=yh (by rw[<- hAN];rfl);obtain⟨nw2,hnw2⟩:∃n,AN.ws.length=n:=⟨_,rfl⟩;obtain⟨nk2,hnk2⟩:∃n,AN.kids.length=n:=⟨_,rfl⟩;rw[hnw2]at HKD kq4;rw[hnk2]at HKD kq6;clear hAN hnw2 hnk2;obtain⟨ks,hks⟩:∃ks,hs[k2]? =some ks:=⟨_,List.getElem?_eq_getElem (by have:=HR.out.2.2.2.2;omega)⟩;obtain⟨v9,hv9⟩:∃v,xs[k2]? =some v:=⟨_,List.getElem?_eq_getElem (by have:=HR.out.2.2.2.2;have:=HFR.out.1;omega)⟩;have HFK:=yh (HFR.out.2 k2 v9 ks hv9 hks);obtain⟨ak9,ck9,hv⟩:=HFK.out.len;subst hv;obtain⟨n9,hn9⟩:∃n,ks.length=n:=⟨_,rfl⟩;have HKL:=yh hn9;rw[hn9]at HFK hv9;have HKS:=yh hks;have hn9b:n9<=900000:=by rw[<- hn9];exact(HR.out.2.2.2.1 ks (List.mem_of_getElem? hks)).1
    have HCX:Hid (s3.n+(b9.nd.co+r2.bb)<=s.n+cwt w9.ps+3+l.wb+l.bb):=yh (by have h:=HB2.out;simp only[Am.bb]at h;exact h);have HX0:Hid (cI W0 b9):=yh (by have h:=HR2.out.1;simp only[Am.alla]at h;exact h.2.1);have HX3:=yh HX0.out.1;unfold MkF at HX3;have HX2:=yh HX0.out.2;clear hks hn9;obtain⟨g,o,hga,_,_,_⟩:=HAR.out.at hv9;subst hga;go_upto_region 21 with(fail)
    (with_reducible refine zT1 HWB.out HM.out ?_);clear hF;clear hL HM HWB;intro W HK HM HWB hJ hL hF;replace HN:=cy HN hJ;replace HB:=cy HB hJ;replace HKD:=cy HKD hJ;replace HFR:=yh (HFR.out.mk2 hJ);replace HJ:=yh (HJ.out.mk2 hJ);replace HAR:=yh (HAR.out.mk2 hJ);replace HFK:=yh (HFK.out.mk2 hJ);clear hJ
    clear n0 kxq klq kiq kq0 kq1 kq2 kq3 kq4 kq5 kq6;obtain⟨g9,o9,hga,gx,gl,c0⟩:=HAR.out.at hv9;injection hga with hga
    injection hga with hg9 ho9
    subst hg9 ho9;simp only[List.mem_cons,not_or]at gx;have n0:=HB.out.c7;obtain⟨hq,hx,h0,h1,h2,h3,h4,h5,h6⟩:=HK.out.c7;clear hv9;go_wp2;go_loopw [79] (fun z wj=>∃(j:Nat) (s4:PS) (ao:Option Addr) (cap:Nat) (LP:List (Nat×Obj)),z=.int .i64 j/\j<=n9/\Hid (s3.heres ks=s4.heres (ks.drop j)/\s4.n=s3.n)/\Kn X9 w wj ((b,.cells #[.slice ao s4.n cap,.int .i64 (s4.i:Int),.int .i64 (s4.e:Int)] 81 (0,0))::LP)/\Hid (MkQ W0 (LE++LZ) wj b s4 (.slice ao s4.n cap) LP)/\Hid (NodeIs (b::keys LP) wj (Tr.case_ w9 l r9).nd [.int .i64 kz,.string nm,.bool ng,.slice aa na ca,.slice (some ⟨qw,ow,none⟩) nw cw9,.slice ar nr cr,.slice (some ⟨gq,oq,none⟩) nk ck])/\Hid (CelY (b::keys LP) wj w.heap.size [.int .i64 kz,.string nm,.bool ng,.slice aa na ca,.slice (some ⟨qw,ow,none⟩) nw cw9,.slice ar nr cr,.slice (some ⟨gq,oq,none⟩) nk ck])/\Hid (CelY (b::keys LP) wj wr.heap.size [.int .i64 ((AN.kind:Nat):Int),.string yu,.bool AN.neg,.slice ya AN.asg.length yc,.slice yw nw2 yd,.slice yr AN.rs.length ye,.slice yk nk2 yf])/\Hid (NodeIs (b::keys LP) wj AN [.int .i64 ((AN.kind:Nat):Int),.string yu,.bool AN.neg,.slice ya AN.asg.length yc,.slice yw nw2 yd,.slice yr AN.rs.length ye,.slice yk nk2 yf])/\Hid (JVs b (b::keys LP) wj fs es)/\Hid (ARow (b::keys LP) wj (.slice (some ⟨g,o,none⟩) nk ca9) xs)/\Hid (FRows b (b::keys LP) wj xs hs)/\Hid (FRow b (b::keys LP) wj (.slice ak9 n9 ck9) ks)) (fun z _=>n9-(intOf z).toNat)
    case atStart=>exact⟨0,s3,ao,cap,LP,rfl,Nat.zero_le _,yh ⟨rfl,rfl⟩,HWB.out,HM,HN,HB,HK,HKD,HJ,HAR,HFR,HFK⟩
    case round=>
     clear HWB HM HN HB HK HKD HFR HJ HAR HFK c0 gx gl;obtain⟨j,s4,ao,cap,LP,rfl,hj,HR4,hWB,HM,HN,HB,HK,HKD,HJ,HAR,HFR,HFK⟩:=hrel;have HWB:=yh hWB;clear hL hF hWB n0 hq hx h0 h1 h2 h3 h4 h5 h6;have hL:=Kn.self0q HWB.out;have hF:=hL.fx;by_cases hjn:j<n9
     ·obtain⟨q8,hq8⟩:∃q,ks[j]? =some q:=⟨_,List.getElem?_eq_getElem (by rw[HKL.out];exact hjn)⟩
      obtain⟨g1,o1,p9,q9,hga,gx,gl,c0,hP,hQ⟩:=HFK.out.at hq8;subst hga;simp only[List.mem_cons,not_or]at gx;have HP:=yh hP;have HQ:=yh hQ;have HQK:Hid (q8<s4.n):=yh (by have:=(HR.out.2.2.2.1 ks (List.mem_of_getElem? HKS.out)).2 q8 (List.mem_of_getElem? hq8);have:=HR2.out.2.2.2.2.2;have:=HR4.out.2;omega);have HD4:Hid (ks.drop j=q8::ks.drop (j+1)):=yh (by obtain⟨h,e⟩:=List.getElem?_eq_some_iff.1 hq8;rw[List.drop_eq_getElem_cons h,e]);clear hP hQ hq8;go_wp2_with (first|(with_reducible refine zS ?_;intro W hL hF)|(go_at_call 106;(with_reducible refine zK [] HWB.out HM.out (fun W hL hS hN=>dX _ _ _ W0 b _ ao cap LP _ HQK.out (by have h0:=HM9.out;have h1:=HCX.out;have h2:=HR4.out.2;simp only[nO]at *;omega) (HP.out.mk2 (Kn.sub hL sR)) (HQ.out.mk2 (Kn.sub hL sR)) hS hN) ?_);clear hF hL HWB HM;intro W ao cap LP HWB HM hJ hL hF;replace HN:=cy HN hJ;replace HB:=cy HB hJ;replace HK:=cy HK hJ;replace HKD:=cy HKD hJ;replace HJ:=yh (HJ.out.mk2 hJ);replace HAR:=yh (HAR.out.mk2 hJ);replace HFR:=yh (HFR.out.mk2 hJ);replace HFK:=yh (HFK.out.mk2 hJ);clear hJ))
      refine⟨⟨j+1,s4.here q8,ao,cap,LP,by go_num,by omega,yh ⟨by rw[HR4.out.1,HD4.out];rfl,by rw[cV];exact HR4.out.2⟩,HWB.out,HM,HN,HB,HK,HKD,HJ,HAR,HFR,HFK⟩,by simp[intOf];omega⟩
     ·have hjn2:j=n9:=by omega
      subst hjn2;have HS4:Hid (s3.heres ks=s4/\s4.n=s3.n):=yh ⟨by rw[HR4.out.1,List.drop_of_length_le (by rw[HKL.out];exact Nat.le_refl _)];rfl,HR4.out.2⟩;clear HFK HR4 hjn;obtain⟨hq,hx,h0,h1,h2,h3,h4,h5,h6⟩:=HK.out.c7;go_wp2_with (first|(with_reducible refine zS ?_;intro W hL hF)|(at_builtin;refine dQ ?_;clear hF hL;intro W hL;have hF:=hL.fx;replace hL:=(Kn.rotC hL);clear hF;have hF:=hL.fx;(refine ah rfl _ _ 132 132 rfl (_::_::(LC++LZ)) LE hL (k2+1) 1 fs [.func (.func 106) #[] #[.pointer (some ⟨hp9,0,none⟩),.pointer (some ⟨hq9,0,none⟩)]] _ _ HRL.out rfl rfl (fun ho=>g_ rfl (fun j u hu=>by rw[Go.WideShapes.add_plain,Nat.zero_add,aK hL m0];simpa using hu) (by intro u hu;simp only[List.mem_cons,List.not_mem_nil,or_false]at hu;subst hu;rfl) (by omega) ho) ?_);intro LP3 a3 c3 W3 hL2 hr3;clear hL hF;have hL:=hL2;clear hL2;simp only[List.append_eq,List.cons_append,List.nil_append]at hL;have hF:=hL.fx)|(first|(go_at_call 66;(with_reducible refine zK [] HWB.out HM.out (fun W hL hS hN=>bW 5 0 5 rfl W0 b _ ao cap LP _ (by have h0:=HM9.out;have h1:=HCX.out;have h2:=HS4.out;simp only[nO]at *;omega) hS hN) ?_);clear hF hL HWB HM;intro W ao cap LP HWB HM hJ hL hF;replace HN:=cy HN hJ;replace HB:=cy HB hJ;replace HK:=cy HK hJ;replace HKD:=cy HKD hJ;replace HFR:=yh (HFR.out.mk2 hJ);replace HJ:=yh (HJ.out.mk2 hJ);replace HAR:=yh (HAR.out.mk2 hJ);clear hJ hq hx h0 h1 h2 h3 h4 h5 h6;obtain⟨hq,hx,h0,h1,h2,h3,h4,h5,h6⟩:=HK.out.c7;obtain⟨gz,oz,dz0,dz1,dz2,dz3,dz4,dz5,dz6,kez,kxz,klz,kiz,HKNz,HDz,kz0,kz1,kz2,kz3,kz4,kz5,kz6⟩:=bC HKD.out (i:=0) (y:=b9.nd) (by rw[HAK.out];rfl);(first|subst kez|(injection kez with kez;injection kez with kfz kgz;subst kfz kgz));simp only[Nat.zero_mul,Nat.add_zero]at kz0)|(go_at_call 29;(with_reducible refine zK [] HWB.out HM.out (fun W hL hS hN=>HX3.out b _ ao cap LP _ _ (by have h0:=HM9.out;have h1:=HCX.out;have h2:=HS4.out;simp only[nO]at *;omega) hS hN (HDz.out.at_ hL)) ?_);clear hF hL HWB HM;intro W ao cap LP HWB HM hJ hL hF;replace HN:=cy HN hJ;replace HB:=cy HB hJ;replace HK:=cy HK hJ;replace HKD:=cy HKD hJ;replace HFR:=yh (HFR.out.mk2 hJ);replace HJ:=yh (HJ.out.mk2 hJ);replace HAR:=yh (HAR.out.mk2 hJ);clear hJ)|(go_at_call 91;(with_reducible refine zJ [] HWB.out HM.out (fun W hL hS hN=>wY W0 b _ ao cap LP _ (by have h0:=HM9.out;have h1:=HCX.out;have h2:=HS4.out;have h3:=HX2.out (s4.op 5 0);simp only[nO]at *;omega) hS hN) ?_);clear hF hL HWB HM;intro W ao cap LP hp9 hq9 HP HQ HWB HM hJ hL hF;replace HN:=cy HN hJ;replace HB:=cy HB hJ;replace HK:=cy HK hJ;replace HKD:=cy HKD hJ;replace HFR:=yh (HFR.out.mk2 hJ);replace HJ:=yh (HJ.out.mk2 hJ);replace HAR:=yh (HAR.out.mk2 hJ);clear hJ;obtain⟨LC,hLC,hzt⟩:=HM.out.open;have HZT:=yh hzt;subst hLC;clear hzt)))
      have hJ:=hL.unC;refine⟨⟨k2+1,r2,(b9.g (s4.op 5 0)).op 1 0,es++[(b9.g (s4.op 5 0)).n],fs++[.func (.func 106) #[] #[.pointer (some ⟨hp9,0,none⟩),.pointer (some ⟨hq9,0,none⟩)]],LP3,a3,c3,ao,cap,LC++(LP3++LZ),rfl,by go_num,by omega,yh ?_,yh ?_,HWB.out.tail0 hJ,yh (HM.out.rez hJ fun p hp=>?_),yh (HN.out.mk2 hJ),yh (HB.out.mk2 hJ),yh hr3,yh ((HJ.out.snoc ⟨hp9,hq9,rfl,HP.out,HQ.out⟩).mk2 hJ),yh (HAR.out.mk2 hJ),yh (HFR.out.mk2 hJ)⟩,by simp[intOf];omega⟩
      ·have h:=HR2.out
       simp only[Am.alla,Am.gb]at h;have h2:=HX2.out (s4.op 5 0);have h4:=HS4.out;rw[cd]at h2;obtain⟨hk9,e9⟩:=List.getElem?_eq_some_iff.1 HKS.out;have hdr:hs.drop k2=ks::hs.drop (k2+1):=by rw[List.drop_eq_getElem_cons hk9,e9]
       refine⟨h.1.2.2,HD.out.symm,?_,fun q hq=>?_,by rw[List.length_append,h.2.2.2.2.1];rfl,by rw[cd];omega⟩
       ·rw[h.2.2.1,hdr]
        simp only[List.headD_cons,List.tail_cons,h4.1];rfl
       ·rw[cd]
        rcases List.mem_append.1 hq with hq|hq
        ·have:=h.2.2.2.1 q hq;omega
        ·rw[List.mem_singleton.1 hq];omega
      ·have h1:=HCX.out
       have h2:=HX2.out (s4.op 5 0);have h4:=HS4.out;rw[cd]at h2 |-
       omega
      ·rcases List.mem_append.1 hp with hp|hp
       ·exact hr3.typed (by decide) p hp
       ·exact HZT.out p (List.mem_append_right _ hp)
  |cons aw9 b9 r=>
   obtain⟨AN,hAN⟩:∃y,Nd.mk 13 [] false [] aw9.ws [] [b9.nd]=y:=⟨_,rfl⟩;have hnds:l.nds.drop k=AN::r.nds:=by rw[<- hAN];have h:=HR.out.2.1;simp only[Am.nds]at h;exact h.symm
   obtain⟨HD1,HD2,HD3⟩:=bF hnds;have HD:Hid (l.nds.drop (k+1)=r.nds):=yh HD2;have hkn:k<nk:=by rw[<- HN9.out];exact HD3
   obtain⟨gq,oq,dq0,dq1,dq2,dq3,dq4,dq5,dq6,keq,kxq,klq,kiq,HKNq,HKD,kq0,kq1,kq2,kq3,kq4,kq5,kq6⟩:=bC HN.out (i:=k) (y:=AN) HD1;(first|subst keq|(injection keq with keq;injection keq with kfq kgq;subst kfq kgq))
   skip
   obtain⟨ya,yc,yw,yd,yr,ye,yk,yf,hcs⟩:=dh HKD.out;obtain⟨yu,hyu⟩:∃u:ByteArray,bs (AN).name=.string u:=⟨_,rfl⟩;rw[hyu]at hcs;simp only[List.cons.injEq,and_true]at hcs;obtain⟨rfl,rfl,rfl,rfl,rfl,rfl,rfl⟩:=hcs;clear hyu;clear HD1 HD2 HD3 HKNq hnds;have HAW:Hid (AN.ws=aw9.ws):=yh (by rw[<- hAN];rfl);have HAK:Hid (AN.kids=[b9.nd]):=yh (by rw[<- hAN];rfl);obtain⟨nw2,hnw2⟩:∃n,AN.ws.length=n:=⟨_,rfl⟩;obtain⟨nk2,hnk2⟩:∃n,AN.kids.length=n:=⟨_,rfl⟩;rw[hnw2]at HKD kq4;rw[hnk2]at HKD kq6;have HNW2:Hid (aw9.ws.length=nw2):=yh (by rw[<- HAW.out];exact hnw2);clear hAN hnw2 hnk2;have HCW:Hid (s2.n+(aw9.b+r.wb)<=s.n+cwt w9.ps+1+l.wb):=yh (by have h:=HB9.out;simp only[Am.wb]at h;exact h);have hnw2b:nw2<=900000:=by have h1:=su aw9;have h2:=HNW2.out;have h3:=HCW.out;have h4:=HM9.out;omega
   go_upto_region 7 with(fail)
   (with_reducible refine zT1 HWB.out HM.out ?_);clear hF;clear hL HM HWB;intro W HK HM HWB hJ hL hF;replace HN:=cy HN hJ;replace HB:=cy HB hJ;replace HKD:=cy HKD hJ;replace HFR:=yh (HFR.out.mk2 hJ);clear hJ
   clear n0 kxq klq kiq kq0 kq1 kq2 kq3 kq4 kq5 kq6;have n0:=HB.out.c7;obtain⟨hq,hx,h0,h1,h2,h3,h4,h5,h6⟩:=HK.out.c7;go_wp2;go_loopw [7,40] (fun lv z wi=>∃(j:Nat) (r2:Ws) (s3:PS) (ps:List Nat) (fs:List Value) (LL:List (Nat×Obj)) (al:Option Addr) (cl:Nat) (ao:Option Addr) (cap:Nat) (LP:List (Nat×Obj)),lv=.slice al j cl/\z=.int .i64 j/\j<=nw2/\Hid (r2.allw (bL W0)/\r2.ws=aw9.ws.drop j/\aw9.gw s2 []=r2.gw s3 ps/\(∀q∈ps,q<s3.n)/\s2.n<=s3.n/\ps.length=j)/\Hid (s3.n+r2.b<=s2.n+aw9.b)/\Kn X9 w wi ((b,.cells #[.slice ao s3.n cap,.int .i64 (s3.i:Int),.int .i64 (s3.e:Int)] 81 (0,0))::LP)/\Hid (MkQ W0 (LL++(LA++LZ)) wi b s3 (.slice ao s3.n cap) LP)/\Hid (NodeIs (b::keys LP) wi (Tr.case_ w9 l r9).nd [.int .i64 kz,.string nm,.bool ng,.slice aa na ca,.slice (some ⟨qw,ow,none⟩) nw cw9,.slice ar nr cr,.slice (some ⟨gq,oq,none⟩) nk ck])/\Hid (CelY (b::keys LP) wi w.heap.size [.int .i64 kz,.string nm,.bool ng,.slice aa na ca,.slice (some ⟨qw,ow,none⟩) nw cw9,.slice ar nr cr,.slice (some ⟨gq,oq,none⟩) nk ck])/\Hid (CelY (b::keys LP) wi wr.heap.size [.int .i64 ((AN.kind:Nat):Int),.string yu,.bool AN.neg,.slice ya AN.asg.length yc,.slice yw nw2 yd,.slice yr AN.rs.length ye,.slice yk nk2 yf])/\Hid (NodeIs (b::keys LP) wi AN [.int .i64 ((AN.kind:Nat):Int),.string yu,.bool AN.neg,.slice ya AN.asg.length yc,.slice yw nw2 yd,.slice yr AN.rs.length ye,.slice yk nk2 yf])/\Hid (RowL 1 1 LL (.slice al j cl) j fs)/\Hid (JVs b (b::keys LP) wi fs ps)/\Hid (FRows b (b::keys LP) wi xs hs)) (fun _ z _=>nw2-(intOf z).toNat)
   case atStart=>exact⟨0,aw9,s2,[],[],[],none,0,ao,cap,LP,rfl,rfl,Nat.zero_le _,yh ⟨(by have h:=HR.out.1;simp only[Am.alla]at h;exact h.1),rfl,rfl,fun q h=>(by cases h),Nat.le_refl _,rfl⟩,yh (Nat.le_refl _),HWB.out,HM,HN,HB,HK,HKD,yh RowL.nil,yh JVs.nil,HFR⟩
   case round=>
    clear HWB HM HN HB HK HKD HFR;obtain⟨j,r2,s3,ps,fs,LL,al,cl,ao,cap,LP,rfl,rfl,hj,HR2,HB2,hWB,HM,HN,HB,HK,HKD,HRL,HJ,HFR⟩:=hrel;have HWB:=yh hWB;clear hL hF hWB n0 hq hx h0 h1 h2 h3 h4 h5 h6;have hL:=Kn.self0q HWB.out;have hF:=hL.fx;have n0:=HB.out.c7;obtain⟨hq,hx,h0,h1,h2,h3,h4,h5,h6⟩:=HK.out.c7
    cases r2 with
    |nil=>
     have hjn:j=nw2:=by
      have h:=congrArg List.length HR2.out.2.1;rw[List.length_drop,HNW2.out]at h;simp only[Ws.ws,List.length_nil]at h;omega
     subst hjn;have HGW:Hid (aw9.gw s2 []=(s3,ps)):=yh (by rw[HR2.out.2.2.1];simp only[Ws.gw]);obtain⟨LC,hLC,hzt⟩:=HM.out.open;have HZT:=yh hzt;subst hLC;clear hzt;go_wp2_with (first|(with_reducible refine zS ?_;intro W hL hF)|(at_builtin;refine dQ ?_;clear hF hL;intro W hL;have hF:=hL.fx;replace hL:=(Kn.rotD hL);clear hF;have hF:=hL.fx;(refine ah rfl _ _ 131 131 rfl (_::_::(LC++(LL++LZ))) LA hL k 1 xs [.slice al j cl] _ _ HRA.out rfl rfl (fun ho=>lE rfl (fun j u hu=>by rw[Go.WideShapes.add_plain,Nat.zero_add,aK hL m0];simpa using hu) (by intro u hu;simp only[List.mem_cons,List.not_mem_nil,or_false]at hu;subst hu;rfl) (by omega) ho) ?_);intro LP3 a3 c3 W3 hL2 hr3;clear hL hF;have hL:=hL2;clear hL2;simp only[List.append_eq,List.cons_append,List.nil_append]at hL;have hF:=hL.fx))
     have hJ:=hL.unD;have hA:=hL.unE;have hFr:FRow b (b::keys (LC++(LP3++LZ))) W3 (.slice al j cl) ps:=⟨fs,HRL.out.row1 hA,HJ.out.mk2 hJ⟩;refine⟨⟨k+1,r,s3,hs++[ps],xs++[.slice al j cl],LP3,a3,c3,ao,cap,LC++(LP3++LZ),rfl,by go_num,by omega,yh ?_,yh ?_,HWB.out.tail0 hJ,yh (HM.out.rez hJ fun p hp=>?_),yh (HN.out.mk2 hJ),yh (HB.out.mk2 hJ),yh hr3,yh ((HFR.out.mk2 hJ).snoc hFr)⟩,by simp[intOf];omega⟩
     ·have h:=HR.out
      simp only[Am.alla,Am.gm,HGW.out]at h;refine⟨h.1.2.2,HD.out.symm,h.2.2.1,fun ks hks=>?_,by rw[List.length_append,h.2.2.2.2];rfl⟩;rcases List.mem_append.1 hks with hks|hks
      ·have h2:=h.2.2.2.1 ks hks
       exact⟨h2.1,fun q hq=>Nat.lt_of_lt_of_le (h2.2 q hq) HR2.out.2.2.2.2.1⟩
      ·rw[List.mem_singleton.1 hks]
       exact⟨by rw[HR2.out.2.2.2.2.2];exact hnw2b,HR2.out.2.2.2.1⟩
     ·have h1:=HCW.out
      have h2:=HB2.out;simp only[Ws.b]at h2;omega
     ·rcases List.mem_append.1 hp with hp|hp
      ·exact hr3.typed (by decide) p hp
      ·exact HZT.out p (List.mem_append_right _ (List.mem_append_right _ hp))
    |cons g x r2=>
     obtain⟨HD1,HD2,HD3⟩:=bF HR2.out.2.1.symm;have HE:Hid (aw9.ws.drop (j+1)=r2.ws):=yh HD2;have hjn:j<nw2:=by rw[<- HNW2.out];exact HD3
     obtain⟨q,o,pv,hga,gx,gl,c0,hpw⟩:=(sn HKD.out).at (by rw[HAW.out];exact HD1);clear HD1 HD2 HD3;subst hga;simp only[List.mem_cons,not_or]at gx;have HPV:=yh hpw;obtain⟨pa,pn,pc,hpv⟩:∃a n c,pv=.slice a n c:=by
      obtain⟨a,c,h,_⟩:=id hpw;exact⟨a,_,c,h⟩
     subst hpv;have HX0:Hid (bL W0 x):=yh (by have h:=HR2.out.1;simp only[Ws.allw]at h;exact h.1);have HX1:=yh HX0.out.1.1;unfold MkW at HX1;have HX2:=yh HX0.out.1.2;have HCX:Hid (s3.n+(1+cwt x.ps+r2.b)<=s2.n+aw9.b):=HB2;clear hpw;go_wp2_with (first|(with_reducible refine zS ?_;intro W hL hF)|(at_builtin;refine dQ ?_;clear hF hL;intro W hL;have hF:=hL.fx;replace hL:=(Kn.rotC hL);clear hF;have hF:=hL.fx;(refine ah rfl _ _ 132 132 rfl (_::_::(LC++(LA++LZ))) LL hL j 1 fs [.func (.func 106) #[] #[.pointer (some ⟨hp9,0,none⟩),.pointer (some ⟨hq9,0,none⟩)]] _ _ HRL.out rfl rfl (fun ho=>g_ rfl (fun j u hu=>by rw[Go.WideShapes.add_plain,Nat.zero_add,aK hL m0];simpa using hu) (by intro u hu;simp only[List.mem_cons,List.not_mem_nil,or_false]at hu;subst hu;rfl) (by omega) ho) ?_);intro LP3 a3 c3 W3 hL2 hr3;clear hL hF;have hL:=hL2;clear hL2;simp only[List.append_eq,List.cons_append,List.nil_append]at hL;have hF:=hL.fx)|(first|(go_at_call 67;(with_reducible refine zK [] HWB.out HM.out (fun W hL hS hN=>HX1.out b _ ao cap LP _ _ (by have h0:=HM9.out;have h1:=HCW.out;have h2:=HCX.out;omega) hS hN (HPV.out.at_ hL)) ?_);clear hF hL HWB HM;intro W ao cap LP HWB HM hJ hL hF;replace HN:=cy HN hJ;replace HB:=cy HB hJ;replace HK:=cy HK hJ;replace HKD:=cy HKD hJ;replace HFR:=yh (HFR.out.mk2 hJ);replace HJ:=yh (HJ.out.mk2 hJ);replace HPV:=cy HPV hJ;clear hJ)|(go_at_call 91;(with_reducible refine zJ [] HWB.out HM.out (fun W hL hS hN=>iu W0 b _ ao cap LP _ {op:=20,w:=x.ps} 20 0 0 ⟨#[]⟩ _ rfl rfl rfl rfl (HPV.out.at_ hL) (by have h0:=HM9.out;have h1:=HCW.out;have h2:=HCX.out;have h3:=HX2.out s3;omega) hS hN) ?_);clear hF hL HWB HM;intro W ao cap LP hp9 hq9 HP HQ HWB HM hJ hL hF;replace HN:=cy HN hJ;replace HB:=cy HB hJ;replace HK:=cy HK hJ;replace HKD:=cy HKD hJ;replace HFR:=yh (HFR.out.mk2 hJ);replace HJ:=yh (HJ.out.mk2 hJ);clear hJ;obtain⟨LC,hLC,hzt⟩:=HM.out.open;have HZT:=yh hzt;subst hLC;clear hzt)))
     have hJ:=hL.unC;refine⟨⟨j+1,r2,(x.g s3).add {op:=20,w:=x.ps},ps++[(x.g s3).n],fs++[.func (.func 106) #[] #[.pointer (some ⟨hp9,0,none⟩),.pointer (some ⟨hq9,0,none⟩)]],LP3,a3,c3,ao,cap,LC++(LP3++(LA++LZ)),rfl,by go_num,by omega,yh ?_,yh ?_,HWB.out.tail0 hJ,yh (HM.out.rez hJ fun p hp=>?_),yh (HN.out.mk2 hJ),yh (HB.out.mk2 hJ),yh (HK.out.mk2 hJ),yh (HKD.out.mk2 hJ),yh hr3,yh ((HJ.out.snoc ⟨hp9,hq9,rfl,HP.out,HQ.out⟩).mk2 hJ),yh (HFR.out.mk2 hJ)⟩,by simp[intOf];omega⟩
     ·have h:=HR2.out
      simp only[Ws.allw,Ws.gw]at h;have h2:=HX2.out s3;refine⟨h.1.2,HE.out.symm,h.2.2.1,fun q hq=>?_,by rw[bt];have:=h.2.2.2.2.1;omega,by rw[List.length_append,h.2.2.2.2.2];rfl⟩;rw[bt];rcases List.mem_append.1 hq with hq|hq
      ·have:=h.2.2.2.1 q hq;omega
      ·rw[List.mem_singleton.1 hq];omega
     ·have h1:=HCX.out
      have h2:=HX2.out s3;rw[bt];omega
     ·rcases List.mem_append.1 hp with hp|hp
      ·exact hr3.typed (by decide) p hp
      ·exact HZT.out p (List.mem_append_right _ hp)
theorem pK(src:ByteArray)(hs:src.size<=8000)(w:World)(hT:TabP w):Calls Tryz.prog 13 #[.string src] w (BX src w):=by
 have hmf:∀(fn:Fn) (first cap:Array Value) (w:World),(Instr.makeFunc fn first cap).run Tryz.prog w=.ok (.func fn first cap) w:=fun _ _ _ _=>rfl
 have HTP:=yh hT
 clear hT
 cases hx:lex src.data.toList with
 |err f m=>
  have hp:ax src.data.toList=.err f m:=by unfold ax;rw[hx]
  have HPB:=yh hp;obtain⟨ec,hec⟩:∃z:Int,(if f=true then(6:Int)else 27)=z:=⟨_,rfl⟩;have hec2:(ec != 0)=true:=by rw[<- hec];cases f<;>rfl
  have HEC:=yh hec;have HLX:=yh (fun W=>(u5 src hs W).mono (R':=fun e w'=>e=.returned (.tuple #[.slice none 0 0,.int .i64 ec,.int .i64 (m:Int)])/\Below W.heap.size W w') fun e w' h=>by
   obtain⟨h1,h2⟩:=h;rw[hx]at h2;exact⟨by rw[<- hec];exact h2,h1⟩)
  clear hx hp hec;have hL:Kn [] w w []:=Kn.refl [] w;have hF:=hL.fx;go_enter_defers Tryz.func13,Tryz.ntmps13;go_upto_region 3 with((go_at_call 24;refine zC (fun W hL=>HLX.out _) ?_;intro W hL hF))
  refine zE ?_;intro W hL hF;have hL2:Kn [] w W ((w.heap.size,.cells #[.int .i64 0,.string ⟨#[]⟩,.bool false,.slice none 0 0,.slice none 0 0,.slice none 0 0,.slice none 0 0] 41 (0,0))::(w.heap.size+1,.cells #[.int .i64 ec] 26 (0,0))::(w.heap.size+1+1,.cells #[.int .i64 (m:Int)] 3 (0,0))::[]):=hL.pm;clear hL hF;have hL:=hL2;clear hL2;have hF:=hL.fx;go_wp2_with ((with_reducible refine af 3 ?_);refine zX [0,1,2,3,4,5] [5] ?_ (sD sR);clear hF hL;intro ι F hne hC hG;(repeat(first|((first|refine cF hC ?_|refine cP ?_);intro K hK;go_big_quiet_op;go_big_quiet_on)|(refine cN ?_;intro W hL;(try simp only[kfb]at hL);have hF:=hL.fx;go_wp2;refine ai ?_;(first|(refine bO _ (by rfl) ?_;clear hL hF hC hG;intro ι F hne hC hFF;have hG:=fun n=>(hFF n).fx;clear hFF)|(refine a_ _ (by repeat' (first|exact List.Sublist.refl _|(with_reducible apply List.Sublist.cons))) ?_;clear hL hF)))));refine zN ?_;clear hC hG;intro W hL hF)
  refine dq ?_;clear hF hL;intro W hL;have hF:=hL.fx;simp only[bodyPostD];simp[Leaves,settle,results,Tryz.results13,go_sem,hF];exact⟨hL.below0,by rw[HPB.out];show Ending.returned _=Ending.returned _;rw[HEC.out]⟩
 |ok ts=>
  have HLT:=yh (Cm (by rw[szl];exact hs) hx);have HLX:=yh (fun W=>(u5 src hs W).mono (R':=fun e w'=>∃(ao:Option Addr) (n9 c9:Nat),e=.returned (.tuple #[.slice ao n9 c9,.int .i64 0,.int .i64 0])/\Hid (TokRow w' (.slice ao n9 c9) ts)/\Below W.heap.size W w') fun e w' h=>by
   obtain⟨h1,h2⟩:=h;rw[hx]at h2;obtain⟨v,rfl,h3⟩:=h2;obtain⟨ao,n9,c9,rfl,_⟩:=id h3.1;exact⟨ao,n9,c9,rfl,yh h3,h1⟩)
  have HX:=yh hx;clear hx;have hL:Kn [] w w []:=Kn.refl [] w;have hF:=hL.fx;go_enter_defers Tryz.func13,Tryz.ntmps13;go_upto_region 4 with((go_at_call 24;(with_reducible refine zM (fun W hL=>HLX.out _) ?_);rintro W hL e W ⟨ao,n9,c9,rfl,HTC,hb⟩;replace hL:=hL.below hb;clear hb;have hF:=hL.fx;obtain⟨W1,rfl⟩:∃W1:World,W1=W:=⟨_,rfl⟩;have HB1:=yh hL;clear hL;have hL:=HB1.out.self0;clear hF;have hF:=hL.fx))
  refine zE ?_;intro W hL hF;have hbe:=qS HB1.out hL;have HB2:=yh (HB1.out.tail0 hL);obtain⟨W0,rfl⟩:∃W0:World,W0=W:=⟨_,rfl⟩;obtain⟨g,o,cap,tvs,hv,htt,E,hty⟩:=yG (HTC.out.ext hbe) HLT.out (HTP.out.ext HB2.out.below0);injection hv with e1 e2 e3
  have e3:=e3.symm;subst e1 e2 e3;have HV0:Hid (AtV g o cap tvs 0 (.slice (some ⟨g,o,none⟩) tvs.length cap)):=yh ⟨E.pos,by simp⟩;have HTT:=yh htt;have HTY:=yh hty;have HCJ:=yh (fun W (hB:Below W0.heap.size W0 W) (hb:W.heap[W0.heap.size]? =some (.cells #[.slice (some ⟨g,o,none⟩) tvs.length cap,.int .i64 0] 73 (0,0)))=>kS E (z' E 20 0 rfl).1 W0.heap.size 0 _ W hB (Nat.le_refl _) HV0 hb);simp only[List.drop_zero]at HCJ;have h3:w.heap.size+1+1<W0.heap.size:=HB2.out.lt (p:=(w.heap.size+1+1,.cells #[.int .i64 0] 3 (0,0))) (by simp);clear hL hF hbe htt hty;have hL:Kn [] W0 W0 []:=Kn.refl [] W0;have hF:=hL.fx;have HB0:=yh (Below.refl W0.heap.size W0);have HXB:=yh (show ∀y∈([]:List Nat),W0.heap.size<=y from fun y hy=>absurd hy List.not_mem_nil)
  cases hc:cj (lev 20).cmd (TT tvs)with
  |bad er m2=>
   rw[hc]at HCJ;have HPB:=yh (tI HX.out HTT.out hc);clear hc;go_wp2_with (first|(with_reducible refine zS ?_;intro W hL hF)|(go_at_call 26;(with_reducible refine zM (fun W hL=>HCJ.out _ (ag HB0.out hL HXB.out) hL.h0) ?_);rintro W hL e W ⟨vj2,dj,rfl,hb⟩;replace hL:=hL.jn 0 hb;clear hb;have hF:=hL.fx))
   have hL3:=(show Kn [] w _ ([(w.heap.size,.cells #[.int .i64 0,.string ⟨#[]⟩,.bool false,.slice none 0 0,.slice none 0 0,.slice none 0 0,.slice none 0 0] 41 (0,0)),(w.heap.size+1,.cells #[.int .i64 0] 26 (0,0)),(w.heap.size+1+1,.cells #[.int .i64 0] 3 (0,0))])from(Kn.joinA (P:=[]) [] [(w.heap.size+1+1,.cells #[.int .i64 0] 3 (0,0)),(w.heap.size+1,.cells #[.int .i64 0] 26 (0,0)),(w.heap.size,.cells #[.int .i64 0,.string ⟨#[]⟩,.bool false,.slice none 0 0,.slice none 0 0,.slice none 0 0,.slice none 0 0] 41 (0,0))] HB2.out hL).perml fun p=>by simp only[List.countP_cons,List.countP_nil,List.countP_append,List.append_nil,List.nil_append];omega);refine leaves_cons (f:=25) (args:=#[.pointer (some ⟨w.heap.size,0,none⟩),.pointer (some ⟨w.heap.size+1,0,none⟩),.pointer (some ⟨w.heap.size+1+1,0,none⟩)]) (by simp) (by simp[go_sem]) ?_;refine(vT _ _ _ 0 false ⟨#[]⟩ none 0 0 none 0 0 none 0 0 none 0 0 0 0 _ _ _ _ hL3.self0).mono ?_;rintro e u' w'' ⟨rfl,rfl,hK⟩;have hL4:=hL3.tail0 hK;have hF4:=hL4.facts;simp only[bX,dP,zD]at hF4;simp[Leaves,settle,results,Tryz.results13,go_sem,hF4];exact⟨hL4.below0,by rw[HPB.out];show Ending.returned _=Ending.returned _;rw[vX]⟩
  |ok x r=>
   rw[hc]at HCJ;obtain⟨l,rfl,hpb⟩:=vW HX.out HTT.out hc;have HPB:=yh hpb;clear hc hpb;go_upto_region 7 with((go_at_call 26;(with_reducible refine zM (fun W hL=>HCJ.out _ (ag HB0.out hL HXB.out) hL.h0) ?_);rintro W hL e W ⟨nm,aa,na,ca,aw,nw,cw,ar,nr,cr,ak,nk,ck,LN,j2,vj2,rfl,HN,HJ2,hb⟩;replace hL:=hL.jn 0 hb;clear hb;have hF:=hL.fx;have HL2:=yh hL;have HW2:=yh (show Kn [] w _ ([(W0.heap.size,.cells #[vj2,.int .i64 ((0:Nat):Int)] 73 (0,0)),(w.heap.size,.cells #[.int .i64 0,.string ⟨#[]⟩,.bool false,.slice none 0 0,.slice none 0 0,.slice none 0 0,.slice none 0 0] 41 (0,0)),(w.heap.size+1,.cells #[.int .i64 0] 26 (0,0)),(w.heap.size+1+1,.cells #[.int .i64 0] 3 (0,0))])from(Kn.joinA (P:=[]) [] [(w.heap.size+1+1,.cells #[.int .i64 0] 3 (0,0)),(w.heap.size+1,.cells #[.int .i64 0] 26 (0,0)),(w.heap.size,.cells #[.int .i64 0,.string ⟨#[]⟩,.bool false,.slice none 0 0,.slice none 0 0,.slice none 0 0,.slice none 0 0] 41 (0,0))] HB2.out hL).perml fun p=>by simp only[List.countP_cons,List.countP_nil,List.countP_append,List.append_nil,List.nil_append];omega);clear hL;have hL:=HW2.out.self0;clear hF;have hF:=hL.fx;obtain⟨W2,rfl⟩:∃W2:World,W2=W:=⟨_,rfl⟩))
   have hj2:=HJ2.out.1.1;obtain⟨x9,pa,pn,pc,hx9,hx29⟩:=E.tok HJ2.out.1;have hB2:Below W0.heap.size W0 W2:=HL2.out.below0;have hc:=gn E hB2 hx9 pa pn pc hx29;have HC0:=yh hc.1;have HC1:=yh hc.2.1;have HC2:=yh hc.2.2.1;have HC3:=yh hc.2.2.2.1;have HC4:=yh hc.2.2.2.2.1;have HC5:=yh hc.2.2.2.2.2;have hg0:g<W0.heap.size:=aI (gn E (Below.refl _ W0) hx9 pa pn pc hx29).1;have hgY:g∉keys [(W0.heap.size,.cells #[vj2,.int .i64 ((0:Nat):Int)] 73 (0,0)),(w.heap.size,.cells #[.int .i64 0,.string ⟨#[]⟩,.bool false,.slice none 0 0,.slice none 0 0,.slice none 0 0,.slice none 0 0] 41 (0,0)),(w.heap.size+1,.cells #[.int .i64 0] 26 (0,0)),(w.heap.size+1+1,.cells #[.int .i64 0] 3 (0,0))]:=by
    obtain⟨cells,ht9⟩:=HTY.out _ _ _ rfl;intro hm;simp only[keys,List.map_cons,List.map_nil,List.mem_cons,List.not_mem_nil,or_false]at hm;have h1:=fun p hp=>HB2.out.has p hp
    rcases hm with rfl|rfl|rfl|rfl
    ·omega
    ·rw[h1 (w.heap.size,.cells #[.int .i64 0,.string ⟨#[]⟩,.bool false,.slice none 0 0,.slice none 0 0,.slice none 0 0,.slice none 0 0] 41 (0,0)) (by simp)]at ht9;injection ht9 with ht9;injection ht9 with _ ht9;cases ht9
    ·rw[h1 (w.heap.size+1,.cells #[.int .i64 0] 26 (0,0)) (by simp)]at ht9;injection ht9 with ht9;injection ht9 with _ ht9;cases ht9
    ·rw[h1 (w.heap.size+1+1,.cells #[.int .i64 0] 3 (0,0)) (by simp)]at ht9;injection ht9 with ht9;injection ht9 with _ ht9;cases ht9
   have HGY:=yh hgY;have hgb:g≠W0.heap.size:=by omega
   have HX9:=yh hx9;have hve:=HJ2.out.1.2;subst hve;obtain⟨f0,f1,f2,f3,f4,f5⟩:=tkF x9.1.kind x9.1.fd x9.1.line ⟨x9.1.text.toArray⟩ ⟨x9.1.plain.toArray⟩ pa pn pc;obtain⟨k4,hk4⟩:∃z:Bool,((x9.1.kind:Int) != 4)=z:=⟨_,rfl⟩;have hre:r.isEmpty= !k4:=by
    rw[HJ2.out.2];rcases bI E hx9 with⟨h1,h2,_⟩|⟨h1,h2,_⟩
    ·rw[h1,<- hk4,h2];rfl
    ·rw[h1,<- hk4,show((x9.1.kind:Int) != 4)=true by rw[bne_iff_ne];omega];rfl
   have HRE:=yh hre;clear hc hgY hx9 hx29 hre
   cases k4
   ·go_wp2_with (first|(with_reducible refine zS ?_;intro W hL hF)|(go_at_call 27;refine zC (fun W hL=>gL W0.heap.size g (o+j2*6) (tvs.length-j2) (cap-j2) _ _ hL.h0 (by omega) x9.1.kind x9.1.fd x9.1.line ⟨x9.1.text.toArray⟩ ⟨x9.1.plain.toArray⟩ pa pn pc (cW hL HC0.out HGY.out) (cW hL HC1.out HGY.out) (cW hL HC2.out HGY.out) (cW hL HC3.out HGY.out) (cW hL HC4.out HGY.out) (cW hL HC5.out HGY.out) hgb) ?_;intro W hL hF))
    refine dq ?_;clear hF hL;intro W hL;simp only[kfb]at hL;have hF:=hL.fx;simp only[bodyPostD];have hL6:=HW2.out.tail0 hL;refine leaves_cons (f:=25) (args:=#[.pointer (some ⟨w.heap.size,0,none⟩),.pointer (some ⟨w.heap.size+1,0,none⟩),.pointer (some ⟨w.heap.size+1+1,0,none⟩)]) (by simp) (by simp[go_sem]) ?_;refine(BW _ _ _ _).mono ?_;rintro e u' w'' ⟨rfl,rfl,rfl⟩;simp[Leaves,settle,results,Tryz.results13,go_sem,hF];refine⟨hL6.below0,?_⟩;rw[HPB.out,HRE.out,if_pos (by rfl)];refine⟨nm,aa,na,ca,aw,nw,cw,ar,nr,cr,ak,nk,ck,rfl,fun Y hYT=>?_⟩;have hYW:∀y∈Y,y<W0.heap.size/\∃c t,W0.heap[y]? =some (.cells c t (0,0))/\t≠118:=fun y hy=>by
     obtain⟨c,t,h,ht⟩:=hYT y hy;have hl:=ft h;exact⟨Nat.lt_of_lt_of_le hl HB2.out.size,c,t,by rw[HB2.out.below0.block _ hl];exact h,ht⟩
    have hnd:=HL2.out.nd;simp only[List.map_cons,List.nodup_cons]at hnd;have hLN:∀p∈LN,p∈(W0.heap.size,Obj.cells #[.slice (some ⟨g,o+j2*6,none⟩) (tvs.length-j2) (cap-j2),.int .i64 ((0:Nat):Int)] 73 (0,0))::(LN++[]):=fun p hp=>List.mem_cons_of_mem _ (List.mem_append_left _ hp)
    have hbo:=HB2.out.has (w.heap.size,.cells #[.int .i64 0,.string ⟨#[]⟩,.bool false,.slice none 0 0,.slice none 0 0,.slice none 0 0,.slice none 0 0] 41 (0,0)) (by simp);have hN:=NodeL.isF HN.out (Y:=Y++[W0.heap.size,w.heap.size]) (fun q hq=>HL2.out.block q hq List.not_mem_nil) HL2.out.size HL2.out hLN (fun p hp hm=>by
     have h1:=HL2.out.own p (hLN p hp);simp only[List.mem_append,List.mem_cons,List.not_mem_nil,or_false]at hm h1;rcases hm with e|e|e
     ·have:=(hYW _ e).1;omega
     ·exact hnd.1 (List.mem_map.2 ⟨p,List.mem_append_left _ hp,e⟩)
     ·omega) (fun q hq hn hm=>by
     simp only[List.mem_append,List.mem_cons,List.not_mem_nil,or_false]at hm;rcases hm with e|e|e
     ·obtain⟨_,c,t,h,ht⟩:=hYW _ e
      exact ht (hn _ _ _ h)
     ·omega
     ·subst e;exact absurd (hn _ _ _ hbo) (by decide))
    refine hN.kn (yH hL fun y hy=>?_) (fun y hy=>.inl (List.mem_append_left _ hy));have h1:=fun p hp=>HW2.out.has p hp
    simp only[keys,List.map_cons,List.map_nil,List.mem_cons,List.not_mem_nil,or_false]at hy;rcases hy with rfl|rfl|rfl|rfl
    ·exact .inl (by simp)
    ·exact .inl (by simp)
    ·exact .inr ⟨_,by simp,h1 (w.heap.size+1,.cells #[.int .i64 0] 26 (0,0)) (by simp)⟩
    ·exact .inr ⟨_,by simp,h1 (w.heap.size+1+1,.cells #[.int .i64 0] 3 (0,0)) (by simp)⟩
   ·have HP2:Hid (ax src.data.toList=.err false x9.1.line):=yh (by rw[HPB.out,HRE.out,if_neg (by decide)];congr 1;exact mF HX9.out _ (by rw[HJ2.out.2]))
    go_wp2_with (first|(with_reducible refine zS ?_;intro W hL hF)|(go_at_call 27;refine zC (fun W hL=>gL W0.heap.size g (o+j2*6) (tvs.length-j2) (cap-j2) _ _ hL.h0 (by omega) x9.1.kind x9.1.fd x9.1.line ⟨x9.1.text.toArray⟩ ⟨x9.1.plain.toArray⟩ pa pn pc (cW hL HC0.out HGY.out) (cW hL HC1.out HGY.out) (cW hL HC2.out HGY.out) (cW hL HC3.out HGY.out) (cW hL HC4.out HGY.out) (cW hL HC5.out HGY.out) hgb) ?_;intro W hL hF)|(go_at_call 28;refine zC (fun W hL=>rq 27 W0.heap.size g (o+j2*6) (tvs.length-j2) (cap-j2) _ _ hL.h0 (by omega) x9.1.kind x9.1.fd x9.1.line ⟨x9.1.text.toArray⟩ ⟨x9.1.plain.toArray⟩ pa pn pc (cW hL HC0.out HGY.out) (cW hL HC1.out HGY.out) (cW hL HC2.out HGY.out) (cW hL HC3.out HGY.out) (cW hL HC4.out HGY.out) (cW hL HC5.out HGY.out) hgb) ?_;intro W hL hF))
    have hL6:=HW2.out.tail0 hL;have hL5:Kn [] w _ [(w.heap.size,.cells #[.int .i64 ((Nd.mk 4 [] false [] [] [] l).kind:Int),.string nm,.bool (Nd.mk 4 [] false [] [] [] l).neg,.slice aa na ca,.slice aw nw cw,.slice ar nr cr,.slice ak nk ck] 41 (0,0)),(w.heap.size+1,.cells #[.int .i64 0] 26 (0,0)),(w.heap.size+1+1,.cells #[.int .i64 0] 3 (0,0))]:=hL6.perml fun p=>by simp only[List.countP_cons,List.countP_nil];omega
    refine leaves_cons (f:=25) (args:=#[.pointer (some ⟨w.heap.size,0,none⟩),.pointer (some ⟨w.heap.size+1,0,none⟩),.pointer (some ⟨w.heap.size+1+1,0,none⟩)]) (by simp) (by simp[go_sem]) ?_;refine(vT _ _ _ _ _ nm aa na ca aw nw cw ar nr cr ak nk ck 0 0 _ _ _ _ hL5.self0).mono ?_;rintro e u' w'' ⟨rfl,rfl,hK⟩;have hL4:=hL5.tail0 hK;have hF4:=hL4.facts;simp only[bX,dP,zD]at hF4;simp[Leaves,settle,results,Tryz.results13,go_sem,hF4];exact⟨hL4.below0,by rw[HP2.out];rfl⟩
theorem Sm.mono{N M:Nat}(hm:N<=M){n:Nd}(h:Sm N n):Sm M n:=by
 induction h with
 |mk k n g a w r l h1 h2 h3 h4 h5 h6 h7 h8 ih=>exact .mk k n g a w r l (by omega) (fun x hx=>by grind) (by omega) (fun x hx=>by grind) (by omega) (fun x hx=>by grind) (by omega) ih
def B3(y:Nd)(kz:Int)(nm:ByteArray)(ng:Bool)(na nw nr nk:Nat):Prop:=(y.kind:Int)=kz/\y.name=nm.data.toList/\y.neg=ng/\y.asg.length=na/\y.ws.length=nw/\y.rs.length=nr/\y.kids.length=nk
theorem ua{Y:List Nat}{w:World}{n:Nd}{cs:List Value}(h:NodeIs Y w n cs){kz:Int}{nm:ByteArray}{ng:Bool}{na nw nr nk:Nat}(hk:B3 n kz nm ng na nw nr nk):∃(aa:Option Addr) (ca:Nat) (aw:Option Addr) (cw:Nat) (ar:Option Addr) (cr:Nat) (ak:Option Addr) (ck:Nat),cs=[.int .i64 kz,.string nm,.bool ng,.slice aa na ca,.slice aw nw cw,.slice ar nr cr,.slice ak nk ck]:=by
 obtain⟨al,ws,rs,ks,va,vw,vr,vk,hn,rfl,h1,_,h3,_,h5,_,h7,_⟩:=h.open
 obtain⟨e1,e2,e3,e4,e5,e6,e7⟩:=hk
 obtain⟨a1,c1,rfl⟩:=dY h1
 obtain⟨a2,c2,rfl⟩:=dY h3
 obtain⟨a3,c3,rfl⟩:=dY h5
 obtain⟨a4,c4,rfl⟩:=dY h7
 rw[hn]at e4 e5 e6 e7
 simp only[Nd.asg,Nd.ws,Nd.rs,Nd.kids,List.length_map]at e4 e5 e6 e7
 refine⟨a1,c1,a2,c2,a3,c3,a4,c4,?_⟩
 rw[e1,e3,show bs n.name=.string nm by rw[e2];exact cR nm]
 grind
theorem rb(src:ByteArray)(hs:src.size<=8000)(l:List Nd)(n:Nat)(hp:ax src.data.toList=.ok l)(hn:l.length=n)(W:World)(hT:TabP W):Calls Tryz.prog 13 #[.string src] W fun e w'=>∃(aa:Option Addr) (ca:Nat) (aw:Option Addr) (cw:Nat) (ar:Option Addr) (cr:Nat) (ak:Option Addr) (ck:Nat),e=.returned (.tuple #[.agg #[.int .i64 4,.string ⟨#[]⟩,.bool false,.slice aa 0 ca,.slice aw 0 cw,.slice ar 0 cr,.slice ak n ck],.int .i64 0,.int .i64 0])/\Hid (∀Y:List Nat,(∀y∈Y,∃c t,W.heap[y]? =some (.cells c t (0,0))/\t≠118)->NodeIs Y w' (.mk 4 [] false [] [] [] l) [.int .i64 4,.string ⟨#[]⟩,.bool false,.slice aa 0 ca,.slice aw 0 cw,.slice ar 0 cr,.slice ak n ck])/\Below W.heap.size W w':=
 (pK src hs W hT).mono fun e w' h=>by
  obtain⟨h1,h2⟩:=h;rw[hp]at h2;obtain⟨nm,aa,na,ca,aw,nw,cw,ar,nr,cr,ak,nk,ck,rfl,h3⟩:=h2;have h4:=h3 [] (fun y hy=>absurd hy List.not_mem_nil);obtain⟨aa9,ca9,aw9,cw9,ar9,cr9,ak9,ck9,h5⟩:=ua h4 (kz:=4) (nm:=⟨#[]⟩) (ng:=false) (na:=0) (nw:=0) (nr:=0) (nk:=n) ⟨rfl,rfl,rfl,rfl,rfl,rfl,hn⟩;simp only[List.cons.injEq,and_true,Value.slice.injEq,Value.string.injEq]at h5;obtain⟨-,rfl,-,⟨rfl,rfl,rfl⟩,⟨rfl,rfl,rfl⟩,⟨rfl,rfl,rfl⟩,rfl,rfl,rfl⟩:=h5;exact⟨_,_,_,_,_,_,_,_,rfl,yh h3,h1⟩
theorem pL(src:ByteArray)(hs:src.size<=8000)(f:Bool)(m:Nat)(ec:Int)(hp:ax src.data.toList=.err f m)(he:(if f=true then(6:Int)else 27)=ec)(W:World)(hT:TabP W):Calls Tryz.prog 13 #[.string src] W fun e w'=>e=.returned (.tuple #[.agg #[.int .i64 0,.string ⟨#[]⟩,.bool false,.slice none 0 0,.slice none 0 0,.slice none 0 0,.slice none 0 0],.int .i64 ec,.int .i64 (m:Int)])/\Below W.heap.size W w':=
 (pK src hs W hT).mono fun e w' h=>by
  obtain⟨h1,h2⟩:=h;rw[hp]at h2;exact⟨by rw[<- he];exact h2,h1⟩
theorem zw(src:ByteArray)(hs:8000<src.size)(w:World):Calls Tryz.prog 24 #[.string src] w fun e w'=>e=.returned (.tuple #[.slice none 0 0,.int .i64 6,.int .i64 ((0:Nat):Int)])/\Below w.heap.size w w':=by
 have p0:decide ((8000:Int)<(src.size:Int))=true:=decide_eq_true (by omega)
 have p1:decide (8000<src.size)=true:=decide_eq_true (by omega)
 have hL:Kn [] w w []:=Kn.refl [] w
 have hF:=hL.fx
 go_enter_defers Tryz.func24,Tryz.ntmps24
 go_wp2
 refine dq ?_;clear hF hL;intro W hL;have hF:=hL.fx;simp only[bodyPostD];simp[Leaves,settle,results,Tryz.results24,go_sem,hF]
 exact hL.below0
theorem ub(src:ByteArray)(hs:8000<src.size)(w:World):Calls Tryz.prog 13 #[.string src] w fun e w'=>e=.returned (.tuple #[.agg #[.int .i64 0,.string ⟨#[]⟩,.bool false,.slice none 0 0,.slice none 0 0,.slice none 0 0,.slice none 0 0],.int .i64 6,.int .i64 ((0:Nat):Int)])/\Below w.heap.size w w':=by
 have hmf:∀(fn:Fn) (first cap:Array Value) (w:World),(Instr.makeFunc fn first cap).run Tryz.prog w=.ok (.func fn first cap) w:=fun _ _ _ _=>rfl
 obtain⟨ec,hec⟩:∃z:Int,(6:Int)=z:=⟨_,rfl⟩
 have hec2:(ec != 0)=true:=by rw[<- hec];rfl
 have HEC:=yh hec
 obtain⟨m,hm⟩:∃z:Nat,0=z:=⟨_,rfl⟩
 have HM:=yh hm
 have HLX:=yh (fun W=>zw src hs W)
 rw[hec,hm]at HLX
 clear hec hm
 have hL:Kn [] w w []:=Kn.refl [] w
 have hF:=hL.fx
 go_enter_defers Tryz.func13,Tryz.ntmps13
 go_upto_region 3 with((go_at_call 24;refine zC (fun W hL=>HLX.out _) ?_;intro W hL hF))
 refine zE ?_;intro W hL hF
 have hL2:Kn [] w W ((w.heap.size,.cells #[.int .i64 0,.string ⟨#[]⟩,.bool false,.slice none 0 0,.slice none 0 0,.slice none 0 0,.slice none 0 0] 41 (0,0))::(w.heap.size+1,.cells #[.int .i64 ec] 26 (0,0))::(w.heap.size+1+1,.cells #[.int .i64 (m:Int)] 3 (0,0))::[]):=hL.pm;clear hL hF;have hL:=hL2;clear hL2;have hF:=hL.fx
 go_wp2_with ((with_reducible refine af 3 ?_);refine zX [0,1,2,3,4,5] [5] ?_ (sD sR);clear hF hL;intro ι F hne hC hG;(repeat(first|((first|refine cF hC ?_|refine cP ?_);intro K hK;go_big_quiet_op;go_big_quiet_on)|(refine cN ?_;intro W hL;(try simp only[kfb]at hL);have hF:=hL.fx;go_wp2;refine ai ?_;(first|(refine bO _ (by rfl) ?_;clear hL hF hC hG;intro ι F hne hC hFF;have hG:=fun n=>(hFF n).fx;clear hFF)|(refine a_ _ (by repeat' (first|exact List.Sublist.refl _|(with_reducible apply List.Sublist.cons))) ?_;clear hL hF)))));refine zN ?_;clear hC hG;intro W hL hF)
 refine dq ?_;clear hF hL;intro W hL;have hF:=hL.fx;simp only[bodyPostD];simp[Leaves,settle,results,Tryz.results13,go_sem,hF]
 exact⟨⟨HEC.out.symm,by rw[HM.out]⟩,hL.below0⟩
theorem lu:xd:=fun src W hT=>⟨fun l hp=>rb src (by have:=dv hp;simpa using this) l _ hp rfl W hT,fun f m hp=>by
 by_cases hs:src.size<=8000
 ·exact pL src hs f m _ hp rfl W hT
 ·have h:=ub src (by omega) W
  have hl:lex src.data.toList=.err true 0:=by
   unfold lex;rw[if_pos (by simp;omega)]
  unfold ax at hp;rw[hl]at hp
  cases hp
  exact h⟩
theorem Bn {W0 : World} {c t e : Tr} {r : Ws} (hqc : MkF W0 90 c.nd (c.nd.co + 1) (fun s => (c.g (s.op 24 1)).op 24 (-1))) (ht : MkF W0 29 t.nd t.nd.co t.g) (he : MkF W0 29 e.nd e.nd.co e.g) (hlc : ∀ s, (c.g s).n + 2 <= s.n + c.nd.co /\ s.n <= (c.g s).n) (hlt : ∀ s, (t.g s).n + 2 <= s.n + t.nd.co /\ s.n <= (t.g s).n) (hle : ∀ s, (e.g s).n + 2 <= s.n + e.nd.co /\ s.n <= (e.g s).n) : MkF W0 61 (Tr.ife c t e r).nd (c.nd.co + t.nd.co + e.nd.co + 7) (fun s => (e.g (((t.g (((c.g (s.op 24 1)).op 24 (-1)).op 3 0)).op 1 0).here ((c.g (s.op 24 1)).op 24 (-1)).n)).here (t.g (((c.g (s.op 24 1)).op 24 (-1)).op 3 0)).n) := by
 refine MkF.mk ?_
 intro LZ b s ao cap LP w X9 kz nm ng na nw nr nk aa ca aw cw9 ar cr ak ck hm HKZ HNM HNG HNA HNW HNR HNK HN HM HWB hL
 have hF := hL.fx
 go_enter Tryz.func61, Tryz.ntmps61
 obtain rfl : nk = 3 := HNK.out.symm
 go_upto_region 1 with (fail)
 (with_reducible refine zT1 HWB.out HM.out ?_); clear hF; clear hL HM HWB; intro W HB HM HWB hJ hL hF; replace HN := cy HN hJ; clear hJ
 have n0 := HB.out.c7; obtain ⟨g0, o0, d00, d01, d02, d03, d04, d05, d06, ke0, kx0, kl0, ki0, HKN0, HD0, k00, k01, k02, k03, k04, k05, k06⟩ := bC HN.out (i := 0) (y := c.nd) (by simp only [Tr.nd]; rfl); (first | subst ke0 | (injection ke0 with ke0; injection ke0 with kf0 kg0; subst kf0 kg0)); simp only [Nat.zero_mul, Nat.one_mul, Nat.add_zero] at k00; obtain ⟨g1, o1, d10, d11, d12, d13, d14, d15, d16, ke1, kx1, kl1, ki1, HKN1, HD1, k10, k11, k12, k13, k14, k15, k16⟩ := bC HN.out (i := 1) (y := t.nd) (by simp only [Tr.nd]; rfl); (first | subst ke1 | (injection ke1 with ke1; injection ke1 with kf1 kg1; subst kf1 kg1)); simp only [Nat.zero_mul, Nat.one_mul, Nat.add_zero] at k10; obtain ⟨g2, o2, d20, d21, d22, d23, d24, d25, d26, ke2, kx2, kl2, ki2, HKN2, HD2, k20, k21, k22, k23, k24, k25, k26⟩ := bC HN.out (i := 2) (y := e.nd) (by simp only [Tr.nd]; rfl); (first | subst ke2 | (injection ke2 with ke2; injection ke2 with kf2 kg2; subst kf2 kg2))
 unfold MkF at hqc; have HQC := yh hqc; clear hqc; unfold MkF at ht; have HT := yh ht; clear ht; unfold MkF at he; have HE := yh he; clear he
 have HM9 := yh hm
 have HLc := yh hlc; clear hlc; have HLt := yh hlt; clear hlt; have HLe := yh hle; clear hle
 clear hm
 have HZ := yh (And.intro (HM9.out) (And.intro (HLc.out (s.op 24 1)) (And.intro (HLt.out (((c.g (s.op 24 1)).op 24 (-1)).op 3 0)) (HLe.out ((((t.g (((c.g (s.op 24 1)).op 24 (-1)).op 3 0)).op 1 0).here ((c.g (s.op 24 1)).op 24 (-1)).n)))))); clear HM9
 go_wp2_with (first | (with_reducible refine zS ?_; intro W hL hF) | ((first | ((first | (go_at_call 90; (with_reducible refine zK [] HWB.out HM.out (fun W hL hS hN => HQC.out b _ ao cap LP _ _ (by have h := HZ.out; simp only [nO] at *; omega) hS hN (HD0.out.at_ hL)) ?_)) | (go_at_call 29; (with_reducible refine zK [] HWB.out HM.out (fun W hL hS hN => HT.out b _ ao cap LP _ _ (by have h := HZ.out; simp only [nO] at *; omega) hS hN (HD1.out.at_ hL)) ?_)) | (go_at_call 106; (with_reducible refine zK [] HWB.out HM.out (fun W hL hS hN => dX _ _ _ W0 b _ ao cap LP _ (by have h := HZ.out; simp only [nO] at *; omega) (by have h := HZ.out; simp only [nO] at *; omega) (HP.out.mk2 (Kn.sub hL sR)) (HQ.out.mk2 (Kn.sub hL sR)) hS hN) ?_)) | (go_at_call 29; (with_reducible refine zK [] HWB.out HM.out (fun W hL hS hN => HE.out b _ ao cap LP _ _ (by have h := HZ.out; simp only [nO] at *; omega) hS hN (HD2.out.at_ hL)) ?_)) | (go_at_call 106; (with_reducible refine zK [] HWB.out HM.out (fun W hL hS hN => dX _ _ _ W0 b _ ao cap LP _ (by have h := HZ.out; simp only [nO] at *; omega) (by have h := HZ.out; simp only [nO] at *; omega) (HU.out.mk2 (Kn.sub hL sR)) (HV.out.mk2 (Kn.sub hL sR)) hS hN) ?_))); clear hF hL HWB HM; intro W ao cap LP HWB HM hJ hL hF) | (go_at_call 91; (with_reducible refine zJ [] HWB.out HM.out (fun W hL hS hN => zl W0 b _ ao cap LP _ (by have h := HZ.out; simp only [nO] at *; omega) hS hN) ?_); clear hF hL HWB HM; intro W ao cap LP hp9 hq9 HP HQ HWB HM hJ hL hF) | (go_at_call 91; (with_reducible refine zJ [] HWB.out HM.out (fun W hL hS hN => wY W0 b _ ao cap LP _ (by have h := HZ.out; simp only [nO] at *; omega) hS hN) ?_); clear hF hL HWB HM; intro W ao cap LP hu9 hv9 HU HV HWB HM hJ hL hF)); replace HB := cy HB hJ; replace HN := cy HN hJ; (try (replace HP := cy HP hJ)); (try (replace HQ := cy HQ hJ)); (try (replace HU := cy HU hJ)); (try (replace HV := cy HV hJ)); clear hJ; clear n0; clear k00 k01 k02 k03 k04 k05 k06 HD0 HKN0 kx0 kl0 ki0; clear k10 k11 k12 k13 k14 k15 k16 HD1 HKN1 kx1 kl1 ki1; clear k20 k21 k22 k23 k24 k25 k26 HD2 HKN2 kx2 kl2 ki2; have n0 := HB.out.c7; obtain ⟨g0, o0, d00, d01, d02, d03, d04, d05, d06, ke0, kx0, kl0, ki0, HKN0, HD0, k00, k01, k02, k03, k04, k05, k06⟩ := bC HN.out (i := 0) (y := c.nd) (by simp only [Tr.nd]; rfl); (first | subst ke0 | (injection ke0 with ke0; injection ke0 with kf0 kg0; subst kf0 kg0)); simp only [Nat.zero_mul, Nat.one_mul, Nat.add_zero] at k00; obtain ⟨g1, o1, d10, d11, d12, d13, d14, d15, d16, ke1, kx1, kl1, ki1, HKN1, HD1, k10, k11, k12, k13, k14, k15, k16⟩ := bC HN.out (i := 1) (y := t.nd) (by simp only [Tr.nd]; rfl); (first | subst ke1 | (injection ke1 with ke1; injection ke1 with kf1 kg1; subst kf1 kg1)); simp only [Nat.zero_mul, Nat.one_mul, Nat.add_zero] at k10; obtain ⟨g2, o2, d20, d21, d22, d23, d24, d25, d26, ke2, kx2, kl2, ki2, HKN2, HD2, k20, k21, k22, k23, k24, k25, k26⟩ := bC HN.out (i := 2) (y := e.nd) (by simp only [Tr.nd]; rfl); (first | subst ke2 | (injection ke2 with ke2; injection ke2 with kf2 kg2; subst kf2 kg2))))
 refine bodyPost_end (by simp [results, Tryz.results61, go_sem, *]; try rfl) rfl ?_
 exact ⟨ao, cap, LP, rfl, HWB.out, HM⟩
theorem nj {W0 : World} {c y : Tr} {r : Ws} (hqc : MkF W0 90 c.nd (c.nd.co + 1) (fun s => (c.g (s.op 24 1)).op 24 (-1))) (hy : MkF W0 29 y.nd y.nd.co y.g) (hlc : ∀ s, (c.g s).n + 2 <= s.n + c.nd.co /\ s.n <= (c.g s).n) (hly : ∀ s, (y.g s).n + 2 <= s.n + y.nd.co /\ s.n <= (y.g s).n) : MkF W0 62 (Tr.loop false c y r).nd (c.nd.co + y.nd.co + 7) (fun s => (((y.g (((c.g (s.op 24 1)).op 24 (-1)).op 3 0)).op 1 s.n).here ((c.g (s.op 24 1)).op 24 (-1)).n).op 5 0) := by
 refine MkF.mk ?_
 intro LZ b s ao cap LP w X9 kz nm ng na nw nr nk aa ca aw cw9 ar cr ak ck hm HKZ HNM HNG HNA HNW HNR HNK HN HM HWB hL
 have hF := hL.fx
 go_enter Tryz.func62, Tryz.ntmps62
 obtain rfl : kz = 9 := HKZ.out.symm
 go_upto_region 1 with (fail)
 (with_reducible refine zT1 HWB.out HM.out ?_); clear hF; clear hL HM HWB; intro W HB HM HWB hJ hL hF; replace HN := cy HN hJ; clear hJ
 have n0 := HB.out.c7; obtain ⟨g0, o0, d00, d01, d02, d03, d04, d05, d06, ke0, kx0, kl0, ki0, HKN0, HD0, k00, k01, k02, k03, k04, k05, k06⟩ := bC HN.out (i := 0) (y := c.nd) (by simp only [Tr.nd]; rfl); (first | subst ke0 | (injection ke0 with ke0; injection ke0 with kf0 kg0; subst kf0 kg0)); simp only [Nat.zero_mul, Nat.one_mul, Nat.add_zero] at k00; obtain ⟨g1, o1, d10, d11, d12, d13, d14, d15, d16, ke1, kx1, kl1, ki1, HKN1, HD1, k10, k11, k12, k13, k14, k15, k16⟩ := bC HN.out (i := 1) (y := y.nd) (by simp only [Tr.nd]; rfl); (first | subst ke1 | (injection ke1 with ke1; injection ke1 with kf1 kg1; subst kf1 kg1)); simp only [Nat.zero_mul, Nat.one_mul, Nat.add_zero] at k10
 unfold MkF at hqc; have HQC := yh hqc; clear hqc; unfold MkF at hy; have HY := yh hy; clear hy
 have HM9 := yh hm
 have HLc := yh hlc; clear hlc; have HLy := yh hly; clear hly
 clear hm
 have HZ := yh (And.intro (HM9.out) (And.intro (HLc.out (s.op 24 1)) (HLy.out (((c.g (s.op 24 1)).op 24 (-1)).op 3 0)))); clear HM9
 go_wp2_with (first | (with_reducible refine zS ?_; intro W hL hF) | ((first | ((first | (go_at_call 90; (with_reducible refine zK [] HWB.out HM.out (fun W hL hS hN => HQC.out b _ ao cap LP _ _ (by have h := HZ.out; simp only [nO] at *; omega) hS hN (HD0.out.at_ hL)) ?_)) | (go_at_call 29; (with_reducible refine zK [] HWB.out HM.out (fun W hL hS hN => HY.out b _ ao cap LP _ _ (by have h := HZ.out; simp only [nO] at *; omega) hS hN (HD1.out.at_ hL)) ?_)) | (go_at_call 66; (with_reducible refine zK [] HWB.out HM.out (fun W hL hS hN => bW 1 _ 1 rfl W0 b _ ao cap LP _ (by have h := HZ.out; simp only [nO] at *; omega) hS hN) ?_)) | (go_at_call 106; (with_reducible refine zK [] HWB.out HM.out (fun W hL hS hN => dX _ _ _ W0 b _ ao cap LP _ (by have h := HZ.out; simp only [nO] at *; omega) (by have h := HZ.out; simp only [nO] at *; omega) (HP.out.mk2 (Kn.sub hL sR)) (HQ.out.mk2 (Kn.sub hL sR)) hS hN) ?_)) | (go_at_call 66; (with_reducible refine zK [] HWB.out HM.out (fun W hL hS hN => bW 5 0 5 rfl W0 b _ ao cap LP _ (by have h := HZ.out; simp only [nO] at *; omega) hS hN) ?_))); clear hF hL HWB HM; intro W ao cap LP HWB HM hJ hL hF) | (go_at_call 91; (with_reducible refine zJ [] HWB.out HM.out (fun W hL hS hN => zl W0 b _ ao cap LP _ (by have h := HZ.out; simp only [nO] at *; omega) hS hN) ?_); clear hF hL HWB HM; intro W ao cap LP hp9 hq9 HP HQ HWB HM hJ hL hF)); replace HB := cy HB hJ; replace HN := cy HN hJ; (try (replace HP := cy HP hJ)); (try (replace HQ := cy HQ hJ)); clear hJ; clear n0; clear k00 k01 k02 k03 k04 k05 k06 HD0 HKN0 kx0 kl0 ki0; clear k10 k11 k12 k13 k14 k15 k16 HD1 HKN1 kx1 kl1 ki1; have n0 := HB.out.c7; obtain ⟨g0, o0, d00, d01, d02, d03, d04, d05, d06, ke0, kx0, kl0, ki0, HKN0, HD0, k00, k01, k02, k03, k04, k05, k06⟩ := bC HN.out (i := 0) (y := c.nd) (by simp only [Tr.nd]; rfl); (first | subst ke0 | (injection ke0 with ke0; injection ke0 with kf0 kg0; subst kf0 kg0)); simp only [Nat.zero_mul, Nat.one_mul, Nat.add_zero] at k00; obtain ⟨g1, o1, d10, d11, d12, d13, d14, d15, d16, ke1, kx1, kl1, ki1, HKN1, HD1, k10, k11, k12, k13, k14, k15, k16⟩ := bC HN.out (i := 1) (y := y.nd) (by simp only [Tr.nd]; rfl); (first | subst ke1 | (injection ke1 with ke1; injection ke1 with kf1 kg1; subst kf1 kg1)); simp only [Nat.zero_mul, Nat.one_mul, Nat.add_zero] at k10))
 refine bodyPost_end (by simp [results, Tryz.results62, go_sem, *]; try rfl) rfl ?_
 exact ⟨ao, cap, LP, rfl, HWB.out, HM⟩
theorem pM {W0 : World} {c y : Tr} {r : Ws} (hqc : MkF W0 90 c.nd (c.nd.co + 1) (fun s => (c.g (s.op 24 1)).op 24 (-1))) (hy : MkF W0 29 y.nd y.nd.co y.g) (hlc : ∀ s, (c.g s).n + 2 <= s.n + c.nd.co /\ s.n <= (c.g s).n) (hly : ∀ s, (y.g s).n + 2 <= s.n + y.nd.co /\ s.n <= (y.g s).n) : MkF W0 62 (Tr.loop true c y r).nd (c.nd.co + y.nd.co + 7) (fun s => (((y.g (((c.g (s.op 24 1)).op 24 (-1)).op 2 0)).op 1 s.n).here ((c.g (s.op 24 1)).op 24 (-1)).n).op 5 0) := by
 refine MkF.mk ?_
 intro LZ b s ao cap LP w X9 kz nm ng na nw nr nk aa ca aw cw9 ar cr ak ck hm HKZ HNM HNG HNA HNW HNR HNK HN HM HWB hL
 have hF := hL.fx
 go_enter Tryz.func62, Tryz.ntmps62
 obtain rfl : kz = 10 := HKZ.out.symm
 go_upto_region 1 with (fail)
 (with_reducible refine zT1 HWB.out HM.out ?_); clear hF; clear hL HM HWB; intro W HB HM HWB hJ hL hF; replace HN := cy HN hJ; clear hJ
 have n0 := HB.out.c7; obtain ⟨g0, o0, d00, d01, d02, d03, d04, d05, d06, ke0, kx0, kl0, ki0, HKN0, HD0, k00, k01, k02, k03, k04, k05, k06⟩ := bC HN.out (i := 0) (y := c.nd) (by simp only [Tr.nd]; rfl); (first | subst ke0 | (injection ke0 with ke0; injection ke0 with kf0 kg0; subst kf0 kg0)); simp only [Nat.zero_mul, Nat.one_mul, Nat.add_zero] at k00; obtain ⟨g1, o1, d10, d11, d12, d13, d14, d15, d16, ke1, kx1, kl1, ki1, HKN1, HD1, k10, k11, k12, k13, k14, k15, k16⟩ := bC HN.out (i := 1) (y := y.nd) (by simp only [Tr.nd]; rfl); (first | subst ke1 | (injection ke1 with ke1; injection ke1 with kf1 kg1; subst kf1 kg1)); simp only [Nat.zero_mul, Nat.one_mul, Nat.add_zero] at k10
 unfold MkF at hqc; have HQC := yh hqc; clear hqc; unfold MkF at hy; have HY := yh hy; clear hy
 have HM9 := yh hm
 have HLc := yh hlc; clear hlc; have HLy := yh hly; clear hly
 clear hm
 have HZ := yh (And.intro (HM9.out) (And.intro (HLc.out (s.op 24 1)) (HLy.out (((c.g (s.op 24 1)).op 24 (-1)).op 2 0)))); clear HM9
 go_wp2_with (first | (with_reducible refine zS ?_; intro W hL hF) | ((first | ((first | (go_at_call 90; (with_reducible refine zK [] HWB.out HM.out (fun W hL hS hN => HQC.out b _ ao cap LP _ _ (by have h := HZ.out; simp only [nO] at *; omega) hS hN (HD0.out.at_ hL)) ?_)) | (go_at_call 29; (with_reducible refine zK [] HWB.out HM.out (fun W hL hS hN => HY.out b _ ao cap LP _ _ (by have h := HZ.out; simp only [nO] at *; omega) hS hN (HD1.out.at_ hL)) ?_)) | (go_at_call 66; (with_reducible refine zK [] HWB.out HM.out (fun W hL hS hN => bW 1 _ 1 rfl W0 b _ ao cap LP _ (by have h := HZ.out; simp only [nO] at *; omega) hS hN) ?_)) | (go_at_call 106; (with_reducible refine zK [] HWB.out HM.out (fun W hL hS hN => dX _ _ _ W0 b _ ao cap LP _ (by have h := HZ.out; simp only [nO] at *; omega) (by have h := HZ.out; simp only [nO] at *; omega) (HP.out.mk2 (Kn.sub hL sR)) (HQ.out.mk2 (Kn.sub hL sR)) hS hN) ?_)) | (go_at_call 66; (with_reducible refine zK [] HWB.out HM.out (fun W hL hS hN => bW 5 0 5 rfl W0 b _ ao cap LP _ (by have h := HZ.out; simp only [nO] at *; omega) hS hN) ?_))); clear hF hL HWB HM; intro W ao cap LP HWB HM hJ hL hF) | (go_at_call 91; (with_reducible refine zJ [] HWB.out HM.out (fun W hL hS hN => B1 W0 b _ ao cap LP _ (by have h := HZ.out; simp only [nO] at *; omega) hS hN) ?_); clear hF hL HWB HM; intro W ao cap LP hp9 hq9 HP HQ HWB HM hJ hL hF)); replace HB := cy HB hJ; replace HN := cy HN hJ; (try (replace HP := cy HP hJ)); (try (replace HQ := cy HQ hJ)); clear hJ; clear n0; clear k00 k01 k02 k03 k04 k05 k06 HD0 HKN0 kx0 kl0 ki0; clear k10 k11 k12 k13 k14 k15 k16 HD1 HKN1 kx1 kl1 ki1; have n0 := HB.out.c7; obtain ⟨g0, o0, d00, d01, d02, d03, d04, d05, d06, ke0, kx0, kl0, ki0, HKN0, HD0, k00, k01, k02, k03, k04, k05, k06⟩ := bC HN.out (i := 0) (y := c.nd) (by simp only [Tr.nd]; rfl); (first | subst ke0 | (injection ke0 with ke0; injection ke0 with kf0 kg0; subst kf0 kg0)); simp only [Nat.zero_mul, Nat.one_mul, Nat.add_zero] at k00; obtain ⟨g1, o1, d10, d11, d12, d13, d14, d15, d16, ke1, kx1, kl1, ki1, HKN1, HD1, k10, k11, k12, k13, k14, k15, k16⟩ := bC HN.out (i := 1) (y := y.nd) (by simp only [Tr.nd]; rfl); (first | subst ke1 | (injection ke1 with ke1; injection ke1 with kf1 kg1; subst kf1 kg1)); simp only [Nat.zero_mul, Nat.one_mul, Nat.add_zero] at k10))
 refine bodyPost_end (by simp [results, Tryz.results62, go_sem, *]; try rfl) rfl ?_
 exact ⟨ao, cap, LP, rfl, HWB.out, HM⟩
theorem B4 {W0 : World} {m9 : ab} {y : Tr} (hy : MkF W0 29 y.nd y.nd.co y.g) (hly : ∀ s, (y.g s).n + 2 <= s.n + y.nd.co /\ s.n <= (y.g s).n) : MkF W0 65 (Tr.fn m9 y).nd (y.nd.co + 7) (fun s => (((y.g (((s.add { op := 22, s := m9 }).op 1 0).here s.n)).op 23 0).here (s.add { op := 22, s := m9 }).n).op 5 0) := by
 refine MkF.mk ?_
 intro LZ b s ao cap LP w X9 kz nm ng na nw nr nk aa ca aw cw9 ar cr ak ck hm HKZ HNM HNG HNA HNW HNR HNK HN HM HWB hL
 have hF := hL.fx
 go_enter Tryz.func65, Tryz.ntmps65
 have HNQ : Hid (m9 = nm.data.toList) := yh (by rw [<- HNM.out]; rfl)
 go_upto_region 1 with (fail)
 (with_reducible refine zT1 HWB.out HM.out ?_); clear hF; clear hL HM HWB; intro W HB HM HWB hJ hL hF; replace HN := cy HN hJ; clear hJ
 have n0 := HB.out.c7; obtain ⟨g0, o0, d00, d01, d02, d03, d04, d05, d06, ke0, kx0, kl0, ki0, HKN0, HD0, k00, k01, k02, k03, k04, k05, k06⟩ := bC HN.out (i := 0) (y := y.nd) (by simp only [Tr.nd]; rfl); (first | subst ke0 | (injection ke0 with ke0; injection ke0 with kf0 kg0; subst kf0 kg0)); simp only [Nat.zero_mul, Nat.one_mul, Nat.add_zero] at k00
 unfold MkF at hy; have HY := yh hy; clear hy
 have HM9 := yh hm
 have HLy := yh hly; clear hly
 clear hm
 have HZ := yh (And.intro (HM9.out) (HLy.out (((s.add { op := 22, s := m9 }).op 1 0).here s.n))); clear HM9
 go_wp2_with (first | (with_reducible refine zS ?_; intro W hL hF) | ((first | (go_at_call 91; (with_reducible refine zJ [] HWB.out HM.out (fun W hL hS hN => iu W0 b _ ao cap LP _ { op := 22, s := m9 } 22 0 0 nm (.slice none 0 0) rfl rfl rfl HNQ.out dr (by have h := HZ.out; simp only [nO] at *; omega) hS hN) ?_); clear hF hL HWB HM; intro W ao cap LP hp9 hq9 HP HQ HWB HM hJ hL hF) | (go_at_call 91; (with_reducible refine zJ [] HWB.out HM.out (fun W hL hS hN => wY W0 b _ ao cap LP _ (by have h := HZ.out; simp only [nO] at *; omega) hS hN) ?_); clear hF hL HWB HM; intro W ao cap LP hu9 hv9 HU HV HWB HM hJ hL hF) | ((first | (go_at_call 106; (with_reducible refine zK [] HWB.out HM.out (fun W hL hS hN => dX _ _ _ W0 b _ ao cap LP _ (by have h := HZ.out; simp only [nO] at *; omega) (by have h := HZ.out; simp only [nO] at *; omega) (HP.out.mk2 (Kn.sub hL sR)) (HQ.out.mk2 (Kn.sub hL sR)) hS hN) ?_)) | (go_at_call 29; (with_reducible refine zK [] HWB.out HM.out (fun W hL hS hN => HY.out b _ ao cap LP _ _ (by have h := HZ.out; simp only [nO] at *; omega) hS hN (HD0.out.at_ hL)) ?_)) | (go_at_call 66; (with_reducible refine zK [] HWB.out HM.out (fun W hL hS hN => bW 23 0 23 rfl W0 b _ ao cap LP _ (by have h := HZ.out; simp only [nO] at *; omega) hS hN) ?_)) | (go_at_call 106; (with_reducible refine zK [] HWB.out HM.out (fun W hL hS hN => dX _ _ _ W0 b _ ao cap LP _ (by have h := HZ.out; simp only [nO] at *; omega) (by have h := HZ.out; simp only [nO] at *; omega) (HU.out.mk2 (Kn.sub hL sR)) (HV.out.mk2 (Kn.sub hL sR)) hS hN) ?_)) | (go_at_call 66; (with_reducible refine zK [] HWB.out HM.out (fun W hL hS hN => bW 5 0 5 rfl W0 b _ ao cap LP _ (by have h := HZ.out; simp only [nO] at *; omega) hS hN) ?_))); clear hF hL HWB HM; intro W ao cap LP HWB HM hJ hL hF)); replace HB := cy HB hJ; replace HN := cy HN hJ; (try (replace HP := cy HP hJ)); (try (replace HQ := cy HQ hJ)); (try (replace HU := cy HU hJ)); (try (replace HV := cy HV hJ)); clear hJ; clear n0; clear k00 k01 k02 k03 k04 k05 k06 HD0 HKN0 kx0 kl0 ki0; have n0 := HB.out.c7; obtain ⟨g0, o0, d00, d01, d02, d03, d04, d05, d06, ke0, kx0, kl0, ki0, HKN0, HD0, k00, k01, k02, k03, k04, k05, k06⟩ := bC HN.out (i := 0) (y := y.nd) (by simp only [Tr.nd]; rfl); (first | subst ke0 | (injection ke0 with ke0; injection ke0 with kf0 kg0; subst kf0 kg0)); simp only [Nat.zero_mul, Nat.one_mul, Nat.add_zero] at k00))
 refine bodyPost_end (by simp [results, Tryz.results65, go_sem, *]; try rfl) rfl ?_
 exact ⟨ao, cap, LP, rfl, HWB.out, HM⟩
end Go.Proofs.YtgboffbbpmileaaGreatDoor
