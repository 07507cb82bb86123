/- Lemmas and walks for the law VLawPSound (part 16). -/
import Derived.Test.YtgboffbbpmileaaGreatDoorPx15
import Derived.Test.YtgboffbbpmileaaGreatDoorProg
import Derived.WalkKit
import Derived.Handy
import Derived.Deep.Light
import Derived.WalkSmall
import Derived.StillTailTactics
import Derived.Lib.Hide
set_option maxRecDepth 20000
set_option maxHeartbeats 4000000
set_option linter.unusedVariables false
set_option linter.unusedSimpArgs false
namespace Go.Proofs.YtgboffbbpmileaaGreatDoor
open Go Go.RowKit
theorem l8{W0:World}{l:Ts}(hall:l.alls (cd W0))(hsz:l.nds.length<=100000):MkF W0 55 (Tr.pipe false l).nd (Nd.cos l.nds+7) (fun s=>(if 1<l.nds.length then(l.gp true s).op 14 0 else l.gp true s).op 25 0):=by
 refine MkF.mk ?_
 intro LZ b s ao cap LP w X9 kz nm ng na nw nr nk aa ca aw cw9 ar cr ak ck hm HKZ HNM HNG HNA HNW HNR HNK HN HM HWB hL
 have hF:=hL.fx
 go_enter Tryz.func55,Tryz.ntmps55
 have hnk:l.nds.length=nk:=HNK.out
 rw[hnk]at hsz |-
 obtain rfl:ng=false:=HNG.out.symm
 have HN9:=yh hnk
 have HOK:=yh (⟨hall,rfl⟩:l.alls (cd W0)/\l.nds=l.nds.drop 0)
 have HM9:=yh hm
 clear hnk hm hall
 go_upto_region 1 with(fail)
 (with_reducible refine zT2 HWB.out HM.out ?_);clear hF;clear hL HM HWB;intro W HB HP HM HWB hJ hL hF;replace HN:=cy HN hJ;clear hJ
 have n0:=HB.out.c7;obtain⟨pq,px,p00⟩:=HP.out.c1
 go_wp2
 go_loopw [14] (fun z wr=>∃(k:Nat) (r:Ts) (s2:PS) (ao:Option Addr) (cap:Nat) (LP:List (Nat×Obj)),z=.int .i64 k/\k<=nk/\Hid (r.alls (cd W0)/\r.nds=l.nds.drop k/\l.gp true s=r.gp (decide (k=0)) s2)/\Hid (s2.n+Nd.cos r.nds<=s.n+1+Nd.cos l.nds)/\Kn X9 w wr ((b,.cells #[.slice ao s2.n cap,.int .i64 (s2.i:Int),.int .i64 (s2.e:Int)] 81 (0,0))::LP)/\Hid (MkQ W0 LZ wr b s2 (.slice ao s2.n cap) LP)/\Hid (NodeIs (b::keys LP) wr (Tr.pipe false l).nd [.int .i64 kz,.string nm,.bool false,.slice aa na ca,.slice aw nw cw9,.slice ar nr cr,.slice ak nk ck])/\Hid (CelY (b::keys LP) wr (w.heap.size) [.pointer (some ⟨b,0,none⟩)])/\Hid (CelY (b::keys LP) wr (w.heap.size+1) [.int .i64 kz,.string nm,.bool false,.slice aa na ca,.slice aw nw cw9,.slice ar nr cr,.slice ak nk ck])) (fun z _=>nk-(intOf z).toNat)
 case atStart=>exact⟨0,l,s,ao,cap,LP,rfl,Nat.zero_le _,yh ⟨HOK.out.1,HOK.out.2,rfl⟩,yh (by omega),HWB.out,HM,HN,HP,HB⟩
 case round=>
  clear HWB HM HN HOK HP HB;obtain⟨k,r,s2,ao,cap,LP,rfl,hk,HR,HB9,hWB,HM,HN,HP,HB⟩:=hrel;have HWB:=yh hWB;clear hL hF hWB n0 pq px p00;have hL:=Kn.self0q HWB.out;have hF:=hL.fx;have n0:=HB.out.c7;obtain⟨pq,px,p00⟩:=HP.out.c1
  cases r with
  |nil=>
   have hkn:k=nk:=by
    have h:=congrArg List.length HR.out.2.1;rw[List.length_drop,HN9.out]at h;simp only[Ts.nds,List.length_nil]at h;omega
   subst hkn;have he:l.gp true s=s2:=by rw[HR.out.2.2];simp only[Ts.gp]
   by_cases h1k:1<k
   ·have h1i:(1:Int)<(k:Int):=by omega
    go_wp2_with (first|(with_reducible refine zS ?_;intro W hL hF)|((first|(go_at_call 66;(with_reducible refine zK [] HWB.out HM.out (fun W hL hS hN=>bN 14 0 14 rfl W0 b _ ao cap LP _ (by have h0:=HM9.out;have h1:=HB9.out;omega) hS hN) ?_))|(go_at_call 66;(with_reducible refine zK [] HWB.out HM.out (fun W hL hS hN=>bN 25 0 25 rfl W0 b _ ao cap LP _ (by have h0:=HM9.out;have h1:=HB9.out;simp only[nO]at *;omega) hS hN) ?_)));clear hF hL HWB HM;intro W ao cap LP HWB HM hJ hL hF;replace HB:=cy HB hJ;replace HN:=cy HN hJ;replace HP:=cy HP hJ;clear hJ;clear n0;have n0:=HB.out.c7;clear pq px p00;obtain⟨pq,px,p00⟩:=HP.out.c1))
    refine bodyPost_end (by simp[results,Tryz.results55,go_sem, *];try rfl) rfl ?_;exact⟨rfl,ao,cap,LP,HWB.out,HM⟩
   ·have h1i:¬(1:Int)<(k:Int):=by omega
    go_wp2_with (first|(with_reducible refine zS ?_;intro W hL hF)|((first|(go_at_call 66;(with_reducible refine zK [] HWB.out HM.out (fun W hL hS hN=>bN 14 0 14 rfl W0 b _ ao cap LP _ (by have h0:=HM9.out;have h1:=HB9.out;omega) hS hN) ?_))|(go_at_call 66;(with_reducible refine zK [] HWB.out HM.out (fun W hL hS hN=>bN 25 0 25 rfl W0 b _ ao cap LP _ (by have h0:=HM9.out;have h1:=HB9.out;omega) hS hN) ?_)));clear hF hL HWB HM;intro W ao cap LP HWB HM hJ hL hF;replace HB:=cy HB hJ;replace HN:=cy HN hJ;replace HP:=cy HP hJ;clear hJ;clear n0;have n0:=HB.out.c7;clear pq px p00;obtain⟨pq,px,p00⟩:=HP.out.c1))
    refine bodyPost_end (by simp[results,Tryz.results55,go_sem, *];try rfl) rfl ?_;exact⟨rfl,ao,cap,LP,HWB.out,HM⟩
  |cons x r=>
   obtain⟨HD1,HD2,HD3⟩:=bA HR.out.2.1.symm;have HD:Hid (l.nds.drop (k+1)=r.nds):=yh HD2;have hkn:k<nk:=by rw[<- HN9.out];exact HD3
   have hrn:r.nil? =true↔k+1=nk:=by
    have h:=congrArg List.length HD2;rw[List.length_drop,HN9.out]at h
    cases r with
    |nil=>simp only[Ts.nds,List.length_nil]at h;simp only[Ts.nil?,true_iff];omega
    |cons y r=>simp only[Ts.nds,List.length_cons]at h;simp only[Ts.nil?,Bool.false_eq_true,false_iff];omega
   obtain⟨gq,oq,dq0,dq1,dq2,dq3,dq4,dq5,dq6,keq,kxq,klq,kiq,HKNq,HKD,kq0,kq1,kq2,kq3,kq4,kq5,kq6⟩:=bw HN.out (i:=k) (y:=x.nd) HD1;(first|subst keq|(injection keq with keq;injection keq with kfq kgq;subst kfq kgq))
   skip
   obtain⟨ya,yc,yw,yd,yr,ye,yk,yf,hcs⟩:=cY HKD.out;obtain⟨yu,hyu⟩:∃u:ByteArray,bs x.nd.name=.string u:=⟨_,rfl⟩;rw[hyu]at hcs;simp only[List.cons.injEq,and_true]at hcs;obtain⟨rfl,rfl,rfl,rfl,rfl,rfl,rfl⟩:=hcs;clear hyu;clear HD1 HD2 HD3 HKNq;have HX0:Hid (cd W0 x):=yh (by have h:=HR.out.1;simp only[Ts.alls]at h;exact h.1);have HX1:=yh HX0.out.1;have HX3:=yh HX0.out.1;unfold MkF at HX3;have HX2:=yh HX0.out.2;have HLL:=yh (fun s=>(⟨by have:=HX0.out.2 s;omega,(HX0.out.2 s).2⟩:(x.g s).n<=s.n+x.nd.co/\s.n<=(x.g s).n));have HCW:Hid (s2.n+(x.nd.co+Nd.cos r.nds)<=s.n+1+Nd.cos l.nds):=yh (by have h:=HB9.out;simp only[Ts.nds,aL]at h;exact h);have p1:wrap64 ((nk:Int)-1)=(nk:Int)-1:=IntWalk.wrap64_in _ (by omega);go_upto_region 6 with(fail)
   (with_reducible refine zT1 HWB.out HM.out ?_);clear hF;clear hL HM HWB;intro W HK HM HWB hJ hL hF;replace HP:=cy HP hJ;replace HB:=cy HB hJ;replace HN:=cy HN hJ;replace HKD:=cy HKD hJ;clear hJ
   clear n0 pq px p00 kxq klq kiq kq0 kq1 kq2 kq3 kq4 kq5 kq6;have n0:=HB.out.c7;obtain⟨pq,px,p00⟩:=HP.out.c1;obtain⟨hq,hx,h0,h1,h2,h3,h4,h5,h6⟩:=HK.out.c7;by_cases h0:k=0
   ·have hz1:decide (0<k)=false:=decide_eq_false (by omega)
    by_cases hl:k+1=nk
    ·have HPR:Hid (prt (decide (k=0)) r.nil? =0):=yh (by rw[hrn.2 hl,decide_eq_true h0];rfl)
     have hz2:decide ((k:Int)<(nk:Int)-1)=false:=decide_eq_false (by omega);clear hrn h0 hl;go_wp2_with (first|(with_reducible refine zS ?_;intro W hL hF)|(go_at_call 29;(with_reducible refine zK [] HWB.out HM.out (fun W hL hS hN=>HX3.out b _ ao cap LP _ _ (by have h0:=HM9.out;have h1:=HCW.out;simp only[nO]at *;omega) hS hN (HKD.out.at_ hL)) ?_);clear hF hL HWB HM;intro W ao cap LP HWB HM hJ hL hF;replace HB:=cy HB hJ;replace HN:=cy HN hJ;replace HP:=cy HP hJ;clear hJ))
     refine⟨⟨k+1,r,x.g s2,ao,cap,LP,by go_num,by omega,yh ?_,yh ?_,HWB.out,HM,HN,HP,HB⟩,by simp[intOf];omega⟩
     ·have h:=HR.out
      simp only[Ts.alls,Ts.gp]at h;exact⟨h.1.2,HD.out.symm,by rw[h.2.2,HPR.out,decide_eq_false (show ¬(k+1=0) by omega)];rfl⟩
     ·have h:=HCW.out
      have h2:=HX2.out s2;have h3:=HX2.out (s2.add {op:=13,b:=0});simp only[bR,bh]at *;omega
    ·have HPR:Hid (prt (decide (k=0)) r.nil? =2):=yh (by rw[Bool.eq_false_iff.2 (fun h=>hl (hrn.1 h)),decide_eq_true h0];rfl)
     have hz2:decide ((k:Int)<(nk:Int)-1)=true:=decide_eq_true (by omega);clear hrn h0 hl;go_wp2_with (first|(with_reducible refine zS ?_;intro W hL hF)|(go_at_call 88;(with_reducible refine zK [] HWB.out HM.out (fun W hL hS hN=>eh 89 _ x.g x.nd.co 2 W0 b _ ao cap LP _ eW (fun s2 ao2 cap2 LP2 W2 hk hM2 hn2=>el HX1.out _ _ _ b s2 ao2 cap2 LP2 W2 ((HP.out.mk2 hL).mk2 hk) ((HK.out.mk2 hL).mk2 hk) ((HKD.out.mk2 hL).mk2 hk) hn2 (Kn.self0q hk) hM2) HLL.out (by have h0:=HM9.out;have h1:=HCW.out;simp only[nO]at *;omega) hS hN) ?_);clear hF hL HWB HM;intro W ao cap LP HWB HM hJ hL hF;replace HB:=cy HB hJ;replace HN:=cy HN hJ;replace HP:=cy HP hJ;clear hJ))
     refine⟨⟨k+1,r,s2.child 2 x.g,ao,cap,LP,by go_num,by omega,yh ?_,yh ?_,HWB.out,HM,HN,HP,HB⟩,by simp[intOf];omega⟩
     ·have h:=HR.out
      simp only[Ts.alls,Ts.gp]at h;exact⟨h.1.2,HD.out.symm,by rw[h.2.2,HPR.out,decide_eq_false (show ¬(k+1=0) by omega)];rfl⟩
     ·have h:=HCW.out
      have h2:=HX2.out s2;have h3:=HX2.out (s2.add {op:=13,b:=2});simp only[bR,bh]at *;omega
   ·have hz1:decide (0<k)=true:=decide_eq_true (by omega)
    by_cases hl:k+1=nk
    ·have HPR:Hid (prt (decide (k=0)) r.nil? =1):=yh (by rw[hrn.2 hl,decide_eq_false h0];rfl)
     have hz2:decide ((k:Int)<(nk:Int)-1)=false:=decide_eq_false (by omega);clear hrn h0 hl;go_wp2_with (first|(with_reducible refine zS ?_;intro W hL hF)|(go_at_call 88;(with_reducible refine zK [] HWB.out HM.out (fun W hL hS hN=>eh 89 _ x.g x.nd.co 1 W0 b _ ao cap LP _ eW (fun s2 ao2 cap2 LP2 W2 hk hM2 hn2=>el HX1.out _ _ _ b s2 ao2 cap2 LP2 W2 ((HP.out.mk2 hL).mk2 hk) ((HK.out.mk2 hL).mk2 hk) ((HKD.out.mk2 hL).mk2 hk) hn2 (Kn.self0q hk) hM2) HLL.out (by have h0:=HM9.out;have h1:=HCW.out;simp only[nO]at *;omega) hS hN) ?_);clear hF hL HWB HM;intro W ao cap LP HWB HM hJ hL hF;replace HB:=cy HB hJ;replace HN:=cy HN hJ;replace HP:=cy HP hJ;clear hJ))
     refine⟨⟨k+1,r,s2.child 1 x.g,ao,cap,LP,by go_num,by omega,yh ?_,yh ?_,HWB.out,HM,HN,HP,HB⟩,by simp[intOf];omega⟩
     ·have h:=HR.out
      simp only[Ts.alls,Ts.gp]at h;exact⟨h.1.2,HD.out.symm,by rw[h.2.2,HPR.out,decide_eq_false (show ¬(k+1=0) by omega)];rfl⟩
     ·have h:=HCW.out
      have h2:=HX2.out s2;have h3:=HX2.out (s2.add {op:=13,b:=1});simp only[bR,bh]at *;omega
    ·have HPR:Hid (prt (decide (k=0)) r.nil? =3):=yh (by rw[Bool.eq_false_iff.2 (fun h=>hl (hrn.1 h)),decide_eq_false h0];rfl)
     have hz2:decide ((k:Int)<(nk:Int)-1)=true:=decide_eq_true (by omega);clear hrn h0 hl;go_wp2_with (first|(with_reducible refine zS ?_;intro W hL hF)|(go_at_call 88;(with_reducible refine zK [] HWB.out HM.out (fun W hL hS hN=>eh 89 _ x.g x.nd.co 3 W0 b _ ao cap LP _ eW (fun s2 ao2 cap2 LP2 W2 hk hM2 hn2=>el HX1.out _ _ _ b s2 ao2 cap2 LP2 W2 ((HP.out.mk2 hL).mk2 hk) ((HK.out.mk2 hL).mk2 hk) ((HKD.out.mk2 hL).mk2 hk) hn2 (Kn.self0q hk) hM2) HLL.out (by have h0:=HM9.out;have h1:=HCW.out;simp only[nO]at *;omega) hS hN) ?_);clear hF hL HWB HM;intro W ao cap LP HWB HM hJ hL hF;replace HB:=cy HB hJ;replace HN:=cy HN hJ;replace HP:=cy HP hJ;clear hJ))
     refine⟨⟨k+1,r,s2.child 3 x.g,ao,cap,LP,by go_num,by omega,yh ?_,yh ?_,HWB.out,HM,HN,HP,HB⟩,by simp[intOf];omega⟩
     ·have h:=HR.out
      simp only[Ts.alls,Ts.gp]at h;exact⟨h.1.2,HD.out.symm,by rw[h.2.2,HPR.out,decide_eq_false (show ¬(k+1=0) by omega)];rfl⟩
     ·have h:=HCW.out
      have h2:=HX2.out s2;have h3:=HX2.out (s2.add {op:=13,b:=3});simp only[bR,bh]at *;omega
theorem n_{W0:World}{l:Ts}(hall:l.alls (cd W0))(hsz:l.nds.length<=100000):MkF W0 55 (Tr.pipe true l).nd (Nd.cos l.nds+7) (fun s=>((if 1<l.nds.length then(l.gp true (s.op 24 1)).op 14 0 else l.gp true (s.op 24 1)).op 24 (-1)).op 4 0):=by
 refine MkF.mk ?_
 intro LZ b s ao cap LP w X9 kz nm ng na nw nr nk aa ca aw cw9 ar cr ak ck hm HKZ HNM HNG HNA HNW HNR HNK HN HM HWB hL
 have hF:=hL.fx
 go_enter Tryz.func55,Tryz.ntmps55
 have hnk:l.nds.length=nk:=HNK.out
 rw[hnk]at hsz |-
 obtain rfl:ng=true:=HNG.out.symm
 have HN9:=yh hnk
 have HOK:=yh (⟨hall,rfl⟩:l.alls (cd W0)/\l.nds=l.nds.drop 0)
 have HM9:=yh hm
 clear hnk hm hall
 go_upto_region 1 with(fail)
 (with_reducible refine zT2 HWB.out HM.out ?_);clear hF;clear hL HM HWB;intro W HB HP HM HWB hJ hL hF;replace HN:=cy HN hJ;clear hJ
 have n0:=HB.out.c7;obtain⟨pq,px,p00⟩:=HP.out.c1
 go_wp2_with (first|(with_reducible refine zS ?_;intro W hL hF)|(go_at_call 66;(with_reducible refine zK [] HWB.out HM.out (fun W hL hS hN=>bN 24 1 24 rfl W0 b _ ao cap LP _ (by have h0:=HM9.out;simp only[nO]at *;omega) hS hN) ?_);clear hF hL HWB HM;intro W ao cap LP HWB HM hJ hL hF;replace HB:=cy HB hJ;replace HN:=cy HN hJ;replace HP:=cy HP hJ;clear hJ;clear n0;have n0:=HB.out.c7;clear pq px p00;obtain⟨pq,px,p00⟩:=HP.out.c1))
 go_loopw [14] (fun z wr=>∃(k:Nat) (r:Ts) (s2:PS) (ao:Option Addr) (cap:Nat) (LP:List (Nat×Obj)),z=.int .i64 k/\k<=nk/\Hid (r.alls (cd W0)/\r.nds=l.nds.drop k/\l.gp true (s.op 24 1)=r.gp (decide (k=0)) s2)/\Hid (s2.n+Nd.cos r.nds<=s.n+1+Nd.cos l.nds)/\Kn X9 w wr ((b,.cells #[.slice ao s2.n cap,.int .i64 (s2.i:Int),.int .i64 (s2.e:Int)] 81 (0,0))::LP)/\Hid (MkQ W0 LZ wr b s2 (.slice ao s2.n cap) LP)/\Hid (NodeIs (b::keys LP) wr (Tr.pipe true l).nd [.int .i64 kz,.string nm,.bool true,.slice aa na ca,.slice aw nw cw9,.slice ar nr cr,.slice ak nk ck])/\Hid (CelY (b::keys LP) wr (w.heap.size) [.pointer (some ⟨b,0,none⟩)])/\Hid (CelY (b::keys LP) wr (w.heap.size+1) [.int .i64 kz,.string nm,.bool true,.slice aa na ca,.slice aw nw cw9,.slice ar nr cr,.slice ak nk ck])) (fun z _=>nk-(intOf z).toNat)
 case atStart=>exact⟨0,l,(s.op 24 1),ao,cap,LP,rfl,Nat.zero_le _,yh ⟨HOK.out.1,HOK.out.2,rfl⟩,yh (by rw[bX];omega),HWB.out,HM,HN,HP,HB⟩
 case round=>
  clear HWB HM HN HOK HP HB;obtain⟨k,r,s2,ao,cap,LP,rfl,hk,HR,HB9,hWB,HM,HN,HP,HB⟩:=hrel;have HWB:=yh hWB;clear hL hF hWB n0 pq px p00;have hL:=Kn.self0q HWB.out;have hF:=hL.fx;have n0:=HB.out.c7;obtain⟨pq,px,p00⟩:=HP.out.c1
  cases r with
  |nil=>
   have hkn:k=nk:=by
    have h:=congrArg List.length HR.out.2.1;rw[List.length_drop,HN9.out]at h;simp only[Ts.nds,List.length_nil]at h;omega
   subst hkn;have he:l.gp true (s.op 24 1)=s2:=by rw[HR.out.2.2];simp only[Ts.gp]
   by_cases h1k:1<k
   ·have h1i:(1:Int)<(k:Int):=by omega
    go_wp2_with (first|(with_reducible refine zS ?_;intro W hL hF)|((first|(go_at_call 66;(with_reducible refine zK [] HWB.out HM.out (fun W hL hS hN=>bN 14 0 14 rfl W0 b _ ao cap LP _ (by have h0:=HM9.out;have h1:=HB9.out;omega) hS hN) ?_))|(go_at_call 66;(with_reducible refine zK [] HWB.out HM.out (fun W hL hS hN=>pr W0 b _ ao cap LP _ (by have h0:=HM9.out;have h1:=HB9.out;simp only[nO]at *;omega) hS hN) ?_))|(go_at_call 66;(with_reducible refine zK [] HWB.out HM.out (fun W hL hS hN=>bN 4 0 4 rfl W0 b _ ao cap LP _ (by have h0:=HM9.out;have h1:=HB9.out;simp only[nO]at *;omega) hS hN) ?_)));clear hF hL HWB HM;intro W ao cap LP HWB HM hJ hL hF;replace HB:=cy HB hJ;replace HN:=cy HN hJ;replace HP:=cy HP hJ;clear hJ;clear n0;have n0:=HB.out.c7;clear pq px p00;obtain⟨pq,px,p00⟩:=HP.out.c1))
    refine bodyPost_end (by simp[results,Tryz.results55,go_sem, *];try rfl) rfl ?_;exact⟨rfl,ao,cap,LP,HWB.out,HM⟩
   ·have h1i:¬(1:Int)<(k:Int):=by omega
    go_wp2_with (first|(with_reducible refine zS ?_;intro W hL hF)|((first|(go_at_call 66;(with_reducible refine zK [] HWB.out HM.out (fun W hL hS hN=>bN 14 0 14 rfl W0 b _ ao cap LP _ (by have h0:=HM9.out;have h1:=HB9.out;omega) hS hN) ?_))|(go_at_call 66;(with_reducible refine zK [] HWB.out HM.out (fun W hL hS hN=>pr W0 b _ ao cap LP _ (by have h0:=HM9.out;have h1:=HB9.out;omega) hS hN) ?_))|(go_at_call 66;(with_reducible refine zK [] HWB.out HM.out (fun W hL hS hN=>bN 4 0 4 rfl W0 b _ ao cap LP _ (by have h0:=HM9.out;have h1:=HB9.out;simp only[nO]at *;omega) hS hN) ?_)));clear hF hL HWB HM;intro W ao cap LP HWB HM hJ hL hF;replace HB:=cy HB hJ;replace HN:=cy HN hJ;replace HP:=cy HP hJ;clear hJ;clear n0;have n0:=HB.out.c7;clear pq px p00;obtain⟨pq,px,p00⟩:=HP.out.c1))
    refine bodyPost_end (by simp[results,Tryz.results55,go_sem, *];try rfl) rfl ?_;exact⟨rfl,ao,cap,LP,HWB.out,HM⟩
  |cons x r=>
   obtain⟨HD1,HD2,HD3⟩:=bA HR.out.2.1.symm;have HD:Hid (l.nds.drop (k+1)=r.nds):=yh HD2;have hkn:k<nk:=by rw[<- HN9.out];exact HD3
   have hrn:r.nil? =true↔k+1=nk:=by
    have h:=congrArg List.length HD2;rw[List.length_drop,HN9.out]at h
    cases r with
    |nil=>simp only[Ts.nds,List.length_nil]at h;simp only[Ts.nil?,true_iff];omega
    |cons y r=>simp only[Ts.nds,List.length_cons]at h;simp only[Ts.nil?,Bool.false_eq_true,false_iff];omega
   obtain⟨gq,oq,dq0,dq1,dq2,dq3,dq4,dq5,dq6,keq,kxq,klq,kiq,HKNq,HKD,kq0,kq1,kq2,kq3,kq4,kq5,kq6⟩:=bw HN.out (i:=k) (y:=x.nd) HD1;(first|subst keq|(injection keq with keq;injection keq with kfq kgq;subst kfq kgq))
   skip
   obtain⟨ya,yc,yw,yd,yr,ye,yk,yf,hcs⟩:=cY HKD.out;obtain⟨yu,hyu⟩:∃u:ByteArray,bs x.nd.name=.string u:=⟨_,rfl⟩;rw[hyu]at hcs;simp only[List.cons.injEq,and_true]at hcs;obtain⟨rfl,rfl,rfl,rfl,rfl,rfl,rfl⟩:=hcs;clear hyu;clear HD1 HD2 HD3 HKNq;have HX0:Hid (cd W0 x):=yh (by have h:=HR.out.1;simp only[Ts.alls]at h;exact h.1);have HX1:=yh HX0.out.1;have HX3:=yh HX0.out.1;unfold MkF at HX3;have HX2:=yh HX0.out.2;have HLL:=yh (fun s=>(⟨by have:=HX0.out.2 s;omega,(HX0.out.2 s).2⟩:(x.g s).n<=s.n+x.nd.co/\s.n<=(x.g s).n));have HCW:Hid (s2.n+(x.nd.co+Nd.cos r.nds)<=s.n+1+Nd.cos l.nds):=yh (by have h:=HB9.out;simp only[Ts.nds,aL]at h;exact h);have p1:wrap64 ((nk:Int)-1)=(nk:Int)-1:=IntWalk.wrap64_in _ (by omega);go_upto_region 6 with(fail)
   (with_reducible refine zT1 HWB.out HM.out ?_);clear hF;clear hL HM HWB;intro W HK HM HWB hJ hL hF;replace HP:=cy HP hJ;replace HB:=cy HB hJ;replace HN:=cy HN hJ;replace HKD:=cy HKD hJ;clear hJ
   clear n0 pq px p00 kxq klq kiq kq0 kq1 kq2 kq3 kq4 kq5 kq6;have n0:=HB.out.c7;obtain⟨pq,px,p00⟩:=HP.out.c1;obtain⟨hq,hx,h0,h1,h2,h3,h4,h5,h6⟩:=HK.out.c7;by_cases h0:k=0
   ·have hz1:decide (0<k)=false:=decide_eq_false (by omega)
    by_cases hl:k+1=nk
    ·have HPR:Hid (prt (decide (k=0)) r.nil? =0):=yh (by rw[hrn.2 hl,decide_eq_true h0];rfl)
     have hz2:decide ((k:Int)<(nk:Int)-1)=false:=decide_eq_false (by omega);clear hrn h0 hl;go_wp2_with (first|(with_reducible refine zS ?_;intro W hL hF)|(go_at_call 29;(with_reducible refine zK [] HWB.out HM.out (fun W hL hS hN=>HX3.out b _ ao cap LP _ _ (by have h0:=HM9.out;have h1:=HCW.out;simp only[nO]at *;omega) hS hN (HKD.out.at_ hL)) ?_);clear hF hL HWB HM;intro W ao cap LP HWB HM hJ hL hF;replace HB:=cy HB hJ;replace HN:=cy HN hJ;replace HP:=cy HP hJ;clear hJ))
     refine⟨⟨k+1,r,x.g s2,ao,cap,LP,by go_num,by omega,yh ?_,yh ?_,HWB.out,HM,HN,HP,HB⟩,by simp[intOf];omega⟩
     ·have h:=HR.out
      simp only[Ts.alls,Ts.gp]at h;exact⟨h.1.2,HD.out.symm,by rw[h.2.2,HPR.out,decide_eq_false (show ¬(k+1=0) by omega)];rfl⟩
     ·have h:=HCW.out
      have h2:=HX2.out s2;have h3:=HX2.out (s2.add {op:=13,b:=0});simp only[bR,bh]at *;omega
    ·have HPR:Hid (prt (decide (k=0)) r.nil? =2):=yh (by rw[Bool.eq_false_iff.2 (fun h=>hl (hrn.1 h)),decide_eq_true h0];rfl)
     have hz2:decide ((k:Int)<(nk:Int)-1)=true:=decide_eq_true (by omega);clear hrn h0 hl;go_wp2_with (first|(with_reducible refine zS ?_;intro W hL hF)|(go_at_call 88;(with_reducible refine zK [] HWB.out HM.out (fun W hL hS hN=>eh 89 _ x.g x.nd.co 2 W0 b _ ao cap LP _ eW (fun s2 ao2 cap2 LP2 W2 hk hM2 hn2=>el HX1.out _ _ _ b s2 ao2 cap2 LP2 W2 ((HP.out.mk2 hL).mk2 hk) ((HK.out.mk2 hL).mk2 hk) ((HKD.out.mk2 hL).mk2 hk) hn2 (Kn.self0q hk) hM2) HLL.out (by have h0:=HM9.out;have h1:=HCW.out;simp only[nO]at *;omega) hS hN) ?_);clear hF hL HWB HM;intro W ao cap LP HWB HM hJ hL hF;replace HB:=cy HB hJ;replace HN:=cy HN hJ;replace HP:=cy HP hJ;clear hJ))
     refine⟨⟨k+1,r,s2.child 2 x.g,ao,cap,LP,by go_num,by omega,yh ?_,yh ?_,HWB.out,HM,HN,HP,HB⟩,by simp[intOf];omega⟩
     ·have h:=HR.out
      simp only[Ts.alls,Ts.gp]at h;exact⟨h.1.2,HD.out.symm,by rw[h.2.2,HPR.out,decide_eq_false (show ¬(k+1=0) by omega)];rfl⟩
     ·have h:=HCW.out
      have h2:=HX2.out s2;have h3:=HX2.out (s2.add {op:=13,b:=2});simp only[bR,bh]at *;omega
   ·have hz1:decide (0<k)=true:=decide_eq_true (by omega)
    by_cases hl:k+1=nk
    ·have HPR:Hid (prt (decide (k=0)) r.nil? =1):=yh (by rw[hrn.2 hl,decide_eq_false h0];rfl)
     have hz2:decide ((k:Int)<(nk:Int)-1)=false:=decide_eq_false (by omega);clear hrn h0 hl;go_wp2_with (first|(with_reducible refine zS ?_;intro W hL hF)|(go_at_call 88;(with_reducible refine zK [] HWB.out HM.out (fun W hL hS hN=>eh 89 _ x.g x.nd.co 1 W0 b _ ao cap LP _ eW (fun s2 ao2 cap2 LP2 W2 hk hM2 hn2=>el HX1.out _ _ _ b s2 ao2 cap2 LP2 W2 ((HP.out.mk2 hL).mk2 hk) ((HK.out.mk2 hL).mk2 hk) ((HKD.out.mk2 hL).mk2 hk) hn2 (Kn.self0q hk) hM2) HLL.out (by have h0:=HM9.out;have h1:=HCW.out;simp only[nO]at *;omega) hS hN) ?_);clear hF hL HWB HM;intro W ao cap LP HWB HM hJ hL hF;replace HB:=cy HB hJ;replace HN:=cy HN hJ;replace HP:=cy HP hJ;clear hJ))
     refine⟨⟨k+1,r,s2.child 1 x.g,ao,cap,LP,by go_num,by omega,yh ?_,yh ?_,HWB.out,HM,HN,HP,HB⟩,by simp[intOf];omega⟩
     ·have h:=HR.out
      simp only[Ts.alls,Ts.gp]at h;exact⟨h.1.2,HD.out.symm,by rw[h.2.2,HPR.out,decide_eq_false (show ¬(k+1=0) by omega)];rfl⟩
     ·have h:=HCW.out
      have h2:=HX2.out s2;have h3:=HX2.out (s2.add {op:=13,b:=1});simp only[bR,bh]at *;omega
    ·have HPR:Hid (prt (decide (k=0)) r.nil? =3):=yh (by rw[Bool.eq_false_iff.2 (fun h=>hl (hrn.1 h)),decide_eq_false h0];rfl)
     have hz2:decide ((k:Int)<(nk:Int)-1)=true:=decide_eq_true (by omega);clear hrn h0 hl;go_wp2_with (first|(with_reducible refine zS ?_;intro W hL hF)|(go_at_call 88;(with_reducible refine zK [] HWB.out HM.out (fun W hL hS hN=>eh 89 _ x.g x.nd.co 3 W0 b _ ao cap LP _ eW (fun s2 ao2 cap2 LP2 W2 hk hM2 hn2=>el HX1.out _ _ _ b s2 ao2 cap2 LP2 W2 ((HP.out.mk2 hL).mk2 hk) ((HK.out.mk2 hL).mk2 hk) ((HKD.out.mk2 hL).mk2 hk) hn2 (Kn.self0q hk) hM2) HLL.out (by have h0:=HM9.out;have h1:=HCW.out;simp only[nO]at *;omega) hS hN) ?_);clear hF hL HWB HM;intro W ao cap LP HWB HM hJ hL hF;replace HB:=cy HB hJ;replace HN:=cy HN hJ;replace HP:=cy HP hJ;clear hJ))
     refine⟨⟨k+1,r,s2.child 3 x.g,ao,cap,LP,by go_num,by omega,yh ?_,yh ?_,HWB.out,HM,HN,HP,HB⟩,by simp[intOf];omega⟩
     ·have h:=HR.out
      simp only[Ts.alls,Ts.gp]at h;exact⟨h.1.2,HD.out.symm,by rw[h.2.2,HPR.out,decide_eq_false (show ¬(k+1=0) by omega)];rfl⟩
     ·have h:=HCW.out
      have h2:=HX2.out s2;have h3:=HX2.out (s2.add {op:=13,b:=3});simp only[bR,bh]at *;omega
theorem py{W0:World}{a9 w9 r9:Ws}(ha9:a9.allw (bG W0))(hta:a9.ta)(hr9:r9.allw (bG W0))(hw9:w9.nil? =false)(hW9:uY W0 w9)(hlw9:∀s,(w9.g 7 s).n<=s.n+w9.b/\s.n<=(w9.g 7 s).n)(hsa:a9.as.length<=100000)(hsr:r9.rs.length<=100000):MkF W0 58 (Tr.simple a9 w9 r9).nd (a9.b+w9.b+7) (fun s=>(a9.g 8 (w9.g 7 (s.op 6 0))).op 12 0):=by
 refine MkF.mk ?_
 intro LZ b s ao cap LP w X9 kz nm ng na nw nr nk aa ca aw cw9 ar cr ak ck hm HKZ HNM HNG HNA HNW HNR HNK HN HM HWB hL
 have hF:=hL.fx
 go_enter Tryz.func58,Tryz.ntmps58
 have hna:a9.as.length=na:=HNA.out
 have hnr:r9.rs.length=nr:=HNR.out
 have hnw:0<nw:=(by rw[<- HNW.out];cases w9 with|nil=>simp[Ws.nil?]at hw9|cons g x r=>simp[Tr.nd,Nd.ws,Ws.ws]);have HLW9:=yh hlw9;unfold uY at hW9;have HW9:=yh hW9;clear hW9 hw9 hlw9
 rw[hna]at hsa
 rw[hnr]at hsr
 have HNA9:=yh hna
 have HNR9:=yh hnr
 have HOK:=yh (⟨ha9,hta,rfl⟩:a9.allw (bG W0)/\a9.ta/\a9.as=a9.as.drop 0)
 have HOR:=yh (⟨hr9,rfl⟩:r9.allw (bG W0)/\r9.rs=r9.rs.drop 0)
 have HM9:=yh hm
 clear hna hnr hm ha9 hta hr9
 go_upto_region 1 with(fail)
 (with_reducible refine zT1 HWB.out HM.out ?_);clear hF;clear hL HM HWB;intro W HB HM HWB hJ hL hF;replace HN:=cy HN hJ;clear hJ
 have n0:=HB.out.c7
 have HWR:=yh (show ∀(Y:List Nat) (W:World),NodeIs Y W (Tr.simple a9 w9 r9).nd [.int .i64 kz,.string nm,.bool ng,.slice aa na ca,.slice aw nw cw9,.slice ar nr cr,.slice ak nk ck]->WsRow Y W (.slice aw nw cw9) w9.ws from fun Y W h=>qF h)
 go_wp2_with (first|(with_reducible refine zS ?_;intro W hL hF)|(go_at_call 93;(with_reducible refine zK [] HWB.out HM.out (fun W hL hS hN=>HW9.out b _ ao cap LP _ _ (by have h0:=HM9.out;simp only[nO]at *;omega) hS hN (HWR.out _ _ (HN.out.at_ hL))) ?_);clear hF hL HWB HM;intro W ao cap LP HWB HM hJ hL hF;replace HB:=cy HB hJ;replace HN:=cy HN hJ;clear hJ;clear n0;have n0:=HB.out.c7))
 go_loopw [4,20] (fun bv z wr=>∃(z4:Bool) (k:Nat) (ra:Ws) (s2:PS) (ao:Option Addr) (cap:Nat) (LP:List (Nat×Obj)),bv=.bool z4/\z=.int .i64 k/\k<=na/\Hid (ra.allw (bG W0)/\ra.ta/\ra.as=a9.as.drop k/\a9.g 8 (w9.g 7 (s.op 6 0))=ra.g 8 s2/\a9.plain=(z4&&ra.plain))/\Hid (s2.n+ra.b<=s.n+1+w9.b+a9.b)/\Kn X9 w wr ((b,.cells #[.slice ao s2.n cap,.int .i64 (s2.i:Int),.int .i64 (s2.e:Int)] 81 (0,0))::LP)/\Hid (MkQ W0 LZ wr b s2 (.slice ao s2.n cap) LP)/\Hid (NodeIs (b::keys LP) wr (Tr.simple a9 w9 r9).nd [.int .i64 kz,.string nm,.bool ng,.slice aa na ca,.slice aw nw cw9,.slice ar nr cr,.slice ak nk ck])/\Hid (CelY (b::keys LP) wr w.heap.size [.int .i64 kz,.string nm,.bool ng,.slice aa na ca,.slice aw nw cw9,.slice ar nr cr,.slice ak nk ck])) (fun _ z _=>na-(intOf z).toNat)
 case atStart=>exact⟨true,0,a9,(w9.g 7 (s.op 6 0)),ao,cap,LP,rfl,rfl,Nat.zero_le _,yh ⟨HOK.out.1,HOK.out.2.1,HOK.out.2.2,rfl,by simp⟩,yh (by have h0:=HLW9.out (s.op 6 0);rw[bX]at h0;omega),HWB.out,HM,HN,HB⟩
 case round=>
  clear HWB HM HN HOK HB;obtain⟨z4,k,ra,s2,ao,cap,LP,rfl,rfl,hk,HR,HB9,hWB,HM,HN,HB⟩:=hrel;have HWB:=yh hWB;clear hL hF hWB n0;have hL:=Kn.self0q HWB.out;have hF:=hL.fx;have n0:=HB.out.c7
  cases ra with
  |nil=>
   have hkn:na=k:=by
    have h:=congrArg List.length HR.out.2.2.1;rw[List.length_drop,HNA9.out]at h;simp only[Ws.as,List.length_nil]at h;omega
   subst hkn;have HSA:Hid (a9.g 8 (w9.g 7 (s.op 6 0))=s2):=yh (by rw[HR.out.2.2.2.1];simp only[Ws.g]);have HPL:Hid (a9.plain=z4):=yh (by rw[HR.out.2.2.2.2];simp only[Ws.plain,Bool.and_true]);go_wp2;go_loopw [4,45] (fun bv z wr=>∃(z4:Bool) (k:Nat) (rr:Ws),bv=.bool z4/\z=.int .i64 k/\k<=nr/\Hid (rr.allw (bG W0)/\rr.rs=r9.rs.drop k/\(a9.plain&&r9.plain)=(z4&&rr.plain))/\Kn X9 w wr ((b,.cells #[.slice ao s2.n cap,.int .i64 (s2.i:Int),.int .i64 (s2.e:Int)] 81 (0,0))::LP)/\Hid (MkQ W0 LZ wr b s2 (.slice ao s2.n cap) LP)/\Hid (NodeIs (b::keys LP) wr (Tr.simple a9 w9 r9).nd [.int .i64 kz,.string nm,.bool ng,.slice aa na ca,.slice aw nw cw9,.slice ar nr cr,.slice ak nk ck])/\Hid (CelY (b::keys LP) wr w.heap.size [.int .i64 kz,.string nm,.bool ng,.slice aa na ca,.slice aw nw cw9,.slice ar nr cr,.slice ak nk ck])) (fun _ z _=>nr-(intOf z).toNat)
   case atStart=>exact⟨z4,0,r9,rfl,rfl,Nat.zero_le _,yh ⟨HOR.out.1,HOR.out.2,by rw[HPL.out]⟩,HWB.out,HM,HN,HB⟩
   case round=>
    clear HWB HM HN HB;obtain⟨z6,k2,rr,rfl,rfl,hk2,HR2,hWB,HM,HN,HB⟩:=hrel;have HWB:=yh hWB;clear hL hF hWB n0;have hL:=Kn.self0q HWB.out;have hF:=hL.fx;have n0:=HB.out.c7
    cases rr with
    |nil=>
     have hkn:k2=nr:=by
      have h:=congrArg List.length HR2.out.2.1;rw[List.length_drop,HNR9.out]at h;simp only[Ws.rs,List.length_nil]at h;omega
     subst hkn;have HPL2:Hid ((a9.plain&&r9.plain)=z6):=yh (by rw[HR2.out.2.2];simp only[Ws.plain,Bool.and_true])
     cases z6<;>(
      go_wp2_with (first|(with_reducible refine zS ?_;intro W hL hF)|(go_at_call 66;(with_reducible refine zK [] HWB.out HM.out (fun W hL hS hN=>bN 12 0 12 rfl W0 b _ ao cap LP _ (by have h0:=HM9.out;have h1:=HB9.out;omega) hS hN) ?_);clear hF hL HWB HM;intro W ao cap LP HWB HM hJ hL hF;replace HB:=cy HB hJ;replace HN:=cy HN hJ;clear hJ;clear n0;have n0:=HB.out.c7))
      refine bodyPost_end (by simp[results,Tryz.results58,go_sem, *];try rfl) rfl ?_
      skip
      simp only[HSA.out,HPL2.out,if_true,Bool.false_eq_true,if_false];exact⟨ao,cap,LP,by first|rfl|trivial,HWB.out,HM⟩)
    |cons g x rr=>
     obtain⟨HD1,HD2,HD3⟩:=bA HR2.out.2.1.symm;have HD:Hid (r9.rs.drop (k2+1)=rr.rs):=yh HD2;have hkn:k2<nr:=by rw[<- HNR9.out];exact HD3
     obtain⟨q,o,pv,hga,gx,gl,c0,c1,c2,hpw⟩:=(qG HN.out).at HD1;clear HD1 HD2 HD3;subst hga;simp only[List.mem_cons,not_or]at gx;have HPV:=yh hpw;obtain⟨pa,pn,pc,hpv⟩:∃a n c,pv=.slice a n c:=by
      obtain⟨a,c,h,_⟩:=id hpw;exact⟨a,_,c,h⟩
     have HX0:Hid (bG W0 x):=yh (by have h:=HR2.out.1;simp only[Ws.allw]at h;exact h.1);obtain⟨z5,hz5⟩:∃z,x.plain=z:=⟨_,rfl⟩;have HZ5:=yh hz5;have HPZ:=yh (fP x HX0.out.2.1);have hxz:=HX0.out.2.2;rw[hz5]at HPZ;clear hpw hz5;subst hpv;go_upto_region 14 with(fail)
     (with_reducible refine zT1 HWB.out HM.out ?_);clear hF;clear hL HM HWB;intro W HA HM HWB hJ hL hF;replace HB:=cy HB hJ;replace HN:=cy HN hJ;replace HPV:=cy HPV hJ;clear hJ
     clear n0 gx gl c0 c1 c2;obtain⟨hq,hx,h0,h1,h2⟩:=HA.out.c3
     cases z6<;>(
      go_wp2_with (first|(with_reducible refine zS ?_;intro W hL hF)|(go_at_call 94;refine aj ?_;clear hF hL;intro W hL;have hF:=hL.fx;(with_reducible refine(jp x.ps _ HPZ.out _ _ hxz _ (HPV.out.at_ hL)).mono ?_);rintro e V ⟨rfl,hb⟩;have hL3:=hL.below hb;clear hb;have hM2:=yh (HM.out.next hL3);clear HM;have HM:=hM2;clear hM2;have hJ:=hL3;replace HA:=cy HA hJ;replace HB:=cy HB hJ;replace HN:=cy HN hJ;replace HPV:=cy HPV hJ;have HWB2:=yh (Kn.tail0 HWB.out hJ);clear HWB;have HWB:=HWB2;clear HWB2 hJ hL hL3;clear hF;have hL:=Kn.self0q HWB.out;have hF:=hL.fx;clear hq hx h0 h1 h2;obtain⟨hq,hx,h0,h1,h2⟩:=HA.out.c3))
      refine⟨⟨_,k2+1,rr,rfl,by go_num,by omega,yh ?_,HWB.out,HM,HN,HB⟩,by simp[intOf];omega⟩;have h:=HR2.out;have hz:=HZ5.out;simp only[Ws.allw,Ws.plain,hz]at h;exact⟨h.1.2,HD.out.symm,by rw[h.2.2];simp⟩)
  |cons g x ra=>
   obtain⟨gs,ga,gb⟩:=g;obtain⟨HD1,HD2,HD3⟩:=bA HR.out.2.2.1.symm;have HD:Hid (a9.as.drop (k+1)=ra.as):=yh HD2;have hkn:k<na:=by rw[<- HNA9.out];exact HD3
   obtain⟨q,o,pv,hga,gx,gl,c0,c1,hpw⟩:=(xQ HN.out).at HD1;clear HD1 HD2 HD3;subst hga;simp only[List.mem_cons,not_or]at gx;obtain⟨u,hu⟩:∃u:ByteArray,(⟨gs.toArray⟩:ByteArray)=u:=⟨_,rfl⟩;have hbs:bs gs=.string u:=by rw[<- hu];rfl
   have HU9:Hid (gs=u.data.toList):=yh (by rw[<- hu]);change _=some (bs gs)at c0;rw[hbs]at c0;have HPV:=yh hpw;obtain⟨pa,pn,pc,hpv⟩:∃a n c,pv=.slice a n c:=by
    obtain⟨a,c,h,_⟩:=id hpw;exact⟨a,_,c,h⟩
   have HX0:Hid (bG W0 x):=yh (by have h:=HR.out.1;simp only[Ws.allw]at h;exact h.1);have HX1:=yh HX0.out.1.1;unfold MkW at HX1;have HX2:=yh HX0.out.1.2;obtain⟨z5,hz5⟩:∃z,x.plain=z:=⟨_,rfl⟩;have HZ5:=yh hz5;have HPZ:=yh (fP x HX0.out.2.1);have hxz:=HX0.out.2.2;rw[hz5]at HPZ;obtain⟨rfl,rfl⟩:ga=0/\gb=0:=by have h:=HR.out.2.1;simp only[Ws.ta]at h;exact h.1
   have HCW:Hid (s2.n+(1+cwt x.ps+ra.b)<=s.n+1+w9.b+a9.b):=HB9;clear hpw hu hbs hz5;subst hpv;go_upto_region 7 with(fail)
   (with_reducible refine zT1 HWB.out HM.out ?_);clear hF;clear hL HM HWB;intro W HA HM HWB hJ hL hF;replace HB:=cy HB hJ;replace HN:=cy HN hJ;replace HPV:=cy HPV hJ;clear hJ
   clear n0 gx gl c0 c1;obtain⟨hq,hx,h0,h1⟩:=HA.out.c2
   cases z4<;>(
    go_wp2_with (first|(with_reducible refine zS ?_;intro W hL hF)|((first|((first|(go_at_call 67;(with_reducible refine zK [] HWB.out HM.out (fun W hL hS hN=>HX1.out b _ ao cap LP _ _ (by have h0:=HM9.out;have h1:=HCW.out;simp only[nO]at *;omega) hS hN (HPV.out.at_ hL)) ?_))|(go_at_call 30;(with_reducible refine zK [] HWB.out HM.out (fun W hL hS hN=>fC W0 b _ ao cap LP _ {op:=8,s:=gs,w:=x.ps} 8 0 0 u _ rfl rfl rfl HU9.out (HPV.out.at_ hL) (by have h0:=HM9.out;have h1:=HCW.out;have h2:=HX2.out s2;omega) hS hN.w) ?_)));clear hF hL HWB HM;intro W ao cap LP HWB HM hJ hL hF;replace HA:=cy HA hJ;replace HB:=cy HB hJ;replace HN:=cy HN hJ;replace HPV:=cy HPV hJ;clear hJ)|(go_at_call 94;refine aj ?_;clear hF hL;intro W hL;have hF:=hL.fx;(with_reducible refine(jp x.ps _ HPZ.out _ _ hxz _ (HPV.out.at_ hL)).mono ?_);rintro e V ⟨rfl,hb⟩;have hL3:=hL.below hb;clear hb;have hM2:=yh (HM.out.next hL3);clear HM;have HM:=hM2;clear hM2;have hJ:=hL3;replace HA:=cy HA hJ;replace HB:=cy HB hJ;replace HN:=cy HN hJ;replace HPV:=cy HPV hJ;have HWB2:=yh (Kn.tail0 HWB.out hJ);clear HWB;have HWB:=HWB2;clear HWB2 hJ hL hL3;clear hF;have hL:=Kn.self0q HWB.out;have hF:=hL.fx));clear hq hx h0 h1;obtain⟨hq,hx,h0,h1⟩:=HA.out.c2))
    refine⟨⟨_,k+1,ra,(x.g s2).add {op:=8,s:=gs,w:=x.ps},ao,cap,LP,rfl,by go_num,by omega,yh ?_,yh ?_,HWB.out,HM,HN,HB⟩,by simp[intOf];omega⟩
    ·have h:=HR.out
     have hz:=HZ5.out;simp only[Ws.allw,Ws.ta,Ws.g,Ws.plain,hz]at h;exact⟨h.1.2,h.2.1.2,HD.out.symm,h.2.2.2.1,by rw[h.2.2.2.2];simp⟩
    ·have h:=HCW.out
     have h2:=HX2.out s2;rw[bh];omega)
theorem pA{W0:World}{a9 w9 r9:Ws}(ha9:a9.allw (bG W0))(hta:a9.ta)(hr9:r9.allw (bG W0))(hw9:w9=.nil)(F:PS->PS)(hF9:∀s,F s=if a9.plain&&r9.plain then(a9.g 8 s).op 5 0 else a9.g 8 s)(hsa:a9.as.length<=100000)(hsr:r9.rs.length<=100000):MkF W0 58 (Tr.simple a9 w9 r9).nd (a9.b+w9.b+7) F:=by
 refine MkF.mk ?_
 intro LZ b s ao cap LP w X9 kz nm ng na nw nr nk aa ca aw cw9 ar cr ak ck hm HKZ HNM HNG HNA HNW HNR HNK HN HM HWB hL
 have hF:=hL.fx
 go_enter Tryz.func58,Tryz.ntmps58
 have hna:a9.as.length=na:=HNA.out
 have hnr:r9.rs.length=nr:=HNR.out
 have hnw:decide (0<nw)=false:=(by rw[<- HNW.out,hw9];rfl);clear hw9;have HF9:=yh hF9;clear hF9
 rw[hna]at hsa
 rw[hnr]at hsr
 have HNA9:=yh hna
 have HNR9:=yh hnr
 have HOK:=yh (⟨ha9,hta,rfl⟩:a9.allw (bG W0)/\a9.ta/\a9.as=a9.as.drop 0)
 have HOR:=yh (⟨hr9,rfl⟩:r9.allw (bG W0)/\r9.rs=r9.rs.drop 0)
 have HM9:=yh hm
 clear hna hnr hm ha9 hta hr9
 go_upto_region 1 with(fail)
 (with_reducible refine zT1 HWB.out HM.out ?_);clear hF;clear hL HM HWB;intro W HB HM HWB hJ hL hF;replace HN:=cy HN hJ;clear hJ
 have n0:=HB.out.c7
 go_wp2
 go_loopw [4,20] (fun bv z wr=>∃(z4:Bool) (k:Nat) (ra:Ws) (s2:PS) (ao:Option Addr) (cap:Nat) (LP:List (Nat×Obj)),bv=.bool z4/\z=.int .i64 k/\k<=na/\Hid (ra.allw (bG W0)/\ra.ta/\ra.as=a9.as.drop k/\a9.g 8 s=ra.g 8 s2/\a9.plain=(z4&&ra.plain))/\Hid (s2.n+ra.b<=s.n+1+w9.b+a9.b)/\Kn X9 w wr ((b,.cells #[.slice ao s2.n cap,.int .i64 (s2.i:Int),.int .i64 (s2.e:Int)] 81 (0,0))::LP)/\Hid (MkQ W0 LZ wr b s2 (.slice ao s2.n cap) LP)/\Hid (NodeIs (b::keys LP) wr (Tr.simple a9 w9 r9).nd [.int .i64 kz,.string nm,.bool ng,.slice aa na ca,.slice aw nw cw9,.slice ar nr cr,.slice ak nk ck])/\Hid (CelY (b::keys LP) wr w.heap.size [.int .i64 kz,.string nm,.bool ng,.slice aa na ca,.slice aw nw cw9,.slice ar nr cr,.slice ak nk ck])) (fun _ z _=>na-(intOf z).toNat)
 case atStart=>exact⟨true,0,a9,s,ao,cap,LP,rfl,rfl,Nat.zero_le _,yh ⟨HOK.out.1,HOK.out.2.1,HOK.out.2.2,rfl,by simp⟩,yh (by skip;omega),HWB.out,HM,HN,HB⟩
 case round=>
  clear HWB HM HN HOK HB;obtain⟨z4,k,ra,s2,ao,cap,LP,rfl,rfl,hk,HR,HB9,hWB,HM,HN,HB⟩:=hrel;have HWB:=yh hWB;clear hL hF hWB n0;have hL:=Kn.self0q HWB.out;have hF:=hL.fx;have n0:=HB.out.c7
  cases ra with
  |nil=>
   have hkn:na=k:=by
    have h:=congrArg List.length HR.out.2.2.1;rw[List.length_drop,HNA9.out]at h;simp only[Ws.as,List.length_nil]at h;omega
   subst hkn;have HSA:Hid (a9.g 8 s=s2):=yh (by rw[HR.out.2.2.2.1];simp only[Ws.g]);have HPL:Hid (a9.plain=z4):=yh (by rw[HR.out.2.2.2.2];simp only[Ws.plain,Bool.and_true]);go_wp2;go_loopw [4,45] (fun bv z wr=>∃(z4:Bool) (k:Nat) (rr:Ws),bv=.bool z4/\z=.int .i64 k/\k<=nr/\Hid (rr.allw (bG W0)/\rr.rs=r9.rs.drop k/\(a9.plain&&r9.plain)=(z4&&rr.plain))/\Kn X9 w wr ((b,.cells #[.slice ao s2.n cap,.int .i64 (s2.i:Int),.int .i64 (s2.e:Int)] 81 (0,0))::LP)/\Hid (MkQ W0 LZ wr b s2 (.slice ao s2.n cap) LP)/\Hid (NodeIs (b::keys LP) wr (Tr.simple a9 w9 r9).nd [.int .i64 kz,.string nm,.bool ng,.slice aa na ca,.slice aw nw cw9,.slice ar nr cr,.slice ak nk ck])/\Hid (CelY (b::keys LP) wr w.heap.size [.int .i64 kz,.string nm,.bool ng,.slice aa na ca,.slice aw nw cw9,.slice ar nr cr,.slice ak nk ck])) (fun _ z _=>nr-(intOf z).toNat)
   case atStart=>exact⟨z4,0,r9,rfl,rfl,Nat.zero_le _,yh ⟨HOR.out.1,HOR.out.2,by rw[HPL.out]⟩,HWB.out,HM,HN,HB⟩
   case round=>
    clear HWB HM HN HB;obtain⟨z6,k2,rr,rfl,rfl,hk2,HR2,hWB,HM,HN,HB⟩:=hrel;have HWB:=yh hWB;clear hL hF hWB n0;have hL:=Kn.self0q HWB.out;have hF:=hL.fx;have n0:=HB.out.c7
    cases rr with
    |nil=>
     have hkn:k2=nr:=by
      have h:=congrArg List.length HR2.out.2.1;rw[List.length_drop,HNR9.out]at h;simp only[Ws.rs,List.length_nil]at h;omega
     subst hkn;have HPL2:Hid ((a9.plain&&r9.plain)=z6):=yh (by rw[HR2.out.2.2];simp only[Ws.plain,Bool.and_true])
     cases z6<;>(
      go_wp2_with (first|(with_reducible refine zS ?_;intro W hL hF)|(go_at_call 66;(with_reducible refine zK [] HWB.out HM.out (fun W hL hS hN=>bN 5 0 5 rfl W0 b _ ao cap LP _ (by have h0:=HM9.out;have h1:=HB9.out;omega) hS hN) ?_);clear hF hL HWB HM;intro W ao cap LP HWB HM hJ hL hF;replace HB:=cy HB hJ;replace HN:=cy HN hJ;clear hJ;clear n0;have n0:=HB.out.c7))
      refine bodyPost_end (by simp[results,Tryz.results58,go_sem, *];try rfl) rfl ?_;rw[HF9.out];simp only[HSA.out,HPL2.out,if_true,Bool.false_eq_true,if_false];exact⟨ao,cap,LP,by first|rfl|trivial,HWB.out,HM⟩)
    |cons g x rr=>
     obtain⟨HD1,HD2,HD3⟩:=bA HR2.out.2.1.symm;have HD:Hid (r9.rs.drop (k2+1)=rr.rs):=yh HD2;have hkn:k2<nr:=by rw[<- HNR9.out];exact HD3
     obtain⟨q,o,pv,hga,gx,gl,c0,c1,c2,hpw⟩:=(qG HN.out).at HD1;clear HD1 HD2 HD3;subst hga;simp only[List.mem_cons,not_or]at gx;have HPV:=yh hpw;obtain⟨pa,pn,pc,hpv⟩:∃a n c,pv=.slice a n c:=by
      obtain⟨a,c,h,_⟩:=id hpw;exact⟨a,_,c,h⟩
     have HX0:Hid (bG W0 x):=yh (by have h:=HR2.out.1;simp only[Ws.allw]at h;exact h.1);obtain⟨z5,hz5⟩:∃z,x.plain=z:=⟨_,rfl⟩;have HZ5:=yh hz5;have HPZ:=yh (fP x HX0.out.2.1);have hxz:=HX0.out.2.2;rw[hz5]at HPZ;clear hpw hz5;subst hpv;go_upto_region 14 with(fail)
     (with_reducible refine zT1 HWB.out HM.out ?_);clear hF;clear hL HM HWB;intro W HA HM HWB hJ hL hF;replace HB:=cy HB hJ;replace HN:=cy HN hJ;replace HPV:=cy HPV hJ;clear hJ
     clear n0 gx gl c0 c1 c2;obtain⟨hq,hx,h0,h1,h2⟩:=HA.out.c3
     cases z6<;>(
      go_wp2_with (first|(with_reducible refine zS ?_;intro W hL hF)|(go_at_call 94;refine aj ?_;clear hF hL;intro W hL;have hF:=hL.fx;(with_reducible refine(jp x.ps _ HPZ.out _ _ hxz _ (HPV.out.at_ hL)).mono ?_);rintro e V ⟨rfl,hb⟩;have hL3:=hL.below hb;clear hb;have hM2:=yh (HM.out.next hL3);clear HM;have HM:=hM2;clear hM2;have hJ:=hL3;replace HA:=cy HA hJ;replace HB:=cy HB hJ;replace HN:=cy HN hJ;replace HPV:=cy HPV hJ;have HWB2:=yh (Kn.tail0 HWB.out hJ);clear HWB;have HWB:=HWB2;clear HWB2 hJ hL hL3;clear hF;have hL:=Kn.self0q HWB.out;have hF:=hL.fx;clear hq hx h0 h1 h2;obtain⟨hq,hx,h0,h1,h2⟩:=HA.out.c3))
      refine⟨⟨_,k2+1,rr,rfl,by go_num,by omega,yh ?_,HWB.out,HM,HN,HB⟩,by simp[intOf];omega⟩;have h:=HR2.out;have hz:=HZ5.out;simp only[Ws.allw,Ws.plain,hz]at h;exact⟨h.1.2,HD.out.symm,by rw[h.2.2];simp⟩)
  |cons g x ra=>
   obtain⟨gs,ga,gb⟩:=g;obtain⟨HD1,HD2,HD3⟩:=bA HR.out.2.2.1.symm;have HD:Hid (a9.as.drop (k+1)=ra.as):=yh HD2;have hkn:k<na:=by rw[<- HNA9.out];exact HD3
   obtain⟨q,o,pv,hga,gx,gl,c0,c1,hpw⟩:=(xQ HN.out).at HD1;clear HD1 HD2 HD3;subst hga;simp only[List.mem_cons,not_or]at gx;obtain⟨u,hu⟩:∃u:ByteArray,(⟨gs.toArray⟩:ByteArray)=u:=⟨_,rfl⟩;have hbs:bs gs=.string u:=by rw[<- hu];rfl
   have HU9:Hid (gs=u.data.toList):=yh (by rw[<- hu]);change _=some (bs gs)at c0;rw[hbs]at c0;have HPV:=yh hpw;obtain⟨pa,pn,pc,hpv⟩:∃a n c,pv=.slice a n c:=by
    obtain⟨a,c,h,_⟩:=id hpw;exact⟨a,_,c,h⟩
   have HX0:Hid (bG W0 x):=yh (by have h:=HR.out.1;simp only[Ws.allw]at h;exact h.1);have HX1:=yh HX0.out.1.1;unfold MkW at HX1;have HX2:=yh HX0.out.1.2;obtain⟨z5,hz5⟩:∃z,x.plain=z:=⟨_,rfl⟩;have HZ5:=yh hz5;have HPZ:=yh (fP x HX0.out.2.1);have hxz:=HX0.out.2.2;rw[hz5]at HPZ;obtain⟨rfl,rfl⟩:ga=0/\gb=0:=by have h:=HR.out.2.1;simp only[Ws.ta]at h;exact h.1
   have HCW:Hid (s2.n+(1+cwt x.ps+ra.b)<=s.n+1+w9.b+a9.b):=HB9;clear hpw hu hbs hz5;subst hpv;go_upto_region 7 with(fail)
   (with_reducible refine zT1 HWB.out HM.out ?_);clear hF;clear hL HM HWB;intro W HA HM HWB hJ hL hF;replace HB:=cy HB hJ;replace HN:=cy HN hJ;replace HPV:=cy HPV hJ;clear hJ
   clear n0 gx gl c0 c1;obtain⟨hq,hx,h0,h1⟩:=HA.out.c2
   cases z4<;>(
    go_wp2_with (first|(with_reducible refine zS ?_;intro W hL hF)|((first|((first|(go_at_call 67;(with_reducible refine zK [] HWB.out HM.out (fun W hL hS hN=>HX1.out b _ ao cap LP _ _ (by have h0:=HM9.out;have h1:=HCW.out;simp only[nO]at *;omega) hS hN (HPV.out.at_ hL)) ?_))|(go_at_call 30;(with_reducible refine zK [] HWB.out HM.out (fun W hL hS hN=>fC W0 b _ ao cap LP _ {op:=8,s:=gs,w:=x.ps} 8 0 0 u _ rfl rfl rfl HU9.out (HPV.out.at_ hL) (by have h0:=HM9.out;have h1:=HCW.out;have h2:=HX2.out s2;omega) hS hN.w) ?_)));clear hF hL HWB HM;intro W ao cap LP HWB HM hJ hL hF;replace HA:=cy HA hJ;replace HB:=cy HB hJ;replace HN:=cy HN hJ;replace HPV:=cy HPV hJ;clear hJ)|(go_at_call 94;refine aj ?_;clear hF hL;intro W hL;have hF:=hL.fx;(with_reducible refine(jp x.ps _ HPZ.out _ _ hxz _ (HPV.out.at_ hL)).mono ?_);rintro e V ⟨rfl,hb⟩;have hL3:=hL.below hb;clear hb;have hM2:=yh (HM.out.next hL3);clear HM;have HM:=hM2;clear hM2;have hJ:=hL3;replace HA:=cy HA hJ;replace HB:=cy HB hJ;replace HN:=cy HN hJ;replace HPV:=cy HPV hJ;have HWB2:=yh (Kn.tail0 HWB.out hJ);clear HWB;have HWB:=HWB2;clear HWB2 hJ hL hL3;clear hF;have hL:=Kn.self0q HWB.out;have hF:=hL.fx));clear hq hx h0 h1;obtain⟨hq,hx,h0,h1⟩:=HA.out.c2))
    refine⟨⟨_,k+1,ra,(x.g s2).add {op:=8,s:=gs,w:=x.ps},ao,cap,LP,rfl,by go_num,by omega,yh ?_,yh ?_,HWB.out,HM,HN,HB⟩,by simp[intOf];omega⟩
    ·have h:=HR.out
     have hz:=HZ5.out;simp only[Ws.allw,Ws.ta,Ws.g,Ws.plain,hz]at h;exact⟨h.1.2,h.2.1.2,HD.out.symm,h.2.2.2.1,by rw[h.2.2.2.2];simp⟩
    ·have h:=HCW.out
     have h2:=HX2.out s2;rw[bh];omega)
structure NodeFn (fid:FuncId):Prop where
 run:∀(a:Array Value) (W:World),(callFunc fid a).run Tryz.prog W=.ok (.enter fid a) W
 ne:∀W:World,(binOp .eql 112 (.func (.func fid) #[] #[]) .nilFunc).run Tryz.prog W=.ok (.bool false) W
 ge:∀(x y:Operand) (W:World),(eqGuard .eql 112 x y (.func (.func fid) #[] #[]) .nilFunc).run Tryz.prog W=.ok () W
theorem xA:NodeFn 54:=⟨fun _ _=>by kernel_rfl,fun _=>by kernel_rfl,fun _ _ _=>by kernel_rfl⟩
theorem qJ:NodeFn 55:=⟨fun _ _=>by kernel_rfl,fun _=>by kernel_rfl,fun _ _ _=>by kernel_rfl⟩
theorem u4:NodeFn 56:=⟨fun _ _=>by kernel_rfl,fun _=>by kernel_rfl,fun _ _ _=>by kernel_rfl⟩
theorem xB:NodeFn 57:=⟨fun _ _=>by kernel_rfl,fun _=>by kernel_rfl,fun _ _ _=>by kernel_rfl⟩
theorem lh:NodeFn 58:=⟨fun _ _=>by kernel_rfl,fun _=>by kernel_rfl,fun _ _ _=>by kernel_rfl⟩
theorem zg:NodeFn 59:=⟨fun _ _=>by kernel_rfl,fun _=>by kernel_rfl,fun _ _ _=>by kernel_rfl⟩
theorem u5:NodeFn 60:=⟨fun _ _=>by kernel_rfl,fun _=>by kernel_rfl,fun _ _ _=>by kernel_rfl⟩
theorem lj:NodeFn 61:=⟨fun _ _=>by kernel_rfl,fun _=>by kernel_rfl,fun _ _ _=>by kernel_rfl⟩
theorem qK:NodeFn 62:=⟨fun _ _=>by kernel_rfl,fun _=>by kernel_rfl,fun _ _ _=>by kernel_rfl⟩
theorem xC:NodeFn 63:=⟨fun _ _=>by kernel_rfl,fun _=>by kernel_rfl,fun _ _ _=>by kernel_rfl⟩
theorem u6:NodeFn 64:=⟨fun _ _=>by kernel_rfl,fun _=>by kernel_rfl,fun _ _ _=>by kernel_rfl⟩
theorem oa:NodeFn 65:=⟨fun _ _=>by kernel_rfl,fun _=>by kernel_rfl,fun _ _ _=>by kernel_rfl⟩
theorem dI{W0:World}{t:Tr}{fid:FuncId}{N:Nat}{G:PS->PS}(hn:NodeFn fid)(hkm:(Value.int .i64 (t.nd.kind:Int),Value.func (.func fid) #[] #[])∈n4)(hx:MkF W0 fid t.nd N G){r9:Ws}(hrs:t.nd.rs=r9.rs)(hall:r9.allw (bG W0))(htr:r9.tr)(hsz:r9.rs.length<=100000)(hMM:N+1+r9.b<=t.nd.co)(hok:t.ok)(hg:∀s,s.e=0->t.g s=if r9.nil? then G s else(G (r9.g 10 (s.op 9 0))).op 11 0)(h0:∀s,s.e≠0->t.g s=s):cd W0 t:=by
 refine⟨?_,fun s=>⟨Tr.len t hok s,Tr.mono t s⟩⟩
 have hl:∀s,(t.g s).n+2<=s.n+t.nd.co:=Tr.len t hok
 cases hr:r9.nil? with
 |true=>
  simp only[hr,if_true]at hg;exact xt fid hn.run hn.ne hn.ge hkm hx hrs hall htr hsz hr hMM hg h0 hl
 |false=>
  simp only[hr,Bool.false_eq_true,if_false]at hg;exact xu fid hn.run hn.ne hn.ge hkm hx hrs hall htr hsz hr hMM hg h0 hl
theorem ew{W0:World}{t:Tr}{fid:FuncId}{N:Nat}{G:PS->PS}(hn:NodeFn fid)(hkm:(Value.int .i64 (t.nd.kind:Int),Value.func (.func fid) #[] #[])∈n4)(hx:MkF W0 fid t.nd N G)(hrs:t.nd.rs=[])(hMM:N+1<=t.nd.co)(hok:t.ok)(hg:∀s,s.e=0->t.g s=G s)(h0:∀s,s.e≠0->t.g s=s):cd W0 t:=
 dI (r9:=.nil) hn hkm hx (by rw[hrs];rfl) trivial trivial (Nat.zero_le _) (by simp only[Ws.b];omega) hok (fun s hs=>by rw[hg s hs];rfl) h0
theorem xR:∀w:Ws,w.ws=w.as.map (·.2)
 |.nil=>rfl
 |.cons g w r=>by simp only[Ws.ws,Ws.as,List.map_cons,xR r]
theorem xS:∀w:Ws,w.ws=w.rs.map (·.2.2)
 |.nil=>rfl
 |.cons g w r=>by simp only[Ws.ws,Ws.rs,List.map_cons,xS r]
theorem l9{W0:World}:∀w:Ws,w.allw (bG W0)->w.allw (ld W0)
 |.nil,_=>trivial
 |.cons g w r,h=>⟨h.1.1,l9 r h.2⟩
theorem u7(o:Nat){w:Ws}(hok:w.ok)(s:PS):(w.g o s).n<=s.n+w.b/\s.n<=(w.g o s).n:=⟨Ws.len o w hok s,Ws.mono o w s⟩
theorem l_{s:ab}{l:List Nd}(h:aH s=.ok l):Sm 100000 (.mk 4 [] false [] [] [] l):=by
 obtain⟨h1,h2⟩:=kW (cJ h) h
 exact .mk 4 [] false [] [] [] l (Nat.zero_le _) (fun x hx=>by cases hx) (Nat.zero_le _) (fun x hx=>by cases hx) (Nat.zero_le _) (fun x hx=>by cases hx) (by omega) fun n hn=>(h2 n hn).mono (by omega)
set_option maxHeartbeats 4000000
theorem db{N:Nat}{n:Nd}(h:Sm N n):n.kids.length<=N/\∀y∈n.kids,Sm N y:=by
 cases h with
 |mk k n g a w r l h1 h2 h3 h4 h5 h6 h7 h8=>exact⟨h7,h8⟩
theorem qL{N:Nat}{n:Nd}(h:Sm N n):n.ws.length<=N/\∀y∈n.ws,y.length<=N:=by
 cases h with
 |mk k n g a w r l h1 h2 h3 h4 h5 h6 h7 h8=>exact⟨h3,h4⟩
theorem iZ{N:Nat}{n:Nd}{r:Ws}(h:Sm N n)(hr:n.rs=r.rs):r.rs.length<=N/\∀y∈r.ws,y.length<=N:=by
 rw[xS,<- hr]
 cases h with
 |mk k n g a w r l h1 h2 h3 h4 h5 h6 h7 h8=>exact⟨h5,fun y hy=>by obtain⟨x,hx,rfl⟩:=List.mem_map.1 hy;exact h6 x hx⟩
theorem Ao{N:Nat}{n:Nd}{a:Ws}(h:Sm N n)(hr:n.asg=a.as):a.as.length<=N/\∀y∈a.ws,y.length<=N:=by
 rw[xR,<- hr]
 cases h with
 |mk k n g a w r l h1 h2 h3 h4 h5 h6 h7 h8=>exact⟨h1,fun y hy=>by obtain⟨x,hx,rfl⟩:=List.mem_map.1 hy;exact h2 x hx⟩
mutual
theorem Wd.mka{W0:World}(hT:TabP W0):∀w:Wd,w.ok->w.tg->w.all (cd W0)
 |.nil,_,_=>trivial
 |.lit p r,h,g=>by
  simp only[Wd.ok,Wd.tg,Wd.all]at h g |-
  exact Wd.mka hT r h.2 g
 |.sub p t r,h,g=>by
  simp only[Wd.ok,Wd.tg,Wd.all]at h g |-
  obtain⟨_,⟨l,h1,h2,_⟩,h3,h4⟩:=h;exact⟨Tr.mkq hT t h3 g.1 (by rw[h2];exact l_ h1),Wd.mka hT r h4 g.2⟩
 |.bad p f r,h,g=>by
  simp only[Wd.ok,Wd.tg,Wd.all]at h g |-
  exact Wd.mka hT r h.2.2 g
theorem Ws.mka{W0:World}(hT:TabP W0):∀w:Ws,w.ok->w.tg->(∀y∈w.ws,y.length<=100000)->w.allw (bG W0)
 |.nil,_,_,_=>trivial
 |.cons g w r,h,k,hs=>by
  simp only[Ws.ok,Ws.tg,Ws.allw,Ws.ws,List.mem_cons,forall_eq_or_imp]at h k hs |-
  exact⟨⟨⟨qE gM hT w h.1 (Wd.mka hT w h.1 k.1) hs.1,fun s=>⟨Wd.len w h.1 s,Wd.mono w s⟩⟩,h.1,hs.1⟩,Ws.mka hT r h.2 k.2 hs.2⟩
theorem Tr.mkq{W0:World}(hT:TabP W0):∀t:Tr,t.ok->t.tg->Sm 100000 t.nd->cd W0 t
 |.simple a w r,h,g,hs=>by
  have h':=h;simp only[Tr.ok,Tr.tg]at h g;obtain⟨a1,a2⟩:=Ao hs (a:=a) (by simp only[Tr.nd];rfl);obtain⟨r1,r2⟩:=iZ hs (r:=r) (by simp only[Tr.nd];rfl);obtain⟨w1,w2⟩:=qL hs;have hA:=Ws.mka hT a h.1 g.1.1 a2;have hR:=Ws.mka hT r h.2.2 g.2.2.1 r2;have w2':∀y∈w.ws,y.length<=100000:=by simp only[Tr.nd]at w2;exact w2
  have w1':w.ws.length<=100000:=by simp only[Tr.nd]at w1;exact w1
  have hW:=Ws.mka hT w h.2.1 g.2.1.1 w2';have hco:(Tr.simple a w r).nd.co=8+(a.b+w.b+r.b):=by simp only[Tr.nd,cu,y6,rW,fG,bg];omega
  have hkm:(Value.int .i64 ((Tr.simple a w r).nd.kind:Int),Value.func (.func 58) #[] #[])∈n4:=by simp[Tr.nd,Nd.kind]
  cases hw:w.nil? with
  |true=>
   have hwn:w=.nil:=by cases w with|nil=>rfl|cons g x r=>simp[Ws.nil?]at hw
   exact dI lh hkm (pA hA g.1.2 hR hwn (fun s=>if a.plain&&r.plain then(a.g 8 s).op 5 0 else a.g 8 s) (fun s=>rfl) a1 r1) (r9:=r) (by simp only[Tr.nd];rfl) hR g.2.2.2 r1 (by rw[hco];omega) h' (fun s hs=>by simp only[Tr.g,hs,if_true,hw];cases r.nil? <;>simp) (fun s hs=>by simp only[Tr.g,if_neg hs])
  |false=>
   exact dI lh hkm (py hA g.1.2 hR hw (nZ w (l9 w hW) g.2.1.2 w1') (u7 7 h.2.1) a1 r1) (r9:=r) (by simp only[Tr.nd];rfl) hR g.2.2.2 r1 (by rw[hco];omega) h' (fun s hs=>by simp only[Tr.g,hs,if_true,hw];cases r.nil? <;>simp) (fun s hs=>by simp only[Tr.g,if_neg hs])
 |.pipe g l,h,k,hs=>by
  have h':=h;simp only[Tr.ok,Tr.tg]at h k;obtain⟨s1,s2⟩:=db hs;simp only[Tr.nd,Nd.kids]at s1 s2;have hl:=Ts.mkq hT l h.1 k s2;have hco:∀g,(Tr.pipe g l).nd.co=8+Nd.cos l.nds:=fun g=>by simp only[Tr.nd,dl]
  cases g with
  |true=>exact ew qJ (by simp[Tr.nd,Nd.kind]) (n_ hl s1) (by simp only[Tr.nd];rfl) (by rw[hco];omega) h' (fun s hs=>by simp only[Tr.g,hs,if_true]) (fun s hs=>by simp only[Tr.g,if_neg hs])
  |false=>exact ew qJ (by simp[Tr.nd,Nd.kind]) (l8 hl s1) (by simp only[Tr.nd];rfl) (by rw[hco];omega) h' (fun s hs=>by simp only[Tr.g,hs,if_true,Bool.false_eq_true,if_false]) (fun s hs=>by simp only[Tr.g,if_neg hs])
 |.ao o x y,h,k,hs=>by
  have h':=h;simp only[Tr.ok,Tr.tg]at h k;obtain⟨s1,s2⟩:=db hs;simp only[Tr.nd,Nd.kids,List.mem_cons,forall_eq_or_imp]at s1 s2;have hx:=Tr.mkq hT x h.1 k.1 s2.1;have hy:=Tr.mkq hT y h.2 k.2 s2.2.1;have hco:∀o,(Tr.ao o x y).nd.co=8+x.nd.co+y.nd.co:=fun o=>by simp only[Tr.nd,kg]
  cases o with
  |true=>exact ew u4 (by simp[Tr.nd,Nd.kind]) (pt (eV hx.1 hx.2) hy.1 hx.2 hy.2) (by simp only[Tr.nd];rfl) (by rw[hco];omega) h' (fun s hs=>by simp only[Tr.g,hs,if_true];rfl) (fun s hs=>by simp only[Tr.g,if_neg hs])
  |false=>exact ew u4 (by simp[Tr.nd,Nd.kind]) (nY (eV hx.1 hx.2) hy.1 hx.2 hy.2) (by simp only[Tr.nd];rfl) (by rw[hco];omega) h' (fun s hs=>by simp only[Tr.g,hs,if_true,Bool.false_eq_true,if_false];rfl) (fun s hs=>by simp only[Tr.g,if_neg hs])
 |.lst l,h,k,hs=>by
  have h':=h;simp only[Tr.ok,Tr.tg]at h k;obtain⟨s1,s2⟩:=db hs;simp only[Tr.nd,Nd.kids]at s1 s2;exact ew xA (by simp[Tr.nd,Nd.kind]) (xz (Ts.mkq hT l h k s2) s1) (by simp only[Tr.nd];rfl) (by simp only[Tr.nd,dl];omega) h' (fun s hs=>by simp only[Tr.g,hs,if_true]) (fun s hs=>by simp only[Tr.g,if_neg hs])
 |.back x,h,k,hs=>by
  have h':=h;simp only[Tr.ok,Tr.tg]at h k;obtain⟨s1,s2⟩:=db hs;simp only[Tr.nd,Nd.kids,List.mem_cons,forall_eq_or_imp]at s1 s2;have hx:=Tr.mkq hT x h k s2.1;exact ew xB (by simp[Tr.nd,Nd.kind]) (xp hx.1 hx.2) (by simp only[Tr.nd];rfl) (by simp only[Tr.nd,gJ];omega) h' (fun s hs=>by simp only[Tr.g,hs,if_true]) (fun s hs=>by simp only[Tr.g,if_neg hs])
 |.sub x r,h,k,hs=>by
  have h':=h;simp only[Tr.ok,Tr.tg]at h k;obtain⟨s1,s2⟩:=db hs;obtain⟨r1,r2⟩:=iZ hs (r:=r) (by simp only[Tr.nd];rfl);simp only[Tr.nd,Nd.kids,List.mem_cons,forall_eq_or_imp]at s1 s2;have hx:=Tr.mkq hT x h.1 k.1 s2.1;exact dI zg (by simp[Tr.nd,Nd.kind]) (y' (r:=r) hx.1 hx.2) (r9:=r) (by simp only[Tr.nd];rfl) (Ws.mka hT r h.2 k.2.1 r2) k.2.2 r1 (by simp only[Tr.nd,cu,fG,cX.1,cX.2.1,aL,bg];omega) h' (fun s hs=>by simp only[Tr.g,hs,if_true];cases r.nil? <;>first|rfl|simp) (fun s hs=>by simp only[Tr.g,if_neg hs])
 |.grp x r,h,k,hs=>by
  have h':=h;simp only[Tr.ok,Tr.tg]at h k;obtain⟨s1,s2⟩:=db hs;obtain⟨r1,r2⟩:=iZ hs (r:=r) (by simp only[Tr.nd];rfl);simp only[Tr.nd,Nd.kids,List.mem_cons,forall_eq_or_imp]at s1 s2;have hx:=Tr.mkq hT x h.1 k.1 s2.1;exact dI u5 (by simp[Tr.nd,Nd.kind]) (uT (r:=r) hx.1) (r9:=r) (by simp only[Tr.nd];rfl) (Ws.mka hT r h.2 k.2.1 r2) k.2.2 r1 (by simp only[Tr.nd,cu,fG,cX.1,cX.2.1,aL,bg];omega) h' (fun s hs=>by simp only[Tr.g,hs,if_true];cases r.nil? <;>first|rfl|simp) (fun s hs=>by simp only[Tr.g,if_neg hs])
 |.iff c t r,h,k,hs=>by
  have h':=h;simp only[Tr.ok,Tr.tg]at h k;obtain⟨s1,s2⟩:=db hs;obtain⟨r1,r2⟩:=iZ hs (r:=r) (by simp only[Tr.nd];rfl);simp only[Tr.nd,Nd.kids,List.mem_cons,forall_eq_or_imp]at s1 s2;have hc:=Tr.mkq hT c h.1 k.1.1 s2.1;have ht:=Tr.mkq hT t h.2.1 k.1.2 s2.2.1;exact dI lj (by simp[Tr.nd,Nd.kind]) (za (r:=r) (eV hc.1 hc.2) ht.1 hc.2 ht.2) (r9:=r) (by simp only[Tr.nd];rfl) (Ws.mka hT r h.2.2 k.2.1 r2) k.2.2 r1 (by simp only[Tr.nd,cu,fG,cX.1,cX.2.1,aL,bg];omega) h' (fun s hs=>by simp only[Tr.g,hs,if_true];cases r.nil? <;>first|rfl|simp) (fun s hs=>by simp only[Tr.g,if_neg hs])
 |.ife c t e r,h,k,hs=>by
  have h':=h;simp only[Tr.ok,Tr.tg]at h k;obtain⟨s1,s2⟩:=db hs;obtain⟨r1,r2⟩:=iZ hs (r:=r) (by simp only[Tr.nd];rfl);simp only[Tr.nd,Nd.kids,List.mem_cons,forall_eq_or_imp]at s1 s2;have hc:=Tr.mkq hT c h.1 k.1.1 s2.1;have ht:=Tr.mkq hT t h.2.1 k.1.2.1 s2.2.1;have he:=Tr.mkq hT e h.2.2.1 k.1.2.2 s2.2.2.1;exact dI lj (by simp[Tr.nd,Nd.kind]) (zf (r:=r) (eV hc.1 hc.2) ht.1 he.1 hc.2 ht.2 he.2) (r9:=r) (by simp only[Tr.nd];rfl) (Ws.mka hT r h.2.2.2 k.2.1 r2) k.2.2 r1 (by simp only[Tr.nd,cu,fG,cX.1,cX.2.1,aL,bg];omega) h' (fun s hs=>by simp only[Tr.g,hs,if_true];cases r.nil? <;>first|rfl|simp) (fun s hs=>by simp only[Tr.g,if_neg hs])
 |.loop u c y r,h,k,hs=>by
  have h':=h;simp only[Tr.ok,Tr.tg]at h k;obtain⟨s1,s2⟩:=db hs;obtain⟨r1,r2⟩:=iZ hs (r:=r) (by simp only[Tr.nd];rfl);simp only[Tr.nd,Nd.kids,List.mem_cons,forall_eq_or_imp]at s1 s2;have hc:=Tr.mkq hT c h.1.1 k.1.1 s2.1;have ht:=Tr.mkq hT y h.2.1 k.1.2 s2.2.1
  cases u with
  |true=>exact dI qK (by simp[Tr.nd,Nd.kind]) (n7 (r:=r) (eV hc.1 hc.2) ht.1 hc.2 ht.2) (r9:=r) (by simp only[Tr.nd];rfl) (Ws.mka hT r h.2.2 k.2.1 r2) k.2.2 r1 (by simp only[Tr.nd,cu,fG,cX.1,cX.2.1,aL,bg];omega) h' (fun s hs=>by simp only[Tr.g,hs,if_true];cases r.nil? <;>first|rfl|simp) (fun s hs=>by simp only[Tr.g,if_neg hs])
  |false=>exact dI qK (by simp[Tr.nd,Nd.kind]) (l7 (r:=r) (eV hc.1 hc.2) ht.1 hc.2 ht.2) (r9:=r) (by simp only[Tr.nd];rfl) (Ws.mka hT r h.2.2 k.2.1 r2) k.2.2 r1 (by simp only[Tr.nd,cu,fG,cX.1,cX.2.1,aL,bg];omega) h' (fun s hs=>by simp only[Tr.g,hs,if_true];cases r.nil? <;>first|rfl|simp) (fun s hs=>by simp only[Tr.g,if_neg hs])
 |.for_ m w y r,h,k,hs=>by
  have h':=h;simp only[Tr.ok,Tr.tg]at h k;obtain⟨s1,s2⟩:=db hs;obtain⟨w1,w2⟩:=qL hs;obtain⟨r1,r2⟩:=iZ hs (r:=r) (by simp only[Tr.nd];rfl);simp only[Tr.nd,Nd.kids,Nd.ws,List.mem_cons,forall_eq_or_imp]at s1 s2 w1 w2;have hy:=Tr.mkq hT y h.2.1 k.1.2 s2.1;exact dI xC (by simp[Tr.nd,Nd.kind]) (xr (r:=r) (nZ w (l9 w (Ws.mka hT w h.1 k.1.1.1 w2)) k.1.1.2 w1) hy.1 (u7 7 h.1) hy.2) (r9:=r) (by simp only[Tr.nd];rfl) (Ws.mka hT r h.2.2 k.2.1 r2) k.2.2 r1 (by simp only[Tr.nd,cu,fG,rW,cX.1,aL,bg];omega) h' (fun s hs=>by simp only[Tr.g,hs,if_true];cases r.nil? <;>first|rfl|simp) (fun s hs=>by simp only[Tr.g,if_neg hs])
 |.case_ w l r,h,k,hs=>by
  have h':=h;simp only[Tr.ok,Tr.tg]at h k;obtain⟨s1,s2⟩:=db hs;obtain⟨w1,w2⟩:=qL hs;obtain⟨r1,r2⟩:=iZ hs (r:=r) (by simp only[Tr.nd];rfl);simp only[Tr.nd,Nd.kids,Nd.ws,List.mem_cons,forall_eq_or_imp]at s1 s2 w1 w2;have hw:bG W0 w:=⟨⟨qE gM hT w h.1 (Wd.mka hT w h.1 k.1.1) w2.1,fun s=>⟨Wd.len w h.1 s,Wd.mono w s⟩⟩,h.1,w2.1⟩;exact dI u6 (by simp[Tr.nd,Nd.kind]) (uZ (r9:=r) hw (Am.mkq hT l h.2.1 k.1.2 s2) s1) (r9:=r) (by simp only[Tr.nd];rfl) (Ws.mka hT r h.2.2 k.2.1 r2) k.2.2 r1 (by simp only[Tr.nd,cu,fG,eR,cX.1,cX.2.1];omega) h' (fun s hs=>by simp only[Tr.g,hs,if_true];cases r.nil? <;>first|rfl|simp) (fun s hs=>by simp only[Tr.g,if_neg hs])
 |.fn m y,h,k,hs=>by
  have h':=h;simp only[Tr.ok,Tr.tg]at h k;obtain⟨s1,s2⟩:=db hs;simp only[Tr.nd,Nd.kids,List.mem_cons,forall_eq_or_imp]at s1 s2;have hy:=Tr.mkq hT y h k s2.1;exact ew oa (by simp[Tr.nd,Nd.kind]) (Al hy.1 hy.2) (by simp only[Tr.nd];rfl) (by simp only[Tr.nd,gJ];omega) h' (fun s hs=>by simp only[Tr.g,hs,if_true];rw[show(s.add {op:=22,s:=m}).n=s.n+1 from bh s _];rfl) (fun s hs=>by simp only[Tr.g,if_neg hs])
theorem Ts.mkq{W0:World}(hT:TabP W0):∀l:Ts,l.ok->l.tg->(∀n∈l.nds,Sm 100000 n)->l.alls (cd W0)
 |.nil,_,_,_=>trivial
 |.cons x r,h,k,hs=>by
  simp only[Ts.ok,Ts.tg,Ts.alls,Ts.nds,List.mem_cons,forall_eq_or_imp]at h k hs |-
  exact⟨Tr.mkq hT x h.1 k.1 hs.1,Ts.mkq hT r h.2 k.2 hs.2⟩
theorem Am.mkq{W0:World}(hT:TabP W0):∀l:Am,l.ok->l.tg->(∀n∈l.nds,Sm 100000 n)->l.alla (bG W0) (cd W0)
 |.nil,_,_,_=>trivial
 |.cons w b r,h,k,hs=>by
  simp only[Am.ok,Am.tg,Am.alla,Am.nds,List.mem_cons,forall_eq_or_imp]at h k hs |-
  obtain⟨w1,w2⟩:=qL hs.1;obtain⟨s1,s2⟩:=db hs.1;simp only[Nd.kids,Nd.ws,List.mem_cons,forall_eq_or_imp]at s1 s2 w1 w2;exact⟨Ws.mka hT w h.1 k.1.1 w2,Tr.mkq hT b h.2.1 k.2.1 s2.1,Am.mkq hT r h.2.2 k.2.2 hs.2⟩
end
def PlanRow(Y:List Nat)(W:World)(v:Value)(c:List Ins):Prop:=∃cv:List (Ins×Value),cv.map (·.1)=c/\RowY 5 Y W v (cv.map eg)/\∀x∈cv,PRow Y W x.2 x.1.w
theorem PlanRow.kn{X Y:List Nat}{w0 W:World}{L:List (Nat×Obj)}{v:Value}{c:List Ins}(h:PlanRow X w0 v c)(k:Kn X w0 W L)(hy:∀y∈Y,y∈X\/w0.heap.size<=y):PlanRow Y W v c:=by
 obtain⟨cv,h1,h2,h3⟩:=h
 exact⟨cv,h1,RowY.kn h2 k hy,fun x hx=>RowY.kn (h3 x hx) k hy⟩
theorem Kn.monoX{X Y:List Nat}{w0 W:World}{L:List (Nat×Obj)}(h:Kn X w0 W L)(hy:∀x∈X,x∈Y):Kn Y w0 W L:=
 ⟨h.os,h.tape,h.output,h.size,fun b hb hm=>h.block b hb (fun e=>hm (hy b e)),fun p hp=>(h.own p hp).imp id (hy _),h.has,h.nd⟩
theorem MkQ.plan{W0 W w0:World}{X Y:List Nat}{b:Nat}{s:PS}{v:Value}{LZ LC K:List (Nat×Obj)}(h:MkQ W0 LZ W b s v (LC++LZ))(hk:Kn X w0 W K)(hs:∀p∈LC,p∈K)(hd:∀p∈LC,p.1∉Y)(hy:∀y∈Y,y∈keys LZ):PlanRow Y W v s.c:=by
 obtain⟨cv,h1,⟨LC9,e,h2,_⟩,h3,_⟩:=h
 obtain rfl:=List.append_cancel_right e
 exact⟨cv,h1,RowL.rowY eU h2 hk hs hd,fun x hx=>(h3 x hx).sub (fun y hm=>.inl (List.mem_cons_of_mem _ (by rw[keys,List.map_append];exact List.mem_append_right _ (hy y hm))))⟩
theorem sa{W0 w W:World}{X:List Nat}{b:Nat}{o:Obj}{LZ:List (Nat×Obj)}(hB:Below W0.heap.size W0 w)(hJ:Kn X w W ((b,o)::LZ))(hX:∀y∈X,W0.heap.size<=y)(hb:W0.heap.size<=b)(hz:∀p∈LZ,W0.heap.size<=p.1)(ht:∀p∈LZ,∃c t,p.2=.cells c t (0,0)/\t≠118):MkQ W0 LZ W b ⟨[],0,0⟩ (.slice none (PS.n ⟨[],0,0⟩) 0) LZ:=⟨[],rfl,⟨[],rfl,RowL.nil,ht⟩,fun x hx=>(by cases hx),eT hB hJ hX,hb,hz,Nat.le_refl _⟩
theorem Kn.rot3{X:List Nat}{w0 W:World}{p0 p1 p2:Nat×Obj}{LY:List (Nat×Obj)}(h:Kn X w0 W (p2::p1::p0::LY)):Kn X w0 W ([p0]++p2::(p1::LY)):=h.perml fun p=>by simp only[List.countP_cons,List.countP_append,List.countP_nil];omega
def xT(Y:List Nat)(W:World)(s:PS)(e:Ending)(w':World):Prop:=Below W.heap.size W w'/\((s.e=0/\∃ao cap,e=.returned (.tuple #[.agg #[.slice ao s.n cap],.int .i64 0])/\PlanRow Y w' (.slice ao s.n cap) s.c)\/(s.e≠0/\e=.returned (.tuple #[.agg #[.slice none 0 0],.int .i64 (s.e:Int)])))
theorem u_ (l : Ts) (hok : (Tr.lst l).ok) (htg : (Tr.lst l).tg) (hsm : Sm 100000 (Tr.lst l).nd) (hco : (Tr.lst l).nd.co <= 800000) (W0 w : World) (hB : Below W0.heap.size W0 w) (hT : TabP W0) (LY : List (Nat × Obj)) (hLY : Kn (keys LY) w w LY) (hY0 : ∀ p ∈ LY, W0.heap.size <= p.1) (hYt : ∀ p ∈ LY, ∃ c t, p.2 = .cells c t (0, 0) /\ t ≠ 118) (cs : List Value) (hn : NodeIs (keys LY) w (Tr.lst l).nd cs) : Calls Tryz.prog 14 #[.agg cs.toArray] w (xT (keys LY) w (ax l)) := by
 obtain ⟨hx, hlx⟩ := Tr.mkq hT (.lst l) hok htg hsm
 obtain ⟨aa, ca, aw, cw9, ar, cr, ak, ck, rfl⟩ := cY hn
 obtain ⟨kz, hkz⟩ : ∃ z : Int, (((Tr.lst l).nd.kind : Nat) : Int) = z := ⟨_, rfl⟩
 obtain ⟨nm, hnm⟩ : ∃ z : ByteArray, (⟨((Tr.lst l).nd.name).toArray⟩ : ByteArray) = z := ⟨_, rfl⟩
 obtain ⟨ng, hng⟩ : ∃ z : Bool, (Tr.lst l).nd.neg = z := ⟨_, rfl⟩
 obtain ⟨na, hna⟩ : ∃ z, (Tr.lst l).nd.asg.length = z := ⟨_, rfl⟩
 obtain ⟨nw, hnw⟩ : ∃ z, (Tr.lst l).nd.ws.length = z := ⟨_, rfl⟩
 obtain ⟨nr, hnr⟩ : ∃ z, (Tr.lst l).nd.rs.length = z := ⟨_, rfl⟩
 obtain ⟨nk, hnk⟩ : ∃ z, (Tr.lst l).nd.kids.length = z := ⟨_, rfl⟩
 have hbs : bs (Tr.lst l).nd.name = .string nm := by rw [<- hnm]; rfl
 rw [hkz, hbs, hng, hna, hnw, hnr, hnk] at hn |-
 have HKZ := yh hkz
 have HNM := yh hnm
 have HNG := yh hng
 have HNA := yh hna
 have HNW := yh hnw
 have HNR := yh hnr
 have HNK := yh hnk
 clear hkz hng hna hnw hnr hnk
 clear hbs hnm
 have HN0 := yh hn
 have HLX := yh (hlx ⟨[], 0, 0⟩)
 have HCO := yh hco
 unfold MkF at hx; have HX := yh hx; clear hx
 have HBW := yh hB
 have HLY := yh hLY
 have HYQ := yh hY0
 have HYT := yh hYt
 have hwz : W0.heap.size <= w.heap.size := hB.size
 have hL := hLY
 clear hn hT hsm hok htg hco hlx hB hLY hY0 hYt
 have hF := hL.fx
 go_enter Tryz.func14, Tryz.ntmps14
 go_upto_region 2 with (fail)
 refine iF ?_; clear hF hL; intro W hL
 have hB := hL.rot3
 have HB := yh (dv (A := [_]) hB m0)
 have hJ : Kn (keys LY) w W ((w.heap.size + 1 + 1, .cells #[.slice none (PS.mk [] 0 0).n 0, .int .i64 ((PS.mk [] 0 0).i : Int), .int .i64 ((PS.mk [] 0 0).e : Int)] 81 (0, 0)) :: ((w.heap.size + 1, .cells #[.slice none 0 0] 25 (0, 0)) :: LY)) := hB.drop1
 have hM := sa HBW.out hJ (fun y hy => by obtain ⟨p, hp, rfl⟩ := List.mem_map.1 hy; exact HYQ.out p hp) (by omega) (fun p hp => by rcases List.mem_cons.1 hp with rfl | hp; exact Nat.le_succ_of_le hwz; exact HYQ.out p hp) (fun p hp => by rcases List.mem_cons.1 hp with rfl | hp; exact ⟨_, _, rfl, by decide⟩; exact HYT.out p hp)
 have HN := yh (HN0.out.mk2 hJ)
 have HMB := yh (show ax l = if (((Tr.lst l).g ⟨[], 0, 0⟩).add { op := 26, a := 0 }).e = 0 /\ 500 < (((Tr.lst l).g ⟨[], 0, 0⟩).add { op := 26, a := 0 }).i then ⟨(((Tr.lst l).g ⟨[], 0, 0⟩).add { op := 26, a := 0 }).c, (((Tr.lst l).g ⟨[], 0, 0⟩).add { op := 26, a := 0 }).i, 6⟩ else (((Tr.lst l).g ⟨[], 0, 0⟩).add { op := 26, a := 0 }) from rfl)
 have hs0 : PS.n ⟨[], 0, 0⟩ = 0 := rfl
 clear hB hL HN0
 obtain ⟨b, hb⟩ : ∃ x, w.heap.size + 1 + 1 = x := ⟨_, rfl⟩
 obtain ⟨q, hq⟩ : ∃ x, w.heap.size + 1 = x := ⟨_, rfl⟩
 rw [hb] at hJ hM HB HN |-
 rw [hq] at hJ hM HB HN |-
 obtain ⟨LZ, hLZ⟩ : ∃ x : List (Nat × Obj), (q, .cells #[.slice none 0 0] 25 (0, 0)) :: LY = x := ⟨_, rfl⟩
 obtain ⟨s, hs⟩ : ∃ x, PS.mk [] 0 0 = x := ⟨_, rfl⟩
 rw [hLZ] at hJ hM HB HN
 rw [hs] at hJ hM HMB HLX hs0
 have HLZ := yh hLZ
 have HS0 := yh hs0
 have HWB := yh hJ
 have HM := yh hM
 clear hJ hM hs hLZ hs0
 have hL := Kn.self0q HWB.out
 have hF := hL.fx
 have n0 := HB.out.c7
 go_upto_region 4 with (first | (go_at_call 29; (with_reducible refine zK [] HWB.out HM.out (fun W hL hS hN => HX.out b _ none 0 LZ _ _ (by have h0 := HCO.out; have h1 := HS0.out; simp only [nO] at *; omega) hS hN (HN.out.at_ hL)) ?_); clear hF hL HWB HM; intro W ao cap LP HWB HM hJ hL hF; clear hJ) | (go_at_call 30; (with_reducible refine zK [] HWB.out HM.out (fun W hL hS hN => fC W0 b _ ao cap LP _ { op := 26, a := 0 } 26 0 0 ⟨#[]⟩ (.slice none 0 0) rfl rfl rfl rfl c_ (by have h0 := HCO.out; have h1 := HS0.out; have h2 := HLX.out; omega) hS hN.w) ?_); clear hF hL HWB HM; intro W ao cap LP HWB HM hJ hL hF; clear hJ))
 clear n0 HB HN HX
 obtain ⟨s2, hs2⟩ : ∃ x, ((Tr.lst l).g s).add { op := 26, a := 0 } = x := ⟨_, rfl⟩
 rw [hs2] at HMB HM HWB
 clear hs2
 obtain ⟨LC, hLC, _⟩ := HM.out.open
 obtain rfl := HLZ.out
 subst hLC
 have HWZ := yh (Kn.mz HWB.out)
 clear hL hF
 have hL := Kn.self0q HWZ.out
 simp only [kfb] at hL; have hF := hL.fx
 by_cases he : s2.e = 0
 ·by_cases hi : 500 < s2.i
  ·have HE : Hid (ax l = ⟨s2.c, s2.i, 6⟩) := yh (by rw [HMB.out, if_pos ⟨he, hi⟩])
   have h1 : ((s2.e : Int) == 0) = true := by rw [he]; rfl
   have h2 : decide ((500 : Int) < (s2.i : Int)) = true := decide_eq_true (by omega); clear he hi; go_wp2_with (first | (with_reducible refine zS ?_; intro W hL hF) | ((with_reducible refine ac 7 ?_); refine zX [0, 1, 2, 3, 4, 5, 6] [] ?_ sR; clear hF hL; intro ι F hne hC hG; (repeat (first | (refine cS ?_) | ((first | refine cF hC ?_ | refine cP ?_); intro K hK; go_big_quiet_op; go_big_quiet_on) | (refine cN ?_; intro W hL; have hF := hL.fx; go_wp2; refine ai ?_; (first | (refine bH _ (by rfl) ?_; clear hL hC hG; intro ι F hne hC hFF; have hG := fun n => (hFF n).fx; clear hFF) | (refine aQ _ (by repeat' (first | (with_reducible exact List.nil_sublist _) | (exact List.Sublist.refl _) | (with_reducible apply List.Sublist.cons_cons) | (with_reducible apply List.Sublist.cons))) ?_; clear hL hF))))); refine zN ?_; clear hC hG; intro W hL hF))
   refine zF ?_; intro W hL hF; refine bodyPost_ret (by simp [results, Tryz.results14, go_sem, *]; try rfl) rfl ?_; rw [HE.out]; exact ⟨fo (HWZ.out.tail0 hL) fun x hx => by obtain ⟨p, hp, rfl⟩ := List.mem_map.1 hx; exact ⟨p.2, List.mem_cons_of_mem _ (List.mem_cons_of_mem _ (List.mem_append_left _ hp)), HLY.out.has p hp⟩, .inr ⟨(show (6 : Nat) ≠ 0 by decide), rfl⟩⟩
  ·have HE : Hid (ax l = s2 /\ s2.e = 0) := yh ⟨by rw [HMB.out, if_neg (fun h => hi h.2)], he⟩
   have h1 : ((s2.e : Int) == 0) = true := by rw [he]; rfl
   have h1b : ((s2.e : Int) != 0) = false := by rw [he]; rfl
   have h2 : decide ((500 : Int) < (s2.i : Int)) = false := decide_eq_false (by omega); clear he hi; go_wp2; refine zF ?_; intro W hL hF; refine bodyPost_ret (by simp [results, Tryz.results14, go_sem, *]; try rfl) rfl ?_; rw [HE.out.1]; refine ⟨fo (HWZ.out.tail0 hL) fun x hx => by obtain ⟨p, hp, rfl⟩ := List.mem_map.1 hx; exact ⟨p.2, List.mem_cons_of_mem _ (List.mem_cons_of_mem _ (List.mem_append_left _ hp)), HLY.out.has p hp⟩, .inl ⟨HE.out.2, ao, cap, rfl, ?_⟩⟩; have hA : Kn _ w _ (LC ++ LY) := (HWZ.out.tail0 hL).perml fun p => by simp only [List.countP_cons, List.countP_append]; omega
   exact (HM.out.next (hL.monoX fun x hx => by simp only [keys, List.map_cons, List.map_append, List.mem_cons, List.mem_append, List.cons_append] at hx |-; rcases hx with h | h | h | h <;> simp [h])).plan hA (fun p hp => List.mem_append_left _ hp) hA.apart (fun y hy => List.mem_cons_of_mem _ hy)
 ·have HE : Hid (ax l = s2 /\ s2.e ≠ 0) := yh ⟨by rw [HMB.out, if_neg (fun h => he h.1)], he⟩
  have h1 : ((s2.e : Int) == 0) = false := by rw [beq_eq_false_iff_ne]; omega
  have h1b : ((s2.e : Int) != 0) = true := by rw [bne_iff_ne]; omega
  clear he; go_wp2_with (first | (with_reducible refine zS ?_; intro W hL hF) | ((with_reducible refine ac 7 ?_); refine zX [0, 1, 2, 3, 4, 5, 6] [] ?_ sR; clear hF hL; intro ι F hne hC hG; (repeat (first | (refine cS ?_) | ((first | refine cF hC ?_ | refine cP ?_); intro K hK; go_big_quiet_op; go_big_quiet_on) | (refine cN ?_; intro W hL; have hF := hL.fx; go_wp2; refine ai ?_; (first | (refine bH _ (by rfl) ?_; clear hL hC hG; intro ι F hne hC hFF; have hG := fun n => (hFF n).fx; clear hFF) | (refine aQ _ (by repeat' (first | (with_reducible exact List.nil_sublist _) | (exact List.Sublist.refl _) | (with_reducible apply List.Sublist.cons_cons) | (with_reducible apply List.Sublist.cons))) ?_; clear hL hF))))); refine zN ?_; clear hC hG; intro W hL hF))
  refine zF ?_; intro W hL hF; refine bodyPost_ret (by simp [results, Tryz.results14, go_sem, *]; try rfl) rfl ?_; rw [HE.out.1]; exact ⟨fo (HWZ.out.tail0 hL) fun x hx => by obtain ⟨p, hp, rfl⟩ := List.mem_map.1 hx; exact ⟨p.2, List.mem_cons_of_mem _ (List.mem_cons_of_mem _ (List.mem_append_left _ hp)), HLY.out.has p hp⟩, .inr ⟨HE.out.2, rfl⟩⟩
theorem zh(src:ByteArray)(f:Bool)(m:Nat)(hp:aH src.data.toList=.err f m)(ec:Int)(hec:(if f=true then(6:Int)else 27)=ec)(w:World)(hT:TabP w):Calls Tryz.prog 10 #[.string src] w fun e w'=>e=.returned (.tuple #[.agg #[.slice none 0 0],.int .i64 ec,.int .i64 (m:Int)])/\Below w.heap.size w w':=by
 have HPE:=yh (fun(W:World) (h:TabP W)=>(gM src W h).2 f m hp)
 rw[hec]at HPE
 have HT:=yh hT
 have h1:(ec != 0)=true:=by rw[<- hec];cases f<;>rfl
 clear hp hT hec
 have hL:Kn [] w w []:=Kn.refl [] w;have hF:=hL.fx;go_enter Tryz.func10,Tryz.ntmps10
 go_wp2_with (first|(with_reducible refine zS ?_;intro W hL hF)|(go_at_call 13;refine aj ?_;clear hF hL;intro W hL;have hF:=hL.fx;(with_reducible refine(HPE.out _ (HT.out.ext hL.below0)).mono ?_);rintro e W ⟨rfl,hb⟩;replace hL:=hL.below hb;clear hb hF;have hF:=hL.fx))
 refine zF ?_;intro W hL hF
 refine bodyPost_ret (by simp[results,Tryz.results10,go_sem, *];try rfl) rfl ?_
 exact⟨rfl,hL.below0⟩
theorem gN(src:ByteArray)(ts:Ts)(l:List Nd)(hp:aH src.data.toList=.ok l)(hl:ts.nds=l)(hok:ts.ok)(htg:ts.tg)(he:(ax ts).e=0)(w:World)(hT:TabP w):Calls Tryz.prog 10 #[.string src] w (fun e w'=>∃(ao:Option Addr) (cap:Nat),e=.returned (.tuple #[.agg #[.slice ao (ax ts).n cap],.int .i64 0,.int .i64 0])/\Hid (PlanRow [] w' (.slice ao (ax ts).n cap) (ax ts).c)/\Below w.heap.size w w'):=by
 have HPE:=yh (fun(W:World) (h:TabP W)=>(gM src W h).1 l hp)
 have hnd:(Tr.lst ts).nd=.mk 4 [] false [] [] [] l:=by simp only[Tr.nd,hl]
 have hco:(Tr.lst ts).nd.co<=800000:=by
  have h1:=cJ hp;have h2:=f7 h1 hp;rw[hnd,dl];omega
 obtain⟨em,hem⟩:∃z,(ax ts).e=z:=⟨_,rfl⟩
 have HMK:Hid (∀(W:World) (cs:List Value),Below w.heap.size w W->Kn (keys [(w.heap.size,.cells #[.slice none 0 0] 25 (0,0))]) W W [(w.heap.size,.cells #[.slice none 0 0] 25 (0,0))]->NodeIs (keys [(w.heap.size,.cells #[.slice none 0 0] 25 (0,0))]) W (.mk 4 [] false [] [] [] l) cs->Calls Tryz.prog 14 #[.agg cs.toArray] W (fun e w'=>∃(ao:Option Addr) (cap:Nat),e=.returned (.tuple #[.agg #[.slice ao (ax ts).n cap],.int .i64 0])/\Hid (PlanRow (keys [(w.heap.size,.cells #[.slice none 0 0] 25 (0,0))]) w' (.slice ao (ax ts).n cap) (ax ts).c)/\Below W.heap.size W w')):=yh (fun W cs hB hLY hn=>by
  rw[<- hnd]at hn;refine(u_ ts (by simp only[Tr.ok];exact hok) (by simp only[Tr.tg];exact htg) (by rw[hnd];exact l_ hp) hco w W hB hT [(w.heap.size,.cells #[.slice none 0 0] 25 (0,0))] hLY (fun p hp=>by rw[List.mem_singleton.1 hp];exact Nat.le_refl _) (fun p hp=>by rw[List.mem_singleton.1 hp];exact⟨_,_,rfl,by decide⟩) cs hn).mono ?_;rintro e w' ⟨hb,h⟩;rcases h with⟨h1,h2⟩|⟨h1,h2⟩
  ·obtain⟨ao,cap,rfl,h3⟩:=h2;exact⟨ao,cap,rfl,yh h3,hb⟩
  ·exact absurd he h1)
 obtain⟨nl,hnl⟩:∃z,l.length=z:=⟨_,rfl⟩
 rw[hnl]at HPE
 obtain⟨n,hn⟩:∃z,(ax ts).n=z:=⟨_,rfl⟩
 rw[hn]at HMK |-
 have HT:=yh hT
 clear hp hT hl hok htg hnd hco hem hnl hn
 have hL:Kn [] w w []:=Kn.refl [] w;have hF:=hL.fx;go_enter Tryz.func10,Tryz.ntmps10
 go_wp2_with (first|(with_reducible refine zS ?_;intro W hL hF)|((first|(go_at_call 13;refine aj ?_;clear hF hL;intro W hL;have hF:=hL.fx;(with_reducible refine(HPE.out _ (HT.out.ext hL.below0)).mono ?_);have hL0:=hL;rintro e W ⟨aa,ca,aw,cw,ar,cr,ak,ck,rfl,HNY,hb⟩;replace hL:=hL.below hb;clear hb hF;have hF:=hL.fx;have HN:=yh (HNY.out (keys [(w.heap.size,.cells #[.slice none 0 0] 25 (0,0))]) (fun y hy=>by rw[List.mem_singleton.1 hy];exact⟨_,_,hL0.has _ m0,by decide⟩));clear HNY hL0;obtain⟨W1,rfl⟩:∃W1:World,W1=W:=⟨_,rfl⟩;have HB1:=yh hL;clear hL;have hL:=HB1.out.self0)|(go_at_call 14;refine aj ?_;clear hF hL;intro W hL;have hF:=hL.fx;(with_reducible refine(HMK.out _ _ (HB1.out.tail0 hL).below0 (Kn.sub hL (sD sR)).self0 (HN.out.at_ hL)).mono ?_);rintro e W ⟨ao,cap,rfl,HPR,hb⟩;replace hL:=hL.below hb;clear hb hF;have hF:=hL.fx;obtain⟨W2,rfl⟩:∃W2:World,W2=W:=⟨_,rfl⟩;have HB2:=yh (Kn.sub (HB1.out.tail0 hL) (sD sR));clear hL HB1;have hL:=HB2.out.self0));clear hF;have hF:=hL.fx))
 refine zF ?_;intro W hL hF
 refine bodyPost_ret (by simp[results,Tryz.results10,go_sem, *];try rfl) rfl ?_
 exact⟨ao,cap,rfl,yh ((HPR.out.kn (Y:=[]) hL (fun y hy=>absurd hy List.not_mem_nil))),(HB2.out.tail0 hL).below0⟩
def wA(c:UInt8):Wd:=.lit ⟨0,[c],false⟩ .nil
def vb(c:UInt8):Tr:=.pipe false (.cons (.simple .nil (.cons {} (wA c) .nil) .nil) .nil)
def exB:Ts:=.cons (.ao false (vb 97) (vb 98)) .nil
def exS:Ts:=.cons (vb 97) .nil
def exC:Ts:=.cons (.pipe false (.cons (.simple (.cons ⟨[120],0,0⟩ (.sub ⟨2,[97],false⟩ (.lst exS) .nil) .nil) .nil .nil) .nil)) .nil
theorem Ap:aH []=.ok []:=by rfl
theorem Aq:aH [97,32,38,38,32,98]=.ok exB.nds:=by rfl
theorem Ar:aH [97]=.ok exS.nds:=by rfl
theorem Au:aH [120,61,36,40,97,41]=.ok exC.nds:=by rfl
theorem zi:exS.ok/\exS.tg:=by
 simp[exS,vb,wA,Ts.ok,Tr.ok,Ws.ok,Wd.ok,Ts.nds,Ts.tg,Tr.tg,Ws.tg,Wd.tg,Ws.ta,Ws.tw,Ws.tr]
theorem zj:exB.ok/\exB.tg:=by
 simp[exB,vb,wA,Ts.ok,Tr.ok,Ws.ok,Wd.ok,Ts.nds,Ts.tg,Tr.tg,Ws.tg,Wd.tg,Ws.ta,Ws.tw,Ws.tr]
theorem zk:exC.ok/\exC.tg:=by
 have h:=Ar
 have h2:=zi
 refine⟨?_,?_⟩
 ·simp only[exC,Ts.ok,Tr.ok,Ws.ok,Wd.ok,Ts.nds,and_true,true_and]
  grind[Tr.nd]
 ·simp only[exC,Ts.tg,Tr.tg,Ws.tg,Wd.tg,Ws.ta,Ws.tw,Ws.tr,and_true,true_and]
  grind
theorem xU:(ax .nil).e=0/\(ax .nil).c.map (fun x=>(x.op:Int))=[26]:=by exact⟨rfl,rfl⟩
theorem qM:(ax exB).e=0/\(ax exB).c.map (fun x=>(x.op:Int))=[0,24,6,7,12,25,24,3,6,7,12,25,26]/\((ax exB).c[7]?.map (·.a))=some 12/\((ax exB).c[0]?.map (·.a))=some 1:=by exact⟨rfl,rfl,rfl,rfl⟩
theorem qN:(ax exC).e=0/\(ax exC).c.map (fun x=>(x.op:Int))=[0,13,0,6,7,12,25,16,15,8,25,26]/\((ax exC).c[1]?.map fun x=>(x.a,x.b))=some (8,8)/\((ax exC).c[2]?.map (·.a))=some 2:=by exact⟨rfl,rfl,rfl,rfl⟩
theorem PlanRow.len{Y:List Nat}{W:World}{v:Value}{c:List Ins}(h:PlanRow Y W v c):∃a cap,v=.slice a c.length cap:=by
 obtain⟨cv,rfl,⟨a,cap,h2,_⟩,_⟩:=h
 rw[List.length_map]at h2
 exact⟨a,cap,by rw[h2,List.length_map]⟩
theorem PlanRow.at{Y:List Nat}{W:World}{a:Option Addr}{n cap:Nat}{c:List Ins}(h:PlanRow Y W (.slice a n cap) c){j:Nat}{x:Ins}(hj:c[j]? =some x):∃g o v,a=some ⟨g,o,none⟩/\g∉Y/\g<W.heap.size/\W.cell? ⟨g,o+j*5,none⟩=some (.int .i64 (x.op:Int))/\W.cell? ⟨g,o+j*5+1,none⟩=some (.int .i64 x.a)/\W.cell? ⟨g,o+j*5+2,none⟩=some (.int .i64 x.b)/\W.cell? ⟨g,o+j*5+3,none⟩=some (bs x.s)/\W.cell? ⟨g,o+j*5+4,none⟩=some v/\PRow Y W v x.w:=by
 obtain⟨cv,rfl,h2,h3⟩:=h
 rw[List.getElem?_map]at hj
 obtain⟨y,hy,rfl⟩:=Option.map_eq_some_iff.1 hj
 obtain⟨g,o,h4,h5,h6,h7⟩:=fy h2 (j:=j) (cs:=eg y) (by rw[List.getElem?_map,hy];rfl)
 have h8:=h7 0 _ rfl
 rw[Nat.add_zero]at h8
 exact⟨g,o,y.2,h4,h5,h6,h8,h7 1 _ rfl,h7 2 _ rfl,h7 3 _ rfl,h7 4 _ rfl,h3 y (List.mem_of_getElem? hy)⟩
theorem xD(C:List Ins)(n:Int)(j:Nat)(z:Ins)(hj:C[j]? =some z)(hz:z.op=0)(ha:z.a=n)(hu:∀(i:Nat) (y:Ins),i<j->C[i]? =some y->¬(y.op=0/\y.a=n))(hlen:C.length<=900000)(v:Value)(w:World)(hv:PlanRow [] w v C):Calls Tryz.prog 11 #[.agg #[v],.int .i64 n] w fun e w'=>e=.returned (.tuple #[.int .i64 (j:Int),.bool true])/\Below w.heap.size w w':=by
 obtain⟨av,cv,rfl⟩:=hv.len
 have hjn:=(List.getElem?_eq_some_iff.1 hj).1
 obtain⟨nv,hnv⟩:∃m,C.length=m:=⟨_,rfl⟩
 have HNV:=yh hnv
 rw[hnv]at hv hlen hjn |-
 have HV:=yh hv
 have HU:=yh hu
 have HJ:=yh hj
 clear hv hu hnv hj
 have hL:Kn [] w w []:=Kn.refl [] w;have hF:=hL.fx;go_enter Tryz.func11,Tryz.ntmps11
 go_wp2
 go_loopw [11] (fun i wr=>∃k:Nat,k<=j/\i=.int .i64 k/\Kn [] w wr []) (fun i _=>nv-(intOf i).toNat)
 case atStart=>exact⟨0,Nat.zero_le _,rfl,aE.sub (by repeat' (first|exact List.Sublist.refl _|apply List.Sublist.cons))⟩
 case round=>
  obtain⟨k,hk,rfl,hK⟩:=hrel;clear hL hF;have hL:=hK;clear hK;have hF:=hL.fx;by_cases hlt:k=j
  ·subst hlt
   obtain⟨gz,oz,vz,hga,gx,glz,cz0,cz1,cz2,cz3,cz4,hpz⟩:=HV.out.at HJ.out;subst hga;clear gx;obtain⟨uz,hu⟩:∃u:ByteArray,bs z.s=.string u:=⟨_,rfl⟩;rw[hu]at cz3;clear hu;obtain⟨paz,pnz,pcz,hpv⟩:∃a n c,vz=.slice a n c:=by
    obtain⟨a,c,h,_⟩:=id hpz;exact⟨a,_,c,h⟩
   subst hpv;have h1:((z.op:Int)==0)=true:=by rw[hz];rfl
   have h2:(z.a==n)=true:=by rw[ha];exact beq_self_eq_true n
   go_wp2;refine zF ?_;intro W hL hF;refine bodyPost_ret (by simp[results,Tryz.results11,go_sem, *];try rfl) rfl ?_;exact⟨rfl,hL.below0⟩
  ·have hkn:k<nv:=by omega
   obtain⟨x,hx⟩:∃x,C[k]? =some x:=⟨_,List.getElem?_eq_getElem (by rw[HNV.out];exact hkn)⟩;have HUX:=yh (HU.out k x (by omega) hx);obtain⟨gx,ox,vx,hga,gx,glx,cx0,cx1,cx2,cx3,cx4,hpx⟩:=HV.out.at hx;subst hga;clear gx;obtain⟨ux,hu⟩:∃u:ByteArray,bs x.s=.string u:=⟨_,rfl⟩;rw[hu]at cx3;clear hu;obtain⟨pax,pnx,pcx,hpv⟩:∃a n c,vx=.slice a n c:=by
    obtain⟨a,c,h,_⟩:=id hpx;exact⟨a,_,c,h⟩
   subst hpv;clear hx hpx;by_cases h0:x.op=0
   ·have h1:((x.op:Int)==0)=true:=by rw[h0];rfl
    have h2:(x.a==n)=false:=by rw[beq_eq_false_iff_ne];exact fun e=>HUX.out ⟨h0,e⟩
    go_wp2;exact⟨⟨k+1,by omega,by go_num,aE.sub (by repeat' (first|exact List.Sublist.refl _|apply List.Sublist.cons))⟩,by simp[intOf];omega⟩
   ·have h1:((x.op:Int)==0)=false:=by rw[beq_eq_false_iff_ne];omega
    go_wp2;exact⟨⟨k+1,by omega,by go_num,aE.sub (by repeat' (first|exact List.Sublist.refl _|apply List.Sublist.cons))⟩,by simp[intOf];omega⟩
theorem vc(C:List Ins)(l:List Int)(hl:C.map (fun x=>(x.op:Int))=l)(hlen:C.length<=900000)(v:Value)(g o cap2:Nat)(w:World)(hv:PlanRow [] w v C)(hr:∀(j:Nat) (x:Int),l[j]? =some x->w.cell? ⟨g,o+j,none⟩=some (.int .i64 x)):Calls Tryz.prog 22 #[.agg #[v],.slice (some ⟨g,o,none⟩) l.length cap2] w fun e w'=>e=.returned (.bool true)/\Below w.heap.size w w':=by
 obtain⟨av,cv,rfl⟩:=hv.len
 have hll:l.length=C.length:=by rw[<- hl,List.length_map]
 obtain⟨nv,hnv⟩:∃m,C.length=m:=⟨_,rfl⟩
 rw[hll]
 rw[hnv]at hv hlen |-
 have HNV:=yh hnv
 have HV:=yh hv
 have HR:=yh hr
 have HL:=yh hl
 clear hv hr hnv hl hll
 have hL:Kn [] w w []:=Kn.refl [] w;have hF:=hL.fx;go_enter Tryz.func22,Tryz.ntmps22
 go_wp2
 go_loopw [5] (fun i wr=>∃k:Nat,k<=nv/\i=.int .i64 k/\Kn [] w wr [(w.heap.size,.cells #[.slice av nv cv] 25 (0,0))]) (fun i _=>nv-(intOf i).toNat)
 case atStart=>exact⟨0,Nat.zero_le _,rfl,aE⟩
 case round=>
  obtain⟨k,hk,rfl,hK⟩:=hrel;clear hL hF;have hL:=hK;clear hK;have hF:=hL.fx;by_cases hlt:k<nv
  ·obtain⟨x,hx⟩:∃x,C[k]? =some x:=⟨_,List.getElem?_eq_getElem (by rw[HNV.out];exact hlt)⟩
   have c9:=HR.out k (x.op:Int) (by rw[<- HL.out,List.getElem?_map,hx];rfl);have g9:=aF c9;obtain⟨gx,ox,vx,hga,gx,glx,cx0,cx1,cx2,cx3,cx4,hpx⟩:=HV.out.at hx;subst hga;clear gx;obtain⟨ux,hu⟩:∃u:ByteArray,bs x.s=.string u:=⟨_,rfl⟩;rw[hu]at cx3;clear hu;obtain⟨pax,pnx,pcx,hpv⟩:∃a n c,vx=.slice a n c:=by
    obtain⟨a,c,h,_⟩:=id hpx;exact⟨a,_,c,h⟩
   subst hpv;clear hx hpx;go_wp2_with (first|(with_reducible refine zS ?_;intro W hL hF)|((with_reducible refine ac 6 ?_);refine zX [0,1,2,3,4,5,6,7,8,9,10] [] ?_ sR;clear hF hL;intro ι F hne hC hG;(repeat(first|(refine cS ?_)|((first|refine cF hC ?_|refine cP ?_);intro K hK;go_big_quiet_op;go_big_quiet_on)|(refine cN ?_;intro W hL;have hF:=hL.fx;go_wp2;refine ai ?_;(first|(refine bH _ (by rfl) ?_;clear hL hC hG;intro ι F hne hC hFF;have hG:=fun n=>(hFF n).fx;clear hFF)|(refine aQ _ (by repeat' (first|(with_reducible exact List.nil_sublist _)|(with_reducible exact List.Sublist.refl _)|(with_reducible apply List.Sublist.cons_cons)|(with_reducible apply List.Sublist.cons))) ?_;clear hL)))));refine zN ?_;clear hC hG;intro W hL hF))
   exact⟨⟨k+1,by omega,by go_num,hL⟩,by simp[intOf];omega⟩
  ·go_wp2
   refine bodyPost_ret (by simp[results,Tryz.results22,go_sem, *];try rfl) rfl ?_;exact⟨rfl,hL.below0⟩
theorem i6:∀(C:List Ins) (k:Nat),itm (C.take k)<=itm C
 | [],k=>by simp
 |x::C,0=>Nat.zero_le _
 |x::C,k+1=>by
  simp_all[i6,aJ]
theorem gt:∀{C:List Ins} {k:Nat} {x:Ins},C[k]? =some x->itm (C.take (k+1))=itm (C.take k)+if aD x then 1 else 0
 | [],k,x,h=>by simp at h
 |y::C,0,x,h=>by
  grind[aJ,bU]
 |y::C,k+1,x,h=>by
  rw[List.take_succ_cons,List.take_succ_cons,aJ,aJ,gt (show C[k]? =some x by grind)];omega
theorem fz{b:Ts}(he:(ax b).e=0):i8 0 (ax b).c/\itm (ax b).c=itm (b.cl 0 0)/\itm (b.cl 0 0)<=500:=by
 obtain⟨_,h1,h2⟩:=fw he
 rw[h1]
 refine⟨j' _ _ _ ((Ts.nm b).1 0 0).1 ⟨fun h=>(by cases h),trivial⟩,by rw[bu];rfl,h2⟩
theorem vd{s:ab}{l:List Nd}{ts:Ts}(hp:aH s=.ok l)(hl:ts.nds=l)(hok:ts.ok):(ax ts).n<=320010:=by
 have h1:=cJ hp
 have h2:=f7 h1 hp
 have h3:=Tr.len (.lst ts) (by grind[Tr.ok]) ⟨[],0,0⟩
 grind[Tr.nd,dl,ax,PS.n,bX]
theorem xE{a:Ts}(he:(ax a).e=0){k:Nat}{y:Nat×Nat}(h:(a.hd 0 0)[k]? =some y):∃x:Ins,(ax a).c[y.1]? =some x/\x.op=0/\x.a=(y.2:Int)/\y.1<(a.cl 0 0).length/\0<y.2/\(∀(i:Nat) (z:Ins),i<y.1->(ax a).c[i]? =some z->¬(z.op=0/\z.a=(y.2:Int)))/\x.b=(match(a.hd 0 0)[k+1]? with|some z=>((z.2:Nat):Int)|none=>0):=by
 obtain⟨hn,_⟩:=fz he
 obtain⟨_,h1,_⟩:=fw he
 obtain⟨x,h2,h3,h4,h5⟩:=km a h
 rw[<- h1]at h2
 have h6:x.op=0:=by grind[aD]
 have h7:=uO a 0 0 y (List.mem_of_getElem? h)
 grind[rX,aD]
theorem sb{a:Ts}(h:a.nil? =false):∃y,(a.hd 0 0)[0]? =some y/\y.2=1:=by
 cases a with
 |nil=>cases h
 |cons x r=>grind[rY]
theorem sc{a:Ts}{j:Nat}{x:Ins}(hj:j<(a.cl 0 0).length)(hx:(a.cl 0 0++[({op:=26}:Ins)])[j]? =some x)(h0:x.op=0):x.b=0\/(x.a<x.b/\x.b<=((itm (a.cl 0 0):Nat):Int)):=by
 rw[List.getElem?_append_left hj]at hx
 have:=((Ts.nm a).1 0 0).2 x (List.mem_of_getElem? hx) (by simp[aD,h0])
 omega
end Go.Proofs.YtgboffbbpmileaaGreatDoor
