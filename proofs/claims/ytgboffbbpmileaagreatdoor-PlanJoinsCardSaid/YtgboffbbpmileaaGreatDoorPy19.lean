/- Lemmas and walks for the law VLawPJoins (part 19). -/
import Derived.Test.YtgboffbbpmileaaGreatDoorPy18
import Derived.Test.YtgboffbbpmileaaGreatDoorProg
import Derived.WalkKit
import Derived.Handy
import Derived.Deep.Light
import Derived.WalkSmall
import Derived.StillTailTactics
import Derived.Lib.Hide
set_option maxRecDepth 20000
set_option maxHeartbeats 4000000
set_option linter.unusedVariables false
set_option linter.unusedSimpArgs false
namespace Go.Proofs.YtgboffbbpmileaaGreatDoor
open Go Go.RowKit
def Ts.alls(P:Tr->Prop):Ts->Prop
 |.nil=>True
 |.cons x r=>P x/\r.alls P
theorem zx(p:Nat×Obj)(L:List (Nat×Obj)):keys (p::L)=p.1::keys L:=rfl
def bfV:Option Nat->Value
 |none=>.int .i64 (-1)
 |some q=>.int .i64 (q:Int)
theorem MkQ0.next{W0 w W:World}{b:Nat}{s:PS}{v:Value}{LP L LZ:List (Nat×Obj)}(h:MkQ0 W0 LZ w b s v LP)(hk:Kn (b::keys LP) w W L):MkQ0 W0 LZ W b s v LP:=by
 obtain⟨cv,h1,h2,h3,h4,h5,h6,h7⟩:=h
 refine⟨cv,h1,h2,fun x hx=>RowY.kn (h3 x hx) hk fun y hy=>.inl hy,fE h4 hk fun y hy=>?_,h5,h6,h7⟩
 rcases List.mem_cons.1 hy with rfl|hy
 ·exact h5
 ·obtain⟨p,hp,rfl⟩:=List.mem_map.1 hy;exact h6 p hp
theorem MkQ.inc{W0 W:World}{b:Nat}{s:PS}{v:Value}{LP LZ:List (Nat×Obj)}(h:MkQ W0 LZ W b s v LP):MkQ0 W0 LZ W b ⟨s.c,s.i+1,s.e⟩ v LP:=by
 obtain⟨cv,h1,h2,h3,h4,h5,h6,h7⟩:=h
 exact⟨cv,h1,h2,h3,h4,h5,h6,by show s.i+1<=s.n+1;omega⟩
theorem MkQ.il{W0 W:World}{b:Nat}{s:PS}{v:Value}{LP LZ:List (Nat×Obj)}(h:MkQ W0 LZ W b s v LP):s.i<=s.n:=by
 obtain⟨cv,h1,h2,h3,h4,h5,h6,h7⟩:=h
 exact h7
theorem zy{W0:World}{l:Ts}(hall:l.alls (cI W0))(hsz:l.nds.length<=100000):MkF W0 54 (Tr.lst l).nd (Nd.cos l.nds+7) (fun s=>l.gl none s):=by
 refine MkF.mk ?_
 intro LZ b s ao cap LP w X9 kz nm ng na nw nr nk aa ca aw cw9 ar cr ak ck hm HKZ HNM HNG HNA HNW HNR HNK HN HM HWB hL
 have hF:=hL.fx
 go_enter Tryz.func54,Tryz.ntmps54
 have hnk:l.nds.length=nk:=HNK.out
 rw[hnk]at hsz
 have HN9:=yh hnk
 have HOK:=yh (⟨hall,rfl⟩:l.alls (cI W0)/\l.nds=l.nds.drop 0)
 have HM9:=yh hm
 clear hnk hm hall
 go_upto_region 3 with(fail)
 (with_reducible refine zT0 [_] HWB.out HM.out ?_);clear hF;clear hL HM HWB;intro W HM HWB hJ hL hF h9;clear h9;replace HN:=cy HN hJ;clear hJ
 go_loopw [4,10] (fun bv z wr=>∃(k:Nat) (r:Ts) (s2:PS) (bo:Option Nat) (ao:Option Addr) (cap:Nat) (LP:List (Nat×Obj)),bv=bfV bo/\z=.int .i64 k/\k<=nk/\Hid (r.alls (cI W0)/\r.nds=l.nds.drop k/\l.gl none s=r.gl bo s2/\(∀q,bo=some q->q<s2.n))/\Hid (s2.n+Nd.cos r.nds<=s.n+Nd.cos l.nds)/\Kn X9 w wr ((b,.cells #[.slice ao s2.n cap,.int .i64 (s2.i:Int),.int .i64 (s2.e:Int)] 81 (0,0))::LP)/\Hid (MkQ W0 LZ wr b s2 (.slice ao s2.n cap) LP)/\Hid (NodeIs (b::keys LP) wr (Tr.lst l).nd [.int .i64 kz,.string nm,.bool ng,.slice aa na ca,.slice aw nw cw9,.slice ar nr cr,.slice ak nk ck])) (fun _ z _=>nk-(intOf z).toNat)
 case atStart=>exact⟨0,l,s,none,ao,cap,LP,rfl,rfl,Nat.zero_le _,yh ⟨HOK.out.1,HOK.out.2,rfl,fun q hq=>by cases hq⟩,yh (Nat.le_refl _),HWB.out,HM,HN⟩
 case round=>
  clear HWB HM HN HOK;obtain⟨k,r,s2,bo,ao,cap,LP,rfl,rfl,hk,HR,HB9,hWB,HM,HN⟩:=hrel;have HWB:=yh hWB;clear hL hF hWB;have hL:=Kn.self0q HWB.out;have hF:=hL.fx
  cases r with
  |nil=>
   have hkn:k=nk:=by
    have h:=congrArg List.length HR.out.2.1;rw[List.length_drop,HN9.out]at h;simp only[Ts.nds,List.length_nil]at h;omega
   subst hkn;have he:l.gl none s=s2:=by rw[HR.out.2.2.1];simp only[Ts.gl]
   cases bo<;>(
    simp only[bfV];go_wp2;refine bodyPost_end (by simp[results,Tryz.results54,go_sem, *];try rfl) rfl ?_;rw[he];exact⟨ao,cap,LP,rfl,HWB.out,HM⟩)
  |cons x r=>
   obtain⟨HD1,HD2,HD3⟩:=bF HR.out.2.1.symm;have HD:Hid (l.nds.drop (k+1)=r.nds):=yh HD2;have hkn:k<nk:=by rw[<- HN9.out];exact HD3
   obtain⟨gq,oq,dq0,dq1,dq2,dq3,dq4,dq5,dq6,keq,kxq,klq,kiq,HKNq,HKD,kq0,kq1,kq2,kq3,kq4,kq5,kq6⟩:=bC HN.out (i:=k) (y:=x.nd) HD1;(first|subst keq|(injection keq with keq;injection keq with kfq kgq;subst kfq kgq))
   skip
   obtain⟨ya,yc,yw,yd,yr,ye,yk,yf,hcs⟩:=dh HKD.out;obtain⟨yu,hyu⟩:∃u:ByteArray,bs x.nd.name=.string u:=⟨_,rfl⟩;rw[hyu]at hcs;simp only[List.cons.injEq,and_true]at hcs;obtain⟨rfl,rfl,rfl,rfl,rfl,rfl,rfl⟩:=hcs;clear hyu;clear HD1 HD2 HD3 HKNq;have HX0:Hid (cI W0 x):=yh (by have h:=HR.out.1;simp only[Ts.alls]at h;exact h.1);have HX1:=yh HX0.out.1;unfold MkF at HX1;have HX2:=yh HX0.out.2;have HCW:Hid (s2.n+(x.nd.co+Nd.cos r.nds)<=s.n+Nd.cos l.nds):=yh (by have h:=HB9.out;simp only[Ts.nds,aN]at h;exact h);have hil:s2.i<900000:=by have h1:=HM.out.il;have h2:=HCW.out;have h3:=HM9.out;omega
   have p1:wrap64 ((s2.i:Int)+1)=((s2.i+1:Nat):Int):=by rw[IntWalk.wrap64_in _ (by omega)];omega
   cases bo with
   |none=>
    simp only[bfV];go_upto_region 8 with(fail)
    refine jj ?_;clear hF hL;intro W hL;have HB:=yh (dO (A:=[_]) hL m0);obtain⟨s3,hs3⟩:∃z,(PS.mk s2.c (s2.i+1) s2.e:PS)=z:=⟨_,rfl⟩;have h3n:s3.n=s2.n:=by rw[<- hs3];simp[PS.n]
    have h3i:s3.i=s2.i+1:=by rw[<- hs3]
    have h3e:s3.e=s2.e:=by rw[<- hs3]
    have HI3:Hid (s3.add {op:=0,a:=(s3.i:Int)}=s2.item (none)):=yh (by rw[<- hs3];rfl);have hJ:Kn (b::keys LP) wr W ((b,.cells #[.slice ao s3.n cap,.int .i64 (s3.i:Int),.int .i64 (s3.e:Int)] 81 (0,0))::LP):=by rw[h3n,h3i,h3e];exact Kn.sub hL (List.sublist_append_right [_] _)
    have hM2:=yh (HM.out.inc.next hL);clear HM;have HM:=hM2;clear hM2;rw[hs3,<- h3n]at HM;have HN3:=yh h3n;clear hs3 h3n h3i h3e;have h2:=yh (HN.out.mk2 hJ);clear HN;have HN:=h2;clear h2;have h2:=yh (HKD.out.mk2 hJ);clear HKD;have HKD:=h2;clear h2;have HWB2:=yh (Kn.tail0 HWB.out hJ);clear HWB;have HWB:=HWB2;clear HWB2;have h2:=yh (HB.out.mk2 (Kn.self0q HWB.out));clear HB;have HB:=h2;clear h2;clear hJ hL;have hL:=Kn.self0q HWB.out;have hF:=hL.fx;clear kxq klq kiq kq0 kq1 kq2 kq3 kq4 kq5 kq6;have n0:=HB.out.c7;have HA1:Hid (s3.n<900000):=yh (by have h:=HCW.out;have h2:=HM9.out;have h3:=lg x.nd;rw[HN3.out];omega);have HA2:Hid ((s3.add {op:=0,a:=(s3.i:Int)}).n+x.nd.co<=900000):=yh (by have h:=HCW.out;have h2:=HM9.out;rw[bt,HN3.out];omega);go_wp2_with (first|(with_reducible refine zS ?_;intro W hL hF)|(first|(go_at_call 30;refine aj ?_;clear hF hL;intro W hL;have hF:=hL.fx;have hS:=Kn.selfS (A:=[]) hL;have hN:=HM.out.next hL;(with_reducible refine(gk W0 b _ ao cap _ _ {op:=0,a:=(s3.i:Int)} 0 _ 0 ⟨#[]⟩ (.slice none 0 0) rfl rfl rfl rfl dr HA1.out hS hN).mono ?_);clear hN;rintro e W ⟨ao,cap,LP,rfl,hb,HM⟩;have hJ:=Kn.mkr (A:=[]) hL hb;replace HB:=cy HB hJ;replace HN:=cy HN hJ;replace HKD:=cy HKD hJ;have HWB2:=yh (Kn.tail0 HWB.out hJ);clear HWB hL;have HWB:=HWB2;clear HWB2 hS hb hJ;clear hF;have hL:=Kn.self0q HWB.out;have hF:=hL.fx;clear n0;have n0:=HB.out.c7)|(go_at_call 29;(with_reducible refine zK [] HWB.out HM.out (fun W hL hS hN=>HX1.out b _ ao cap LP _ _ HA2.out hS hN (HKD.out.at_ hL)) ?_);clear hF hL HWB HM;intro W ao cap LP HWB HM hJ hL hF;replace HN:=cy HN hJ;clear hJ)))
    rw[HI3.out]at HWB HM;refine⟨⟨k+1,r,x.g (s2.item (none)),some s3.n,ao,cap,LP,rfl,by go_num,by omega,yh ?_,yh ?_,HWB.out,HM,HN⟩,by simp[intOf];omega⟩
    ·have h:=HR.out
     simp only[Ts.alls,Ts.gl]at h;have h2:=HX2.out (s2.item (none));rw[jh]at h2;refine⟨h.1.2,HD.out.symm,by rw[HN3.out];exact h.2.2.1,fun q hq=>?_⟩;injection hq with hq
     have:=HN3.out;omega
    ·have h:=HCW.out
     have h2:=HX2.out (s2.item (none));rw[jh]at h2;omega
   |some qb=>
    have hqn:qb<s2.n:=HR.out.2.2.2 qb rfl;have hsn:s2.n<900000:=by have h1:=lg x.nd;have h2:=HCW.out;have h3:=HM9.out;omega
    obtain⟨cv,h1,⟨LC,rfl,h2,hz⟩,h3,h4,h5,h6,h7⟩:=HM.out;have hcl:cv.length=s2.n:=by unfold PS.n;rw[<- h1,List.length_map]
    rcases h2 with⟨_,_,h0,_⟩|⟨g2,cap2,cur,rfl,hv,hr⟩
    ·omega
    ·injection hv with hv1 hv2 hv3
     subst hv1 hv3;obtain⟨x0,hx0⟩:∃x,cv[qb]? =some x:=⟨_,List.getElem?_eq_getElem (by omega)⟩;have hcu:=hr.get (jX cv qb 2 x0 _ hx0 rfl);have HMS:=yh (show ∀(W:World) (L:List (Nat×Obj)),Kn (b::g2::keys LZ) wr W L->MkQ0 W0 LZ W b ⟨s2.c.modify qb (·.setB ((s2.i+1:Nat):Int)),s2.i+1,s2.e⟩ (.slice (some ⟨g2,0,none⟩) s2.n cap) ((g2,.cells (cur.setIfInBounds (qb*5+2) (.int .i64 ((s2.i:Int)+1))) 31 (0,0))::LZ)from fun W L hK=>wV (·.setB ((s2.i+1:Nat):Int)) 2 (.int .i64 ((s2.i:Int)+1)) (by omega) (fun x v=>rfl) (fun x=>rfl) h1 (by omega) hr h3 h4 h5 (h6 _ m0) (fun p hp=>h6 p (List.mem_cons_of_mem _ hp)) hz (by omega) hK);clear h1 h3 h4 h5 h6 h7 hcl hr hx0 HM hz;simp only[bfV,zx,List.cons_append,List.nil_append]at *;go_upto_region 8 with((with_reducible refine af 7 ?_);refine zX [0,1,2,3,4,5,6,7,8,9,10,11] [11] ?_ sR;clear hF hL;intro ι F hne hC hG;(repeat(first|(refine cS ?_)|((first|refine cF hC ?_|refine cP ?_);intro K hK;go_big_quiet_op;go_big_quiet_on)|(refine cN ?_;intro W hL;simp only[kfb]at hL;have hF:=hL.fx;go_wp2;refine ai ?_;(first|(refine bO _ (by rfl) ?_;clear hL hF hC hG;intro ι F hne hC hFF;have hG:=fun n=>(hFF n).fx;clear hFF)|(refine a_ _ (by repeat' (first|(with_reducible exact List.nil_sublist _)|(with_reducible exact List.Sublist.refl _)|(with_reducible apply List.Sublist.cons_cons)|(with_reducible apply List.Sublist.cons))) ?_;clear hL)))));refine zN ?_;clear hC hG;intro W hL hF)
     refine jj ?_;clear hF hL;intro W hL;have HB:=yh (dO (A:=[_]) hL m0);obtain⟨s3,hs3⟩:∃z,(PS.mk (s2.c.modify qb (·.setB ((s2.i+1:Nat):Int))) (s2.i+1) s2.e:PS)=z:=⟨_,rfl⟩;have h3n:s3.n=s2.n:=by rw[<- hs3];simp[PS.n]
     have h3i:s3.i=s2.i+1:=by rw[<- hs3]
     have h3e:s3.e=s2.e:=by rw[<- hs3]
     have HI3:Hid (s3.add {op:=0,a:=(s3.i:Int)}=s2.item (some qb)):=yh (by rw[<- hs3];rfl);have hJ:Kn (b::(g2::keys LZ)) wr W ((b,.cells #[.slice (some ⟨g2,0,none⟩) s3.n cap,.int .i64 (s3.i:Int),.int .i64 (s3.e:Int)] 81 (0,0))::((g2,.cells (cur.setIfInBounds (qb*5+2) (.int .i64 ((s2.i:Int)+1))) 31 (0,0))::LZ)):=by rw[h3n,h3i,h3e];exact Kn.sub hL (List.sublist_append_right [_] _)
     have HM:=yh (HMS.out _ _ hL);clear HMS;rw[hs3,<- h3n]at HM;have HN3:=yh h3n;clear hs3 h3n h3i h3e;have h2:=yh (HN.out.mk2 hJ);clear HN;have HN:=h2;clear h2;have h2:=yh (HKD.out.mk2 hJ);clear HKD;have HKD:=h2;clear h2;have HWB2:=yh (Kn.tail0 HWB.out hJ);clear HWB;have HWB:=HWB2;clear HWB2;have h2:=yh (HB.out.mk2 (Kn.self0q HWB.out));clear HB;have HB:=h2;clear h2;clear hJ hL;have hL:=Kn.self0q HWB.out;have hF:=hL.fx;clear kxq klq kiq kq0 kq1 kq2 kq3 kq4 kq5 kq6;have n0:=HB.out.c7;have HA1:Hid (s3.n<900000):=yh (by have h:=HCW.out;have h2:=HM9.out;have h3:=lg x.nd;rw[HN3.out];omega);have HA2:Hid ((s3.add {op:=0,a:=(s3.i:Int)}).n+x.nd.co<=900000):=yh (by have h:=HCW.out;have h2:=HM9.out;rw[bt,HN3.out];omega);go_wp2_with (first|(with_reducible refine zS ?_;intro W hL hF)|(first|(go_at_call 30;refine aj ?_;clear hF hL;intro W hL;have hF:=hL.fx;have hS:=Kn.selfS (A:=[]) hL;have hN:=HM.out.next hL;(with_reducible refine(gk W0 b _ (some ⟨g2,0,none⟩) cap _ _ {op:=0,a:=(s3.i:Int)} 0 _ 0 ⟨#[]⟩ (.slice none 0 0) rfl rfl rfl rfl dr HA1.out hS hN).mono ?_);clear hN;rintro e W ⟨ao,cap,LP,rfl,hb,HM⟩;have hJ:=Kn.mkr (A:=[]) hL hb;replace HB:=cy HB hJ;replace HN:=cy HN hJ;replace HKD:=cy HKD hJ;have HWB2:=yh (Kn.tail0 HWB.out hJ);clear HWB hL;have HWB:=HWB2;clear HWB2 hS hb hJ;clear hF;have hL:=Kn.self0q HWB.out;have hF:=hL.fx;clear n0;have n0:=HB.out.c7)|(go_at_call 29;(with_reducible refine zK [] HWB.out HM.out (fun W hL hS hN=>HX1.out b _ ao cap LP _ _ HA2.out hS hN (HKD.out.at_ hL)) ?_);clear hF hL HWB HM;intro W ao cap LP HWB HM hJ hL hF;replace HN:=cy HN hJ;clear hJ)))
     rw[HI3.out]at HWB HM;refine⟨⟨k+1,r,x.g (s2.item (some qb)),some s3.n,ao,cap,LP,rfl,by go_num,by omega,yh ?_,yh ?_,HWB.out,HM,HN⟩,by simp[intOf];omega⟩
     ·have h:=HR.out
      simp only[Ts.alls,Ts.gl]at h;have h2:=HX2.out (s2.item (some qb));rw[jh]at h2;refine⟨h.1.2,HD.out.symm,by rw[HN3.out];exact h.2.2.1,fun q hq=>?_⟩;injection hq with hq
      have:=HN3.out;omega
     ·have h:=HCW.out
      have h2:=HX2.out (s2.item (some qb));rw[jh]at h2;omega
theorem nn{W0:World}{l:Ts}(hall:l.alls (cI W0))(hsz:l.nds.length<=100000):MkF W0 55 (Tr.pipe false l).nd (Nd.cos l.nds+7) (fun s=>(if 1<l.nds.length then(l.gp true s).op 14 0 else l.gp true s).op 25 0):=by
 refine MkF.mk ?_
 intro LZ b s ao cap LP w X9 kz nm ng na nw nr nk aa ca aw cw9 ar cr ak ck hm HKZ HNM HNG HNA HNW HNR HNK HN HM HWB hL
 have hF:=hL.fx
 go_enter Tryz.func55,Tryz.ntmps55
 have hnk:l.nds.length=nk:=HNK.out
 rw[hnk]at hsz |-
 obtain rfl:ng=false:=HNG.out.symm
 have HN9:=yh hnk
 have HOK:=yh (⟨hall,rfl⟩:l.alls (cI W0)/\l.nds=l.nds.drop 0)
 have HM9:=yh hm
 clear hnk hm hall
 go_upto_region 1 with(fail)
 (with_reducible refine zT2 HWB.out HM.out ?_);clear hF;clear hL HM HWB;intro W HB HP HM HWB hJ hL hF;replace HN:=cy HN hJ;clear hJ
 have n0:=HB.out.c7;obtain⟨pq,px,p00⟩:=HP.out.c1
 go_wp2
 go_loopw [14] (fun z wr=>∃(k:Nat) (r:Ts) (s2:PS) (ao:Option Addr) (cap:Nat) (LP:List (Nat×Obj)),z=.int .i64 k/\k<=nk/\Hid (r.alls (cI W0)/\r.nds=l.nds.drop k/\l.gp true s=r.gp (decide (k=0)) s2)/\Hid (s2.n+Nd.cos r.nds<=s.n+1+Nd.cos l.nds)/\Kn X9 w wr ((b,.cells #[.slice ao s2.n cap,.int .i64 (s2.i:Int),.int .i64 (s2.e:Int)] 81 (0,0))::LP)/\Hid (MkQ W0 LZ wr b s2 (.slice ao s2.n cap) LP)/\Hid (NodeIs (b::keys LP) wr (Tr.pipe false l).nd [.int .i64 kz,.string nm,.bool false,.slice aa na ca,.slice aw nw cw9,.slice ar nr cr,.slice ak nk ck])/\Hid (CelY (b::keys LP) wr (w.heap.size) [.pointer (some ⟨b,0,none⟩)])/\Hid (CelY (b::keys LP) wr (w.heap.size+1) [.int .i64 kz,.string nm,.bool false,.slice aa na ca,.slice aw nw cw9,.slice ar nr cr,.slice ak nk ck])) (fun z _=>nk-(intOf z).toNat)
 case atStart=>exact⟨0,l,s,ao,cap,LP,rfl,Nat.zero_le _,yh ⟨HOK.out.1,HOK.out.2,rfl⟩,yh (by omega),HWB.out,HM,HN,HP,HB⟩
 case round=>
  clear HWB HM HN HOK HP HB;obtain⟨k,r,s2,ao,cap,LP,rfl,hk,HR,HB9,hWB,HM,HN,HP,HB⟩:=hrel;have HWB:=yh hWB;clear hL hF hWB n0 pq px p00;have hL:=Kn.self0q HWB.out;have hF:=hL.fx;have n0:=HB.out.c7;obtain⟨pq,px,p00⟩:=HP.out.c1
  cases r with
  |nil=>
   have hkn:k=nk:=by
    have h:=congrArg List.length HR.out.2.1;rw[List.length_drop,HN9.out]at h;simp only[Ts.nds,List.length_nil]at h;omega
   subst hkn;have he:l.gp true s=s2:=by rw[HR.out.2.2];simp only[Ts.gp]
   by_cases h1k:1<k
   ·have h1i:(1:Int)<(k:Int):=by omega
    go_wp2_with (first|(with_reducible refine zS ?_;intro W hL hF)|((first|(go_at_call 66;(with_reducible refine zK [] HWB.out HM.out (fun W hL hS hN=>bW 14 0 14 rfl W0 b _ ao cap LP _ (by have h0:=HM9.out;have h1:=HB9.out;omega) hS hN) ?_))|(go_at_call 66;(with_reducible refine zK [] HWB.out HM.out (fun W hL hS hN=>bW 25 0 25 rfl W0 b _ ao cap LP _ (by have h0:=HM9.out;have h1:=HB9.out;simp only[nO]at *;omega) hS hN) ?_)));clear hF hL HWB HM;intro W ao cap LP HWB HM hJ hL hF;replace HB:=cy HB hJ;replace HN:=cy HN hJ;replace HP:=cy HP hJ;clear hJ;clear n0;have n0:=HB.out.c7;clear pq px p00;obtain⟨pq,px,p00⟩:=HP.out.c1))
    refine bodyPost_end (by simp[results,Tryz.results55,go_sem, *];try rfl) rfl ?_;exact⟨rfl,ao,cap,LP,HWB.out,HM⟩
   ·have h1i:¬(1:Int)<(k:Int):=by omega
    go_wp2_with (first|(with_reducible refine zS ?_;intro W hL hF)|((first|(go_at_call 66;(with_reducible refine zK [] HWB.out HM.out (fun W hL hS hN=>bW 14 0 14 rfl W0 b _ ao cap LP _ (by have h0:=HM9.out;have h1:=HB9.out;omega) hS hN) ?_))|(go_at_call 66;(with_reducible refine zK [] HWB.out HM.out (fun W hL hS hN=>bW 25 0 25 rfl W0 b _ ao cap LP _ (by have h0:=HM9.out;have h1:=HB9.out;omega) hS hN) ?_)));clear hF hL HWB HM;intro W ao cap LP HWB HM hJ hL hF;replace HB:=cy HB hJ;replace HN:=cy HN hJ;replace HP:=cy HP hJ;clear hJ;clear n0;have n0:=HB.out.c7;clear pq px p00;obtain⟨pq,px,p00⟩:=HP.out.c1))
    refine bodyPost_end (by simp[results,Tryz.results55,go_sem, *];try rfl) rfl ?_;exact⟨rfl,ao,cap,LP,HWB.out,HM⟩
  |cons x r=>
   obtain⟨HD1,HD2,HD3⟩:=bF HR.out.2.1.symm;have HD:Hid (l.nds.drop (k+1)=r.nds):=yh HD2;have hkn:k<nk:=by rw[<- HN9.out];exact HD3
   have hrn:r.nil? =true↔k+1=nk:=by
    have h:=congrArg List.length HD2;rw[List.length_drop,HN9.out]at h
    cases r with
    |nil=>simp only[Ts.nds,List.length_nil]at h;simp only[Ts.nil?,true_iff];omega
    |cons y r=>simp only[Ts.nds,List.length_cons]at h;simp only[Ts.nil?,Bool.false_eq_true,false_iff];omega
   obtain⟨gq,oq,dq0,dq1,dq2,dq3,dq4,dq5,dq6,keq,kxq,klq,kiq,HKNq,HKD,kq0,kq1,kq2,kq3,kq4,kq5,kq6⟩:=bC HN.out (i:=k) (y:=x.nd) HD1;(first|subst keq|(injection keq with keq;injection keq with kfq kgq;subst kfq kgq))
   skip
   obtain⟨ya,yc,yw,yd,yr,ye,yk,yf,hcs⟩:=dh HKD.out;obtain⟨yu,hyu⟩:∃u:ByteArray,bs x.nd.name=.string u:=⟨_,rfl⟩;rw[hyu]at hcs;simp only[List.cons.injEq,and_true]at hcs;obtain⟨rfl,rfl,rfl,rfl,rfl,rfl,rfl⟩:=hcs;clear hyu;clear HD1 HD2 HD3 HKNq;have HX0:Hid (cI W0 x):=yh (by have h:=HR.out.1;simp only[Ts.alls]at h;exact h.1);have HX1:=yh HX0.out.1;have HX3:=yh HX0.out.1;unfold MkF at HX3;have HX2:=yh HX0.out.2;have HLL:=yh (fun s=>(⟨by have:=HX0.out.2 s;omega,(HX0.out.2 s).2⟩:(x.g s).n<=s.n+x.nd.co/\s.n<=(x.g s).n));have HCW:Hid (s2.n+(x.nd.co+Nd.cos r.nds)<=s.n+1+Nd.cos l.nds):=yh (by have h:=HB9.out;simp only[Ts.nds,aN]at h;exact h);have p1:wrap64 ((nk:Int)-1)=(nk:Int)-1:=IntWalk.wrap64_in _ (by omega);go_upto_region 6 with(fail)
   (with_reducible refine zT1 HWB.out HM.out ?_);clear hF;clear hL HM HWB;intro W HK HM HWB hJ hL hF;replace HP:=cy HP hJ;replace HB:=cy HB hJ;replace HN:=cy HN hJ;replace HKD:=cy HKD hJ;clear hJ
   clear n0 pq px p00 kxq klq kiq kq0 kq1 kq2 kq3 kq4 kq5 kq6;have n0:=HB.out.c7;obtain⟨pq,px,p00⟩:=HP.out.c1;obtain⟨hq,hx,h0,h1,h2,h3,h4,h5,h6⟩:=HK.out.c7;by_cases h0:k=0
   ·have hz1:decide (0<k)=false:=decide_eq_false (by omega)
    by_cases hl:k+1=nk
    ·have HPR:Hid (prt (decide (k=0)) r.nil? =0):=yh (by rw[hrn.2 hl,decide_eq_true h0];rfl)
     have hz2:decide ((k:Int)<(nk:Int)-1)=false:=decide_eq_false (by omega);clear hrn h0 hl;go_wp2_with (first|(with_reducible refine zS ?_;intro W hL hF)|(go_at_call 29;(with_reducible refine zK [] HWB.out HM.out (fun W hL hS hN=>HX3.out b _ ao cap LP _ _ (by have h0:=HM9.out;have h1:=HCW.out;simp only[nO]at *;omega) hS hN (HKD.out.at_ hL)) ?_);clear hF hL HWB HM;intro W ao cap LP HWB HM hJ hL hF;replace HB:=cy HB hJ;replace HN:=cy HN hJ;replace HP:=cy HP hJ;clear hJ))
     refine⟨⟨k+1,r,x.g s2,ao,cap,LP,by go_num,by omega,yh ?_,yh ?_,HWB.out,HM,HN,HP,HB⟩,by simp[intOf];omega⟩
     ·have h:=HR.out
      simp only[Ts.alls,Ts.gp]at h;exact⟨h.1.2,HD.out.symm,by rw[h.2.2,HPR.out,decide_eq_false (show ¬(k+1=0) by omega)];rfl⟩
     ·have h:=HCW.out
      have h2:=HX2.out s2;have h3:=HX2.out (s2.add {op:=13,b:=0});simp only[b7,bt]at *;omega
    ·have HPR:Hid (prt (decide (k=0)) r.nil? =2):=yh (by rw[Bool.eq_false_iff.2 (fun h=>hl (hrn.1 h)),decide_eq_true h0];rfl)
     have hz2:decide ((k:Int)<(nk:Int)-1)=true:=decide_eq_true (by omega);clear hrn h0 hl;go_wp2_with (first|(with_reducible refine zS ?_;intro W hL hF)|(go_at_call 88;(with_reducible refine zK [] HWB.out HM.out (fun W hL hS hN=>eM 89 _ x.g x.nd.co 2 W0 b _ ao cap LP _ fG (fun s2 ao2 cap2 LP2 W2 hk hM2 hn2=>eR HX1.out _ _ _ b s2 ao2 cap2 LP2 W2 ((HP.out.mk2 hL).mk2 hk) ((HK.out.mk2 hL).mk2 hk) ((HKD.out.mk2 hL).mk2 hk) hn2 (Kn.self0q hk) hM2) HLL.out (by have h0:=HM9.out;have h1:=HCW.out;simp only[nO]at *;omega) hS hN) ?_);clear hF hL HWB HM;intro W ao cap LP HWB HM hJ hL hF;replace HB:=cy HB hJ;replace HN:=cy HN hJ;replace HP:=cy HP hJ;clear hJ))
     refine⟨⟨k+1,r,s2.child 2 x.g,ao,cap,LP,by go_num,by omega,yh ?_,yh ?_,HWB.out,HM,HN,HP,HB⟩,by simp[intOf];omega⟩
     ·have h:=HR.out
      simp only[Ts.alls,Ts.gp]at h;exact⟨h.1.2,HD.out.symm,by rw[h.2.2,HPR.out,decide_eq_false (show ¬(k+1=0) by omega)];rfl⟩
     ·have h:=HCW.out
      have h2:=HX2.out s2;have h3:=HX2.out (s2.add {op:=13,b:=2});simp only[b7,bt]at *;omega
   ·have hz1:decide (0<k)=true:=decide_eq_true (by omega)
    by_cases hl:k+1=nk
    ·have HPR:Hid (prt (decide (k=0)) r.nil? =1):=yh (by rw[hrn.2 hl,decide_eq_false h0];rfl)
     have hz2:decide ((k:Int)<(nk:Int)-1)=false:=decide_eq_false (by omega);clear hrn h0 hl;go_wp2_with (first|(with_reducible refine zS ?_;intro W hL hF)|(go_at_call 88;(with_reducible refine zK [] HWB.out HM.out (fun W hL hS hN=>eM 89 _ x.g x.nd.co 1 W0 b _ ao cap LP _ fG (fun s2 ao2 cap2 LP2 W2 hk hM2 hn2=>eR HX1.out _ _ _ b s2 ao2 cap2 LP2 W2 ((HP.out.mk2 hL).mk2 hk) ((HK.out.mk2 hL).mk2 hk) ((HKD.out.mk2 hL).mk2 hk) hn2 (Kn.self0q hk) hM2) HLL.out (by have h0:=HM9.out;have h1:=HCW.out;simp only[nO]at *;omega) hS hN) ?_);clear hF hL HWB HM;intro W ao cap LP HWB HM hJ hL hF;replace HB:=cy HB hJ;replace HN:=cy HN hJ;replace HP:=cy HP hJ;clear hJ))
     refine⟨⟨k+1,r,s2.child 1 x.g,ao,cap,LP,by go_num,by omega,yh ?_,yh ?_,HWB.out,HM,HN,HP,HB⟩,by simp[intOf];omega⟩
     ·have h:=HR.out
      simp only[Ts.alls,Ts.gp]at h;exact⟨h.1.2,HD.out.symm,by rw[h.2.2,HPR.out,decide_eq_false (show ¬(k+1=0) by omega)];rfl⟩
     ·have h:=HCW.out
      have h2:=HX2.out s2;have h3:=HX2.out (s2.add {op:=13,b:=1});simp only[b7,bt]at *;omega
    ·have HPR:Hid (prt (decide (k=0)) r.nil? =3):=yh (by rw[Bool.eq_false_iff.2 (fun h=>hl (hrn.1 h)),decide_eq_false h0];rfl)
     have hz2:decide ((k:Int)<(nk:Int)-1)=true:=decide_eq_true (by omega);clear hrn h0 hl;go_wp2_with (first|(with_reducible refine zS ?_;intro W hL hF)|(go_at_call 88;(with_reducible refine zK [] HWB.out HM.out (fun W hL hS hN=>eM 89 _ x.g x.nd.co 3 W0 b _ ao cap LP _ fG (fun s2 ao2 cap2 LP2 W2 hk hM2 hn2=>eR HX1.out _ _ _ b s2 ao2 cap2 LP2 W2 ((HP.out.mk2 hL).mk2 hk) ((HK.out.mk2 hL).mk2 hk) ((HKD.out.mk2 hL).mk2 hk) hn2 (Kn.self0q hk) hM2) HLL.out (by have h0:=HM9.out;have h1:=HCW.out;simp only[nO]at *;omega) hS hN) ?_);clear hF hL HWB HM;intro W ao cap LP HWB HM hJ hL hF;replace HB:=cy HB hJ;replace HN:=cy HN hJ;replace HP:=cy HP hJ;clear hJ))
     refine⟨⟨k+1,r,s2.child 3 x.g,ao,cap,LP,by go_num,by omega,yh ?_,yh ?_,HWB.out,HM,HN,HP,HB⟩,by simp[intOf];omega⟩
     ·have h:=HR.out
      simp only[Ts.alls,Ts.gp]at h;exact⟨h.1.2,HD.out.symm,by rw[h.2.2,HPR.out,decide_eq_false (show ¬(k+1=0) by omega)];rfl⟩
     ·have h:=HCW.out
      have h2:=HX2.out s2;have h3:=HX2.out (s2.add {op:=13,b:=3});simp only[b7,bt]at *;omega
theorem pN{W0:World}{l:Ts}(hall:l.alls (cI W0))(hsz:l.nds.length<=100000):MkF W0 55 (Tr.pipe true l).nd (Nd.cos l.nds+7) (fun s=>((if 1<l.nds.length then(l.gp true (s.op 24 1)).op 14 0 else l.gp true (s.op 24 1)).op 24 (-1)).op 4 0):=by
 refine MkF.mk ?_
 intro LZ b s ao cap LP w X9 kz nm ng na nw nr nk aa ca aw cw9 ar cr ak ck hm HKZ HNM HNG HNA HNW HNR HNK HN HM HWB hL
 have hF:=hL.fx
 go_enter Tryz.func55,Tryz.ntmps55
 have hnk:l.nds.length=nk:=HNK.out
 rw[hnk]at hsz |-
 obtain rfl:ng=true:=HNG.out.symm
 have HN9:=yh hnk
 have HOK:=yh (⟨hall,rfl⟩:l.alls (cI W0)/\l.nds=l.nds.drop 0)
 have HM9:=yh hm
 clear hnk hm hall
 go_upto_region 1 with(fail)
 (with_reducible refine zT2 HWB.out HM.out ?_);clear hF;clear hL HM HWB;intro W HB HP HM HWB hJ hL hF;replace HN:=cy HN hJ;clear hJ
 have n0:=HB.out.c7;obtain⟨pq,px,p00⟩:=HP.out.c1
 go_wp2_with (first|(with_reducible refine zS ?_;intro W hL hF)|(go_at_call 66;(with_reducible refine zK [] HWB.out HM.out (fun W hL hS hN=>bW 24 1 24 rfl W0 b _ ao cap LP _ (by have h0:=HM9.out;simp only[nO]at *;omega) hS hN) ?_);clear hF hL HWB HM;intro W ao cap LP HWB HM hJ hL hF;replace HB:=cy HB hJ;replace HN:=cy HN hJ;replace HP:=cy HP hJ;clear hJ;clear n0;have n0:=HB.out.c7;clear pq px p00;obtain⟨pq,px,p00⟩:=HP.out.c1))
 go_loopw [14] (fun z wr=>∃(k:Nat) (r:Ts) (s2:PS) (ao:Option Addr) (cap:Nat) (LP:List (Nat×Obj)),z=.int .i64 k/\k<=nk/\Hid (r.alls (cI W0)/\r.nds=l.nds.drop k/\l.gp true (s.op 24 1)=r.gp (decide (k=0)) s2)/\Hid (s2.n+Nd.cos r.nds<=s.n+1+Nd.cos l.nds)/\Kn X9 w wr ((b,.cells #[.slice ao s2.n cap,.int .i64 (s2.i:Int),.int .i64 (s2.e:Int)] 81 (0,0))::LP)/\Hid (MkQ W0 LZ wr b s2 (.slice ao s2.n cap) LP)/\Hid (NodeIs (b::keys LP) wr (Tr.pipe true l).nd [.int .i64 kz,.string nm,.bool true,.slice aa na ca,.slice aw nw cw9,.slice ar nr cr,.slice ak nk ck])/\Hid (CelY (b::keys LP) wr (w.heap.size) [.pointer (some ⟨b,0,none⟩)])/\Hid (CelY (b::keys LP) wr (w.heap.size+1) [.int .i64 kz,.string nm,.bool true,.slice aa na ca,.slice aw nw cw9,.slice ar nr cr,.slice ak nk ck])) (fun z _=>nk-(intOf z).toNat)
 case atStart=>exact⟨0,l,(s.op 24 1),ao,cap,LP,rfl,Nat.zero_le _,yh ⟨HOK.out.1,HOK.out.2,rfl⟩,yh (by rw[cd];omega),HWB.out,HM,HN,HP,HB⟩
 case round=>
  clear HWB HM HN HOK HP HB;obtain⟨k,r,s2,ao,cap,LP,rfl,hk,HR,HB9,hWB,HM,HN,HP,HB⟩:=hrel;have HWB:=yh hWB;clear hL hF hWB n0 pq px p00;have hL:=Kn.self0q HWB.out;have hF:=hL.fx;have n0:=HB.out.c7;obtain⟨pq,px,p00⟩:=HP.out.c1
  cases r with
  |nil=>
   have hkn:k=nk:=by
    have h:=congrArg List.length HR.out.2.1;rw[List.length_drop,HN9.out]at h;simp only[Ts.nds,List.length_nil]at h;omega
   subst hkn;have he:l.gp true (s.op 24 1)=s2:=by rw[HR.out.2.2];simp only[Ts.gp]
   by_cases h1k:1<k
   ·have h1i:(1:Int)<(k:Int):=by omega
    go_wp2_with (first|(with_reducible refine zS ?_;intro W hL hF)|((first|(go_at_call 66;(with_reducible refine zK [] HWB.out HM.out (fun W hL hS hN=>bW 14 0 14 rfl W0 b _ ao cap LP _ (by have h0:=HM9.out;have h1:=HB9.out;omega) hS hN) ?_))|(go_at_call 66;(with_reducible refine zK [] HWB.out HM.out (fun W hL hS hN=>q_ W0 b _ ao cap LP _ (by have h0:=HM9.out;have h1:=HB9.out;simp only[nO]at *;omega) hS hN) ?_))|(go_at_call 66;(with_reducible refine zK [] HWB.out HM.out (fun W hL hS hN=>bW 4 0 4 rfl W0 b _ ao cap LP _ (by have h0:=HM9.out;have h1:=HB9.out;simp only[nO]at *;omega) hS hN) ?_)));clear hF hL HWB HM;intro W ao cap LP HWB HM hJ hL hF;replace HB:=cy HB hJ;replace HN:=cy HN hJ;replace HP:=cy HP hJ;clear hJ;clear n0;have n0:=HB.out.c7;clear pq px p00;obtain⟨pq,px,p00⟩:=HP.out.c1))
    refine bodyPost_end (by simp[results,Tryz.results55,go_sem, *];try rfl) rfl ?_;exact⟨rfl,ao,cap,LP,HWB.out,HM⟩
   ·have h1i:¬(1:Int)<(k:Int):=by omega
    go_wp2_with (first|(with_reducible refine zS ?_;intro W hL hF)|((first|(go_at_call 66;(with_reducible refine zK [] HWB.out HM.out (fun W hL hS hN=>bW 14 0 14 rfl W0 b _ ao cap LP _ (by have h0:=HM9.out;have h1:=HB9.out;omega) hS hN) ?_))|(go_at_call 66;(with_reducible refine zK [] HWB.out HM.out (fun W hL hS hN=>q_ W0 b _ ao cap LP _ (by have h0:=HM9.out;have h1:=HB9.out;omega) hS hN) ?_))|(go_at_call 66;(with_reducible refine zK [] HWB.out HM.out (fun W hL hS hN=>bW 4 0 4 rfl W0 b _ ao cap LP _ (by have h0:=HM9.out;have h1:=HB9.out;simp only[nO]at *;omega) hS hN) ?_)));clear hF hL HWB HM;intro W ao cap LP HWB HM hJ hL hF;replace HB:=cy HB hJ;replace HN:=cy HN hJ;replace HP:=cy HP hJ;clear hJ;clear n0;have n0:=HB.out.c7;clear pq px p00;obtain⟨pq,px,p00⟩:=HP.out.c1))
    refine bodyPost_end (by simp[results,Tryz.results55,go_sem, *];try rfl) rfl ?_;exact⟨rfl,ao,cap,LP,HWB.out,HM⟩
  |cons x r=>
   obtain⟨HD1,HD2,HD3⟩:=bF HR.out.2.1.symm;have HD:Hid (l.nds.drop (k+1)=r.nds):=yh HD2;have hkn:k<nk:=by rw[<- HN9.out];exact HD3
   have hrn:r.nil? =true↔k+1=nk:=by
    have h:=congrArg List.length HD2;rw[List.length_drop,HN9.out]at h
    cases r with
    |nil=>simp only[Ts.nds,List.length_nil]at h;simp only[Ts.nil?,true_iff];omega
    |cons y r=>simp only[Ts.nds,List.length_cons]at h;simp only[Ts.nil?,Bool.false_eq_true,false_iff];omega
   obtain⟨gq,oq,dq0,dq1,dq2,dq3,dq4,dq5,dq6,keq,kxq,klq,kiq,HKNq,HKD,kq0,kq1,kq2,kq3,kq4,kq5,kq6⟩:=bC HN.out (i:=k) (y:=x.nd) HD1;(first|subst keq|(injection keq with keq;injection keq with kfq kgq;subst kfq kgq))
   skip
   obtain⟨ya,yc,yw,yd,yr,ye,yk,yf,hcs⟩:=dh HKD.out;obtain⟨yu,hyu⟩:∃u:ByteArray,bs x.nd.name=.string u:=⟨_,rfl⟩;rw[hyu]at hcs;simp only[List.cons.injEq,and_true]at hcs;obtain⟨rfl,rfl,rfl,rfl,rfl,rfl,rfl⟩:=hcs;clear hyu;clear HD1 HD2 HD3 HKNq;have HX0:Hid (cI W0 x):=yh (by have h:=HR.out.1;simp only[Ts.alls]at h;exact h.1);have HX1:=yh HX0.out.1;have HX3:=yh HX0.out.1;unfold MkF at HX3;have HX2:=yh HX0.out.2;have HLL:=yh (fun s=>(⟨by have:=HX0.out.2 s;omega,(HX0.out.2 s).2⟩:(x.g s).n<=s.n+x.nd.co/\s.n<=(x.g s).n));have HCW:Hid (s2.n+(x.nd.co+Nd.cos r.nds)<=s.n+1+Nd.cos l.nds):=yh (by have h:=HB9.out;simp only[Ts.nds,aN]at h;exact h);have p1:wrap64 ((nk:Int)-1)=(nk:Int)-1:=IntWalk.wrap64_in _ (by omega);go_upto_region 6 with(fail)
   (with_reducible refine zT1 HWB.out HM.out ?_);clear hF;clear hL HM HWB;intro W HK HM HWB hJ hL hF;replace HP:=cy HP hJ;replace HB:=cy HB hJ;replace HN:=cy HN hJ;replace HKD:=cy HKD hJ;clear hJ
   clear n0 pq px p00 kxq klq kiq kq0 kq1 kq2 kq3 kq4 kq5 kq6;have n0:=HB.out.c7;obtain⟨pq,px,p00⟩:=HP.out.c1;obtain⟨hq,hx,h0,h1,h2,h3,h4,h5,h6⟩:=HK.out.c7;by_cases h0:k=0
   ·have hz1:decide (0<k)=false:=decide_eq_false (by omega)
    by_cases hl:k+1=nk
    ·have HPR:Hid (prt (decide (k=0)) r.nil? =0):=yh (by rw[hrn.2 hl,decide_eq_true h0];rfl)
     have hz2:decide ((k:Int)<(nk:Int)-1)=false:=decide_eq_false (by omega);clear hrn h0 hl;go_wp2_with (first|(with_reducible refine zS ?_;intro W hL hF)|(go_at_call 29;(with_reducible refine zK [] HWB.out HM.out (fun W hL hS hN=>HX3.out b _ ao cap LP _ _ (by have h0:=HM9.out;have h1:=HCW.out;simp only[nO]at *;omega) hS hN (HKD.out.at_ hL)) ?_);clear hF hL HWB HM;intro W ao cap LP HWB HM hJ hL hF;replace HB:=cy HB hJ;replace HN:=cy HN hJ;replace HP:=cy HP hJ;clear hJ))
     refine⟨⟨k+1,r,x.g s2,ao,cap,LP,by go_num,by omega,yh ?_,yh ?_,HWB.out,HM,HN,HP,HB⟩,by simp[intOf];omega⟩
     ·have h:=HR.out
      simp only[Ts.alls,Ts.gp]at h;exact⟨h.1.2,HD.out.symm,by rw[h.2.2,HPR.out,decide_eq_false (show ¬(k+1=0) by omega)];rfl⟩
     ·have h:=HCW.out
      have h2:=HX2.out s2;have h3:=HX2.out (s2.add {op:=13,b:=0});simp only[b7,bt]at *;omega
    ·have HPR:Hid (prt (decide (k=0)) r.nil? =2):=yh (by rw[Bool.eq_false_iff.2 (fun h=>hl (hrn.1 h)),decide_eq_true h0];rfl)
     have hz2:decide ((k:Int)<(nk:Int)-1)=true:=decide_eq_true (by omega);clear hrn h0 hl;go_wp2_with (first|(with_reducible refine zS ?_;intro W hL hF)|(go_at_call 88;(with_reducible refine zK [] HWB.out HM.out (fun W hL hS hN=>eM 89 _ x.g x.nd.co 2 W0 b _ ao cap LP _ fG (fun s2 ao2 cap2 LP2 W2 hk hM2 hn2=>eR HX1.out _ _ _ b s2 ao2 cap2 LP2 W2 ((HP.out.mk2 hL).mk2 hk) ((HK.out.mk2 hL).mk2 hk) ((HKD.out.mk2 hL).mk2 hk) hn2 (Kn.self0q hk) hM2) HLL.out (by have h0:=HM9.out;have h1:=HCW.out;simp only[nO]at *;omega) hS hN) ?_);clear hF hL HWB HM;intro W ao cap LP HWB HM hJ hL hF;replace HB:=cy HB hJ;replace HN:=cy HN hJ;replace HP:=cy HP hJ;clear hJ))
     refine⟨⟨k+1,r,s2.child 2 x.g,ao,cap,LP,by go_num,by omega,yh ?_,yh ?_,HWB.out,HM,HN,HP,HB⟩,by simp[intOf];omega⟩
     ·have h:=HR.out
      simp only[Ts.alls,Ts.gp]at h;exact⟨h.1.2,HD.out.symm,by rw[h.2.2,HPR.out,decide_eq_false (show ¬(k+1=0) by omega)];rfl⟩
     ·have h:=HCW.out
      have h2:=HX2.out s2;have h3:=HX2.out (s2.add {op:=13,b:=2});simp only[b7,bt]at *;omega
   ·have hz1:decide (0<k)=true:=decide_eq_true (by omega)
    by_cases hl:k+1=nk
    ·have HPR:Hid (prt (decide (k=0)) r.nil? =1):=yh (by rw[hrn.2 hl,decide_eq_false h0];rfl)
     have hz2:decide ((k:Int)<(nk:Int)-1)=false:=decide_eq_false (by omega);clear hrn h0 hl;go_wp2_with (first|(with_reducible refine zS ?_;intro W hL hF)|(go_at_call 88;(with_reducible refine zK [] HWB.out HM.out (fun W hL hS hN=>eM 89 _ x.g x.nd.co 1 W0 b _ ao cap LP _ fG (fun s2 ao2 cap2 LP2 W2 hk hM2 hn2=>eR HX1.out _ _ _ b s2 ao2 cap2 LP2 W2 ((HP.out.mk2 hL).mk2 hk) ((HK.out.mk2 hL).mk2 hk) ((HKD.out.mk2 hL).mk2 hk) hn2 (Kn.self0q hk) hM2) HLL.out (by have h0:=HM9.out;have h1:=HCW.out;simp only[nO]at *;omega) hS hN) ?_);clear hF hL HWB HM;intro W ao cap LP HWB HM hJ hL hF;replace HB:=cy HB hJ;replace HN:=cy HN hJ;replace HP:=cy HP hJ;clear hJ))
     refine⟨⟨k+1,r,s2.child 1 x.g,ao,cap,LP,by go_num,by omega,yh ?_,yh ?_,HWB.out,HM,HN,HP,HB⟩,by simp[intOf];omega⟩
     ·have h:=HR.out
      simp only[Ts.alls,Ts.gp]at h;exact⟨h.1.2,HD.out.symm,by rw[h.2.2,HPR.out,decide_eq_false (show ¬(k+1=0) by omega)];rfl⟩
     ·have h:=HCW.out
      have h2:=HX2.out s2;have h3:=HX2.out (s2.add {op:=13,b:=1});simp only[b7,bt]at *;omega
    ·have HPR:Hid (prt (decide (k=0)) r.nil? =3):=yh (by rw[Bool.eq_false_iff.2 (fun h=>hl (hrn.1 h)),decide_eq_false h0];rfl)
     have hz2:decide ((k:Int)<(nk:Int)-1)=true:=decide_eq_true (by omega);clear hrn h0 hl;go_wp2_with (first|(with_reducible refine zS ?_;intro W hL hF)|(go_at_call 88;(with_reducible refine zK [] HWB.out HM.out (fun W hL hS hN=>eM 89 _ x.g x.nd.co 3 W0 b _ ao cap LP _ fG (fun s2 ao2 cap2 LP2 W2 hk hM2 hn2=>eR HX1.out _ _ _ b s2 ao2 cap2 LP2 W2 ((HP.out.mk2 hL).mk2 hk) ((HK.out.mk2 hL).mk2 hk) ((HKD.out.mk2 hL).mk2 hk) hn2 (Kn.self0q hk) hM2) HLL.out (by have h0:=HM9.out;have h1:=HCW.out;simp only[nO]at *;omega) hS hN) ?_);clear hF hL HWB HM;intro W ao cap LP HWB HM hJ hL hF;replace HB:=cy HB hJ;replace HN:=cy HN hJ;replace HP:=cy HP hJ;clear hJ))
     refine⟨⟨k+1,r,s2.child 3 x.g,ao,cap,LP,by go_num,by omega,yh ?_,yh ?_,HWB.out,HM,HN,HP,HB⟩,by simp[intOf];omega⟩
     ·have h:=HR.out
      simp only[Ts.alls,Ts.gp]at h;exact⟨h.1.2,HD.out.symm,by rw[h.2.2,HPR.out,decide_eq_false (show ¬(k+1=0) by omega)];rfl⟩
     ·have h:=HCW.out
      have h2:=HX2.out s2;have h3:=HX2.out (s2.add {op:=13,b:=3});simp only[b7,bt]at *;omega
theorem rc{W0:World}{a9 w9 r9:Ws}(ha9:a9.allw (bL W0))(hta:a9.ta)(hr9:r9.allw (bL W0))(hw9:w9.nil? =false)(hW9:xe W0 w9)(hlw9:∀s,(w9.g 7 s).n<=s.n+w9.b/\s.n<=(w9.g 7 s).n)(hsa:a9.as.length<=100000)(hsr:r9.rs.length<=100000):MkF W0 58 (Tr.simple a9 w9 r9).nd (a9.b+w9.b+7) (fun s=>(a9.g 8 (w9.g 7 (s.op 6 0))).op 12 0):=by
 refine MkF.mk ?_
 intro LZ b s ao cap LP w X9 kz nm ng na nw nr nk aa ca aw cw9 ar cr ak ck hm HKZ HNM HNG HNA HNW HNR HNK HN HM HWB hL
 have hF:=hL.fx
 go_enter Tryz.func58,Tryz.ntmps58
 have hna:a9.as.length=na:=HNA.out
 have hnr:r9.rs.length=nr:=HNR.out
 have hnw:0<nw:=(by rw[<- HNW.out];cases w9 with|nil=>simp[Ws.nil?]at hw9|cons g x r=>simp[Tr.nd,Nd.ws,Ws.ws]);have HLW9:=yh hlw9;unfold xe at hW9;have HW9:=yh hW9;clear hW9 hw9 hlw9
 rw[hna]at hsa
 rw[hnr]at hsr
 have HNA9:=yh hna
 have HNR9:=yh hnr
 have HOK:=yh (⟨ha9,hta,rfl⟩:a9.allw (bL W0)/\a9.ta/\a9.as=a9.as.drop 0)
 have HOR:=yh (⟨hr9,rfl⟩:r9.allw (bL W0)/\r9.rs=r9.rs.drop 0)
 have HM9:=yh hm
 clear hna hnr hm ha9 hta hr9
 go_upto_region 1 with(fail)
 (with_reducible refine zT1 HWB.out HM.out ?_);clear hF;clear hL HM HWB;intro W HB HM HWB hJ hL hF;replace HN:=cy HN hJ;clear hJ
 have n0:=HB.out.c7
 have HWR:=yh (show ∀(Y:List Nat) (W:World),NodeIs Y W (Tr.simple a9 w9 r9).nd [.int .i64 kz,.string nm,.bool ng,.slice aa na ca,.slice aw nw cw9,.slice ar nr cr,.slice ak nk ck]->WsRow Y W (.slice aw nw cw9) w9.ws from fun Y W h=>sn h)
 go_wp2_with (first|(with_reducible refine zS ?_;intro W hL hF)|(go_at_call 93;(with_reducible refine zK [] HWB.out HM.out (fun W hL hS hN=>HW9.out b _ ao cap LP _ _ (by have h0:=HM9.out;simp only[nO]at *;omega) hS hN (HWR.out _ _ (HN.out.at_ hL))) ?_);clear hF hL HWB HM;intro W ao cap LP HWB HM hJ hL hF;replace HB:=cy HB hJ;replace HN:=cy HN hJ;clear hJ;clear n0;have n0:=HB.out.c7))
 go_loopw [4,20] (fun bv z wr=>∃(z4:Bool) (k:Nat) (ra:Ws) (s2:PS) (ao:Option Addr) (cap:Nat) (LP:List (Nat×Obj)),bv=.bool z4/\z=.int .i64 k/\k<=na/\Hid (ra.allw (bL W0)/\ra.ta/\ra.as=a9.as.drop k/\a9.g 8 (w9.g 7 (s.op 6 0))=ra.g 8 s2/\a9.plain=(z4&&ra.plain))/\Hid (s2.n+ra.b<=s.n+1+w9.b+a9.b)/\Kn X9 w wr ((b,.cells #[.slice ao s2.n cap,.int .i64 (s2.i:Int),.int .i64 (s2.e:Int)] 81 (0,0))::LP)/\Hid (MkQ W0 LZ wr b s2 (.slice ao s2.n cap) LP)/\Hid (NodeIs (b::keys LP) wr (Tr.simple a9 w9 r9).nd [.int .i64 kz,.string nm,.bool ng,.slice aa na ca,.slice aw nw cw9,.slice ar nr cr,.slice ak nk ck])/\Hid (CelY (b::keys LP) wr w.heap.size [.int .i64 kz,.string nm,.bool ng,.slice aa na ca,.slice aw nw cw9,.slice ar nr cr,.slice ak nk ck])) (fun _ z _=>na-(intOf z).toNat)
 case atStart=>exact⟨true,0,a9,(w9.g 7 (s.op 6 0)),ao,cap,LP,rfl,rfl,Nat.zero_le _,yh ⟨HOK.out.1,HOK.out.2.1,HOK.out.2.2,rfl,by simp⟩,yh (by have h0:=HLW9.out (s.op 6 0);rw[cd]at h0;omega),HWB.out,HM,HN,HB⟩
 case round=>
  clear HWB HM HN HOK HB;obtain⟨z4,k,ra,s2,ao,cap,LP,rfl,rfl,hk,HR,HB9,hWB,HM,HN,HB⟩:=hrel;have HWB:=yh hWB;clear hL hF hWB n0;have hL:=Kn.self0q HWB.out;have hF:=hL.fx;have n0:=HB.out.c7
  cases ra with
  |nil=>
   have hkn:na=k:=by
    have h:=congrArg List.length HR.out.2.2.1;rw[List.length_drop,HNA9.out]at h;simp only[Ws.as,List.length_nil]at h;omega
   subst hkn;have HSA:Hid (a9.g 8 (w9.g 7 (s.op 6 0))=s2):=yh (by rw[HR.out.2.2.2.1];simp only[Ws.g]);have HPL:Hid (a9.plain=z4):=yh (by rw[HR.out.2.2.2.2];simp only[Ws.plain,Bool.and_true]);go_wp2;go_loopw [4,45] (fun bv z wr=>∃(z4:Bool) (k:Nat) (rr:Ws),bv=.bool z4/\z=.int .i64 k/\k<=nr/\Hid (rr.allw (bL W0)/\rr.rs=r9.rs.drop k/\(a9.plain&&r9.plain)=(z4&&rr.plain))/\Kn X9 w wr ((b,.cells #[.slice ao s2.n cap,.int .i64 (s2.i:Int),.int .i64 (s2.e:Int)] 81 (0,0))::LP)/\Hid (MkQ W0 LZ wr b s2 (.slice ao s2.n cap) LP)/\Hid (NodeIs (b::keys LP) wr (Tr.simple a9 w9 r9).nd [.int .i64 kz,.string nm,.bool ng,.slice aa na ca,.slice aw nw cw9,.slice ar nr cr,.slice ak nk ck])/\Hid (CelY (b::keys LP) wr w.heap.size [.int .i64 kz,.string nm,.bool ng,.slice aa na ca,.slice aw nw cw9,.slice ar nr cr,.slice ak nk ck])) (fun _ z _=>nr-(intOf z).toNat)
   case atStart=>exact⟨z4,0,r9,rfl,rfl,Nat.zero_le _,yh ⟨HOR.out.1,HOR.out.2,by rw[HPL.out]⟩,HWB.out,HM,HN,HB⟩
   case round=>
    clear HWB HM HN HB;obtain⟨z6,k2,rr,rfl,rfl,hk2,HR2,hWB,HM,HN,HB⟩:=hrel;have HWB:=yh hWB;clear hL hF hWB n0;have hL:=Kn.self0q HWB.out;have hF:=hL.fx;have n0:=HB.out.c7
    cases rr with
    |nil=>
     have hkn:k2=nr:=by
      have h:=congrArg List.length HR2.out.2.1;rw[List.length_drop,HNR9.out]at h;simp only[Ws.rs,List.length_nil]at h;omega
     subst hkn;have HPL2:Hid ((a9.plain&&r9.plain)=z6):=yh (by rw[HR2.out.2.2];simp only[Ws.plain,Bool.and_true])
     cases z6<;>(
      go_wp2_with (first|(with_reducible refine zS ?_;intro W hL hF)|(go_at_call 66;(with_reducible refine zK [] HWB.out HM.out (fun W hL hS hN=>bW 12 0 12 rfl W0 b _ ao cap LP _ (by have h0:=HM9.out;have h1:=HB9.out;omega) hS hN) ?_);clear hF hL HWB HM;intro W ao cap LP HWB HM hJ hL hF;replace HB:=cy HB hJ;replace HN:=cy HN hJ;clear hJ;clear n0;have n0:=HB.out.c7))
      refine bodyPost_end (by simp[results,Tryz.results58,go_sem, *];try rfl) rfl ?_
      skip
      simp only[HSA.out,HPL2.out,if_true,Bool.false_eq_true,if_false];exact⟨ao,cap,LP,by first|rfl|trivial,HWB.out,HM⟩)
    |cons g x rr=>
     obtain⟨HD1,HD2,HD3⟩:=bF HR2.out.2.1.symm;have HD:Hid (r9.rs.drop (k2+1)=rr.rs):=yh HD2;have hkn:k2<nr:=by rw[<- HNR9.out];exact HD3
     obtain⟨q,o,pv,hga,gx,gl,c0,c1,c2,hpw⟩:=(sq HN.out).at HD1;clear HD1 HD2 HD3;subst hga;simp only[List.mem_cons,not_or]at gx;have HPV:=yh hpw;obtain⟨pa,pn,pc,hpv⟩:∃a n c,pv=.slice a n c:=by
      obtain⟨a,c,h,_⟩:=id hpw;exact⟨a,_,c,h⟩
     have HX0:Hid (bL W0 x):=yh (by have h:=HR2.out.1;simp only[Ws.allw]at h;exact h.1);obtain⟨z5,hz5⟩:∃z,x.plain=z:=⟨_,rfl⟩;have HZ5:=yh hz5;have HPZ:=yh (gG x HX0.out.2.1);have hxz:=HX0.out.2.2;rw[hz5]at HPZ;clear hpw hz5;subst hpv;go_upto_region 14 with(fail)
     (with_reducible refine zT1 HWB.out HM.out ?_);clear hF;clear hL HM HWB;intro W HA HM HWB hJ hL hF;replace HB:=cy HB hJ;replace HN:=cy HN hJ;replace HPV:=cy HPV hJ;clear hJ
     clear n0 gx gl c0 c1 c2;obtain⟨hq,hx,h0,h1,h2⟩:=HA.out.c3
     cases z6<;>(
      go_wp2_with (first|(with_reducible refine zS ?_;intro W hL hF)|(go_at_call 94;refine aj ?_;clear hF hL;intro W hL;have hF:=hL.fx;(with_reducible refine(jZ x.ps _ HPZ.out _ _ hxz _ (HPV.out.at_ hL)).mono ?_);rintro e V ⟨rfl,hb⟩;have hL3:=hL.below hb;clear hb;have hM2:=yh (HM.out.next hL3);clear HM;have HM:=hM2;clear hM2;have hJ:=hL3;replace HA:=cy HA hJ;replace HB:=cy HB hJ;replace HN:=cy HN hJ;replace HPV:=cy HPV hJ;have HWB2:=yh (Kn.tail0 HWB.out hJ);clear HWB;have HWB:=HWB2;clear HWB2 hJ hL hL3;clear hF;have hL:=Kn.self0q HWB.out;have hF:=hL.fx;clear hq hx h0 h1 h2;obtain⟨hq,hx,h0,h1,h2⟩:=HA.out.c3))
      refine⟨⟨_,k2+1,rr,rfl,by go_num,by omega,yh ?_,HWB.out,HM,HN,HB⟩,by simp[intOf];omega⟩;have h:=HR2.out;have hz:=HZ5.out;simp only[Ws.allw,Ws.plain,hz]at h;exact⟨h.1.2,HD.out.symm,by rw[h.2.2];simp⟩)
  |cons g x ra=>
   obtain⟨gs,ga,gb⟩:=g;obtain⟨HD1,HD2,HD3⟩:=bF HR.out.2.2.1.symm;have HD:Hid (a9.as.drop (k+1)=ra.as):=yh HD2;have hkn:k<na:=by rw[<- HNA9.out];exact HD3
   obtain⟨q,o,pv,hga,gx,gl,c0,c1,hpw⟩:=(Ae HN.out).at HD1;clear HD1 HD2 HD3;subst hga;simp only[List.mem_cons,not_or]at gx;obtain⟨u,hu⟩:∃u:ByteArray,(⟨gs.toArray⟩:ByteArray)=u:=⟨_,rfl⟩;have hbs:bs gs=.string u:=by rw[<- hu];rfl
   have HU9:Hid (gs=u.data.toList):=yh (by rw[<- hu]);change _=some (bs gs)at c0;rw[hbs]at c0;have HPV:=yh hpw;obtain⟨pa,pn,pc,hpv⟩:∃a n c,pv=.slice a n c:=by
    obtain⟨a,c,h,_⟩:=id hpw;exact⟨a,_,c,h⟩
   have HX0:Hid (bL W0 x):=yh (by have h:=HR.out.1;simp only[Ws.allw]at h;exact h.1);have HX1:=yh HX0.out.1.1;unfold MkW at HX1;have HX2:=yh HX0.out.1.2;obtain⟨z5,hz5⟩:∃z,x.plain=z:=⟨_,rfl⟩;have HZ5:=yh hz5;have HPZ:=yh (gG x HX0.out.2.1);have hxz:=HX0.out.2.2;rw[hz5]at HPZ;obtain⟨rfl,rfl⟩:ga=0/\gb=0:=by have h:=HR.out.2.1;simp only[Ws.ta]at h;exact h.1
   have HCW:Hid (s2.n+(1+cwt x.ps+ra.b)<=s.n+1+w9.b+a9.b):=HB9;clear hpw hu hbs hz5;subst hpv;go_upto_region 7 with(fail)
   (with_reducible refine zT1 HWB.out HM.out ?_);clear hF;clear hL HM HWB;intro W HA HM HWB hJ hL hF;replace HB:=cy HB hJ;replace HN:=cy HN hJ;replace HPV:=cy HPV hJ;clear hJ
   clear n0 gx gl c0 c1;obtain⟨hq,hx,h0,h1⟩:=HA.out.c2
   cases z4<;>(
    go_wp2_with (first|(with_reducible refine zS ?_;intro W hL hF)|((first|((first|(go_at_call 67;(with_reducible refine zK [] HWB.out HM.out (fun W hL hS hN=>HX1.out b _ ao cap LP _ _ (by have h0:=HM9.out;have h1:=HCW.out;simp only[nO]at *;omega) hS hN (HPV.out.at_ hL)) ?_))|(go_at_call 30;(with_reducible refine zK [] HWB.out HM.out (fun W hL hS hN=>gk W0 b _ ao cap LP _ {op:=8,s:=gs,w:=x.ps} 8 0 0 u _ rfl rfl rfl HU9.out (HPV.out.at_ hL) (by have h0:=HM9.out;have h1:=HCW.out;have h2:=HX2.out s2;omega) hS hN.w) ?_)));clear hF hL HWB HM;intro W ao cap LP HWB HM hJ hL hF;replace HA:=cy HA hJ;replace HB:=cy HB hJ;replace HN:=cy HN hJ;replace HPV:=cy HPV hJ;clear hJ)|(go_at_call 94;refine aj ?_;clear hF hL;intro W hL;have hF:=hL.fx;(with_reducible refine(jZ x.ps _ HPZ.out _ _ hxz _ (HPV.out.at_ hL)).mono ?_);rintro e V ⟨rfl,hb⟩;have hL3:=hL.below hb;clear hb;have hM2:=yh (HM.out.next hL3);clear HM;have HM:=hM2;clear hM2;have hJ:=hL3;replace HA:=cy HA hJ;replace HB:=cy HB hJ;replace HN:=cy HN hJ;replace HPV:=cy HPV hJ;have HWB2:=yh (Kn.tail0 HWB.out hJ);clear HWB;have HWB:=HWB2;clear HWB2 hJ hL hL3;clear hF;have hL:=Kn.self0q HWB.out;have hF:=hL.fx));clear hq hx h0 h1;obtain⟨hq,hx,h0,h1⟩:=HA.out.c2))
    refine⟨⟨_,k+1,ra,(x.g s2).add {op:=8,s:=gs,w:=x.ps},ao,cap,LP,rfl,by go_num,by omega,yh ?_,yh ?_,HWB.out,HM,HN,HB⟩,by simp[intOf];omega⟩
    ·have h:=HR.out
     have hz:=HZ5.out;simp only[Ws.allw,Ws.ta,Ws.g,Ws.plain,hz]at h;exact⟨h.1.2,h.2.1.2,HD.out.symm,h.2.2.2.1,by rw[h.2.2.2.2];simp⟩
    ·have h:=HCW.out
     have h2:=HX2.out s2;rw[bt];omega)
theorem rd{W0:World}{a9 w9 r9:Ws}(ha9:a9.allw (bL W0))(hta:a9.ta)(hr9:r9.allw (bL W0))(hw9:w9=.nil)(F:PS->PS)(hF9:∀s,F s=if a9.plain&&r9.plain then(a9.g 8 s).op 5 0 else a9.g 8 s)(hsa:a9.as.length<=100000)(hsr:r9.rs.length<=100000):MkF W0 58 (Tr.simple a9 w9 r9).nd (a9.b+w9.b+7) F:=by
 refine MkF.mk ?_
 intro LZ b s ao cap LP w X9 kz nm ng na nw nr nk aa ca aw cw9 ar cr ak ck hm HKZ HNM HNG HNA HNW HNR HNK HN HM HWB hL
 have hF:=hL.fx
 go_enter Tryz.func58,Tryz.ntmps58
 have hna:a9.as.length=na:=HNA.out
 have hnr:r9.rs.length=nr:=HNR.out
 have hnw:decide (0<nw)=false:=(by rw[<- HNW.out,hw9];rfl);clear hw9;have HF9:=yh hF9;clear hF9
 rw[hna]at hsa
 rw[hnr]at hsr
 have HNA9:=yh hna
 have HNR9:=yh hnr
 have HOK:=yh (⟨ha9,hta,rfl⟩:a9.allw (bL W0)/\a9.ta/\a9.as=a9.as.drop 0)
 have HOR:=yh (⟨hr9,rfl⟩:r9.allw (bL W0)/\r9.rs=r9.rs.drop 0)
 have HM9:=yh hm
 clear hna hnr hm ha9 hta hr9
 go_upto_region 1 with(fail)
 (with_reducible refine zT1 HWB.out HM.out ?_);clear hF;clear hL HM HWB;intro W HB HM HWB hJ hL hF;replace HN:=cy HN hJ;clear hJ
 have n0:=HB.out.c7
 go_wp2
 go_loopw [4,20] (fun bv z wr=>∃(z4:Bool) (k:Nat) (ra:Ws) (s2:PS) (ao:Option Addr) (cap:Nat) (LP:List (Nat×Obj)),bv=.bool z4/\z=.int .i64 k/\k<=na/\Hid (ra.allw (bL W0)/\ra.ta/\ra.as=a9.as.drop k/\a9.g 8 s=ra.g 8 s2/\a9.plain=(z4&&ra.plain))/\Hid (s2.n+ra.b<=s.n+1+w9.b+a9.b)/\Kn X9 w wr ((b,.cells #[.slice ao s2.n cap,.int .i64 (s2.i:Int),.int .i64 (s2.e:Int)] 81 (0,0))::LP)/\Hid (MkQ W0 LZ wr b s2 (.slice ao s2.n cap) LP)/\Hid (NodeIs (b::keys LP) wr (Tr.simple a9 w9 r9).nd [.int .i64 kz,.string nm,.bool ng,.slice aa na ca,.slice aw nw cw9,.slice ar nr cr,.slice ak nk ck])/\Hid (CelY (b::keys LP) wr w.heap.size [.int .i64 kz,.string nm,.bool ng,.slice aa na ca,.slice aw nw cw9,.slice ar nr cr,.slice ak nk ck])) (fun _ z _=>na-(intOf z).toNat)
 case atStart=>exact⟨true,0,a9,s,ao,cap,LP,rfl,rfl,Nat.zero_le _,yh ⟨HOK.out.1,HOK.out.2.1,HOK.out.2.2,rfl,by simp⟩,yh (by skip;omega),HWB.out,HM,HN,HB⟩
 case round=>
  clear HWB HM HN HOK HB;obtain⟨z4,k,ra,s2,ao,cap,LP,rfl,rfl,hk,HR,HB9,hWB,HM,HN,HB⟩:=hrel;have HWB:=yh hWB;clear hL hF hWB n0;have hL:=Kn.self0q HWB.out;have hF:=hL.fx;have n0:=HB.out.c7
  cases ra with
  |nil=>
   have hkn:na=k:=by
    have h:=congrArg List.length HR.out.2.2.1;rw[List.length_drop,HNA9.out]at h;simp only[Ws.as,List.length_nil]at h;omega
   subst hkn;have HSA:Hid (a9.g 8 s=s2):=yh (by rw[HR.out.2.2.2.1];simp only[Ws.g]);have HPL:Hid (a9.plain=z4):=yh (by rw[HR.out.2.2.2.2];simp only[Ws.plain,Bool.and_true]);go_wp2;go_loopw [4,45] (fun bv z wr=>∃(z4:Bool) (k:Nat) (rr:Ws),bv=.bool z4/\z=.int .i64 k/\k<=nr/\Hid (rr.allw (bL W0)/\rr.rs=r9.rs.drop k/\(a9.plain&&r9.plain)=(z4&&rr.plain))/\Kn X9 w wr ((b,.cells #[.slice ao s2.n cap,.int .i64 (s2.i:Int),.int .i64 (s2.e:Int)] 81 (0,0))::LP)/\Hid (MkQ W0 LZ wr b s2 (.slice ao s2.n cap) LP)/\Hid (NodeIs (b::keys LP) wr (Tr.simple a9 w9 r9).nd [.int .i64 kz,.string nm,.bool ng,.slice aa na ca,.slice aw nw cw9,.slice ar nr cr,.slice ak nk ck])/\Hid (CelY (b::keys LP) wr w.heap.size [.int .i64 kz,.string nm,.bool ng,.slice aa na ca,.slice aw nw cw9,.slice ar nr cr,.slice ak nk ck])) (fun _ z _=>nr-(intOf z).toNat)
   case atStart=>exact⟨z4,0,r9,rfl,rfl,Nat.zero_le _,yh ⟨HOR.out.1,HOR.out.2,by rw[HPL.out]⟩,HWB.out,HM,HN,HB⟩
   case round=>
    clear HWB HM HN HB;obtain⟨z6,k2,rr,rfl,rfl,hk2,HR2,hWB,HM,HN,HB⟩:=hrel;have HWB:=yh hWB;clear hL hF hWB n0;have hL:=Kn.self0q HWB.out;have hF:=hL.fx;have n0:=HB.out.c7
    cases rr with
    |nil=>
     have hkn:k2=nr:=by
      have h:=congrArg List.length HR2.out.2.1;rw[List.length_drop,HNR9.out]at h;simp only[Ws.rs,List.length_nil]at h;omega
     subst hkn;have HPL2:Hid ((a9.plain&&r9.plain)=z6):=yh (by rw[HR2.out.2.2];simp only[Ws.plain,Bool.and_true])
     cases z6<;>(
      go_wp2_with (first|(with_reducible refine zS ?_;intro W hL hF)|(go_at_call 66;(with_reducible refine zK [] HWB.out HM.out (fun W hL hS hN=>bW 5 0 5 rfl W0 b _ ao cap LP _ (by have h0:=HM9.out;have h1:=HB9.out;omega) hS hN) ?_);clear hF hL HWB HM;intro W ao cap LP HWB HM hJ hL hF;replace HB:=cy HB hJ;replace HN:=cy HN hJ;clear hJ;clear n0;have n0:=HB.out.c7))
      refine bodyPost_end (by simp[results,Tryz.results58,go_sem, *];try rfl) rfl ?_;rw[HF9.out];simp only[HSA.out,HPL2.out,if_true,Bool.false_eq_true,if_false];exact⟨ao,cap,LP,by first|rfl|trivial,HWB.out,HM⟩)
    |cons g x rr=>
     obtain⟨HD1,HD2,HD3⟩:=bF HR2.out.2.1.symm;have HD:Hid (r9.rs.drop (k2+1)=rr.rs):=yh HD2;have hkn:k2<nr:=by rw[<- HNR9.out];exact HD3
     obtain⟨q,o,pv,hga,gx,gl,c0,c1,c2,hpw⟩:=(sq HN.out).at HD1;clear HD1 HD2 HD3;subst hga;simp only[List.mem_cons,not_or]at gx;have HPV:=yh hpw;obtain⟨pa,pn,pc,hpv⟩:∃a n c,pv=.slice a n c:=by
      obtain⟨a,c,h,_⟩:=id hpw;exact⟨a,_,c,h⟩
     have HX0:Hid (bL W0 x):=yh (by have h:=HR2.out.1;simp only[Ws.allw]at h;exact h.1);obtain⟨z5,hz5⟩:∃z,x.plain=z:=⟨_,rfl⟩;have HZ5:=yh hz5;have HPZ:=yh (gG x HX0.out.2.1);have hxz:=HX0.out.2.2;rw[hz5]at HPZ;clear hpw hz5;subst hpv;go_upto_region 14 with(fail)
     (with_reducible refine zT1 HWB.out HM.out ?_);clear hF;clear hL HM HWB;intro W HA HM HWB hJ hL hF;replace HB:=cy HB hJ;replace HN:=cy HN hJ;replace HPV:=cy HPV hJ;clear hJ
     clear n0 gx gl c0 c1 c2;obtain⟨hq,hx,h0,h1,h2⟩:=HA.out.c3
     cases z6<;>(
      go_wp2_with (first|(with_reducible refine zS ?_;intro W hL hF)|(go_at_call 94;refine aj ?_;clear hF hL;intro W hL;have hF:=hL.fx;(with_reducible refine(jZ x.ps _ HPZ.out _ _ hxz _ (HPV.out.at_ hL)).mono ?_);rintro e V ⟨rfl,hb⟩;have hL3:=hL.below hb;clear hb;have hM2:=yh (HM.out.next hL3);clear HM;have HM:=hM2;clear hM2;have hJ:=hL3;replace HA:=cy HA hJ;replace HB:=cy HB hJ;replace HN:=cy HN hJ;replace HPV:=cy HPV hJ;have HWB2:=yh (Kn.tail0 HWB.out hJ);clear HWB;have HWB:=HWB2;clear HWB2 hJ hL hL3;clear hF;have hL:=Kn.self0q HWB.out;have hF:=hL.fx;clear hq hx h0 h1 h2;obtain⟨hq,hx,h0,h1,h2⟩:=HA.out.c3))
      refine⟨⟨_,k2+1,rr,rfl,by go_num,by omega,yh ?_,HWB.out,HM,HN,HB⟩,by simp[intOf];omega⟩;have h:=HR2.out;have hz:=HZ5.out;simp only[Ws.allw,Ws.plain,hz]at h;exact⟨h.1.2,HD.out.symm,by rw[h.2.2];simp⟩)
  |cons g x ra=>
   obtain⟨gs,ga,gb⟩:=g;obtain⟨HD1,HD2,HD3⟩:=bF HR.out.2.2.1.symm;have HD:Hid (a9.as.drop (k+1)=ra.as):=yh HD2;have hkn:k<na:=by rw[<- HNA9.out];exact HD3
   obtain⟨q,o,pv,hga,gx,gl,c0,c1,hpw⟩:=(Ae HN.out).at HD1;clear HD1 HD2 HD3;subst hga;simp only[List.mem_cons,not_or]at gx;obtain⟨u,hu⟩:∃u:ByteArray,(⟨gs.toArray⟩:ByteArray)=u:=⟨_,rfl⟩;have hbs:bs gs=.string u:=by rw[<- hu];rfl
   have HU9:Hid (gs=u.data.toList):=yh (by rw[<- hu]);change _=some (bs gs)at c0;rw[hbs]at c0;have HPV:=yh hpw;obtain⟨pa,pn,pc,hpv⟩:∃a n c,pv=.slice a n c:=by
    obtain⟨a,c,h,_⟩:=id hpw;exact⟨a,_,c,h⟩
   have HX0:Hid (bL W0 x):=yh (by have h:=HR.out.1;simp only[Ws.allw]at h;exact h.1);have HX1:=yh HX0.out.1.1;unfold MkW at HX1;have HX2:=yh HX0.out.1.2;obtain⟨z5,hz5⟩:∃z,x.plain=z:=⟨_,rfl⟩;have HZ5:=yh hz5;have HPZ:=yh (gG x HX0.out.2.1);have hxz:=HX0.out.2.2;rw[hz5]at HPZ;obtain⟨rfl,rfl⟩:ga=0/\gb=0:=by have h:=HR.out.2.1;simp only[Ws.ta]at h;exact h.1
   have HCW:Hid (s2.n+(1+cwt x.ps+ra.b)<=s.n+1+w9.b+a9.b):=HB9;clear hpw hu hbs hz5;subst hpv;go_upto_region 7 with(fail)
   (with_reducible refine zT1 HWB.out HM.out ?_);clear hF;clear hL HM HWB;intro W HA HM HWB hJ hL hF;replace HB:=cy HB hJ;replace HN:=cy HN hJ;replace HPV:=cy HPV hJ;clear hJ
   clear n0 gx gl c0 c1;obtain⟨hq,hx,h0,h1⟩:=HA.out.c2
   cases z4<;>(
    go_wp2_with (first|(with_reducible refine zS ?_;intro W hL hF)|((first|((first|(go_at_call 67;(with_reducible refine zK [] HWB.out HM.out (fun W hL hS hN=>HX1.out b _ ao cap LP _ _ (by have h0:=HM9.out;have h1:=HCW.out;simp only[nO]at *;omega) hS hN (HPV.out.at_ hL)) ?_))|(go_at_call 30;(with_reducible refine zK [] HWB.out HM.out (fun W hL hS hN=>gk W0 b _ ao cap LP _ {op:=8,s:=gs,w:=x.ps} 8 0 0 u _ rfl rfl rfl HU9.out (HPV.out.at_ hL) (by have h0:=HM9.out;have h1:=HCW.out;have h2:=HX2.out s2;omega) hS hN.w) ?_)));clear hF hL HWB HM;intro W ao cap LP HWB HM hJ hL hF;replace HA:=cy HA hJ;replace HB:=cy HB hJ;replace HN:=cy HN hJ;replace HPV:=cy HPV hJ;clear hJ)|(go_at_call 94;refine aj ?_;clear hF hL;intro W hL;have hF:=hL.fx;(with_reducible refine(jZ x.ps _ HPZ.out _ _ hxz _ (HPV.out.at_ hL)).mono ?_);rintro e V ⟨rfl,hb⟩;have hL3:=hL.below hb;clear hb;have hM2:=yh (HM.out.next hL3);clear HM;have HM:=hM2;clear hM2;have hJ:=hL3;replace HA:=cy HA hJ;replace HB:=cy HB hJ;replace HN:=cy HN hJ;replace HPV:=cy HPV hJ;have HWB2:=yh (Kn.tail0 HWB.out hJ);clear HWB;have HWB:=HWB2;clear HWB2 hJ hL hL3;clear hF;have hL:=Kn.self0q HWB.out;have hF:=hL.fx));clear hq hx h0 h1;obtain⟨hq,hx,h0,h1⟩:=HA.out.c2))
    refine⟨⟨_,k+1,ra,(x.g s2).add {op:=8,s:=gs,w:=x.ps},ao,cap,LP,rfl,by go_num,by omega,yh ?_,yh ?_,HWB.out,HM,HN,HB⟩,by simp[intOf];omega⟩
    ·have h:=HR.out
     have hz:=HZ5.out;simp only[Ws.allw,Ws.ta,Ws.g,Ws.plain,hz]at h;exact⟨h.1.2,h.2.1.2,HD.out.symm,h.2.2.2.1,by rw[h.2.2.2.2];simp⟩
    ·have h:=HCW.out
     have h2:=HX2.out s2;rw[bt];omega)
structure NodeFn (fid:FuncId):Prop where
 run:∀(a:Array Value) (W:World),(callFunc fid a).run Tryz.prog W=.ok (.enter fid a) W
 ne:∀W:World,(binOp .eql 112 (.func (.func fid) #[] #[]) .nilFunc).run Tryz.prog W=.ok (.bool false) W
 ge:∀(x y:Operand) (W:World),(eqGuard .eql 112 x y (.func (.func fid) #[] #[]) .nilFunc).run Tryz.prog W=.ok () W
theorem zz:NodeFn 54:=⟨fun _ _=>by kernel_rfl,fun _=>by kernel_rfl,fun _ _ _=>by kernel_rfl⟩
theorem sv:NodeFn 55:=⟨fun _ _=>by kernel_rfl,fun _=>by kernel_rfl,fun _ _ _=>by kernel_rfl⟩
theorem xg:NodeFn 56:=⟨fun _ _=>by kernel_rfl,fun _=>by kernel_rfl,fun _ _ _=>by kernel_rfl⟩
theorem zH:NodeFn 57:=⟨fun _ _=>by kernel_rfl,fun _=>by kernel_rfl,fun _ _ _=>by kernel_rfl⟩
theorem mi:NodeFn 58:=⟨fun _ _=>by kernel_rfl,fun _=>by kernel_rfl,fun _ _ _=>by kernel_rfl⟩
theorem Bo:NodeFn 59:=⟨fun _ _=>by kernel_rfl,fun _=>by kernel_rfl,fun _ _ _=>by kernel_rfl⟩
theorem xh:NodeFn 60:=⟨fun _ _=>by kernel_rfl,fun _=>by kernel_rfl,fun _ _ _=>by kernel_rfl⟩
theorem mj:NodeFn 61:=⟨fun _ _=>by kernel_rfl,fun _=>by kernel_rfl,fun _ _ _=>by kernel_rfl⟩
theorem sx:NodeFn 62:=⟨fun _ _=>by kernel_rfl,fun _=>by kernel_rfl,fun _ _ _=>by kernel_rfl⟩
theorem zI:NodeFn 63:=⟨fun _ _=>by kernel_rfl,fun _=>by kernel_rfl,fun _ _ _=>by kernel_rfl⟩
theorem xi:NodeFn 64:=⟨fun _ _=>by kernel_rfl,fun _=>by kernel_rfl,fun _ _ _=>by kernel_rfl⟩
theorem pO:NodeFn 65:=⟨fun _ _=>by kernel_rfl,fun _=>by kernel_rfl,fun _ _ _=>by kernel_rfl⟩
theorem dZ{W0:World}{t:Tr}{fid:FuncId}{N:Nat}{G:PS->PS}(hn:NodeFn fid)(hkm:(Value.int .i64 (t.nd.kind:Int),Value.func (.func fid) #[] #[])∈pJ)(hx:MkF W0 fid t.nd N G){r9:Ws}(hrs:t.nd.rs=r9.rs)(hall:r9.allw (bL W0))(htr:r9.tr)(hsz:r9.rs.length<=100000)(hMM:N+1+r9.b<=t.nd.co)(hok:t.ok)(hg:∀s,s.e=0->t.g s=if r9.nil? then G s else(G (r9.g 10 (s.op 9 0))).op 11 0)(h0:∀s,s.e≠0->t.g s=s):cI W0 t:=by
 refine⟨?_,fun s=>⟨Tr.len t hok s,Tr.mono t s⟩⟩
 have hl:∀s,(t.g s).n+2<=s.n+t.nd.co:=Tr.len t hok
 cases hr:r9.nil? with
 |true=>
  simp only[hr,if_true]at hg;exact zr fid hn.run hn.ne hn.ge hkm hx hrs hall htr hsz hr hMM hg h0 hl
 |false=>
  simp only[hr,Bool.false_eq_true,if_false]at hg;exact zt fid hn.run hn.ne hn.ge hkm hx hrs hall htr hsz hr hMM hg h0 hl
theorem e8{W0:World}{t:Tr}{fid:FuncId}{N:Nat}{G:PS->PS}(hn:NodeFn fid)(hkm:(Value.int .i64 (t.nd.kind:Int),Value.func (.func fid) #[] #[])∈pJ)(hx:MkF W0 fid t.nd N G)(hrs:t.nd.rs=[])(hMM:N+1<=t.nd.co)(hok:t.ok)(hg:∀s,s.e=0->t.g s=G s)(h0:∀s,s.e≠0->t.g s=s):cI W0 t:=
 dZ (r9:=.nil) hn hkm hx (by rw[hrs];rfl) trivial trivial (Nat.zero_le _) (by simp only[Ws.b];omega) hok (fun s hs=>by rw[hg s hs];rfl) h0
theorem Af:∀w:Ws,w.ws=w.as.map (·.2)
 |.nil=>rfl
 |.cons g w r=>by simp only[Ws.ws,Ws.as,List.map_cons,Af r]
theorem Ag:∀w:Ws,w.ws=w.rs.map (·.2.2)
 |.nil=>rfl
 |.cons g w r=>by simp only[Ws.ws,Ws.rs,List.map_cons,Ag r]
theorem nq{W0:World}:∀w:Ws,w.allw (bL W0)->w.allw (mg W0)
 |.nil,_=>trivial
 |.cons g w r,h=>⟨h.1.1,nq r h.2⟩
theorem xj(o:Nat){w:Ws}(hok:w.ok)(s:PS):(w.g o s).n<=s.n+w.b/\s.n<=(w.g o s).n:=⟨Ws.len o w hok s,Ws.mono o w s⟩
theorem iP{s:ab}{l:List Nd}(h:ax s=.ok l):Sm 100000 (.mk 4 [] false [] [] [] l):=by
 obtain⟨h1,h2⟩:=tH (dv h) h
 exact .mk 4 [] false [] [] [] l (Nat.zero_le _) (fun x hx=>by cases hx) (Nat.zero_le _) (fun x hx=>by cases hx) (Nat.zero_le _) (fun x hx=>by cases hx) (by omega) fun n hn=>(h2 n hn).mono (by omega)
set_option maxHeartbeats 4000000
theorem bi{N:Nat}{n:Nd}(h:Sm N n):n.kids.length<=N/\∀y∈n.kids,Sm N y:=by
 cases h with
 |mk k n g a w r l h1 h2 h3 h4 h5 h6 h7 h8=>exact⟨h7,h8⟩
theorem jE{N:Nat}{n:Nd}(h:Sm N n):n.ws.length<=N/\∀y∈n.ws,y.length<=N:=by
 cases h with
 |mk k n g a w r l h1 h2 h3 h4 h5 h6 h7 h8=>exact⟨h3,h4⟩
theorem eI{N:Nat}{n:Nd}{r:Ws}(h:Sm N n)(hr:n.rs=r.rs):r.rs.length<=N/\∀y∈r.ws,y.length<=N:=by
 rw[Ag,<- hr]
 cases h with
 |mk k n g a w r l h1 h2 h3 h4 h5 h6 h7 h8=>exact⟨h5,fun y hy=>by obtain⟨x,hx,rfl⟩:=List.mem_map.1 hy;exact h6 x hx⟩
theorem Ah{N:Nat}{n:Nd}{a:Ws}(h:Sm N n)(hr:n.asg=a.as):a.as.length<=N/\∀y∈a.ws,y.length<=N:=by
 rw[Af,<- hr]
 cases h with
 |mk k n g a w r l h1 h2 h3 h4 h5 h6 h7 h8=>exact⟨h1,fun y hy=>by obtain⟨x,hx,rfl⟩:=List.mem_map.1 hy;exact h2 x hx⟩
mutual
theorem Wd.mka{W0:World}(hT:TabP W0):∀w:Wd,w.ok->w.tg->w.all (cI W0)
 |.nil,_,_=>trivial
 |.lit p r,h,g=>by
  simp only[Wd.ok,Wd.tg,Wd.all]at h g |-
  exact Wd.mka hT r h.2 g
 |.sub p t r,h,g=>by
  simp only[Wd.ok,Wd.tg,Wd.all]at h g |-
  obtain⟨_,⟨l,h1,h2,_⟩,h3,h4⟩:=h;exact⟨Tr.mkq hT t h3 g.1 (by rw[h2];exact iP h1),Wd.mka hT r h4 g.2⟩
 |.bad p f r,h,g=>by
  simp only[Wd.ok,Wd.tg,Wd.all]at h g |-
  exact Wd.mka hT r h.2.2 g
theorem Ws.mka{W0:World}(hT:TabP W0):∀w:Ws,w.ok->w.tg->(∀y∈w.ws,y.length<=100000)->w.allw (bL W0)
 |.nil,_,_,_=>trivial
 |.cons g w r,h,k,hs=>by
  simp only[Ws.ok,Ws.tg,Ws.allw,Ws.ws,List.mem_cons,forall_eq_or_imp]at h k hs |-
  exact⟨⟨⟨sm lu hT w h.1 (Wd.mka hT w h.1 k.1) hs.1,fun s=>⟨Wd.len w h.1 s,Wd.mono w s⟩⟩,h.1,hs.1⟩,Ws.mka hT r h.2 k.2 hs.2⟩
theorem Tr.mkq{W0:World}(hT:TabP W0):∀t:Tr,t.ok->t.tg->Sm 100000 t.nd->cI W0 t
 |.simple a w r,h,g,hs=>by
  have h':=h;simp only[Tr.ok,Tr.tg]at h g;obtain⟨a1,a2⟩:=Ah hs (a:=a) (by simp only[Tr.nd];rfl);obtain⟨r1,r2⟩:=eI hs (r:=r) (by simp only[Tr.nd];rfl);obtain⟨w1,w2⟩:=jE hs;have hA:=Ws.mka hT a h.1 g.1.1 a2;have hR:=Ws.mka hT r h.2.2 g.2.2.1 r2;have w2':∀y∈w.ws,y.length<=100000:=by simp only[Tr.nd]at w2;exact w2
  have w1':w.ws.length<=100000:=by simp only[Tr.nd]at w1;exact w1
  have hW:=Ws.mka hT w h.2.1 g.2.1.1 w2';have hco:(Tr.simple a w r).nd.co=8+(a.b+w.b+r.b):=by simp only[Tr.nd,cO,Bf,tZ,gt,bq];omega
  have hkm:(Value.int .i64 ((Tr.simple a w r).nd.kind:Int),Value.func (.func 58) #[] #[])∈pJ:=by simp[Tr.nd,Nd.kind]
  cases hw:w.nil? with
  |true=>
   have hwn:w=.nil:=by cases w with|nil=>rfl|cons g x r=>simp[Ws.nil?]at hw
   exact dZ mi hkm (rd hA g.1.2 hR hwn (fun s=>if a.plain&&r.plain then(a.g 8 s).op 5 0 else a.g 8 s) (fun s=>rfl) a1 r1) (r9:=r) (by simp only[Tr.nd];rfl) hR g.2.2.2 r1 (by rw[hco];omega) h' (fun s hs=>by simp only[Tr.g,hs,if_true,hw];cases r.nil? <;>simp) (fun s hs=>by simp only[Tr.g,if_neg hs])
  |false=>
   exact dZ mi hkm (rc hA g.1.2 hR hw (pI w (nq w hW) g.2.1.2 w1') (xj 7 h.2.1) a1 r1) (r9:=r) (by simp only[Tr.nd];rfl) hR g.2.2.2 r1 (by rw[hco];omega) h' (fun s hs=>by simp only[Tr.g,hs,if_true,hw];cases r.nil? <;>simp) (fun s hs=>by simp only[Tr.g,if_neg hs])
 |.pipe g l,h,k,hs=>by
  have h':=h;simp only[Tr.ok,Tr.tg]at h k;obtain⟨s1,s2⟩:=bi hs;simp only[Tr.nd,Nd.kids]at s1 s2;have hl:=Ts.mkq hT l h.1 k s2;have hco:∀g,(Tr.pipe g l).nd.co=8+Nd.cos l.nds:=fun g=>by simp only[Tr.nd,dD]
  cases g with
  |true=>exact e8 sv (by simp[Tr.nd,Nd.kind]) (pN hl s1) (by simp only[Tr.nd];rfl) (by rw[hco];omega) h' (fun s hs=>by simp only[Tr.g,hs,if_true]) (fun s hs=>by simp only[Tr.g,if_neg hs])
  |false=>exact e8 sv (by simp[Tr.nd,Nd.kind]) (nn hl s1) (by simp only[Tr.nd];rfl) (by rw[hco];omega) h' (fun s hs=>by simp only[Tr.g,hs,if_true,Bool.false_eq_true,if_false]) (fun s hs=>by simp only[Tr.g,if_neg hs])
 |.ao o x y,h,k,hs=>by
  have h':=h;simp only[Tr.ok,Tr.tg]at h k;obtain⟨s1,s2⟩:=bi hs;simp only[Tr.nd,Nd.kids,List.mem_cons,forall_eq_or_imp]at s1 s2;have hx:=Tr.mkq hT x h.1 k.1 s2.1;have hy:=Tr.mkq hT y h.2 k.2 s2.2.1;have hco:∀o,(Tr.ao o x y).nd.co=8+x.nd.co+y.nd.co:=fun o=>by simp only[Tr.nd,lh]
  cases o with
  |true=>exact e8 xg (by simp[Tr.nd,Nd.kind]) (q' (fF hx.1 hx.2) hy.1 hx.2 hy.2) (by simp only[Tr.nd];rfl) (by rw[hco];omega) h' (fun s hs=>by simp only[Tr.g,hs,if_true];rfl) (fun s hs=>by simp only[Tr.g,if_neg hs])
  |false=>exact e8 xg (by simp[Tr.nd,Nd.kind]) (pH (fF hx.1 hx.2) hy.1 hx.2 hy.2) (by simp only[Tr.nd];rfl) (by rw[hco];omega) h' (fun s hs=>by simp only[Tr.g,hs,if_true,Bool.false_eq_true,if_false];rfl) (fun s hs=>by simp only[Tr.g,if_neg hs])
 |.lst l,h,k,hs=>by
  have h':=h;simp only[Tr.ok,Tr.tg]at h k;obtain⟨s1,s2⟩:=bi hs;simp only[Tr.nd,Nd.kids]at s1 s2;exact e8 zz (by simp[Tr.nd,Nd.kind]) (zy (Ts.mkq hT l h k s2) s1) (by simp only[Tr.nd];rfl) (by simp only[Tr.nd,dD];omega) h' (fun s hs=>by simp only[Tr.g,hs,if_true]) (fun s hs=>by simp only[Tr.g,if_neg hs])
 |.back x,h,k,hs=>by
  have h':=h;simp only[Tr.ok,Tr.tg]at h k;obtain⟨s1,s2⟩:=bi hs;simp only[Tr.nd,Nd.kids,List.mem_cons,forall_eq_or_imp]at s1 s2;have hx:=Tr.mkq hT x h k s2.1;exact e8 zH (by simp[Tr.nd,Nd.kind]) (zn hx.1 hx.2) (by simp only[Tr.nd];rfl) (by simp only[Tr.nd,iq];omega) h' (fun s hs=>by simp only[Tr.g,hs,if_true]) (fun s hs=>by simp only[Tr.g,if_neg hs])
 |.sub x r,h,k,hs=>by
  have h':=h;simp only[Tr.ok,Tr.tg]at h k;obtain⟨s1,s2⟩:=bi hs;obtain⟨r1,r2⟩:=eI hs (r:=r) (by simp only[Tr.nd];rfl);simp only[Tr.nd,Nd.kids,List.mem_cons,forall_eq_or_imp]at s1 s2;have hx:=Tr.mkq hT x h.1 k.1 s2.1;exact dZ Bo (by simp[Tr.nd,Nd.kind]) (Bj (r:=r) hx.1 hx.2) (r9:=r) (by simp only[Tr.nd];rfl) (Ws.mka hT r h.2 k.2.1 r2) k.2.2 r1 (by simp only[Tr.nd,cO,gt,dg.1,dg.2.1,aN,bq];omega) h' (fun s hs=>by simp only[Tr.g,hs,if_true];cases r.nil? <;>first|rfl|simp) (fun s hs=>by simp only[Tr.g,if_neg hs])
 |.grp x r,h,k,hs=>by
  have h':=h;simp only[Tr.ok,Tr.tg]at h k;obtain⟨s1,s2⟩:=bi hs;obtain⟨r1,r2⟩:=eI hs (r:=r) (by simp only[Tr.nd];rfl);simp only[Tr.nd,Nd.kids,List.mem_cons,forall_eq_or_imp]at s1 s2;have hx:=Tr.mkq hT x h.1 k.1 s2.1;exact dZ xh (by simp[Tr.nd,Nd.kind]) (wZ (r:=r) hx.1) (r9:=r) (by simp only[Tr.nd];rfl) (Ws.mka hT r h.2 k.2.1 r2) k.2.2 r1 (by simp only[Tr.nd,cO,gt,dg.1,dg.2.1,aN,bq];omega) h' (fun s hs=>by simp only[Tr.g,hs,if_true];cases r.nil? <;>first|rfl|simp) (fun s hs=>by simp only[Tr.g,if_neg hs])
 |.iff c t r,h,k,hs=>by
  have h':=h;simp only[Tr.ok,Tr.tg]at h k;obtain⟨s1,s2⟩:=bi hs;obtain⟨r1,r2⟩:=eI hs (r:=r) (by simp only[Tr.nd];rfl);simp only[Tr.nd,Nd.kids,List.mem_cons,forall_eq_or_imp]at s1 s2;have hc:=Tr.mkq hT c h.1 k.1.1 s2.1;have ht:=Tr.mkq hT t h.2.1 k.1.2 s2.2.1;exact dZ mj (by simp[Tr.nd,Nd.kind]) (Bk (r:=r) (fF hc.1 hc.2) ht.1 hc.2 ht.2) (r9:=r) (by simp only[Tr.nd];rfl) (Ws.mka hT r h.2.2 k.2.1 r2) k.2.2 r1 (by simp only[Tr.nd,cO,gt,dg.1,dg.2.1,aN,bq];omega) h' (fun s hs=>by simp only[Tr.g,hs,if_true];cases r.nil? <;>first|rfl|simp) (fun s hs=>by simp only[Tr.g,if_neg hs])
 |.ife c t e r,h,k,hs=>by
  have h':=h;simp only[Tr.ok,Tr.tg]at h k;obtain⟨s1,s2⟩:=bi hs;obtain⟨r1,r2⟩:=eI hs (r:=r) (by simp only[Tr.nd];rfl);simp only[Tr.nd,Nd.kids,List.mem_cons,forall_eq_or_imp]at s1 s2;have hc:=Tr.mkq hT c h.1 k.1.1 s2.1;have ht:=Tr.mkq hT t h.2.1 k.1.2.1 s2.2.1;have he:=Tr.mkq hT e h.2.2.1 k.1.2.2 s2.2.2.1;exact dZ mj (by simp[Tr.nd,Nd.kind]) (Bn (r:=r) (fF hc.1 hc.2) ht.1 he.1 hc.2 ht.2 he.2) (r9:=r) (by simp only[Tr.nd];rfl) (Ws.mka hT r h.2.2.2 k.2.1 r2) k.2.2 r1 (by simp only[Tr.nd,cO,gt,dg.1,dg.2.1,aN,bq];omega) h' (fun s hs=>by simp only[Tr.g,hs,if_true];cases r.nil? <;>first|rfl|simp) (fun s hs=>by simp only[Tr.g,if_neg hs])
 |.loop u c y r,h,k,hs=>by
  have h':=h;simp only[Tr.ok,Tr.tg]at h k;obtain⟨s1,s2⟩:=bi hs;obtain⟨r1,r2⟩:=eI hs (r:=r) (by simp only[Tr.nd];rfl);simp only[Tr.nd,Nd.kids,List.mem_cons,forall_eq_or_imp]at s1 s2;have hc:=Tr.mkq hT c h.1.1 k.1.1 s2.1;have ht:=Tr.mkq hT y h.2.1 k.1.2 s2.2.1
  cases u with
  |true=>exact dZ sx (by simp[Tr.nd,Nd.kind]) (pM (r:=r) (fF hc.1 hc.2) ht.1 hc.2 ht.2) (r9:=r) (by simp only[Tr.nd];rfl) (Ws.mka hT r h.2.2 k.2.1 r2) k.2.2 r1 (by simp only[Tr.nd,cO,gt,dg.1,dg.2.1,aN,bq];omega) h' (fun s hs=>by simp only[Tr.g,hs,if_true];cases r.nil? <;>first|rfl|simp) (fun s hs=>by simp only[Tr.g,if_neg hs])
  |false=>exact dZ sx (by simp[Tr.nd,Nd.kind]) (nj (r:=r) (fF hc.1 hc.2) ht.1 hc.2 ht.2) (r9:=r) (by simp only[Tr.nd];rfl) (Ws.mka hT r h.2.2 k.2.1 r2) k.2.2 r1 (by simp only[Tr.nd,cO,gt,dg.1,dg.2.1,aN,bq];omega) h' (fun s hs=>by simp only[Tr.g,hs,if_true];cases r.nil? <;>first|rfl|simp) (fun s hs=>by simp only[Tr.g,if_neg hs])
 |.for_ m w y r,h,k,hs=>by
  have h':=h;simp only[Tr.ok,Tr.tg]at h k;obtain⟨s1,s2⟩:=bi hs;obtain⟨w1,w2⟩:=jE hs;obtain⟨r1,r2⟩:=eI hs (r:=r) (by simp only[Tr.nd];rfl);simp only[Tr.nd,Nd.kids,Nd.ws,List.mem_cons,forall_eq_or_imp]at s1 s2 w1 w2;have hy:=Tr.mkq hT y h.2.1 k.1.2 s2.1;exact dZ zI (by simp[Tr.nd,Nd.kind]) (zq (r:=r) (pI w (nq w (Ws.mka hT w h.1 k.1.1.1 w2)) k.1.1.2 w1) hy.1 (xj 7 h.1) hy.2) (r9:=r) (by simp only[Tr.nd];rfl) (Ws.mka hT r h.2.2 k.2.1 r2) k.2.2 r1 (by simp only[Tr.nd,cO,gt,tZ,dg.1,aN,bq];omega) h' (fun s hs=>by simp only[Tr.g,hs,if_true];cases r.nil? <;>first|rfl|simp) (fun s hs=>by simp only[Tr.g,if_neg hs])
 |.case_ w l r,h,k,hs=>by
  have h':=h;simp only[Tr.ok,Tr.tg]at h k;obtain⟨s1,s2⟩:=bi hs;obtain⟨w1,w2⟩:=jE hs;obtain⟨r1,r2⟩:=eI hs (r:=r) (by simp only[Tr.nd];rfl);simp only[Tr.nd,Nd.kids,Nd.ws,List.mem_cons,forall_eq_or_imp]at s1 s2 w1 w2;have hw:bL W0 w:=⟨⟨sm lu hT w h.1 (Wd.mka hT w h.1 k.1.1) w2.1,fun s=>⟨Wd.len w h.1 s,Wd.mono w s⟩⟩,h.1,w2.1⟩;exact dZ xi (by simp[Tr.nd,Nd.kind]) (xf (r9:=r) hw (Am.mkq hT l h.2.1 k.1.2 s2) s1) (r9:=r) (by simp only[Tr.nd];rfl) (Ws.mka hT r h.2.2 k.2.1 r2) k.2.2 r1 (by simp only[Tr.nd,cO,gt,fC,dg.1,dg.2.1];omega) h' (fun s hs=>by simp only[Tr.g,hs,if_true];cases r.nil? <;>first|rfl|simp) (fun s hs=>by simp only[Tr.g,if_neg hs])
 |.fn m y,h,k,hs=>by
  have h':=h;simp only[Tr.ok,Tr.tg]at h k;obtain⟨s1,s2⟩:=bi hs;simp only[Tr.nd,Nd.kids,List.mem_cons,forall_eq_or_imp]at s1 s2;have hy:=Tr.mkq hT y h k s2.1;exact e8 pO (by simp[Tr.nd,Nd.kind]) (B4 hy.1 hy.2) (by simp only[Tr.nd];rfl) (by simp only[Tr.nd,iq];omega) h' (fun s hs=>by simp only[Tr.g,hs,if_true];rw[show(s.add {op:=22,s:=m}).n=s.n+1 from bt s _];rfl) (fun s hs=>by simp only[Tr.g,if_neg hs])
theorem Ts.mkq{W0:World}(hT:TabP W0):∀l:Ts,l.ok->l.tg->(∀n∈l.nds,Sm 100000 n)->l.alls (cI W0)
 |.nil,_,_,_=>trivial
 |.cons x r,h,k,hs=>by
  simp only[Ts.ok,Ts.tg,Ts.alls,Ts.nds,List.mem_cons,forall_eq_or_imp]at h k hs |-
  exact⟨Tr.mkq hT x h.1 k.1 hs.1,Ts.mkq hT r h.2 k.2 hs.2⟩
theorem Am.mkq{W0:World}(hT:TabP W0):∀l:Am,l.ok->l.tg->(∀n∈l.nds,Sm 100000 n)->l.alla (bL W0) (cI W0)
 |.nil,_,_,_=>trivial
 |.cons w b r,h,k,hs=>by
  simp only[Am.ok,Am.tg,Am.alla,Am.nds,List.mem_cons,forall_eq_or_imp]at h k hs |-
  obtain⟨w1,w2⟩:=jE hs.1;obtain⟨s1,s2⟩:=bi hs.1;simp only[Nd.kids,Nd.ws,List.mem_cons,forall_eq_or_imp]at s1 s2 w1 w2;exact⟨Ws.mka hT w h.1 k.1.1 w2,Tr.mkq hT b h.2.1 k.2.1 s2.1,Am.mkq hT r h.2.2 k.2.2 hs.2⟩
end
end Go.Proofs.YtgboffbbpmileaaGreatDoor
