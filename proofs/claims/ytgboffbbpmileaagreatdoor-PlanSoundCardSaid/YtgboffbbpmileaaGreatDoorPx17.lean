/- Lemmas and walks for the law VLawPSound (part 17). -/
import Derived.Test.YtgboffbbpmileaaGreatDoorPx16
import Derived.Test.YtgboffbbpmileaaGreatDoorProg
import Derived.WalkKit
import Derived.Handy
import Derived.Deep.Light
import Derived.WalkSmall
import Derived.StillTailTactics
import Derived.Lib.Hide
import Derived.Deep.LoopGhost
set_option maxRecDepth 20000
set_option maxHeartbeats 4000000
set_option linter.unusedVariables false
set_option linter.unusedSimpArgs false
namespace Go.Proofs.YtgboffbbpmileaaGreatDoor
open Go Go.RowKit
theorem pB(C:List Ins)(hn:i8 0 C)(hb:bok (itm C) C)(hlen:C.length<=900000)(v:Value)(w:World)(hv:PlanRow [] w v C):Calls Tryz.prog 32 #[.agg #[v]] w fun e w'=>e=.returned (.bool true)/\Below w.heap.size w w':=by
 obtain⟨av,cv,rfl⟩:=hv.len
 obtain⟨nv,hnv⟩:∃m,C.length=m:=⟨_,rfl⟩
 have HNV:=yh hnv
 rw[hnv]at hv hlen |-
 have HV:=yh hv
 have HN:=yh hn
 obtain⟨tz,htz⟩:∃t,itm C=t:=⟨_,rfl⟩
 rw[htz]at hb
 have HB:=yh hb
 have HTZ:=yh htz
 have htl:tz<=900000:=by rw[<- htz];exact Nat.le_trans (List.countP_le_length ..) (by omega)
 clear hv hn hb hnv htz
 have hL:Kn [] w w []:=Kn.refl [] w;have hF:=hL.fx;go_enter Tryz.func32,Tryz.ntmps32
 go_wp2
 go_loopw [3,11] (fun c i wr=>∃k:Nat,k<=nv/\i=.int .i64 k/\c=.int .i64 ((itm (C.take k):Nat):Int)/\Kn [] w wr [(w.heap.size,.cells #[.slice av nv cv] 25 (0,0))]) (fun _ i _=>nv-(intOf i).toNat)
 case atStart=>exact⟨0,Nat.zero_le _,rfl,rfl,aE⟩
 case round=>
  obtain⟨k,hk,rfl,rfl,hK⟩:=hrel;clear hL hF;have hL:=hK;clear hK;have hF:=hL.fx;obtain⟨tk,htk⟩:∃t,itm (C.take k)=t:=⟨_,rfl⟩;have HTK:=yh htk;have htk9:tk<=900000:=by rw[<- htk];exact Nat.le_trans (i6 C k) (Nat.le_trans (List.countP_le_length ..) (by rw[HNV.out];exact hlen))
  rw[htk];clear htk;by_cases hlt:k<nv
  ·obtain⟨x,hx⟩:∃x,C[k]? =some x:=⟨_,List.getElem?_eq_getElem (by rw[HNV.out];exact hlt)⟩
   have HXT:=yh (gt hx);have HXA:=yh (jm C 0 k x HN.out hx);obtain⟨gx,ox,vx,hga,gx,glx,cx0,cx1,cx2,cx3,cx4,hpx⟩:=HV.out.at hx;subst hga;clear gx;obtain⟨ux,hu⟩:∃u:ByteArray,bs x.s=.string u:=⟨_,rfl⟩;rw[hu]at cx3;clear hu;obtain⟨pax,pnx,pcx,hpv⟩:∃a n c,vx=.slice a n c:=by
    obtain⟨a,c,h,_⟩:=id hpx;exact⟨a,_,c,h⟩
   subst hpv;clear hx hpx;have HP9:Hid (wrap64 ((tk:Int)+1)=((tk+1:Nat):Int)):=yh (by rw[IntWalk.wrap64_in _ (by omega)];omega);by_cases h0:x.op=0
   ·have h1:((x.op:Int)==0)=true:=by rw[h0];rfl
    have hi:aD x=true:=by simp[aD,h0]
    have hxa:=HXA.out hi;rw[HTK.out,Nat.zero_add]at hxa;rw[hxa]at cx1;clear hxa;go_wp2;exact⟨⟨k+1,by omega,by go_num,by rw[HXT.out,HTK.out,if_pos hi];rfl,aE.sub (by repeat' (first|(with_reducible exact List.Sublist.refl _)|apply List.Sublist.cons))⟩,by simp[intOf];omega⟩
   ·have h1:((x.op:Int)==0)=false:=by rw[beq_eq_false_iff_ne];omega
    go_wp2;exact⟨⟨k+1,by omega,by go_num,by rw[HXT.out,HTK.out,if_neg (by simpa[aD]using h0)];rfl,aE.sub (by repeat' (first|(with_reducible exact List.Sublist.refl _)|apply List.Sublist.cons))⟩,by simp[intOf];omega⟩
  ·have hkn:k=nv:=by omega
   have HIT:Hid (tz=tk):=yh (by rw[<- HTK.out,hkn,<- HNV.out,List.take_length,HTZ.out]);have htt:=HIT.out;subst htt;clear HTK hk HIT;go_wp2;go_loopw [28] (fun i wr=>∃k:Nat,k<=nv/\i=.int .i64 k/\Kn [] w wr [(w.heap.size,.cells #[.slice av nv cv] 25 (0,0))]) (fun i _=>nv-(intOf i).toNat)
   case atStart=>exact⟨0,Nat.zero_le _,rfl,hL⟩
   case round=>
    clear hkn hlt;obtain⟨k,hk,rfl,hK⟩:=hrel;clear hL hF;have hL:=hK;clear hK;have hF:=hL.fx;by_cases hlt:k<nv
    ·obtain⟨x,hx⟩:∃x,C[k]? =some x:=⟨_,List.getElem?_eq_getElem (by rw[HNV.out];exact hlt)⟩
     have HXB:=yh (HB.out x (List.mem_of_getElem? hx));obtain⟨gx,ox,vx,hga,gx,glx,cx0,cx1,cx2,cx3,cx4,hpx⟩:=HV.out.at hx;subst hga;clear gx;obtain⟨ux,hu⟩:∃u:ByteArray,bs x.s=.string u:=⟨_,rfl⟩;rw[hu]at cx3;clear hu;obtain⟨pax,pnx,pcx,hpv⟩:∃a n c,vx=.slice a n c:=by
      obtain⟨a,c,h,_⟩:=id hpx;exact⟨a,_,c,h⟩
     subst hpv;clear hx hpx;by_cases h0:x.op=0
     ·have h1:((x.op:Int)==0)=true:=by rw[h0];rfl
      by_cases hb0:x.b=0
      ·have h2:(x.b != 0)=false:=by rw[hb0];rfl
       clear hb0;go_wp2;exact⟨⟨k+1,by omega,by go_num,aE.sub (by repeat' (first|(with_reducible exact List.Sublist.refl _)|apply List.Sublist.cons))⟩,by simp[intOf];omega⟩
      ·have h2:(x.b != 0)=true:=by rw[bne_iff_ne];exact hb0
       obtain⟨h3,h4⟩:=(HXB.out (by simp[aD,h0])).resolve_left hb0;have h5:decide (x.b<=x.a)=false:=decide_eq_false (by omega);have h6:decide ((tz:Int)<x.b)=false:=decide_eq_false (by omega);clear hb0 h3 h4;go_wp2;exact⟨⟨k+1,by omega,by go_num,aE.sub (by repeat' (first|(with_reducible exact List.Sublist.refl _)|apply List.Sublist.cons))⟩,by simp[intOf];omega⟩
     ·have h1:((x.op:Int)==0)=false:=by rw[beq_eq_false_iff_ne];omega
      go_wp2;exact⟨⟨k+1,by omega,by go_num,aE.sub (by repeat' (first|(with_reducible exact List.Sublist.refl _)|apply List.Sublist.cons))⟩,by simp[intOf];omega⟩
    ·go_wp2
     refine zF ?_;intro W hL hF;refine bodyPost_ret (by simp[results,Tryz.results32,go_sem, *];try rfl) rfl ?_;exact⟨rfl,hL.below0⟩
theorem pC:∀(n:Nat) (l:List Nat),l.Nodup->(∀x∈l,x<n)->l.length<=n
 |0,l,_,h=>by
  cases l with
  |nil=>exact Nat.le_refl _
  |cons x r=>exact absurd (h x m0) (Nat.not_lt_zero _)
 |n+1,l,nd,h=>by
  by_cases hn:n∈l
  ·have h1:=pC n (l.erase n) (nd.erase n) (fun x hx=>by
    have h2:=(nd.mem_erase_iff).1 hx;have:=h x h2.2;omega)
   rw[List.length_erase_of_mem hn]at h1;omega
  ·have h1:=pC n l nd (fun x hx=>by
    have:=h x hx;have:x≠n:=fun e=>hn (e▸hx)
    omega)
   omega
def SI(ls:List Stt)(es:Array MapEntry)(v:Value)(tn:Nat)(LT:List (Nat×Obj))(M:List (Nat×Stt))(td:List Nat):Prop:=
 MapV Tryz.prog 3 es (M.map i_)/\RowL 1 3 LT v tn (td.map fun(j:Nat)=>.int .i64 (j:Int))/\td.length=tn/\(M.map (·.1)).Nodup/\(∀p∈M,ls[p.1]? =some p.2)/\∀j∈td,∃s,(j,s)∈M
theorem SI.len{ls:List Stt}{es:Array MapEntry}{v:Value}{tn:Nat}{LT:List (Nat×Obj)}{M:List (Nat×Stt)}{td:List Nat}(h:SI ls es v tn LT M td):M.length<=ls.length:=by
 have:=pC ls.length (M.map (·.1)) h.2.2.2.1 (fun x hx=>by
  obtain⟨p,hp,rfl⟩:=List.mem_map.1 hx;exact(List.getElem?_eq_some_iff.1 (h.2.2.2.2.1 p hp)).1)
 simpa using this
theorem zl(M:List (Nat×Stt))(k:Nat):(∃s,(k,s)∈M)\/∀p∈M,p.1≠k:=by
 by_cases h:∃s,(k,s)∈M
 ·exact .inl h
 ·exact .inr fun p hp e=>h ⟨p.2,by rw[<- e];exact hp⟩
theorem f_(ls:List Stt)(X:List Nat)(w0:World)(bt bm mb bp:Nat)(ta:Option Addr)(tn tc:Nat)(es:Array MapEntry)(ck:Nat)(ca:Option Addr)(n cc:Nat)(LT:List (Nat×Obj))(M:List (Nat×Stt))(td:List Nat)(k:Nat)(kz:Int)(hkz:kz=k)(s:Stt)(u:ByteArray)(q:Int)(hu:⟨s.fr.toArray⟩=u)(hq:s.q=q)(hk:ls[k]? =some s)(hls:ls.length=n)(hn:n<=400000)(hM:tn<=900000)(hSI:SI ls es (.slice ta tn tc) tn LT M td)(w:World)(hL0:Kn X w0 w ((bt,.cells #[.slice ta tn tc] 51 (0,0))::(bm,.cells #[.map (some mb)] 83 (0,0))::(mb,.map es ck)::(bp,.cells #[.slice ca n cc] 25 (0,0))::LT)):
  Calls Tryz.prog 31 #[.int .i64 kz,.agg #[.string u,.int .i64 q],.pointer (some ⟨bp,0,none⟩),.pointer (some ⟨bm,0,none⟩),.pointer (some ⟨bt,0,none⟩)] w fun e w'=>e=.returned (.bool true)/\∃es2 ck2 ta2 tn2 tc2 LT2 M2 td2,Kn X w0 w' ((bt,.cells #[.slice ta2 tn2 tc2] 51 (0,0))::(bm,.cells #[.map (some mb)] 83 (0,0))::(mb,.map es2 ck2)::(bp,.cells #[.slice ca n cc] 25 (0,0))::LT2)/\Hid (SI ls es2 (.slice ta2 tn2 tc2) tn2 LT2 M2 td2)/\Hid (2*(n-M2.length)+tn2<=2*(n-M.length)+tn):=by
 subst hkz
 have hkn:=(List.getElem?_eq_some_iff.1 hk).1
 have hlm:=hSI.len
 have h:=hSI
 obtain⟨h1,h2,h3,h4,h5,h6⟩:=h
 rcases zl M k with⟨s2,hin⟩|hin
 ·have h7:=h5 _ hin
  simp only at h7;rw[hk]at h7;obtain rfl:=Option.some.inj h7;refine(uH X w0 bt bm mb bp ta tn tc es ck ca n cc LT M td k s u q hu hq (by omega) (by omega) h1 (by omega) (by omega) h2 w hL0 hin).mono ?_;rintro e w' ⟨rfl,hb⟩;exact⟨rfl,_,_,_,_,_,_,M,td,hb,yh hSI,yh (Nat.le_refl _)⟩
 ·refine(rR X w0 bt bm mb bp ta tn tc es ck ca n cc LT M td k s u q hu hq (by omega) (by omega) h1 (by omega) (by omega) h2 w hL0 hin).mono ?_
  rintro e w' ⟨rfl,es2,ck2,ta2,tc2,LT2,hb,hm,hr⟩;have hs:SI ls es2 (.slice ta2 (tn+1) tc2) (tn+1) LT2 (M++[(k,s)]) (td++[k]):=by
   refine⟨hm.out,hr.out,by rw[List.length_append,h3];rfl,?_,fun p hp=>?_,fun j hj=>?_⟩
   ·rw[List.map_append,List.nodup_append]
    refine⟨h4,by simp,fun a ha b hb=>?_⟩;obtain⟨p,hp,rfl⟩:=List.mem_map.1 ha;rw[List.map_cons,List.map_nil,List.mem_singleton]at hb;subst hb;exact hin p hp
   ·rcases List.mem_append.1 hp with hp|hp
    ·exact h5 p hp
    ·rw[List.mem_singleton.1 hp];exact hk
   ·rcases List.mem_append.1 hj with hj|hj
    ·obtain⟨s2,h⟩:=h6 j hj
     exact⟨s2,List.mem_append_left _ h⟩
    ·rw[List.mem_singleton.1 hj];exact⟨s,List.mem_append_right _ m0⟩
  have hl2:=hs.len;rw[List.length_append,List.length_singleton]at hl2;exact⟨rfl,_,_,_,_,_,_,M++[(k,s)],td++[k],hb,yh hs,yh (by rw[List.length_append,List.length_singleton];omega)⟩
theorem SI.pop{ls:List Stt}{es:Array MapEntry}{g tn cap:Nat}{cur:Array Value}{M:List (Nat×Stt)}{td:List Nat}{a:Nat}(h:SI ls es (.slice (some ⟨g,0,none⟩) (tn+1) cap) (tn+1) [(g,.cells cur 3 (0,0))] M (td++[a])):SI ls es (.slice (some ⟨g,0,none⟩) tn cap) tn [(g,.cells cur 3 (0,0))] M td:=by
 obtain⟨h1,h2,h3,h4,h5,h6⟩:=h
 refine⟨h1,?_,by rw[List.length_append,List.length_singleton]at h3;omega,h4,h5,fun j hj=>h6 j (List.mem_append_left _ hj)⟩
 rcases h2 with⟨h,_⟩|⟨g2,cap2,cur2,h7,h8,hr⟩
 ·cases h
 ·injection h7 with h7 _
  injection h7 with h7 h9
  injection h9 with h9 _ _
  subst h7 h9;injection h8 with _ _ h8
  subst h8;refine .inr ⟨g,cap,cur,rfl,rfl,⟨hr.size,by have:=hr.le;omega,hr.capm,?_,?_⟩⟩
  ·have h8:=hr.take
   rw[List.map_append]at h8;have h10:(td.map fun(j:Nat)=>Value.int .i64 (j:Int)).length=tn:=by rw[List.length_map];rw[List.length_append,List.length_singleton]at h3;omega
   have h9:=congrArg (List.take (tn*1)) h8;rw[List.take_take,Nat.min_eq_left (by omega),Nat.mul_one,<- h10,List.take_left,h10]at h9;rw[Nat.mul_one];exact h9
  ·rw[List.length_map];rw[List.length_append,List.length_singleton]at h3;omega
theorem sd(t:Stt)(x:Ins)(nx nm:Option Stt)(hs:Stp t x nx nm\/(x.op=26/\t=Stt.mk [] 0/\nx=none/\nm=none))(hr:Rm 320020 t 0)(hr2:∀u,nx=some u->Rm 320020 u 0)(u9:ByteArray)(pa:Option Addr)(pn pc:Nat)(w:World):
  Calls Tryz.prog 33 #[.agg #[.string ⟨t.fr.toArray⟩,.int .i64 t.q],.agg #[.int .i64 (x.op:Int),.int .i64 x.a,.int .i64 x.b,.string u9,.slice pa pn pc]] w fun e w'=>e=.returned (.tuple #[.agg #[.string ⟨(nx.getD t).fr.toArray⟩,.int .i64 (nx.getD t).q],.agg #[.string ⟨(nm.getD t).fr.toArray⟩,.int .i64 (nm.getD t).q],.bool nx.isSome,.bool nm.isSome,.bool true])/\Below w.heap.size w w':=by
 have hl:(⟨t.fr.toArray⟩:ByteArray).size<=900000:=by
  have:=hr.2.2;show t.fr.toArray.size<=_
  simp only[List.size_toArray];omega
 rcases hs with hs|⟨h,rfl,rfl,rfl⟩
 case inr=>rw[h];exact cW (.ret _ _ (.inl rfl)) _ u9 pa pn pc hl w
 cases hs<;>simp only[Option.getD_some,Option.getD_none,Option.isSome_some,Option.isSome_none]
 case plain h=>exact cW (.plain _ _ _ _ (by simp only[beq_eq_false_iff_ne];omega)) _ u9 pa pn pc hl w
 case jump h=>rw[h];exact cW (.jump ..) _ u9 pa pn pc hl w
 case cond h=>exact cW (.cond _ _ _ _ (by omega)) _ u9 pa pn pc hl w
 case exit h=>rw[h];exact cW (.leave ..) _ u9 pa pn pc hl w
 case ret h=>exact cW (.ret _ _ (by omega)) _ u9 pa pn pc hl w
 case push k h=>simp only[Stt.push,iC]at hl |-;exact cW (.push _ _ _ _ k (by rcases h with h|h|h<;>simp[h])) _ u9 pa pn pc hl w
 case pop k h=>simp only[Stt.push,iC]at hl |-;exact cW (.pop _ _ _ _ k (by rcases h with h|h|h<;>simp[h])) _ u9 pa pn pc hl w
 case top k h=>simp only[Stt.push,iC]at hl |-;exact cW (.top _ _ _ _ k _ (by rcases h with h|h<;>simp[h])) _ u9 pa pn pc hl w
 case mtch h=>simp only[Stt.push,iC]at hl |-;exact cW (.top _ _ _ _ 99 _ (by simp[h])) _ u9 pa pn pc hl w
 case for_ h=>simp only[Stt.push,iC]at hl |-;rw[h];exact cW (.for_ ..) _ u9 pa pn pc hl w
 case next h=>simp only[Stt.push,iC]at hl |-;rw[h];exact cW (.next ..) _ u9 pa pn pc hl w
 case up h=>
  rw[h.1];exact cW (.quiet _ _ _ _ (.inl h.2) (by rw[h.2]) (hr2 _ rfl).1 (by have:=(hr2 _ rfl).2.1;simp only at this |-;omega)) _ u9 pa pn pc hl w
 case dn h=>
  rw[h.1];exact cW (.quiet _ _ _ _ (.inr h.2) (by rw[h.2];omega) (hr2 _ rfl).1 (by have:=(hr2 _ rfl).2.1;omega)) _ u9 pa pn pc hl w
theorem xF(C:List Ins)(ls:List Stt)(hla:Lab 320020 C ls)(hnu:i8 0 C)(hbo:bok (itm C) C)(hlen:C.length<=320010)(hne:0<C.length)(v:Value)(w:World)(hv:PlanRow [] w v C):Calls Tryz.prog 15 #[.agg #[v]] w fun e w'=>e=.returned (.bool true)/\Below w.heap.size w w':=by
 obtain⟨av,cv,rfl⟩:=hv.len
 have HLA:=yh hla
 have HNC:=yh (fun W (hk:PlanRow [] W (.slice av C.length cv) C)=>pB C hnu hbo (by omega) _ W hk)
 have HOP:Hid (∀x∈C,x.op<27):=yh (fun x hx=>by
  obtain⟨k,hk,e⟩:=List.getElem_of_mem hx;have h1:C[k]? =some x:=by rw[List.getElem?_eq_getElem hk,e]
  obtain⟨t,ht⟩:∃t,ls[k]? =some t:=⟨_,List.getElem?_eq_getElem (by rw[hla.1];exact hk)⟩;rcases hla.2.2.2 k x t h1 ht with⟨h,_⟩|⟨_,_,h,_⟩
  ·omega
  ·have:=h.op;omega)
 obtain⟨nv,hnv⟩:∃m,C.length=m:=⟨_,rfl⟩
 have HNV:=yh hnv
 rw[hnv]at hv hlen hne HNC |-
 have HV:=yh hv
 have HLL:Hid (ls.length=nv):=yh (by rw[hla.1,hnv])
 have HL0:Hid (ls[0]? =some (Stt.mk [] 0)):=yh hla.2.1
 have hmm:=@run_makeMap Tryz.prog
 have hmf:=y_
 clear hv hla hnu hbo hnv
 have hL:Kn [] w w []:=Kn.refl [] w;have hF:=hL.fx;go_enter Tryz.func15,Tryz.ntmps15
 go_upto_region 4 with(fail)
 refine zE ?_;intro W hL hF
 have HSI:Hid (SI ls #[] (.slice none 0 0) 0 [] [] []):=yh ⟨MapV.nil,.inl ⟨rfl,rfl,rfl,rfl⟩,rfl,List.nodup_nil,fun p hp=>(by cases hp),fun j hj=>(by cases hj)⟩
 have HME:Hid (2*(nv-([]:List (Nat×Stt)).length)+0<=2*nv):=yh (by simp)
 go_upto_region 6 with(first|(go_at_call 32;refine aj ?_;clear hF hL;intro W hL;have hF:=hL.fx;(with_reducible refine(HNC.out _ (HV.out.kn (Y:=[]) hL (fun y hy=>absurd hy List.not_mem_nil))).mono ?_);rintro e W ⟨rfl,hb⟩;replace hL:=hL.below hb;clear hb hF;have hF:=hL.fx)|(go_at_call 31;refine aj ?_;clear hF hL;intro W hL;have hF:=hL.fx;have hS:=Kn.selfS (A:=[]) hL;(with_reducible refine(f_ ls _ _ _ _ _ _ _ _ _ _ _ _ _ _ _ _ _ 0 _ (by first|rfl|omega) (Stt.mk [] 0) ⟨#[]⟩ 0 rfl rfl HL0.out HLL.out (by omega) (by have:=HME.out;omega) HSI.out _ hS).mono ?_);rintro e W2 ⟨rfl,es,ck,ta,tn,tc,LT,M,td,hb,HSI2,HME2⟩;have hJ:=Kn.joinS (A:=[]) hL hb;have HME3:=yh (Nat.le_trans HME2.out HME.out);clear HSI HME hS hb hL HME2;have hL:=hJ;have HSI:=HSI2;have HME:=HME3;clear hJ HSI2 HME3;clear hF;simp only[List.cons_append,List.nil_append]at hL;have hF:=hL.fx))
 clear hmm hmf HL0 HNC
 go_wp2
 go_loopw [29] (fun i wr=>∃(k:Nat) (ta:Option Addr) (tn tc:Nat) (es:Array MapEntry) (ck:Nat) (LT:List (Nat×Obj)) (M:List (Nat×Stt)) (td:List Nat),i=.int .i64 k/\k<=nv/\Hid (2*(nv-M.length)+tn<=2*nv)/\Hid (SI ls es (.slice ta tn tc) tn LT M td)/\Kn [] w wr ((w.heap.size+1+1+1,.cells #[.slice ta tn tc] 51 (0,0))::(w.heap.size+1+1,.cells #[.map (some (w.heap.size+1))] 83 (0,0))::(w.heap.size+1,.map es ck)::(w.heap.size,.cells #[.slice av nv cv] 25 (0,0))::LT))
 (fun i _=>nv-(intOf i).toNat)
 case atStart=>exact⟨0,ta,tn,tc,es,ck,LT,M,td,rfl,Nat.zero_le _,HME,HSI,hL⟩
 case round=>
  clear HSI HME;obtain⟨k,ta,tn,tc,es,ck,LT,M,td,rfl,hk,HME,HSI,hK⟩:=hrel;clear hL hF;have hL:=hK;clear hK;have hF:=hL.fx;by_cases hlt:k<nv
  ·obtain⟨x,hx⟩:∃x,C[k]? =some x:=⟨_,List.getElem?_eq_getElem (by rw[HNV.out];exact hlt)⟩
   have hx27:=HOP.out x (List.mem_of_getElem? hx);have o1:¬(x.op:Int)<0:=by omega
   have o2:decide ((x.op:Int)<0)=false:=decide_eq_false o1;have o3:decide ((27:Int)<=(x.op:Int))=false:=decide_eq_false (by omega);have o4:decide (27<=x.op)=false:=decide_eq_false (by omega);have HXX:=yh hx;obtain⟨gx,ox,vx,hga,gx,glx,cx0,cx1,cx2,cx3,cx4,hpx⟩:=HV.out.at hx;subst hga;clear gx;obtain⟨ux,hu⟩:∃u:ByteArray,bs x.s=.string u:=⟨_,rfl⟩;rw[hu]at cx3;clear hu;obtain⟨pax,pnx,pcx,hpv⟩:∃a n c,vx=.slice a n c:=by
    obtain⟨a,c,h,_⟩:=id hpx;exact⟨a,_,c,h⟩
   subst hpv;clear hx hpx hx27;by_cases h0:x.op=22
   ·have h1:((x.op:Int)==22)=true:=by rw[h0];rfl
    obtain⟨j,hj,hlj⟩:∃j:Nat,x.a=(j:Int)/\ls[j]? =some (Stt.mk [] 0):=by
     obtain⟨t,ht⟩:∃t,ls[k]? =some t:=⟨_,List.getElem?_eq_getElem (by rw[HLL.out];exact hlt)⟩;rcases HLA.out.2.2.2 k x t HXX.out ht with⟨h,_⟩|⟨_,_,_,_,_,h⟩
     ·omega
     ·exact h h0
    rw[hj]at cx1;have HLJ:=yh hlj;clear h0 hj hlj;go_wp2_with (first|(with_reducible refine zS ?_;intro W hL hF)|(go_at_call 31;refine aj ?_;clear hF hL;intro W hL;have hF:=hL.fx;have hS:=Kn.selfS (A:=[_]) hL;(with_reducible refine(f_ ls _ _ _ _ _ _ _ _ _ _ _ _ _ _ _ _ _ j _ (by first|rfl|omega) (Stt.mk [] 0) ⟨#[]⟩ 0 rfl rfl HLJ.out HLL.out (by omega) (by have:=HME.out;omega) HSI.out _ hS).mono ?_);rintro e W2 ⟨rfl,es,ck,ta,tn,tc,LT,M,td,hb,HSI2,HME2⟩;have hJ:=Kn.joinS (A:=[_]) hL hb;have HME3:=yh (Nat.le_trans HME2.out HME.out);clear HSI HME hS hb hL HME2;have hL:=hJ;have HSI:=HSI2;have HME:=HME3;clear hJ HSI2 HME3;clear hF;simp only[List.cons_append,List.nil_append]at hL;have hF:=hL.fx))
    exact⟨⟨k+1,ta,tn,tc,es,ck,LT,M,td,by go_num,by omega,HME,HSI,hL.drop1⟩,by simp[intOf];omega⟩
   ·have h1:((x.op:Int)==22)=false:=by rw[beq_eq_false_iff_ne];omega
    go_wp2;exact⟨⟨k+1,ta,tn,tc,es,ck,LT,M,td,by go_num,by omega,HME,HSI,aE.sub (by repeat' (first|(with_reducible exact List.Sublist.refl _)|apply List.Sublist.cons))⟩,by simp[intOf];omega⟩
  ·clear hk
   go_wp2;go_loopg [] (2*nv) (fun gk wr=>∃(ta:Option Addr) (tn tc:Nat) (es:Array MapEntry) (ck:Nat) (LT:List (Nat×Obj)) (M:List (Nat×Stt)) (td:List Nat),gk<=2*nv/\Hid (2*(nv-M.length)+tn<=gk)/\Hid (SI ls es (.slice ta tn tc) tn LT M td)/\Kn [] w wr ((w.heap.size+1+1+1,.cells #[.slice ta tn tc] 51 (0,0))::(w.heap.size+1+1,.cells #[.map (some (w.heap.size+1))] 83 (0,0))::(w.heap.size+1,.map es ck)::(w.heap.size,.cells #[.slice av nv cv] 25 (0,0))::LT))
   case atStart=>exact⟨ta,tn,tc,es,ck,LT,M,td,Nat.le_refl _,HME,HSI,hL⟩
   case round=>
    clear HSI HME hlt;obtain⟨ta,tn,tc,es,ck,LT,M,td,hgk,HME,HSI,hK⟩:=hrel;clear hL hF;have hL:=hK;clear hK;have hF:=hL.fx;by_cases h0:tn=0
    ·subst h0
     go_wp2;refine zF ?_;intro W hL hF;refine bodyPost_ret (by simp[results,Tryz.results15,go_sem, *];try rfl) rfl ?_;exact⟨rfl,hL.below0⟩
    ·obtain⟨m,hm⟩:∃m,tn=m+1:=⟨tn-1,by omega⟩
     subst hm;obtain⟨td0,a,hta⟩:∃td0 a,td=td0++[a]:=by
      have h:=HSI.out.2.2.1;rcases List.eq_nil_or_concat td with h2|⟨l,a,h2⟩
      ·rw[h2]at h;cases h
      ·exact⟨l,a,by rw[h2,List.concat_eq_append]⟩
     subst hta;have h:=HSI.out;obtain⟨hMV,hRL,hln,hnd,hMl,hTd⟩:=h;obtain⟨t,hat⟩:=hTd a (List.mem_append_right _ m0);have hlt:=hMl _ hat;simp only at hlt;rcases hRL with⟨_,_,h9,_⟩|⟨g,cap,cur,hLT,hv9,hrb⟩
     ·cases h9
     injection hv9 with hv1 hv2 hv3
     subst hv1 hv3 hLT;have htdl:td0.length=m:=by rw[List.length_append,List.length_singleton]at hln;omega
     have hcu:cur[m]? =some (.int .i64 (a:Int)):=hrb.get (by rw[List.map_append,List.getElem?_append_right (by rw[List.length_map];omega),List.length_map,htdl,Nat.sub_self];rfl);have hcap:=hrb.le;have HS2:=yh (SI.pop HSI.out);have HLT:=yh hlt;have HMV:=yh hMV;obtain⟨u,hu⟩:∃u:ByteArray,⟨t.fr.toArray⟩=u:=⟨_,rfl⟩;obtain⟨q,hq⟩:∃q,t.q=q:=⟨_,rfl⟩;have HKM:Hid ((.int .i64 (a:Int),.agg #[.string u,.int .i64 q])∈M.map i_):=yh (by rw[<- hu,<- hq];exact List.mem_map.2 ⟨_,hat,rfl⟩);have han:a<nv:=by rw[<- HLL.out];exact(List.getElem?_eq_some_iff.1 hlt).1
     obtain⟨x,hx⟩:∃x,C[a]? =some x:=⟨_,List.getElem?_eq_getElem (by rw[HNV.out];exact han)⟩;obtain⟨nx,nm,HST,hnx,hnm⟩:∃nx nm,Hid (Stp t x nx nm\/(x.op=26/\t=Stt.mk [] 0/\nx=none/\nm=none))/\(∀u,nx=some u->ls[a+1]? =some u)/\(∀u,nm=some u->∃j:Nat,x.a=(j:Int)/\ls[j]? =some u):=by
      rcases HLA.out.2.2.2 a x t hx hlt with⟨h1,h2⟩|⟨nx,nm,h1,h2,h3,_⟩
      ·exact⟨none,none,yh (.inr ⟨h1,h2,rfl,rfl⟩),fun u h=>(by cases h),fun u h=>(by cases h)⟩
      ·exact⟨nx,nm,yh (.inl h1),h2,h3⟩
     have HAF:=yh (fun W u9 pa pn pc=>sd t x nx nm HST.out (HLA.out.2.2.1 t (List.mem_of_getElem? hlt)) (fun u hu=>HLA.out.2.2.1 u (List.mem_of_getElem? (hnx u hu))) u9 pa pn pc W);rw[hu,hq]at HAF;obtain⟨gx,ox,vx,hga,gx,glx,cx0,cx1,cx2,cx3,cx4,hpx⟩:=HV.out.at hx;subst hga;clear gx;obtain⟨ux,hu⟩:∃u:ByteArray,bs x.s=.string u:=⟨_,rfl⟩;rw[hu]at cx3;clear hu;obtain⟨pax,pnx,pcx,hpv⟩:∃a n c,vx=.slice a n c:=by
      obtain⟨a,c,h,_⟩:=id hpx;exact⟨a,_,c,h⟩
     subst hpv;have s2:m<=tc:=by omega
     have s3:(m:Int)<=(tc:Int):=by omega
     have s4:¬(tc:Int)<(m:Int):=by omega
     have s5:decide ((tc:Int)<(m:Int))=false:=decide_eq_false (by omega);have s6:decide (tc<m)=false:=decide_eq_false (by omega);have s7:(0:Int)<=(m:Int):=by omega
     have s8:¬(m:Int)<0:=by omega
     clear hx hpx hMV hnd hMl hTd hlt hrb hcap hu hq hat;clear hF;have hF:=hL.fx;have HMP:Hid (2*(nv-M.length)+m<=gk-1):=yh (by have:=HME.out;omega);have hm9:m<=700000:=by have:=HME.out;omega
     have hg0:0<gk:=by have:=HME.out;omega
     clear HME;go_upto_region 16 with(fail)
     refine zE ?_;intro W hL hF;clear HSI;have HSI:=HS2;have HME:=HMP;clear HS2 HMP
     cases nx with
     |none=>
      simp only[Option.getD_none,Option.isSome_none]at HAF
      cases nm with
      |none=>
       go_wp2_with (first|(with_reducible refine zS ?_;intro W hL hF)|(at_lookup;refine cT ?_;clear hF hL;intro W hL;have hF:=hL.fx;(refine c8 rfl _ _ _ rfl fq eu (hL.has _ m3) HMV.out rfl _ _ rfl HKM.out ?_);simp only[Bool.false_eq_true,if_false,if_true])|(go_at_call 33;refine aj ?_;clear hF hL;intro W hL;have hF:=hL.fx;(with_reducible refine(HAF.out _ _ _ _ _).mono ?_);rintro e W ⟨rfl,hb⟩;replace hL:=hL.below hb;clear hb hF;have hF:=hL.fx))
       go_roundg (gk-1)
       case measure=>omega
       case rel=>exact⟨_,m,tc,es,ck,_,M,td0,by omega,HME,HSI,aE.sub (by repeat' (first|(with_reducible exact List.Sublist.refl _)|apply List.Sublist.cons))⟩
      |some n2=>
       simp only[Option.getD_some,Option.isSome_some]at HAF;obtain⟨j,hj,hlj⟩:=hnm n2 rfl;rw[hj]at HAF cx1 hL;have HNM:=yh hlj;clear hj hlj hnx hnm;clear hF;have hF:=hL.fx;go_wp2_with (first|(with_reducible refine zS ?_;intro W hL hF)|(at_lookup;refine cT ?_;clear hF hL;intro W hL;have hF:=hL.fx;(refine c8 rfl _ _ _ rfl fq eu (hL.has _ m3) HMV.out rfl _ _ rfl HKM.out ?_);simp only[Bool.false_eq_true,if_false,if_true])|((first|(go_at_call 33;refine aj ?_;clear hF hL;intro W hL;have hF:=hL.fx;(with_reducible refine(HAF.out _ _ _ _ _).mono ?_);rintro e W ⟨rfl,hb⟩;replace hL:=hL.below hb;clear hb hF)|(go_at_call 31;refine aj ?_;clear hF hL;intro W hL;have hF:=hL.fx;have hS:=Kn.selfS (A:=[_,_,_]) hL;(with_reducible refine(f_ ls _ _ _ _ _ _ _ _ _ _ _ _ _ _ _ _ _ j _ (by first|rfl|omega) n2 _ _ rfl rfl HNM.out HLL.out (by omega) (by have:=HME.out;omega) HSI.out _ hS).mono ?_);rintro e W2 ⟨rfl,es,ck,ta,tn,tc,LT,M,td,hb,HSI2,HME2⟩;have hJ:=Kn.joinS (A:=[_,_,_]) hL hb;have HME3:=yh (Nat.le_trans HME2.out HME.out);clear HSI HME hS hb hL HME2;have hL:=hJ;have HSI:=HSI2;have HME:=HME3;clear hJ HSI2 HME3;clear hF;simp only[List.cons_append,List.nil_append]at hL));have hF:=hL.fx))
       go_roundg (gk-1)
       case measure=>omega
       case rel=>exact⟨ta,tn,tc,es,ck,LT,M,td,by omega,HME,HSI,hL.drop1.drop1.drop1⟩
     |some n1=>
      simp only[Option.getD_some,Option.isSome_some]at HAF;have HNX:=yh (hnx n1 rfl)
      cases nm with
      |none=>
       simp only[Option.getD_none,Option.isSome_none]at HAF;go_wp2_with (first|(with_reducible refine zS ?_;intro W hL hF)|(at_lookup;refine cT ?_;clear hF hL;intro W hL;have hF:=hL.fx;(refine c8 rfl _ _ _ rfl fq eu (hL.has _ m3) HMV.out rfl _ _ rfl HKM.out ?_);simp only[Bool.false_eq_true,if_false,if_true])|((first|(go_at_call 33;refine aj ?_;clear hF hL;intro W hL;have hF:=hL.fx;(with_reducible refine(HAF.out _ _ _ _ _).mono ?_);rintro e W ⟨rfl,hb⟩;replace hL:=hL.below hb;clear hb hF)|(go_at_call 31;refine aj ?_;clear hF hL;intro W hL;have hF:=hL.fx;have hS:=Kn.selfS (A:=[_,_,_]) hL;(with_reducible refine(f_ ls _ _ _ _ _ _ _ _ _ _ _ _ _ _ _ _ _ (a+1) _ (by first|rfl|omega) n1 _ _ rfl rfl HNX.out HLL.out (by omega) (by have:=HME.out;omega) HSI.out _ hS).mono ?_);rintro e W2 ⟨rfl,es,ck,ta,tn,tc,LT,M,td,hb,HSI2,HME2⟩;have hJ:=Kn.joinS (A:=[_,_,_]) hL hb;have HME3:=yh (Nat.le_trans HME2.out HME.out);clear HSI HME hS hb hL HME2;have hL:=hJ;have HSI:=HSI2;have HME:=HME3;clear hJ HSI2 HME3;clear hF;simp only[List.cons_append,List.nil_append]at hL));have hF:=hL.fx))
       go_roundg (gk-1)
       case measure=>omega
       case rel=>exact⟨ta,tn,tc,es,ck,LT,M,td,by omega,HME,HSI,hL.drop1.drop1.drop1⟩
      |some n2=>
       simp only[Option.getD_some,Option.isSome_some]at HAF;obtain⟨j,hj,hlj⟩:=hnm n2 rfl;rw[hj]at HAF cx1 hL;have HNM:=yh hlj;clear hj hlj hnx hnm;clear hF;have hF:=hL.fx;go_wp2_with (first|(with_reducible refine zS ?_;intro W hL hF)|(at_lookup;refine cT ?_;clear hF hL;intro W hL;have hF:=hL.fx;(refine c8 rfl _ _ _ rfl fq eu (hL.has _ m3) HMV.out rfl _ _ rfl HKM.out ?_);simp only[Bool.false_eq_true,if_false,if_true])|((first|(go_at_call 33;refine aj ?_;clear hF hL;intro W hL;have hF:=hL.fx;(with_reducible refine(HAF.out _ _ _ _ _).mono ?_);rintro e W ⟨rfl,hb⟩;replace hL:=hL.below hb;clear hb hF)|(go_at_call 31;refine aj ?_;clear hF hL;intro W hL;have hF:=hL.fx;have hS:=Kn.selfS (A:=[_,_,_]) hL;(((first|(with_reducible refine(f_ ls _ _ _ _ _ _ _ _ _ _ _ _ _ _ _ _ _ (a+1) _ (by first|rfl|omega) n1 _ _ rfl rfl HNX.out HLL.out (by omega) (by have:=HME.out;omega) HSI.out _ hS).mono ?_)|(with_reducible refine(f_ ls _ _ _ _ _ _ _ _ _ _ _ _ _ _ _ _ _ j _ (by first|rfl|omega) n2 _ _ rfl rfl HNM.out HLL.out (by omega) (by have:=HME.out;omega) HSI.out _ hS).mono ?_))));rintro e W2 ⟨rfl,es,ck,ta,tn,tc,LT,M,td,hb,HSI2,HME2⟩;have hJ:=Kn.joinS (A:=[_,_,_]) hL hb;have HME3:=yh (Nat.le_trans HME2.out HME.out);clear HSI HME hS hb hL HME2;have hL:=hJ;have HSI:=HSI2;have HME:=HME3;clear hJ HSI2 HME3;clear hF;simp only[List.cons_append,List.nil_append]at hL));have hF:=hL.fx))
       go_roundg (gk-1)
       case measure=>omega
       case rel=>exact⟨ta,tn,tc,es,ck,LT,M,td,by omega,HME,HSI,hL.drop1.drop1.drop1⟩
theorem ma{X:List Nat}{w0 W:World}{L:List (Nat×Obj)}{g:Nat}{l:List Int}(h:Kn X w0 W L)(hm:(g,Obj.cells (l.map (Value.int .i64)).toArray 3 (0,0))∈L):∀(j:Nat) (x:Int),l[j]? =some x->W.cell? ⟨g,0+j,none⟩=some (.int .i64 x):=fun j x hx=>by
 rw[Nat.zero_add,aO h hm,List.getElem?_toArray,List.getElem?_map,hx];rfl
theorem Av(W:World)(hT:TabP W):Calls Tryz.prog 10 #[.string ⟨#[]⟩] W fun e w'=>∃(ao:Option Addr) (cap:Nat),e=.returned (.tuple #[.agg #[.slice ao 1 cap],.int .i64 0,.int .i64 0])/\Hid (PlanRow [] w' (.slice ao 1 cap) (ax Ts.nil).c)/\Below W.heap.size W w':=by
 have hok:(Ts.nil:Ts).ok/\(Ts.nil:Ts).tg:=⟨by simp only[Ts.ok],by simp only[Ts.tg]⟩
 have h:=gN ⟨#[]⟩ Ts.nil [] Ap rfl hok.1 hok.2 xU.1 W hT
 have hn:(ax Ts.nil).n=1:=by rfl
 rw[hn]at h
 exact h
theorem Aw(W:World)(g:Nat)(v:Value)(hv:PlanRow [] W v (ax Ts.nil).c){X:List Nat}{w0:World}{L:List (Nat×Obj)}(hL:Kn X w0 W L)(hm:(g,Obj.cells #[.int .i64 26] 3 (0,0))∈L):Calls Tryz.prog 22 #[.agg #[v],.slice (some ⟨g,0,none⟩) 1 1] W fun e w'=>e=.returned (.bool true)/\Below W.heap.size W w':=vc (ax Ts.nil).c [26] xU.2 (by rw[show(ax Ts.nil).c.length=1 by rfl];omega) v g 0 1 W hv (ma (l:=[26]) hL hm)
theorem Ax(W:World)(hT:TabP W):Calls Tryz.prog 10 #[.string ⟨#[97,32,38,38,32,98]⟩] W fun e w'=>∃(ao:Option Addr) (cap:Nat),e=.returned (.tuple #[.agg #[.slice ao 13 cap],.int .i64 0,.int .i64 0])/\Hid (PlanRow [] w' (.slice ao 13 cap) (ax exB).c)/\Below W.heap.size W w':=by
 have hok:(exB:Ts).ok/\(exB:Ts).tg:=zj
 have h:=gN ⟨#[97,32,38,38,32,98]⟩ exB exB.nds Aq rfl hok.1 hok.2 qM.1 W hT
 have hn:(ax exB).n=13:=by rfl
 rw[hn]at h
 exact h
theorem Ay(W:World)(g:Nat)(v:Value)(hv:PlanRow [] W v (ax exB).c){X:List Nat}{w0:World}{L:List (Nat×Obj)}(hL:Kn X w0 W L)(hm:(g,Obj.cells #[.int .i64 0,.int .i64 24,.int .i64 6,.int .i64 7,.int .i64 12,.int .i64 25,.int .i64 24,.int .i64 3,.int .i64 6,.int .i64 7,.int .i64 12,.int .i64 25,.int .i64 26] 3 (0,0))∈L):Calls Tryz.prog 22 #[.agg #[v],.slice (some ⟨g,0,none⟩) 13 13] W fun e w'=>e=.returned (.bool true)/\Below W.heap.size W w':=vc (ax exB).c [0,24,6,7,12,25,24,3,6,7,12,25,26] qM.2.1 (by rw[show(ax exB).c.length=13 by rfl];omega) v g 0 13 W hv (ma (l:=[0,24,6,7,12,25,24,3,6,7,12,25,26]) hL hm)
theorem Az(W:World)(hT:TabP W):Calls Tryz.prog 10 #[.string ⟨#[120,61,36,40,97,41]⟩] W fun e w'=>∃(ao:Option Addr) (cap:Nat),e=.returned (.tuple #[.agg #[.slice ao 12 cap],.int .i64 0,.int .i64 0])/\Hid (PlanRow [] w' (.slice ao 12 cap) (ax exC).c)/\Below W.heap.size W w':=by
 have hok:(exC:Ts).ok/\(exC:Ts).tg:=zk
 have h:=gN ⟨#[120,61,36,40,97,41]⟩ exC exC.nds Au rfl hok.1 hok.2 qN.1 W hT
 have hn:(ax exC).n=12:=by rfl
 rw[hn]at h
 exact h
theorem AA(W:World)(g:Nat)(v:Value)(hv:PlanRow [] W v (ax exC).c){X:List Nat}{w0:World}{L:List (Nat×Obj)}(hL:Kn X w0 W L)(hm:(g,Obj.cells #[.int .i64 0,.int .i64 13,.int .i64 0,.int .i64 6,.int .i64 7,.int .i64 12,.int .i64 25,.int .i64 16,.int .i64 15,.int .i64 8,.int .i64 25,.int .i64 26] 3 (0,0))∈L):Calls Tryz.prog 22 #[.agg #[v],.slice (some ⟨g,0,none⟩) 12 12] W fun e w'=>e=.returned (.bool true)/\Below W.heap.size W w':=vc (ax exC).c [0,13,0,6,7,12,25,16,15,8,25,26] qN.2.1 (by rw[show(ax exC).c.length=12 by rfl];omega) v g 0 12 W hv (ma (l:=[0,13,0,6,7,12,25,16,15,8,25,26]) hL hm)
theorem gc(w:World)(hT:TabP w):Calls Tryz.prog 9 #[] w fun e w'=>e=.returned (.bool true)/\Below w.heap.size w w':=by
 have HT:=yh hT
 clear hT
 have hL:Kn [] w w []:=Kn.refl [] w
 have hF:=hL.fx
 go_enter Tryz.func9,Tryz.ntmps9
 go_upto_region 2 with((go_at_call 10;refine aj ?_;clear hF hL;intro W hL;have hF:=hL.fx;(with_reducible refine(Av _ (HT.out.ext hL.below0)).mono ?_);rintro e W ⟨aA,cA,rfl,HPA,hb⟩;replace hL:=hL.below hb;clear hb hF;have hF:=hL.fx;obtain⟨W1,rfl⟩:∃W1:World,W1=W:=⟨_,rfl⟩;have HB1:=yh (hL.sub sN);clear hL;have hL:=Kn.refl [] W1;clear hF;have hF:=hL.fx))
 go_upto_region 3 with((go_at_call 10;refine aj ?_;clear hF hL;intro W hL;have hF:=hL.fx;(with_reducible refine(Ax _ ((HT.out.ext HB1.out.below0).ext hL.below0)).mono ?_);rintro e W ⟨aB,cB,rfl,HPB,hb⟩;replace hL:=hL.below hb;clear hb hF;have hF:=hL.fx;obtain⟨W2,rfl⟩:∃W2:World,W2=W:=⟨_,rfl⟩;have HB2:=yh (HB1.out.tail0 (hL.sub sN));have HPA2:=yh (HPA.out.kn (Y:=[]) hL (fun y hy=>absurd hy List.not_mem_nil));have ca:=aO hL m0 0;have la:=hL.lt m0;clear HB1 HPA hL;have HPA:=HPA2;clear HPA2;have hL:=Kn.refl [] W2;clear hF;have hF:=hL.fx))
 go_upto_region 4 with((go_at_call 10;refine aj ?_;clear hF hL;intro W hL;have hF:=hL.fx;(with_reducible refine(Az _ ((HT.out.ext HB2.out.below0).ext hL.below0)).mono ?_);rintro e W ⟨aC,cC,rfl,HPC,hb⟩;replace hL:=hL.below hb;clear hb hF;have hF:=hL.fx;obtain⟨W3,rfl⟩:∃W3:World,W3=W:=⟨_,rfl⟩;have HB3:=yh (HB2.out.tail0 (hL.sub sN));have HPA2:=yh (HPA.out.kn (Y:=[]) hL (fun y hy=>absurd hy List.not_mem_nil));have HPB2:=yh (HPB.out.kn (Y:=[]) hL (fun y hy=>absurd hy List.not_mem_nil));have cb:=aO hL m0 0;have lb:=hL.lt m0;have ca2:=dD hL ca List.not_mem_nil;have la2:=Nat.lt_of_lt_of_le la hL.size;clear HB2 HPA HPB hL ca la;have HPA:=HPA2;have HPB:=HPB2;clear HPA2 HPB2;have hL:=Kn.refl [] W3;clear hF;have hF:=hL.fx))
 have ca:W3.cell? ⟨W1.heap.size,0,none⟩=some (.slice aA 1 cA):=ca2
 have cb2:W3.cell? ⟨W2.heap.size,0,none⟩=some (.slice aB 13 cB):=cb
 clear ca2 cb
 obtain⟨y7,hy7,ey7⟩:=Option.map_eq_some_iff.1 qM.2.2.1
 obtain⟨gy7,oy7,vy7,hga,gx,gly7,cy70,cy71,cy72,cy73,cy74,hpy7⟩:=HPB.out.at hy7
 (first|subst hga|(injection hga with hga;injection hga with hga hgb;subst hga hgb))
 clear gx
 obtain⟨uy7,hu⟩:∃u:ByteArray,bs y7.s=.string u:=⟨_,rfl⟩
 rw[hu]at cy73
 clear hu
 obtain⟨pay7,pny7,pcy7,hpv⟩:∃a n c,vy7=.slice a n c:=by
  obtain⟨a,c,h,_⟩:=id hpy7;exact⟨a,_,c,h⟩
 subst hpv
 obtain⟨y0,hy0,ey0⟩:=Option.map_eq_some_iff.1 qM.2.2.2
 obtain⟨gy0,oy0,vy0,hga,gx,gly0,cy00,cy01,cy02,cy03,cy04,hpy0⟩:=HPB.out.at hy0
 (first|subst hga|(injection hga with hga;injection hga with hga hgb;subst hga hgb))
 clear gx
 obtain⟨uy0,hu⟩:∃u:ByteArray,bs y0.s=.string u:=⟨_,rfl⟩
 rw[hu]at cy03
 clear hu
 obtain⟨pay0,pny0,pcy0,hpv⟩:∃a n c,vy0=.slice a n c:=by
  obtain⟨a,c,h,_⟩:=id hpy0;exact⟨a,_,c,h⟩
 subst hpv
 obtain⟨z1,hz1,ez1⟩:=Option.map_eq_some_iff.1 qN.2.2.1
 obtain⟨gz1,oz1,vz1,hga,gx,glz1,cz10,cz11,cz12,cz13,cz14,hpz1⟩:=HPC.out.at hz1
 (first|subst hga|(injection hga with hga;injection hga with hga hgb;subst hga hgb))
 clear gx
 obtain⟨uz1,hu⟩:∃u:ByteArray,bs z1.s=.string u:=⟨_,rfl⟩
 rw[hu]at cz13
 clear hu
 obtain⟨paz1,pnz1,pcz1,hpv⟩:∃a n c,vz1=.slice a n c:=by
  obtain⟨a,c,h,_⟩:=id hpz1;exact⟨a,_,c,h⟩
 subst hpv
 obtain⟨z2,hz2,ez2⟩:=Option.map_eq_some_iff.1 qN.2.2.2
 obtain⟨gz2,oz2,vz2,hga,gx,glz2,cz20,cz21,cz22,cz23,cz24,hpz2⟩:=HPC.out.at hz2
 (first|subst hga|(injection hga with hga;injection hga with hga hgb;subst hga hgb))
 clear gx
 obtain⟨uz2,hu⟩:∃u:ByteArray,bs z2.s=.string u:=⟨_,rfl⟩
 rw[hu]at cz23
 clear hu
 obtain⟨paz2,pnz2,pcz2,hpv⟩:∃a n c,vz2=.slice a n c:=by
  obtain⟨a,c,h,_⟩:=id hpz2;exact⟨a,_,c,h⟩
 subst hpv
 injection ez1 with ez1a ez1b
 rw[ey7]at cy71
 rw[ey0]at cy01
 rw[ez1a]at cz11
 rw[ez1b]at cz12
 rw[ez2]at cz21
 clear hy7 hy0 hz1 hz2 hpy7 hpy0 hpz1 hpz2
 go_wp2_with (first|(with_reducible refine zS ?_;intro W hL hF)|((first|(go_at_call 22;refine aj ?_;clear hF hL;intro W hL;have hF:=hL.fx;(with_reducible refine(Aw _ _ _ (HPA.out.kn hL (fun y hy=>absurd hy List.not_mem_nil)) hL m0).mono ?_))|(go_at_call 22;refine aj ?_;clear hF hL;intro W hL;have hF:=hL.fx;(with_reducible refine(Ay _ _ _ (HPB.out.kn hL (fun y hy=>absurd hy List.not_mem_nil)) hL m0).mono ?_))|(go_at_call 22;refine aj ?_;clear hF hL;intro W hL;have hF:=hL.fx;(with_reducible refine(AA _ _ _ (HPC.out.kn hL (fun y hy=>absurd hy List.not_mem_nil)) hL m0).mono ?_)));rintro e W ⟨rfl,hb⟩;replace hL:=hL.below hb;clear hb hF;have hF:=hL.fx))
 refine zF ?_;intro W hL hF
 refine bodyPost_ret (by simp[results,Tryz.results9,go_sem, *];try rfl) rfl ?_
 exact⟨rfl,(HB3.out.tail0 hL).below0⟩
theorem Kn.t0{X:List Nat}{w0 W W':World}{P':List (Nat×Obj)}(h:Kn X w0 W [])(k:Kn [] W W' P'):Kn X w0 W' P':=h.tail0 k
theorem qO(src:ByteArray)(ts:Ts)(l:List Nd)(hp:aH src.data.toList=.ok l)(hl:ts.nds=l)(hok:ts.ok)(htg:ts.tg)(w0:World)(hT:TabP w0)(W:World)(cs:List Value)(hB:Below w0.heap.size w0 W)(hn:NodeIs [] W (.mk 4 [] false [] [] [] l) cs):Calls Tryz.prog 14 #[.agg cs.toArray] W (xT [] W (ax ts)):=by
 have hnd:(Tr.lst ts).nd=.mk 4 [] false [] [] [] l:=by simp only[Tr.nd,hl]
 have hco:(Tr.lst ts).nd.co<=800000:=by
  have h1:=cJ hp;have h2:=f7 h1 hp;rw[hnd,dl];omega
 rw[<- hnd]at hn
 exact u_ ts (by simp only[Tr.ok];exact hok) (by simp only[Tr.tg];exact htg) (by rw[hnd];exact l_ hp) hco w0 W hB hT [] (Kn.refl [] W) (fun p hp=>absurd hp List.not_mem_nil) (fun p hp=>absurd hp List.not_mem_nil) cs hn
theorem ve{b:Ts}(he:(ax b).e=0):bok (itm (ax b).c) (ax b).c:=by
 obtain⟨_,h1,h2⟩:=fw he
 rw[(fz he).2.1,h1]
 intro x hx hi
 rcases List.mem_append.1 hx with hx|hx
 ·have:=((Ts.nm b).1 0 0).2 x hx hi
  rwa[Nat.zero_add]at this
 ·rw[List.mem_singleton.1 hx]at hi;cases hi
theorem vf{b:Ts}(he:(ax b).e=0){k:Nat}{x:Ins}(hx:(ax b).c[k]? =some x):((x.op:Int)==26)=decide (k+1=(ax b).c.length):=by
 obtain⟨_,h1,h2⟩:=fw he
 rw[h1]at hx |-
 rw[List.length_append,List.length_singleton]
 by_cases hk:k<(b.cl 0 0).length
 ·rw[List.getElem?_append_left hk]at hx
  have:=Ah b x (List.mem_of_getElem? hx);rw[beq_eq_false_iff_ne.2 (by omega),decide_eq_false (by omega)]
 ·have h3:=(List.getElem?_eq_some_iff.1 hx).1
  rw[List.length_append,List.length_singleton]at h3;obtain rfl:k=(b.cl 0 0).length:=by omega
  rw[List.getElem?_append_right (Nat.le_refl _),Nat.sub_self]at hx;obtain rfl:=Option.some.inj hx;rw[decide_eq_true rfl];rfl
theorem oc(src:ByteArray)(hs:3000<src.size)(w:World)(hT:TabP w):Calls Tryz.prog 4 #[.string src] w fun e w'=>e=.returned (.bool true)/\Below w.heap.size w w':=by
 have HT:=yh hT
 clear hT
 have p1:decide ((3000:Int)<(src.size:Int))=true:=decide_eq_true (by omega)
 have hL:Kn [] w w []:=Kn.refl [] w;have hF:=hL.fx;go_enter Tryz.func4,Tryz.ntmps4
 go_wp2_with (first|(with_reducible refine zS ?_;intro W hL hF)|(go_at_call 9;refine aj ?_;clear hF hL;intro W hL;have hF:=hL.fx;(with_reducible refine(gc _ (HT.out.ext hL.below0)).mono ?_);rintro e W ⟨rfl,hb⟩;replace hL:=hL.below hb;clear hb hF;have hF:=hL.fx))
 refine zF ?_;intro W hL hF
 refine bodyPost_ret (by simp[results,Tryz.results4,go_sem, *];try rfl) rfl ?_
 exact⟨rfl,hL.below0⟩
theorem pD(src:ByteArray)(hs:src.size<=3000)(f:Bool)(m:Nat)(hp:aH src.data.toList=.err f m)(w:World)(hT:TabP w):Calls Tryz.prog 4 #[.string src] w fun e w'=>e=.returned (.bool true)/\Below w.heap.size w w':=by
 obtain⟨ec,hec⟩:∃z:Int,(if f=true then(6:Int)else 27)=z:=⟨_,rfl⟩
 have HPE:=yh (fun(W:World) (h:TabP W)=>(gM src W h).2 f m hp)
 rw[hec]at HPE
 have HT:=yh hT
 have h1:(ec != 0)=true:=by rw[<- hec];cases f<;>rfl
 have p1:decide ((3000:Int)<(src.size:Int))=false:=decide_eq_false (by omega)
 clear hp hT hec
 have hL:Kn [] w w []:=Kn.refl [] w;have hF:=hL.fx;go_enter Tryz.func4,Tryz.ntmps4
 go_wp2_with (first|(with_reducible refine zS ?_;intro W hL hF)|((first|(go_at_call 9;refine aj ?_;clear hF hL;intro W hL;have hF:=hL.fx;(with_reducible refine(gc _ (HT.out.ext hL.below0)).mono ?_))|(go_at_call 13;refine aj ?_;clear hF hL;intro W hL;have hF:=hL.fx;(with_reducible refine(HPE.out _ (HT.out.ext hL.below0)).mono ?_)));rintro e W ⟨rfl,hb⟩;replace hL:=hL.below hb;clear hb hF;have hF:=hL.fx))
 refine zF ?_;intro W hL hF
 refine bodyPost_ret (by simp[results,Tryz.results4,go_sem, *];try rfl) rfl ?_
 exact⟨rfl,hL.below0⟩
theorem od(src:ByteArray)(hs:src.size<=3000)(ts:Ts)(l:List Nd)(hp:aH src.data.toList=.ok l)(hl:ts.nds=l)(hok:ts.ok)(htg:ts.tg)(he:(ax ts).e≠0)(w:World)(hT:TabP w):Calls Tryz.prog 4 #[.string src] w fun e w'=>e=.returned (.bool true)/\Below w.heap.size w w':=by
 have HPE:=yh (fun(W:World) (h:TabP W)=>(gM src W h).1 l hp)
 have HMK:Hid (∀(W:World) (cs:List Value),Below w.heap.size w W->NodeIs [] W (.mk 4 [] false [] [] [] l) cs->Calls Tryz.prog 14 #[.agg cs.toArray] W (fun e w'=>e=.returned (.tuple #[.agg #[.slice none 0 0],.int .i64 ((ax ts).e:Int)])/\Below W.heap.size W w')):=yh (fun W cs hB hn=>(qO src ts l hp hl hok htg w hT W cs hB hn).mono (by
  rintro e w' ⟨hb,h⟩;rcases h with⟨h1,h2⟩|⟨h1,h2⟩
  ·exact absurd h1 he
  ·exact⟨h2,hb⟩))
 have p1:decide ((3000:Int)<(src.size:Int))=false:=decide_eq_false (by omega)
 obtain⟨em,hem⟩:∃z,(ax ts).e=z:=⟨_,rfl⟩
 rw[hem]at he HMK
 have hez:((em:Int) != 0)=true:=by rw[bne_iff_ne];omega
 clear hp hl hok htg hem he
 obtain⟨nl,hnl⟩:∃z,l.length=z:=⟨_,rfl⟩
 rw[hnl]at HPE
 have HNL:=yh hnl
 have HT:=yh hT
 have HS9:=yh hs
 clear hT hnl hs
 have hL:Kn [] w w []:=Kn.refl [] w;have hF:=hL.fx;go_enter Tryz.func4,Tryz.ntmps4
 go_upto_region 4 with((go_at_call 9;refine aj ?_;clear hF hL;intro W hL;have hF:=hL.fx;(with_reducible refine(gc _ (HT.out.ext hL.below0)).mono ?_);rintro e W ⟨rfl,hb⟩;replace hL:=hL.below hb;clear hb hF;have hF:=hL.fx))
 refine zE ?_;intro W hL hF
 go_upto_region 5 with((go_at_call 13;refine aj ?_;clear hF hL;intro W hL;have hF:=hL.fx;(with_reducible refine(HPE.out _ (HT.out.ext hL.below0)).mono ?_);rintro e W ⟨aa,ca,aw,cw,ar,cr,ak,ck,rfl,HNY,hb⟩;replace hL:=hL.below hb;clear hb hF;have hF:=hL.fx;have HN0:=yh (HNY.out [] (fun y hy=>absurd hy List.not_mem_nil));clear HNY;obtain⟨W1,rfl⟩:∃W1:World,W1=W:=⟨_,rfl⟩;have HB1:=yh (hL.sub sN);clear hL;have hL:=Kn.refl [] W1;clear hF;have hF:=hL.fx))
 refine zE ?_;intro W hL hF
 go_wp2_with (first|(with_reducible refine zS ?_;intro W hL hF)|(go_at_call 14;refine aj ?_;clear hF hL;intro W hL;have hF:=hL.fx;(with_reducible refine(HMK.out _ _ (HB1.out.t0 hL).below0 (HN0.out.at_ hL)).mono ?_);rintro e W ⟨rfl,hb⟩;replace hL:=hL.below hb;clear hb hF;have hF:=hL.fx))
 refine zF ?_;intro W hL hF
 refine bodyPost_ret (by simp[results,Tryz.results4,go_sem, *];try rfl) rfl ?_
 exact⟨rfl,(HB1.out.tail0 hL).below0⟩
theorem oe(src:ByteArray)(hs:src.size<=3000)(ts:Ts)(l:List Nd)(hp:aH src.data.toList=.ok l)(hl:ts.nds=l)(hok:ts.ok)(htg:ts.tg)(he:(ax ts).e=0)(w:World)(hT:TabP w):Calls Tryz.prog 4 #[.string src] w fun e w'=>e=.returned (.bool true)/\Below w.heap.size w w':=by
 have HPE:=yh (fun(W:World) (h:TabP W)=>(gM src W h).1 l hp)
 have HMK:Hid (∀(W:World) (cs:List Value),Below w.heap.size w W->NodeIs [] W (.mk 4 [] false [] [] [] l) cs->Calls Tryz.prog 14 #[.agg cs.toArray] W (fun e w'=>∃(ao:Option Addr) (cap:Nat),e=.returned (.tuple #[.agg #[.slice ao (ax ts).n cap],.int .i64 0])/\Hid (PlanRow [] w' (.slice ao (ax ts).n cap) (ax ts).c)/\Below W.heap.size W w')):=yh (fun W cs hB hn=>(qO src ts l hp hl hok htg w hT W cs hB hn).mono (by
  rintro e w' ⟨hb,h⟩;rcases h with⟨h1,h2⟩|⟨h1,h2⟩
  ·obtain⟨ao,cap,rfl,h3⟩:=h2;exact⟨ao,cap,rfl,yh h3,hb⟩
  ·exact absurd he h1))
 have p1:decide ((3000:Int)<(src.size:Int))=false:=decide_eq_false (by omega)
 have HEA:=yh he
 have hl9:l.length<=16004:=(kW (cJ hp) hp).1
 have HNS:Hid (l.length=ts.nds.length):=yh (by rw[hl])
 have HLEN:=yh (vd hp hl hok)
 obtain⟨C,hC⟩:∃x,(ax ts).c=x:=⟨_,rfl⟩
 obtain⟨nv,hnv⟩:∃x,(ax ts).n=x:=⟨_,rfl⟩
 have hlv:=HLEN.out
 have hv0:0<nv:=by rw[<- hnv];unfold PS.n;rw[(fw he).2.1];simp
 obtain⟨m,hm⟩:∃m,nv=m+1:=⟨nv-1,by omega⟩
 have p4:wrap64 ((nv:Int)-1)=(m:Int):=by rw[IntWalk.wrap64_in _ (by omega)];omega
 have p7:IntKind.i64.wrap ((nv:Int)-1)=(m:Int):=by rw[IntWalk.i64_in _ (by omega)];omega
 have e0:((nv:Int)==0)=false:=by rw[beq_eq_false_iff_ne];omega
 have HM1:=yh hm
 have HCN:Hid (C.length=nv):=yh (by rw[<- hC,<- hnv];rfl)
 have HSO:Hid (∀(v:Value) (W:World),PlanRow [] W v C->Calls Tryz.prog 15 #[.agg #[v]] W fun e w'=>e=.returned (.bool true)/\Below W.heap.size W w'):=yh (fun v W hv=>by
  have hL:=(fw he).2.1;obtain⟨ls,hls⟩:=y8 ts (N:=320020) (by have h:=HLEN.out;unfold PS.n at h;rw[hL,List.length_append]at h;omega);rw[<- hL,hC]at hls;exact xF C ls hls (by rw[<- hC];exact(fz he).1) (by rw[<- hC];exact ve he) (by rw[HCN.out,<- hnv];exact HLEN.out) (by rw[HCN.out];exact hv0) v W hv)
 have HC:=yh hC
 rw[hnv]at hlv
 rw[hC,hnv]at HMK
 clear hp hl hok htg he hC hnv hm
 obtain⟨nl,hnl⟩:∃z,l.length=z:=⟨_,rfl⟩
 rw[hnl]at HPE hl9
 have HNL:=yh hnl
 have HT:=yh hT
 have HS9:=yh hs
 clear hT hnl hs
 have hL:Kn [] w w []:=Kn.refl [] w;have hF:=hL.fx;go_enter Tryz.func4,Tryz.ntmps4
 go_upto_region 4 with((go_at_call 9;refine aj ?_;clear hF hL;intro W hL;have hF:=hL.fx;(with_reducible refine(gc _ (HT.out.ext hL.below0)).mono ?_);rintro e W ⟨rfl,hb⟩;replace hL:=hL.below hb;clear hb hF;have hF:=hL.fx))
 refine zE ?_;intro W hL hF
 go_upto_region 5 with((go_at_call 13;refine aj ?_;clear hF hL;intro W hL;have hF:=hL.fx;(with_reducible refine(HPE.out _ (HT.out.ext hL.below0)).mono ?_);rintro e W ⟨aa,ca,aw,cw,ar,cr,ak,ck,rfl,HNY,hb⟩;replace hL:=hL.below hb;clear hb hF;have hF:=hL.fx;have HN0:=yh (HNY.out [] (fun y hy=>absurd hy List.not_mem_nil));clear HNY;obtain⟨W1,rfl⟩:∃W1:World,W1=W:=⟨_,rfl⟩;have HB1:=yh (hL.sub sN);clear hL;have hL:=Kn.refl [] W1;clear hF;have hF:=hL.fx))
 refine zE ?_;intro W hL hF
 go_upto_region 8 with((go_at_call 14;refine aj ?_;clear hF hL;intro W hL;have hF:=hL.fx;(with_reducible refine(HMK.out _ _ (HB1.out.t0 hL).below0 (HN0.out.at_ hL)).mono ?_);rintro e W ⟨ao,cap,rfl,HPR,hb⟩;replace hL:=hL.below hb;clear hb hF;have hF:=hL.fx;obtain⟨W2,rfl⟩:∃W2:World,W2=W:=⟨_,rfl⟩;((have HB2:=yh (HB1.out.t0 (hL.sub sN));have ca:W2.cell? ⟨W1.heap.size,6,none⟩=some (.slice ak nl ck):=(aO hL m0 6).trans (by simp);have la:=hL.lt m0;clear hL;have hL:=Kn.refl [] W2;clear hF;have hF:=hL.fx))))
 clear HMK HPE
 go_upto_region 12 with((go_at_call 15;refine aj ?_;clear hF hL;intro W hL;have hF:=hL.fx;(with_reducible refine(HSO.out _ _ (HPR.out.kn (Y:=[]) hL (fun y hy=>absurd hy List.not_mem_nil))).mono ?_);rintro e W ⟨rfl,hb⟩;replace hL:=hL.below hb;clear hb hF;have hF:=hL.fx))
 clear HSO
 go_wp2
 go_loopw [9] (fun i wr=>∃k:Nat,k<=nv/\i=.int .i64 k/\Kn [] W2 wr [(W2.heap.size,.cells #[.slice ao nv cap] 25 (0,0))]) (fun i _=>nv-(intOf i).toNat)
 case atStart=>exact⟨0,Nat.zero_le _,rfl,aE.sub (by repeat' (first|(with_reducible exact List.Sublist.refl _)|apply List.Sublist.cons))⟩
 case round=>
  obtain⟨k,hk,rfl,hK⟩:=hrel;clear hL hF;have hL:=hK;clear hK;have hF:=hL.fx;by_cases hlt:k<nv
  ·obtain⟨x,hx⟩:∃x,C[k]? =some x:=⟨_,List.getElem?_eq_getElem (by rw[HCN.out];exact hlt)⟩
   obtain⟨B,hB⟩:∃B,decide (k+1=nv)=B:=⟨_,rfl⟩;have h1:((x.op:Int)==26)=B:=by rw[<- hB,<- HCN.out,<- HC.out];exact vf HEA.out (by rw[HC.out];exact hx)
   have h2:((k:Int)==(m:Int))=B:=by have hm:=HM1.out;rw[<- hB];by_cases h:k+1=nv<;>simp[h]<;>omega
   have h3:(B != B)=false:=bne_self_eq_false B;obtain⟨gx,ox,vx,hga,gx,glx,cx0,cx1,cx2,cx3,cx4,hpx⟩:=HPR.out.at hx;subst hga;clear gx;obtain⟨ux,hu⟩:∃u:ByteArray,bs x.s=.string u:=⟨_,rfl⟩;rw[hu]at cx3;clear hu;obtain⟨pax,pnx,pcx,hpv⟩:∃a n c,vx=.slice a n c:=by
    obtain⟨a,c,h,_⟩:=id hpx;exact⟨a,_,c,h⟩
   subst hpv;clear hx hpx hB;go_wp2_with (first|(with_reducible refine zS ?_;intro W hL hF)|((with_reducible refine ac 15 ?_);refine zX [0,1,2,3,4,5,6,7,8,9,10,11,12,13] [] ?_ sR;clear hF hL;intro ι F hne hC hG;(repeat(first|(refine cS ?_)|((first|refine cF hC ?_|refine cP ?_);intro K hK;go_big_quiet_op;go_big_quiet_on)|(refine cN ?_;intro W hL;have hF:=hL.fx;go_wp2;refine ai ?_;(first|(refine bH _ (by rfl) ?_;clear hL hC hG;intro ι F hne hC hFF;have hG:=fun n=>(hFF n).fx;clear hFF)|(refine aQ _ (by repeat' (first|(with_reducible exact List.nil_sublist _)|(with_reducible exact List.Sublist.refl _)|(with_reducible apply List.Sublist.cons_cons)|(with_reducible apply List.Sublist.cons))) ?_;clear hL)))));refine zN ?_;clear hC hG;intro W hL hF))
   exact⟨⟨k+1,by omega,by go_num,aE.sub (by repeat' (first|(with_reducible exact List.Sublist.refl _)|apply List.Sublist.cons))⟩,by simp[intOf];omega⟩
  ·clear hk
   go_wp2;go_loopw [10,11] (fun it i wr=>∃(k z:Nat),i=.int .i64 (k:Int)/\it=.int .i64 (z:Int)/\z<=500/\k<=nl/\Hid ((∃y:Nat×Nat,(ts.hd 0 0)[k]? =some y/\z=y.2)\/(k=nl/\(nl=0\/z=0)))/\Kn [] W2 wr [(W2.heap.size,.cells #[.slice ao nv cap] 25 (0,0))]) (fun _ i _=>nl-(intOf i).toNat)
   case atStart=>
    refine⟨0,1,rfl,rfl,by omega,Nat.zero_le _,yh ?_,aE.sub (by repeat' (first|(with_reducible exact List.Sublist.refl _)|apply List.Sublist.cons))⟩
    cases hn:ts.nil? with
    |true=>exact .inr ⟨by rw[<- HNL.out,HNS.out];cases ts with|nil=>rfl|cons x r=>(cases hn),.inl (by rw[<- HNL.out,HNS.out];cases ts with|nil=>rfl|cons x r=>(cases hn))⟩
    |false=>
     obtain⟨y,h1,h2⟩:=sb hn;exact .inl ⟨y,h1,h2.symm⟩
   case round=>
    clear hlt;obtain⟨k,z,rfl,rfl,hz5,hk,HZ,hK⟩:=hrel;clear hL hF;have hL:=hK;clear hK;have hF:=hL.fx;have HHD:Hid ((ts.hd 0 0).length=nl):=yh (by rw[uN,<- HNS.out,HNL.out]);by_cases hlt:k<nl
    ·rcases HZ.out with⟨y,h1,h2⟩|⟨h1,_⟩
     case inr=>omega
     subst h2;obtain⟨x,hx,hx0,hxa,hlt2,hy0,huq,hxb⟩:=xE HEA.out h1;rw[HC.out]at hx huq;have HIC:=yh (fun(W:World) h=>xD C (y.2:Int) y.1 x hx hx0 hxa huq (by rw[HCN.out];omega) (.slice ao nv cap) W h);have hib:=sc (a:=ts) hlt2 (by rw[<- (fw HEA.out).2.1,HC.out];exact hx) hx0;have hyn:y.1<nv:=by rw[<- HCN.out];exact(List.getElem?_eq_some_iff.1 hx).1
     have HXB:=yh hxb;have HIB:=yh hib;have HXA:=yh hxa;have H1:=yh h1;obtain⟨g9,o9,v9,hga,_,gl9,c90,c91,c92,_,_,_⟩:=HPR.out.at hx;subst hga;clear hx hx0 hxa hlt2 huq hxb hib h1 HZ
     cases hn:(ts.hd 0 0)[k+1]? with
     |some y2=>
      have hb2:x.b=(y2.2:Int):=by have h:=HXB.out;rw[hn]at h;exact h
      have hy2:y2.2<=500:=by have h:=HIB.out;have h2:=HXA.out;have h3:=(fz HEA.out).2.2;have h4:=(uO ts 0 0 y2 (List.mem_of_getElem? hn)).2;omega
      rw[hb2]at c92;have HN2:=yh hn;clear hn hb2;go_wp2_with (first|(with_reducible refine zS ?_;intro W hL hF)|(go_at_call 11;refine aj ?_;clear hF hL;intro W hL;have hF:=hL.fx;(with_reducible refine(HIC.out _ (HPR.out.kn hL (fun y hy=>absurd hy List.not_mem_nil))).mono ?_);rintro e W ⟨rfl,hb⟩;replace hL:=hL.below hb;clear hb hF;have hF:=hL.fx))
      exact⟨⟨k+1,y2.2,by go_num,rfl,hy2,by omega,yh (.inl ⟨y2,HN2.out,rfl⟩),aE.sub (by repeat' (first|(with_reducible exact List.Sublist.refl _)|apply List.Sublist.cons))⟩,by simp[intOf];omega⟩
     |none=>
      have hb2:x.b=0:=by have h:=HXB.out;rw[hn]at h;exact h
      rw[hb2]at c92;have hkn:k+1=nl:=by
       have h2:=List.getElem?_eq_none_iff.1 hn;rw[HHD.out]at h2;omega
      clear hn hb2;go_wp2_with (first|(with_reducible refine zS ?_;intro W hL hF)|(go_at_call 11;refine aj ?_;clear hF hL;intro W hL;have hF:=hL.fx;(with_reducible refine(HIC.out _ (HPR.out.kn hL (fun y hy=>absurd hy List.not_mem_nil))).mono ?_);rintro e W ⟨rfl,hb⟩;replace hL:=hL.below hb;clear hb hF;have hF:=hL.fx))
      exact⟨⟨k+1,0,by go_num,rfl,by omega,by omega,yh (.inr ⟨hkn,.inr rfl⟩),aE.sub (by repeat' (first|(with_reducible exact List.Sublist.refl _)|apply List.Sublist.cons))⟩,by simp[intOf];omega⟩
    ·have hkn:k=nl:=by omega
     have hz0:nl=0\/z=0:=by
      rcases HZ.out with⟨y,h1,_⟩|⟨_,h⟩
      ·have h2:=(List.getElem?_eq_some_iff.1 h1).1
       rw[HHD.out]at h2;omega
      ·exact h
     clear HZ;by_cases hn0:nl=0
     ·have e1:((nl:Int)==0)=true:=by rw[hn0];rfl
      go_wp2;refine zF ?_;intro W hL hF;refine bodyPost_ret (by simp[results,Tryz.results4,go_sem, *];try rfl) rfl ?_;exact⟨rfl,(HB2.out.t0 hL).below0⟩
     ·have e1:((nl:Int)==0)=false:=by rw[beq_eq_false_iff_ne];omega
      obtain rfl:z=0:=by omega
      go_wp2;refine zF ?_;intro W hL hF;refine bodyPost_ret (by simp[results,Tryz.results4,go_sem, *];try rfl) rfl ?_;exact⟨rfl,(HB2.out.t0 hL).below0⟩
theorem pE(src:ByteArray)(w:World)(hT:TabP w):Calls Tryz.prog 4 #[.string src] w fun e w'=>e=.returned (.bool true)/\Below w.heap.size w w':=by
 by_cases hs:3000<src.size
 ·exact oc src hs w hT
 have hs:src.size<=3000:=by omega
 cases hp:aH src.data.toList with
 |err f m=>exact pD src hs f m hp w hT
 |ok l=>
  obtain⟨ts,h1,h2⟩:=wN hp;have h3:=Ts.nz_nds ts;have h4:=Ts.nz_ok ts h2;have h5:=Ts.nz_tg ts;by_cases h6:(ax ts.nz).e=0
  ·exact oe src hs ts.nz l hp (by rw[h3,h1]) h4 h5 h6 w hT
  ·exact od src hs ts.nz l hp (by rw[h3,h1]) h4 h5 h6 w hT
end Go.Proofs.YtgboffbbpmileaaGreatDoor
