/- Lemmas and walks for the law VLawPJoins (part 8). -/
import Derived.Test.YtgboffbbpmileaaGreatDoorPy7
import Derived.Test.YtgboffbbpmileaaGreatDoorProg
import Derived.WalkKit
import Derived.Handy
import Derived.Deep.Light
import Derived.WalkSmall
import Derived.StillTailTactics
import Derived.Lib.Hide
import Derived.Deep.LoopGhost
import Derived.Deep.DeepCutAuto
set_option maxRecDepth 20000
set_option maxHeartbeats 4000000
set_option linter.unusedVariables false
set_option linter.unusedSimpArgs false
namespace Go.Proofs.YtgboffbbpmileaaGreatDoor
open Go Go.RowKit
section
theorem i6:∀l:ab,lO l=brk 61 l
 | []=>rfl
 |c::t=>by rw[lO,brk,i6 t]
theorem AA(l:ab):Lib.cut l [61]=match lO l with
 |some (n,v)=>(n,v,true)
 |none=>(l,[],false):=by
 rw[i6]
 unfold Lib.cut
 rw[Lib.index_one]
 rcases iX 61 l with⟨h1,h2⟩|⟨a,r,h1,h2⟩
 ·grind
 ·rw[h1,h2,if_pos (by omega)]
  have h3:=(bB h1).1;simp_all
theorem RowL.rowY{α:Type}{f:α->List Value}{k:Nat}{e:TypeId}{LP K:List (Nat×Obj)}{X Y:List Nat}{w0 w:World}{v:Value}{l:List α}(hf:∀a,(f a).length=k)(h:RowL k e LP v l.length (l.flatMap f))(hk:Kn X w0 w K)(hs:∀p∈LP,p∈K)(hY:∀p∈LP,p.1∉Y):RowY k Y w v (l.map f):=by
 rcases h with⟨_,rfl,h0,h1⟩|⟨g,cap,cur,rfl,rfl,hb⟩
 ·grind[RowY.nil]
 ·refine⟨some ⟨g,0,none⟩,cap,by grind,by rw[List.length_map];exact hb.le,fun j cs hj=>⟨g,0,rfl,hY _ m0,hk.lt (hs _ m0),fun c x hx=>?_⟩⟩
  rw[List.getElem?_map]at hj;obtain⟨a,ha,rfl⟩:=Option.map_eq_some_iff.1 hj;rw[Nat.zero_add,aK hk (hs _ m0)];exact hb.get (gC hf l j c a x ha hx)
theorem dB{W:World}{t:TypeId}{v:Value}{n m c:Nat}{xs news:List Value}{ad:Addr}(hl:news.length=m*3)(hnews:∀j u,news[j]? =some u->W.cell? (ad.add j)=some u)(h1:∀u∈news,u.oneCell'=true)(hs:n+m<=1000000)(ho:W.ownsRow 0 118 3 v n xs):
  ∃v' w',(Builtin.append_ #[29,29] t #[v,.slice (some ad) m c]).run Tryz.prog W=.ok v' w'/\w'.ownsRow 0 118 3 v' (n+m) (xs++news)/\W.grownBy w' v.ownBlock/\(v'.ownBlock=v.ownBlock\/v'.ownBlock=some W.heap.size):=by
 obtain⟨i0,hi,hz0,hz1,hz2⟩:=bu iY
 have:=bA (P:=Tryz.prog) (w:=W) 0 29 t 118 i0 _ Tryz.underlying29 hi hz0 (by rw[hz1];rfl) (by omega) v n xs (by grind) ad m c news (by grind) hnews h1 (by unfold maxLen;omega) (by grind) (Nat.zero_le _)
 grind
def AsgR(W0:World)(r:Option (ab×List Prt))(w:World)(e:Ending)(w':World):Prop:=match r with
 |some (n,p)=>∃LP v,e=.returned (.tuple #[.agg #[bs n,v],.bool true])/\Hid (PRm W0 LP v p)/\Kn [] w w' LP
 |none=>e=.returned (.tuple #[.agg #[.string ⟨#[]⟩,.slice none 0 0],.bool false])/\Below w.heap.size w w'
theorem i7(ao:Option Addr)(cap:Nat)(w:World):Calls Tryz.prog 147 #[.slice ao 0 cap] w fun e w'=>e=.returned (.tuple #[.agg #[.string ⟨#[]⟩,.slice none 0 0],.bool false])/\Below w.heap.size w w':=by
 have hL:Kn [] w w []:=Kn.refl [] w;have hF:=hL.fx;go_enter Tryz.func147,Tryz.ntmps147
 go_wp2
 refine zF ?_;intro W hL hF
 refine bodyPost_ret (by simp[results,Tryz.results147,go_sem, *];try rfl) rfl ?_
 exact⟨rfl,hL.below0⟩
theorem i8(g o n cap:Nat)(hn:0<n)(k:Int)(s:ByteArray)(q:Bool)(w:World)(h0:w.cell? ⟨g,o,none⟩=some (.int .i64 k))(h2:w.cell? ⟨g,o+2,none⟩=some (.bool q))(hk:(k != 0)=true\/q=true):Calls Tryz.prog 147 #[.slice (some ⟨g,o,none⟩) n cap] w fun e w'=>e=.returned (.tuple #[.agg #[.string ⟨#[]⟩,.slice none 0 0],.bool false])/\Below w.heap.size w w':=by
 have hg:=aI h0
 have q0:((n:Int)==0)=false:=beq_false_of_ne (by omega)
 have q1:(n==0)=false:=beq_false_of_ne (by omega)
 obtain⟨k1,hk1⟩:∃z:Bool,(k != 0)=z:=⟨_,rfl⟩
 rw[hk1]at hk
 cases k1<;>cases q<;>(first|(exfalso;revert hk;decide)|(
  clear hk;have hL:Kn [] w w []:=Kn.refl [] w;have hF:=hL.fx;go_enter Tryz.func147,Tryz.ntmps147;go_wp2;refine zF ?_;intro W hL hF;refine bodyPost_ret (by simp[results,Tryz.results147,go_sem, *];try rfl) rfl ?_;exact⟨rfl,hL.below0⟩))
theorem qu(s:ByteArray)(hs:s.size<=1000000)(m:Int)(nm va:ByteArray)(ok:Bool)(h:Hid (Lib.cut s.data.toList [61]=(nm.data.toList,va.data.toList,ok)))(W:World)(hm:W.cell? ⟨1,0,none⟩=some (.int .i64 m)):
  Calls Tryz.prog 167 #[.string s,.string ⟨#[61]⟩] W fun e w'=>e=.returned (.tuple #[.string nm,.string va,.bool ok])/\Below W.heap.size W w':=
 (Tryz.strings_Cut s ⟨#[61]⟩ m W (by omega) hm).mono fun e w' hh=>by
  obtain⟨h1,n,rfl⟩:=hh;rw[h.out]at h1;haveI:=Kn.refl [] W;exact⟨by rw[h1],(kn_drewN [] W W [] n).below0⟩
theorem fy(g o n cap:Nat)(hn:0<n)(s:ByteArray)(hs:s.size<=1000000)(m:Int)(w:World)(h0:w.cell? ⟨g,o,none⟩=some (.int .i64 0))(h1:w.cell? ⟨g,o+1,none⟩=some (.string s))(h2:w.cell? ⟨g,o+2,none⟩=some (.bool false))(hm:w.cell? ⟨1,0,none⟩=some (.int .i64 m))
  (nm va:ByteArray) (ok:Bool) (hc:Hid (Lib.cut s.data.toList [61]=(nm.data.toList,va.data.toList,ok))) (hnm:nm.size<=1000000) (hno:ok=false\/cT nm.data.toList=false):Calls Tryz.prog 147 #[.slice (some ⟨g,o,none⟩) n cap] w fun e w'=>e=.returned (.tuple #[.agg #[.string ⟨#[]⟩,.slice none 0 0],.bool false])/\Below w.heap.size w w':=by
 have hg:=aI h0
 have q0:((n:Int)==0)=false:=beq_false_of_ne (by omega)
 have q1:(n==0)=false:=beq_false_of_ne (by omega)
 have HIN:=yh (fun W=>eO nm hnm W)
 obtain⟨k1,hk1⟩:∃z:Bool,cT nm.data.toList=z:=⟨_,rfl⟩
 rw[hk1]at HIN hno
 have HM:=yh hm
 clear hk1 hm
 cases ok<;>cases k1<;>(first|(exfalso;revert hno;decide)|(
  clear hno;have hL:Kn [] w w []:=Kn.refl [] w;have hF:=hL.fx;go_enter Tryz.func147,Tryz.ntmps147;go_wp2_with (first|(go_at_call 167;refine zC (fun W hL=>qu s hs m nm va _ hc _ (lQ hL HM.out)) ?_;intro W hL hF)|(go_at_call 121;refine zC (fun W hL=>HIN.out _) ?_;intro W hL hF))
  refine zF ?_;intro W hL hF;refine bodyPost_ret (by simp[results,Tryz.results147,go_sem, *];try rfl) rfl ?_;exact⟨rfl,hL.below0⟩))
theorem jG(g o n cap:Nat)(hn:0<n)(hnc:n<=cap)(hn2:n<=100000)(s:ByteArray)(hs:s.size<=1000000)(m:Int)(w:World)(h0:w.cell? ⟨g,o,none⟩=some (.int .i64 0))(h1:w.cell? ⟨g,o+1,none⟩=some (.string s))(h2:w.cell? ⟨g,o+2,none⟩=some (.bool false))(hm:w.cell? ⟨1,0,none⟩=some (.int .i64 m))
  (nm va:ByteArray) (hc:Hid (Lib.cut s.data.toList [61]=(nm.data.toList,va.data.toList,true))) (hnm:nm.size<=1000000) (hyes:cT nm.data.toList=true) (ps rs:List Prt) (hrs:Hid (rs=if va.data.toList.isEmpty then ps else⟨0,va.data.toList,false⟩::ps)) (hps:Hid (ps.length+1=n)) (hrest:Hid (∀j u,(ps.flatMap ptc)[j]? =some u->w.cell? ⟨g,o+3+j,none⟩=some u)):
  Calls Tryz.prog 147 #[.slice (some ⟨g,o,none⟩) n cap] w fun e w'=>∃LP v,e=.returned (.tuple #[.agg #[.string nm,v],.bool true])/\Hid (RowL 3 118 LP v rs.length (rs.flatMap ptc))/\Kn [] w w' LP:=by
 have hg:=aI h0
 have q0:((n:Int)==0)=false:=beq_false_of_ne (by omega)
 have q1:(n==0)=false:=beq_false_of_ne (by omega)
 have HIN:=yh (fun W=>eO nm hnm W)
 rw[hyes]at HIN
 have HM:=yh hm
 clear hm hyes
 obtain⟨k1,hk1⟩:∃z:Bool,va.data.toList.isEmpty=z:=⟨_,rfl⟩
 have HK1:=yh hk1
 have j1:(va.toList==[])=k1:=by rw[Lib.toList_data,<- hk1];cases va.data.toList<;>rfl
 clear hk1
 cases k1
 ·have HPV:=yh (show ptc ⟨0,va.data.toList,false⟩=[.int .i64 0,.string va,.bool false]from by simp[ptc,bs])
  have hL:Kn [] w w []:=Kn.refl [] w;have hF:=hL.fx;go_enter Tryz.func147,Tryz.ntmps147;go_wp2_with (first|(go_at_call 167;refine zC (fun W hL=>qu s hs m nm va _ hc _ (lQ hL HM.out)) ?_;intro W hL hF)|(go_at_call 121;refine zC (fun W hL=>HIN.out _) ?_;intro W hL hF)|(at_builtin;refine zL ?_;intro W hL hF;(refine ah rfl _ _ 29 29 rfl [_,_,_] [] hL 0 1 [] [.int .i64 0,.string va,.bool false] _ _ RowL.nil rfl rfl (fun ho=>dB rfl (fun j u hu=>by rw[Go.WideShapes.add_plain,Nat.zero_add,aK hL m0];simpa using hu) (by intro u hu;simp only[List.mem_cons,List.not_mem_nil,or_false]at hu;rcases hu with rfl|rfl|rfl<;>rfl) (by omega) ho) ?_);intro LP2 a2 c2 W3 hL2 hr2;clear hL hF;have hL:=hL2.sub (List.sublist_cons_self _ _);clear hL2;simp only[List.append_eq,List.cons_append,List.nil_append]at hL;have hF:=hL.fx))
  have hn9:=hps.out;obtain rfl:n=ps.length+1:=hn9.symm;by_cases hc1:cap=1
  ·have HP0:Hid (ps=[]):=yh (List.eq_nil_of_length_eq_zero (by omega))
   go_wp2_with ((with_reducible refine af 9 ?_);refine zX [0,1,2,3,4,5,6] [4,6] ?_ (sC (sC sN));clear hF hL;intro ι F hne hC hG;(repeat(first|((first|refine cF hC ?_|refine cP ?_);intro K hK;go_big_quiet_op;go_big_quiet_on)|(refine cM ?_;intro W hL hF;at_builtin;(refine ah rfl _ _ 29 29 rfl [_,_] LP2 hL 1 ps.length [.int .i64 0,.string va,.bool false] (ps.flatMap ptc) _ _ hr2 rfl rfl (fun ho=>dB (by rw[eK];omega) (fun j u hu=>by rw[HP0.out]at hu;simp at hu) (fun u hu=>by obtain⟨p,_,hp⟩:=List.mem_flatMap.1 hu;exact dc p u hp) (by omega) ho) ?_);intro LP3 a3 c3 W3 hL2 hr3;clear hL hF;have hL:=hL2;clear hL2;simp only[List.append_eq,List.cons_append,List.nil_append]at hL;have hF:=hL.fx;go_wp2;refine zB2 ?_;clear hL hF hC hG;intro ι F hne hC hG)|(refine cM ?_;intro W hL hF;go_wp2;refine zB2 ?_;clear hL hF hC hG;intro ι F hne hC hG)));refine zN ?_;clear hC hG;intro W hL hF)
   refine zF ?_;intro W hL hF;refine bodyPost_ret (by simp[results,Tryz.results147,go_sem, *];try rfl) rfl ?_;have hrs2:=hrs.out;rw[HK1.out]at hrs2;rw[if_neg (by decide)]at hrs2;refine⟨LP3,_,rfl,yh ?_,(hL.sub (List.sublist_cons_self _ _)).sub (List.sublist_cons_self _ _)⟩;have hln:rs.length=1+ps.length:=by rw[hrs2];simp[Nat.add_comm]
   rw[hln];have hfl:rs.flatMap ptc=[.int .i64 0,.string va,.bool false]++ps.flatMap ptc:=by rw[hrs2];simp[ptc,bs]
   rw[hfl];simpa using hr3
  ·go_wp2_with ((with_reducible refine af 9 ?_);refine zX [0,1,2,3,4,5,6] [4,6] ?_ (sC (sC sN));clear hF hL;intro ι F hne hC hG;(repeat(first|((first|refine cF hC ?_|refine cP ?_);intro K hK;go_big_quiet_op;go_big_quiet_on)|(refine cM ?_;intro W hL hF;at_builtin;(refine ah rfl _ _ 29 29 rfl [_,_] LP2 hL 1 ps.length [.int .i64 0,.string va,.bool false] (ps.flatMap ptc) _ _ hr2 rfl rfl (fun ho=>dB (by rw[eK];omega) (fun j u hu=>by rw[Go.WideShapes.add_plain];exact lQ hL (hrest.out j u hu)) (fun u hu=>by obtain⟨p,_,hp⟩:=List.mem_flatMap.1 hu;exact dc p u hp) (by omega) ho) ?_);intro LP3 a3 c3 W3 hL2 hr3;clear hL hF;have hL:=hL2;clear hL2;simp only[List.append_eq,List.cons_append,List.nil_append]at hL;have hF:=hL.fx;go_wp2;refine zB2 ?_;clear hL hF hC hG;intro ι F hne hC hG)|(refine cM ?_;intro W hL hF;go_wp2;refine zB2 ?_;clear hL hF hC hG;intro ι F hne hC hG)));refine zN ?_;clear hC hG;intro W hL hF)
   refine zF ?_;intro W hL hF;refine bodyPost_ret (by simp[results,Tryz.results147,go_sem, *];try rfl) rfl ?_;have hrs2:=hrs.out;rw[HK1.out]at hrs2;rw[if_neg (by decide)]at hrs2;refine⟨LP3,_,rfl,yh ?_,(hL.sub (List.sublist_cons_self _ _)).sub (List.sublist_cons_self _ _)⟩;have hln:rs.length=1+ps.length:=by rw[hrs2];simp[Nat.add_comm]
   rw[hln];have hfl:rs.flatMap ptc=[.int .i64 0,.string va,.bool false]++ps.flatMap ptc:=by rw[hrs2];simp[ptc,bs]
   rw[hfl];simpa using hr3
 ·have hL:Kn [] w w []:=Kn.refl [] w;have hF:=hL.fx;go_enter Tryz.func147,Tryz.ntmps147
  go_wp2_with (first|(go_at_call 167;refine zC (fun W hL=>qu s hs m nm va _ hc _ (lQ hL HM.out)) ?_;intro W hL hF)|(go_at_call 121;refine zC (fun W hL=>HIN.out _) ?_;intro W hL hF))
  have hn9:=hps.out;obtain rfl:n=ps.length+1:=hn9.symm;by_cases hc1:cap=1
  ·have HP0:Hid (ps=[]):=yh (List.eq_nil_of_length_eq_zero (by omega))
   go_wp2_with ((with_reducible refine af 9 ?_);refine zX [0,1,2,3,4,5,6] [4,6] ?_;clear hF hL;intro ι F hne hC hG;(repeat(first|((first|refine cF hC ?_|refine cP ?_);intro K hK;go_big_quiet_op;go_big_quiet_on)|(refine cM ?_;intro W hL hF;at_builtin;(refine ah rfl _ _ 29 29 rfl [_,_] [] hL 0 ps.length [] (ps.flatMap ptc) _ _ RowL.nil rfl rfl (fun ho=>dB (by rw[eK];omega) (fun j u hu=>by rw[HP0.out]at hu;simp at hu) (fun u hu=>by obtain⟨p,_,hp⟩:=List.mem_flatMap.1 hu;exact dc p u hp) (by omega) ho) ?_);intro LP3 a3 c3 W3 hL2 hr3;clear hL hF;have hL:=hL2;clear hL2;simp only[List.append_eq,List.cons_append,List.nil_append]at hL;have hF:=hL.fx;go_wp2;refine zB2 ?_;clear hL hF hC hG;intro ι F hne hC hG)|(refine cM ?_;intro W hL hF;go_wp2;refine zB2 ?_;clear hL hF hC hG;intro ι F hne hC hG)));refine zN ?_;clear hC hG;intro W hL hF)
   refine zF ?_;intro W hL hF;refine bodyPost_ret (by simp[results,Tryz.results147,go_sem, *];try rfl) rfl ?_;have hrs2:=hrs.out;rw[HK1.out]at hrs2;rw[if_pos rfl]at hrs2;refine⟨LP3,_,rfl,yh ?_,(hL.sub (List.sublist_cons_self _ _)).sub (List.sublist_cons_self _ _)⟩;have hln:rs.length=ps.length:=by rw[hrs2]
   rw[hln];have hfl:rs.flatMap ptc=ps.flatMap ptc:=by rw[hrs2]
   rw[hfl];simpa using hr3
  ·go_wp2_with ((with_reducible refine af 9 ?_);refine zX [0,1,2,3,4,5,6] [4,6] ?_;clear hF hL;intro ι F hne hC hG;(repeat(first|((first|refine cF hC ?_|refine cP ?_);intro K hK;go_big_quiet_op;go_big_quiet_on)|(refine cM ?_;intro W hL hF;at_builtin;(refine ah rfl _ _ 29 29 rfl [_,_] [] hL 0 ps.length [] (ps.flatMap ptc) _ _ RowL.nil rfl rfl (fun ho=>dB (by rw[eK];omega) (fun j u hu=>by rw[Go.WideShapes.add_plain];exact lQ hL (hrest.out j u hu)) (fun u hu=>by obtain⟨p,_,hp⟩:=List.mem_flatMap.1 hu;exact dc p u hp) (by omega) ho) ?_);intro LP3 a3 c3 W3 hL2 hr3;clear hL hF;have hL:=hL2;clear hL2;simp only[List.append_eq,List.cons_append,List.nil_append]at hL;have hF:=hL.fx;go_wp2;refine zB2 ?_;clear hL hF hC hG;intro ι F hne hC hG)|(refine cM ?_;intro W hL hF;go_wp2;refine zB2 ?_;clear hL hF hC hG;intro ι F hne hC hG)));refine zN ?_;clear hC hG;intro W hL hF)
   refine zF ?_;intro W hL hF;refine bodyPost_ret (by simp[results,Tryz.results147,go_sem, *];try rfl) rfl ?_;have hrs2:=hrs.out;rw[HK1.out]at hrs2;rw[if_pos rfl]at hrs2;refine⟨LP3,_,rfl,yh ?_,(hL.sub (List.sublist_cons_self _ _)).sub (List.sublist_cons_self _ _)⟩;have hln:rs.length=ps.length:=by rw[hrs2]
   rw[hln];have hfl:rs.flatMap ptc=ps.flatMap ptc:=by rw[hrs2]
   rw[hfl];simpa using hr3
theorem mH{W0:World}{g o cap:Nat}{tvs:List (Tok×Value)}(E:PEnv W0 g o cap tvs){x:Tok×Value}(hx:x∈tvs)(pa:Option Addr)(pn pc:Nat)(hx2:x.2=.slice pa pn pc)(w:World)(hB:Below W0.heap.size W0 w):
  Calls Tryz.prog 147 #[.slice pa pn pc] w (AsgR W0 (aJ x.1.parts) w):=by
 obtain⟨hr,ao,n,cap,hv,hnc⟩:=E.parts x hx
 obtain⟨_,_,_,hw⟩:=E.word x hx
 rw[hx2]at hv
 injection hv with v1 v2 v3
 subst v1 v2 v3
 obtain⟨ao,cap,hv2,hr⟩:=hr
 rw[hx2]at hv2
 injection hv2 with e1 e2 e3
 subst e1 e3
 rw[List.length_map]at e2
 obtain⟨m,hm⟩:=E.mx
 have hm:=bN hm hB
 have hlen:=(E.word x hx).2.2.1
 cases hps:x.1.parts with
 |nil=>
  rw[hps]at e2;rw[show pn=0 from e2];exact(i7 pa pc w).mono fun e w' h=>h
 |cons p ps=>
  rw[hps]at e2 hr hw hlen;obtain⟨g2,o2,epa,hc⟩:=hr 0 (ptc p) rfl;simp only[Nat.zero_mul,Nat.add_zero]at hc;have h0:=bN (hc 0 _ rfl) hB;have h1:=bN (hc 1 _ rfl) hB;have h2:=bN (hc 2 _ rfl) hB;rw[Nat.add_zero]at h0;have hpt:=hw p (by simp);rw[e2]at hnc |-
  rw[epa]at hr |-
  have hn0:0<(p::ps).length:=by simp
  by_cases hk:p.k=0/\p.q=false
  ·obtain⟨hk0,hq⟩:=hk
   have h0':w.cell? ⟨g2,o2,none⟩=some (.int .i64 0):=by grind
   rw[hq]at h2;obtain⟨s,hs⟩:∃s:ByteArray,s.data.toList=p.t:=⟨⟨p.t.toArray⟩,by simp⟩;have hss:s.size<=1000000:=by rw[<- szl,hs];omega
   have h1':w.cell? ⟨g2,o2+1,none⟩=some (.string s):=by rw[h1,<- hs];simp[bs]
   have hcq:=AA s.data.toList
   cases hce:lO s.data.toList with
   |none=>
    rw[hce]at hcq;have ha:aJ (p::ps)=none:=by grind[aJ]
    rw[ha];exact fy g2 o2 _ pc hn0 s hss m w h0' h1' h2 hm s ⟨#[]⟩ false (yh hcq) hss (.inl rfl)
   |some z=>
    obtain⟨n,v⟩:=z;rw[hce]at hcq;obtain⟨nm,hnm⟩:∃s:ByteArray,s.data.toList=n:=⟨⟨n.toArray⟩,by simp⟩;obtain⟨va,hva⟩:∃s:ByteArray,s.data.toList=v:=⟨⟨v.toArray⟩,by simp⟩;have hnl:nm.size<=1000000:=by
     have h9:=(bB ((i6 _).symm.trans hce)).1;rw[<- szl,hnm];grind
    rw[<- hnm,<- hva]at hcq;by_cases hi:cT n=true
    ·have ha:aJ (p::ps)=some (n,if v.isEmpty then ps else⟨0,v,false⟩::ps):=by simp only[aJ];rw[if_pos ⟨hk0,hq⟩,<- hs,hce];simp only[hi,if_true]
     rw[ha];refine(jG g2 o2 _ pc hn0 hnc hlen s hss m w h0' h1' h2 hm nm va (yh hcq) hnl (by rw[hnm];exact hi) ps _ (yh rfl) (yh rfl) (yh fun j u hu=>?_)).mono fun e w' h=>?_
     ·obtain⟨i,c,hi,hc2,rfl⟩:∃i c,i<ps.length/\c<3/\j=i*3+c:=⟨j/3,j % 3,by have:=(List.getElem?_eq_some_iff.1 hu).1;rw[eK]at this;omega,Nat.mod_lt _ (by omega),by omega⟩
      obtain⟨q,hq2⟩:∃q,ps[i]? =some q:=⟨_,List.getElem?_eq_getElem hi⟩;obtain⟨y,hy⟩:∃y,(ptc q)[c]? =some y:=⟨_,List.getElem?_eq_getElem hc2⟩;rw[gC (f:=ptc) (k:=3) (fun _=>rfl) ps i c q y hq2 hy]at hu
      cases hu
      obtain⟨g3,o3,e3,hc3⟩:=hr (i+1) (ptc q) (by grind)
      cases e3
      have:=bN (hc3 c _ hy) hB;rw[show o2+(i+1)*3+c=o2+3+(i*3+c) by omega]at this;exact this
     ·obtain⟨LP,v2,h5,h6,h7⟩:=h
      refine⟨LP,v2,by rw[h5,<- hnm,cR],yh ?_,h7⟩;rw[<- hva];exact RowL.rowM (fun _=>rfl) h6.out (fun _ h=>h)
    ·have ha:aJ (p::ps)=none:=by simp only[aJ];rw[if_pos ⟨hk0,hq⟩,<- hs,hce];simp[hi]
     rw[ha];exact fy g2 o2 _ pc hn0 s hss m w h0' h1' h2 hm nm va true (yh hcq) hnl (.inr (by rw[hnm];simpa using hi))
  ·have ha:aJ (p::ps)=none:=by simp only[aJ];rw[if_neg hk]
   rw[ha];refine i8 g2 o2 _ pc hn0 p.k ⟨#[]⟩ p.q w h0 h2 ?_;by_cases hq:p.q=true
   ·exact .inr hq
   ·refine .inl (bne_iff_ne.2 fun e=>hk ⟨by omega,by simpa using hq⟩)
theorem AB:(Tryz.prog.info? 94).map (fun i=>(i.zero,i.size,i.bytes))=some (some (.agg #[.int .i64 0,.int .i64 0,.slice none 0 0]),3,40):=by kernel_rfl
theorem fq{W:World}{t:TypeId}{v:Value}{n m c:Nat}{xs news:List Value}{ad:Addr}(hl:news.length=m*3)(hnews:∀j u,news[j]? =some u->W.cell? (ad.add j)=some u)(h1:∀u∈news,u.oneCell'=true)(hs:n+m<=1000000)(ho:W.ownsRow 0 94 3 v n xs):
  ∃v' w',(Builtin.append_ #[38,38] t #[v,.slice (some ad) m c]).run Tryz.prog W=.ok v' w'/\w'.ownsRow 0 94 3 v' (n+m) (xs++news)/\W.grownBy w' v.ownBlock/\(v'.ownBlock=v.ownBlock\/v'.ownBlock=some W.heap.size):=by
 obtain⟨i0,hi,hz0,hz1,hz2⟩:=bu AB
 have:=bA (P:=Tryz.prog) (w:=W) 0 38 t 94 i0 _ Tryz.underlying38 hi hz0 (by rw[hz1];rfl) (by omega) v n xs (by grind) ad m c news (by grind) hnews h1 (by unfold maxLen;omega) (by grind) (Nat.zero_le _)
 grind
theorem AC:(Tryz.prog.info? 91).map (fun i=>(i.zero,i.size,i.bytes))=some (some (.agg #[.string ⟨#[]⟩,.slice none 0 0]),2,40):=by kernel_rfl
theorem lA{W:World}{t:TypeId}{v:Value}{n m c:Nat}{xs news:List Value}{ad:Addr}(hl:news.length=m*2)(hnews:∀j u,news[j]? =some u->W.cell? (ad.add j)=some u)(h1:∀u∈news,u.oneCell'=true)(hs:n+m<=1000000)(ho:W.ownsRow 0 91 2 v n xs):
  ∃v' w',(Builtin.append_ #[36,36] t #[v,.slice (some ad) m c]).run Tryz.prog W=.ok v' w'/\w'.ownsRow 0 91 2 v' (n+m) (xs++news)/\W.grownBy w' v.ownBlock/\(v'.ownBlock=v.ownBlock\/v'.ownBlock=some W.heap.size):=by
 obtain⟨i0,hi,hz0,hz1,hz2⟩:=bu AC
 have:=bA (P:=Tryz.prog) (w:=W) 0 36 t 91 i0 _ Tryz.underlying36 hi hz0 (by rw[hz1];rfl) (by omega) v n xs (by grind) ad m c news (by grind) hnews h1 (by unfold maxLen;omega) (by grind) (Nat.zero_le _)
 grind
theorem AD:(Tryz.prog.info? 29).map (fun i=>(i.zero,i.size,i.bytes))=some (some (.slice none 0 0),1,24):=by kernel_rfl
theorem ej{W:World}{t:TypeId}{v:Value}{n m c:Nat}{xs news:List Value}{ad:Addr}(hl:news.length=m*1)(hnews:∀j u,news[j]? =some u->W.cell? (ad.add j)=some u)(h1:∀u∈news,u.oneCell'=true)(hs:n+m<=1000000)(ho:W.ownsRow 0 29 1 v n xs):
  ∃v' w',(Builtin.append_ #[37,37] t #[v,.slice (some ad) m c]).run Tryz.prog W=.ok v' w'/\w'.ownsRow 0 29 1 v' (n+m) (xs++news)/\W.grownBy w' v.ownBlock/\(v'.ownBlock=v.ownBlock\/v'.ownBlock=some W.heap.size):=by
 obtain⟨i0,hi,hz0,hz1,hz2⟩:=bu AD
 have:=bA (P:=Tryz.prog) (w:=W) 0 37 t 29 i0 _ Tryz.underlying37 hi hz0 (by rw[hz1];rfl) (by omega) v n xs (by grind) ad m c news (by grind) hnews h1 (by unfold maxLen;omega) (by grind) (Nat.zero_le _)
 grind
theorem AE:(Tryz.prog.info? 41).map (fun i=>(i.zero,i.size,i.bytes))=some (some (.agg #[.int .i64 0,.string ⟨#[]⟩,.bool false,.slice none 0 0,.slice none 0 0,.slice none 0 0,.slice none 0 0]),7,128):=by kernel_rfl
theorem bV{W:World}{t:TypeId}{v:Value}{n m c:Nat}{xs news:List Value}{ad:Addr}(hl:news.length=m*7)(hnews:∀j u,news[j]? =some u->W.cell? (ad.add j)=some u)(h1:∀u∈news,u.oneCell'=true)(hs:n+m<=1000000)(ho:W.ownsRow 0 41 7 v n xs):
  ∃v' w',(Builtin.append_ #[39,39] t #[v,.slice (some ad) m c]).run Tryz.prog W=.ok v' w'/\w'.ownsRow 0 41 7 v' (n+m) (xs++news)/\W.grownBy w' v.ownBlock/\(v'.ownBlock=v.ownBlock\/v'.ownBlock=some W.heap.size):=by
 obtain⟨i0,hi,hz0,hz1,hz2⟩:=bu AE
 have:=bA (P:=Tryz.prog) (w:=W) 0 39 t 41 i0 _ Tryz.underlying39 hi hz0 (by rw[hz1];rfl) (by omega) v n xs (by grind) ad m c news (by grind) hnews h1 (by unfold maxLen;omega) (by grind) (Nat.zero_le _)
 grind
def cL(W0:World)(g o cap:Nat)(tvs:List (Tok×Value))(f:FuncId)(d:Nat)(p:Pa Nd):Prop:=
 ∀(b i:Nat) (v:Value) (w:World),Below W0.heap.size W0 w->W0.heap.size<=b->Hid (AtV g o cap tvs i v)->w.heap[b]? =some (.cells #[v,.int .i64 (d:Nat)] 73 (0,0))->
  Calls Tryz.prog f #[.pointer (some ⟨b,0,none⟩)] w (db W0 b d g o cap tvs w (p ((TT tvs).drop i)))
theorem RowM.one{k:Nat}{W0:World}{L:List (Nat×Obj)}{g c:Nat}{cs:List Value}{t:TypeId}(hm:(g,Obj.cells cs.toArray t (0,0))∈L)(hc:1<=c):RowM k W0 L (.slice (some ⟨g,0,none⟩) 1 c) [cs]:=
 ⟨_,c,rfl,hc,fun j ds hj=>by
  grind⟩
theorem RowM.two{k:Nat}{W0:World}{L:List (Nat×Obj)}{g c:Nat}{cs ds:List Value}{t:TypeId}(hk:cs.length=k)(hm:(g,Obj.cells (cs++ds).toArray t (0,0))∈L)(hc:2<=c):RowM k W0 L (.slice (some ⟨g,0,none⟩) 2 c) [cs,ds]:=
 ⟨_,c,rfl,hc,fun j es hj=>by
  grind⟩
theorem NodeL.of{W0:World}{L:List (Nat×Obj)}{kind:Nat}{name:ab}{neg:Bool}{ws:List (List Prt×Value)}{ks:List (Nd×List Value)}{vw vk:Value}(h3:RowM 1 W0 L vw (ws.map fun x=>[x.2]))(h4:∀x∈ws,PRm W0 L x.2 x.1)(h7:RowM 7 W0 L vk (ks.map (·.2)))(h8:∀x∈ks,NodeL W0 L x.1 x.2):
  NodeL W0 L (.mk kind name neg [] (ws.map (·.1)) [] (ks.map (·.1))) [.int .i64 kind,bs name,.bool neg,.slice none 0 0,vw,.slice none 0 0,vk]:=
 NodeL.mk kind name neg [] ws [] ks _ _ _ _ RowM.nil (fun x hx=>by cases hx) h3 h4 RowM.nil (fun x hx=>by cases hx) h7 h8
theorem NodeL.one{W0:World}{L:List (Nat×Obj)}{kind:Nat}{name:ab}{neg:Bool}{x:Nd}{cs:List Value}{g c:Nat}(h:NodeL W0 L x cs)(hm:(g,Obj.cells cs.toArray 41 (0,0))∈L)(hc:1<=c):
  NodeL W0 L (.mk kind name neg [] [] [] [x]) [.int .i64 kind,bs name,.bool neg,.slice none 0 0,.slice none 0 0,.slice none 0 0,.slice (some ⟨g,0,none⟩) 1 c]:=
 NodeL.of (ws:=[]) (ks:=[(x,cs)]) RowM.nil (fun x hx=>by cases hx) (RowM.one hm hc) (fun y hy=>by grind)
theorem NodeL.two{W0:World}{L:List (Nat×Obj)}{kind:Nat}{name:ab}{neg:Bool}{x y:Nd}{cs ds:List Value}{g c:Nat}(h:NodeL W0 L x cs)(h2:NodeL W0 L y ds)(hm:(g,Obj.cells (cs++ds).toArray 41 (0,0))∈L)(hc:2<=c):
  NodeL W0 L (.mk kind name neg [] [] [] [x,y]) [.int .i64 kind,bs name,.bool neg,.slice none 0 0,.slice none 0 0,.slice none 0 0,.slice (some ⟨g,0,none⟩) 2 c]:=
 NodeL.of (ws:=[]) (ks:=[(x,cs),(y,ds)]) RowM.nil (fun x hx=>by cases hx) (RowM.two h.len hm hc) (fun z hz=>by
  grind)
theorem i_{W0:World}{L:List (Nat×Obj)}{ks:List (Nd×List Value)}(h:∀x∈ks,NodeL W0 L x.1 x.2){e:TypeId}{LP L':List (Nat×Obj)}{v:Value}(hr:RowL 7 e LP v ks.length (ks.flatMap (·.2)))(hs:∀p∈LP,p∈L'):RowM 7 W0 L' v (ks.map (·.2)):=by
 have hl:∀x∈ks,x.2.length=7:=fun x hx=>(h x hx).len
 rcases hr with⟨_,rfl,h0,h1⟩|⟨g,cap,cur,rfl,rfl,hb⟩
 ·grind[RowM.nil]
 ·refine⟨some ⟨g,0,none⟩,cap,by grind,by rw[List.length_map];exact hb.le,fun j cs hj=>⟨g,0,rfl,.inl ⟨cur,e,hs _ m0,fun c x hx=>?_⟩⟩⟩
  rw[Nat.zero_add];refine hb.get ?_;clear hb h;induction ks generalizing j with
  |nil=>grind
  |cons y r ih=>
   grind
theorem Kn.in1{X:List Nat}{w0 W:World}{p0 p1 p2:Nat×Obj}{LP LC R:List (Nat×Obj)}(h:Kn X w0 W (p0::(LP++(p1::p2::(LC++R))))):Kn X w0 W (p0::p1::p2::((LP++LC)++R)):=h.perm fun p=>by grind
theorem NodeL.r{W0:World}{A B:List (Nat×Obj)}{n:Nd}{cs:List Value}(h:NodeL W0 B n cs):NodeL W0 (A++B) n cs:=h.mono fun p hp=>List.mem_append_right _ hp
theorem NodeL.l{W0:World}{A B:List (Nat×Obj)}{n:Nd}{cs:List Value}(h:NodeL W0 A n cs):NodeL W0 (A++B) n cs:=h.mono fun p hp=>List.mem_append_left _ hp
theorem bE{l:List Tok}{i:Nat}:(l.drop i).tail=l.drop (i+1):=List.tail_drop
def dG:List Oper->Nat->Nat->List Oper
 | [],_,_=>[]
 |o::l,0,p=>{o with after:=o.after.push ⟨p,.data⟩}::l
 |o::l,q+1,p=>o::dG l q p
def s'(p:Nat)(o:Oper):Oper:={o with after:=o.after.push ⟨p,.data⟩}
theorem iG:∀(l:List Oper) (q p:Nat),(dG l q p).length=l.length
 | [],_,_=>rfl
 |o::l,0,p=>rfl
 |o::l,q+1,p=>by rw[dG,List.length_cons,List.length_cons,iG l q p]
theorem iH:∀(l:List Oper) (q p i:Nat),(dG l q p)[i]? =if i=q then(l[i]?).map (s' p)else l[i]?
 | [],q,p,i=>by simp[dG]
 |o::l,0,p,0=>by simp[dG,s']
 |o::l,0,p,i+1=>by simp[dG]
 |o::l,q+1,p,0=>by simp[dG]
 |o::l,q+1,p,i+1=>by
  rw[dG,List.getElem?_cons_succ,iH l q p i,List.getElem?_cons_succ];grind
section
variable {P:Program} {l:List Oper} {Q:Exit->Act->World->Prop} {md:Region.Mode}
theorem dH(q p i:Nat)(listed:Array Bool):i∈Region.ready md (dG l q p).toArray listed↔(i∈Region.ready md l.toArray listed/\(i=q->listed.getD p false=true)):=by
 unfold Region.ready
 simp only[List.mem_filter,List.mem_range,List.size_toArray,iG,List.getElem?_toArray,iH,Bool.and_eq_true]
 by_cases h:i=q
 ·subst h
  simp only[if_true,true_implies]
  cases l[i]? with
  |none=>simp
  |some o=>
   simp only[Option.map_some,s',Option.getD_some,Array.all_push,Bool.and_eq_true];simp only[show Region.binds md ⟨p,.data⟩=true from rfl,Bool.not_true,Bool.false_or];grind
 grind
theorem oG(p:Nat)(ρ:Operand->Value)(o:Oper):execOp ρ (s' p o)=execOp ρ o:=by
 obtain⟨dst,op,type,pos,after,guard⟩:=o
 cases op<;>rfl
theorem AF(p:Nat)(o:Oper)(a:Act)(w:World)(K:Act->World->Prop):(s' p o).wp P a w K Q=o.wp P a w K Q:=by
 unfold Oper.wp
 rw[oG]
 generalize (execOp a.eval o).run P w=r
 cases r with
 |ok n w'=>cases n<;>rfl
 |halt x w'=>cases x<;>rfl
theorem u6(p:Nat)(o:Oper)(a:Act)(w:World):(s' p o).asks P a w=o.asks P a w:=by
 unfold Oper.asks
 rw[oG]
theorem mI(q p:Nat)(t:Array Value):yielded (dG l q p).toArray t=yielded l.toArray t:=by
 funext g
 have e:((dG l q p).toArray[g]?).bind (·.dst)=(l.toArray[g]?).bind (·.dst):=by
  rw[List.getElem?_toArray,List.getElem?_toArray,iH];split
  ·cases l[g]? <;>rfl
  ·rfl
 unfold yielded
 rw[e]
theorem ic(q p:Nat):∀(ord:List Nat) (a:Act) (w:World),wpOps P (dG l q p).toArray Q ord a w↔wpOps P l.toArray Q ord a w
 | [],a,w=>Iff.rfl
 |i::rest,a,w=>by
  have ih:wpOps P (dG l q p).toArray Q rest=wpOps P l.toArray Q rest:=by
   funext a w;exact propext (ic q p rest a w)
  unfold wpOps;rw[List.getElem?_toArray,List.getElem?_toArray,iH,mI,ih];by_cases h:i=q
  ·rw[if_pos h]
   cases l[i]? with
   |none=>grind
   |some o=>
    simp only[Option.map_some,AF,u6];exact Iff.rfl
  grind
def VF(md:Region.Mode)(ops:Array Oper):Nat->Array Bool->List Nat->Prop
 |0,_,ord=>ord=[]
 |f+1,listed,ord=>(Region.ready md ops listed=[]/\ord=[])\/∃i r,ord=i::r/\i∈Region.ready md ops listed/\VF md ops f (listed.setIfInBounds i true) r
theorem u7:∀(f:Nat) (listed:Array Bool) (ord:List Nat) (a:Act) (w:World),wpAny P md l.toArray Q f listed a w->VF md l.toArray f listed ord->wpOps P l.toArray Q ord a w
 |0,listed,ord,a,w,h,hv=>by
  have hv:ord=[]:=hv;subst hv;exact h.2
 |f+1,listed,ord,a,w,h,hv=>by
  rcases hv with⟨h1,rfl⟩|⟨i,r,rfl,h1,h2⟩
  ·exact h.1 h1
  ·rw[wpOps_cons]
   exact wpOp_mono (fun a w hh=>u7 f _ r a w hh h2) (h.2 i h1)
theorem u9(ops:Array Oper):∀(f t:Nat) (listed:Array Bool),VF md ops f listed (Region.linearise.go md ops f t listed [])
 |0,t,listed=>rfl
 |f+1,t,listed=>by
  simp only[Region.linearise.go];change VF md ops (f+1) listed (match(Region.ready md ops listed)[t % (Region.ready md ops listed).length]? with
   |some i=>Region.linearise.go md ops f (t/(Region.ready md ops listed).length) (listed.setIfInBounds i true) [i]
   |none=>[].reverse)
  cases hi:(Region.ready md ops listed)[t % (Region.ready md ops listed).length]? with
  |none=>
   left
   refine⟨?_,rfl⟩
   cases hr:Region.ready md ops listed with
   |nil=>rfl
   |cons x xs=>
    rw[hr]at hi;have hlt:t % (x::xs).length<(x::xs).length:=Nat.mod_lt _ (by simp);grind
  |some i=>
   right
   refine⟨i,Region.linearise.go md ops f (t/(Region.ready md ops listed).length) (listed.setIfInBounds i true) [],?_,List.mem_of_getElem? hi,u9 ops f _ _⟩;show Region.linearise.go md ops f _ _ [i]=_
   rw[linearise_go_acc];rfl
theorem mJ(q p:Nat):∀(f:Nat) (listed:Array Bool) (ord:List Nat),listed.getD p false=true->VF md l.toArray f listed ord->VF md (dG l q p).toArray f listed ord
 |0,listed,ord,hp,h=>h
 |f+1,listed,ord,hp,h=>by
  rcases h with⟨h1,rfl⟩|⟨i,r,rfl,h1,h2⟩
  ·left
   refine⟨List.eq_nil_iff_forall_not_mem.2 fun i hi=>?_,rfl⟩;grind[dH]
  ·right
   refine⟨i,r,rfl,(dH q p i listed).2 ⟨h1,fun _=>hp⟩,mJ q p f _ r ?_ h2⟩;rw[Array.getD_eq_getD_getElem?]at hp |-
   grind
theorem oH(p q:Nat)(hpq:p≠q)(hpl:p<l.length)(hql:q<l.length):∀(f:Nat) (listed:Array Bool) (ord:List Nat),listed.size=l.length->VF md l.toArray f listed ord->VF md (dG l q p).toArray f listed ord\/VF md (dG l p q).toArray f listed ord
 |0,listed,ord,hs,h=>.inl h
 |f+1,listed,ord,hs,h=>by
  rcases h with⟨h1,rfl⟩|⟨i,r,rfl,h1,h2⟩
  ·left;left
   refine⟨List.eq_nil_iff_forall_not_mem.2 fun i hi=>?_,rfl⟩;grind[dH]
  ·by_cases hip:i=p
   ·left;right
    refine⟨i,r,rfl,(dH q p i listed).2 ⟨h1,fun e=>absurd (hip.symm.trans e) hpq⟩,mJ q p f _ r ?_ h2⟩;simp_all
   ·by_cases hiq:i=q
    ·right;right
     refine⟨i,r,rfl,(dH p q i listed).2 ⟨h1,fun e=>absurd e hip⟩,mJ p q f _ r ?_ h2⟩;simp_all
    ·rcases oH p q hpq hpl hql f _ r (by grind) h2 with h3|h3
     ·exact .inl (.inr ⟨i,r,rfl,(dH q p i listed).2 ⟨h1,fun e=>absurd e hiq⟩,h3⟩)
     ·exact .inr (.inr ⟨i,r,rfl,(dH p q i listed).2 ⟨h1,fun e=>absurd e hip⟩,h3⟩)
def gD(P:Program)(l:List Oper)(Q:Exit->Act->World->Prop)(a:Act)(w:World):Prop:=∀ord,VF .any l.toArray l.length (Array.replicate l.length false) ord->wpOps P l.toArray Q ord a w.drew
theorem mK{id:Nat}{a:Act}{w:World}(hm:P.follows .mixedOrders=true)(h:gD P l Q a w):(Code.region id l.toArray true).wp P Q a w:=
 wp_region_draw fun t=>by
  simp only[Region.schedule,hm,Bool.true_or,if_true];have:=h _ (u9 (md:=.any) l.toArray l.length t (Array.replicate l.length false));unfold Region.linearise;simp_all
theorem dL{a:Act}{w:World}(p q:Nat)(hpq:p≠q)(hp:p<l.length)(hq:q<l.length)(h1:gD P (dG l q p) Q a w)(h2:gD P (dG l p q) Q a w):gD P l Q a w:=fun ord hv=>by
 rcases oH p q hpq hp hq _ _ _ (by simp) hv with h|h
 ·have:=h1 ord (by grind[iG])
  grind[ic]
 ·have:=h2 ord (by grind[iG])
  grind[ic]
theorem xZ{a:Act}{w:World}(h:wpAny P .any l.toArray Q l.length (Array.replicate l.length false) a w.drew):gD P l Q a w:=fun ord hv=>u7 _ _ _ _ _ h hv
end
section
variable {P:Program} {X:List Nat} {w0:World} {L Lw:List (Nat×Obj)} {a:Act}
theorem lV{Q:Exit->Act->World->Prop}{w:World}{l:List Oper}[h:Kn X w0 w L](order fls brs pus:List Nat)
  (hB:(Region.noSelect l.toArray&&gv l.length order&&eS .any l.toArray (fun i=>fls.contains i) (fun i=>brs.contains i) (fun i=>pus.contains i) order)=true) (hs:Lw.Sublist L)
  (Qp:List PanicEntry->World->Prop) (hQp:∀ch a' w',a'.defers=a.defers->Qp ch w'->Q (.panic ch) a' w')
  (k:∀(ι:Type) (F:ι->World) [Nonempty ι],(∀w,Kn X w0 w Lw->∃n,w=F n)->(∀n,Kn X w0 (F n) Lw)->cwk P l.toArray (fun i=>fls.contains i) (fun i=>brs.contains i) (fun i=>pus.contains i) (Q .normal) Qp X w0 order a L Lw):gD P l Q a w:=by
 obtain⟨ι,F,hne,h1,h2⟩:=iS X w0 Lw ⟨w,h.sub hs⟩
 refine xZ ?_
 have hk:=k ι F h1 h2
 simp only[Bool.and_eq_true]at hB
 obtain⟨⟨hsel,hp⟩,hok⟩:=hB
 simp only[gv,Bool.and_eq_true,decide_eq_true_eq,List.all_eq_true,List.mem_range,List.contains_iff_mem]at hp
 obtain⟨⟨hp1,hp2⟩,hp3⟩:=hp
 refine gu (md:=.any) (Region.noSelect_spec hsel) hQp _ order _ a w.drew _ _ (by omega) (by simp) (fun j hj=>?_) (fun j hj=>by grind) hok rfl (kn_drew X w0 w L) (fun u hu=>hu.sub hs) hk
 simp_all
theorem cU{Q:Exit->Act->World->Prop}{w:World}{l:List Oper}[h:Kn X w0 w L](order fls brs pus:List Nat)
  (hB:(Region.noSelect l.toArray&&gv l.length order&&eS .any l.toArray (fun i=>fls.contains i) (fun i=>brs.contains i) (fun i=>pus.contains i) order)=true) (hs:Lw.Sublist L)
  (k:∀(ι:Type) (F:ι->World) [Nonempty ι],(∀w,Kn X w0 w Lw->∃n,w=F n)->(∀n,Kn X w0 (F n) Lw)->cwk P l.toArray (fun i=>fls.contains i) (fun i=>brs.contains i) (fun i=>pus.contains i) (Q .normal) (fun _ _=>False) X w0 order a L Lw):gD P l Q a w:=
 lV order fls brs pus hB hs (fun _ _=>False) (fun _ _ _ _ h=>h.elim) k
theorem ie{Q:Exit->Act->World->Prop}{w:World}{l:List Oper}[h:Kn X w0 w L](order fls brs pus:List Nat)
  (hB:(Region.noSelect l.toArray&&gv l.length order&&eS .any l.toArray (fun i=>fls.contains i) (fun i=>brs.contains i) (fun i=>pus.contains i) order)=true) (hs:Lw.Sublist L)
  (k:∀(Qp:List PanicEntry->World->Prop),(∀ch W,(∀a':Act,a'.defers=a.defers->Q (.panic ch) a' W)->Qp ch W)->∀(ι:Type) (F:ι->World) [Nonempty ι],(∀w,Kn X w0 w Lw->∃n,w=F n)->(∀n,Kn X w0 (F n) Lw)->cwk P l.toArray (fun i=>fls.contains i) (fun i=>brs.contains i) (fun i=>pus.contains i) (Q .normal) Qp X w0 order a L Lw):gD P l Q a w:=
 lV order fls brs pus hB hs (fun ch W=>∀a':Act,a'.defers=a.defers->Q (.panic ch) a' W) (fun ch a' w' hd h=>h a' hd) (k _ (fun _ _ h=>h))
end
def rxL:List ByteArray:=[⟨#[60]⟩,⟨#[62]⟩,⟨#[62,62]⟩]
theorem dM{X:List Nat}{w0 W:World}{L:List (Nat×Obj)}{g:Nat}{t:TypeId}(hL:Kn X w0 W L)(hm:(g,Obj.cells #[.string ⟨#[60]⟩,.string ⟨#[62]⟩,.string ⟨#[62,62]⟩] t (0,0))∈L):∀j,j<rxL.length->W.cell? ⟨g,0+j,none⟩=some (.string (rxL.getD j ByteArray.empty)):=fun j hj=>by
 rw[Nat.zero_add,aK hL hm]
 have:j=0\/j=1\/j=2:=by have:rxL.length=3:=rfl;omega
 rcases this with rfl|rfl|rfl<;>rfl
theorem iI(x:ByteArray):∀(zs:List ByteArray) (i:Nat),Lib.idxFromS zs x i= -1\/0<=Lib.idxFromS zs x i
 | [],i=>.inl rfl
 |z::zs,i=>by
  unfold Lib.idxFromS;split
  ·right;omega
  ·exact iI x zs (i+1)
theorem AG(s:ByteArray):(kj s.data.toList:Int)=if decide (Lib.idxOfS rxL s<0)=true then 3 else Lib.idxOfS rxL s:=by
 have ne:∀l:ab,s.data.toList=l↔s=⟨l.toArray⟩:=fun l=>⟨fun h=>by rw[<- h],fun h=>by rw[h]⟩
 by_cases h0:s=⟨#[60]⟩
 ·subst h0;rfl
 ·by_cases h1:s=⟨#[62]⟩
  ·subst h1;rfl
  ·by_cases h2:s=⟨#[62,62]⟩
   ·subst h2;rfl
   ·have e:Lib.idxOfS rxL s= -1:=by
     have h3:Lib.containsS rxL s=false:=by
      rw[Bool.eq_false_iff];intro hh;have:=(Lib.containsS_iff rxL s).1 hh;unfold rxL at this;simp only[List.mem_cons,List.not_mem_nil,or_false]at this;rcases this with h|h|h
      ·exact h0 h
      ·exact h1 h
      ·exact h2 h
     unfold Lib.containsS at h3;have h4:=of_decide_eq_false h3;rcases iI s rxL 0 with h5|h5
     ·exact h5
     ·exact absurd h5 h4
    rw[e];unfold kj;rw[if_neg (fun h=>h0 ((ne _).1 h)),if_neg (fun h=>h1 ((ne _).1 h)),if_neg (fun h=>h2 ((ne _).1 h))];rfl
theorem x7(t:Tok)(ps:List Prt)(kx:Int)(k1 k2:Bool)(h:(kj t.text:Int)=if decide (kx<0)=true then 3 else kx)(h1:decide (kx<0)=k1)(h2:decide (t.fd<0)=k2):((fO t ps).1,((fO t ps).2.1:Int))=(if k2=true then min 1 (if k1=true then 3 else kx)else t.fd,if k1=true then 3 else kx):=by
 rw[h1]at h
 unfold fO
 rw[<- h]
 cases k2 with
 |true=>rw[if_pos (of_decide_eq_true h2),if_pos rfl];simp only[Prod.mk.injEq,and_true];omega
 |false=>rw[if_neg (of_decide_eq_false h2),if_neg (by decide)]
def Ck(tvs:List (Tok×Value))(r:Int×Nat×List Prt)(v0:Value)(_:World):Prop:=∃x pa pn pc,x∈tvs/\x.2=.slice pa pn pc/\v0=.agg #[.int .i64 r.1,.int .i64 (r.2.1:Int),.slice pa pn pc]/\r.2.2=x.1.parts
theorem mL{W0:World}{g o cap:Nat}{tvs:List (Tok×Value)}(E:PEnv W0 g o cap tvs)(b i:Nat)(v:Value)(d:Nat)(w:World)(hB:Below W0.heap.size W0 w)(hbb:W0.heap.size<=b)(hv:Hid (AtV g o cap tvs i v))(hb:w.heap[b]? =some (.cells #[v,.int .i64 (d:Int)] 73 (0,0)))(hne:(TT tvs).drop i≠[]):Calls Tryz.prog 145 #[.pointer (some ⟨b,0,none⟩)] w fun e w'=>mD b d g o cap tvs w (Ck tvs) (dx ((TT tvs).drop i)) e w':=by
 obtain⟨x,pa,pn,pc,hx,hx2⟩:=E.tok hv.out
 have HX:=yh hx
 have HX2:=yh hx2
 obtain⟨f0,f1,f2,f3,f4,f5⟩:=tkF x.1.kind x.1.fd x.1.line ⟨x.1.text.toArray⟩ ⟨x.1.plain.toArray⟩ pa pn pc
 clear hx hx2
 have h4:x.1.kind≠4:=by rcases bI E HX.out with h|h;exact absurd h.1 hne;exact h.2.1
 have hd:dx ((TT tvs).drop i)=(bT ((TT tvs).drop (i+1))).bind fun w r=>.ok (fO x.1 w) r:=by
  rcases bI E HX.out with h|h
  ·exact absurd h.1 hne
  ·rw[h.1];rfl
 rw[hd]
 obtain⟨kx,hkx⟩:∃k,Lib.idxOfS rxL ⟨x.1.text.toArray⟩=k:=⟨_,rfl⟩
 have hrx:=AG ⟨x.1.text.toArray⟩
 rw[hkx]at hrx
 have HRX:=yh hrx
 have HIX:=yh (fun(zb:Nat) (W:World) (h:∀j,j<rxL.length->W.cell? ⟨zb,0+j,none⟩=some (.string (rxL.getD j ByteArray.empty)))=>(Tryz.slices_Index_string zb 0 3 3 rxL ⟨x.1.text.toArray⟩ W (by decide) (by decide) h).mono (R':=fun e w'=>e=.returned (.int .i64 kx)/\w'=W) fun e w' h=>⟨by rw[h.1];exact congrArg _ (congrArg _ hkx),h.2⟩)
 obtain⟨k1,hk1⟩:∃k:Bool,(decide (kx<0))=k:=⟨_,rfl⟩
 obtain⟨k2,hk2⟩:∃k:Bool,(decide (x.1.fd<0))=k:=⟨_,rfl⟩
 have HK1:=yh hk1
 have HK2:=yh hk2
 have H4:=yh h4
 clear hne h4 hd hkx hrx
 have HB0:=yh hB
 have HXB:=yh (xb hbb)
 have hL:Kn [b] w w [(b,.cells #[v,.int .i64 (d:Int)] 73 (0,0))]:=Kn.one hb
 have HBS:=yh hb
 clear hB hb
 have hF:=hL.fx
 have HW:=yh (fun vj (hvj:Hid (AtV g o cap tvs (i+1) vj)) W hB hb=>mG E b (i+1) vj d W hB hbb hvj hb)
 cases hw:bT ((TT tvs).drop (i+1))with
 |bad er m=>
  rw[hw]at HW;clear hw
  cases k1<;>cases k2<;>(
   go_enter Tryz.func145,Tryz.ntmps145;go_wp2_with (first|(with_reducible refine zS ?_;intro W hL hF)|(go_at_call 53;(with_reducible refine zM (fun W hL=>eE E b i v (d:Int) _ (ag HB0.out hL HXB.out) hbb hv hL.h1 HX.out pa pn pc HX2.out H4.out) ?_);rintro W hL e W ⟨rfl,vj,HVJ,hb⟩;replace hL:=hL.jn 1 hb;clear hb;have hF:=hL.fx)|((with_reducible refine af 2 ?_);refine zE ?_;intro W hL hF;refine mK (by kernel_rfl) ?_;refine dL 7 2 (by decide) (by decide) (by decide) ?_ ?_;(focus (dsimp only[dG];refine cU [0,1,3,4,7,2,5,6,8] [0,1,3,4,6] [8] [0,3,6] (by kernel_rfl) sR ?_;clear hF hL;intro ι F hne hC hFF;have hG:=fun n=>(hFF n).fx;clear hFF;(repeat(first|(refine cS ?_)|((first|refine cF hC ?_|refine cP ?_);intro K hK;go_big_quiet_op;go_big_quiet_on)|(refine cD ?_;intro W hL hF;go_at_call 118;(with_reducible refine(HIX.out _ _ (dM hL m0)).mono ?_);rintro e W' ⟨rfl,rfl⟩;refine zO ?_;clear hL hF;simp only[Act.put,zT])|(refine cM ?_;intro W hL hF;go_wp2;(first|(refine zB2 ?_;clear hL hF hC hG;intro ι F hne hC hG)|(refine zO2 ?_;clear hL hF)))));refine zN ?_;clear hC hG;intro W hL hF));rotate_left;(focus (refine dL 7 5 (by decide) (by decide) (by decide) ?_ ?_;(focus (dsimp only[dG];refine cU [0,1,3,4,2,7,5,6,8] [0,1,3,4,6] [8] [0,3,6] (by kernel_rfl) sR ?_;clear hF hL;intro ι F hne hC hFF;have hG:=fun n=>(hFF n).fx;clear hFF;(repeat(first|(refine cS ?_)|((first|refine cF hC ?_|refine cP ?_);intro K hK;go_big_quiet_op;go_big_quiet_on)|(refine cD ?_;intro W hL hF;go_at_call 118;(with_reducible refine(HIX.out _ _ (dM hL m1)).mono ?_);rintro e W' ⟨rfl,rfl⟩;refine zO ?_;clear hL hF;simp only[Act.put,zT])|(refine cM ?_;intro W hL hF;go_wp2;(first|(refine zB2 ?_;clear hL hF hC hG;intro ι F hne hC hG)|(refine zO2 ?_;clear hL hF)))));refine zN ?_;clear hC hG;intro W hL hF));rotate_left;(focus ((dsimp only[dG];refine cU [0,1,3,4,2,5,6,7,8] [0,1,3,4,6] [8] [0,3,6] (by kernel_rfl) sR ?_;clear hF hL;intro ι F hne hC hFF;have hG:=fun n=>(hFF n).fx;clear hFF;(repeat(first|(refine cS ?_)|((first|refine cF hC ?_|refine cP ?_);intro K hK;go_big_quiet_op;go_big_quiet_on)|(refine cD ?_;intro W hL hF;go_at_call 118;(with_reducible refine(HIX.out _ _ (dM hL m0)).mono ?_);rintro e W' ⟨rfl,rfl⟩;refine zO ?_;clear hL hF;simp only[Act.put,zT])|(refine cM ?_;intro W hL hF;go_wp2;(first|(refine zB2 ?_;clear hL hF hC hG;intro ι F hne hC hG)|(refine zO2 ?_;clear hL hF)))));refine zN ?_;clear hC hG;intro W hL hF))))))|(go_at_call 164;(with_reducible refine zM (fun W hL=>HW.out _ HVJ _ (ag HB0.out hL HXB.out) hL.h3) ?_);rintro W hL e W ⟨vj2,dj,rfl,hb⟩;replace hL:=hL.jn 3 hb;clear hb;have hF:=hL.fx))
   all_goals exact⟨rfl,_,_,rfl,hL.sub (by repeat' (first|exact List.Sublist.refl _|apply List.Sublist.cons_cons|apply List.Sublist.cons))⟩)
 |ok ps r=>
  rw[hw]at HW;clear hw
  cases k1<;>cases k2<;>(
   go_enter Tryz.func145,Tryz.ntmps145;go_wp2_with (first|(with_reducible refine zS ?_;intro W hL hF)|(go_at_call 53;(with_reducible refine zM (fun W hL=>eE E b i v (d:Int) _ (ag HB0.out hL HXB.out) hbb hv hL.h1 HX.out pa pn pc HX2.out H4.out) ?_);rintro W hL e W ⟨rfl,vj,HVJ,hb⟩;replace hL:=hL.jn 1 hb;clear hb;have hF:=hL.fx)|((with_reducible refine af 2 ?_);refine zE ?_;intro W hL hF;refine mK (by kernel_rfl) ?_;refine dL 7 2 (by decide) (by decide) (by decide) ?_ ?_;(focus (dsimp only[dG];refine cU [0,1,3,4,7,2,5,6,8] [0,1,3,4,6] [8] [0,3,6] (by kernel_rfl) sR ?_;clear hF hL;intro ι F hne hC hFF;have hG:=fun n=>(hFF n).fx;clear hFF;(repeat(first|(refine cS ?_)|((first|refine cF hC ?_|refine cP ?_);intro K hK;go_big_quiet_op;go_big_quiet_on)|(refine cD ?_;intro W hL hF;go_at_call 118;(with_reducible refine(HIX.out _ _ (dM hL m0)).mono ?_);rintro e W' ⟨rfl,rfl⟩;refine zO ?_;clear hL hF;simp only[Act.put,zT])|(refine cM ?_;intro W hL hF;go_wp2;(first|(refine zB2 ?_;clear hL hF hC hG;intro ι F hne hC hG)|(refine zO2 ?_;clear hL hF)))));refine zN ?_;clear hC hG;intro W hL hF));rotate_left;(focus (refine dL 7 5 (by decide) (by decide) (by decide) ?_ ?_;(focus (dsimp only[dG];refine cU [0,1,3,4,2,7,5,6,8] [0,1,3,4,6] [8] [0,3,6] (by kernel_rfl) sR ?_;clear hF hL;intro ι F hne hC hFF;have hG:=fun n=>(hFF n).fx;clear hFF;(repeat(first|(refine cS ?_)|((first|refine cF hC ?_|refine cP ?_);intro K hK;go_big_quiet_op;go_big_quiet_on)|(refine cD ?_;intro W hL hF;go_at_call 118;(with_reducible refine(HIX.out _ _ (dM hL m1)).mono ?_);rintro e W' ⟨rfl,rfl⟩;refine zO ?_;clear hL hF;simp only[Act.put,zT])|(refine cM ?_;intro W hL hF;go_wp2;(first|(refine zB2 ?_;clear hL hF hC hG;intro ι F hne hC hG)|(refine zO2 ?_;clear hL hF)))));refine zN ?_;clear hC hG;intro W hL hF));rotate_left;(focus ((dsimp only[dG];refine cU [0,1,3,4,2,5,6,7,8] [0,1,3,4,6] [8] [0,3,6] (by kernel_rfl) sR ?_;clear hF hL;intro ι F hne hC hFF;have hG:=fun n=>(hFF n).fx;clear hFF;(repeat(first|(refine cS ?_)|((first|refine cF hC ?_|refine cP ?_);intro K hK;go_big_quiet_op;go_big_quiet_on)|(refine cD ?_;intro W hL hF;go_at_call 118;(with_reducible refine(HIX.out _ _ (dM hL m0)).mono ?_);rintro e W' ⟨rfl,rfl⟩;refine zO ?_;clear hL hF;simp only[Act.put,zT])|(refine cM ?_;intro W hL hF;go_wp2;(first|(refine zB2 ?_;clear hL hF hC hG;intro ι F hne hC hG)|(refine zO2 ?_;clear hL hF)))));refine zN ?_;clear hC hG;intro W hL hF))))))|(go_at_call 164;(with_reducible refine zM (fun W hL=>HW.out _ HVJ _ (ag HB0.out hL HXB.out) hL.h3) ?_);rintro W hL e W ⟨_,j2,v2,rfl,⟨x2,pa2,pn2,pc2,hm2,hq2,rfl,hps⟩,HV2,hb⟩;replace hL:=hL.jn 3 hb;clear hb;have hF:=hL.fx;have g3:=sW x2.1.kind x2.1.fd x2.1.line ⟨x2.1.text.toArray⟩ ⟨x2.1.plain.toArray⟩ pa2 pn2 pc2))
   all_goals (
    refine zF ?_;intro W hL hF;refine bodyPost_ret (by simp[results,Tryz.results145,go_sem, *];try rfl) rfl ?_;exact⟨_,j2,v2,rfl,⟨x2,pa2,pn2,pc2,hm2,hq2,by have hv9:=x7 x.1 ps kx _ _ HRX.out HK1.out HK2.out;rw[(Prod.mk.inj hv9).1,(Prod.mk.inj hv9).2];rfl,hps⟩,HV2,hL.sub (by repeat' (first|exact List.Sublist.refl _|apply List.Sublist.cons_cons|apply List.Sublist.cons))⟩))
theorem oI{f:Nat}{x:Sim}{ts:List Tok}(h2:isK 2 ts=false)(h0:isK 0 ts=false):aM f x ts=.ok x.nd ts:=by
 cases f with
 |zero=>rfl
 |succ f=>
  cases ts with
  |nil=>rfl
  |cons t r=>
   simp only[isK,beq_eq_false_iff_ne,ne_eq]at h2 h0;simp only[aM];rw[if_neg h2,if_neg h0]
theorem kB{f:Nat}{x:Sim}{ts:List Tok}(h2:isK 2 ts=true)(hf:ts.length<=f):∃f',f=f'+1/\aM f x ts=(dx ts).bind fun y r=>aM f' ⟨x.a,x.w,x.r++[y]⟩ r:=by
 cases ts with
 |nil=>cases h2
 |cons t r=>
  cases f with
  |zero=>simp at hf
  |succ f=>
   simp only[isK,beq_iff_eq]at h2;refine⟨f,rfl,?_⟩;simp only[aM];rw[if_pos h2]
theorem qv{f:Nat}{x:Sim}{t:Tok}{r:List Tok}(h0:t.kind=0)(hf:r.length+1<=f):∃f',f=f'+1/\aM f x (t::r)=aM f' (x.word t.parts) r:=by
 cases f with
 |zero=>omega
 |succ f=>
  refine⟨f,rfl,?_⟩;simp only[aM];rw[if_neg (by omega),if_pos h0]
theorem fz{ts:List Tok}{y:Int×Nat×List Prt}{r:List Tok}(h:dx ts=.ok y r):r.length+2<=ts.length:=by
 have:=fu ts
 rw[h]at this
 exact this.2
theorem qx{k:Nat}{W0:World}{L:List (Nat×Obj)}{v:Value}{xs:List (List Value)}(h:RowM k W0 L v xs):∃ao n cap,v=.slice ao n cap:=by
 obtain⟨ao,cap,h1,_⟩:=h;exact⟨ao,_,cap,h1⟩
theorem rA{i g o cap:Nat}{tvs:List (Tok×Value)}{j:Nat}{vj:Value}(h:AtV g o cap tvs j vj){n:Nat}(e:((TT tvs).drop j).length+n<=((TT tvs).drop i).length)(hi:i<tvs.length):i+n<=j:=by
 have h1:=h.1
 rw[List.length_drop,List.length_drop,eX]at e
 omega
theorem u_{W0:World}(av:List ((ab×List Prt)×Value))(wv:List (List Prt×Value))(rv:List ((Int×Nat×List Prt)×Value)){aa aw ar:Option Addr}{ca cw cr:Nat}{LC LA LW LR:List (Nat×Obj)}(HRA:RowL 2 91 LA (.slice aa av.length ca) av.length (av.flatMap asc))(HRW:RowL 1 29 LW (.slice aw wv.length cw) wv.length (wv.flatMap fun x=>[x.2]))(HRR:RowL 3 94 LR (.slice ar rv.length cr) rv.length (rv.flatMap rsc))
  (HPA:∀x∈av,PRm W0 LC x.2 x.1.2) (HPW:∀x∈wv,PRm W0 [] x.2 x.1) (HPR:∀x∈rv,PRm W0 [] x.2 x.1.2.2):NodeL W0 (LC++(LA++(LW++LR))) (Sim.nd ⟨av.map (·.1),wv.map (·.1),rv.map (·.1)⟩) [.int .i64 ((Sim.nd ⟨av.map (·.1),wv.map (·.1),rv.map (·.1)⟩).kind:Int),.string ⟨#[]⟩,.bool (Sim.nd ⟨av.map (·.1),wv.map (·.1),rv.map (·.1)⟩).neg,.slice aa av.length ca,.slice aw wv.length cw,.slice ar rv.length cr,.slice none 0 0]:=by
 have m1:∀p∈LA,p∈LC++(LA++(LW++LR)):=fun p hp=>List.mem_append_right _ (List.mem_append_left _ hp)
 have m2:∀p∈LW,p∈LC++(LA++(LW++LR)):=fun p hp=>List.mem_append_right _ (List.mem_append_right _ (List.mem_append_left _ hp))
 have m3:∀p∈LR,p∈LC++(LA++(LW++LR)):=fun p hp=>List.mem_append_right _ (List.mem_append_right _ (List.mem_append_right _ hp))
 have r1:=RowL.rowM (W0:=W0) (f:=asc) (fun _=>rfl) HRA m1
 have r2:=RowL.rowM (W0:=W0) (f:=fun x:List Prt×Value=>[x.2]) (fun _=>rfl) HRW m2
 have r3:=RowL.rowM (W0:=W0) (f:=rsc) (fun _=>rfl) HRR m3
 show NodeL W0 _ (.mk 0 [] false (av.map (·.1)) (wv.map (·.1)) (rv.map (·.1)) (([]:List (Nd×List Value)).map (·.1))) [.int .i64 ((0:Nat):Int),bs [],.bool false,.slice aa av.length ca,.slice aw wv.length cw,.slice ar rv.length cr,.slice none 0 0]
 exact NodeL.mk 0 [] false av wv rv [] _ _ _ _ r1 (fun x hx=>(HPA x hx).mono (fun p hp=>List.mem_append_left _ hp)) r2 (fun x hx=>(HPW x hx).mono (fun p hp=>by cases hp)) r3 (fun x hx=>(HPR x hx).mono (fun p hp=>by cases hp)) RowM.nil (fun x hx=>by cases hx)
theorem Kn.rot5A{X:List Nat}{w0 W:World}{p0 p1 p2 p3 p4:Nat×Obj}{LC LA LW LR:List (Nat×Obj)}(h:Kn X w0 W (p0::p1::p2::p3::p4::(LC++(LA++(LW++LR))))):Kn X w0 W (p0::p1::p2::p3::p4::((LC++(LW++LR))++LA)):=h.perm fun p=>by simp only[List.countP_cons,List.countP_append];omega
theorem Kn.rot5W{X:List Nat}{w0 W:World}{p0 p1 p2 p3 p4:Nat×Obj}{LC LA LW LR:List (Nat×Obj)}(h:Kn X w0 W (p0::p1::p2::p3::p4::(LC++(LA++(LW++LR))))):Kn X w0 W (p0::p1::p2::p3::p4::((LC++(LA++LR))++LW)):=h.perm fun p=>by simp only[List.countP_cons,List.countP_append];omega
theorem Kn.in3{X:List Nat}{w0 W:World}{p0 p1 p2:Nat×Obj}{LP LC R:List (Nat×Obj)}(h:Kn X w0 W (LP++(p0::p1::p2::(LC++R)))):Kn X w0 W (p0::p1::p2::((LP++LC)++R)):=h.perm fun p=>by simp only[List.countP_cons,List.countP_append];omega
theorem Kn.rot4R{X:List Nat}{w0 W:World}{p0 p1 p2 p3:Nat×Obj}{LC LA LW LR:List (Nat×Obj)}(h:Kn X w0 W (p0::p1::p2::p3::(LC++(LA++(LW++LR))))):Kn X w0 W (p0::p1::p2::p3::((LC++(LA++LW))++LR)):=h.perm fun p=>by simp only[List.countP_cons,List.countP_append];omega
def Cl(W0:World)(r:Option (ab×List Prt))(w:World)(e:Ending)(w':World):Prop:=match r with
 |some z=>∃LP ao k7 c7,e=.returned (.tuple #[.agg #[.string ⟨z.1.toArray⟩,.slice ao k7 c7],.bool true])/\Hid (PRm W0 LP (.slice ao k7 c7) z.2)/\Kn [] w w' LP
 |none=>e=.returned (.tuple #[.agg #[.string ⟨#[]⟩,.slice none 0 0],.bool false])/\Below w.heap.size w w'
theorem AsgR.v{W0:World}{r:Option (ab×List Prt)}{w:World}{e:Ending}{w':World}(h:AsgR W0 r w e w'):Cl W0 r w e w':=by
 cases r with
 |none=>exact h
 |some z=>
  obtain⟨n,p⟩:=z;obtain⟨LP,v,h1,h2,h3⟩:=h;obtain⟨ao,k7,c7,rfl⟩:=qx h2.out;exact⟨LP,ao,k7,c7,h1,h2,h3⟩
theorem vb(av:List ((ab×List Prt)×Value))(wv:List (List Prt×Value))(rv:List ((Int×Nat×List Prt)×Value)){ps:List Prt}(v:Value)(h:aJ ps=none\/((wv.length:Int)==0)=false):Sim.word ⟨av.map (·.1),wv.map (·.1),rv.map (·.1)⟩ ps=⟨av.map (·.1),(wv++[(ps,v)]).map (·.1),rv.map (·.1)⟩:=by
 unfold Sim.word
 rw[List.map_append]
 rcases h with h|h
 ·rw[h];rfl
 ·have:((wv.map (·.1)).isEmpty)=false:=by
   cases wv with
   |nil=>cases h
   |cons x r=>rfl
  cases aJ ps with
  |none=>rfl
  |some y=>simp only[this];rfl
theorem AH(av:List ((ab×List Prt)×Value))(wv:List (List Prt×Value))(rv:List ((Int×Nat×List Prt)×Value)){ps:List Prt}{z:ab×List Prt}(v:Value)(h:aJ ps=some z)(hw:((wv.length:Int)==0)=true):Sim.word ⟨av.map (·.1),wv.map (·.1),rv.map (·.1)⟩ ps=⟨(av++[(z,v)]).map (·.1),wv.map (·.1),rv.map (·.1)⟩:=by
 cases wv with
 |cons x r=>exfalso;rw[beq_iff_eq]at hw;simp at hw;omega
 |nil=>unfold Sim.word;rw[h,List.map_append];rfl
theorem Kn.name{X:List Nat}{w0 W:World}{L L':List (Nat×Obj)}[h:Kn X w0 W L](k:Kn X w0 W L->Kn X w0 W L'):Kn X w0 W L':=k h
theorem bY{α:Type}{P:α->Prop}{l:List α}{x:α}(h:∀y∈l,P y)(hx:P x):∀y∈l++[x],P y:=fun y hy=>by
 rcases List.mem_append.1 hy with hy|hy
 ·exact h y hy
 ·rw[List.mem_singleton.1 hy];exact hx
theorem x8{W0:World}{b d j g o cap:Nat}{tvs:List (Tok×Value)}{w W:World}{vj:Value}(av:List ((ab×List Prt)×Value))(wv:List (List Prt×Value))(rv:List ((Int×Nat×List Prt)×Value)){aa aw ar:Option Addr}{ca cw cr:Nat}{LC LA LW LR:List (Nat×Obj)}(HRA:RowL 2 91 LA (.slice aa av.length ca) av.length (av.flatMap asc))(HRW:RowL 1 29 LW (.slice aw wv.length cw) wv.length (wv.flatMap fun x=>[x.2]))(HRR:RowL 3 94 LR (.slice ar rv.length cr) rv.length (rv.flatMap rsc))
  (HPA:∀x∈av,PRm W0 LC x.2 x.1.2) (HPW:∀x∈wv,PRm W0 [] x.2 x.1) (HPR:∀x∈rv,PRm W0 [] x.2 x.1.2.2) (Hvj:AtV g o cap tvs j vj) {q1 q2:Nat×Obj} (hL:Kn [b] w W ((b,.cells #[vj,.int .i64 (d:Int)] 73 (0,0))::q1::q2::(LC++(LA++(LW++LR))))):
  db W0 b d g o cap tvs w (.ok (Sim.nd ⟨av.map (·.1),wv.map (·.1),rv.map (·.1)⟩) ((TT tvs).drop j)) (.returned (.agg #[.int .i64 0,.string ⟨#[]⟩,.bool false,.slice aa av.length ca,.slice aw wv.length cw,.slice ar rv.length cr,.slice none 0 0])) W:=
 ⟨⟨#[]⟩,aa,av.length,ca,aw,wv.length,cw,ar,rv.length,cr,none,0,0,LC++(LA++(LW++LR)),j,vj,rfl,yh (u_ av wv rv HRA HRW HRR HPA HPW HPR),yh ⟨Hvj,rfl⟩,hL.sub (sC (sD (sD sR)))⟩
theorem AJ{W0:World}{g o cap:Nat}{tvs:List (Tok×Value)}(E:PEnv W0 g o cap tvs){i j:Nat}{y:Tok×Value}(hy:tvs[j]? =some y)(hk:isK 0 ((TT tvs).drop j)=true)(x:Sim)(HF:∃f,((TT tvs).drop j).length<=f/\simple ((TT tvs).drop i)=aM f x ((TT tvs).drop j)):
  y.1.kind≠4/\∃f,((TT tvs).drop (j+1)).length<=f/\simple ((TT tvs).drop i)=aM f (x.word y.1.parts) ((TT tvs).drop (j+1)):=by
 rcases bI E hy with h|⟨hdr,h4,_⟩
 ·rw[h.1]at hk;cases hk
 ·refine⟨h4,?_⟩
  obtain⟨f,hf1,hf⟩:=HF;rw[hdr]at hk hf1 hf;rw[List.length_cons]at hf1;have hy0:y.1.kind=0:=by simpa[isK]using hk
  obtain⟨f2,rfl,hf3⟩:=qv (f:=f) (x:=x) (t:={y.1 with line:=0}) (r:=(TT tvs).drop (j+1)) hy0 hf1;exact⟨f2,by omega,by rw[hf,hf3]⟩
theorem AK{ts r:List Tok}{y:Int×Nat×List Prt}(hk:isK 2 ts=true)(x:Sim){p:PR Nd}(HF:∃f,ts.length<=f/\p=aM f x ts)(hr:dx ts=.ok y r):∃f,r.length<=f/\p=aM f ⟨x.a,x.w,x.r++[y]⟩ r:=by
 obtain⟨f,hf1,hf⟩:=HF
 obtain⟨f2,rfl,hf3⟩:=kB (x:=x) hk hf1
 have:=fz hr
 exact⟨f2,by omega,by rw[hf,hf3,hr];rfl⟩
theorem x_{ts:List Tok}{er m:Nat}(hk:isK 2 ts=true)(x:Sim){p:PR Nd}(HF:∃f,ts.length<=f/\p=aM f x ts)(hr:dx ts=.bad er m):p=.bad er m:=by
 obtain⟨f,hf1,hf⟩:=HF
 obtain⟨f2,rfl,hf3⟩:=kB (x:=x) hk hf1
 rw[hf,hf3,hr];rfl
theorem vc{W0:World}{g o cap:Nat}{tvs:List (Tok×Value)}(E:PEnv W0 g o cap tvs)(b i:Nat)(v:Value)(d:Nat)(w:World)(hB:Below W0.heap.size W0 w)(hbb:W0.heap.size<=b)(hv:Hid (AtV g o cap tvs i v))(hb:w.heap[b]? =some (.cells #[v,.int .i64 (d:Int)] 73 (0,0))):Calls Tryz.prog 123 #[.pointer (some ⟨b,0,none⟩)] w fun e w'=>db W0 b d g o cap tvs w (simple ((TT tvs).drop i)) e w':=by
 obtain⟨x,pa,pn,pc,hx,hx2⟩:=E.tok hv.out
 have HX:=yh hx
 have HX2:=yh hx2
 obtain⟨f0,f1,f2,f3,f4,f5⟩:=tkF x.1.kind x.1.fd x.1.line ⟨x.1.text.toArray⟩ ⟨x.1.plain.toArray⟩ pa pn pc
 clear hx hx2
 obtain⟨k0,hk0⟩:∃z:Bool,((x.1.kind:Int) != 0)=z:=⟨_,rfl⟩
 obtain⟨k2,hk2⟩:∃z:Bool,((x.1.kind:Int) != 2)=z:=⟨_,rfl⟩
 have HS:simple ((TT tvs).drop i)=if(k0&&k2)=true then syn ((TT tvs).drop i)else aM ((TT tvs).drop i).length ⟨[],[],[]⟩ ((TT tvs).drop i):=by
  unfold simple;rw[mE E HX.out 0 (by omega),mE E HX.out 2 (by omega),show((x.1.kind:Int)==((0:Nat):Int))= !k0 from by rw[<- hk0];exact(Bool.not_not _).symm,show((x.1.kind:Int)==((2:Nat):Int))= !k2 from by rw[<- hk2];exact(Bool.not_not _).symm]
  cases k0<;>cases k2<;>rfl
 have hi:=hv.out.1
 have hmx:=E.max
 obtain⟨m,hm⟩:∃m,m=((TT tvs).drop i).length:=⟨_,rfl⟩
 have Hm:=yh hm
 clear hm
 by_cases hkk:(k0&&k2)=true
 ·rw[if_pos hkk]at HS
  rw[HS];clear HS;have HB0:=yh hB;have HXB:=yh (xb hbb);have hL:Kn [b] w w [(b,.cells #[v,.int .i64 (d:Int)] 73 (0,0))]:=Kn.one hb;have HBS:=yh hb;clear hB hb;have hF:=hL.fx;go_enter Tryz.func123,Tryz.ntmps123;obtain⟨rfl,rfl⟩:=(Bool.and_eq_true _ _▸hkk:k0=true/\k2=true);go_wp2_with (first|(with_reducible refine zS ?_;intro W hL hF)|(go_at_call 27;refine zC (fun W hL=>aL E b i v (d:Int) _ (ag HB0.out hL HXB.out) hbb hv hL.h2 HX.out pa pn pc HX2.out) ?_;intro W hL hF)|(go_at_call 28;(with_reducible refine zM (fun W hL=>fW E b i v d _ (ag HB0.out hL HXB.out) hbb hv hL.h2 27 d 1 (yh rfl) m Hm) ?_);rintro W hL e W ⟨vj,dj,rfl,hb⟩;replace hL:=hL.jn 2 hb;clear hb;have hF:=hL.fx))
  exact⟨rfl,_,_,by rw[Hm.out]<;>rfl,hL.sub (by repeat' (first|exact List.Sublist.refl _|apply List.Sublist.cons_cons|apply List.Sublist.cons))⟩
 ·rw[if_neg hkk]at HS
  have HS2:=yh HS;clear HS;have HB0:=yh hB;have HXB:=yh (xb hbb);have hL:Kn [b] w w [(b,.cells #[v,.int .i64 (d:Int)] 73 (0,0))]:=Kn.one hb;have HBS:=yh hb;clear hB hb;have hF:=hL.fx;go_enter Tryz.func123,Tryz.ntmps123;go_upto_region 3 with((go_at_call 27;refine zC (fun W hL=>aL E b i v (d:Int) _ (ag HB0.out hL HXB.out) hbb hv hL.h2 HX.out pa pn pc HX2.out) ?_;intro W hL hF))
  go_cut [17] (fun s wc=>s=.bool false/\Kn [b] w wc ((b,.cells #[v,.int .i64 (d:Int)] 73 (0,0))::(w.heap.size+1,.cells #[.int .i64 0,.string ⟨#[]⟩,.bool false,.slice none 0 0,.slice none 0 0,.slice none 0 0,.slice none 0 0] 41 (0,0))::(w.heap.size,.cells #[.int .i64 0,.string ⟨#[]⟩,.bool false,.slice none 0 0,.slice none 0 0,.slice none 0 0,.slice none 0 0] 41 (0,0))::([])))
  case first=>
   cases k0<;>cases k2
   case true.true=>exact absurd rfl hkk
   all_goals (
    go_wp2;go_meet
    case rel=>exact⟨rfl,hL.pm⟩)
  case rest=>
   clear hL;obtain⟨rfl,hL⟩:=hcut;have hF:=hL.fx;go_wp2;go_loopg [] (tvs.length-i) (fun n wr=>∃(j:Nat) (vj:Value) (av:List ((ab×List Prt)×Value)) (wv:List (List Prt×Value)) (rv:List ((Int×Nat×List Prt)×Value)) (aa aw ar:Option Addr) (ca cw cr:Nat) (LC LA LW LR:List (Nat×Obj)),n=tvs.length-j/\Hid (AtV g o cap tvs j vj)/\Hid (∃f,((TT tvs).drop j).length<=f/\simple ((TT tvs).drop i)=aM f ⟨av.map (·.1),wv.map (·.1),rv.map (·.1)⟩ ((TT tvs).drop j))/\Hid (RowL 2 91 LA (.slice aa av.length ca) av.length (av.flatMap asc))/\Hid (RowL 1 29 LW (.slice aw wv.length cw) wv.length (wv.flatMap fun x=>[x.2]))/\Hid (RowL 3 94 LR (.slice ar rv.length cr) rv.length (rv.flatMap rsc))/\Hid (∀x∈av,PRm W0 LC x.2 x.1.2)/\Hid (∀x∈wv,PRm W0 [] x.2 x.1)/\Hid (∀x∈rv,PRm W0 [] x.2 x.1.2.2)/\av.length+wv.length+rv.length<=j/\j<tvs.length/\Kn [b] w wr ((b,.cells #[vj,.int .i64 (d:Int)] 73 (0,0))::(w.heap.size+1,.cells #[.int .i64 0,.string ⟨#[]⟩,.bool false,.slice aa av.length ca,.slice aw wv.length cw,.slice ar rv.length cr,.slice none 0 0] 41 (0,0))::(w.heap.size,.cells #[.int .i64 0,.string ⟨#[]⟩,.bool false,.slice none 0 0,.slice none 0 0,.slice none 0 0,.slice none 0 0] 41 (0,0))::(LC++(LA++(LW++LR)))))
   case atStart=>exact⟨i,v,[],[],[],none,none,none,0,0,0,[],[],[],[],rfl,hv,yh ⟨_,Nat.le_refl _,HS2.out⟩,yh RowL.nil,yh RowL.nil,yh RowL.nil,yh (by simp),yh (by simp),yh (by simp),by simp,hi,hL.pm⟩
   case round=>
    clear hL;obtain⟨j,vj,av,wv,rv,aa,aw,ar,ca,cw,cr,LC,LA,LW,LR,rfl,Hvj,HF,HRA,HRW,HRR,HPA,HPW,HPR,hsz,hjl,hL⟩:=hrel;have hF:=hL.fx;obtain⟨y,pa9,pn9,pc9,hx9,hx29⟩:=E.tok Hvj.out;have HX9:=yh hx9;have HX29:=yh hx29;obtain⟨f09,f19,f29,f39,f49,f59⟩:=tkF y.1.kind y.1.fd y.1.line ⟨y.1.text.toArray⟩ ⟨y.1.plain.toArray⟩ pa9 pn9 pc9;clear hx9 hx29;obtain⟨e2,he2⟩:∃z:Bool,((y.1.kind:Int)==2)=z:=⟨_,rfl⟩;obtain⟨e0,he0⟩:∃z:Bool,((y.1.kind:Int)==0)=z:=⟨_,rfl⟩;have HK2:=yh ((mE E HX9.out 2 (by omega)).trans he2);have HK0:=yh ((mE E HX9.out 0 (by omega)).trans he0)
    cases e2
    ·cases e0
     ·have hs9:simple ((TT tvs).drop i)=.ok (Sim.nd ⟨av.map (·.1),wv.map (·.1),rv.map (·.1)⟩) ((TT tvs).drop j):=by
       obtain⟨f,_,hf⟩:=HF.out;rw[hf,oI HK2.out HK0.out]
      have HS9:=yh hs9;clear hs9;go_wp2_with (first|(with_reducible refine zS ?_;intro W hL hF)|(go_at_call 27;refine zC (fun W hL=>aL E b j vj (d:Int) _ (ag HB0.out hL HXB.out) hbb Hvj hL.h0 HX9.out pa9 pn9 pc9 HX29.out) ?_;intro W hL hF))
      refine zF ?_;intro W hL hF;refine bodyPost_ret (by simp[results,Tryz.results123,go_sem, *];try rfl) rfl ?_;rw[HS9.out];exact x8 av wv rv HRA.out HRW.out HRR.out HPA.out HPW.out HPR.out Hvj.out hL
     ·have hw9:=AJ E HX9.out HK0.out _ HF.out
      have H49:=yh hw9.1;have HF2:=hw9.2;clear hw9;obtain⟨kw,hkw⟩:∃z:Bool,((wv.length:Int)==0)=z:=⟨_,rfl⟩;have HKW:=yh hkw;have HASG:=yh (fun W (hB:Below W0.heap.size W0 W)=>(mH E (List.mem_of_getElem? HX9.out) pa9 pn9 pc9 HX29.out W hB).mono fun _ _ h=>h.v);have HPT:=yh (fh E (List.mem_of_getElem? HX9.out) (L:=[]));rw[HX29.out]at HPT
      cases has:aJ y.1.parts with
      |none=>
       rw[has]at HASG;rw[vb av wv rv (.slice pa9 pn9 pc9) (.inl has)]at HF2;have HF3:=yh HF2;clear HF2 has;go_wp2_with (first|(with_reducible refine zS ?_;intro W hL hF)|(go_at_call 27;refine zC (fun W hL=>aL E b j vj (d:Int) _ (ag HB0.out hL HXB.out) hbb Hvj hL.h0 HX9.out pa9 pn9 pc9 HX29.out) ?_;intro W hL hF)|(go_at_call 53;(with_reducible refine zM (fun W hL=>eE E b j vj (d:Int) _ (ag HB0.out hL HXB.out) hbb Hvj hL.h0 HX9.out pa9 pn9 pc9 HX29.out H49.out) ?_);rintro W hL e W ⟨rfl,vj2,HVJ2,hb⟩;replace hL:=hL.jn 0 hb;clear hb;have hF:=hL.fx)|(go_at_call 147;refine zC (fun W hL=>HASG.out _ (ag HB0.out hL HXB.out)) ?_;intro W hL hF)|(at_builtin;refine zL ?_;intro W hL hF;replace hL:=hL.rot5W;clear hF;have hF:=hL.fx;(refine ah rfl _ _ 37 37 rfl (_::_::_::_::_::(LC++(LA++LR))) LW hL wv.length 1 (wv.flatMap fun x=>[x.2]) [.slice pa9 pn9 pc9] _ _ HRW.out rfl rfl (fun ho=>ej rfl (fun j u hu=>by rw[Go.WideShapes.add_plain,Nat.zero_add,aK hL m0];simpa using hu) (by intro u hu;simp only[List.mem_cons,List.not_mem_nil,or_false]at hu;subst hu;rfl) (by omega) ho) ?_);intro LP3 a3 c3 W3 hL2 hr3;clear hL hF;have hL:=hL2;clear hL2;simp only[List.append_eq,List.cons_append,List.nil_append]at hL;have hF:=hL.fx))
       go_roundg (tvs.length-(j+1))
       case measure=>have:=HVJ2.out.1;omega
       case rel=>exact⟨j+1,vj2,av,wv++[(y.1.parts,.slice pa9 pn9 pc9)],rv,aa,a3,ar,ca,c3,cr,LC,LA,LP3,LR,rfl,HVJ2,HF3,HRA,yh (by simpa using hr3),HRR,HPA,yh (bY HPW.out HPT.out),HPR,by have:=HVJ2.out.1;simp only[List.length_append,List.length_singleton];omega,by have:=HVJ2.out.1;omega,by refine Kn.name ?_;clear hL;intro hL;simp only[kfb]at hL;simp only[List.length_append,List.length_singleton];exact hL.pm⟩
      |some z=>
       have HAS:=yh has;rw[has]at HASG;clear has
       cases kw
       ·rw[vb av wv rv (.slice pa9 pn9 pc9) (.inr hkw)]at HF2
        have HF3:=yh HF2;clear HF2;go_wp2_with (first|(with_reducible refine zS ?_;intro W hL hF)|(go_at_call 27;refine zC (fun W hL=>aL E b j vj (d:Int) _ (ag HB0.out hL HXB.out) hbb Hvj hL.h0 HX9.out pa9 pn9 pc9 HX29.out) ?_;intro W hL hF)|(go_at_call 53;(with_reducible refine zM (fun W hL=>eE E b j vj (d:Int) _ (ag HB0.out hL HXB.out) hbb Hvj hL.h0 HX9.out pa9 pn9 pc9 HX29.out H49.out) ?_);rintro W hL e W ⟨rfl,vj2,HVJ2,hb⟩;replace hL:=hL.jn 0 hb;clear hb;have hF:=hL.fx)|(go_at_call 147;(with_reducible refine zM (fun W hL=>HASG.out _ (ag HB0.out hL HXB.out)) ?_);rintro W hL e W ⟨LPa,ao7,k7,c7,rfl,HPa,hb⟩;replace hL:=hL.join hb;clear hb;have hF:=hL.fx;replace hL:=hL.in3;clear hF;have hF:=hL.fx)|(at_builtin;refine zL ?_;intro W hL hF;replace hL:=hL.rot5W;clear hF;have hF:=hL.fx;(refine ah rfl _ _ 37 37 rfl (_::_::_::_::_::((LPa++LC)++(LA++LR))) LW hL wv.length 1 (wv.flatMap fun x=>[x.2]) [.slice pa9 pn9 pc9] _ _ HRW.out rfl rfl (fun ho=>ej rfl (fun j u hu=>by rw[Go.WideShapes.add_plain,Nat.zero_add,aK hL m0];simpa using hu) (by intro u hu;simp only[List.mem_cons,List.not_mem_nil,or_false]at hu;subst hu;rfl) (by omega) ho) ?_);intro LP3 a3 c3 W3 hL2 hr3;clear hL hF;have hL:=hL2;clear hL2;simp only[List.append_eq,List.cons_append,List.nil_append]at hL;have hF:=hL.fx))
        go_roundg (tvs.length-(j+1))
        case measure=>have:=HVJ2.out.1;omega
        case rel=>exact⟨j+1,vj2,av,wv++[(y.1.parts,.slice pa9 pn9 pc9)],rv,aa,a3,ar,ca,c3,cr,LPa++LC,LA,LP3,LR,rfl,HVJ2,HF3,HRA,yh (by simpa using hr3),HRR,yh (fun x hx=>(HPA.out x hx).mono fun p hp=>List.mem_append_right _ hp),yh (bY HPW.out HPT.out),HPR,by have:=HVJ2.out.1;simp only[List.length_append,List.length_singleton];omega,by have:=HVJ2.out.1;omega,by refine Kn.name ?_;clear hL;intro hL;simp only[kfb]at hL;simp only[List.length_append,List.length_singleton];exact hL.pm⟩
       ·replace HF2:=yh HF2
        go_wp2_with (first|(with_reducible refine zS ?_;intro W hL hF)|(go_at_call 27;refine zC (fun W hL=>aL E b j vj (d:Int) _ (ag HB0.out hL HXB.out) hbb Hvj hL.h0 HX9.out pa9 pn9 pc9 HX29.out) ?_;intro W hL hF)|(go_at_call 53;(with_reducible refine zM (fun W hL=>eE E b j vj (d:Int) _ (ag HB0.out hL HXB.out) hbb Hvj hL.h0 HX9.out pa9 pn9 pc9 HX29.out H49.out) ?_);rintro W hL e W ⟨rfl,vj2,HVJ2,hb⟩;replace hL:=hL.jn 0 hb;clear hb;have hF:=hL.fx)|(go_at_call 147;(with_reducible refine zM (fun W hL=>HASG.out _ (ag HB0.out hL HXB.out)) ?_);rintro W hL e W ⟨LPa,ao7,k7,c7,rfl,HPa,hb⟩;replace hL:=hL.join hb;clear hb;have hF:=hL.fx;replace hL:=hL.in3;clear hF;have hF:=hL.fx)|(at_builtin;refine zL ?_;intro W hL hF;replace hL:=hL.rot5A;clear hF;have hF:=hL.fx;(refine ah rfl _ _ 36 36 rfl (_::_::_::_::_::((LPa++LC)++(LW++LR))) LA hL av.length 1 (av.flatMap asc) [.string ⟨z.1.toArray⟩,.slice ao7 k7 c7] _ _ HRA.out rfl rfl (fun ho=>lA rfl (fun j u hu=>by rw[Go.WideShapes.add_plain,Nat.zero_add,aK hL m0];simpa using hu) (by intro u hu;simp only[List.mem_cons,List.not_mem_nil,or_false]at hu;rcases hu with rfl|rfl<;>rfl) (by omega) ho) ?_);intro LP3 a3 c3 W3 hL2 hr3;clear hL hF;have hL:=hL2;clear hL2;simp only[List.append_eq,List.cons_append,List.nil_append]at hL;have hF:=hL.fx))
        have HF4:=HF2.out;rw[AH av wv rv (.slice ao7 k7 c7) HAS.out HKW.out]at HF4;have HF3:=yh HF4;clear HF4;go_roundg (tvs.length-(j+1))
        case measure=>have:=HVJ2.out.1;omega
        case rel=>exact⟨j+1,vj2,av++[(z,.slice ao7 k7 c7)],wv,rv,a3,aw,ar,c3,cw,cr,LPa++LC,LP3,LW,LR,rfl,HVJ2,HF3,yh (by simpa[asc,bs]using hr3),HRW,HRR,yh (bY (fun x hx=>(HPA.out x hx).mono fun p hp=>List.mem_append_right _ hp) (HPa.out.mono fun p hp=>List.mem_append_left _ hp)),HPW,HPR,by have:=HVJ2.out.1;simp only[List.length_append,List.length_singleton];omega,by have:=HVJ2.out.1;omega,by refine Kn.name ?_;clear hL;intro hL;simp only[kfb]at hL;simp only[List.length_append,List.length_singleton];exact hL.pm⟩
    ·have HNE:(TT tvs).drop j≠[]:=qj HK2.out
     have HRD:=yh (fun W hB hb=>mL E b j vj d W hB hbb Hvj hb HNE);clear HNE
     cases hr:dx ((TT tvs).drop j)with
     |bad er m2=>
      rw[hr]at HRD;have HB9:=yh (x_ HK2.out _ HF.out hr);clear hr;go_wp2_with (first|(with_reducible refine zS ?_;intro W hL hF)|(go_at_call 27;refine zC (fun W hL=>aL E b j vj (d:Int) _ (ag HB0.out hL HXB.out) hbb Hvj hL.h0 HX9.out pa9 pn9 pc9 HX29.out) ?_;intro W hL hF)|((with_reducible refine af 7 ?_);refine zE ?_;intro W hL hF;refine b' [0,1,2,3,4,5,6,7] [0,1,2,6] [5,7] [0,2,6] (by kernel_rfl) (by kernel_rfl) (sD (sC sN)) ?_;clear hF hL;intro Qp hQp;replace hQp:=yh hQp;intro ι F hne hC hFF;have hG:=fun n=>(hFF n).fx;clear hFF;(repeat(first|(refine cS ?_)|((first|refine cF hC ?_|refine cP ?_);intro K hK;go_big_quiet_op;go_big_quiet_on)|(refine cE ?_;intro W hL hF;go_at_call 145;(with_reducible refine(HRD.out _ (ag HB0.out hL HXB.out) hL.h0).mono ?_);rintro e W ⟨vj2,dj,rfl,hb⟩;replace hL:=hL.jn 0 hb;clear hb hF;have hF:=hL.fx;refine⟨_,rfl,hQp.out _ _ ?_⟩;clear hQp;intro a' ha;simp only[Exit.then,Exit.inBlock];refine⟨ha,?_⟩;show db W0 b d g o cap tvs w (simple ((TT tvs).drop i)) _ _;rw[HB9.out];exact⟨vj2,dj,rfl,hL.pm⟩)|(refine cM ?_;intro W hL hF;go_wp2;refine zB2 ?_;clear hL hC hG;intro ι F hne hC hG)));((done))))
     |ok z r2=>
      rw[hr]at HRD;have HF3:=yh (AK HK2.out _ HF.out hr);have HLN:=yh (fz hr);clear hr;go_wp2_with (first|(with_reducible refine zS ?_;intro W hL hF)|(go_at_call 27;refine zC (fun W hL=>aL E b j vj (d:Int) _ (ag HB0.out hL HXB.out) hbb Hvj hL.h0 HX9.out pa9 pn9 pc9 HX29.out) ?_;intro W hL hF)|((with_reducible refine af 7 ?_);refine zX [0,1,2,3,4,5,6,7] [5,7] ?_ (sD (sC sN));clear hF hL;intro ι F hne hC hG;(repeat(first|(refine cS ?_)|((first|refine cF hC ?_|refine cP ?_);intro K hK;go_big_quiet_op;go_big_quiet_on)|(refine cD ?_;intro W hL hF;go_at_call 145;(with_reducible refine(HRD.out _ (ag HB0.out hL HXB.out) hL.h0).mono ?_);rintro e W ⟨_,j2,vj2,rfl,⟨x2,pa2,pn2,pc2,hm2,hq2,rfl,hps⟩,HV2,hb⟩;replace hL:=hL.jn 0 hb;clear hb hF;have hF:=hL.fx;refine bM ?_;((refine a_ _ (by repeat' (first|(with_reducible exact List.nil_sublist _)|(with_reducible apply List.Sublist.cons_cons)|(with_reducible apply List.Sublist.cons))) ?_;clear hL hF));simp only[Act.put,zT])|(refine cM ?_;intro W hL hF;at_builtin;replace hL:=hL.rot4R;clear hF;have hF:=hL.fx;(refine ah rfl _ _ 38 38 rfl (_::_::_::_::(LC++(LA++LW))) LR hL rv.length 1 (rv.flatMap rsc) [.int .i64 z.1,.int .i64 (z.2.1:Int),.slice pa2 pn2 pc2] _ _ HRR.out rfl rfl (fun ho=>fq rfl (fun j u hu=>by rw[Go.WideShapes.add_plain,Nat.zero_add,aK hL m0];simpa using hu) (by intro u hu;simp only[List.mem_cons,List.not_mem_nil,or_false]at hu;rcases hu with rfl|rfl|rfl<;>rfl) (by omega) ho) ?_);intro LP3 a3 c3 W3 hL2 hr3;clear hL hF;have hL:=hL2;clear hL2;simp only[List.append_eq,List.cons_append,List.nil_append]at hL;have hF:=hL.fx;go_wp2;refine zB2 ?_;clear hL hF hC hG;intro ι F hne hC hG)|(refine cM ?_;intro W hL hF;go_wp2;refine ai ?_;(first|(refine bO _ (by rfl) ?_;clear hL hF hC hG;intro ι F hne hC hFF;have hG:=fun n=>(hFF n).fx;clear hFF)|(refine a_ _ (by repeat' (first|(with_reducible exact List.nil_sublist _)|(with_reducible apply List.Sublist.cons_cons)|(with_reducible apply List.Sublist.cons))) ?_;clear hL hF)))));refine zN ?_;clear hC hG;intro W hL hF))
      go_roundg (tvs.length-j2)
      case measure=>have h8:=HLN.out;rw[HV2.out.2]at h8;have:=rA HV2.out.1 h8 hjl;have:=HV2.out.1.1;omega
      case rel=>exact⟨j2,vj2,av,wv,rv++[(z,.slice pa2 pn2 pc2)],aa,aw,a3,ca,cw,c3,LC,LA,LW,LP3,rfl,yh HV2.out.1,yh (by have h8:=HF3.out;rw[HV2.out.2]at h8;simpa using h8),HRA,HRW,yh (by simpa[rsc]using hr3),HPA,HPW,yh (bY HPR.out (by have:=fh E hm2 (L:=[]);rw[hq2,<- hps]at this;exact this)),by have h8:=HLN.out;rw[HV2.out.2]at h8;have:=rA HV2.out.1 h8 hjl;simp only[List.length_append,List.length_singleton];omega,HV2.out.1.1,by refine Kn.name ?_;clear hL;intro hL;simp only[List.length_append,List.length_singleton];exact hL.pm⟩
end
end Go.Proofs.YtgboffbbpmileaaGreatDoor
