/- Lemmas and walks for the law VLawPJoins (part 5). -/
import Derived.Test.YtgboffbbpmileaaGreatDoorPy4
import Derived.Test.YtgboffbbpmileaaGreatDoorProg
import Derived.WalkKit
import Derived.Handy
import Derived.Deep.Light
import Derived.WalkSmall
import Derived.StillTailTactics
import Derived.Lib.Hide
import Derived.Deep.LoopGhost
import Derived.Laws.IdiomStrings
import Derived.Laws.BytesArg
set_option maxRecDepth 20000
set_option maxHeartbeats 4000000
set_option linter.unusedVariables false
set_option linter.unusedSimpArgs false
namespace Go.Proofs.YtgboffbbpmileaaGreatDoor
open Go Go.RowKit
theorem my(src:ByteArray)(hs:src.size<=100000)(v:Value)(b q:Nat)(at_ ln:Nat)(pv:Value)(LP:List (Nat×Obj))(ps:List Prt)(w:World)(hL:Kn (b::q::keys LP) w w ((b,.cells #[.string src,.int .i64 (at_),.int .i64 (ln),v] 111 (0,0))::(q,.cells #[pv] 135 (0,0))::LP))(hP:PtL LP pv ps)(hln:ln<=100000)(hn:ps.length<=50000)(ht:tot ps<=500000)(qd:Bool)(s t:ab)(hd:src.data.toList.drop at_=36::s)(hst:s=123::t):Calls Tryz.prog 115 #[.pointer (some ⟨b,0,none⟩),.pointer (some ⟨q,0,none⟩),.bool qd] w (gW src v b q (b::q::keys LP) w (aH ps s ln qd)):=by
 obtain⟨i0,hi,hz0,hz1,hz2⟩:=bu iY
 obtain⟨h1,h2,h3⟩:=cu hd
 have hsl:=szl src
 obtain⟨u,hu⟩:∃u,src.extract (at_+1) src.size=u:=⟨_,rfl⟩
 have hul:u.data.toList=s:=by rw[<- hu,bj,List.take_of_length_le (by omega),h2]
 have hus:u.size+(at_+1)=src.size:=by
  have:u.size=src.size-(at_+1):=by rw[<- szl,hul,<- h2,List.length_drop,szl]
  omega
 have hP1:Hid (∀W,Calls Tryz.prog 101 #[.string u,.string ⟨#[40]⟩] W fun e w'=>e=.returned (.bool (decide (s.head? =some 40)))/\w'=W):=yh fun W=>by
  have:=Tryz.strings_HasPrefix u ⟨#[40]⟩ W;rw[show Lib.hasPrefix u.data.toList [40]=_ by rw[hul,hp1]]at this;exact this
 have hP2:Hid (∀W,Calls Tryz.prog 101 #[.string u,.string ⟨#[123]⟩] W fun e w'=>e=.returned (.bool (decide (s.head? =some 123)))/\w'=W):=yh fun W=>by
  have:=Tryz.strings_HasPrefix u ⟨#[123]⟩ W;rw[show Lib.hasPrefix u.data.toList [123]=_ by rw[hul,hp1]]at this;exact this
 have hds:aH ps s ln qd=match brk 125 t with
  |none=>.bad ln
  |some (a,r)=>if a=[]\/bw a≠a.length then .bad ln else .ok (ps++[⟨1,a,qd⟩],r,ln):=by
  unfold aH;rw[hst,if_neg (by simp),if_pos (by rfl)];rfl
 have e1:decide (s.head? =some 40)=false:=by rw[hst];rfl
 have e2:decide (s.head? =some 123)=true:=by rw[hst];rfl
 rw[e1]at hP1
 rw[e2]at hP2
 clear e1 e2
 have hix:Lib.indexByte s 125=if Lib.indexByte t 125== -1 then -1 else Lib.indexByte t 125+1:=by rw[hst,Lib.indexByte,show((123:UInt8)==125)=false from rfl];rfl
 rw[hds]
 rcases iX 125 t with⟨hb1,hb2⟩|⟨a,r,hb1,hb2⟩
 ·rw[hb1]
  rw[hb2]at hix;have hI:Hid (∀W,Calls Tryz.prog 81 #[.string u,.int .u8 125] W fun e w'=>e=.returned (.int .i64 (-1))/\w'=W):=yh fun W=>ct u 125 (-1) (by rw[hul,hix];rfl) 125 rfl W
  clear hds h1 h2 hd hul hix hst hb1 hb2;have hF:=hL.fx;go_enter Tryz.func115,Tryz.ntmps115;go_wp2_with (first|(with_reducible refine zS ?_;intro W hL hF)|(go_at_call 101;(((first|(with_reducible refine(hP1.out _).mono ?_)|(with_reducible refine(hP2.out _).mono ?_))));rintro e w' ⟨rfl,rfl⟩)|(go_at_call 81;(with_reducible refine(hI.out _).mono ?_);rintro e w' ⟨rfl,rfl⟩)|((with_reducible refine af 0 ?_);refine zQ ?_;clear hF hL;intro ι F hne hG;(repeat go_big_quiet_step (fail));refine wpQuiet_nil ?_;clear hG;intro W hL hF)|(go_at_call 112;(with_reducible refine zM (fun W hL=>iZ b ln _) ?_);rintro W hL e W ⟨rfl,rfl⟩))
  exact⟨rfl,rfl,hL.sub sN⟩
 ·rw[hb1]
  rw[hb2]at hix;obtain⟨n,hn1⟩:∃n,n=a.length+1:=⟨_,rfl⟩;obtain⟨htt,_⟩:=bB hb1;have hI:Hid (∀W,Calls Tryz.prog 81 #[.string u,.int .u8 125] W fun e w'=>e=.returned (.int .i64 (n:Int))/\w'=W):=yh fun W=>ct u 125 n (by rw[hul,hix,hn1,beq_false_of_ne (by omega)];simp) 125 rfl W
  have hnu:n+1<=u.size:=by rw[<- szl,hul,hst,htt,hn1];simp
  have hnu1:n<=u.size:=by omega
  have hnu2:1<=n:=by omega
  have hnu3:(1:Int)<=n:=by omega
  have hnu4:(n:Int)<=u.size:=by omega
  have hnu5:(0:Int)<=n:=by omega
  show Calls _ _ _ _ (gW src v b q (b::q::keys LP) w (if a=[]\/bw a≠a.length then .bad ln else .ok (ps++[⟨1,a,qd⟩],r,ln)))
  by_cases ha:a=[]
  ·rw[if_pos (.inl ha)]
   have q0:(n:Int)<2:=by rw[hn1,ha];simp
   clear hds h1 h2 hd hul hix hst hb1 hb2 hn1 htt;have hF:=hL.fx;go_enter Tryz.func115,Tryz.ntmps115;go_wp2_with (first|(with_reducible refine zS ?_;intro W hL hF)|(go_at_call 101;(((first|(with_reducible refine(hP1.out _).mono ?_)|(with_reducible refine(hP2.out _).mono ?_))));rintro e w' ⟨rfl,rfl⟩)|(go_at_call 81;(with_reducible refine(hI.out _).mono ?_);rintro e w' ⟨rfl,rfl⟩)|((with_reducible refine af 0 ?_);refine zQ ?_;clear hF hL;intro ι F hne hG;(repeat go_big_quiet_step (fail));refine wpQuiet_nil ?_;clear hG;intro W hL hF)|(go_at_call 112;(with_reducible refine zM (fun W hL=>iZ b ln _) ?_);rintro W hL e W ⟨rfl,rfl⟩))
   exact⟨rfl,rfl,hL.sub sN⟩
  have hal:0<a.length:=List.length_pos_iff.2 ha;have q0:¬(n:Int)<2:=by omega
  obtain⟨u3,hu3⟩:∃u3,u.extract 1 n=u3:=⟨_,rfl⟩;have hul3:u3.data.toList=a:=by rw[<- hu3,bj,hul,List.drop_take,hst,htt,hn1];simp
  have hus3:u3.size<=100000:=by rw[<- szl,hul3];omega
  obtain⟨m,hm⟩:∃m,bw a=m:=⟨_,rfl⟩;have hPm:Hid (∀W,Calls Tryz.prog 126 #[.string u3] W fun e w'=>e=.returned (.int .i64 (m:Int))/\Below W.heap.size W w'):=yh fun W=>by
   have:=kp u3 (by omega) W;rw[hul3,hm]at this;exact this
  have r1:IntKind.i64.wrap ((n:Int)-1)=(n:Int)-1:=by rw[IntWalk.i64_in _ (by omega)]
  by_cases hma:m=a.length
  ·rw[if_neg (by rw[hm];exact fun h=>h.elim ha fun h=>h hma)]
   have q1:((m:Int)==(n:Int)-1)=true:=beq_iff_eq.2 (by omega);have q2:((m:Int) != (n:Int)-1)=false:=by rw[bne,q1];rfl
   have hxx:src.data.toList.drop at_=(36::123::(a++[125]))++r:=by rw[hd,hst,htt];simp
   have hlf:lf (36::123::(a++[125]))=0:=by
    have:=oh (hm.trans hma);simp[lf,List.count_cons,List.count_append];simpa[lf]using this
   have HX:=yh hxx;have hxl:(36::123::(a++[125]):ab).length=a.length+3:=by simp
   obtain⟨hc1,hc2,hc3⟩:=eH hxx;have hc4:=hc3 (by simp);have HL:=yh hlf;have HC:=yh hc2;have HN:=yh hn1;have hn2:(n:Int)+2=a.length+3:=by omega
   clear hds h1 h2 hd hul hix hst hb1 hb2 htt hxx hlf hc1 hc2 hc3 hm hn1 hma;rcases hP with⟨rfl,rfl,rfl⟩|⟨g,cap,cur,rfl,rfl,hr⟩
   ·have hF:=hL.fx
    go_enter Tryz.func115,Tryz.ntmps115;go_wp2_with (first|(with_reducible refine zS ?_;intro W hL hF)|(go_at_call 101;(((first|(with_reducible refine(hP1.out _).mono ?_)|(with_reducible refine(hP2.out _).mono ?_))));rintro e w' ⟨rfl,rfl⟩)|(go_at_call 81;(with_reducible refine(hI.out _).mono ?_);rintro e w' ⟨rfl,rfl⟩)|(go_at_call 126;refine zC (fun W hL=>hPm.out _) ?_;intro W hL hF)|((with_reducible refine af 0 ?_);refine zQ ?_;clear hF hL;intro ι F hne hG;(repeat go_big_quiet_step (fail));refine wpQuiet_nil ?_;clear hG;intro W hL hF)|((with_reducible refine af 13 ?_);refine zX [0,1,2,3,4,5,6,7,8,9,10,11,12] [10,12] ?_;clear hF hL;intro ι F hne hC hG;(repeat(first|((first|refine cF hC ?_|refine cP ?_);intro K hK;go_big_quiet_op;go_big_quiet_on)|(refine cM ?_;intro W hL hF;at_builtin;refine bJ rfl _ _ 135 rfl 118 i0 _ Tryz.underlying135 hi hz0 (by rw[hz1];rfl) (by rw[hz1];decide) hL rfl _ _ _ (ptc ⟨1,u3.data.toList,qd⟩) rfl (by rw[hz1];rfl) (fun j u hu=>by rw[Go.WideShapes.add_plain,Nat.zero_add,World.cell?,hL.has _ m0];simpa[ptc,cR]using hu) (dc _) (by unfold maxLen;omega) (by rw[hz2];omega) (by omega) ?_;intro g2 cap2 cur2 W2 hL2 hg2 hr2;clear hL hF;have hL:=hL2;clear hL2;have hF:=hL.fx;go_wp2;refine zB2 ?_;clear hL hF hC hG;intro ι F hne hC hG)|(refine cM ?_;intro W hL hF;go_wp2;(first|(refine zB2 ?_;clear hL hF hC hG;intro ι F hne hC hG)|(refine zO2 ?_;clear hL hF)))));refine zN ?_;clear hC hG;intro W hL hF)|(go_at_call 80;(with_reducible refine zM (fun W hL=>bm src at_ (36::123::(a++[125])) r ln v b _ hL.h2 HX.out (by simp) hs (by omega) _ (by(simp;omega))) ?_);rintro W hL e W ⟨rfl,hb⟩;replace hL:=hL.jn 2 hb;clear hb;have hF:=hL.fx))
    rw[HL.out]at hL;go_end0
    rw[hz1]at hr2;rw[hul3]at hr2;refine⟨rfl,at_+((36::123::(a++[125]))).length,.slice (some ⟨g2,0,none⟩) (1) cap2,[(g2,.cells cur2 118 (0,0))],by rw[szl]at hc4;exact hc4,HC.out,.inr ⟨g2,cap2,cur2,rfl,by simp,by simpa using hr2⟩,hL.pick (by simp) ?_⟩;have:=hL.nd;(simp at this |-);grind
   ·have hF:=hL.fx
    go_enter Tryz.func115,Tryz.ntmps115;go_wp2_with (first|(with_reducible refine zS ?_;intro W hL hF)|(go_at_call 101;(((first|(with_reducible refine(hP1.out _).mono ?_)|(with_reducible refine(hP2.out _).mono ?_))));rintro e w' ⟨rfl,rfl⟩)|(go_at_call 81;(with_reducible refine(hI.out _).mono ?_);rintro e w' ⟨rfl,rfl⟩)|(go_at_call 126;refine zC (fun W hL=>hPm.out _) ?_;intro W hL hF)|((with_reducible refine af 0 ?_);refine zQ ?_;clear hF hL;intro ι F hne hG;(repeat go_big_quiet_step (fail));refine wpQuiet_nil ?_;clear hG;intro W hL hF)|((with_reducible refine af 13 ?_);refine zX [0,1,2,3,4,5,6,7,8,9,10,11,12] [10,12] ?_ (sC (sC (sD sR)));clear hF hL;intro ι F hne hC hG;(repeat(first|((first|refine cF hC ?_|refine cP ?_);intro K hK;go_big_quiet_op;go_big_quiet_on)|(refine cM ?_;intro W hL hF;at_builtin;refine bg rfl _ _ 135 rfl 118 i0 _ Tryz.underlying135 hi hz0 (by rw[hz1];rfl) (by rw[hz1];decide) hL 3 _ _ _ _ _ rfl (by rw[hz1];exact hr) rfl _ _ _ (ptc ⟨1,u3.data.toList,qd⟩) rfl (by rw[hz1];rfl) (fun j u hu=>by rw[Go.WideShapes.add_plain,Nat.zero_add,World.cell?,hL.has _ m0];simpa[ptc,cR]using hu) (dc _) (by unfold maxLen;omega) (by rw[hz2];omega) (by omega) ?_;intro g2 cap2 cur2 W2 hL2 hr2;clear hL hF;have hL:=hL2;clear hL2;simp only[List.eraseIdx_cons_zero,List.eraseIdx_cons_succ]at hL;have hF:=hL.fx;go_wp2;refine zB2 ?_;clear hL hF hC hG;intro ι F hne hC hG)|(refine cM ?_;intro W hL hF;go_wp2;refine ai ?_;(first|(refine bO _ (by rfl) ?_;clear hL hF hC hG;intro ι F hne hC hFF;have hG:=fun n=>(hFF n).fx;clear hFF)|(refine a_ _ (by repeat' (first|(with_reducible exact List.Sublist.refl _)|(with_reducible apply List.Sublist.cons_cons)|(with_reducible apply List.Sublist.cons))) ?_;clear hL hF)))));refine zN ?_;clear hC hG;intro W hL hF)|(go_at_call 80;(with_reducible refine zM (fun W hL=>bm src at_ (36::123::(a++[125])) r ln v b _ hL.h2 HX.out (by simp) hs (by omega) _ (by(simp;omega))) ?_);rintro W hL e W ⟨rfl,hb⟩;replace hL:=hL.jn 2 hb;clear hb;have hF:=hL.fx))
    rw[HL.out]at hL;go_end0
    rw[hz1]at hr2;rw[hul3]at hr2;refine⟨rfl,at_+((36::123::(a++[125]))).length,.slice (some ⟨g2,0,none⟩) (ps.length+1) cap2,[(g2,.cells cur2 118 (0,0))],by rw[szl]at hc4;exact hc4,HC.out,.inr ⟨g2,cap2,cur2,rfl,by simp,by simpa using hr2⟩,hL.pick (by simp) ?_⟩;have:=hL.nd;(simp at this |-);grind
  ·rw[if_pos (.inr (by rw[hm];exact hma))]
   have q1:((m:Int)==(n:Int)-1)=false:=beq_false_of_ne (by omega);have q2:((m:Int) != (n:Int)-1)=true:=by rw[bne,q1];rfl
   clear hds h1 h2 hd hul hix hst hb1 hb2 htt hm hn1;have hF:=hL.fx;go_enter Tryz.func115,Tryz.ntmps115;go_wp2_with (first|(with_reducible refine zS ?_;intro W hL hF)|(go_at_call 101;(((first|(with_reducible refine(hP1.out _).mono ?_)|(with_reducible refine(hP2.out _).mono ?_))));rintro e w' ⟨rfl,rfl⟩)|(go_at_call 81;(with_reducible refine(hI.out _).mono ?_);rintro e w' ⟨rfl,rfl⟩)|(go_at_call 126;refine zC (fun W hL=>hPm.out _) ?_;intro W hL hF)|((with_reducible refine af 0 ?_);refine zQ ?_;clear hF hL;intro ι F hne hG;(repeat go_big_quiet_step (fail));refine wpQuiet_nil ?_;clear hG;intro W hL hF)|(go_at_call 112;(with_reducible refine zM (fun W hL=>iZ b ln _) ?_);rintro W hL e W ⟨rfl,rfl⟩))
   exact⟨rfl,rfl,hL.sub sN⟩
theorem mA(src:ByteArray)(hs:src.size<=100000)(v:Value)(b q:Nat)(at_ ln:Nat)(pv:Value)(LP:List (Nat×Obj))(ps:List Prt)(w:World)(hL:Kn (b::q::keys LP) w w ((b,.cells #[.string src,.int .i64 (at_),.int .i64 (ln),v] 111 (0,0))::(q,.cells #[pv] 135 (0,0))::LP))(hP:PtL LP pv ps)(hln:ln<=100000)(hn:ps.length<=50000)(ht:tot ps<=500000)(qd:Bool)(s:ab)(hd:src.data.toList.drop at_=36::s)(e1:s.head? ≠some 40)(e2:s.head? ≠some 123)(hpos:0<bw s):Calls Tryz.prog 115 #[.pointer (some ⟨b,0,none⟩),.pointer (some ⟨q,0,none⟩),.bool qd] w (gW src v b q (b::q::keys LP) w (aH ps s ln qd)):=by
 obtain⟨i0,hi,hz0,hz1,hz2⟩:=bu iY
 obtain⟨h1,h2,h3⟩:=cu hd
 have hsl:=szl src
 obtain⟨u,hu⟩:∃u,src.extract (at_+1) src.size=u:=⟨_,rfl⟩
 have hul:u.data.toList=s:=by rw[<- hu,bj,List.take_of_length_le (by omega),h2]
 have hus:u.size+(at_+1)=src.size:=by
  have:u.size=src.size-(at_+1):=by rw[<- szl,hul,<- h2,List.length_drop,szl]
  omega
 have hP1:Hid (∀W,Calls Tryz.prog 101 #[.string u,.string ⟨#[40]⟩] W fun e w'=>e=.returned (.bool (decide (s.head? =some 40)))/\w'=W):=yh fun W=>by
  have:=Tryz.strings_HasPrefix u ⟨#[40]⟩ W;rw[show Lib.hasPrefix u.data.toList [40]=_ by rw[hul,hp1]]at this;exact this
 have hP2:Hid (∀W,Calls Tryz.prog 101 #[.string u,.string ⟨#[123]⟩] W fun e w'=>e=.returned (.bool (decide (s.head? =some 123)))/\w'=W):=yh fun W=>by
  have:=Tryz.strings_HasPrefix u ⟨#[123]⟩ W;rw[show Lib.hasPrefix u.data.toList [123]=_ by rw[hul,hp1]]at this;exact this
 have hds:aH ps s ln qd=.ok (ps++[⟨1,s.take (bw s),qd⟩],s.drop (bw s),ln):=by
  unfold aH;rw[if_neg e1,if_neg e2,if_pos hpos]
 rw[decide_eq_false e1]at hP1
 rw[decide_eq_false e2]at hP2
 rw[hds]
 have hlf0:lf (s.take (bw s))=0:=by
  obtain⟨_,_,h⟩:=nQ hpos;exact oh h
 have hle:=iA s
 obtain⟨m,hm⟩:∃m,bw s=m:=⟨_,rfl⟩
 obtain⟨a,ha⟩:∃a,s.take (bw s)=a:=⟨_,rfl⟩
 obtain⟨r,hr0⟩:∃r,s.drop (bw s)=r:=⟨_,rfl⟩
 rw[ha]at hlf0 |-
 rw[hr0]
 have hsr:s=a++r:=by rw[<- ha,<- hr0,List.take_append_drop]
 have hal:a.length=m:=by rw[<- ha,List.length_take,<- hm];omega
 have hmu:m<=u.size:=by rw[<- szl,hul,<- hm];exact hle
 obtain⟨u3,hu3⟩:∃u3,u.extract 0 m=u3:=⟨_,rfl⟩
 have hul3:u3.data.toList=a:=by rw[<- hu3,bj,hul,<- ha,hm];simp
 have hPm:Hid (∀W,Calls Tryz.prog 126 #[.string u] W fun e w'=>e=.returned (.int .i64 (m:Int))/\Below W.heap.size W w'):=yh fun W=>by
  have:=kp u (by omega) W;rw[hul,hm]at this;exact this
 have q1:(m:Int)>0:=by omega
 have hxx:src.data.toList.drop at_=(36::a)++r:=by rw[hd,hsr];rfl
 have hlf:lf (36::a)=0:=by simp[lf,List.count_cons];simpa[lf]using hlf0
 have hxl:(36::a:ab).length=m+1:=by simp[hal]
 have HX:=yh hxx
 obtain⟨hc1,hc2,hc3⟩:=eH hxx
 have hc4:=hc3 (by simp)
 have HL:=yh hlf
 have HC:=yh hc2
 have hal2:(m:Int)=a.length:=by omega
 have HA:=yh hal2
 clear hds h1 h2 hd hul hxx hlf hc1 hc2 hc3 hm ha hr0 hsr hlf0 hpos hle hal2
 rcases hP with⟨rfl,rfl,rfl⟩|⟨g,cap,cur,rfl,rfl,hr⟩
 ·have hF:=hL.fx
  go_enter Tryz.func115,Tryz.ntmps115;go_wp2_with (first|(with_reducible refine zS ?_;intro W hL hF)|(go_at_call 101;(((first|(with_reducible refine(hP1.out _).mono ?_)|(with_reducible refine(hP2.out _).mono ?_))));rintro e w' ⟨rfl,rfl⟩)|(go_at_call 126;refine zC (fun W hL=>hPm.out _) ?_;intro W hL hF)|((with_reducible refine af 0 ?_);refine zQ ?_;clear hF hL;intro ι F hne hG;(repeat go_big_quiet_step (fail));refine wpQuiet_nil ?_;clear hG;intro W hL hF)|((with_reducible refine af 17 ?_);refine zX [0,1,2,3,4,5,6,7,8,9,10,11,12] [10,12] ?_;clear hF hL;intro ι F hne hC hG;(repeat(first|((first|refine cF hC ?_|refine cP ?_);intro K hK;go_big_quiet_op;go_big_quiet_on)|(refine cM ?_;intro W hL hF;at_builtin;refine bJ rfl _ _ 135 rfl 118 i0 _ Tryz.underlying135 hi hz0 (by rw[hz1];rfl) (by rw[hz1];decide) hL rfl _ _ _ (ptc ⟨1,u3.data.toList,qd⟩) rfl (by rw[hz1];rfl) (fun j u hu=>by rw[Go.WideShapes.add_plain,Nat.zero_add,World.cell?,hL.has _ m0];simpa[ptc,cR]using hu) (dc _) (by unfold maxLen;omega) (by rw[hz2];omega) (by omega) ?_;intro g2 cap2 cur2 W2 hL2 hg2 hr2;clear hL hF;have hL:=hL2;clear hL2;have hF:=hL.fx;go_wp2;refine zB2 ?_;clear hL hF hC hG;intro ι F hne hC hG)|(refine cM ?_;intro W hL hF;go_wp2;(first|(refine zB2 ?_;clear hL hF hC hG;intro ι F hne hC hG)|(refine zO2 ?_;clear hL hF)))));refine zN ?_;clear hC hG;intro W hL hF)|(go_at_call 80;(with_reducible refine zM (fun W hL=>bm src at_ (36::a) r ln v b _ hL.h2 HX.out (by simp) hs (by omega) _ (by(simp;omega))) ?_);rintro W hL e W ⟨rfl,hb⟩;replace hL:=hL.jn 2 hb;clear hb;have hF:=hL.fx))
  rw[HL.out]at hL;go_end0
  rw[hz1]at hr2;rw[hul3]at hr2;refine⟨rfl,at_+((36::a)).length,.slice (some ⟨g2,0,none⟩) (1) cap2,[(g2,.cells cur2 118 (0,0))],by rw[szl]at hc4;exact hc4,HC.out,.inr ⟨g2,cap2,cur2,rfl,by simp,by simpa using hr2⟩,hL.pick (by simp) ?_⟩;have:=hL.nd;(simp at this |-);grind
 ·have hF:=hL.fx
  go_enter Tryz.func115,Tryz.ntmps115;go_wp2_with (first|(with_reducible refine zS ?_;intro W hL hF)|(go_at_call 101;(((first|(with_reducible refine(hP1.out _).mono ?_)|(with_reducible refine(hP2.out _).mono ?_))));rintro e w' ⟨rfl,rfl⟩)|(go_at_call 126;refine zC (fun W hL=>hPm.out _) ?_;intro W hL hF)|((with_reducible refine af 0 ?_);refine zQ ?_;clear hF hL;intro ι F hne hG;(repeat go_big_quiet_step (fail));refine wpQuiet_nil ?_;clear hG;intro W hL hF)|((with_reducible refine af 17 ?_);refine zX [0,1,2,3,4,5,6,7,8,9,10,11,12] [10,12] ?_ (sC (sC (sD sR)));clear hF hL;intro ι F hne hC hG;(repeat(first|((first|refine cF hC ?_|refine cP ?_);intro K hK;go_big_quiet_op;go_big_quiet_on)|(refine cM ?_;intro W hL hF;at_builtin;refine bg rfl _ _ 135 rfl 118 i0 _ Tryz.underlying135 hi hz0 (by rw[hz1];rfl) (by rw[hz1];decide) hL 3 _ _ _ _ _ rfl (by rw[hz1];exact hr) rfl _ _ _ (ptc ⟨1,u3.data.toList,qd⟩) rfl (by rw[hz1];rfl) (fun j u hu=>by rw[Go.WideShapes.add_plain,Nat.zero_add,World.cell?,hL.has _ m0];simpa[ptc,cR]using hu) (dc _) (by unfold maxLen;omega) (by rw[hz2];omega) (by omega) ?_;intro g2 cap2 cur2 W2 hL2 hr2;clear hL hF;have hL:=hL2;clear hL2;simp only[List.eraseIdx_cons_zero,List.eraseIdx_cons_succ]at hL;have hF:=hL.fx;go_wp2;refine zB2 ?_;clear hL hF hC hG;intro ι F hne hC hG)|(refine cM ?_;intro W hL hF;go_wp2;refine ai ?_;(first|(refine bO _ (by rfl) ?_;clear hL hF hC hG;intro ι F hne hC hFF;have hG:=fun n=>(hFF n).fx;clear hFF)|(refine a_ _ (by repeat' (first|(with_reducible exact List.Sublist.refl _)|(with_reducible apply List.Sublist.cons_cons)|(with_reducible apply List.Sublist.cons))) ?_;clear hL hF)))));refine zN ?_;clear hC hG;intro W hL hF)|(go_at_call 80;(with_reducible refine zM (fun W hL=>bm src at_ (36::a) r ln v b _ hL.h2 HX.out (by simp) hs (by omega) _ (by(simp;omega))) ?_);rintro W hL e W ⟨rfl,hb⟩;replace hL:=hL.jn 2 hb;clear hb;have hF:=hL.fx))
  rw[HL.out]at hL;go_end0
  rw[hz1]at hr2;rw[hul3]at hr2;refine⟨rfl,at_+((36::a)).length,.slice (some ⟨g2,0,none⟩) (ps.length+1) cap2,[(g2,.cells cur2 118 (0,0))],by rw[szl]at hc4;exact hc4,HC.out,.inr ⟨g2,cap2,cur2,rfl,by simp,by simpa using hr2⟩,hL.pick (by simp) ?_⟩;have:=hL.nd;(simp at this |-);grind
theorem Ax:ByteArray.size ⟨#[]⟩=0:=rfl
theorem qn(c:UInt8):ByteArray.size ⟨#[c]⟩=1:=rfl
theorem ol(src:ByteArray)(hs:src.size<=100000)(v:Value)(b q:Nat)(at_ ln:Nat)(pv:Value)(LP:List (Nat×Obj))(ps:List Prt)(w:World)(hL:Kn (b::q::keys LP) w w ((b,.cells #[.string src,.int .i64 (at_),.int .i64 (ln),v] 111 (0,0))::(q,.cells #[pv] 135 (0,0))::LP))(hP:PtL LP pv ps)(hln:ln<=100000)(hn:ps.length<=50000)(ht:tot ps<=500000)(qd:Bool)(s:ab)(hd:src.data.toList.drop at_=36::s)(e1:s.head? ≠some 40)(e2:s.head? ≠some 123)(hpos:¬0<bw s):Calls Tryz.prog 115 #[.pointer (some ⟨b,0,none⟩),.pointer (some ⟨q,0,none⟩),.bool qd] w (gW src v b q (b::q::keys LP) w (aH ps s ln qd)):=by
 obtain⟨i0,hi,hz0,hz1,hz2⟩:=bu iY
 obtain⟨h1,h2,h3⟩:=cu hd
 have hsl:=szl src
 obtain⟨u,hu⟩:∃u,src.extract (at_+1) src.size=u:=⟨_,rfl⟩
 have hul:u.data.toList=s:=by rw[<- hu,bj,List.take_of_length_le (by omega),h2]
 have hus:u.size+(at_+1)=src.size:=by
  have:u.size=src.size-(at_+1):=by rw[<- szl,hul,<- h2,List.length_drop,szl]
  omega
 have hP1:Hid (∀W,Calls Tryz.prog 101 #[.string u,.string ⟨#[40]⟩] W fun e w'=>e=.returned (.bool (decide (s.head? =some 40)))/\w'=W):=yh fun W=>by
  have:=Tryz.strings_HasPrefix u ⟨#[40]⟩ W;rw[show Lib.hasPrefix u.data.toList [40]=_ by rw[hul,hp1]]at this;exact this
 have hP2:Hid (∀W,Calls Tryz.prog 101 #[.string u,.string ⟨#[123]⟩] W fun e w'=>e=.returned (.bool (decide (s.head? =some 123)))/\w'=W):=yh fun W=>by
  have:=Tryz.strings_HasPrefix u ⟨#[123]⟩ W;rw[show Lib.hasPrefix u.data.toList [123]=_ by rw[hul,hp1]]at this;exact this
 have hds:aH ps s ln qd=.ok (addT ps [36] true,s,ln):=by
  unfold aH;rw[if_neg e1,if_neg e2,if_neg hpos]
 rw[decide_eq_false e1]at hP1
 rw[decide_eq_false e2]at hP2
 rw[hds]
 have hPm:Hid (∀W,Calls Tryz.prog 126 #[.string u] W fun e w'=>e=.returned (.int .i64 0)/\Below W.heap.size W w'):=yh fun W=>by
  have:=kp u (by omega) W;rw[hul,show bw s=0 by omega]at this;exact this
 have hxx:src.data.toList.drop at_=[36]++s:=by rw[hd];rfl
 have HX:=yh hxx
 obtain⟨hc1,hc2,hc3⟩:=eH hxx
 have hc4:=hc3 (by simp)
 have HC:=yh hc2
 clear hds h1 h2 hd hul hxx hc1 hc2 hc3 hpos
 have hF:=hL.fx
 go_enter Tryz.func115,Tryz.ntmps115
 go_wp2_with (first|(with_reducible refine zS ?_;intro W hL hF)|(go_at_call 101;(((first|(with_reducible refine(hP1.out _).mono ?_)|(with_reducible refine(hP2.out _).mono ?_))));rintro e w' ⟨rfl,rfl⟩)|(go_at_call 126;refine zC (fun W hL=>hPm.out _) ?_;intro W hL hF)|((with_reducible refine af 0 ?_);refine zQ ?_;clear hF hL;intro ι F hne hG;(repeat go_big_quiet_step (fail));refine wpQuiet_nil ?_;clear hG;intro W hL hF)|(go_at_call 113;(with_reducible refine zM (fun W hL=>fe q pv _ LP ps hL.self1q hP ⟨#[36]⟩ true (by omega) (by rw[qn];omega)) ?_);rintro W hL e W2 ⟨rfl,pv2,LP2,hP2,hb⟩;replace hL:=hL.tail1 hb;clear hb hP;have hP:=hP2;clear hP2;have hF:=hL.fx)|(go_at_call 80;(with_reducible refine zM (fun W hL=>bm src at_ [36] s ln v b _ hL.h0 HX.out (by simp) hs (by omega) _ (by(simp;done))) ?_);rintro W hL e W ⟨rfl,hb⟩;replace hL:=hL.jn 0 hb;clear hb;have hF:=hL.fx))
 go_end0
 exact⟨rfl,at_+1,pv2,LP2,by rw[szl]at hc4;exact hc4,HC.out,hP,hL⟩
theorem PtL.one{LP:List (Nat×Obj)}{v:Value}{ps:List Prt}(h:PtL LP v ps):v.oneCell'=true:=by
 rcases h with⟨_,rfl,_⟩|⟨g,cap,cur,_,rfl,_⟩<;>rfl
theorem gN(src:ByteArray)(hs:src.size<=100000)(v:Value)(b q:Nat)(at_ ln:Nat)(pv:Value)(LP:List (Nat×Obj))(ps:List Prt)(w:World)(hL:Kn (b::q::keys LP) w w ((b,.cells #[.string src,.int .i64 (at_),.int .i64 (ln),v] 111 (0,0))::(q,.cells #[pv] 135 (0,0))::LP))(hP:PtL LP pv ps)(hln:ln<=100000)(hn:ps.length<=50000)(ht:tot ps<=500000)(qd:Bool)(s:ab)(hd:src.data.toList.drop at_=36::s):Calls Tryz.prog 115 #[.pointer (some ⟨b,0,none⟩),.pointer (some ⟨q,0,none⟩),.bool qd] w (gW src v b q (b::q::keys LP) w (aH ps s ln qd)):=by
 by_cases h40:s.head? =some 40
 ·cases s with
  |nil=>cases h40
  |cons c t=>
   simp only[List.head?_cons,Option.some.injEq]at h40;subst h40;exact qm src hs v b q at_ ln pv LP ps w hL hP hln hn ht qd (40::t) t hd
 by_cases h123:s.head? =some 123
 ·cases s with
  |nil=>cases h123
  |cons c t=>
   simp only[List.head?_cons,Option.some.injEq]at h123;subst h123;exact my src hs v b q at_ ln pv LP ps w hL hP hln hn ht qd (123::t) t hd rfl
 by_cases hp:0<bw s
 ·exact mA src hs v b q at_ ln pv LP ps w hL hP hln hn ht qd s hd h40 h123 hp
 ·exact ol src hs v b q at_ ln pv LP ps w hL hP hln hn ht qd s hd h40 h123 hp
theorem Kn.drop1{X:List Nat}{w0 W:World}{a:Nat×Obj}{P:List (Nat×Obj)}(h:Kn X w0 W (a::P)):Kn X w0 W P:=h.sub (List.sublist_cons_self _ _)
theorem Kn.selfbq{X:List Nat}{w0 W:World}{b q:Nat}{o o':Obj}{P:List (Nat×Obj)}(h:Kn X w0 W ((b,o)::(q,o')::P)):Kn (b::q::keys P) W W ((b,o)::(q,o')::P):=h.self0
theorem Sz.le{at_ ln n:Nat}{ps:List Prt}(h:Sz at_ ln ps)(ha:at_<=n)(hn:n<=10000):ln<=100000/\ps.length<=50000/\tot ps<=500000:=by
 obtain⟨h1,h2⟩:=h
 unfold sz at h1
 omega
theorem lT (src : ByteArray) (hs0 : src.size <= 10000) (v : Value) (b q : Nat) (at0 ln0 : Nat) (pv0 : Value) (LP0 : List (Nat × Obj)) (ps0 : List Prt) (w : World) (hL : Kn (b :: q :: keys LP0) w w ((b, .cells #[.string src, .int .i64 (at0), .int .i64 (ln0), v] 111 (0, 0)) :: (q, .cells #[pv0] 135 (0, 0)) :: LP0)) (hP0 : PtL LP0 pv0 ps0) (hz : Sz at0 ln0 ps0) (t : ab) (hd : src.data.toList.drop at0 = 34 :: t) :
  Calls Tryz.prog 114 #[.pointer (some ⟨b, 0, none⟩), .pointer (some ⟨q, 0, none⟩)] w (gW src v b q (b :: q :: keys LP0) w (dbl ln0 (addT ps0 [] true, t, ln0))) := by
 have hsl := szl src
 have hs : src.size <= 100000 := by omega
 obtain ⟨V, hV⟩ : ∃ V, dbl ln0 (addT ps0 [] true, t, ln0) = V := ⟨_, rfl⟩
 rw [hV]
 obtain ⟨d1, d2, d3⟩ := cu hd
 rw [hsl] at d3
 obtain ⟨b1, b2, b3⟩ := hz.le (Nat.le_of_lt d3) hs0
 have HZ : Hid (Sz (at0 + 1) ln0 (addT ps0 [] true)) := yh (by
  obtain ⟨h1, h2⟩ := hz; have h3 := eg ps0 [] true; simp only [List.length_nil] at h3; exact ⟨by omega, by omega⟩)
 have HV : Hid (dbl ln0 (addT ps0 [] true, src.data.toList.drop (at0 + 1), ln0) = V) := yh (by rw [d2]; exact hV)
 have HX : Hid (src.data.toList.drop at0 = [34] ++ t) := yh hd
 clear hV d1 d2 hd
 have HLn : Hid (∀ src at_ (line : Int) v, (.cells #[.string src, .int .i64 at_, .int .i64 line, v] 111 (0, 0) : Obj) = .cells #[.string src, .int .i64 at_, .int .i64 line, v] 111 (0, 0)) := yh fun _ _ _ _ => rfl
 have hF := hL.fx
 go_enter Tryz.func114, Tryz.ntmps114
 go_wp2_with (first | (with_reducible refine zS ?_; intro W hL hF) | (go_at_call 113; (with_reducible refine zM (fun W hL => fe q pv0 _ LP0 ps0 hL.self1q hP0 ⟨#[]⟩ true (by omega) (by rw [Ax]; omega)) ?_); rintro W hL e W2 ⟨rfl, pv2, LP2, hP2, hb⟩; replace hL := hL.tail1 hb; clear hb hP0; have hP := hP2; clear hP2; have hF := hL.fx) | (go_at_call 80; (with_reducible refine zM (fun W hL => bm src at0 [34] t ln0 v b _ hL.h0 HX.out (by simp) hs (by omega) _ (by (simp; done))) ?_); rintro W hL e W ⟨rfl, hb⟩; replace hL := hL.jn 0 hb; clear hb; have hF := hL.fx))
 have hP1 : PtL LP2 pv2 (addT ps0 [] true) := hP
 clear hP
 have hz34 : lf [34] = 0 := rfl
 rw [hz34] at hL
 clear hz34
 go_loopg [] (src.size - (at0 + 1)) (fun k wr => ∃ (at_ ln : Nat) (pv : Value) (LP : List (Nat × Obj)) (ps : List Prt), Hid (k = src.size - at_) /\ at_ <= src.size /\ Hid (Sz at_ ln ps) /\ PtL LP pv ps /\ Kn (b :: q :: keys LP0) w wr ((b, .cells #[.string src, .int .i64 (at_), .int .i64 (ln), v] 111 (0, 0)) :: (q, .cells #[pv] 135 (0, 0)) :: LP) /\ Hid (dbl ln0 (ps, src.data.toList.drop at_, ln) = V))
 case atStart => exact ⟨at0 + 1, ln0, pv2, LP2, _, yh rfl, by omega, HZ, hP1, by simpa using hL, HV⟩
 case round =>
  clear hL HZ HV hP1 HX HLn hz; obtain ⟨at_, ln, pv, LP, ps, HK, hle, HZ, hP, hL, HV⟩ := hrel; obtain ⟨b4, b5, b6⟩ := HZ.out.le hle hs0; clear b1 b2 b3; have hF := hL.fx; by_cases hlt : at_ < src.size
  ·obtain ⟨c0, hc0⟩ : ∃ c, src.data.toList[at_]? = some c := ⟨_, List.getElem?_eq_getElem (by rw [szl]; omega)⟩
   have eb0 := bP hc0 (by omega); have hd0 : src.data.toList.drop (at_) = c0 :: src.data.toList.drop (at_ + 1) := by
    obtain ⟨h1, h2⟩ := List.getElem?_eq_some_iff.1 hc0; rw [List.drop_eq_getElem_cons h1, h2]
   by_cases h34 : c0 = 34
   ·subst h34
    have hxx : src.data.toList.drop at_ = [34] ++ src.data.toList.drop (at_ + 1) := hd0; have HX := yh hxx; have hV : V = .ok (ps, src.data.toList.drop (at_ + 1), ln) := by rw [<- HV.out, hd0, xE]
    have HVV := yh hV; clear hxx hd0 hV; go_wp2_with (first | (with_reducible refine zS ?_; intro W hL hF) | ((with_reducible refine af 5 ?_); refine zQ ?_; clear hF hL; intro ι F hne hG; (repeat go_big_quiet_step (fail)); refine wpQuiet_nil ?_; clear hG; intro W hL hF) | ((with_reducible refine af 7 ?_); refine zQ ?_; clear hF hL; intro ι F hne hG; (repeat go_big_quiet_step (fail)); refine wpQuiet_nil ?_; clear hG; intro W hL hF) | (go_at_call 80; (with_reducible refine zM (fun W hL => bm src at_ [34] (src.data.toList.drop (at_ + 1)) ln v b _ hL.h0 HX.out (by simp) hs (by omega) _ (by (simp; done))) ?_); rintro W hL e W ⟨rfl, hb⟩; replace hL := hL.jn 0 hb; clear hb; have hF := hL.fx))
    refine bodyPost_ret (by simp [results, Tryz.results114, go_sem, *]; try rfl) rfl ?_; rw [HVV.out]; exact ⟨rfl, at_ + 1, pv, LP, by omega, rfl, hP, hL⟩
   have f34 : ((c0.toNat : Int) == 34) = false := beq_false_of_ne (fun h => h34 (UInt8.toNat_inj.1 (show c0.toNat = 34 by omega))); by_cases h36 : c0 = 36
   ·subst h36
    have hdl := qe ln0 ps (src.data.toList.drop (at_ + 1)) ln; rw [<- hd0, HV.out] at hdl
    cases hdo : aH ps (src.data.toList.drop (at_ + 1)) ln true with
    | bad m =>
     rw [hdo] at hdl; have HVV : Hid (V = .bad m) := yh hdl; have HD : Hid (∀ W, Kn (b :: q :: keys LP) W W ((b, .cells #[.string src, .int .i64 (at_), .int .i64 (ln), v] 111 (0, 0)) :: (q, .cells #[pv] 135 (0, 0)) :: LP) -> Calls Tryz.prog 115 #[.pointer (some ⟨b, 0, none⟩), .pointer (some ⟨q, 0, none⟩), .bool true] W fun e w' => e = .panicked [{ v := .iface 107 (.agg #[.int .i64 27, .int .i64 m]), recovered := false }] /\ Kn (b :: q :: keys LP) W w' []) := yh fun W hK => by
      have := gN src hs v b q at_ ln pv LP ps W hK hP (by omega) (by omega) (by omega) true _ hd0; rw [hdo] at this; exact this
     clear hdl hdo hd0; go_wp2_with (first | ((with_reducible refine af 5 ?_); refine zQ ?_; clear hF hL; intro ι F hne hG; (repeat go_big_quiet_step (fail)); refine wpQuiet_nil ?_; clear hG; intro W hL hF) | ((with_reducible refine af 7 ?_); refine zQ ?_; clear hF hL; intro ι F hne hG; (repeat go_big_quiet_step (fail)); refine wpQuiet_nil ?_; clear hG; intro W hL hF) | ((with_reducible refine af 9 ?_); refine zQ ?_; clear hF hL; intro ι F hne hG; (repeat go_big_quiet_step (fail)); refine wpQuiet_nil ?_; clear hG; intro W hL hF) | (go_at_call 115; (with_reducible refine zM (fun W hL => HD.out _ hL.selfbq) ?_); rintro W hL e W2 ⟨rfl, hb⟩; replace hL := hL.tail0 hb; clear hb hP; have hF := hL.fx))
     rw [HVV.out]; exact ⟨rfl, rfl, hL⟩
    | ok x =>
     obtain ⟨ps2, r2, ln2⟩ := x; rw [hdo] at hdl; have hdz := eN hdo; have HVV : Hid (dbl ln0 (ps2, r2, ln2) = V) := yh hdl.symm; have HD : Hid (∀ W, Kn (b :: q :: keys LP) W W ((b, .cells #[.string src, .int .i64 (at_), .int .i64 (ln), v] 111 (0, 0)) :: (q, .cells #[pv] 135 (0, 0)) :: LP) -> Calls Tryz.prog 115 #[.pointer (some ⟨b, 0, none⟩), .pointer (some ⟨q, 0, none⟩), .bool true] W fun e w' => e = .returned (.tuple #[]) /\ ∃ (at2 : Nat) (pv2 : Value) (LP2 : List (Nat × Obj)), at2 <= src.size /\ Hid (src.data.toList.drop at2 = r2) /\ PtL LP2 pv2 ps2 /\ Kn (b :: q :: keys LP) W w' ((b, .cells #[.string src, .int .i64 (at2), .int .i64 (ln2), v] 111 (0, 0)) :: (q, .cells #[pv2] 135 (0, 0)) :: LP2)) := yh fun W hK => by
      have := gN src hs v b q at_ ln pv LP ps W hK hP (by omega) (by omega) (by omega) true _ hd0; rw [hdo] at this; exact this
     have HDZ := yh hdz; clear hdl hdo hd0 hdz; go_wp2_with (first | ((with_reducible refine af 5 ?_); refine zQ ?_; clear hF hL; intro ι F hne hG; (repeat go_big_quiet_step (fail)); refine wpQuiet_nil ?_; clear hG; intro W hL hF) | ((with_reducible refine af 7 ?_); refine zQ ?_; clear hF hL; intro ι F hne hG; (repeat go_big_quiet_step (fail)); refine wpQuiet_nil ?_; clear hG; intro W hL hF) | ((with_reducible refine af 9 ?_); refine zQ ?_; clear hF hL; intro ι F hne hG; (repeat go_big_quiet_step (fail)); refine wpQuiet_nil ?_; clear hG; intro W hL hF) | (go_at_call 115; (with_reducible refine zM (fun W hL => HD.out _ hL.selfbq) ?_); rintro W hL e W2 ⟨rfl, at2, pv2, LP2, ha2, hr2, hP2, hb⟩; replace hL := hL.tail0 hb; clear hb hP; have hP := hP2; clear hP2; have hF := hL.fx))
     have hlen : r2.length = src.size - at2 := by rw [<- hr2.out, List.length_drop, hsl]
     have hdz := HDZ.out; have hlen2 : (src.data.toList.drop (at_ + 1)).length = src.size - (at_ + 1) := by rw [List.length_drop, hsl]
     simp only [hlen, hlen2] at hdz; go_roundg (src.size - (at2))
     case measure => have := HK.out; omega
     case rel => exact ⟨at2, ln2, pv2, LP2, _, yh rfl, by omega, yh (by obtain ⟨h2, h3⟩ := HZ.out; exact ⟨by omega, by omega⟩), hP, hL, yh (by rw [<- HVV.out, hr2.out])⟩
   have f36 : ((c0.toNat : Int) == 36) = false := beq_false_of_ne (fun h => h36 (UInt8.toNat_inj.1 (show c0.toNat = 36 by omega))); obtain ⟨u0, hu0⟩ : ∃ u, src.extract at_ (at_ + 1) = u := ⟨_, rfl⟩; have hul0 : u0.data.toList = [c0] := by rw [<- hu0, bj, List.drop_take, hd0]; simp
   have hus0 : u0.size = 1 := by rw [<- szl, hul0]; rfl
   have hxx0 : src.data.toList.drop at_ = [c0] ++ src.data.toList.drop (at_ + 1) := hd0; have HX0 := yh hxx0; have a1 : at_ <= src.size := by omega
   have a2 : at_ + 1 <= src.size := by omega
   have a3 : (at_ : Int) <= (at_ : Int) + 1 := by omega
   have a4 : (at_ : Int) + 1 <= (src.size : Int) := by omega
   have H45 := yh (And.intro (eg ps [c0] true) (nV [c0])); by_cases h92 : c0 = 92
   case' neg =>
    have f92 : ((c0.toNat : Int) == 92) = false := beq_false_of_ne (fun h => h92 (UInt8.toNat_inj.1 (show c0.toNat = 92 by omega))); have HVV : Hid (dbl ln0 (addT ps [c0] true, src.data.toList.drop (at_ + 1), ln + lf [c0]) = V) := yh (by
     rw [<- HV.out, hd0, mq _ _ _ _ _ h34 h36 (.inl h92)])
    have HUL := yh hul0; clear hd0 hul0 hxx0
   case' pos =>
    subst h92; by_cases hlt1 : at_ + 1 < src.size
    case' neg =>
     have a5 : ¬ (at_ : Int) + 1 < (src.size : Int) := by omega
     have HVV : Hid (dbl ln0 (addT ps [92] true, src.data.toList.drop (at_ + 1), ln + lf [92]) = V) := yh (by
      rw [<- HV.out, hd0, mq _ _ _ _ _ (by decide) (by decide) (.inr fun d r hdr => by rw [List.drop_eq_nil_of_le (by omega)] at hdr; cases hdr)])
     have HUL := yh hul0; clear hd0 hul0 hxx0
    case' pos =>
     obtain ⟨c1, hc1⟩ : ∃ c, src.data.toList[at_ + 1]? = some c := ⟨_, List.getElem?_eq_getElem (by rw [szl]; omega)⟩; have eb1 := bP hc1 (by omega); have hd1 : src.data.toList.drop (at_ + 1) = c1 :: src.data.toList.drop (at_ + 1 + 1) := by
      obtain ⟨h1, h2⟩ := List.getElem?_eq_some_iff.1 hc1; rw [List.drop_eq_getElem_cons h1, h2]
     have a5 : (at_ : Int) + 1 < (src.size : Int) := by omega
     obtain ⟨r, hr⟩ : ∃ r, Lib.indexByte [34, 36, 92] c1 = r := ⟨_, rfl⟩; have hI : Hid (∀ W, Calls Tryz.prog 81 #[.string ⟨#[34, 36, 92]⟩, .int .u8 c1.toNat] W fun x w' => x = .returned (.int .i64 r) /\ w' = W) := yh fun W => ct _ c1 r hr _ rfl W
     have hsp := Au c1; rw [hr] at hsp; by_cases h0 : 0 <= r
     case' neg =>
      have q6 : ¬ r ≥ 0 := h0; have hs1 : esc c1 = false := by simpa [h0] using hsp
      have HVV : Hid (dbl ln0 (addT ps [92] true, src.data.toList.drop (at_ + 1), ln + lf [92]) = V) := yh (by
       rw [<- HV.out, hd0, mq _ _ _ _ _ (by decide) (by decide) (.inr fun d r hdr => by rw [hd1] at hdr; injection hdr with h1 h2; rw [<- h1]; exact hs1)])
      have HUL := yh hul0; clear hsp hs1 hr hd0 hd1 hul0 hxx0
     case pos =>
      have q6 : r ≥ 0 := h0; have hs1 : esc c1 = true := by simpa [h0] using hsp
      obtain ⟨u1, hu1⟩ : ∃ u, src.extract (at_ + 1) (at_ + 2) = u := ⟨_, rfl⟩; have hul1 : u1.data.toList = [c1] := by rw [<- hu1, bj, List.drop_take, hd1]; simp
      have hus1 : u1.size = 1 := by rw [<- szl, hul1]; rfl
      have hxx1 : src.data.toList.drop at_ = [92, c1] ++ src.data.toList.drop (at_ + 1 + 1) := by rw [hd0, hd1]; rfl
      have HX1 := yh hxx1; have hlf1 : lf [92, c1] = 0 := by
       have : c1 ≠ 10 := by rintro rfl; exact absurd hs1 (by decide)
       simp [lf, List.count_cons, this]
      have HLF := yh hlf1; have HVV : Hid (dbl ln0 (addT ps [c1] true, src.data.toList.drop (at_ + 1 + 1), ln) = V) := yh (by rw [<- HV.out, hd0, hd1, xF _ _ _ _ _ hs1]); have HUL := yh hul1; have a6 : at_ + 2 <= src.size := by omega
      have a7 : (at_ : Int) + 1 <= (at_ : Int) + 2 := by omega
      have a8 : (at_ : Int) + 2 <= (src.size : Int) := by omega
      have w1 : IntKind.i64.wrap ((at_ : Int) + 1) = (at_ : Int) + 1 := by rw [IntWalk.i64_in _ (by omega)]
      have w2 : IntKind.i64.wrap ((at_ : Int) + 2) = (at_ : Int) + 2 := by rw [IntWalk.i64_in _ (by omega)]
      have w3 : ((at_ : Int) + 1).toNat = at_ + 1 := by omega
      have w4 : ((at_ : Int) + 2).toNat = at_ + 2 := by omega
      have w5 : 0 <= (at_ : Int) + 1 := by omega
      have w6 : 0 <= (at_ : Int) + 2 := by omega
      clear hsp hs1 hr hd0 hd1 hxx1 hlf1 hul1 hul0 hxx0; go_wp2_with (first | (with_reducible refine zS ?_; intro W hL hF) | ((with_reducible refine af 5 ?_); refine zQ ?_; clear hF hL; intro ι F hne hG; (repeat go_big_quiet_step (fail)); refine wpQuiet_nil ?_; clear hG; intro W hL hF) | ((with_reducible refine af 7 ?_); refine zQ ?_; clear hF hL; intro ι F hne hG; (repeat go_big_quiet_step (fail)); refine wpQuiet_nil ?_; clear hG; intro W hL hF) | ((with_reducible refine af 9 ?_); refine zQ ?_; clear hF hL; intro ι F hne hG; (repeat go_big_quiet_step (fail)); refine wpQuiet_nil ?_; clear hG; intro W hL hF) | ((with_reducible refine af 11 ?_); refine zX [0, 1, 2, 3, 4, 5, 6, 7, 8, 9, 10, 11, 12, 13, 14, 15, 16, 17, 18, 19, 20, 21, 22, 23, 24, 25, 26, 27, 28, 29, 30, 31, 32, 33, 34, 35, 36, 37] [34] ?_; clear hF hL; intro ι F hne hC hG; (repeat (first | (refine cS ?_) | ((first | refine cF hC ?_ | refine cP ?_); intro K hK; go_big_quiet_op; go_big_quiet_on) | (refine cD ?_; intro W hL hF; go_at_call 81; (with_reducible refine (hI.out _).mono ?_); rintro e W' ⟨rfl, rfl⟩; refine zB ?_; clear hL hF hC hG; intro ι F hne hC hG; simp only [Act.put, zT]) | (refine cM ?_; intro W hL hF; go_wp2; refine zB2 ?_; clear hL hC hG; intro ι F hne hC hG))); refine zN ?_; clear hC hG; intro W hL hF) | ((with_reducible refine af 12 ?_); refine zX [0, 1, 2, 3, 4, 5, 6, 7, 8, 9, 10, 11, 12, 13, 14, 15, 16] [16] ?_; clear hF hL; intro ι F hne hC hG; (repeat (first | (refine cS ?_) | ((first | refine cF hC ?_ | refine cP ?_); intro K hK; go_big_quiet_op; go_big_quiet_on) | (refine cD ?_; intro W hL hF; go_at_call 113; (with_reducible refine (fe q pv _ LP ps hL.self1q hP u1 true (by omega) (by rw [hus1]; omega)).mono ?_); rintro e W2 ⟨rfl, pv2, LP2, hP2, hb⟩; replace hL := hL.tail1 hb; clear hb hF hP; have hP := hP2; clear hP2; have hF := hL.fx; refine zB ?_; clear hL hF hC hG; intro ι F hne hC hG; simp only [Act.put, zT]) | (refine cM ?_; intro W hL hF; go_wp2; refine zB2 ?_; clear hL hC hG; intro ι F hne hC hG))); refine zN ?_; clear hC hG; intro W hL hF) | (go_at_call 80; (with_reducible refine zM (fun W hL => bm src at_ [92, c1] (src.data.toList.drop (at_ + 1 + 1)) ln v b _ hL.h0 HX1.out (by simp) hs (by omega) _ (by (simp; done))) ?_); rintro W hL e W ⟨rfl, hb⟩; replace hL := hL.jn 0 hb; clear hb; have hF := hL.fx))
      rw [HUL.out] at hP; rw [HLF.out] at hL; go_roundg (src.size - (at_ + 2))
      case measure => have := HK.out; omega
      case rel => exact ⟨at_ + 2, ln, pv2, LP2, _, yh rfl, by omega, yh (by have h1 := HZ.out; obtain ⟨h2, h3⟩ := h1; have h4 := eg ps [c1] true; have h5 := nV [c1]; simp only [List.length_cons, List.length_nil] at h4 h5; exact ⟨by omega, by omega⟩), hP, hL, yh (by rw [<- HVV.out])⟩
   all_goals
    go_wp2_with (first | (with_reducible refine zS ?_; intro W hL hF) | ((with_reducible refine af 5 ?_); refine zQ ?_; clear hF hL; intro ι F hne hG; (repeat go_big_quiet_step (fail)); refine wpQuiet_nil ?_; clear hG; intro W hL hF) | ((with_reducible refine af 7 ?_); refine zQ ?_; clear hF hL; intro ι F hne hG; (repeat go_big_quiet_step (fail)); refine wpQuiet_nil ?_; clear hG; intro W hL hF) | ((with_reducible refine af 9 ?_); refine zQ ?_; clear hF hL; intro ι F hne hG; (repeat go_big_quiet_step (fail)); refine wpQuiet_nil ?_; clear hG; intro W hL hF) | ((with_reducible refine af 11 ?_); refine zX [0, 1, 2, 3, 4, 5, 6, 7, 8, 9, 10, 11, 12, 13, 14, 15, 16, 17, 18, 19, 20, 21, 22, 23, 24, 25, 26, 27, 28, 29, 30, 31, 32, 33, 34, 35, 36, 37] [34] ?_; clear hF hL; intro ι F hne hC hG; (repeat (first | (refine cS ?_; simp only [Act.put, zT]) | (refine cS ?_) | ((first | refine cF hC ?_ | refine cP ?_); intro K hK; go_big_quiet_op; go_big_quiet_on) | (refine cD ?_; intro W hL hF; go_at_call 81; (with_reducible refine (hI.out _).mono ?_); rintro e W' ⟨rfl, rfl⟩; refine zB ?_; clear hL hF hC hG; intro ι F hne hC hG; simp only [Act.put, zT]) | (refine cM ?_; intro W hL hF; go_wp2; refine zB2 ?_; clear hL hC hG; intro ι F hne hC hG))); refine zN ?_; clear hC hG; intro W hL hF) | ((with_reducible refine af 3 ?_); refine zX [0, 1, 2, 3, 4, 5, 6, 7, 8, 9, 10, 11, 12, 13, 14, 15] [15] ?_; clear hF hL; intro ι F hne hC hG; (repeat (first | (refine cS ?_) | ((first | refine cF hC ?_ | refine cP ?_); intro K hK; go_big_quiet_op; go_big_quiet_on) | (refine cD ?_; intro W hL hF; go_at_call 113; (with_reducible refine (fe q pv _ LP ps hL.self1q hP u0 true (by omega) (by rw [hus0]; omega)).mono ?_); rintro e W2 ⟨rfl, pv2, LP2, hP2, hb⟩; replace hL := hL.tail1 hb; clear hb hF hP; have hP := hP2; clear hP2; have hF := hL.fx; refine zB ?_; clear hL hF hC hG; intro ι F hne hC hG; simp only [Act.put, zT]) | (refine cM ?_; intro W hL hF; go_wp2; refine zB2 ?_; clear hL hC hG; intro ι F hne hC hG))); refine zN ?_; clear hC hG; intro W hL hF) | (go_at_call 80; (with_reducible refine zM (fun W hL => bm src at_ _ (src.data.toList.drop (at_ + 1)) ln v b _ hL.h0 HX0.out (by simp) hs (by omega) _ (by (simp; done))) ?_); rintro W hL e W ⟨rfl, hb⟩; replace hL := hL.jn 0 hb; clear hb; have hF := hL.fx))
    rw [HUL.out] at hP; go_roundg (src.size - (at_ + 1))
    case measure => have := HK.out; omega
    case rel => exact ⟨at_ + 1, _, pv2, LP2, _, yh rfl, by omega, yh (by have h1 := HZ.out; obtain ⟨h2, h3⟩ := h1; obtain ⟨h4, h5⟩ := H45.out; simp only [List.length_cons, List.length_nil] at h4 h5; exact ⟨by omega, by omega⟩), hP, hL, yh (by rw [<- HVV.out])⟩
  ·have hV : V = .bad ln0 := by rw [<- HV.out, List.drop_eq_nil_of_le (by omega), xD]
   have HVV := yh hV; have hae : at_ = src.size := by omega
   have q0 : ((at_ : Int) == (src.size : Int)) = true := beq_iff_eq.2 (by omega); clear hV hae; go_wp2_with (first | ((with_reducible refine af 5 ?_); refine zQ ?_; clear hF hL; intro ι F hne hG; (repeat go_big_quiet_step (fail)); refine wpQuiet_nil ?_; clear hG; intro W hL hF) | (go_at_call 112; (with_reducible refine zM (fun W hL => iZ b ln0 _) ?_); rintro W hL e W ⟨rfl, rfl⟩))
   rw [HVV.out]; exact ⟨rfl, rfl, hL.sub sN⟩
def bc(l:List UInt8):List Value:=l.map fun c=>Value.int .u8 (c.toNat:Int)
theorem qo(l:List UInt8):(bc l).length=l.length:=by simp[bc]
def BOwn(w0 w:World)(v:Value)(l:List UInt8):Prop:=Kn [] w0 w []/\w.ownsRow w0.heap.size 5 1 v l.length (bc l)
theorem BOwn.new{w0 w:World}(h:Kn [] w0 w [])(l:List UInt8)(cs:Array Value)(hcs:cs=(bc l).toArray)(n:Nat)(hn:n=l.length)(hl:l.length<=100000000):BOwn w0 (w.alloc (.cells cs 5)) (.slice (some ⟨w.heap.size,0,none⟩) n n) l:=by
 subst hcs;subst hn
 refine⟨h.below ((Below.refl _ _).alloc (Nat.le_refl _) _),⟨by grind[qo],.inr ⟨_,_,(bc l).toArray,rfl,h.size,?_,Nat.le_refl _,by unfold maxLen;omega,by simp[qo],?_⟩⟩⟩
 ·show(w.heap.push _)[w.heap.size]? =_
  simp
 grind[qo]
theorem om{w0 w:World}{v:Value}{l:List UInt8}(h:BOwn w0 w v l)(t:ByteArray)(ht:t.data.toList=l):(convert 119 9 v).run Tryz.prog w=.ok (.string t) w:=by
 have e:(⟨l.toArray⟩:ByteArray)=t:=by cases t;subst ht;simp
 rw[<- e]
 obtain⟨h1,⟨h2,⟨rfl,h3⟩|⟨g,cap,cur,rfl,_,hg,_,_,_,h4⟩⟩⟩:=h
 ·have:l=[]:=List.eq_nil_of_length_eq_zero h3
  subst this;exact run_convert_bytes_nil (P:=Tryz.prog) w 119 5 Tryz.underlying119 Tryz.underlying5 0 0 9 Tryz.underlying9
 ·refine run_convert_bytes_back (P:=Tryz.prog) w 119 9 5 ⟨g,0,none⟩ cap l Tryz.underlying119 Tryz.underlying5 Tryz.underlying9 fun j hj=>?_
  rw[Go.WideShapes.add_plain,Nat.zero_add];have h5:(bc l)[j]? =some (.int .u8 (l[j].toNat:Int)):=by simp[bc,hj]
  rw[<- h4,List.getElem?_take]at h5;split at h5
  ·simp only[World.cell?,hg];grind
  omega
theorem uQ(ps:List Prt)(t:ab)(n:Nat):bh ps 39 t n=(match brk 39 t with
  |none=>.bad n
  |some (a,r)=>.ok (addT ps a true,r,n+lf a)):=rfl
theorem oo(ps:List Prt)(t:ab)(n:Nat):bh ps 34 t n=dbl n (addT ps [] true,t,n):=rfl
theorem ot(ps:List Prt)(t:ab)(n:Nat):bh ps 36 t n=aH ps t n false:=rfl
theorem BH(c:UInt8)(W:World):(convert 119 9 (.slice (some ⟨W.heap.size,0,none⟩) 1 1)).run Tryz.prog (W.alloc (.cells #[.int .u8 c.toNat] 5))=.ok (.string ⟨#[c]⟩) (W.alloc (.cells #[.int .u8 c.toNat] 5)):=
 om (BOwn.new (Kn.refl [] W) [c] #[.int .u8 c.toNat] rfl 1 rfl (by simp)) ⟨#[c]⟩ rfl
theorem ou(src:ByteArray)(hs0:src.size<=10000)(v:Value)(b q:Nat)(at_ ln:Nat)(pv:Value)(LP:List (Nat×Obj))(ps:List Prt)(w:World)(hL:Kn (b::q::keys LP) w w ((b,.cells #[.string src,.int .i64 (at_),.int .i64 (ln),v] 111 (0,0))::(q,.cells #[pv] 135 (0,0))::LP))(hP:PtL LP pv ps)(hz:Sz at_ ln ps)(c0:UInt8)(t:ab)(hd0:src.data.toList.drop at_=c0::t)(hc:ends c0=false):
  Calls Tryz.prog 102 #[.pointer (some ⟨b,0,none⟩),.pointer (some ⟨q,0,none⟩)] w (gW src v b q (b::q::keys LP) w (bh ps c0 t ln)):=by
 have hsl:=szl src
 have hs:src.size<=100000:=by omega
 obtain⟨d1,d2,d3⟩:=cu hd0
 rw[hsl]at d3
 have hlt:=d3
 have eb0:=bP d1 d3
 obtain⟨b1,b2,b3⟩:=hz.le (Nat.le_of_lt d3) hs0
 have hd:=hd0
 by_cases h39:c0=39
 ·subst h39
  obtain⟨u,hu⟩:∃u,src.extract (at_+1) src.size=u:=⟨_,rfl⟩;have hul:u.data.toList=t:=by rw[<- hu,bj,List.take_of_length_le (by omega),d2]
  rw[uQ];rcases iX 39 t with⟨hb1,hb2⟩|⟨a,r,hb1,hb2⟩
  ·rw[hb1]
   have hI:Hid (∀W,Calls Tryz.prog 81 #[.string u,.int .u8 39] W fun x w'=>x=.returned (.int .i64 (-1))/\w'=W):=yh fun W=>ct u 39 (-1) (by rw[hul];exact hb2) 39 rfl W
   clear hd d1 d2 hul hb1 hb2 hd0 hz;have hF:=hL.fx;go_enter Tryz.func102,Tryz.ntmps102;go_wp2_with (first|(with_reducible refine zS ?_;intro W hL hF)|((with_reducible refine af 0 ?_);refine zQ ?_;clear hF hL;intro ι F hne hG;(repeat go_big_quiet_step (fail));refine wpQuiet_nil ?_;clear hG;intro W hL hF)|((with_reducible refine af 5 ?_);refine zX [0,1,2,3,4,5,6,7,8,9,10,11] [10] ?_;clear hF hL;intro ι F hne hC hG;(repeat(first|(refine cS ?_)|((first|refine cF hC ?_|refine cP ?_);intro K hK;go_big_quiet_op;go_big_quiet_on)|(refine cD ?_;intro W hL hF;go_at_call 81;(with_reducible refine(hI.out _).mono ?_);rintro e W' ⟨rfl,rfl⟩;refine zB ?_;clear hL hF hC hG;intro ι F hne hC hG;simp only[Act.put,zT])|(refine cM ?_;intro W hL hF;go_wp2;refine zB2 ?_;clear hL hC hG;intro ι F hne hC hG)));refine zN ?_;clear hC hG;intro W hL hF)|(go_at_call 112;(with_reducible refine zM (fun W hL=>iZ b ln _) ?_);rintro W hL e W ⟨rfl,rfl⟩))
   exact⟨rfl,rfl,hL.sub sN⟩
  ·rw[hb1]
   obtain⟨n,hn1⟩:∃n,n=a.length:=⟨_,rfl⟩;have hI:Hid (∀W,Calls Tryz.prog 81 #[.string u,.int .u8 39] W fun x w'=>x=.returned (.int .i64 (n:Int))/\w'=W):=yh fun W=>ct u 39 n (by rw[hul,hn1];exact hb2) 39 rfl W
   have htt:=(bB hb1).1;have htl:t.length=src.size-(at_+1):=by rw[<- d2,List.length_drop,hsl]
   have hnl:at_+n+2<=src.size:=by
    have:=congrArg List.length htt;simp only[List.length_append,List.length_cons]at this;omega
   obtain⟨u3,hu3⟩:∃u3,src.extract (at_+1) (at_+1+n)=u3:=⟨_,rfl⟩;have hul3:u3.data.toList=a:=by rw[<- hu3,bj,List.drop_take,d2,htt,hn1];simp
   have hus3:u3.size=n:=by rw[<- szl,hul3,hn1]
   have hus4:u3.size<=10000:=by omega
   have hxx:src.data.toList.drop at_=(39::(a++[39]))++r:=by rw[hd0,htt];simp
   have HX:=yh hxx;have hlf:lf (39::(a++[39]))=lf a:=by simp[lf,List.count_cons,List.count_append]
   have hxl:(39::(a++[39]):ab).length=a.length+2:=by simp
   obtain⟨hc1,hc2,hc3⟩:=eH hxx;have hc4:=hc3 (by simp);have HL:=yh hlf;have HC:=yh hc2;have HN:=yh hn1;have hn2:(n:Int)+2=a.length+2:=by omega
   have q0:¬(n:Int)<0:=by omega
   have HUL:=yh hul3;have w1:IntKind.i64.wrap ((at_:Int)+1)=(at_:Int)+1:=by rw[IntWalk.i64_in _ (by omega)]
   have w2:IntKind.i64.wrap ((at_:Int)+1+n)=(at_:Int)+1+n:=by rw[IntWalk.i64_in _ (by omega)]
   have w3:((at_:Int)+1).toNat=at_+1:=by omega
   have w4:((at_:Int)+1+n).toNat=at_+1+n:=by omega
   have w5:0<=(at_:Int)+1:=by omega
   have w6:0<=(at_:Int)+1+n:=by omega
   have w7:(at_:Int)+1<=(at_:Int)+1+n:=by omega
   have w8:(at_:Int)+1+n<=src.size:=by omega
   have w9:(at_:Int)+1<=src.size:=by omega
   clear hd d1 d2 hul hb1 hb2 hd0 hz htt htl hul3 hus3 hxx hlf hc1 hc2 hc3 hn1;have hF:=hL.fx;go_enter Tryz.func102,Tryz.ntmps102;go_wp2_with (first|(with_reducible refine zS ?_;intro W hL hF)|((with_reducible refine af 0 ?_);refine zQ ?_;clear hL;intro ι F hne hG;(repeat go_big_quiet_step (fail));refine wpQuiet_nil ?_;clear hG;intro W hL hF)|((with_reducible refine af 5 ?_);refine zX [0,1,2,3,4,5,6,7,8,9,10,11] [10] ?_;clear hF hL;intro ι F hne hC hG;(repeat(first|(refine cS ?_)|((first|refine cF hC ?_|refine cP ?_);intro K hK;go_big_quiet_op;go_big_quiet_on)|(refine cD ?_;intro W hL hF;go_at_call 81;(with_reducible refine(hI.out _).mono ?_);rintro e W' ⟨rfl,rfl⟩;refine zB ?_;clear hL hF hC hG;intro ι F hne hC hG;simp only[Act.put,zT])|(refine cM ?_;intro W hL hF;go_wp2;refine zB2 ?_;clear hL hC hG;intro ι F hne hC hG)));refine zN ?_;clear hC hG;intro W hL hF)|((with_reducible refine af 8 ?_);refine zX [0,1,2,3,4,5,6,7,8,9,10,11,12,13,14,15,16,17,18] [18] ?_;clear hF hL;intro ι F hne hC hG;(repeat(first|(refine cS ?_)|((first|refine cF hC ?_|refine cP ?_);intro K hK;go_big_quiet_op;go_big_quiet_on)|(refine cD ?_;intro W hL hF;go_at_call 113;(with_reducible refine(fe q pv _ LP ps hL.self1q hP u3 true (by omega) (by omega)).mono ?_);rintro e W2 ⟨rfl,pv2,LP2,hP2,hb⟩;replace hL:=hL.tail1 hb;clear hb hF hP;have hP:=hP2;clear hP2;have hF:=hL.fx;refine zB ?_;clear hL hF hC hG;intro ι F hne hC hG;simp only[Act.put,zT])|(refine cM ?_;intro W hL hF;go_wp2;refine zB2 ?_;clear hL hC hG;intro ι F hne hC hG)));refine zN ?_;clear hC hG;intro W hL hF)|(go_at_call 80;(with_reducible refine zM (fun W hL=>bm src at_ (39::(a++[39])) r ln v b _ hL.h0 HX.out (by simp) hs (by omega) _ (by(simp;omega))) ?_);rintro W hL e W ⟨rfl,hb⟩;replace hL:=hL.jn 0 hb;clear hb;have hF:=hL.fx))
   rw[HUL.out]at hP;rw[HL.out]at hL;go_end0
   exact⟨rfl,at_+(39::(a++[39]):ab).length,pv2,LP2,by rw[szl]at hc4;exact hc4,HC.out,hP,hL⟩
 have f39:((c0.toNat:Int)==39)=false:=beq_false_of_ne (fun h=>h39 (UInt8.toNat_inj.1 (show c0.toNat=39 by omega)))
 by_cases h34:c0=34
 ·subst h34
  have hF:=hL.fx;go_enter Tryz.func102,Tryz.ntmps102
  cases hdo:dbl ln (addT ps [] true,t,ln)with
  |bad m=>
   have HD:Hid (∀W,Kn (b::q::keys LP) W W ((b,.cells #[.string src,.int .i64 (at_),.int .i64 (ln),v] 111 (0,0))::(q,.cells #[pv] 135 (0,0))::LP)->Calls Tryz.prog 114 #[.pointer (some ⟨b,0,none⟩),.pointer (some ⟨q,0,none⟩)] W fun e w'=>e=.panicked [{v:=.iface 107 (.agg #[.int .i64 27,.int .i64 m]),recovered:=false}]/\Kn (b::q::keys LP) W w' []):=yh fun W hK=>by
    have:=lT src hs0 v b q at_ ln pv LP ps W hK hP hz t hd0;rw[hdo]at this;exact this
   rw[oo,hdo];clear hdo hd hd0;go_wp2_with (first|((with_reducible refine af 0 ?_);refine zQ ?_;clear hF hL;intro ι F hne hG;(repeat go_big_quiet_step (fail));refine wpQuiet_nil ?_;clear hG;intro W hL hF)|(go_at_call 114;(with_reducible refine zM (fun W hL=>HD.out _ hL.selfbq) ?_);rintro W hL e W2 ⟨rfl,hb⟩;replace hL:=hL.tail0 hb;clear hb hP;have hF:=hL.fx))
   exact⟨rfl,rfl,hL⟩
  |ok x=>
   obtain⟨ps2,r2,ln2⟩:=x;have HD:Hid (∀W,Kn (b::q::keys LP) W W ((b,.cells #[.string src,.int .i64 (at_),.int .i64 (ln),v] 111 (0,0))::(q,.cells #[pv] 135 (0,0))::LP)->Calls Tryz.prog 114 #[.pointer (some ⟨b,0,none⟩),.pointer (some ⟨q,0,none⟩)] W fun e w'=>e=.returned (.tuple #[])/\∃(at2:Nat) (pv2:Value) (LP2:List (Nat×Obj)),at2<=src.size/\Hid (src.data.toList.drop at2=r2)/\PtL LP2 pv2 ps2/\Kn (b::q::keys LP) W w' ((b,.cells #[.string src,.int .i64 (at2),.int .i64 (ln2),v] 111 (0,0))::(q,.cells #[pv2] 135 (0,0))::LP2)):=yh fun W hK=>by
    have:=lT src hs0 v b q at_ ln pv LP ps W hK hP hz t hd0;rw[hdo]at this;exact this
   rw[oo,hdo];clear hdo hd hd0;go_wp2_with (first|((with_reducible refine af 0 ?_);refine zQ ?_;clear hF hL;intro ι F hne hG;(repeat go_big_quiet_step (fail));refine wpQuiet_nil ?_;clear hG;intro W hL hF)|(go_at_call 114;(with_reducible refine zM (fun W hL=>HD.out _ hL.selfbq) ?_);rintro W hL e W2 ⟨rfl,at2,pv2,LP2,ha2,hr2,hP2,hb⟩;replace hL:=hL.tail0 hb;clear hb hP;have hP:=hP2;clear hP2;have hF:=hL.fx))
   go_end0
   exact⟨rfl,at2,pv2,LP2,ha2,hr2.out,hP,hL⟩
 have f34:((c0.toNat:Int)==34)=false:=beq_false_of_ne (fun h=>h34 (UInt8.toNat_inj.1 (show c0.toNat=34 by omega)))
 by_cases h36:c0=36
 ·subst h36
  have f92:(((36:UInt8).toNat:Int)==92)=false:=rfl;have hF:=hL.fx;go_enter Tryz.func102,Tryz.ntmps102
  cases hdo:aH ps t ln false with
  |bad m=>
   have HD:Hid (∀W,Kn (b::q::keys LP) W W ((b,.cells #[.string src,.int .i64 (at_),.int .i64 (ln),v] 111 (0,0))::(q,.cells #[pv] 135 (0,0))::LP)->Calls Tryz.prog 115 #[.pointer (some ⟨b,0,none⟩),.pointer (some ⟨q,0,none⟩),.bool false] W fun e w'=>e=.panicked [{v:=.iface 107 (.agg #[.int .i64 27,.int .i64 m]),recovered:=false}]/\Kn (b::q::keys LP) W w' []):=yh fun W hK=>by
    have:=gN src hs v b q at_ ln pv LP ps W hK hP (by omega) (by omega) (by omega) false t hd0;rw[hdo]at this;exact this
   rw[ot,hdo];clear hdo hd hd0;go_wp2_with (first|((with_reducible refine af 0 ?_);refine zQ ?_;clear hF hL;intro ι F hne hG;(repeat go_big_quiet_step (fail));refine wpQuiet_nil ?_;clear hG;intro W hL hF)|(go_at_call 115;(with_reducible refine zM (fun W hL=>HD.out _ hL.selfbq) ?_);rintro W hL e W2 ⟨rfl,hb⟩;replace hL:=hL.tail0 hb;clear hb hP;have hF:=hL.fx))
   exact⟨rfl,rfl,hL⟩
  |ok x=>
   obtain⟨ps2,r2,ln2⟩:=x;have HD:Hid (∀W,Kn (b::q::keys LP) W W ((b,.cells #[.string src,.int .i64 (at_),.int .i64 (ln),v] 111 (0,0))::(q,.cells #[pv] 135 (0,0))::LP)->Calls Tryz.prog 115 #[.pointer (some ⟨b,0,none⟩),.pointer (some ⟨q,0,none⟩),.bool false] W fun e w'=>e=.returned (.tuple #[])/\∃(at2:Nat) (pv2:Value) (LP2:List (Nat×Obj)),at2<=src.size/\Hid (src.data.toList.drop at2=r2)/\PtL LP2 pv2 ps2/\Kn (b::q::keys LP) W w' ((b,.cells #[.string src,.int .i64 (at2),.int .i64 (ln2),v] 111 (0,0))::(q,.cells #[pv2] 135 (0,0))::LP2)):=yh fun W hK=>by
    have:=gN src hs v b q at_ ln pv LP ps W hK hP (by omega) (by omega) (by omega) false t hd0;rw[hdo]at this;exact this
   rw[ot,hdo];clear hdo hd hd0;go_wp2_with (first|((with_reducible refine af 0 ?_);refine zQ ?_;clear hF hL;intro ι F hne hG;(repeat go_big_quiet_step (fail));refine wpQuiet_nil ?_;clear hG;intro W hL hF)|(go_at_call 115;(with_reducible refine zM (fun W hL=>HD.out _ hL.selfbq) ?_);rintro W hL e W2 ⟨rfl,at2,pv2,LP2,ha2,hr2,hP2,hb⟩;replace hL:=hL.tail0 hb;clear hb hP;have hP:=hP2;clear hP2;have hF:=hL.fx))
   go_end0
   exact⟨rfl,at2,pv2,LP2,ha2,hr2.out,hP,hL⟩
 have f36:((c0.toNat:Int)==36)=false:=beq_false_of_ne (fun h=>h36 (UInt8.toNat_inj.1 (show c0.toNat=36 by omega)))
 by_cases h92:c0=92
 ·subst h92
  cases t with
  |nil=>
   have hle:src.size<=at_+1:=by
    have:=congrArg List.length d2;rw[List.length_drop,hsl]at this;simp at this;omega
   have q0:((at_:Int)+1==(src.size:Int))=true:=beq_iff_eq.2 (by omega);have hxx:src.data.toList.drop at_=[92]++[]:=hd0;have HX:=yh hxx;have HD2:=yh d2;show Calls _ _ _ _ (gW src v b q (b::q::keys LP) w (.ok (addT ps [92] true,[],ln)))
   clear hd d1 d2 hd0 hz hxx hc;have hF:=hL.fx;go_enter Tryz.func102,Tryz.ntmps102;go_wp2_with (first|(with_reducible refine zS ?_;intro W hL hF)|((with_reducible refine af 0 ?_);refine zQ ?_;clear hF hL;intro ι F hne hG;(repeat go_big_quiet_step (fail));refine wpQuiet_nil ?_;clear hG;intro W hL hF)|((with_reducible refine af 15 ?_);refine zQ ?_;clear hF hL;intro ι F hne hG;(repeat go_big_quiet_step (fail));refine wpQuiet_nil ?_;clear hG;intro W hL hF)|(go_at_call 113;(with_reducible refine zM (fun W hL=>fe q pv _ LP ps hL.self1q hP ⟨#[92]⟩ true (by omega) (by rw[qn];omega)) ?_);rintro W hL e W2 ⟨rfl,pv2,LP2,hP2,hb⟩;replace hL:=hL.tail1 hb;clear hb hP;have hP:=hP2;clear hP2;have hF:=hL.fx)|(go_at_call 80;(with_reducible refine zM (fun W hL=>bm src at_ [92] [] ln v b _ hL.h0 HX.out (by simp) hs (by omega) _ (by(simp;done))) ?_);rintro W hL e W ⟨rfl,hb⟩;replace hL:=hL.jn 0 hb;clear hb;have hF:=hL.fx))
   go_end0
   exact⟨rfl,at_+1,pv2,LP2,by omega,HD2.out,hP,hL⟩
  |cons c1 r=>
   obtain⟨e1,e2,e3⟩:=cu d2;rw[hsl]at e3;have hlt1:=e3;have eb1:=bP e1 e3;have q0:((at_:Int)+1==(src.size:Int))=false:=beq_false_of_ne (by omega);have hxx:src.data.toList.drop at_=[92,c1]++r:=hd0;have HX:=yh hxx;have HE2:=yh e2;have w1:IntKind.i64.wrap ((at_:Int)+1)=(at_:Int)+1:=by rw[IntWalk.i64_in _ (by omega)]
   have w2:IntKind.i64.wrap ((at_:Int)+2)=(at_:Int)+2:=by rw[IntWalk.i64_in _ (by omega)]
   have w3:((at_:Int)+1).toNat=at_+1:=by omega
   have w4:((at_:Int)+2).toNat=at_+2:=by omega
   have w5:0<=(at_:Int)+1:=by omega
   have w6:0<=(at_:Int)+2:=by omega
   have w7:(at_:Int)+1<=(at_:Int)+2:=by omega
   have w8:(at_:Int)+2<=src.size:=by omega
   by_cases h10:c1=10
   ·subst h10
    show Calls _ _ _ _ (gW src v b q (b::q::keys LP) w (.ok (ps,r,ln+1)))
    have hlf:lf [92,10]=1:=rfl;have HLF:=yh hlf;clear hd d1 d2 hd0 hz hxx hc e1 e2 hlf;have hF:=hL.fx;go_enter Tryz.func102,Tryz.ntmps102;go_wp2_with (first|(with_reducible refine zS ?_;intro W hL hF)|((with_reducible refine af 0 ?_);refine zQ ?_;clear hF hL;intro ι F hne hG;(repeat go_big_quiet_step (fail));refine wpQuiet_nil ?_;clear hG;intro W hL hF)|((with_reducible refine af 15 ?_);refine zQ ?_;clear hF hL;intro ι F hne hG;(repeat go_big_quiet_step (fail));refine wpQuiet_nil ?_;clear hG;intro W hL hF)|((with_reducible refine af 18 ?_);refine zQ ?_;clear hF hL;intro ι F hne hG;(repeat go_big_quiet_step (fail));refine wpQuiet_nil ?_;clear hG;intro W hL hF)|(go_at_call 80;(with_reducible refine zM (fun W hL=>bm src at_ [92,10] r ln v b _ hL.h0 HX.out (by simp) hs (by omega) _ (by(simp;done))) ?_);rintro W hL e W ⟨rfl,hb⟩;replace hL:=hL.jn 0 hb;clear hb;have hF:=hL.fx))
    rw[HLF.out]at hL;go_end0
    exact⟨rfl,at_+2,pv,LP,by omega,HE2.out,hP,hL⟩
   ·obtain⟨u1,hu1⟩:∃u,src.extract (at_+1) (at_+2)=u:=⟨_,rfl⟩
    have hul1:u1.data.toList=[c1]:=by rw[<- hu1,bj,List.drop_take,d2];simp
    have hus1:u1.size=1:=by rw[<- szl,hul1];rfl
    have HUL:=yh hul1;have hlf:lf [92,c1]=0:=by simp[lf,List.count_cons,h10]
    have HLF:=yh hlf;have f10:((c1.toNat:Int)==10)=false:=beq_false_of_ne (fun h=>h10 (UInt8.toNat_inj.1 (show c1.toNat=10 by omega)));have hpm:bh ps 92 (c1::r) ln=.ok (addT ps [c1] true,r,ln):=by
     show(if c1=10 then _ else _)=_
     rw[if_neg h10]
    rw[hpm];clear hd d1 d2 hd0 hz hxx hc e1 e2 hul1 hlf hpm;have hF:=hL.fx;go_enter Tryz.func102,Tryz.ntmps102;go_wp2_with (first|(with_reducible refine zS ?_;intro W hL hF)|((with_reducible refine af 0 ?_);refine zQ ?_;clear hF hL;intro ι F hne hG;(repeat go_big_quiet_step (fail));refine wpQuiet_nil ?_;clear hG;intro W hL hF)|((with_reducible refine af 15 ?_);refine zQ ?_;clear hF hL;intro ι F hne hG;(repeat go_big_quiet_step (fail));refine wpQuiet_nil ?_;clear hG;intro W hL hF)|((with_reducible refine af 18 ?_);refine zQ ?_;clear hF hL;intro ι F hne hG;(repeat go_big_quiet_step (fail));refine wpQuiet_nil ?_;clear hG;intro W hL hF)|((with_reducible refine af 13 ?_);refine zX [0,1,2,3,4,5,6,7,8,9,10,11,12,13,14,15,16] [16] ?_;clear hF hL;intro ι F hne hC hG;(repeat(first|(refine cS ?_)|((first|refine cF hC ?_|refine cP ?_);intro K hK;go_big_quiet_op;go_big_quiet_on)|(refine cD ?_;intro W hL hF;go_at_call 113;(with_reducible refine(fe q pv _ LP ps hL.self1q hP u1 true (by omega) (by rw[hus1];omega)).mono ?_);rintro e W2 ⟨rfl,pv2,LP2,hP2,hb⟩;replace hL:=hL.tail1 hb;clear hb hF hP;have hP:=hP2;clear hP2;have hF:=hL.fx;refine zB ?_;clear hL hF hC hG;intro ι F hne hC hG;simp only[Act.put,zT])|(refine cM ?_;intro W hL hF;go_wp2;refine zB2 ?_;clear hL hC hG;intro ι F hne hC hG)));refine zN ?_;clear hC hG;intro W hL hF)|(go_at_call 80;(with_reducible refine zM (fun W hL=>bm src at_ [92,c1] r ln v b _ hL.h0 HX.out (by simp) hs (by omega) _ (by(simp;done))) ?_);rintro W hL e W ⟨rfl,hb⟩;replace hL:=hL.jn 0 hb;clear hb;have hF:=hL.fx))
    rw[HLF.out]at hL;rw[HUL.out]at hP;go_end0
    exact⟨rfl,at_+2,pv2,LP2,by omega,HE2.out,hP,hL⟩
 have f92:((c0.toNat:Int)==92)=false:=beq_false_of_ne (fun h=>h92 (UInt8.toNat_inj.1 (show c0.toNat=92 by omega)))
 have hxx:src.data.toList.drop at_=[c0]++t:=hd0
 have HX:=yh hxx
 have HD2:=yh d2
 have hlf:lf [c0]=0:=by
  have:c0≠10:=by rintro rfl;exact absurd hc (by decide)
  simp[lf,List.count_cons,this]
 have HLF:=yh hlf
 have hcv:=BH c0
 have hpm:bh ps c0 t ln=.ok (addT ps [c0] false,t,ln):=by unfold bh;rw[if_neg h39,if_neg h34,if_neg h92,if_neg h36]
 rw[hpm]
 clear hd d1 d2 hd0 hz hxx hc hlf hpm
 have hF:=hL.fx
 go_enter Tryz.func102,Tryz.ntmps102
 go_wp2_with (first|(with_reducible refine zS ?_;intro W hL hF)|((with_reducible refine af 0 ?_);refine zQ ?_;clear hF hL;intro ι F hne hG;(repeat go_big_quiet_step (fail));refine wpQuiet_nil ?_;clear hG;intro W hL hF)|(go_at_call 113;refine zG ?_;intro W hL hF;replace hL:=hL.drop1;clear hF;have hF:=hL.fx;(with_reducible refine(fe q pv _ LP ps hL.self1q hP ⟨#[c0]⟩ false (by omega) (by rw[qn];omega)).mono ?_);rintro e W2 ⟨rfl,pv2,LP2,hP2,hb⟩;replace hL:=hL.tail1 hb;clear hb hF hP;have hP:=hP2;clear hP2;have hF:=hL.fx)|(go_at_call 80;(with_reducible refine zM (fun W hL=>bm src at_ [c0] t ln v b _ hL.h0 HX.out (by simp) hs (by omega) _ (by(simp;done))) ?_);rintro W hL e W ⟨rfl,hb⟩;replace hL:=hL.jn 0 hb;clear hb;have hF:=hL.fx))
 rw[HLF.out]at hL
 go_end0
 exact⟨rfl,at_+1,pv2,LP2,by omega,HD2.out,hP,hL⟩
theorem ov{α:Type}{L L':List α}(h:∀p:α->Bool,L.countP p=L'.countP p):L.Perm L':=by
 classical exact List.perm_iff_count.2 fun a=>h (· ==a)
theorem Kn.perm{X:List Nat}{w0 W:World}{L L':List (Nat×Obj)}(h:Kn X w0 W L)(hp:∀p:Nat×Obj->Bool,L.countP p=L'.countP p):Kn X w0 W L':=
 h.pick (fun p hm=>(ov hp).mem_iff.2 hm) (((ov hp).map (·.1)).nodup_iff.1 h.nd)
theorem uR{X:List Nat}{w0 W:World}{L0 L:List (Nat×Obj)}[h:Kn X w0 W L0](e:L0=L):Kn X w0 W L:=e▸h
theorem Kn.selfbqR{X:List Nat}{w0 W:World}{b q:Nat}{o o':Obj}{LP R:List (Nat×Obj)}(h:Kn X w0 W ((b,o)::(q,o')::(LP++R))):Kn (b::q::keys LP) W W ((b,o)::(q,o')::LP):=Kn.self (P:=(b,o)::(q,o')::LP) [] R h
theorem Kn.joinbqR{X:List Nat}{w0 W W':World}{b q:Nat}{o o':Obj}{LP R L':List (Nat×Obj)}(h:Kn X w0 W ((b,o)::(q,o')::(LP++R)))(k:Kn (b::q::keys LP) W W' L'):Kn X w0 W' (L'++R):=Kn.joinA (P:=(b,o)::(q,o')::LP) [] R h k
theorem uS(kd:Nat)(tx p:ByteArray)(pv:Value)(ps:List Prt)(fd:Int)(n:Nat):tkv (⟨kd,tx.data.toList,p.data.toList,ps,fd,n⟩,pv)=.agg #[.int .i64 kd,.string tx,.string p,pv,.int .i64 fd,.int .i64 n]:=by
 unfold tkv tkc
 simp[bs]
theorem jN(src:ByteArray)(hs0:src.size<=10000)(v:Value)(b:Nat)(at_ ln:Nat)(w:World)(LO:List (Nat×Obj))(tvs:List (Tok×Value))(hL:Kn (b::keys LO) w w ((b,.cells #[.string src,.int .i64 (at_),.int .i64 (ln),v] 111 (0,0))::LO))(hO:gS LO v tvs)(hln:ln<=100000)(kd:Nat)(tx p:ByteArray)(pv:Value)(hpv:pv.oneCell'=true)(ps:List Prt)(fd:Int)(n:Nat)(k l:Int)(hk:k=kd)(hl:l=n)(hf:tvs.length<2000):
  Calls Tryz.prog 100 #[.pointer (some ⟨b,0,none⟩),.agg #[.int .i64 k,.string tx,.string p,pv,.int .i64 fd,.int .i64 l]] w fun e w'=>e=.returned (.tuple #[])/\∃v' LO',gS LO' v' (tvs++[(⟨kd,tx.data.toList,p.data.toList,ps,fd,n⟩,pv)])/\Kn (b::keys LO) w w' ((b,.cells #[.string src,.int .i64 (at_),.int .i64 (ln),v'] 111 (0,0))::LO'):=by
 subst hk;subst hl
 rw[<- uS kd tx p pv ps fd n]
 exact Aj src at_ ln v b w LO tvs hL hO (⟨kd,tx.data.toList,p.data.toList,ps,fd,n⟩,pv) hpv hf
theorem jO(src:ByteArray)(hs0:src.size<=10000)(v:Value)(b:Nat)(at_ ln:Nat)(w:World)(LO:List (Nat×Obj))(tvs:List (Tok×Value))(hL:Kn (b::keys LO) w w ((b,.cells #[.string src,.int .i64 (at_),.int .i64 (ln),v] 111 (0,0))::LO))(hO:gS LO v tvs)(hln:ln<=100000)(kd:Nat)(tx p:ByteArray)(pv:Value)(fd:Int)(n:Nat)(k l:Int)(hk:k=kd)(hl:l=n)(hf:¬tvs.length<2000):
  Calls Tryz.prog 100 #[.pointer (some ⟨b,0,none⟩),.agg #[.int .i64 k,.string tx,.string p,pv,.int .i64 fd,.int .i64 l]] w fun e w'=>e=.panicked [{v:=.iface 107 (.agg #[.int .i64 6,.int .i64 n]),recovered:=false}]/\Kn (b::keys LO) w w' []:=by
 subst hk;subst hl
 rw[<- uS kd tx p pv [] fd n]
 exact uq src at_ ln v b w LO tvs hL hO (⟨kd,tx.data.toList,p.data.toList,[],fd,n⟩,pv) (by omega)
def gj(src:ByteArray)(b:Nat)(X:List Nat)(w:World)(tvs:List (Tok×Value))(t:Tok)(at2 ln2:Nat)(e:Ending)(w':World):Prop:=
 if tvs.length<2000 then e=.returned (.tuple #[])/\∃v2 LO2 pv,pv=Value.slice none 0 0/\gS LO2 v2 (tvs++[(t,pv)])/\Kn X w w' ((b,.cells #[.string src,.int .i64 (at2),.int .i64 (ln2),v2] 111 (0,0))::LO2)
 else e=.panicked [{v:=.iface 107 (.agg #[.int .i64 6,.int .i64 t.line]),recovered:=false}]/\Kn X w w' []
theorem uT(src:ByteArray)(hs0:src.size<=10000)(v:Value)(b:Nat)(at_ ln:Nat)(w:World)(LO:List (Nat×Obj))(tvs:List (Tok×Value))(hL:Kn (b::keys LO) w w ((b,.cells #[.string src,.int .i64 (at_),.int .i64 (ln),v] 111 (0,0))::LO))(hO:gS LO v tvs)(hln:ln<=100000)(x r:ab)(hx:src.data.toList.drop at_=x++r)(hne:x≠[])(m:Int)(hm:m=x.length)(fd:Int)(n:Nat)(l:Int)(hl:l=n):
  Calls Tryz.prog 82 #[.pointer (some ⟨b,0,none⟩),.int .i64 3,.int .i64 m,.int .i64 fd,.int .i64 l] w (gj src b (b::keys LO) w tvs ⟨3,[],[],[],fd,n⟩ (at_+x.length) (ln+lf x)):=by
 have hsl:=szl src
 have hs:src.size<=100000:=by omega
 obtain⟨hc1,hc2,hc3⟩:=eH hx
 have hc4:=hc3 hne
 rw[hsl]at hc4
 subst hl;subst hm
 have HX:=yh hx
 have HNE:=yh hne
 obtain⟨u,hu⟩:∃u,src.extract at_ (at_+x.length)=u:=⟨_,rfl⟩
 have hul:u.data.toList=x:=by rw[<- hu,bj,hc1]
 have HU:=yh hul
 have hlx:0<x.length:=List.length_pos_iff.2 hne
 have w2:IntKind.i64.wrap ((at_:Int)+x.length)=(at_:Int)+x.length:=by rw[IntWalk.i64_in _ (by omega)]
 have w4:((at_:Int)+x.length).toNat=at_+x.length:=by omega
 have w6:0<=(at_:Int)+x.length:=by omega
 have w7:(at_:Int)<=(at_:Int)+x.length:=by omega
 have w8:(at_:Int)+x.length<=src.size:=by omega
 unfold gj
 clear hx hne hc1 hc2 hul
 by_cases hf:tvs.length<2000
 ·simp only[if_pos hf]
  have hF:=hL.fx;go_enter Tryz.func82,Tryz.ntmps82;go_wp2_with (first|(with_reducible refine zS ?_;intro W hL hF)|(go_at_call 100;(with_reducible refine zM (fun W hL=>jN src hs0 v b at_ ln _ LO tvs hL.self1q hO hln 3 ⟨#[]⟩ ⟨#[]⟩ (.slice none 0 0) rfl [] fd n _ _ (by omega) (by omega) hf) ?_);rintro W hL e W2 ⟨rfl,v2,LO2,hO2,hb⟩;replace hL:=hL.tail1 hb;clear hb;have hF:=hL.fx)|(go_at_call 80;(with_reducible refine zM (fun W hL=>bm src at_ x r ln v2 b _ hL.h1 HX.out HNE.out hs (by omega) _ (by(simp;done))) ?_);rintro W hL e W ⟨rfl,hb⟩;replace hL:=hL.jn 1 hb;clear hb;have hF:=hL.fx))
  go_end0
  refine⟨rfl,v2,LO2,.slice none 0 0,rfl,?_,?_⟩
  ·exact hO2
  ·exact hL.pick (by simp;grind) (by have:=hL.nd;simp at this |-;grind)
 ·simp only[if_neg hf]
  have hF:=hL.fx;go_enter Tryz.func82,Tryz.ntmps82;go_wp2_with (first|(with_reducible refine zS ?_;intro W hL hF)|(go_at_call 100;(with_reducible refine zM (fun W hL=>jO src hs0 v b at_ ln _ LO tvs hL.self1q hO hln 3 ⟨#[]⟩ ⟨#[]⟩ (.slice none 0 0) fd n _ _ (by omega) (by omega) hf) ?_);rintro W hL e W2 ⟨rfl,hb⟩;replace hL:=hL.tail1 hb;clear hb;have hF:=hL.fx))
  exact⟨rfl,rfl,hL.sub sN⟩
theorem eB(src:ByteArray)(hs0:src.size<=10000)(v:Value)(b:Nat)(at_ ln:Nat)(w:World)(LO:List (Nat×Obj))(tvs:List (Tok×Value))(hL:Kn (b::keys LO) w w ((b,.cells #[.string src,.int .i64 (at_),.int .i64 (ln),v] 111 (0,0))::LO))(hO:gS LO v tvs)(hln:ln<=100000)(kd:Nat)(k:Int)(hk:k=kd)(h3:kd≠3)(x r:ab)(hx:src.data.toList.drop at_=x++r)(hne:x≠[])(m:Int)(hm:m=x.length)(fd:Int)(n:Nat)(l:Int)(hl:l=n):
  Calls Tryz.prog 82 #[.pointer (some ⟨b,0,none⟩),.int .i64 k,.int .i64 m,.int .i64 fd,.int .i64 l] w (gj src b (b::keys LO) w tvs ⟨kd,x,[],[],fd,n⟩ (at_+x.length) (ln+lf x)):=by
 have hsl:=szl src
 have hs:src.size<=100000:=by omega
 obtain⟨hc1,hc2,hc3⟩:=eH hx
 have hc4:=hc3 hne
 rw[hsl]at hc4
 subst hk
 subst hl;subst hm
 have HX:=yh hx
 have HNE:=yh hne
 have q0:((kd:Int)==3)=false:=beq_false_of_ne (by omega)
 have q1:((kd:Int) != 3)=true:=by rw[bne,q0];rfl
 obtain⟨u,hu⟩:∃u,src.extract at_ (at_+x.length)=u:=⟨_,rfl⟩
 have hul:u.data.toList=x:=by rw[<- hu,bj,hc1]
 have HU:=yh hul
 have hlx:0<x.length:=List.length_pos_iff.2 hne
 have w2:IntKind.i64.wrap ((at_:Int)+x.length)=(at_:Int)+x.length:=by rw[IntWalk.i64_in _ (by omega)]
 have w4:((at_:Int)+x.length).toNat=at_+x.length:=by omega
 have w6:0<=(at_:Int)+x.length:=by omega
 have w7:(at_:Int)<=(at_:Int)+x.length:=by omega
 have w8:(at_:Int)+x.length<=src.size:=by omega
 unfold gj
 clear hx hne hc1 hc2 hul
 by_cases hf:tvs.length<2000
 ·simp only[if_pos hf]
  have hF:=hL.fx;go_enter Tryz.func82,Tryz.ntmps82;go_wp2_with (first|(with_reducible refine zS ?_;intro W hL hF)|((with_reducible refine af 2 ?_);refine zX [0,1,2,3,4,5,6,7,8,9,10,11,12,13,14,15,16] [16] ?_;clear hF hL;intro ι F hne hC hG;(repeat(first|((first|refine cF hC ?_|refine cP ?_);intro K hK;go_big_quiet_op;go_big_quiet_on)|(refine cM ?_;intro W hL hF;go_wp2;refine zB2 ?_;clear hL hF hC hG;intro ι F hne hC hG)));refine zN ?_;clear hC hG;intro W hL hF)|(go_at_call 100;(with_reducible refine zM (fun W hL=>jN src hs0 v b at_ ln _ LO tvs hL.self1q hO hln kd u ⟨#[]⟩ (.slice none 0 0) rfl [] fd n _ _ (by omega) (by omega) hf) ?_);rintro W hL e W2 ⟨rfl,v2,LO2,hO2,hb⟩;replace hL:=hL.tail1 hb;clear hb;have hF:=hL.fx)|(go_at_call 80;(with_reducible refine zM (fun W hL=>bm src at_ x r ln v2 b _ hL.h1 HX.out HNE.out hs (by omega) _ (by(simp;done))) ?_);rintro W hL e W ⟨rfl,hb⟩;replace hL:=hL.jn 1 hb;clear hb;have hF:=hL.fx))
  go_end0
  refine⟨rfl,v2,LO2,.slice none 0 0,rfl,?_,?_⟩
  ·rw[<- HU.out];exact hO2
  ·exact hL.pick (by simp;grind) (by have:=hL.nd;simp at this |-;grind)
 ·simp only[if_neg hf]
  have hF:=hL.fx;go_enter Tryz.func82,Tryz.ntmps82;go_wp2_with (first|(with_reducible refine zS ?_;intro W hL hF)|((with_reducible refine af 2 ?_);refine zX [0,1,2,3,4,5,6,7,8,9,10,11,12,13,14,15,16] [16] ?_;clear hF hL;intro ι F hne hC hG;(repeat(first|((first|refine cF hC ?_|refine cP ?_);intro K hK;go_big_quiet_op;go_big_quiet_on)|(refine cM ?_;intro W hL hF;go_wp2;refine zB2 ?_;clear hL hF hC hG;intro ι F hne hC hG)));refine zN ?_;clear hC hG;intro W hL hF)|(go_at_call 100;(with_reducible refine zM (fun W hL=>jO src hs0 v b at_ ln _ LO tvs hL.self1q hO hln kd u ⟨#[]⟩ (.slice none 0 0) fd n _ _ (by omega) (by omega) hf) ?_);rintro W hL e W2 ⟨rfl,hb⟩;replace hL:=hL.tail1 hb;clear hb;have hF:=hL.fx))
  exact⟨rfl,rfl,hL.sub sN⟩
end Go.Proofs.YtgboffbbpmileaaGreatDoor
