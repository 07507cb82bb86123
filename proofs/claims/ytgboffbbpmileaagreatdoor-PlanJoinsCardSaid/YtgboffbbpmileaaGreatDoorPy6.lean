/- Lemmas and walks for the law VLawPJoins (part 6). -/
import Derived.Test.YtgboffbbpmileaaGreatDoorPy5
import Derived.Test.YtgboffbbpmileaaGreatDoorProg
import Derived.WalkKit
import Derived.Handy
import Derived.Deep.Light
import Derived.WalkSmall
import Derived.StillTailTactics
import Derived.Lib.Hide
import Derived.Deep.LoopGhost
import Derived.Deep.DeepCutAuto
import Derived.Defers
import Derived.Recover
import Derived.Laws.Pointers
set_option maxRecDepth 20000
set_option maxHeartbeats 4000000
set_option linter.unusedVariables false
set_option linter.unusedSimpArgs false
namespace Go.Proofs.YtgboffbbpmileaaGreatDoor
open Go Go.RowKit
def TPost(src:ByteArray)(b:Nat)(X:List Nat)(w:World)(v:Value)(LO:List (Nat×Obj))(tvs:List (Tok×Value))(s:Step)(e:Ending)(w':World):Prop:=match s with
 |.skip r m=>e=.returned (.tuple #[])/\∃at2:Nat,at2<=src.size/\src.data.toList.drop at2=r/\Kn X w w' ((b,.cells #[.string src,.int .i64 (at2),.int .i64 (m),v] 111 (0,0))::LO)
 |.bad m=>e=.panicked [{v:=.iface 107 (.agg #[.int .i64 27,.int .i64 m]),recovered:=false}]/\Kn X w w' []
 |.tok t r m=>if tvs.length<2000 then e=.returned (.tuple #[])/\∃(at2:Nat) (v2:Value) (LO2:List (Nat×Obj)) (pv:Value) (LP:List (Nat×Obj)),at2<=src.size/\src.data.toList.drop at2=r/\gS LO2 v2 (tvs++[(t,pv)])/\PtL LP pv t.parts/\Kn X w w' ((b,.cells #[.string src,.int .i64 (at2),.int .i64 (m),v2] 111 (0,0))::(LO2++LP))
   else e=.panicked [{v:=.iface 107 (.agg #[.int .i64 6,.int .i64 t.line]),recovered:=false}]/\Kn X w w' []
theorem jP(l p:ab):Lib.hasPrefix l p=decide (l.take p.length=p):=by
 unfold Lib.hasPrefix
 by_cases h:l.take p.length=p
 ·rw[decide_eq_true h,List.isPrefixOf_iff_prefix]
  exact⟨l.drop p.length,by rw[<- List.take_append_drop p.length l,h];simp⟩
 ·rw[decide_eq_false h]
  cases hp:p.isPrefixOf l with
  |false=>rfl
  |true=>
   rw[List.isPrefixOf_iff_prefix]at hp;obtain⟨x,rfl⟩:=hp;simp at h
theorem uU(src:ByteArray)(hs0:src.size<=10000)(v:Value)(b:Nat)(at_ ln:Nat)(w:World)(LO:List (Nat×Obj))(tvs:List (Tok×Value))(hL:Kn (b::keys LO) w w ((b,.cells #[.string src,.int .i64 (at_),.int .i64 (ln),v] 111 (0,0))::LO))(hO:gS LO v tvs)(hln:ln<=100000)(l:ab)(hd:src.data.toList.drop at_=l)(hc:l.head? =some 60\/l.head? =some 62)(fd:Int)(n:Nat):
    Calls Tryz.prog 84 #[.pointer (some ⟨b,0,none⟩),.int .i64 fd,.int .i64 n] w (TPost src b (b::keys LO) w v LO tvs (ioS l fd n ln)):=by
  have hsl:=szl src;have hs:src.size<=100000:=by omega
  have hlt:at_<src.size:=by
    rcases Nat.lt_or_ge at_ src.size with h|h
    · exact h
    · rw[List.drop_eq_nil_of_le (by omega)]at hd
      subst hd;rcases hc with h|h<;>cases h
  have hll:l.length=src.size-at_:=by rw[<- hd,List.length_drop,hsl]
  unfold ioS;by_cases ha:l.take 2=[62,62]
  · rw[if_pos (.inl ha)]
    have hA:Hid (Lib.hasPrefix (src.data.toList.drop at_) (⟨#[62,62]⟩:ByteArray).data.toList=true):=yh (by rw[hd,jP];exact decide_eq_true ha);have hlk:(l.take 2).length=2:=by rw[ha];rfl
    have hlf0:lf (l.take 2)=0:=by rw[ha];rfl
    clear ha hc hll;have hne:l.take 2≠[]:=by intro h;have:=congrArg List.length h;rw[hlk]at this;cases this
    have HNE:=yh hne;have hxx:src.data.toList.drop at_=l.take 2++l.drop 2:=by rw[List.take_append_drop];exact hd
    have HX:=yh hxx;obtain⟨hc1,hc2,hc3⟩:=eH hxx;have hc4:=hc3 hne;rw[hsl]at hc4;have HC:=yh hc2;have hlf:lf (l.take 2)=0:=hlf0;have HLF:=yh hlf;have HLK:=yh hlk;clear hne hxx hc1 hc2 hc3 hlf hlf0 hlk hd;unfold TPost;by_cases hf:tvs.length<2000
    all_goals
      simp only[hf,if_true,if_false];have hF:=hL.fx;go_enter Tryz.func84,Tryz.ntmps84;go_wp2_with (first|(with_reducible refine zS ?_;intro W hL hF)|(go_at_call 83;(with_reducible refine zM (fun W hL=>cQ src ⟨#[62,62]⟩ at_ ln v b _ hL.h0 (by omega) hs true hA.out) ?_);rintro W hL e W ⟨rfl,hb⟩;replace hL:=hL.below hb;clear hb;skip;have hF:=hL.fx)|(go_at_call 82;(with_reducible refine zM (fun W hL=>eB src hs0 v b at_ ln _ LO tvs hL.self0q hO hln 2 2 rfl (by omega) (l.take 2) (l.drop 2) HX.out HNE.out _ (by rw[HLK.out];(simp;done)) fd n _ (by(rfl))) ?_);rintro W hL e W2 hb;simp only[gj,hf,if_true,if_false]at hb;obtain⟨rfl,v2,LO2,pv2,rfl,hO2,hb⟩:=hb;replace hL:=hL.tail0 hb;clear hb;have hF:=hL.fx)|(go_at_call 82;(with_reducible refine zM (fun W hL=>eB src hs0 v b at_ ln _ LO tvs hL.self0q hO hln 2 2 rfl (by omega) (l.take 2) (l.drop 2) HX.out HNE.out _ (by rw[HLK.out];(simp;done)) fd n _ (by(rfl))) ?_);rintro W hL e W2 hb;simp only[gj,hf,if_true,if_false]at hb;obtain⟨rfl,hb⟩:=hb;replace hL:=hL.tail0 hb;clear hb;have hF:=hL.fx))
      first
      | (go_end0
         rw[HLF.out]at hL;exact⟨rfl,_,v2,LO2,.slice none 0 0,[],hc4,HC.out,hO2,.inl ⟨rfl,rfl,rfl⟩,by rw[List.append_nil];exact hL⟩)
      | (exact⟨rfl,rfl,hL⟩)
  have hA:Hid (Lib.hasPrefix (src.data.toList.drop at_) (⟨#[62,62]⟩:ByteArray).data.toList=false):=yh (by rw[hd,jP];exact decide_eq_false ha);by_cases hb:l.take 2=[62,38]
  · rw[if_pos (.inr hb)]
    have hB:Hid (Lib.hasPrefix (src.data.toList.drop at_) (⟨#[62,38]⟩:ByteArray).data.toList=true):=yh (by rw[hd,jP];exact decide_eq_true hb);have hlk:(l.take 2).length=2:=by rw[hb];rfl
    have hlf0:lf (l.take 2)=0:=by rw[hb];rfl
    clear ha hb hc hll;have hne:l.take 2≠[]:=by intro h;have:=congrArg List.length h;rw[hlk]at this;cases this
    have HNE:=yh hne;have hxx:src.data.toList.drop at_=l.take 2++l.drop 2:=by rw[List.take_append_drop];exact hd
    have HX:=yh hxx;obtain⟨hc1,hc2,hc3⟩:=eH hxx;have hc4:=hc3 hne;rw[hsl]at hc4;have HC:=yh hc2;have hlf:lf (l.take 2)=0:=hlf0;have HLF:=yh hlf;have HLK:=yh hlk;clear hne hxx hc1 hc2 hc3 hlf hlf0 hlk hd;unfold TPost;by_cases hf:tvs.length<2000
    all_goals
      simp only[hf,if_true,if_false];have hF:=hL.fx;go_enter Tryz.func84,Tryz.ntmps84;go_wp2_with (first|(with_reducible refine zS ?_;intro W hL hF)|(go_at_call 83;refine zG ?_;intro W hL hF;(((first|(with_reducible refine(cQ src ⟨#[62,62]⟩ at_ ln v b _ hL.h0 (by omega) hs false hA.out).mono ?_)|(with_reducible refine(cQ src ⟨#[62,38]⟩ at_ ln v b _ hL.h0 (by omega) hs true hB.out).mono ?_))));rintro e W ⟨rfl,hb⟩;replace hL:=hL.below hb;clear hb hF;have hF:=hL.fx)|(go_at_call 82;(with_reducible refine zM (fun W hL=>eB src hs0 v b at_ ln _ LO tvs hL.self0q hO hln 2 2 rfl (by omega) (l.take 2) (l.drop 2) HX.out HNE.out _ (by rw[HLK.out];(simp;done)) fd n _ (by(rfl))) ?_);rintro W hL e W2 hb;simp only[gj,hf,if_true,if_false]at hb;obtain⟨rfl,v2,LO2,pv2,rfl,hO2,hb⟩:=hb;replace hL:=hL.tail0 hb;clear hb;have hF:=hL.fx)|(go_at_call 82;(with_reducible refine zM (fun W hL=>eB src hs0 v b at_ ln _ LO tvs hL.self0q hO hln 2 2 rfl (by omega) (l.take 2) (l.drop 2) HX.out HNE.out _ (by rw[HLK.out];(simp;done)) fd n _ (by(rfl))) ?_);rintro W hL e W2 hb;simp only[gj,hf,if_true,if_false]at hb;obtain⟨rfl,hb⟩:=hb;replace hL:=hL.tail0 hb;clear hb;have hF:=hL.fx))
      first
      | (go_end0
         rw[HLF.out]at hL;exact⟨rfl,_,v2,LO2,.slice none 0 0,[],hc4,HC.out,hO2,.inl ⟨rfl,rfl,rfl⟩,by rw[List.append_nil];exact hL⟩)
      | (exact⟨rfl,rfl,hL⟩)
  rw[if_neg (fun h=>h.elim ha hb)];have hB:Hid (Lib.hasPrefix (src.data.toList.drop at_) (⟨#[62,38]⟩:ByteArray).data.toList=false):=yh (by rw[hd,jP];exact decide_eq_false hb);have hlk:(l.take 1).length=1:=by rw[List.length_take];omega
  have hlf0:lf (l.take 1)=0:=by
    cases l with
    |nil=>rfl
    |cons c t=>
      simp only[List.head?_cons,Option.some.injEq]at hc;rcases hc with rfl|rfl<;>rfl
  clear ha hb hc hll;have hne:l.take 1≠[]:=by intro h;have:=congrArg List.length h;rw[hlk]at this;cases this
  have HNE:=yh hne;have hxx:src.data.toList.drop at_=l.take 1++l.drop 1:=by rw[List.take_append_drop];exact hd
  have HX:=yh hxx;obtain⟨hc1,hc2,hc3⟩:=eH hxx;have hc4:=hc3 hne;rw[hsl]at hc4;have HC:=yh hc2;have hlf:lf (l.take 1)=0:=hlf0;have HLF:=yh hlf;have HLK:=yh hlk;clear hne hxx hc1 hc2 hc3 hlf hlf0 hlk hd;unfold TPost;by_cases hf:tvs.length<2000
  all_goals
    simp only[hf,if_true,if_false];have hF:=hL.fx;go_enter Tryz.func84,Tryz.ntmps84;go_wp2_with (first|(with_reducible refine zS ?_;intro W hL hF)|(go_at_call 83;refine zG ?_;intro W hL hF;(((first|(with_reducible refine(cQ src ⟨#[62,62]⟩ at_ ln v b _ hL.h0 (by omega) hs false hA.out).mono ?_)|(with_reducible refine(cQ src ⟨#[62,38]⟩ at_ ln v b _ hL.h0 (by omega) hs false hB.out).mono ?_))));rintro e W ⟨rfl,hb⟩;replace hL:=hL.below hb;clear hb hF;have hF:=hL.fx)|(go_at_call 82;(with_reducible refine zM (fun W hL=>eB src hs0 v b at_ ln _ LO tvs hL.self0q hO hln 2 2 rfl (by omega) (l.take 1) (l.drop 1) HX.out HNE.out _ (by rw[HLK.out];(simp;done)) fd n _ (by(rfl))) ?_);rintro W hL e W2 hb;simp only[gj,hf,if_true,if_false]at hb;obtain⟨rfl,v2,LO2,pv2,rfl,hO2,hb⟩:=hb;replace hL:=hL.tail0 hb;clear hb;have hF:=hL.fx)|(go_at_call 82;(with_reducible refine zM (fun W hL=>eB src hs0 v b at_ ln _ LO tvs hL.self0q hO hln 2 2 rfl (by omega) (l.take 1) (l.drop 1) HX.out HNE.out _ (by rw[HLK.out];(simp;done)) fd n _ (by(rfl))) ?_);rintro W hL e W2 hb;simp only[gj,hf,if_true,if_false]at hb;obtain⟨rfl,hb⟩:=hb;replace hL:=hL.tail0 hb;clear hb;have hF:=hL.fx))
    first
    | (go_end0
       rw[HLF.out]at hL;exact⟨rfl,_,v2,LO2,.slice none 0 0,[],hc4,HC.out,hO2,.inl ⟨rfl,rfl,rfl⟩,by rw[List.append_nil];exact hL⟩)
    | (exact⟨rfl,rfl,hL⟩)
theorem Ay(n0:Nat):∀(f:Nat) (ps:List Prt) (l:ab) (n:Nat) (st:St),bn f n0 (ps,l,n)=.ok st->sz st.1+2*st.2.1.length<=sz ps+2*l.length/\n<=st.2.2/\st.2.2+st.2.1.length<=n+l.length/\st.2.1.length<=l.length:=by
 intro f
 induction f with
 |zero=>intro ps l n st h;cases h
 |succ f ih=>
  intro ps l n st h
  cases l with
  |nil=>cases h
  |cons c t=>
   rw[aQ]at h;split at h
   ·grind
   ·split at h
    ·cases hd:aH ps t n true with
     |bad m=>grind
     |ok x=>
      obtain⟨ps',r,m⟩:=x;rw[hd]at h;have h1:=eN hd;grind
    grind[eg,esc,nV]
theorem fw{ps:List Prt}{c:UInt8}{t:ab}{n:Nat}{st:St}(h:bh ps c t n=.ok st):sz st.1+2*st.2.1.length<=sz ps+2*t.length+2/\n<=st.2.2/\st.2.2+st.2.1.length<=n+t.length/\st.2.1.length<=t.length:=by
 unfold bh at h
 split at h
 ·cases hb:brk 39 t with
  |none=>grind
  |some y=>
   obtain⟨a,r⟩:=y;rw[hb]at h;injection h with h;rw[<- h]
   have h1:=congrArg List.length (bB hb).1;grind[eg,nV]
 ·split at h
  ·have h1:=Ay _ _ _ _ _ _ h
   grind[eg]
  ·split at h
   ·grind[eg]
   ·split at h
    ·have h1:=eN h
     omega
    grind[eg]
theorem sY:∀(f g:Nat) (ps:List Prt) (l:ab) (n:Nat),l.length<f->l.length<g->word f (ps,l,n)=word g (ps,l,n):=by
 intro f
 induction f with
 |zero=>omega
 |succ f ih=>
  intro g ps l n h1 h2;obtain⟨g,rfl⟩:∃g',g=g'+1:=⟨g-1,by omega⟩
  cases l with
  |nil=>rfl
  |cons c t=>
   simp only[List.length_cons]at h1 h2;rw[ba,ba];split
   ·rfl
   ·cases hp:bh ps c t n with
    |bad m=>rfl
    |ok x=>
     obtain⟨ps',r,m⟩:=x;have:r.length<=t.length:=(fw hp).2.2.2;grind
def wrd(x:St):R St:=word (x.2.1.length+1) x
theorem xO(ps:List Prt)(n:Nat):wrd (ps,[],n)=.ok (ps,[],n):=rfl
theorem xP(ps:List Prt)(c:UInt8)(t:ab)(n:Nat)(h:ends c=true):wrd (ps,c::t,n)=.ok (ps,c::t,n):=by
 show word (t.length+1+1) _=_
 grind[ba]
theorem uV(ps:List Prt)(c:UInt8)(t:ab)(n:Nat)(h:ends c=false):wrd (ps,c::t,n)=(match bh ps c t n with
  |.bad m=>.bad m
  |.ok x=>wrd x):=by
 show word (t.length+1+1) _=_
 rw[ba,if_neg (by grind)]
 cases hp:bh ps c t n with
 |bad m=>rfl
 |ok x=>
  obtain⟨ps',r,m⟩:=x;have:r.length<=t.length:=(fw hp).2.2.2;exact sY _ _ _ _ _ (by omega) (Nat.lt_succ_self _)
def oA:ab->Bool
 | []=>false
 |c::_=> !ends c
def gB:List Prt->Bool
 | [p]=>p.k==0&& !p.q
 |_=>false
theorem oB{ps:List Prt}(h:gB ps=true):∃x,ps=[x]/\x.k=0/\x.q=false/\bx ps=x.t:=by
 match ps,h with
 | [x],h=>
  grind[gB,bx]
theorem mB{ps:List Prt}(h:gB ps=false):bx ps=[]:=by
 match ps,h with
 | [],_=>rfl
 | [x],h=>
  grind[gB,bx]
 |_::_::_,_=>rfl
def oC(n0:Nat):R St->Step
 |.bad m=>.bad m
 |.ok (ps,r,m)=>match da (bx ps)with
  |some fd=>if r.head? =some 60\/r.head? =some 62 then ioS r fd n0 m else .tok ⟨0,[],bx ps,ps,-1,n0⟩ r m
  |none=>.tok ⟨0,[],bx ps,ps,-1,n0⟩ r m
theorem uW{out:List Tok}{c:UInt8}{t r:ab}{n m:Nat}(h:aT c t n=.skip r m):lim out (bG (c::t) n)=lim out (bG r m):=by
 rw[bD,h]
theorem xQ{out:List Tok}{c:UInt8}{t:ab}{n m:Nat}(h:aT c t n=.bad m):lim out (bG (c::t) n)=.err false m:=by
 rw[bD,h];rfl
theorem uX{out:List Tok}{c:UInt8}{t r:ab}{n m:Nat}{x:Tok}(h:aT c t n=.tok x r m)(ho:2000<=out.length):lim out (bG (c::t) n)=.err true x.line:=by
 grind[bD,lim]
theorem xR{out:List Tok}{c:UInt8}{t r:ab}{n m:Nat}{x:Tok}(h:aT c t n=.tok x r m)(ho:out.length<2000):lim out (bG (c::t) n)=lim (out++[x]) (bG r m):=by
 grind[bD,lim,bG]
theorem xS(out:List Tok)(n:Nat):lim out (bG [] n)=.ok (out++[ew n]):=by
 grind[ci,lim]
def gY(k:Nat):Step->Prop
 |.skip r m=>m+r.length<=k
 |.tok _ r m=>m+r.length<=k
 |.bad _=>True
theorem lU(c:UInt8)(t:ab)(n:Nat):gY (n+(c::t).length) (aT c t n):=by
 have hio:∀(l:ab) (fd:Int) (n0 n:Nat),gY (n+l.length) (ioS l fd n0 n):=by
  grind[ioS,gY]
 have hw:∀(f:Nat) (ps:List Prt) (l:ab) (n:Nat) (st:St),word f (ps,l,n)=.ok st->st.2.2+st.2.1.length<=n+l.length:=by
  intro f;induction f with
  |zero=>intro ps l n st h;injection h with h;grind
  |succ f ih=>
   intro ps l n st h
   cases l with
   |nil=>injection h with h;grind
   |cons c t=>
    rw[ba]at h;split at h
    ·grind
    ·cases hp:bh ps c t n with
     |bad m=>grind
     |ok x=>
      obtain⟨ps',r,m⟩:=x;rw[hp]at h;have h1:=fw hp;grind
 unfold aT
 split
 ·grind[gY]
 ·split
  ·have:=(List.dropWhile_suffix (l:=t) (p:=(· != 10))).length_le
   grind[gY]
  grind[gY,word,da,bx,ioS]
theorem Kn.selfS{X:List Nat}{w0 W:World}{b:Nat}{o:Obj}{A LO:List (Nat×Obj)}(h:Kn X w0 W (A++((b,o)::LO))):Kn (b::keys LO) W W ((b,o)::LO):=(h.sub (List.sublist_append_right A _)).self0
theorem Kn.joinS{X:List Nat}{w0 W W':World}{b:Nat}{o:Obj}{A LO L':List (Nat×Obj)}(h:Kn X w0 W (A++((b,o)::LO)))(k:Kn (b::keys LO) W W' L'):Kn X w0 W' (A++L'):=by
 have:=Kn.joinA (P:=(b,o)::LO) (P':=L') A [] (by simpa using h) k
 simpa using this
theorem mC(l:ab)(fd:Int)(n0 n:Nat):∃t r m,ioS l fd n0 n=.tok t r m:=by
 unfold ioS;split<;>exact⟨_,_,_,rfl⟩
theorem oD(ps:List Prt):(bx ps).length<=tot ps:=by
 match ps with
 | []=>exact Nat.zero_le _
 | [x]=>simp only[bx];split<;>simp[tot]
 |_::_::_=>exact Nat.zero_le _
theorem TPost.lift{src:ByteArray}{b:Nat}{X:List Nat}{w W w':World}{o:Obj}{v:Value}{A LO:List (Nat×Obj)}{tvs:List (Tok×Value)}{s:Step}{e:Ending}(h:Kn X w W (A++((b,o)::LO)))(k:TPost src b (b::keys LO) W v LO tvs s e w'):TPost src b X w v LO tvs s e w':=by
 have up:∀L',Kn (b::keys LO) W w' L'->Kn X w w' L':=fun L' k=>(h.joinS k).sub (List.sublist_append_right A _)
 unfold TPost at k |-
 split at k
 ·obtain⟨h1,at2,h2,h3,h4⟩:=k
  exact⟨h1,at2,h2,h3,up _ h4⟩
 ·exact⟨k.1,up _ k.2⟩
 ·split at k
  ·rename_i hf
   rw[if_pos hf];obtain⟨h1,at2,v2,LO2,pv,LP,h2,h3,h4,h5,h6⟩:=k;exact⟨h1,at2,v2,LO2,pv,LP,h2,h3,h4,h5,up _ h6⟩
  ·rename_i hf
   rw[if_neg hf];exact⟨k.1,up _ k.2⟩
theorem xT(src:ByteArray)(hs0:src.size<=10000)(v:Value)(b:Nat)(at0 ln0:Nat)(w:World)(LO:List (Nat×Obj))(tvs:List (Tok×Value))(hL:Kn (b::keys LO) w w ((b,.cells #[.string src,.int .i64 (at0),.int .i64 (ln0),v] 111 (0,0))::LO))(hO:gS LO v tvs)(hz:ln0<=at0+1)(hat:at0<=src.size):
    Calls Tryz.prog 85 #[.pointer (some ⟨b,0,none⟩)] w (TPost src b (b::keys LO) w v LO tvs (oC ln0 (wrd ([],src.data.toList.drop at0,ln0)))):=by
  have hsl:=szl src;have hs:src.size<=100000:=by omega
  obtain⟨V,hV⟩:∃V,wrd ([],src.data.toList.drop at0,ln0)=V:=⟨_,rfl⟩;rw[hV];have HV:=yh hV;clear hV;have hF:=hL.fx;go_enter Tryz.func85,Tryz.ntmps85;go_wp2;refine zE ?_;intro W hL hF;clear hF;generalize hq:w.heap.size+1=q at hL |-
  generalize hkt:w.heap.size=kt at hL |-
  have hqk:q=kt+1:=by omega
  have HQK:=yh hqk;clear hq hkt hqk;go_loopg [] (src.size-at0) (fun k wr=>∃(at_ ln:Nat) (pv:Value) (LP:List (Nat×Obj)) (ps:List Prt),Hid (k=src.size-at_)/\at_<=src.size/\Hid (Sz at_ ln ps)/\PtL LP pv ps/\Kn (b::keys LO) w wr ((b,.cells #[.string src,.int .i64 (at_),.int .i64 (ln),v] 111 (0,0))::(q,.cells #[pv] 135 (0,0))::(LP++(kt,.cells #[.int .i64 0,.string ⟨#[]⟩,.string ⟨#[]⟩,.slice none 0 0,.int .i64 (-1),.int .i64 ln0] 76 (0,0))::LO))/\Hid (wrd (ps,src.data.toList.drop at_,ln)=V))
  case atStart=>
    refine⟨at0,ln0,.slice none 0 0,[],[],yh rfl,hat,yh ⟨by simp[sz,tot],hz⟩,.inl ⟨rfl,rfl,rfl⟩,hL.perm fun p=>?_,HV⟩;simp only[List.countP_cons,List.countP_append,List.countP_nil];omega
  case round=>
    clear hL HV;obtain⟨at_,ln,pv,LP,ps,HK,hle,HZ,hP,hL,HV⟩:=hrel;obtain⟨b1,b2,b3⟩:=HZ.out.le hle hs0;obtain⟨l,hl⟩:∃l,src.data.toList.drop at_=l:=⟨_,rfl⟩;have hll:l.length=src.size-at_:=by rw[<- hl,List.length_drop,hsl]
    obtain⟨cont,hcont⟩:∃cont:Bool,oA l=cont:=⟨_,rfl⟩;have HC:=yh hcont;have HLL:=yh hl;rw[hl]at HV;clear hcont;have hF:=hL.fx;go_upto_region 2 with fail
    go_cut [33] (fun s wc=>s=.bool cont/\Kn (b::keys LO) w wc ((b,.cells #[.string src,.int .i64 (at_),.int .i64 (ln),v] 111 (0,0))::(q,.cells #[pv] 135 (0,0))::(LP++(kt,.cells #[.int .i64 0,.string ⟨#[]⟩,.string ⟨#[]⟩,.slice none 0 0,.int .i64 (-1),.int .i64 ln0] 76 (0,0))::LO)))
    case first=>
      cases l with
      |nil=>
        have hae:¬(at_:Int)<src.size:=by simp at hll;omega
        obtain rfl:false=cont:=HC.out;go_wp2_with ((with_reducible refine af 2 ?_);refine zX [0,1,2,3,4,5,6,7,8,9,10,11,12,13,14,15,16,17,18,19,20,21,22] [20] ?_;clear hF hL;intro ι F hne hC hG;(repeat(first|(refine cS ?_;simp only[Act.put,zT])|((first|refine cF hC ?_|refine cP ?_);intro K hK;go_big_quiet_op;go_big_quiet_on)));refine zN ?_;clear hC hG;intro W hL hF)
        go_meet
        case rel=>exact⟨rfl,hL⟩
      |cons c0 t=>
        obtain⟨d1,d2,d3⟩:=cu hl;rw[hsl]at d3;have hlt:=d3;have eb0:=bP d1 d3;obtain⟨r,hr⟩:∃r,Lib.indexByte [32,9,10,124,38,59,40,41,60,62] c0=r:=⟨_,rfl⟩;have hI:Hid (∀W,Calls Tryz.prog 81 #[.string ⟨#[32,9,10,124,38,59,40,41,60,62]⟩,.int .u8 c0.toNat] W fun x w'=>x=.returned (.int .i64 r)/\w'=W):=yh fun W=>ct _ c0 r hr _ rfl W
        have hsp:=xN c0;rw[hr]at hsp;by_cases h0:r<0
        case' pos=>obtain rfl:true=cont:=by rw[<- HC.out];simpa[h0,oA]using hsp.symm
        case' neg=>obtain rfl:false=cont:=by rw[<- HC.out];simpa[h0,oA]using hsp.symm
        all_goals
          clear hsp hr d1 d2 hl hll;go_wp2_with (first|(with_reducible refine zS ?_;intro W hL hF)|((with_reducible refine af 2 ?_);refine zX [0,1,2,3,4,5,6,7,8,9,10,11,12,13,14,15,16,17,18,19,20,21,22] [20] ?_;clear hF hL;intro ι F hne hC hG;(repeat(first|(refine cS ?_)|((first|refine cF hC ?_|refine cP ?_);intro K hK;go_big_quiet_op;go_big_quiet_on)|(refine cD ?_;intro W hL hF;go_at_call 81;(with_reducible refine(hI.out _).mono ?_);rintro e W' ⟨rfl,rfl⟩;refine zB ?_;clear hL hF hC hG;intro ι F hne hC hG;simp only[Act.put,zT])|(refine cM ?_;intro W hL hF;go_wp2;refine zB2 ?_;clear hL hC hG;intro ι F hne hC hG)));refine zN ?_;clear hC hG;intro W hL hF))
          go_meet
          case rel=>exact⟨rfl,hL⟩
    case rest=>
    clear hL;obtain⟨rfl,hL⟩:=hcut;have hF:=hL.fx
    cases cont with
    |true=>
      obtain⟨c0,t,hd0,hs1⟩:∃c0 t,l=c0::t/\ends c0=false:=by
        have:=HC.out
        cases l with
        |nil=>cases this
        |cons c0 t=>exact⟨c0,t,rfl,by simpa[oA]using this⟩
      subst hd0;have hst:=uV ps c0 t ln hs1;rw[HV.out]at hst
      cases hpc:bh ps c0 t ln with
      |bad m=>
        have HD:Hid (∀W,Kn (b::q::keys LP) W W ((b,.cells #[.string src,.int .i64 (at_),.int .i64 (ln),v] 111 (0,0))::(q,.cells #[pv] 135 (0,0))::LP)->Calls Tryz.prog 102 #[.pointer (some ⟨b,0,none⟩),.pointer (some ⟨q,0,none⟩)] W fun e w'=>e=.panicked [{v:=.iface 107 (.agg #[.int .i64 27,.int .i64 m]),recovered:=false}]/\Kn (b::q::keys LP) W w' []):=yh fun W hK=>by
          have:=ou src hs0 v b q at_ ln pv LP ps W hK hP HZ.out c0 _ hl hs1;rw[hpc]at this;exact this
        rw[hpc]at hst;have HVV:=yh hst;clear hst hpc hl;go_wp2_with ((go_at_call 102;(with_reducible refine zM (fun W hL=>HD.out _ hL.selfbqR) ?_);rintro W hL e W2 ⟨rfl,hb⟩;replace hL:=hL.joinbqR hb;clear hb hP;simp only[kfb]at hL;have hF:=hL.fx))
        rw[HVV.out];exact⟨rfl,rfl,hL.sub sN⟩
      |ok x=>
        obtain⟨ps2,r2,ln2⟩:=x;have hdz:=fw hpc;have HD:Hid (∀W,Kn (b::q::keys LP) W W ((b,.cells #[.string src,.int .i64 (at_),.int .i64 (ln),v] 111 (0,0))::(q,.cells #[pv] 135 (0,0))::LP)->Calls Tryz.prog 102 #[.pointer (some ⟨b,0,none⟩),.pointer (some ⟨q,0,none⟩)] W fun e w'=>e=.returned (.tuple #[])/\∃(at2:Nat) (pv2:Value) (LP2:List (Nat×Obj)),at2<=src.size/\Hid (src.data.toList.drop at2=r2)/\PtL LP2 pv2 ps2/\Kn (b::q::keys LP) W w' ((b,.cells #[.string src,.int .i64 (at2),.int .i64 (ln2),v] 111 (0,0))::(q,.cells #[pv2] 135 (0,0))::LP2)):=yh fun W hK=>by
          have:=ou src hs0 v b q at_ ln pv LP ps W hK hP HZ.out c0 _ hl hs1;rw[hpc]at this;exact this
        rw[hpc]at hst;have HVV:=yh hst.symm;have HDZ:=yh hdz;have HL2:=yh hll;clear hst hpc hl hdz hll;go_wp2_with ((go_at_call 102;(with_reducible refine zM (fun W hL=>HD.out _ hL.selfbqR) ?_);rintro W hL e W2 ⟨rfl,at2,pv2,LP2,ha2,hr2,hP2,hb⟩;replace hL:=hL.joinbqR hb;clear hb hP;have hP:=hP2;clear hP2;simp only[List.cons_append]at hL;have hF:=hL.fx))
        have hlen:r2.length=src.size-at2:=by rw[<- hr2.out,List.length_drop,hsl]
        have hdz:=HDZ.out;have hll:=HL2.out;simp only[List.length_cons]at hll;simp only[hlen]at hdz;go_roundg (src.size-(at2))
        case measure=>have:=HK.out;omega
        case rel=>exact⟨at2,ln2,pv2,LP2,_,yh rfl,by omega,yh (by obtain⟨h2,h3⟩:=HZ.out;exact⟨by omega,by omega⟩),hP,hL,yh (by rw[hr2.out];exact HVV.out)⟩
    |false=>
      have hVe:V=.ok (ps,l,ln):=by
        have:=HC.out
        cases l with
        |nil=>rw[<- HV.out,xO]
        |cons c0 t=>rw[<- HV.out,xP _ _ _ _ (by simpa[oA]using this)]
      have HVE:=yh hVe;clear hVe hl;replace hL:=hL.perm (L':=(kt,.cells #[.int .i64 0,.string ⟨#[]⟩,.string ⟨#[]⟩,.slice none 0 0,.int .i64 (-1),.int .i64 ln0] 76 (0,0))::(q,.cells #[pv] 135 (0,0))::(b,.cells #[.string src,.int .i64 (at_),.int .i64 (ln),v] 111 (0,0))::(LP++LO)) (fun p=>by simp only[List.countP_cons,List.countP_append,List.countP_nil];omega);go_upto_region 4 with fail
      go_cut [] (fun wc=>Kn (b::keys LO) w wc ((kt,.cells #[.int .i64 0,.string ⟨#[]⟩,.string ⟨#[]⟩,pv,.int .i64 (-1),.int .i64 ln0] 76 (0,0))::(q,.cells #[pv] 135 (0,0))::(b,.cells #[.string src,.int .i64 (at_),.int .i64 (ln),v] 111 (0,0))::(LP++LO)))
      case first=>
        rcases hP with⟨rfl,rfl,rfl⟩|⟨g,cap,cur,rfl,rfl,hr⟩
        · simp only[kfb]at hL;have hF:=hL.fx
          go_wp2;go_meet
          case rel=>exact uR rfl
        · simp only[kfb]at hL;have hF:=hL.fx
          go_wp2;go_meet
          case rel=>exact uR rfl
      case rest=>
      clear hL;have hL:=hcut;clear hcut;have hF:=hL.fx;go_upto_region 5 with fail
      obtain⟨pb,hpb⟩:∃pb,gB ps=pb:=⟨_,rfl⟩;have HPB:=yh hpb;clear hpb;go_cut [54] (fun s wc=>s=.bool pb/\Kn (b::keys LO) w wc ((kt,.cells #[.int .i64 0,.string ⟨#[]⟩,.string ⟨#[]⟩,pv,.int .i64 (-1),.int .i64 ln0] 76 (0,0))::(q,.cells #[pv] 135 (0,0))::(b,.cells #[.string src,.int .i64 (at_),.int .i64 (ln),v] 111 (0,0))::(LP++LO)))
      case first=>
        have hP1:=hP;rcases hP with⟨rfl,rfl,rfl⟩|⟨g,cap,cur,rfl,rfl,hr⟩
        · obtain rfl:false=pb:=HPB.out
          simp only[kfb]at hL;have hF:=hL.fx;go_wp2;go_meet
          case rel=>exact⟨rfl,hL⟩
        · clear hP1
          match ps,hr,hL,HPB with
          | [],hr,hL,HPB=>
            obtain rfl:false=pb:=HPB.out;simp only[kfb]at hL;have hF:=hL.fx;go_wp2;go_meet
            case rel=>exact⟨rfl,hL⟩
          | [x],hr,hL,HPB=>
            have c0:cur[0]? =some (.int .i64 x.k):=hr.get rfl;have c1:cur[1]? =some (bs x.t):=hr.get rfl;have c2:cur[2]? =some (.bool x.q):=hr.get rfl;by_cases hk:x.k=0
            · have b0:((x.k:Int)==0)=true:=by simp[hk]
              cases hq:x.q with
              |false=>
                obtain rfl:true=pb:=by rw[<- HPB.out];simp[gB,hk,hq]
                rw[hq]at c2;simp only[kfb]at hL;have hF:=hL.fx;go_wp2;go_meet
                case rel=>exact⟨rfl,hL⟩
              |true=>
                obtain rfl:false=pb:=by rw[<- HPB.out];simp[gB,hk,hq]
                rw[hq]at c2;simp only[kfb]at hL;have hF:=hL.fx;go_wp2;go_meet
                case rel=>exact⟨rfl,hL⟩
            · have b0:((x.k:Int)==0)=false:=beq_false_of_ne (by omega)
              obtain rfl:false=pb:=by rw[<- HPB.out];simp[gB,hk]
              simp only[kfb]at hL;have hF:=hL.fx;go_wp2;go_meet
              case rel=>exact⟨rfl,hL⟩
          |x::y::z,hr,hL,HPB=>
            obtain rfl:false=pb:=HPB.out;have hn2:(((x::y::z).length:Int)==1)=false:=beq_false_of_ne (by simp;omega);have hn3:((z.length:Int)+1+1==1)=false:=beq_false_of_ne (by omega);simp only[kfb]at hL;have hF:=hL.fx;go_wp2;go_meet
            case rel=>exact⟨rfl,hL⟩
      case rest=>
      clear hL;obtain⟨rfl,hL⟩:=hcut;have hF:=hL.fx;go_upto_if 54 with fail
      go_cut [] (fun wc=>∃P:ByteArray,Hid (P.data.toList=bx ps)/\Kn (b::keys LO) w wc ((kt,.cells #[.int .i64 0,.string ⟨#[]⟩,.string P,pv,.int .i64 (-1),.int .i64 ln0] 76 (0,0))::(q,.cells #[pv] 135 (0,0))::(b,.cells #[.string src,.int .i64 (at_),.int .i64 (ln),v] 111 (0,0))::(LP++LO)))
      case first=>
        cases pb with
        |false=>
          have HPL:=mB HPB.out;have HPL2:=yh HPL;clear HPL;go_wp2;go_meet
          case rel=>exact⟨⟨#[]⟩,yh HPL2.out.symm,hL⟩
        |true=>
          obtain⟨x,rfl,hk,hq,hpl⟩:=oB HPB.out;rcases hP with⟨_,_,h⟩|⟨g,cap,cur,rfl,rfl,hr⟩
          · cases h
          obtain⟨u,hu⟩:∃u:ByteArray,bs x.t=.string u:=⟨_,rfl⟩;have c1:cur[1]? =some (bs x.t):=hr.get rfl;rw[hu]at c1;have HPL:Hid (u.data.toList=bx [x]):=yh (by
            rw[hpl];simp only[bs,Value.string.injEq]at hu;rw[<- hu])
          clear hu hpl hk hq;simp only[kfb]at hL;have hF:=hL.fx;go_wp2;go_meet
          case rel=>exact⟨u,HPL,uR rfl⟩
      case rest=>
      clear hL;obtain⟨P,HPL,hL⟩:=hcut;have hPs:P.size<=1000000:=by
        have:=oD ps;rw[<- szl,HPL.out];omega
      have hln:ln<=100000:=b1;have hpv:=hP.one;have hF:=hL.fx
      cases hnum:da P.data.toList with
      |none=>
        have hN:Hid (∀(kd:Int) (tx:ByteArray) (fd ln:Int) W,Calls Tryz.prog 103 #[.agg #[.int .i64 kd,.string tx,.string P,pv,.int .i64 fd,.int .i64 ln]] W fun e w'=>e=.returned (.tuple #[.int .i64 0,.bool false])/\Below W.heap.size W w'):=yh fun kd tx fd ln W=>by
          have:=lS kd tx P pv fd ln hPs W;rw[hnum]at this;exact this
        have hst:oC ln0 V=.tok ⟨0,[],bx ps,ps,-1,ln0⟩ l ln:=by
          rw[HVE.out];show(match da (bx ps)with|some fd=>_|none=>_)=_
          rw[<- HPL.out,hnum]
        have HST:=yh hst;clear hst hnum;by_cases hf:tvs.length<2000
        all_goals
          go_wp2_with (first|(go_at_call 103;refine zC (fun W hL=>hN.out _ _ _ _ _) ?_;intro W hL hF)|(go_at_call 100;refine zG ?_;intro W hL hF;have hL3:=hL.perm (L':=((kt,.cells #[.int .i64 0,.string ⟨#[]⟩,.string P,pv,.int .i64 (-1),.int .i64 ln0] 76 (0,0))::(q,.cells #[pv] 135 (0,0))::LP)++((b,.cells #[.string src,.int .i64 (at_),.int .i64 (ln),v] 111 (0,0))::LO)) (fun p=>by simp only[List.countP_cons,List.countP_append,List.countP_nil];omega);(with_reducible refine(jN src hs0 v b at_ ln _ LO tvs hL3.selfS hO hln 0 ⟨#[]⟩ P pv hpv ps (-1) ln0 _ _ (by omega) (by omega) hf).mono ?_);rintro e W2 ⟨rfl,v2,LO2,hO2,hb⟩;replace hL:=hL3.joinS hb;clear hL3 hb hF;simp only[kfb]at hL;have hF:=hL.fx)|(go_at_call 100;refine zG ?_;intro W hL hF;have hL3:=hL.perm (L':=((kt,.cells #[.int .i64 0,.string ⟨#[]⟩,.string P,pv,.int .i64 (-1),.int .i64 ln0] 76 (0,0))::(q,.cells #[pv] 135 (0,0))::LP)++((b,.cells #[.string src,.int .i64 (at_),.int .i64 (ln),v] 111 (0,0))::LO)) (fun p=>by simp only[List.countP_cons,List.countP_append,List.countP_nil];omega);(with_reducible refine(jO src hs0 v b at_ ln _ LO tvs hL3.selfS hO hln 0 ⟨#[]⟩ P pv (-1) ln0 _ _ (by omega) (by omega) hf).mono ?_);rintro e W2 ⟨rfl,hb⟩;replace hL:=hL3.joinS hb;clear hL3 hb hF;simp only[kfb]at hL;have hF:=hL.fx))
          first|(go_end0)|(refine⟨rfl,?_⟩)
          rw[HST.out];unfold TPost;simp only[hf,if_true,if_false];first
          | (refine⟨trivial,at_,v2,LO2,pv,LP,hle,HLL.out,?_,hP,?_⟩
             · rw[<- HPL.out];exact hO2
             · have hL4:=hL.perm (L':=(kt,.cells #[.int .i64 0,.string ⟨#[]⟩,.string P,pv,.int .i64 (-1),.int .i64 ln0] 76 (0,0))::(q,.cells #[pv] 135 (0,0))::(b,.cells #[.string src,.int .i64 (at_),.int .i64 (ln),v2] 111 (0,0))::(LO2++LP)) (fun p=>by simp only[List.countP_cons,List.countP_append,List.countP_nil];omega)
               exact hL4.drop1.drop1)
          | (exact⟨trivial,hL.sub sN⟩)
      |some fd=>
        have hN:Hid (∀(kd:Int) (tx:ByteArray) (fd0 ln:Int) W,Calls Tryz.prog 103 #[.agg #[.int .i64 kd,.string tx,.string P,pv,.int .i64 fd0,.int .i64 ln]] W fun e w'=>e=.returned (.tuple #[.int .i64 fd,.bool true])/\Below W.heap.size W w'):=yh fun kd tx fd0 ln W=>by
          have:=lS kd tx P pv fd0 ln hPs W;rw[hnum]at this;exact this
        have hst:oC ln0 V=if l.head? =some 60\/l.head? =some 62 then ioS l fd ln0 ln else .tok ⟨0,[],bx ps,ps,-1,ln0⟩ l ln:=by
          rw[HVE.out];show(match da (bx ps)with|some fd=>_|none=>_)=_
          rw[<- HPL.out,hnum]
        clear hnum;have hA0:Lib.hasPrefix (src.data.toList.drop at_) (⟨#[60]⟩:ByteArray).data.toList=decide (l.head? =some 60):=by rw[HLL.out];exact hp1 l 60
        have hB0:Lib.hasPrefix (src.data.toList.drop at_) (⟨#[62]⟩:ByteArray).data.toList=decide (l.head? =some 62):=by rw[HLL.out];exact hp1 l 62
        by_cases hA1:l.head? =some 60
        · rw[decide_eq_true hA1]at hA0
          have hA:=yh hA0;rw[if_pos (.inl hA1)]at hst;have HC1:Hid (l.head? =some 60\/l.head? =some 62):=yh (.inl hA1);clear hA0 hB0 hA1;obtain⟨tk,r2,m2,hio⟩:=mC l fd ln0 ln;rw[hio]at hst;have HST:=yh hst;have HIO:Hid (∀W,Kn (b::keys LO) W W ((b,.cells #[.string src,.int .i64 (at_),.int .i64 (ln),v] 111 (0,0))::LO)->Calls Tryz.prog 84 #[.pointer (some ⟨b,0,none⟩),.int .i64 fd,.int .i64 ln0] W (TPost src b (b::keys LO) W v LO tvs (.tok tk r2 m2))):=yh fun W hK=>by
            have:=uU src hs0 v b at_ ln W LO tvs hK hO hln l HLL.out HC1.out fd ln0;rw[hio]at this;exact this
          clear hst hio;by_cases hf:tvs.length<2000
          all_goals
            go_wp2_with (first|(with_reducible refine zS ?_;intro W hL hF)|(go_at_call 103;refine zC (fun W hL=>hN.out _ _ _ _ _) ?_;intro W hL hF)|(go_at_call 83;(with_reducible refine zM (fun W hL=>cQ src ⟨#[60]⟩ at_ ln v b _ hL.h2 (by omega) hs true hA.out) ?_);rintro W hL e W ⟨rfl,hb⟩;replace hL:=hL.below hb;clear hb;skip;have hF:=hL.fx)|(go_at_call 84;refine zG ?_;intro W hL hF;have hL3:=hL.perm (L':=((kt,.cells #[.int .i64 0,.string ⟨#[]⟩,.string P,pv,.int .i64 (-1),.int .i64 ln0] 76 (0,0))::(q,.cells #[pv] 135 (0,0))::LP)++((b,.cells #[.string src,.int .i64 (at_),.int .i64 (ln),v] 111 (0,0))::LO)) (fun p=>by simp only[List.countP_cons,List.countP_append,List.countP_nil];omega);(with_reducible refine(HIO.out _ hL3.selfS).mono ?_);rintro e W2 hb;replace hb:=TPost.lift hL3 hb;simp only[TPost,hf,if_true,if_false]at hb;obtain⟨rfl,hb⟩:=hb;clear hF))
            first|(refine bodyPost_ret (by simp[results,Tryz.results85,go_sem, *];try rfl) rfl ?_)|(refine⟨rfl,?_⟩)
            rw[HST.out];unfold TPost;simp only[hf,if_true,if_false];exact⟨trivial,hb⟩
        rw[decide_eq_false hA1]at hA0;have hA:=yh hA0;by_cases hB1:l.head? =some 62
        · rw[decide_eq_true hB1]at hB0
          have hB:=yh hB0;rw[if_pos (.inr hB1)]at hst;have HC1:Hid (l.head? =some 60\/l.head? =some 62):=yh (.inr hB1);clear hA0 hB0 hA1 hB1;obtain⟨tk,r2,m2,hio⟩:=mC l fd ln0 ln;rw[hio]at hst;have HST:=yh hst;have HIO:Hid (∀W,Kn (b::keys LO) W W ((b,.cells #[.string src,.int .i64 (at_),.int .i64 (ln),v] 111 (0,0))::LO)->Calls Tryz.prog 84 #[.pointer (some ⟨b,0,none⟩),.int .i64 fd,.int .i64 ln0] W (TPost src b (b::keys LO) W v LO tvs (.tok tk r2 m2))):=yh fun W hK=>by
            have:=uU src hs0 v b at_ ln W LO tvs hK hO hln l HLL.out HC1.out fd ln0;rw[hio]at this;exact this
          clear hst hio;by_cases hf:tvs.length<2000
          all_goals
            go_wp2_with (first|(with_reducible refine zS ?_;intro W hL hF)|(go_at_call 103;refine zC (fun W hL=>hN.out _ _ _ _ _) ?_;intro W hL hF)|(go_at_call 83;refine zG ?_;intro W hL hF;(((first|(with_reducible refine(cQ src ⟨#[60]⟩ at_ ln v b _ hL.h2 (by omega) hs false hA.out).mono ?_)|(with_reducible refine(cQ src ⟨#[62]⟩ at_ ln v b _ hL.h2 (by omega) hs true hB.out).mono ?_))));rintro e W ⟨rfl,hb⟩;replace hL:=hL.below hb;clear hb hF;have hF:=hL.fx)|(go_at_call 84;refine zG ?_;intro W hL hF;have hL3:=hL.perm (L':=((kt,.cells #[.int .i64 0,.string ⟨#[]⟩,.string P,pv,.int .i64 (-1),.int .i64 ln0] 76 (0,0))::(q,.cells #[pv] 135 (0,0))::LP)++((b,.cells #[.string src,.int .i64 (at_),.int .i64 (ln),v] 111 (0,0))::LO)) (fun p=>by simp only[List.countP_cons,List.countP_append,List.countP_nil];omega);(with_reducible refine(HIO.out _ hL3.selfS).mono ?_);rintro e W2 hb;replace hb:=TPost.lift hL3 hb;simp only[TPost,hf,if_true,if_false]at hb;obtain⟨rfl,hb⟩:=hb;clear hF))
            first|(refine bodyPost_ret (by simp[results,Tryz.results85,go_sem, *];try rfl) rfl ?_)|(refine⟨rfl,?_⟩)
            rw[HST.out];unfold TPost;simp only[hf,if_true,if_false];exact⟨trivial,hb⟩
        rw[decide_eq_false hB1]at hB0;have hB:=yh hB0;rw[if_neg (fun h=>h.elim hA1 hB1)]at hst;have HST:=yh hst;clear hst hA0 hB0 hA1 hB1;by_cases hf:tvs.length<2000
        all_goals
          go_wp2_with (first|(with_reducible refine zS ?_;intro W hL hF)|(go_at_call 103;refine zC (fun W hL=>hN.out _ _ _ _ _) ?_;intro W hL hF)|(go_at_call 83;refine zG ?_;intro W hL hF;(((first|(with_reducible refine(cQ src ⟨#[60]⟩ at_ ln v b _ hL.h2 (by omega) hs false hA.out).mono ?_)|(with_reducible refine(cQ src ⟨#[62]⟩ at_ ln v b _ hL.h2 (by omega) hs false hB.out).mono ?_))));rintro e W ⟨rfl,hb⟩;replace hL:=hL.below hb;clear hb hF;have hF:=hL.fx)|(go_at_call 100;refine zG ?_;intro W hL hF;have hL3:=hL.perm (L':=((kt,.cells #[.int .i64 0,.string ⟨#[]⟩,.string P,pv,.int .i64 (-1),.int .i64 ln0] 76 (0,0))::(q,.cells #[pv] 135 (0,0))::LP)++((b,.cells #[.string src,.int .i64 (at_),.int .i64 (ln),v] 111 (0,0))::LO)) (fun p=>by simp only[List.countP_cons,List.countP_append,List.countP_nil];omega);(with_reducible refine(jN src hs0 v b at_ ln _ LO tvs hL3.selfS hO hln 0 ⟨#[]⟩ P pv hpv ps (-1) ln0 _ _ (by omega) (by omega) hf).mono ?_);rintro e W2 ⟨rfl,v2,LO2,hO2,hb⟩;replace hL:=hL3.joinS hb;clear hL3 hb hF;simp only[kfb]at hL;have hF:=hL.fx)|(go_at_call 100;refine zG ?_;intro W hL hF;have hL3:=hL.perm (L':=((kt,.cells #[.int .i64 0,.string ⟨#[]⟩,.string P,pv,.int .i64 (-1),.int .i64 ln0] 76 (0,0))::(q,.cells #[pv] 135 (0,0))::LP)++((b,.cells #[.string src,.int .i64 (at_),.int .i64 (ln),v] 111 (0,0))::LO)) (fun p=>by simp only[List.countP_cons,List.countP_append,List.countP_nil];omega);(with_reducible refine(jO src hs0 v b at_ ln _ LO tvs hL3.selfS hO hln 0 ⟨#[]⟩ P pv (-1) ln0 _ _ (by omega) (by omega) hf).mono ?_);rintro e W2 ⟨rfl,hb⟩;replace hL:=hL3.joinS hb;clear hL3 hb hF;simp only[kfb]at hL;have hF:=hL.fx))
          first|(go_end0)|(refine⟨rfl,?_⟩)
          rw[HST.out];unfold TPost;simp only[hf,if_true,if_false];first
          | (refine⟨trivial,at_,v2,LO2,pv,LP,hle,HLL.out,?_,hP,?_⟩
             · rw[<- HPL.out];exact hO2
             · have hL4:=hL.perm (L':=(kt,.cells #[.int .i64 0,.string ⟨#[]⟩,.string P,pv,.int .i64 (-1),.int .i64 ln0] 76 (0,0))::(q,.cells #[pv] 135 (0,0))::(b,.cells #[.string src,.int .i64 (at_),.int .i64 (ln),v2] 111 (0,0))::(LO2++LP)) (fun p=>by simp only[List.countP_cons,List.countP_append,List.countP_nil];omega)
               exact hL4.drop1.drop1)
          | (exact⟨trivial,hL.sub sN⟩)
theorem TPost.lift0{src:ByteArray}{b:Nat}{X:List Nat}{w W w':World}{o:Obj}{v:Value}{LO:List (Nat×Obj)}{tvs:List (Tok×Value)}{s:Step}{e:Ending}(h:Kn X w W ((b,o)::LO))(k:TPost src b (b::keys LO) W v LO tvs s e w'):TPost src b X w v LO tvs s e w':=
 TPost.lift (A:=[]) h k
theorem BI(c:UInt8)(W:World):(convert 119 9 (.slice (some ⟨W.heap.size,0,none⟩) 2 2)).run Tryz.prog (W.alloc (.cells #[.int .u8 c.toNat,.int .u8 c.toNat] 5))=.ok (.string ⟨#[c,c]⟩) (W.alloc (.cells #[.int .u8 c.toNat,.int .u8 c.toNat] 5)):=
 om (BOwn.new (Kn.refl [] W) [c,c] #[.int .u8 c.toNat,.int .u8 c.toNat] rfl 2 rfl (by simp)) ⟨#[c,c]⟩ rfl
theorem qp(c:UInt8)(n:Int)(h:(c.toNat:Int)=n)(W:World):(convert 119 9 (.slice (some ⟨W.heap.size,0,none⟩) 2 2)).run Tryz.prog (W.alloc (.cells #[.int .u8 n,.int .u8 n] 5))=.ok (.string ⟨#[c,c]⟩) (W.alloc (.cells #[.int .u8 n,.int .u8 n] 5)):=by
 subst h;exact BI c W
theorem Cg(c:UInt8)(t:ab):Lib.hasPrefix (c::t) [c,c]=decide (t.head? =some c):=by
 cases t with
 |nil=>simp[Lib.hasPrefix,List.isPrefixOf]
 |cons a r=>
  simp only[Lib.hasPrefix,List.isPrefixOf,List.head?_cons,Option.some.injEq,Bool.and_true,beq_self_eq_true,Bool.true_and];by_cases h:a=c
  ·subst h;simp
  ·rw[decide_eq_false h,beq_false_of_ne (Ne.symm h)]
theorem sZ(src:ByteArray)(hs0:src.size<=10000)(v:Value)(b:Nat)(at_ ln:Nat)(w:World)(LO:List (Nat×Obj))(tvs:List (Tok×Value))(hL:Kn (b::keys LO) w w ((b,.cells #[.string src,.int .i64 (at_),.int .i64 (ln),v] 111 (0,0))::LO))(hO:gS LO v tvs)(hln:ln<=100000)(c0:UInt8)(t:ab)(hd:src.data.toList.drop at_=c0::t)(hc0:c0=32\/c0=9\/c0=10\/c0=40\/c0=41\/c0=124\/c0=38\/c0=59):
    Calls Tryz.prog 48 #[.pointer (some ⟨b,0,none⟩)] w (TPost src b (b::keys LO) w v LO tvs (aT c0 t ln)):=by
  have hsl:=szl src;have hs:src.size<=100000:=by omega
  obtain⟨d1,d2,d3⟩:=cu hd;rw[hsl]at d3;have hlt:=d3;have eb0:=bP d1 d3;clear d1 d2;have hq1:=qp 124 124 rfl;have hq2:=qp 38 38 rfl;have hq3:=qp 59 59 rfl;have hA0:Lib.hasPrefix (src.data.toList.drop at_) (⟨#[c0,c0]⟩:ByteArray).data.toList=decide (t.head? =some c0):=by rw[hd];exact Cg c0 t
  unfold TPost;by_cases h1:c0=32\/c0=9
  · have hst:aT c0 t ln=.skip t (ln+0):=by simp[aT,h1]
    have HX:Hid (src.data.toList.drop at_=[c0]++t):=yh hd;have HLF:Hid (lf [c0]=0):=yh (by rcases h1 with rfl|rfl<;>rfl);obtain⟨hc1,hc2,hc3⟩:=eH HX.out;have hc4:=hc3 (by simp);rw[hsl]at hc4;have HC:=yh hc2;rw[hst];clear hc1 hc2 hc3 hst hd hc0 hA0 hq1 hq2 hq3;have hF:=hL.fx;rcases h1 with rfl|rfl
    all_goals
      go_enter Tryz.func48,Tryz.ntmps48;go_wp2_with (first|(with_reducible refine zS ?_;intro W hL hF)|((with_reducible refine af 0 ?_);refine zQ ?_;clear hF hL;intro ι F hne hG;(repeat go_big_quiet_step (fail));refine wpQuiet_nil ?_;clear hG;intro W hL hF)|(go_at_call 80;(with_reducible refine zM (fun W hL=>bm src at_ _ _ ln v b _ hL.h0 HX.out (by simp) hs (by omega) _ (by(simp;done))) ?_);rintro W hL e W ⟨rfl,hb⟩;replace hL:=hL.jn 0 hb;clear hb;have hF:=hL.fx))
      go_end0
      rw[HLF.out]at hL;exact⟨rfl,_,hc4,HC.out,hL⟩
  · by_cases h2:c0=124\/c0=38\/c0=59
    case' pos=>
      cases hz:decide (t.head? =some c0)
      case' true=>
        have hh:=of_decide_eq_true hz;have hst:aT c0 t ln=.tok (opT [c0,c0] ln) (t.drop 1) (ln+0):=by rcases h2 with rfl|rfl|rfl<;>simp[aT,hh]
        have HX:Hid (src.data.toList.drop at_=[c0,c0]++t.drop 1):=yh (by rw[hd];cases t with|nil=>cases hh|cons a r=>simp at hh;subst hh;rfl);have HLF:Hid (lf [c0,c0]=0):=yh (by rcases h2 with rfl|rfl|rfl<;>rfl);have hA:=yh (hA0.trans hz)
      case' false=>
        have hh:=of_decide_eq_false hz;have hst:aT c0 t ln=.tok (opT [c0] ln) t (ln+0):=by rcases h2 with rfl|rfl|rfl<;>simp[aT,hh]
        have HX:Hid (src.data.toList.drop at_=[c0]++t):=yh hd;have HLF:Hid (lf [c0]=0):=yh (by rcases h2 with rfl|rfl|rfl<;>rfl);have hA:=yh (hA0.trans hz)
    case' neg=>
      have HX:Hid (src.data.toList.drop at_=[c0]++t):=yh hd;by_cases h3:c0=10
      case' pos=>
        have hst:aT c0 t ln=.tok ⟨3,[],[],[],-1,ln⟩ t (ln+1):=by subst h3;simp[aT]
        have HLF:Hid (lf [c0]=1):=yh (by subst h3;rfl)
      case' neg=>
        have h4:c0=40\/c0=41:=by simp_all
        have hst:aT c0 t ln=.tok (opT [c0] ln) t (ln+0):=by rcases h4 with rfl|rfl<;>simp[aT]
        have HLF:Hid (lf [c0]=0):=yh (by rcases h4 with rfl|rfl<;>rfl)
    all_goals
      obtain⟨hc1,hc2,hc3⟩:=eH HX.out;have hc4:=hc3 (by simp);rw[hsl]at hc4;have HC:=yh hc2;rw[hst];clear hc1 hc2 hc3 hst hd hA0;by_cases hf:tvs.length<2000<;>simp only[hf,if_true,if_false]
      all_goals
        have hF:=hL.fx;rcases hc0 with rfl|rfl|rfl|rfl|rfl|rfl|rfl|rfl
        all_goals first|(exfalso;revert h1 h2;decide)|(exfalso;simp_all;done)|(
          clear h1 h2;go_enter Tryz.func48,Tryz.ntmps48;go_wp2_with (first|(with_reducible refine zS ?_;intro W hL hF)|((with_reducible refine af 0 ?_);refine zQ ?_;clear hF hL;intro ι F hne hG;(repeat go_big_quiet_step (fail));refine wpQuiet_nil ?_;clear hG;intro W hL hF)|(go_at_call 83;refine zC (fun W hL=>cQ src _ at_ ln v b _ hL.h1 (by omega) hs _ hA.out) ?_;intro W hL hF)|(go_at_call 82;refine zG ?_;intro W hL hF;(first|(with_reducible refine(uT src hs0 v b at_ ln _ LO tvs hL.self0q hO hln _ _ HX.out (by simp) _ (by(simp;done)) (-1) ln _ (by(rfl))).mono ?_)|(with_reducible refine(eB src hs0 v b at_ ln _ LO tvs hL.self0q hO hln 1 1 rfl (by omega) _ _ HX.out (by simp) _ (by(simp;done)) (-1) ln _ (by(rfl))).mono ?_)|(with_reducible refine(eB src hs0 v b at_ ln _ LO tvs hL.self1q hO hln 1 1 rfl (by omega) _ _ HX.out (by simp) _ (by(simp;done)) (-1) ln _ (by(rfl))).mono ?_));rintro e W2 hb;(first|(simp only[gj,if_pos hf]at hb;obtain⟨rfl,v2,LO2,pv2,rfl,hO2,hb⟩:=hb)|(simp only[gj,if_neg hf]at hb;obtain⟨rfl,hb⟩:=hb));(first|replace hL:=hL.tail0 hb|replace hL:=hL.tail1 hb);clear hb hF;have hF:=hL.fx))
          first
          | (go_end0
             rw[HLF.out]at hL;exact⟨rfl,_,v2,LO2,.slice none 0 0,[],hc4,HC.out,hO2,.inl ⟨rfl,rfl,rfl⟩,by rw[List.append_nil];first|exact hL|exact hL.drop1⟩)
          |exact⟨rfl,rfl,hL.sub sN⟩)
theorem xU(a r:ab)(h:(10:UInt8)∉a):(a++10::r).dropWhile (· != 10)=10::r:=by
 induction a with
 |nil=>rfl
 |cons c t ih=>
  simp only[List.mem_cons,not_or]at h;have hc:(c != 10)=true:=by rw[bne_iff_ne];exact Ne.symm h.1
  rw[List.cons_append,List.dropWhile_cons];simp only[hc,if_true];exact ih h.2
theorem rx(a:ab)(h:(10:UInt8)∉a):lf a=0:=List.count_eq_zero.2 h
theorem iF{c:UInt8}:∀{s:ab},brk c s=none->c∉s
 | [],_=>by simp
 |d::t,h=>by
  rw[brk]at h;split at h
  ·cases h
  ·rename_i hd
   cases hb:brk c t with
   |none=>
    intro hm;rcases List.mem_cons.1 hm with e|e
    ·exact hd e.symm
    ·exact iF hb e
   |some y=>rw[hb]at h;cases h
theorem qq(src:ByteArray)(hs0:src.size<=10000)(v:Value)(b:Nat)(at_ ln:Nat)(w:World)(LO:List (Nat×Obj))(tvs:List (Tok×Value))(hL:Kn (b::keys LO) w w ((b,.cells #[.string src,.int .i64 (at_),.int .i64 (ln),v] 111 (0,0))::LO))(hO:gS LO v tvs)(hln:ln<=100000)(hz:ln<=at_+1)(c0:UInt8)(t:ab)(hd:src.data.toList.drop at_=c0::t)(hc0:¬(c0=32\/c0=9\/c0=10\/c0=40\/c0=41\/c0=124\/c0=38\/c0=59)):
    Calls Tryz.prog 48 #[.pointer (some ⟨b,0,none⟩)] w (TPost src b (b::keys LO) w v LO tvs (aT c0 t ln)):=by
  have hsl:=szl src;have hs:src.size<=100000:=by omega
  obtain⟨d1,d2,d3⟩:=cu hd;rw[hsl]at d3;have hlt:=d3;have eb0:=bP d1 d3;by_cases hc:c0=35
  · subst hc
    obtain⟨u,hu⟩:∃u,src.extract at_ src.size=u:=⟨_,rfl⟩;have hul:u.data.toList=35::t:=by rw[<- hu,bj,List.take_of_length_le (by omega),hd]
    rcases iX 10 (35::t)with⟨hb1,hb2⟩|⟨a,r,hb1,hb2⟩
    · have hI:Hid (∀W,Calls Tryz.prog 81 #[.string u,.int .u8 10] W fun e w'=>e=.returned (.int .i64 (-1))/\w'=W):=yh fun W=>ct u 10 (-1) (by rw[hul];exact hb2) 10 rfl W
      have hm:=iF hb1;have hm2:(10:UInt8)∉t:=fun h=>hm (List.mem_cons_of_mem _ h)
      have hdw:t.dropWhile (· != 10)=[]:=ke _ _ fun c hc=>by
        rw[bne_iff_ne];rintro rfl;exact hm2 hc
      have htl:t.length+1=src.size-at_:=by
        have:=congrArg List.length hd;rw[List.length_drop,hsl]at this;simp at this;omega
      have hk:(src.size:Int)-at_=t.length+1:=by omega
      have HKK:=yh hk;have w1:IntKind.i64.wrap ((src.size:Int)-(at_:Int))=(src.size:Int)-(at_:Int):=by rw[IntWalk.i64_in _ (by omega)]
      have hst:aT 35 t ln=.skip [] (ln+0):=by simp[aT,hdw]
      rw[hst];have hxx:src.data.toList.drop at_=(35::t)++[]:=by rw[hd];simp
      have HX:=yh hxx;obtain⟨hc1,hc2,hc3⟩:=eH hxx;have hc4:=hc3 (by simp);rw[hsl]at hc4;have HC:=yh hc2;have hlf:lf (35::t)=0:=rx _ hm;have HLF:=yh hlf;clear hxx hc1 hc2 hc3 hlf hst hd d1 d2 hul hb1 hb2 hm hm2 hdw htl hk hz;unfold TPost;have hF:=hL.fx;go_enter Tryz.func48,Tryz.ntmps48;go_wp2_with (first|(with_reducible refine zS ?_;intro W hL hF)|((with_reducible refine af 0 ?_);refine zQ ?_;clear hF hL;intro ι F hne hG;(repeat go_big_quiet_step (fail));refine wpQuiet_nil ?_;clear hG;intro W hL hF)|((with_reducible refine af 9 ?_);refine zX [0,1,2,3,4,5,6,7,8,9,10] [9] ?_;clear hF hL;intro ι F hne hC hG;(repeat(first|(refine cS ?_)|((first|refine cF hC ?_|refine cP ?_);intro K hK;go_big_quiet_op;go_big_quiet_on)|(refine cD ?_;intro W hL hF;go_at_call 81;(with_reducible refine(hI.out _).mono ?_);rintro e W' ⟨rfl,rfl⟩;refine zB ?_;clear hL hF hC hG;intro ι F hne hC hG;simp only[Act.put,zT])|(refine cM ?_;intro W hL hF;go_wp2;refine zB2 ?_;clear hL hC hG;intro ι F hne hC hG)));refine zN ?_;clear hC hG;intro W hL hF)|((with_reducible refine af 11 ?_);refine zQ ?_;clear hF hL;intro ι F hne hG;(repeat go_big_quiet_step (fail));refine wpQuiet_nil ?_;clear hG;intro W hL hF)|(go_at_call 80;(with_reducible refine zM (fun W hL=>bm src at_ (35::t) [] ln v b _ hL.h0 HX.out (by simp) hs (by omega) _ (by rw[HKK.out];simp)) ?_);rintro W hL e W ⟨rfl,hb⟩;replace hL:=hL.jn 0 hb;clear hb;have hF:=hL.fx))
      go_end0
      rw[HLF.out]at hL;exact⟨rfl,_,hc4,HC.out,hL⟩
    · obtain⟨hbt,hbm⟩:=bB hb1
      cases a with
      |nil=>cases hbt
      |cons a0 a1=>
        have h0:a0=35:=by injection hbt with h1 h2;exact h1.symm
        subst h0;have ht:t=a1++10::r:=by injection hbt
        obtain⟨n,hn⟩:∃n,n=(35::a1:ab).length:=⟨_,rfl⟩;have hI:Hid (∀W,Calls Tryz.prog 81 #[.string u,.int .u8 10] W fun e w'=>e=.returned (.int .i64 (n:Int))/\w'=W):=yh fun W=>ct u 10 n (by rw[hul,hn];exact hb2) 10 rfl W
        have hm2:(10:UInt8)∉a1:=fun h=>hbm (List.mem_cons_of_mem _ h)
        have hdw:t.dropWhile (· != 10)=10::r:=by rw[ht];exact xU a1 r hm2
        have q0:¬(n:Int)<0:=by omega
        have HKK:Hid ((n:Int)=(35::a1:ab).length):=yh (by rw[hn]);have hst:aT 35 t ln=.skip (10::r) (ln+0):=by simp[aT,hdw]
        rw[hst];have hxx:src.data.toList.drop at_=(35::a1)++(10::r):=by rw[hd,ht];rfl
        have HX:=yh hxx;obtain⟨hc1,hc2,hc3⟩:=eH hxx;have hc4:=hc3 (by simp);rw[hsl]at hc4;have HC:=yh hc2;have hlf:lf (35::a1)=0:=rx _ hbm;have HLF:=yh hlf;clear hxx hc1 hc2 hc3 hlf hst hd d1 d2 hul hb1 hb2 hm2 hdw hz hbt hbm hn ht;unfold TPost;have hF:=hL.fx;go_enter Tryz.func48,Tryz.ntmps48;go_wp2_with (first|(with_reducible refine zS ?_;intro W hL hF)|((with_reducible refine af 0 ?_);refine zQ ?_;clear hF hL;intro ι F hne hG;(repeat go_big_quiet_step (fail));refine wpQuiet_nil ?_;clear hG;intro W hL hF)|((with_reducible refine af 9 ?_);refine zX [0,1,2,3,4,5,6,7,8,9,10] [9] ?_;clear hF hL;intro ι F hne hC hG;(repeat(first|(refine cS ?_)|((first|refine cF hC ?_|refine cP ?_);intro K hK;go_big_quiet_op;go_big_quiet_on)|(refine cD ?_;intro W hL hF;go_at_call 81;(with_reducible refine(hI.out _).mono ?_);rintro e W' ⟨rfl,rfl⟩;refine zB ?_;clear hL hF hC hG;intro ι F hne hC hG;simp only[Act.put,zT])|(refine cM ?_;intro W hL hF;go_wp2;refine zB2 ?_;clear hL hC hG;intro ι F hne hC hG)));refine zN ?_;clear hC hG;intro W hL hF)|((with_reducible refine af 11 ?_);refine zX [0,1,2,3,4,5,6,7,8,9,10] [] ?_;clear hL;intro ι F hne hC hG;(repeat((refine cS ?_)));refine ix ?_;clear hC hG;intro W hL;have hF:=hL.facts)|(go_at_call 80;(with_reducible refine zM (fun W hL=>bm src at_ (35::a1) (10::r) ln v b _ hL.h0 HX.out (by simp) hs (by omega) _ HKK.out) ?_);rintro W hL e W ⟨rfl,hb⟩;replace hL:=hL.jn 0 hb;clear hb;have hF:=hL.fx))
        go_end0
        rw[HLF.out]at hL;exact⟨rfl,_,hc4,HC.out,hL⟩
  have f35:((c0.toNat:Int)==35)=false:=beq_false_of_ne (fun h=>hc (UInt8.toNat_inj.1 (show c0.toNat=35 by omega)));by_cases hc60:c0=60\/c0=62
  · have hst:aT c0 t ln=ioS (c0::t) (-1) ln ln:=by rcases hc60 with rfl|rfl<;>simp[aT]
    obtain⟨tk,r2,m2,hio⟩:=mC (c0::t) (-1) ln ln;rw[hst,hio];have HIO:Hid (∀W,Kn (b::keys LO) W W ((b,.cells #[.string src,.int .i64 (at_),.int .i64 (ln),v] 111 (0,0))::LO)->Calls Tryz.prog 84 #[.pointer (some ⟨b,0,none⟩),.int .i64 (-1),.int .i64 ln] W (TPost src b (b::keys LO) W v LO tvs (.tok tk r2 m2))):=yh fun W hK=>by
      have:=uU src hs0 v b at_ ln W LO tvs hK hO hln (c0::t) hd (by rcases hc60 with rfl|rfl<;>simp) (-1) ln;rw[hio]at this;exact this
    have hcv:c0=60\/c0=62:=hc60;clear hst hio hd d1 d2 hc60 hc0 hc;unfold TPost;by_cases hf:tvs.length<2000
    · simp only[if_pos hf]
      rcases hcv with rfl|rfl
      all_goals
        have hF:=hL.fx;go_enter Tryz.func48,Tryz.ntmps48;go_wp2_with (first|((with_reducible refine af 0 ?_);refine zQ ?_;clear hF hL;intro ι F hne hG;(repeat go_big_quiet_step (fail));refine wpQuiet_nil ?_;clear hG;intro W hL hF)|(go_at_call 84;(with_reducible refine zM (fun W hL=>HIO.out _ hL.self0q) ?_);rintro W hL e W2 hb;replace hb:=TPost.lift0 hL hb;simp only[TPost,hf,if_true,if_false]at hb;obtain⟨rfl,hb⟩:=hb))
        go_end0
        exact⟨rfl,hb⟩
    · simp only[if_neg hf]
      rcases hcv with rfl|rfl
      all_goals
        have hF:=hL.fx;go_enter Tryz.func48,Tryz.ntmps48;go_wp2_with (first|((with_reducible refine af 0 ?_);refine zQ ?_;clear hF hL;intro ι F hne hG;(repeat go_big_quiet_step (fail));refine wpQuiet_nil ?_;clear hG;intro W hL hF)|(go_at_call 84;(with_reducible refine zM (fun W hL=>HIO.out _ hL.self0q) ?_);rintro W hL e W2 hb;replace hb:=TPost.lift0 hL hb;simp only[TPost,hf,if_true,if_false]at hb;obtain⟨rfl,hb⟩:=hb))
        exact⟨rfl,rfl,hb⟩
  simp only[not_or]at hc0 hc60;obtain⟨h32,h9,h10,h40,h41,h124,h38,h59⟩:=hc0;obtain⟨h60,h62⟩:=hc60;have f32:((c0.toNat:Int)==32)=false:=beq_false_of_ne (fun h=>h32 (UInt8.toNat_inj.1 (show c0.toNat=32 by omega)));have f9:((c0.toNat:Int)==9)=false:=beq_false_of_ne (fun h=>h9 (UInt8.toNat_inj.1 (show c0.toNat=9 by omega)));have f10:((c0.toNat:Int)==10)=false:=beq_false_of_ne (fun h=>h10 (UInt8.toNat_inj.1 (show c0.toNat=10 by omega)));have f40:((c0.toNat:Int)==40)=false:=beq_false_of_ne (fun h=>h40 (UInt8.toNat_inj.1 (show c0.toNat=40 by omega)));have f41:((c0.toNat:Int)==41)=false:=beq_false_of_ne (fun h=>h41 (UInt8.toNat_inj.1 (show c0.toNat=41 by omega)));have f124:((c0.toNat:Int)==124)=false:=beq_false_of_ne (fun h=>h124 (UInt8.toNat_inj.1 (show c0.toNat=124 by omega)));have f38:((c0.toNat:Int)==38)=false:=beq_false_of_ne (fun h=>h38 (UInt8.toNat_inj.1 (show c0.toNat=38 by omega)));have f59:((c0.toNat:Int)==59)=false:=beq_false_of_ne (fun h=>h59 (UInt8.toNat_inj.1 (show c0.toNat=59 by omega)));have f60:((c0.toNat:Int)==60)=false:=beq_false_of_ne (fun h=>h60 (UInt8.toNat_inj.1 (show c0.toNat=60 by omega)));have f62:((c0.toNat:Int)==62)=false:=beq_false_of_ne (fun h=>h62 (UInt8.toNat_inj.1 (show c0.toNat=62 by omega)));by_cases hc92:c0=92/\t.head? =some 10
  · obtain⟨rfl,hh⟩:=hc92
    have hA:=yh (show Lib.hasPrefix (src.data.toList.drop at_) (⟨#[92,10]⟩:ByteArray).data.toList=true by rw[hd];cases t with|nil=>cases hh|cons a r=>simp at hh;subst hh;rfl);have hst:aT 92 t ln=.skip (t.drop 1) (ln+1):=by simp[aT,hh]
    rw[hst];have hxx:src.data.toList.drop at_=[92,10]++(t.drop 1):=by rw[hd];cases t with|nil=>cases hh|cons a r=>simp at hh;subst hh;rfl
    have HX:=yh hxx;obtain⟨hc1,hc2,hc3⟩:=eH hxx;have hc4:=hc3 (by simp);rw[hsl]at hc4;have HC:=yh hc2;have hlf:lf [92,10]=1:=by rfl
    have HLF:=yh hlf;clear hxx hc1 hc2 hc3 hlf hst hd d1 d2 hz;unfold TPost;have hF:=hL.fx;go_enter Tryz.func48,Tryz.ntmps48;go_wp2_with (first|(with_reducible refine zS ?_;intro W hL hF)|((with_reducible refine af 0 ?_);refine zQ ?_;clear hF hL;intro ι F hne hG;(repeat go_big_quiet_step (fail));refine wpQuiet_nil ?_;clear hG;intro W hL hF)|(go_at_call 83;(with_reducible refine zM (fun W hL=>cQ src ⟨#[92,10]⟩ at_ ln v b _ hL.h0 (by omega) hs true hA.out) ?_);rintro W hL e W ⟨rfl,hb⟩;replace hL:=hL.below hb;clear hb;skip;have hF:=hL.fx)|(go_at_call 80;(with_reducible refine zM (fun W hL=>bm src at_ [92,10] (t.drop 1) ln v b _ hL.h0 HX.out (by simp) hs (by omega) _ (by(simp;done))) ?_);rintro W hL e W ⟨rfl,hb⟩;replace hL:=hL.jn 0 hb;clear hb;have hF:=hL.fx))
    refine bodyPost_ret (by simp[results,Tryz.results48,go_sem, *];try rfl) rfl ?_;rw[HLF.out]at hL;exact⟨rfl,_,hc4,HC.out,hL⟩
  · have hA0:Lib.hasPrefix (src.data.toList.drop at_) (⟨#[92,10]⟩:ByteArray).data.toList=false:=by
      rw[hd]
      cases t with
      |nil=>simp[Lib.hasPrefix,List.isPrefixOf]
      |cons a r=>
        simp[Lib.hasPrefix,List.isPrefixOf];intro h1 h2;exact hc92 ⟨h1.symm,by simp[h2]⟩
    have hA:=yh hA0;have hst:aT c0 t ln=oC ln (wrd ([],c0::t,ln)):=by
      unfold aT wrd;rw[if_neg (by simp[h32,h9]),if_neg hc,if_neg h10,if_neg (by simp[h124,h38,h59]),if_neg (by simp[h40,h41]),if_neg (by simp[h60,h62]),if_neg hc92];show(match word (t.length+2) ([],c0::t,ln)with|.bad m=>_|.ok (ps,r,m)=>_)=_
      cases word (t.length+2) ([],c0::t,ln)with
      |bad m=>rfl
      |ok x=>rfl
    obtain⟨V,hV⟩:∃V,oC ln (wrd ([],c0::t,ln))=V:=⟨_,rfl⟩;rw[hst,hV];have HW:Hid (∀W,Kn (b::keys LO) W W ((b,.cells #[.string src,.int .i64 (at_),.int .i64 (ln),v] 111 (0,0))::LO)->Calls Tryz.prog 85 #[.pointer (some ⟨b,0,none⟩)] W (TPost src b (b::keys LO) W v LO tvs V)):=yh fun W hK=>by
      have:=xT src hs0 v b at_ ln W LO tvs hK hO hz (by omega);rw[hd,hV]at this;exact this
    clear hst hV hd d1 d2 hA0 hz
    cases V with
    |skip r m=>
      unfold TPost at HW |-
      have hF:=hL.fx;go_enter Tryz.func48,Tryz.ntmps48;go_wp2_with (first|(with_reducible refine zS ?_;intro W hL hF)|((with_reducible refine af 0 ?_);refine zQ ?_;clear hF hL;intro ι F hne hG;(repeat go_big_quiet_step (fail));refine wpQuiet_nil ?_;clear hG;intro W hL hF)|(go_at_call 83;(with_reducible refine zM (fun W hL=>cQ src ⟨#[92,10]⟩ at_ ln v b _ hL.h0 (by omega) hs false hA.out) ?_);rintro W hL e W ⟨rfl,hb⟩;replace hL:=hL.below hb;clear hb;skip;have hF:=hL.fx)|(go_at_call 85;(with_reducible refine zM (fun W hL=>HW.out _ hL.self0q) ?_);rintro W hL e W2 hb;obtain⟨rfl,at2,ha2,hr2,hb⟩:=hb;replace hL:=hL.tail0 hb;clear hb;have hF:=hL.fx))
      go_end0
      exact⟨rfl,at2,ha2,hr2,hL⟩
    |bad m=>
      unfold TPost at HW |-
      have hF:=hL.fx;go_enter Tryz.func48,Tryz.ntmps48;go_wp2_with (first|(with_reducible refine zS ?_;intro W hL hF)|((with_reducible refine af 0 ?_);refine zQ ?_;clear hF hL;intro ι F hne hG;(repeat go_big_quiet_step (fail));refine wpQuiet_nil ?_;clear hG;intro W hL hF)|(go_at_call 83;(with_reducible refine zM (fun W hL=>cQ src ⟨#[92,10]⟩ at_ ln v b _ hL.h0 (by omega) hs false hA.out) ?_);rintro W hL e W ⟨rfl,hb⟩;replace hL:=hL.below hb;clear hb;skip;have hF:=hL.fx)|(go_at_call 85;(with_reducible refine zM (fun W hL=>HW.out _ hL.self0q) ?_);rintro W hL e W2 hb;obtain⟨rfl,hb⟩:=hb;replace hL:=hL.tail0 hb;clear hb;have hF:=hL.fx))
      exact⟨rfl,rfl,hL⟩
    |tok tk r m=>
      unfold TPost at HW |-
      by_cases hf:tvs.length<2000
      all_goals
        simp only[hf,if_true,if_false]at HW |-
        have hF:=hL.fx;go_enter Tryz.func48,Tryz.ntmps48;go_wp2_with (first|(with_reducible refine zS ?_;intro W hL hF)|((with_reducible refine af 0 ?_);refine zQ ?_;clear hF hL;intro ι F hne hG;(repeat go_big_quiet_step (fail));refine wpQuiet_nil ?_;clear hG;intro W hL hF)|(go_at_call 83;(with_reducible refine zM (fun W hL=>cQ src ⟨#[92,10]⟩ at_ ln v b _ hL.h0 (by omega) hs false hA.out) ?_);rintro W hL e W ⟨rfl,hb⟩;replace hL:=hL.below hb;clear hb;skip;have hF:=hL.fx)|(go_at_call 85;(with_reducible refine zM (fun W hL=>HW.out _ hL.self0q) ?_);rintro W hL e W2 hb;obtain⟨rfl,at2,v2,LO2,pv,LP,h1,h2,h3,h4,hb⟩:=hb;replace hL:=hL.tail0 hb;clear hb;have hF:=hL.fx)|(go_at_call 85;(with_reducible refine zM (fun W hL=>HW.out _ hL.self0q) ?_);rintro W hL e W2 hb;obtain⟨rfl,hb⟩:=hb;replace hL:=hL.tail0 hb;clear hb;have hF:=hL.fx))
        first
        | (go_end0
           exact⟨rfl,at2,v2,LO2,pv,LP,h1,h2,h3,h4,hL⟩)
        | (exact⟨rfl,rfl,hL⟩)
theorem uY(src:ByteArray)(hs0:src.size<=10000)(v:Value)(b:Nat)(at_ ln:Nat)(w:World)(LO:List (Nat×Obj))(tvs:List (Tok×Value))(hL:Kn (b::keys LO) w w ((b,.cells #[.string src,.int .i64 (at_),.int .i64 (ln),v] 111 (0,0))::LO))(hO:gS LO v tvs)(hln:ln<=100000)(hz:ln<=at_+1)(c0:UInt8)(t:ab)(hd:src.data.toList.drop at_=c0::t):
  Calls Tryz.prog 48 #[.pointer (some ⟨b,0,none⟩)] w (TPost src b (b::keys LO) w v LO tvs (aT c0 t ln)):=by
 by_cases hc0:c0=32\/c0=9\/c0=10\/c0=40\/c0=41\/c0=124\/c0=38\/c0=59
 ·exact sZ src hs0 v b at_ ln w LO tvs hL hO hln c0 t hd hc0
 ·exact qq src hs0 v b at_ ln w LO tvs hL hO hln hz c0 t hd hc0
theorem oE(x:Value)(W:World):(Instr.typeAssert (.iface 107 x) 20 107 true).run Tryz.prog W=.ok (.tuple #[x,.bool true]) W:=by kernel_rfl
theorem ju(bo be bl:Nat)(v0:Value)(hv:v0.oneCell'=true)(e0 l0 k m:Int)(older:List PanicEntry)(w:World)(hL:Kn [bo,be,bl] w w [(bo,.cells #[v0] 66 (0,0)),(be,.cells #[.int .i64 e0] 26 (0,0)),(bl,.cells #[.int .i64 l0] 3 (0,0))]):
  CallsD Tryz.prog 47 #[.pointer (some ⟨bo,0,none⟩),.pointer (some ⟨be,0,none⟩),.pointer (some ⟨bl,0,none⟩)] (.panicking ({v:=.iface 107 (.agg #[.int .i64 k,.int .i64 m]),recovered:=false}::older)) w fun e u' w'=>
   e=.returned (.tuple #[])/\u'=.panicking ({v:=.iface 107 (.agg #[.int .i64 k,.int .i64 m]),recovered:=true}::older)/\Kn [bo,be,bl] w w' [(bo,.cells #[.slice none 0 0] 66 (0,0)),(be,.cells #[.int .i64 k] 26 (0,0)),(bl,.cells #[.int .i64 m] 3 (0,0))]:=by
 refine callsD_of_wpS Tryz.func47 rfl fun c₀ cs hu=>?_
 apply wpS_seq
 apply wpS_region
 simp[wpOpsS,go_sem,recoverD,hu,Tryz.ntmps47,Exit.thenS]
 refine wpS_of_wp ?_
 have hF:=hL.fx
 generalize hR:(fun(e:Exit) (a':Act) (w':World)=>bodyPostS _ _ _ _ _ e a' _ w')=Q2
 have key:∀(a':Act) (w':World),a'.defers=[]->Kn [bo,be,bl] w w' [(bo,.cells #[.slice none 0 0] 66 (0,0)),(be,.cells #[.int .i64 k] 26 (0,0)),(bl,.cells #[.int .i64 m] 3 (0,0))]->Q2 .normal a' w':=by
  intro a' w' h1 h2;rw[<- hR];refine⟨h1,_,rfl,.tuple #[],?_,rfl,rfl,h2⟩;simp[results,Tryz.results47,go_sem]
 have HK:=yh key
 clear hR key
 clear hu
 obtain⟨pz,hpz⟩:∃pz,Value.iface 107 (.agg #[.int .i64 k,.int .i64 m])=pz:=⟨_,rfl⟩
 rw[hpz]
 show Code.wp _ _ _ {tmps:=#[.pointer (some ⟨bo,0,none⟩),.pointer (some ⟨be,0,none⟩),.pointer (some ⟨bl,0,none⟩),pz,undef,undef,pz,undef,undef,undef,undef,undef,undef,undef,undef,undef,undef,undef,undef,undef,undef],defers:=[]} _
 subst hpz
 have hta:=oE (.agg #[.int .i64 k,.int .i64 m])
 go_wp2_with ((with_reducible refine af 5 ?_);refine zX [0,1,2,3,4,5,6] [6] ?_ (sC (sD (sD (sD sR))));clear hF hL;intro ι F hne hC hG;(repeat(first|((first|refine cF hC ?_|refine cP ?_);intro K hK;go_big_quiet_op;go_big_quiet_on)|(refine cN ?_;intro W hL;(try simp only[kfb]at hL);have hF:=hL.fx;go_wp2;refine ai ?_;(first|(refine bO _ (by rfl) ?_;clear hL hF hC hG;intro ι F hne hC hFF;have hG:=fun n=>(hFF n).fx;clear hFF)|(refine a_ _ (by repeat' (first|(with_reducible exact List.Sublist.refl _)|(with_reducible apply List.Sublist.cons_cons)|(with_reducible apply List.Sublist.cons))) ?_;clear hL hF)))));refine zN ?_;clear hC hG;intro W hL hF)
 exact HK.out _ _ rfl hL.drop1
theorem kq(bo be bl:Nat)(w:World):
  CallsD Tryz.prog 47 #[.pointer (some ⟨bo,0,none⟩),.pointer (some ⟨be,0,none⟩),.pointer (some ⟨bl,0,none⟩)] .returning w fun e u' w'=>e=.returned (.tuple #[])/\u'=.returning/\w'=w:=by
 refine callsD_of_wpS Tryz.func47 rfl fun c₀ cs hu=>?_
 apply wpS_seq
 apply wpS_region
 simp[wpOpsS,go_sem,recoverD,hu,Tryz.ntmps47,Exit.thenS]
 refine wpS_of_wp ?_
 generalize hR:(fun(e:Exit) (a':Act) (w':World)=>bodyPostS _ _ _ _ _ e a' _ w')=Q2
 have key:∀(a':Act),a'.defers=[]->Q2 .normal a' w:=by
  intro a' h1;rw[<- hR];refine⟨h1,c₀.mode,?_,.tuple #[],?_,rfl,hu,rfl⟩
  ·cases c₀;rfl
  ·simp[results,Tryz.results47,go_sem]
 have HK:=yh key
 clear hR key hu
 show Code.wp _ _ _ {tmps:=#[.pointer (some ⟨bo,0,none⟩),.pointer (some ⟨be,0,none⟩),.pointer (some ⟨bl,0,none⟩),.nilIface,undef,undef,.nilIface,undef,undef,undef,undef,undef,undef,undef,undef,undef,undef,undef,undef,undef,undef],defers:=[]} _
 go_wp2
 exact HK.out _ rfl
end Go.Proofs.YtgboffbbpmileaaGreatDoor
