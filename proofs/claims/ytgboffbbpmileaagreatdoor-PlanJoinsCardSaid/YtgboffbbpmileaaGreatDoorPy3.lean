/- Lemmas and walks for the law VLawPJoins (part 3). -/
import Derived.Test.YtgboffbbpmileaaGreatDoorPy2
import Derived.Test.YtgboffbbpmileaaGreatDoorProg
import Derived.WalkKit
import Derived.Handy
import Derived.Deep.Light
import Derived.WalkSmall
import Derived.StillTailTactics
import Derived.Lib.Hide
set_option maxRecDepth 20000
set_option maxHeartbeats 4000000
set_option linter.unusedVariables false
set_option linter.unusedSimpArgs false
namespace Go.Proofs.YtgboffbbpmileaaGreatDoor
open Go Go.RowKit
theorem iy{c:UInt8}:∀{s a r:ab} (x:ab),brk c s=some (a,r)->brk c (s++x)=some (a,r++x)
 | [],a,r,x,h=>by simp[brk]at h
 |d::t,a,r,x,h=>by
  rw[brk]at h;rw[List.cons_append,brk];split at h
  ·grind
  ·rename_i hd
   rw[if_neg hd]
   cases hb:brk c t with
   |none=>grind
   |some y=>
    obtain⟨y1,y2⟩:=y;rw[hb]at h;simp only[Option.map_some,Option.some.injEq,Prod.mk.injEq]at h;obtain⟨rfl,rfl⟩:=h;rw[iy x hb];rfl
theorem bB{c:UInt8}:∀{s a r:ab},brk c s=some (a,r)->s=a++c::r/\c∉a
 | [],a,r,h=>by simp[brk]at h
 |d::t,a,r,h=>by
  rw[brk]at h;split at h
  ·grind
  ·rename_i hd
   cases hb:brk c t with
   |none=>grind
   |some y=>
    obtain⟨y1,y2⟩:=y;rw[hb]at h;simp only[Option.map_some,Option.some.injEq,Prod.mk.injEq]at h;obtain⟨rfl,rfl⟩:=h;obtain⟨h1,h2⟩:=bB hb;grind
theorem aU(f d:Nat)(c:UInt8)(t:ab):aP (f+1) (some d) (c::t)=
  (if c=92 then(match t with
   | []=>none
   |e::t=>(aP f (some d) t).map fun x=>(92::e::x.1,x.2))
  else if c=39 then(brk 39 t).bind fun y=>(aP f (some d) y.2).map fun x=>(39::(y.1++39::x.1),x.2)
  else if c=34 then(aP f none t).bind fun y=>(aP f (some d) y.2).map fun x=>(34::(y.1++34::x.1),x.2)
  else if c=40 then(aP f (some (d+1)) t).map fun x=>(40::x.1,x.2)
  else if c=41 then(if d=1 then some ([],t)else(aP f (some (d-1)) t).map fun x=>(41::x.1,x.2))
  else(aP f (some d) t).map fun x=>(c::x.1,x.2)):=rfl
theorem bQ(f:Nat)(c:UInt8)(t:ab):aP (f+1) none (c::t)=
  (if c=34 then some ([],t)
  else if c=92 then(match t with
   | []=>none
   |e::t=>(aP f none t).map fun x=>(92::e::x.1,x.2))
  else if c=36/\t.head? =some 40 then(aP f (some 1) (t.drop 1)).bind fun y=>(aP f none y.2).map fun x=>(36::40::(y.1++41::x.1),x.2)
  else(aP f none t).map fun x=>(c::x.1,x.2)):=rfl
theorem nI:∀(f:Nat) (m:Option Nat) (s a r:ab),aP f m s=some (a,r)->r.length<s.length:=by
 intro f
 induction f with
 |zero=>intro m s a r h;cases m<;>cases h
 |succ f ih=>
  intro m s a r h
  cases s with
  |nil=>cases m<;>cases h
  |cons c t=>
   have one:∀(m':Option Nat) (t':ab) (g:ab->ab),((aP f m' t').map fun x=>(g x.1,x.2))=some (a,r)->t'.length<=t.length->r.length<(c::t).length:=by
    intro m' t' g h hl
    cases hs:aP f m' t' with
    |none=>grind
    |some y=>
     grind
   cases m with
   |some d=>
    rw[aU]at h;split at h
    ·split at h
     ·cases h
     ·rename_i e t'
      exact one _ _ (fun z=>92::e::z) h (by simp)
    ·split at h
     ·cases hb:brk 39 t with
      |none=>grind
      |some y=>
       rw[hb]at h;simp only[Option.bind_some]at h;obtain⟨h1,_⟩:=bB (a:=y.1) (r:=y.2) hb;have:=congrArg List.length h1;simp only[List.length_append,List.length_cons]at this;exact one _ _ (fun z=>39::(y.1++39::z)) h (by omega)
     ·split at h
      ·cases hb:aP f none t with
       |none=>grind
       |some y=>
        rw[hb]at h;simp only[Option.bind_some]at h;have:=ih _ _ y.1 y.2 hb;exact one _ _ (fun z=>34::(y.1++34::z)) h (by omega)
      ·split at h
       ·exact one _ _ (fun z=>40::z) h (by simp)
       ·split at h
        ·split at h
         ·grind
         ·exact one _ _ (fun z=>41::z) h (by simp)
        ·exact one _ _ (fun z=>c::z) h (by simp)
   |none=>
    rw[bQ]at h;split at h
    ·grind
    ·split at h
     ·split at h
      ·cases h
      ·rename_i e t'
       exact one _ _ (fun z=>92::e::z) h (by simp)
     ·split at h
      ·cases hb:aP f (some 1) (t.drop 1)with
       |none=>grind
       |some y=>
        rw[hb]at h;simp only[Option.bind_some]at h;have:=ih _ _ y.1 y.2 hb;rw[List.length_drop]at this;exact one _ _ (fun z=>36::40::(y.1++41::z)) h (by omega)
      ·exact one _ _ (fun z=>c::z) h (by simp)
theorem sG:∀(f:Nat) (m:Option Nat) (s a r:ab),aP f m s=some (a,r)->∀(g:Nat) (x:ab),f<=g->aP g m (s++x)=some (a,r++x):=by
 intro f
 induction f with
 |zero=>intro m s a r h;cases m<;>cases h
 |succ f ih=>
  intro m s a r h g x hg;obtain⟨g,rfl⟩:∃g',g=g'+1:=⟨g-1,by omega⟩
  cases s with
  |nil=>cases m<;>cases h
  |cons c t=>
   have one:∀(m':Option Nat) (t':ab) (k:ab->ab),((aP f m' t').map fun x=>(k x.1,x.2))=some (a,r)->((aP g m' (t'++x)).map fun x=>(k x.1,x.2))=some (a,r++x):=by
    intro m' t' k h
    cases hs:aP f m' t' with
    |none=>grind
    |some y=>
     grind
   rw[List.cons_append]
   cases m with
   |some d=>
    rw[aU]at h |-
    by_cases h92:c=92
    ·rw[if_pos h92]at h |-
     cases t with
     |nil=>cases h
     |cons e t'=>exact one _ _ (fun z=>92::e::z) h
    rw[if_neg h92]at h |-
    by_cases h39:c=39
    ·rw[if_pos h39]at h |-
     cases hb:brk 39 t with
     |none=>grind
     |some y=>
      rw[hb]at h;simp only[Option.bind_some]at h;rw[iy (a:=y.1) (r:=y.2) x hb];exact one _ _ (fun z=>39::(y.1++39::z)) h
    rw[if_neg h39]at h |-
    by_cases h34:c=34
    ·rw[if_pos h34]at h |-
     cases hb:aP f none t with
     |none=>grind
     |some y=>
      rw[hb]at h;simp only[Option.bind_some]at h;rw[ih _ _ y.1 y.2 hb g x (by omega)];exact one _ _ (fun z=>34::(y.1++34::z)) h
    rw[if_neg h34]at h |-
    by_cases h40:c=40
    ·rw[if_pos h40]at h |-
     exact one _ _ (fun z=>40::z) h
    rw[if_neg h40]at h |-
    by_cases h41:c=41
    ·rw[if_pos h41]at h |-
     by_cases hd:d=1
     ·grind
     ·rw[if_neg hd]at h |-
      exact one _ _ (fun z=>41::z) h
    ·rw[if_neg h41]at h |-
     exact one _ _ (fun z=>c::z) h
   |none=>
    rw[bQ]at h |-
    by_cases h34:c=34
    ·grind
    rw[if_neg h34]at h |-
    by_cases h92:c=92
    ·rw[if_pos h92]at h |-
     cases t with
     |nil=>cases h
     |cons e t'=>exact one _ _ (fun z=>92::e::z) h
    rw[if_neg h92]at h |-
    by_cases h36:c=36/\t.head? =some 40
    ·rw[if_pos h36]at h
     have ht:t≠[]:=by grind
     have h36':c=36/\(t++x).head? =some 40:=by
      grind
     rw[if_pos h36'];have hdr:(t++x).drop 1=t.drop 1++x:=by
      simp_all
     rw[hdr]
     cases hb:aP f (some 1) (t.drop 1)with
     |none=>grind
     |some y=>
      rw[hb]at h;simp only[Option.bind_some]at h;rw[ih _ _ y.1 y.2 hb g x (by omega)];exact one _ _ (fun z=>36::40::(y.1++41::z)) h
    ·rw[if_neg h36]at h
     by_cases h36':c=36/\(t++x).head? =some 40
     ·exfalso
      cases t with
      |nil=>
       cases f<;>cases h
      |cons e t=>grind
     ·rw[if_neg h36']
      exact one _ _ (fun z=>c::z) h
theorem nJ{s a r:ab}(x:ab)(h:dF s=some (a,r)):dF (s++x)=some (a,r++x):=
 sG _ _ _ _ _ h _ x (by simp)
theorem h_{c:UInt8}{s a r:ab}(h:brk c s=some (a,r)):r <:+ s:=by
 obtain⟨h1,_⟩:=bB h
 exact⟨a++[c],by grind⟩
theorem nK:∀(f:Nat) (m:Option Nat) (s a r:ab),aP f m s=some (a,r)->r <:+ s:=by
 intro f
 induction f with
 |zero=>intro m s a r h;cases m<;>cases h
 |succ f ih=>
  intro m s a r h
  cases s with
  |nil=>cases m<;>cases h
  |cons c t=>
   have one:∀(m':Option Nat) (t':ab) (g:ab->ab),((aP f m' t').map fun x=>(g x.1,x.2))=some (a,r)->t' <:+ t->r <:+ c::t:=by
    intro m' t' g h hl
    cases hs:aP f m' t' with
    |none=>grind
    |some y=>
     grind
   cases m with
   |some d=>
    rw[aU]at h;split at h
    ·split at h
     ·cases h
     ·rename_i e t'
      exact one _ _ (fun z=>92::e::z) h (List.suffix_cons _ _)
    ·split at h
     ·cases hb:brk 39 t with
      |none=>grind
      |some y=>
       rw[hb]at h;simp only[Option.bind_some]at h;exact one _ _ (fun z=>39::(y.1++39::z)) h (h_ (a:=y.1) hb)
     ·split at h
      ·cases hb:aP f none t with
       |none=>grind
       |some y=>
        rw[hb]at h;simp only[Option.bind_some]at h;exact one _ _ (fun z=>34::(y.1++34::z)) h (ih _ _ y.1 y.2 hb)
      ·split at h
       ·exact one _ _ (fun z=>40::z) h (List.suffix_refl _)
       ·split at h
        ·split at h
         ·grind
         ·exact one _ _ (fun z=>41::z) h (List.suffix_refl _)
        ·exact one _ _ (fun z=>c::z) h (List.suffix_refl _)
   |none=>
    rw[bQ]at h;split at h
    ·grind
    ·split at h
     ·split at h
      ·cases h
      ·rename_i e t'
       exact one _ _ (fun z=>92::e::z) h (List.suffix_cons _ _)
     ·split at h
      ·cases hb:aP f (some 1) (t.drop 1)with
       |none=>grind
       |some y=>
        rw[hb]at h;simp only[Option.bind_some]at h;exact one _ _ (fun z=>36::40::(y.1++41::z)) h ((ih _ _ y.1 y.2 hb).trans (List.drop_suffix _ _))
      ·exact one _ _ (fun z=>c::z) h (List.suffix_refl _)
def gap(c:UInt8):Prop:=c=10\/c=32\/c=9
theorem gJ{c:UInt8}(h:gap c):dz c=false/\bK c=false/\eJ c=false/\ends c=true:=by
 rcases h with rfl|rfl|rfl<;>decide
theorem jm{y:UInt8}(hy:gap y)(x:ab):∀s:ab,bR (s++y::x)=bR s
 | []=>by
  grind[gJ,bR]
 |c::t=>by
  simp_all[bR,jm]
theorem pY{y:UInt8}(hy:gap y)(x:ab):∀s:ab,named (s++y::x)=named s
 | []=>by
  grind[gJ,named]
 |c::t=>by
  grind[named,jm]
theorem pZ{y:UInt8}(hy:gap y)(x s:ab):bw (s++y::x)=bw s:=by
 unfold bw
 grind[pY,named,gJ]
theorem iV:∀s:ab,bR s<=s.length
 | []=>Nat.le_refl _
 |c::t=>by
  rw[bR];have:=iV t;grind
theorem ur:∀s:ab,named s<=s.length
 | []=>Nat.le_refl _
 |c::t=>by
  grind[named,iV]
theorem iA(s:ab):bw s<=s.length:=by
 unfold bw
 grind[ur]
theorem jo{y:UInt8}(hy:gap y)(x:ab){ps:List Prt}{s:ab}{n:Nat}{q:Bool}{st:St}(h:aH ps s n q=.ok st):aH ps (s++y::x) n q=.ok (st.1,st.2.1++y::x,st.2.2):=by
 have hh:∀c:UInt8,¬gap c->((s++y::x).head? =some c↔s.head? =some c):=fun c hc=>by
  cases s with
  |nil=>grind
  |cons d t=>simp
 unfold aH at h |-
 by_cases h40:s.head? =some 40
 ·rw[if_pos h40]at h
  rw[if_pos ((hh 40 (by rintro(h|h|h)<;>cases h)).2 h40)];have hd:(s++y::x).drop 1=s.drop 1++y::x:=by
   cases s with
   |nil=>grind
   |cons d t=>rfl
  rw[hd]
  cases hp:dF (s.drop 1)with
  |none=>grind
  |some z=>
   obtain⟨a,r⟩:=z;rw[hp]at h;rw[nJ _ hp];grind
 rw[if_neg h40]at h
 rw[if_neg (fun e=>h40 ((hh 40 (by rintro(h|h|h)<;>cases h)).1 e))]
 by_cases h123:s.head? =some 123
 ·rw[if_pos h123]at h
  rw[if_pos ((hh 123 (by rintro(h|h|h)<;>cases h)).2 h123)];have hd:(s++y::x).drop 1=s.drop 1++y::x:=by
   cases s with
   |nil=>grind
   |cons d t=>rfl
  rw[hd]
  cases hp:brk 125 (s.drop 1)with
  |none=>grind
  |some z=>
   obtain⟨a,r⟩:=z;rw[hp]at h;rw[iy _ hp];grind
 rw[if_neg h123]at h
 rw[if_neg (fun e=>h123 ((hh 123 (by rintro(h|h|h)<;>cases h)).1 e))]
 grind[pZ,iA]
theorem gA{ps:List Prt}{s:ab}{n:Nat}{q:Bool}{st:St}(h:aH ps s n q=.ok st):st.2.1 <:+ s:=by
 unfold aH at h
 split at h
 ·rename_i h40
  cases hp:dF (s.drop 1)with
  |none=>grind
  |some z=>
   obtain⟨a,r⟩:=z;rw[hp]at h;injection h with h
   rw[<- h];exact(nK _ _ _ _ _ hp).trans (List.drop_suffix _ _)
 ·split at h
  ·cases hp:brk 125 (s.drop 1)with
   |none=>grind
   |some z=>
    obtain⟨a,r⟩:=z;rw[hp]at h;simp only at h;split at h
    ·cases h
    ·injection h with h
     rw[<- h];exact(h_ hp).trans (List.drop_suffix _ _)
  ·split at h
   ·injection h with h;rw[<- h];exact List.drop_suffix _ _
   grind
theorem aQ(f n0:Nat)(ps:List Prt)(c:UInt8)(t:ab)(n:Nat):bn (f+1) n0 (ps,c::t,n)=
   (if c=34 then .ok (ps,t,n)
   else if c=36 then(match aH ps t n true with
    |.bad m=>.bad m
    |.ok x=>bn f n0 x)
   else if c=92 then(match t with
    |d::r=>if esc d then bn f n0 (addT ps [d] true,r,n)else bn f n0 (addT ps [92] true,t,n)
    | []=>bn f n0 (addT ps [92] true,t,n))
   else bn f n0 (addT ps [c] true,t,n+lf [c])):=rfl
theorem ba(f:Nat)(ps:List Prt)(c:UInt8)(t:ab)(n:Nat):word (f+1) (ps,c::t,n)=(if ends c then .ok (ps,c::t,n)else match bh ps c t n with
    |.bad m=>.bad m
    |.ok x=>word f x):=rfl
theorem nL{y:UInt8}(hy:gap y)(x:ab)(n0:Nat):∀(f:Nat) (ps:List Prt) (l:ab) (n:Nat) (st:St),bn f n0 (ps,l,n)=.ok st->∀g,f<=g->bn g n0 (ps,l++y::x,n)=.ok (st.1,st.2.1++y::x,st.2.2):=by
 intro f
 induction f with
 |zero=>intro ps l n st h;cases h
 |succ f ih=>
  intro ps l n st h g hg;obtain⟨g,rfl⟩:∃g',g=g'+1:=⟨g-1,by omega⟩
  cases l with
  |nil=>cases h
  |cons c t=>
   rw[aQ]at h;rw[List.cons_append,aQ];by_cases h34:c=34
   ·grind
   rw[if_neg h34]at h |-
   by_cases h36:c=36
   ·rw[if_pos h36]at h |-
    cases hd:aH ps t n true with
    |bad m=>grind
    |ok z=>
     grind[jo]
   rw[if_neg h36]at h |-
   by_cases h92:c=92
   ·rw[if_pos h92]at h |-
    cases t with
    |nil=>
     exfalso
     cases f<;>cases h
    |cons d r=>
     grind
   grind
theorem nM(n0:Nat):∀(f:Nat) (ps:List Prt) (l:ab) (n:Nat) (st:St),bn f n0 (ps,l,n)=.ok st->st.2.1 <:+ l:=by
 intro f
 induction f with
 |zero=>intro ps l n st h;cases h
 |succ f ih=>
  intro ps l n st h
  cases l with
  |nil=>cases h
  |cons c t=>
   rw[aQ]at h;split at h
   ·grind
   ·split at h
    ·cases hd:aH ps t n true with
     |bad m=>grind
     |ok z=>
      rw[hd]at h;obtain⟨z1,z2,z3⟩:=z;exact((ih _ _ _ _ h).trans (gA hd)).trans (List.suffix_cons _ _)
    ·split at h
     ·split at h
      ·split at h
       ·exact((ih _ _ _ _ h).trans (List.suffix_cons _ _)).trans (List.suffix_cons _ _)
       grind
      grind
     grind
theorem p_{y:UInt8}(hy:gap y)(x:ab){ps:List Prt}{c:UInt8}{t:ab}{n:Nat}{st:St}(h:bh ps c t n=.ok st)(he:c≠92\/t≠[]):bh ps c (t++y::x) n=.ok (st.1,st.2.1++y::x,st.2.2):=by
 unfold bh at h |-
 by_cases h39:c=39
 ·rw[if_pos h39]at h |-
  cases hb:brk 39 t with
  |none=>grind
  |some z=>
   obtain⟨a,r⟩:=z;rw[hb]at h;rw[iy _ hb];grind
 grind[nL,jo]
theorem fJ{ps:List Prt}{c:UInt8}{t:ab}{n:Nat}{st:St}(h:bh ps c t n=.ok st):st.2.1 <:+ t:=by
 unfold bh at h
 grind[brk,h_,nM,gA]
theorem iW{l r:ab}(h:r <:+ l)(he:l.getLast? ≠some 92):r.getLast? ≠some 92:=by
 obtain⟨u,rfl⟩:=h
 grind
theorem sH{y:UInt8}(hy:gap y)(x:ab):∀(f:Nat) (ps:List Prt) (l:ab) (n:Nat) (st:St),word f (ps,l,n)=.ok st->l.length<f->l.getLast? ≠some 92->∀g,f<=g->word g (ps,l++y::x,n)=.ok (st.1,st.2.1++y::x,st.2.2):=by
 intro f
 induction f with
 |zero=>omega
 |succ f ih=>
  intro ps l n st h hl he g hg;obtain⟨g,rfl⟩:∃g',g=g'+1:=⟨g-1,by omega⟩
  cases l with
  |nil=>
   rw[word]at h;injection h with h
   rw[List.nil_append,ba];rw[if_pos (gJ hy).2.2.2,<- h];rfl
  |cons c t=>
   rw[ba]at h;rw[List.cons_append,ba];split at h
   ·grind
   ·rename_i hc
    rw[if_neg hc]
    cases hp:bh ps c t n with
    |bad m=>grind
    |ok z=>
     rw[hp]at h;obtain⟨z1,z2,z3⟩:=z;have hlc:c≠92\/t≠[]:=by
      grind
     have hs:=fJ hp;have hsl:=hs.length_le;simp only at hs hsl;rw[p_ hy x hp hlc];grind[iW]
theorem lI:∀(f:Nat) (ps:List Prt) (l:ab) (n:Nat) (st:St),word f (ps,l,n)=.ok st->st.2.1 <:+ l:=by
 intro f
 induction f with
 |zero=>intro ps l n st h;injection h with h;grind
 |succ f ih=>
  intro ps l n st h
  cases l with
  |nil=>grind[word]
  |cons c t=>
   rw[ba]at h;split at h
   ·grind
   ·cases hp:bh ps c t n with
    |bad m=>grind
    |ok z=>
     rw[hp]at h;obtain⟨z1,z2,z3⟩:=z;exact((ih _ _ _ _ h).trans (fJ hp)).trans (List.suffix_cons _ _)
def Step.more(z:ab):Step->Step
 |.skip r n=>.skip (r++z) n
 |.tok t r n=>.tok t (r++z) n
 |.bad n=>.bad n
theorem kc{y:UInt8}(hy:gap y)(x l:ab):((l++y::x).take 2=[62,62]\/(l++y::x).take 2=[62,38])↔(l.take 2=[62,62]\/l.take 2=[62,38]):=by
 have n62:y≠62:=by rintro rfl;rcases hy with h|h|h<;>cases h
 have n38:y≠38:=by rintro rfl;rcases hy with h|h|h<;>cases h
 match l with
 | []=>grind
 | [a]=>grind
 |a::b::l=>simp
theorem nN{y:UInt8}(hy:gap y)(x l:ab)(hl:l≠[])(fd:Int)(n0 n:Nat):ioS (l++y::x) fd n0 n=(ioS l fd n0 n).more (y::x):=by
 have h1:(l++y::x).take 1=l.take 1/\(l++y::x).drop 1=l.drop 1++y::x:=by
  cases l with
  |nil=>grind
  |cons a l=>grind
 unfold ioS
 by_cases h:l.take 2=[62,62]\/l.take 2=[62,38]
 ·have h2:(l++y::x).take 2=l.take 2/\(l++y::x).drop 2=l.drop 2++y::x:=by
   match l,h with
   | [],h=>grind
   | [a],h=>grind
   |a::b::l,_=>grind
  rw[if_pos h,if_pos ((kc hy x l).2 h),h2.1,h2.2];rfl
 ·rw[if_neg h,if_neg (fun e=>h ((kc hy x l).1 e)),h1.1,h1.2];rfl
theorem lJ(p:UInt8->Bool):∀(t z:ab),(∃c∈t,p c=false)->(t++z).dropWhile p=t.dropWhile p++z
 | [],z,h=>by grind
 |c::t,z,h=>by
  rw[List.cons_append,List.dropWhile_cons,List.dropWhile_cons]
  cases hp:p c
  ·rfl
  simp_all[lJ]
theorem lK(p:UInt8->Bool):∀(t z:ab),(∀c∈t,p c=true)->(t++z).dropWhile p=z.dropWhile p
 | [],z,h=>rfl
 |c::t,z,h=>by
  simp_all
theorem ke(p:UInt8->Bool)(t:ab)(h:∀c∈t,p c=true):t.dropWhile p=[]:=by
 have:=lK p t [] h
 simp_all
theorem sI{y:UInt8}(hy:gap y)(x:ab){c:UInt8}{t:ab}{n:Nat}(hb:∀m,aT c t n≠ .bad m)(he:(c::t).getLast? ≠some 92)(hc:c≠35\/10∈t):aT c (t++y::x) n=(aT c t n).more (y::x):=by
 have hh:∀d:UInt8,¬gap d->((t++y::x).head? =some d↔t.head? =some d):=fun d hd=>by
  cases t with
  |nil=>grind
  |cons d t=>simp
 have hdr:t≠[]->(t++y::x).drop 1=t.drop 1++y::x:=fun h=>by
  grind
 unfold aT at hb |-
 by_cases h1:c=32\/c=9
 ·rw[if_pos h1,if_pos h1];rfl
 rw[if_neg h1]at hb |-
 rw[if_neg h1]
 by_cases h2:c=35
 ·rw[if_pos h2,if_pos h2]
  have h10:10∈t:=by grind
  rw[lJ _ t _ ⟨10,h10,rfl⟩];rfl
 rw[if_neg h2]at hb |-
 rw[if_neg h2]
 by_cases h3:c=10
 ·rw[if_pos h3,if_pos h3];rfl
 rw[if_neg h3]at hb |-
 rw[if_neg h3]
 by_cases h4:c=124\/c=38\/c=59
 ·rw[if_pos h4,if_pos h4]
  have hg:¬gap c:=by rintro(h|h|h)<;>subst h<;>rcases h4 with h|h|h<;>cases h
  by_cases h5:t.head? =some c
  ·rw[if_pos h5,if_pos ((hh c hg).2 h5),hdr (by grind)];rfl
  ·rw[if_neg h5,if_neg (fun e=>h5 ((hh c hg).1 e))];rfl
 rw[if_neg h4]at hb |-
 rw[if_neg h4]
 by_cases h5:c=40\/c=41
 ·rw[if_pos h5,if_pos h5];rfl
 rw[if_neg h5]at hb |-
 rw[if_neg h5]
 by_cases h6:c=60\/c=62
 ·grind[nN]
 rw[if_neg h6]at hb |-
 rw[if_neg h6]
 by_cases h7:c=92/\t.head? =some 10
 ·have h8:c=92/\(t++y::x).head? =some 10:=by
   grind
  rw[if_pos h7,if_pos h8,hdr (by grind)];rfl
 rw[if_neg h7]at hb |-
 have h8:¬(c=92/\(t++y::x).head? =some 10):=by
  rintro⟨e1,e2⟩
  cases t with
  |nil=>grind
  |cons d t=>grind
 rw[if_neg h8]
 cases hw:word (t.length+2) ([],c::t,n)with
 |bad m=>grind
 |ok st=>
  obtain⟨ps,r,m⟩:=st;have hm:=sH hy x _ _ _ _ _ hw (by grind) he ((t++y::x).length+2) (by grind);rw[List.cons_append]at hm;rw[hm];simp only
  cases hnum:da (bx ps)with
  |none=>rfl
  |some fd=>
   simp only;have hr:((r++y::x).head? =some 60\/(r++y::x).head? =some 62)↔(r.head? =some 60\/r.head? =some 62):=by
    cases r with
    |nil=>
     simp;constructor<;>(rintro rfl;rcases hy with h|h|h<;>cases h)
    |cons d r=>simp
   by_cases h9:r.head? =some 60\/r.head? =some 62
   ·grind[nN]
   ·rw[if_neg h9,if_neg (fun e=>h9 (hr.1 e))];rfl
def Step.rest:Step->ab
 |.skip r _=>r
 |.tok _ r _=>r
 |.bad _=>[]
theorem kg(l:ab)(fd:Int)(n0 n:Nat):(ioS l fd n0 n).rest <:+ l:=by
 unfold ioS
 split<;>exact List.drop_suffix _ _
theorem sJ(c:UInt8)(t:ab)(n:Nat):(aT c t n).rest <:+ c::t:=by
 have ht:t <:+ c::t:=List.suffix_cons _ _
 unfold aT
 split
 ·exact ht
 ·split
  ·exact(List.dropWhile_suffix _).trans ht
  ·split
   ·exact ht
   ·split
    ·split
     ·exact(List.drop_suffix _ _).trans ht
     ·exact ht
    ·split
     ·exact ht
     ·split
      ·grind[kg]
      ·split
       ·exact(List.drop_suffix _ _).trans ht
       ·cases hw:word (t.length+2) ([],c::t,n)with
        |bad m=>exact List.nil_suffix
        |ok st=>
         obtain⟨ps,r,m⟩:=st;have h2:=lI _ _ _ _ _ hw;simp only;split
         ·split
          ·grind[kg]
          ·exact h2
         ·exact h2
inductive Fin where
 |fin (line:Nat)
 |bad (line:Nat)
def raw:Nat->ab->Nat->List Tok×Fin
 |0,_,n=>([],.fin n)
 |_+1,[],n=>([],.fin n)
 |f+1,c::t,n=>match aT c t n with
  |.bad m=>([],.bad m)
  |.skip r m=>raw f r m
  |.tok x r m=>(x::(raw f r m).1,(raw f r m).2)
theorem kh(f:Nat)(c:UInt8)(t:ab)(n:Nat):raw (f+1) (c::t) n=(match aT c t n with
  |.bad m=>([],.bad m)
  |.skip r m=>raw f r m
  |.tok x r m=>(x::(raw f r m).1,(raw f r m).2)):=rfl
theorem du(c:UInt8)(t:ab)(n:Nat):(aT c t n).rest.length<(c::t).length:=by
 have hd:∀k,(t.drop k).length<(c::t).length:=fun k=>by grind
 unfold aT
 split
 ·simp[Step.rest]
 ·split
  ·have:=(List.dropWhile_suffix (l:=t) (p:=(· != 10))).length_le
   grind[Step.rest]
  ·split
   ·simp[Step.rest]
   ·split
    ·grind[Step.rest]
    ·split
     ·simp[Step.rest]
     ·split
      ·grind[ioS,Step.rest]
      ·split
       ·exact hd 1
       ·rename_i h32 h35 h10 h124 h40 h60 h92
        cases hw:word (t.length+2) ([],c::t,n)with
        |bad m=>simp[Step.rest]
        |ok st=>
         obtain⟨ps,r,m⟩:=st
         have hr:r.length<(c::t).length:=by
          rw[ba]at hw;have he:ends c=false:=by
           grind[ends]
          rw[he]at hw;simp only[Bool.false_eq_true,if_false]at hw
          cases hp:bh [] c t n with
          |bad m=>grind
          |ok z=>
           rw[hp]at hw;obtain⟨z1,z2,z3⟩:=z;have h1:=(fJ hp).length_le;have h2:=(lI _ _ _ _ _ hw).length_le;grind
         simp only;split
         ·split
          ·grind[kg]
          ·exact hr
         ·exact hr
theorem ut:∀(f g:Nat) (l:ab) (n:Nat),l.length<f->l.length<g->raw f l n=raw g l n:=by
 intro f
 induction f with
 |zero=>omega
 |succ f ih=>
  intro g l n hf hg;obtain⟨g,rfl⟩:∃g',g=g'+1:=⟨g-1,by omega⟩
  cases l with
  |nil=>rfl
  |cons c t=>
   rw[kh,kh];have hl:=du c t n;grind[aT,Step.rest]
def bG(l:ab)(n:Nat):List Tok×Fin:=raw (l.length+1) l n
theorem ci(n:Nat):bG [] n=([],.fin n):=rfl
theorem bD(c:UInt8)(t:ab)(n:Nat):bG (c::t) n=(match aT c t n with
  |.bad m=>([],.bad m)
  |.skip r m=>bG r m
  |.tok x r m=>(x::(bG r m).1,(bG r m).2)):=by
 have hl:=du c t n
 grind[bG,kh,aT,Step.rest,ut]
def lim(out:List Tok)(x:List Tok×Fin):Res:=
 match x.1[2000-out.length]? with
 |some t=>.err true t.line
 |none=>match x.2 with
  |.bad m=>.err false m
  |.fin n=>.ok (out++x.1++[ew n])
theorem xu:∀(f:Nat) (out:List Tok) (l:ab) (n:Nat),l.length<f->out.length<=2000->run f out l n=lim out (bG l n):=by
 intro f
 induction f with
 |zero=>omega
 |succ f ih=>
  intro out l n hf ho
  cases l with
  |nil=>rw[run,ci];simp[lim]
  |cons c t=>
   have hl:=du c t n;rw[bD];show(match aT c t n with
    |.bad m=>Res.err false m
    |.skip r m=>run f out r m
    |.tok x r m=>if 2000<=out.length then .err true x.line else run f (out++[x]) r m)=_
   cases hs:aT c t n with
   |bad m=>simp[lim]
   |skip r m=>
    grind[Step.rest]
   |tok x r m=>
    grind[Step.rest,lim,bG]
theorem jJ(s:ab)(h:s.length<=8000):lex s=lim [] (bG s 1):=by
 grind[lex,xu]
theorem sK{y:UInt8}(hy:gap y)(x:ab)(hc:∀m,bG ((y::x).dropWhile (· != 10)) m=bG (y::x) m):∀(k:Nat) (l:ab) (n m:Nat),l.length<=k->(bG l n).2=.fin m->l.getLast? ≠some 92->bG (l++y::x) n=((bG l n).1++(bG (y::x) m).1,(bG (y::x) m).2):=by
 intro k
 induction k with
 |zero=>
  intro l n m hl h he;obtain rfl:=List.eq_nil_of_length_eq_zero (Nat.le_zero.1 hl);rw[ci]at h |-
  injection h with h
  subst h;rfl
 |succ k ih=>
  intro l n m hl h he
  cases l with
  |nil=>
   rw[ci]at h |-
   injection h with h
   subst h;rfl
  |cons c t=>
   have hlt:=du c t n;have hsuf:=sJ c t n;rw[bD]at h |-
   rw[List.cons_append,bD];by_cases hcm:c≠35\/10∈t
   ·have hnb:∀m,aT c t n≠ .bad m:=fun m e=>by rw[e]at h;cases h
    rw[sI hy x hnb he hcm]
    cases hs:aT c t n with
    |bad m=>exact absurd hs (hnb m)
    |skip r m'=>
     rw[hs]at h hlt hsuf;simp only[Step.rest,List.length_cons]at hlt hl;exact ih r m' m (by omega) h (iW hsuf he)
    |tok z r m'=>
     rw[hs]at h hlt hsuf;simp only[Step.rest,List.length_cons]at hlt hl;simp only[Step.more];rw[ih r m' m (by omega) h (iW hsuf he)];rfl
   ·-- a comment up to the end
    simp only[not_or,Decidable.not_not]at hcm;obtain⟨rfl,h10⟩:=hcm;have hs:∀u,aT 35 u n=.skip (u.dropWhile (· != 10)) n:=fun u=>rfl
    have hal:∀c∈t,(c != 10)=true:=fun c hc=>by
     rw[bne_iff_ne];rintro rfl;exact h10 hc
    rw[hs]at h |-
    rw[hs];simp only at h |-
    rw[ke _ t hal,ci]at h |-
    rw[lK _ t _ hal,hc n];injection h with h
    subst h;rfl
def Tok.up(k:Nat)(t:Tok):Tok:={t with line:=t.line+k}
def Rup(k:Nat):R St->R St
 |.ok (ps,l,n)=>.ok (ps,l,n+k)
 |.bad n=>.bad (n+k)
def Step.up(k:Nat):Step->Step
 |.skip r n=>.skip r (n+k)
 |.tok t r n=>.tok (t.up k) r (n+k)
 |.bad n=>.bad (n+k)
def Fin.up(k:Nat):Fin->Fin
 |.fin n=>.fin (n+k)
 |.bad n=>.bad (n+k)
theorem lL(k:Nat)(ps:List Prt)(s:ab)(n:Nat)(q:Bool):aH ps s (n+k) q=Rup k (aH ps s n q):=by
 grind[aH,Rup]
theorem sL(k:Nat):∀(f n0:Nat) (ps:List Prt) (l:ab) (n:Nat),bn f (n0+k) (ps,l,n+k)=Rup k (bn f n0 (ps,l,n)):=by
 intro f
 induction f with
 |zero=>intro n0 ps l n;rfl
 |succ f ih=>
  intro n0 ps l n
  cases l with
  |nil=>rfl
  |cons c t=>
   rw[aQ,aQ];split
   ·rfl
   ·split
    ·grind[lL,aH]
    ·split
     ·split
      ·grind
      grind
     grind
theorem uu(k:Nat)(ps:List Prt)(c:UInt8)(t:ab)(n:Nat):bh ps c t (n+k)=Rup k (bh ps c t n):=by
 unfold bh
 grind[Rup,sL,lL]
theorem xw(k:Nat):∀(f:Nat) (ps:List Prt) (l:ab) (n:Nat),word f (ps,l,n+k)=Rup k (word f (ps,l,n)):=by
 intro f
 induction f with
 |zero=>intro ps l n;rfl
 |succ f ih=>
  intro ps l n
  cases l with
  |nil=>rfl
  |cons c t=>
   rw[ba,ba];split
   ·rfl
   ·rw[uu]
    cases bh ps c t n with
    |bad m=>rfl
    |ok z=>obtain⟨z1,z2,z3⟩:=z;exact ih _ _ _
theorem uv(k:Nat)(l:ab)(fd:Int)(n0 n:Nat):ioS l fd (n0+k) (n+k)=(ioS l fd n0 n).up k:=by
 unfold ioS
 split<;>rfl
theorem xx(k:Nat)(c:UInt8)(t:ab)(n:Nat):aT c t (n+k)=(aT c t n).up k:=by
 unfold aT
 split
 ·rfl
 ·split
  ·rfl
  ·split
   ·grind[Step.up,Tok.up]
   ·split
    ·split<;>rfl
    ·split
     ·rfl
     ·split
      ·grind[uv]
      ·split
       ·grind[Step.up]
       ·rw[xw]
        cases word (t.length+2) ([],c::t,n)with
        |bad m=>rfl
        |ok z=>
         obtain⟨ps,r,m⟩:=z;simp only[Rup];split
         ·split
          ·grind[uv]
          ·rfl
         ·rfl
theorem xy(k:Nat):∀(d:Nat) (l:ab) (n:Nat),l.length<=d->bG l (n+k)=((bG l n).1.map (Tok.up k),(bG l n).2.up k):=by
 intro d
 induction d with
 |zero=>
  intro l n hl;obtain rfl:=List.eq_nil_of_length_eq_zero (Nat.le_zero.1 hl);rfl
 |succ d ih=>
  intro l n hl
  cases l with
  |nil=>rfl
  |cons c t=>
   have hlt:=du c t n;rw[bD,bD,xx]
   cases hs:aT c t n with
   |bad m=>rfl
   |skip r m=>
    grind[Step.rest,Step.up]
   |tok x r m=>
    grind[Step.rest,Step.up]
theorem xz(b:ab)(m:Nat):bG (10::b) m=(⟨3,[],[],[],-1,m⟩::(bG b (m+1)).1,(bG b (m+1)).2):=by
 rw[bD];rfl
theorem sM(a b:ab)(n m:Nat)(h:(bG a n).2=.fin m)(he:a.getLast? ≠some 92):bG (a++10::b) n=((bG a n).1++⟨3,[],[],[],-1,m⟩::(bG b (m+1)).1,(bG b (m+1)).2):=by
 rw[sK (.inl rfl) b (fun m=>rfl) _ a n m (Nat.le_refl _) h he,xz]
def Bw(c:UInt8):Prop:=c=32\/c=9
theorem nP{c:UInt8}:∀(s r:ab),c∉s->brk c (s++c::r)=some (s,r)
 | [],r,_=>by grind[brk]
 |d::s,r,h=>by
  rw[List.cons_append,brk,if_neg (fun e=>h (by grind)),nP s r (fun hm=>h (List.mem_cons_of_mem _ hm))];rfl
def fK:Option Nat->UInt8
 |some _=>41
 |none=>34
theorem sO:∀(f:Nat) (m:Option Nat) (t:ab) (e:UInt8) (x r:ab),aP f m t=some (e::x,r)->t.head? =some e:=by
 intro f m t e x r h
 cases f with
 |zero=>cases m<;>cases h
 |succ f=>
  cases t with
  |nil=>cases m<;>cases h
  |cons c t=>
   have one:∀(o:Option (ab×ab)) (g:ab->ab),(o.map fun x=>(c::g x.1,x.2))=some (e::x,r)->c=e:=by
    simp_all
   have two:∀(o o':Option (ab×ab)) (g:ab->ab->ab) (k:ab×ab->Option (ab×ab)),(o.bind fun y=>(k y).map fun x=>(c::g y.1 x.1,x.2))=some (e::x,r)->c=e:=by
    intro o o' g k h
    cases o with
    |none=>cases h
    |some y=>simp only[Option.bind_some]at h;exact one _ _ h
   show some c=some e
   congr 1
   cases m with
   |some d=>
    rw[aU]at h;split at h
    ·rename_i hc;subst hc
     split at h
     ·cases h
     ·exact one _ (fun z=>_::z) h
    ·split at h
     ·rename_i hc;subst hc;exact two _ none (fun a b=>a++39::b) _ h
     ·split at h
      ·rename_i hc;subst hc;exact two _ none (fun a b=>a++34::b) _ h
      ·split at h
       ·simp_all
       ·split at h
        ·rename_i hc;subst hc
         split at h
         ·cases h
         simp_all
        simp_all
   |none=>
    rw[bQ]at h;split at h
    ·cases h
    ·split at h
     ·rename_i hc;subst hc
      split at h
      ·cases h
      ·exact one _ (fun z=>_::z) h
     ·split at h
      ·rename_i hc;obtain⟨hc,_⟩:=hc;subst hc;exact two _ none (fun a b=>40::(a++41::b)) _ h
      simp_all
theorem uw:∀(f:Nat) (m:Option Nat) (s a r:ab),aP f m s=some (a,r)->∀(g:Nat) (x:ab),f<=g->aP g m (a++fK m::x)=some (a,x):=by
 intro f
 induction f with
 |zero=>intro m s a r h;cases m<;>cases h
 |succ f ih=>
  intro m s a r h g x hg;obtain⟨g,rfl⟩:∃g',g=g'+1:=⟨g-1,by omega⟩
  cases s with
  |nil=>cases m<;>cases h
  |cons c t=>
   have get:∀(o:Option (ab×ab)) (k:ab->ab),(o.map fun x=>(k x.1,x.2))=some (a,r)->∃y,o=some (y,r)/\a=k y:=by
    simp_all
   cases m with
   |some d=>
    rw[aU]at h;by_cases h92:c=92
    ·subst h92
     rw[if_pos rfl]at h
     cases t with
     |nil=>cases h
     |cons e t'=>
      obtain⟨y,h1,rfl⟩:=get _ (fun z=>92::e::z) h;grind[aU]
    rw[if_neg h92]at h;by_cases h39:c=39
    ·subst h39
     rw[if_pos rfl]at h
     cases hb:brk 39 t with
     |none=>grind
     |some z=>
      obtain⟨z1,z2⟩:=z;rw[hb]at h;simp only[Option.bind_some]at h;obtain⟨y,h1,rfl⟩:=get _ (fun w=>39::(z1++39::w)) h;have:=nP z1 (y++fK (some d)::x) (bB hb).2;grind[aU]
    rw[if_neg h39]at h;by_cases h34:c=34
    ·subst h34
     rw[if_pos rfl]at h
     cases hb:aP f none t with
     |none=>grind
     |some z=>
      obtain⟨z1,z2⟩:=z;rw[hb]at h;simp only[Option.bind_some]at h;obtain⟨y,h1,rfl⟩:=get _ (fun w=>34::(z1++34::w)) h;have:=ih _ _ _ _ hb g (y++fK (some d)::x) (by omega);rw[List.cons_append,List.append_assoc,List.cons_append,aU,if_neg (by decide),if_neg (by decide),if_pos rfl];grind[fK]
    rw[if_neg h34]at h;by_cases h40:c=40
    ·subst h40
     rw[if_pos rfl]at h;obtain⟨y,h1,rfl⟩:=get _ (fun w=>40::w) h;rw[List.cons_append,aU,if_neg (by decide),if_neg (by decide),if_neg (by decide),if_pos rfl];have:=ih _ _ _ _ h1 g x (by omega);grind[fK]
    rw[if_neg h40]at h;by_cases h41:c=41
    ·subst h41
     rw[if_pos rfl]at h;by_cases hd:d=1
     ·subst hd
      rw[if_pos rfl]at h;simp only[Option.some.injEq,Prod.mk.injEq]at h;obtain⟨rfl,rfl⟩:=h;rfl
     ·rw[if_neg hd]at h
      obtain⟨y,h1,rfl⟩:=get _ (fun w=>41::w) h;rw[List.cons_append,aU,if_neg (by decide),if_neg (by decide),if_neg (by decide),if_neg (by decide),if_pos rfl,if_neg hd];have:=ih _ _ _ _ h1 g x (by omega);grind[fK]
    ·rw[if_neg h41]at h
     obtain⟨y,h1,rfl⟩:=get _ (fun w=>c::w) h;grind[aU]
   |none=>
    rw[bQ]at h;by_cases h34:c=34
    ·rw[if_pos h34]at h
     simp only[Option.some.injEq,Prod.mk.injEq]at h;obtain⟨rfl,rfl⟩:=h;rfl
    rw[if_neg h34]at h;by_cases h92:c=92
    ·subst h92
     rw[if_pos rfl]at h
     cases t with
     |nil=>cases h
     |cons e t'=>
      obtain⟨y,h1,rfl⟩:=get _ (fun z=>92::e::z) h;grind[bQ]
    rw[if_neg h92]at h;by_cases h36:c=36/\t.head? =some 40
    ·rw[if_pos h36]at h
     obtain⟨rfl,_⟩:=h36
     cases hb:aP f (some 1) (t.drop 1)with
     |none=>grind
     |some z=>
      obtain⟨z1,z2⟩:=z;rw[hb]at h;simp only[Option.bind_some]at h;obtain⟨y,h1,rfl⟩:=get _ (fun w=>36::40::(z1++41::w)) h;have:=ih _ _ _ _ hb g (y++fK none::x) (by omega);rw[List.cons_append,List.cons_append,List.append_assoc,List.cons_append,bQ,if_neg (by decide),if_neg (by decide),if_pos ⟨rfl,rfl⟩];grind[fK]
    ·rw[if_neg h36]at h
     obtain⟨y,h1,rfl⟩:=get _ (fun w=>c::w) h;have hn:¬(c=36/\(y++fK none::x).head? =some 40):=by
      rintro⟨e1,e2⟩
      cases y with
      |nil=>cases e2
      |cons e y=>
       grind[sO]
     grind[bQ]
theorem gK:∀(f g:Nat) (m:Option Nat) (s:ab),s.length<f->s.length<g->aP f m s=aP g m s:=by
 intro f
 induction f with
 |zero=>omega
 |succ f ih=>
  intro g m s hf hg;obtain⟨g,rfl⟩:∃g',g=g'+1:=⟨g-1,by omega⟩
  cases s with
  |nil=>cases m<;>rfl
  |cons c t=>
   simp only[List.length_cons]at hf hg;have st:∀m',aP f m' t=aP g m' t:=fun m'=>ih g m' t (by omega) (by omega)
   cases m with
   |some d=>
    rw[aU,aU];split
    ·grind
    ·split
     ·cases hb:brk 39 t with
      |none=>rfl
      |some y=>
       obtain⟨y1,y2⟩:=y;have:=congrArg List.length (bB hb).1;grind
     ·split
      ·rw[st]
       cases hb:aP g none t with
       |none=>rfl
       |some y=>
        obtain⟨y1,y2⟩:=y;have:=nI _ _ _ _ _ hb;grind
      grind
   |none=>
    rw[bQ,bQ];split
    ·rfl
    ·split
     ·grind
     ·split
      ·rw[ih g (some 1) (t.drop 1) (by grind) (by grind)]
       cases hb:aP g (some 1) (t.drop 1)with
       |none=>rfl
       |some y=>
        obtain⟨y1,y2⟩:=y;have:=nI _ _ _ _ _ hb;grind
      ·rw[st]
def uA(a:ab):Prop:=dF (a++[41])=some (a,[])
theorem sP{s a r:ab}(h:dF s=some (a,r)):uA a:=by
 unfold uA dF at*
 have h1:=uw _ _ _ _ _ h (s.length+1+(a++[41]).length+1) [] (by omega)
 rw[gK _ (s.length+1+(a++[41]).length+1) _ _ (by omega) (by omega)]
 exact h1
def rm(a:ab):Prop:=a≠[]/\125∉a/\bw a=a.length
theorem jp:∀s:ab,bR (s.take (bR s))=bR s/\∀c∈s.take (bR s),c≠125
 | []=>by grind
 |c::t=>by
  rw[bR];split
  ·rename_i h
   obtain⟨h1,h2⟩:=jp t;rw[List.take_succ_cons,bR,if_pos h,h1];refine⟨rfl,fun d hd=>?_⟩;rcases List.mem_cons.1 hd with rfl|hd
   ·rintro rfl;revert h;decide
   grind
  ·simp[bR]
theorem qa(s:ab):named (s.take (named s))=named s/\∀c∈s.take (named s),c≠125:=by
 cases s with
 |nil=>grind
 |cons c t=>
  rw[named];split
  ·rename_i h
   obtain⟨h1,h2⟩:=jp t;rw[List.take_succ_cons,named,if_pos h,h1];refine⟨rfl,fun d hd=>?_⟩;rcases List.mem_cons.1 hd with rfl|hd
   ·rintro rfl;revert h;decide
   grind
  ·simp[named]
theorem jq{s:ab}{n:Nat}(h:named s=n+1):bw s=n+1:=by unfold bw;rw[h]
theorem lM{c:UInt8}{t:ab}(h:named (c::t)=0):bw (c::t)=if eJ c then 1 else 0:=by grind[bw]
theorem nQ{s:ab}(h:0<bw s):rm (s.take (bw s)):=by
 have hle:=iA s
 have hl:(s.take (bw s)).length=bw s:=by grind
 have hne:s.take (bw s)≠[]:=fun e=>by grind
 unfold rm
 rw[hl]
 refine⟨hne,?_⟩
 cases hn:named s with
 |succ n=>
  rw[jq hn];obtain⟨h1,h2⟩:=qa s;rw[hn]at h1 h2;exact⟨fun hm=>h2 _ hm rfl,jq h1⟩
 |zero=>
  cases s with
  |nil=>cases h
  |cons c t=>
   rw[lM hn]at h |-
   by_cases hs:eJ c=true
   ·rw[if_pos hs]at h |-
    have hc:dz c=false:=by
     grind[named,dz]
    refine⟨?_,?_⟩
    ·simp;rintro rfl;revert hs;decide
    grind[bw,named,lM]
   grind
theorem uB{s a r:ab}(h:brk 125 s=some (a,r))(h2:¬(a=[]\/bw a≠a.length)):rm a:=by
 simp only[not_or,Decidable.not_not]at h2
 exact⟨h2.1,(bB h).2,h2.2⟩
def zW(c:UInt8):Bool:=!ends c&&c != 34&&c != 39&&c != 36&&c != 92
def bare(t:ab):Prop:=t≠[]/\∀c∈t,zW c=true
def uC(p:Prt):Prop:=(p.k=0/\(p.q=false->bare p.t))\/(p.k=1/\rm p.t)\/(p.k=2/\uA p.t)
def Adj:List Prt->Prop
 | []=>True
 | [_]=>True
 |a::b::l=>¬(a.k=0/\b.k=0/\a.q=b.q)/\Adj (b::l)
def WF(ps:List Prt):Prop:=(∀p∈ps,uC p)/\Adj ps
theorem Ak:WF []:=⟨by simp,trivial⟩
theorem rn{p:Prt}{ps:List Prt}(h:WF (p::ps)):WF ps:=by
 refine⟨fun q hq=>h.1 q (List.mem_cons_of_mem _ hq),?_⟩
 cases ps with
 |nil=>trivial
 |cons a l=>exact h.2.2
theorem lN(p:Prt):∀(ps:List Prt) (s:ab) (q:Bool),∃p' l,addT (p::ps) s q=p'::l/\p'.k=p.k/\p'.q=p.q
 | [],s,q=>by
  rw[addT];split
  ·grind
  grind
 |b::l,s,q=>⟨_,_,rfl,rfl,rfl⟩
theorem fc(ps:List Prt)(s:ab)(q:Bool):addT ps s q≠[]:=by
 cases ps with
 |nil=>simp[addT]
 |cons p ps=>
  obtain⟨p',l,h,_⟩:=lN p ps s q;grind
theorem iB:∀(ps:List Prt) (s:ab) (q:Bool),WF ps->(q=true\/bare s)->WF (addT ps s q)
 | [],s,q,_,hq=>by
  refine⟨fun p hp=>?_,trivial⟩;simp only[addT,List.mem_singleton]at hp;subst hp;left
  grind
 | [p],s,q,h,hq=>by
  have hp:=h.1 p (by simp);rw[addT];split
  ·rename_i hk
   refine⟨fun x hx=>?_,trivial⟩;simp only[List.mem_singleton]at hx;subst hx;left
   refine⟨rfl,fun hf=>?_⟩;simp only at hf |-
   rcases hq with e|e
   ·grind
   ·rcases hp with⟨_,h2⟩|⟨h2,_⟩|⟨h2,_⟩
    ·obtain⟨b1,b2⟩:=h2 (by grind)
     refine⟨by simp[b1],fun c hc=>?_⟩;rcases List.mem_append.1 hc with hc|hc
     ·grind
     ·exact e.2 c hc
    ·omega
    omega
  ·rename_i hk
   refine⟨fun x hx=>?_,?_⟩
   ·rcases List.mem_cons.1 hx with rfl|hx
    ·exact hp
    ·simp only[List.mem_singleton]at hx
     subst hx;left
     grind
   ·exact⟨fun e=>hk ⟨e.1,e.2.2⟩,trivial⟩
 |p::b::l,s,q,h,hq=>by
  have ih:=iB (b::l) s q (rn h) hq;have e:addT (p::b::l) s q=p::addT (b::l) s q:=rfl;rw[e];obtain⟨p',l',he,hk,hq'⟩:=lN b l s q;rw[he]at ih |-
  refine⟨fun x hx=>?_,?_,ih.2⟩
  ·rcases List.mem_cons.1 hx with rfl|hx
   ·exact h.1 _ (by simp)
   ·exact ih.1 x hx
  ·rw[hk,hq'];exact h.2.1
theorem jK:∀(ps:List Prt) (p:Prt),WF ps->uC p->p.k≠0->WF (ps++[p])
 | [],p,_,hp,_=>⟨fun x hx=>by grind,trivial⟩
 | [a],p,h,hp,hk=>by
  refine⟨fun x hx=>?_,fun e=>hk e.2.1,trivial⟩;simp only[List.cons_append,List.nil_append,List.mem_cons,List.not_mem_nil,or_false]at hx;rcases hx with rfl|rfl
  ·exact h.1 _ (by simp)
  omega
 |a::b::l,p,h,hp,hk=>by
  have ih:=jK (b::l) p (rn h) hp hk;refine⟨fun x hx=>?_,h.2.1,ih.2⟩;rcases List.mem_cons.1 hx with rfl|hx
  ·exact h.1 _ (by simp)
  ·exact ih.1 x hx
def uD(n0:Nat)(st:St):Prop:=WF st.1/\st.1≠[]/\n0<=st.2.2
theorem jr{ps:List Prt}{s:ab}{n n0:Nat}{q:Bool}{st:St}(hw:WF ps)(hn:n0<=n)(h:aH ps s n q=.ok st):uD n0 st:=by
 unfold aH at h
 split at h
 ·cases hp:dF (s.drop 1)with
  |none=>grind
  |some z=>
   obtain⟨a,r⟩:=z;rw[hp]at h;injection h with h
   rw[<- h];exact⟨jK _ _ hw (.inr (.inr ⟨rfl,sP hp⟩)) (by simp),by simp,by grind⟩
 ·split at h
  ·cases hp:brk 125 (s.drop 1)with
   |none=>grind
   |some z=>
    obtain⟨a,r⟩:=z;rw[hp]at h;simp only at h;split at h
    ·cases h
    ·rename_i hc
     injection h with h
     rw[<- h];exact⟨jK _ _ hw (.inr (.inl ⟨rfl,uB hp hc⟩)) (by simp),by simp,hn⟩
  ·split at h
   ·rename_i hpp
    injection h with h
    rw[<- h];exact⟨jK _ _ hw (.inr (.inl ⟨rfl,nQ hpp⟩)) (by simp),by simp,hn⟩
   ·injection h with h
    rw[<- h];exact⟨iB _ _ _ hw (.inl rfl),fc _ _ _,hn⟩
theorem nS{m0 n0:Nat}:∀(f:Nat) (ps:List Prt) (l:ab) (n:Nat) (st:St),WF ps->ps≠[]->n0<=n->bn f m0 (ps,l,n)=.ok st->uD n0 st:=by
 intro f
 induction f with
 |zero=>intro ps l n st _ _ _ h;cases h
 |succ f ih=>
  intro ps l n st hw hne hn h
  cases l with
  |nil=>cases h
  |cons c t=>
   rw[aQ]at h;split at h
   ·injection h with h;rw[<- h];exact⟨hw,hne,hn⟩
   ·split at h
    ·cases hd:aH ps t n true with
     |bad m=>grind
     |ok z=>
      rw[hd]at h;obtain⟨z1,z2,z3⟩:=z;obtain⟨g1,g2,g3⟩:=jr hw hn hd;grind
    ·have ha:∀s,WF (addT ps s true):=fun s=>iB _ _ _ hw (.inl rfl)
     split at h
     ·grind[fc]
     ·grind[fc]
theorem ki{ps:List Prt}{c:UInt8}{t:ab}{n n0:Nat}{st:St}(hw:WF ps)(hn:n0<=n)(hc:ends c=false)(hne:ps≠[]\/¬(c=92/\t.head? =some 10))(h:bh ps c t n=.ok st):uD n0 st:=by
 have ha:∀s,WF (addT ps s true):=fun s=>iB _ _ _ hw (.inl rfl)
 unfold bh at h
 split at h
 ·cases hb:brk 39 t with
  |none=>grind
  |some z=>
   obtain⟨a,r⟩:=z;rw[hb]at h;injection h with h
   rw[<- h];exact⟨ha _,fc _ _ _,by grind⟩
 ·rename_i h39
  split at h
  ·grind[nS,fc]
  ·rename_i h34
   split at h
   ·rename_i h92
    split at h
    ·injection h with h;rw[<- h];exact⟨ha _,fc _ _ _,hn⟩
    ·split at h
     ·rename_i hd
      injection h with h;rw[<- h]
      refine⟨hw,?_,by grind⟩;grind
     ·injection h with h;rw[<- h];exact⟨ha _,fc _ _ _,hn⟩
   ·rename_i h92
    split at h
    ·grind[jr]
    ·rename_i h36
     injection h with h;rw[<- h]
     refine⟨iB _ _ _ hw (.inr ⟨by simp,fun d hd=>?_⟩),fc _ _ _,hn⟩;grind[zW]
theorem sQ{n0:Nat}:∀(f:Nat) (ps:List Prt) (l:ab) (n:Nat) (st:St),WF ps->ps≠[]->n0<=n->word f (ps,l,n)=.ok st->uD n0 st:=by
 intro f
 induction f with
 |zero=>intro ps l n st hw hne hn h;injection h with h;rw[<- h];exact⟨hw,hne,hn⟩
 |succ f ih=>
  intro ps l n st hw hne hn h
  cases l with
  |nil=>rw[word]at h;injection h with h;rw[<- h];exact⟨hw,hne,hn⟩
  |cons c t=>
   rw[ba]at h;split at h
   ·injection h with h;rw[<- h];exact⟨hw,hne,hn⟩
   ·rename_i hc
    cases hp:bh ps c t n with
    |bad m=>grind
    |ok z=>
     rw[hp]at h;obtain⟨z1,z2,z3⟩:=z;obtain⟨g1,g2,g3⟩:=ki hw hn (by grind) (.inl hne) hp;grind
def zY(t:Tok):Prop:=t.kind<=3/\(t.kind=0->WF t.parts/\t.parts≠[]/\t.plain=bx t.parts)/\(t.kind≠0->t.parts=[]/\t.plain=[])/\(t.kind≠2->t.fd= -1)
def Step.good(n:Nat):Step->Prop
 |.skip _ m=>n<=m
 |.tok t _ m=>zY t/\t.line=n/\n<=m
 |.bad _=>True
theorem nT(l:ab)(fd:Int)(n m:Nat)(h:n<=m):(ioS l fd n m).good n:=by
 unfold ioS
 split<;>exact⟨⟨by simp[ioT],by simp[ioT],by simp[ioT],by simp[ioT]⟩,rfl,h⟩
theorem sS(c:UInt8)(t:ab)(n:Nat):(aT c t n).good n:=by
 have op:∀s,zY (opT s n):=fun s=>⟨by simp[opT],by simp[opT],by simp[opT],by simp[opT]⟩
 unfold aT
 split
 ·exact Nat.le_refl _
 ·split
  ·exact Nat.le_refl _
  ·rename_i h32 h35
   split
   ·exact⟨⟨by simp,by simp,by simp,by simp⟩,rfl,by omega⟩
   ·rename_i h10
    split
    ·split
     ·exact⟨op _,rfl,Nat.le_refl _⟩
     ·exact⟨op _,rfl,Nat.le_refl _⟩
    ·rename_i h124
     split
     ·exact⟨op _,rfl,Nat.le_refl _⟩
     ·rename_i h40
      split
      ·grind[nT]
      ·rename_i h60
       split
       ·show n<=n+1;omega
       ·rename_i h92
        cases hw:word (t.length+2) ([],c::t,n)with
        |bad m=>trivial
        |ok st=>
         obtain⟨ps,r,m⟩:=st;have he:ends c=false:=by
          grind[ends]
         have hg:uD n (ps,r,m):=by
          rw[ba,he]at hw;simp only[Bool.false_eq_true,if_false]at hw
          cases hp:bh [] c t n with
          |bad m=>grind
          |ok z=>
           rw[hp]at hw;obtain⟨z1,z2,z3⟩:=z;obtain⟨g1,g2,g3⟩:=ki Ak (Nat.le_refl n) he (.inr h92) hp;grind[sQ]
         obtain⟨g1,g2,g3⟩:=hg;have hok:Step.good n (.tok ⟨0,[],bx ps,ps,-1,n⟩ r m):=⟨⟨by simp,fun _=>⟨g1,g2,rfl⟩,by simp,by simp⟩,rfl,g3⟩;grind[nT]
theorem iX(c:UInt8):∀l:ab,(brk c l=none/\Lib.indexByte l c= -1)\/∃a r,brk c l=some (a,r)/\Lib.indexByte l c=a.length
 | []=>.inl ⟨rfl,rfl⟩
 |d::t=>by
  rw[brk,Lib.indexByte];by_cases h:d=c
  ·grind
  ·rw[if_neg h,beq_false_of_ne h]
   rcases iX c t with⟨h1,h2⟩|⟨a,r,h1,h2⟩
   ·grind
   grind
def fL:Option Nat->UInt8
 |none=>34
 |some _=>41
theorem d8:∀(f:Nat) (m:Option Nat) (s a r:ab),aP f m s=some (a,r)->s=a++fL m::r:=by
 intro f
 induction f with
 |zero=>intro m s a r h;cases m<;>cases h
 |succ f ih=>
  intro m s a r h
  cases s with
  |nil=>cases m<;>cases h
  |cons c t=>
   have one:∀(m':Option Nat) (t':ab) (g:ab->ab) (p:ab),((aP f m' t').map fun x=>(g x.1,x.2))=some (a,r)->fL m'=fL m->(∀x,g x=p++x)->c::t=p++t'->c::t=a++fL m::r:=by
    intro m' t' g p h hc hg hp
    cases hs:aP f m' t' with
    |none=>grind
    |some y=>
     grind
   cases m with
   |some d=>
    rw[aU]at h;split at h
    ·rename_i h92
     subst h92;split at h
     ·cases h
     ·rename_i e t'
      exact one _ _ (fun z=>92::e::z) [92,e] h rfl (fun _=>rfl) rfl
    ·split at h
     ·rename_i h39
      subst h39
      cases hb:brk 39 t with
      |none=>grind
      |some y=>
       rw[hb]at h;simp only[Option.bind_some]at h;obtain⟨h1,_⟩:=bB (a:=y.1) (r:=y.2) hb;refine one _ _ (fun z=>39::(y.1++39::z)) (39::(y.1++[39])) h rfl (fun _=>by simp) ?_;grind
     ·split at h
      ·rename_i h34
       subst h34
       cases hb:aP f none t with
       |none=>grind
       |some y=>
        rw[hb]at h;simp only[Option.bind_some]at h;have h1:=ih _ _ y.1 y.2 hb;refine one _ _ (fun z=>34::(y.1++34::z)) (34::(y.1++[34])) h rfl (fun _=>by simp) ?_;grind[fL]
      ·split at h
       ·rename_i h40
        subst h40;exact one _ _ (fun z=>40::z) [40] h rfl (fun _=>rfl) rfl
       ·split at h
        ·rename_i h41
         subst h41;split at h
         ·simp only[Option.some.injEq,Prod.mk.injEq]at h
          obtain⟨rfl,rfl⟩:=h;rfl
         ·exact one _ _ (fun z=>41::z) [41] h rfl (fun _=>rfl) rfl
        ·exact one _ _ (fun z=>c::z) [c] h rfl (fun _=>rfl) rfl
   |none=>
    rw[bQ]at h;split at h
    ·rename_i h34
     subst h34;simp only[Option.some.injEq,Prod.mk.injEq]at h;obtain⟨rfl,rfl⟩:=h;rfl
    ·split at h
     ·rename_i h92
      subst h92;split at h
      ·cases h
      ·rename_i e t'
       exact one _ _ (fun z=>92::e::z) [92,e] h rfl (fun _=>rfl) rfl
     ·split at h
      ·rename_i h36
       obtain⟨rfl,h40⟩:=h36
       cases hb:aP f (some 1) (t.drop 1)with
       |none=>grind
       |some y=>
        rw[hb]at h;simp only[Option.bind_some]at h;have h1:=ih _ _ y.1 y.2 hb;refine one _ _ (fun z=>36::40::(y.1++41::z)) (36::40::(y.1++[41])) h rfl (fun _=>by simp) ?_
        cases t with
        |nil=>cases h40
        |cons e t=>
         grind[fL]
      ·exact one _ _ (fun z=>c::z) [c] h rfl (fun _=>rfl) rfl
def pl(i:Nat):Option (ab×ab)->Int
 |none=> -1
 |some x=>(i:Int)+x.1.length
def cr(m:Option Nat)(i:Nat)(l:ab):Int:=pl i (aP (l.length+1) m l)
theorem js{m:Option Nat}{i f:Nat}{l:ab}(h:l.length<f):cr m i l=pl i (aP f m l):=by
 grind[cr,gK]
theorem fM(i n:Nat)(g:ab->ab)(hg:∀x,(g x).length=x.length+n)(o:Option (ab×ab)):pl i (o.map fun x=>(g x.1,x.2))=pl (i+n) o:=by
 cases o with
 |none=>rfl
 |some x=>grind[pl]
theorem mn(m:Option Nat)(i:Nat):cr m i []= -1:=by cases m<;>rfl
theorem uE(m:Option Nat)(i:Nat):cr m i [92]= -1:=by cases m<;>rfl
theorem uF(m:Option Nat)(i:Nat)(e:UInt8)(t:ab):cr m i (92::e::t)=cr m (i+2) t:=by
 have h:cr m (i+2) t=pl (i+2) (aP (t.length+2) m t):=js (by omega)
 rw[h]
 show pl i (aP (t.length+2+1) m (92::e::t))=_
 cases m with
 |none=>exact fM i 2 (fun x=>92::e::x) (fun _=>rfl) _
 |some d=>exact fM i 2 (fun x=>92::e::x) (fun _=>rfl) _
theorem Bx(d i:Nat)(t:ab):(Lib.indexByte t 39= -1/\cr (some d) i (39::t)= -1)\/∃n:Nat,Lib.indexByte t 39=n/\n<t.length/\cr (some d) i (39::t)=cr (some d) (i+n+2) (t.drop (n+1)):=by
 rcases iX 39 t with⟨h1,h2⟩|⟨a,r,h1,h2⟩
 ·left;refine⟨h2,?_⟩
  show pl i (aP (t.length+1+1) (some d) (39::t))=_
  rw[aU,if_neg (by decide),if_pos rfl,h1];rfl
 ·right
  obtain⟨ht,_⟩:=bB h1;refine⟨a.length,h2,by grind,?_⟩;have hd:t.drop (a.length+1)=r:=by simp_all
  have hlt:r.length<t.length+1:=by grind
  rw[hd,js hlt];show pl i (aP (t.length+1+1) (some d) (39::t))=_
  rw[aU,if_neg (by decide),if_pos rfl,h1];exact fM i (a.length+2) (fun x=>39::(a++39::x)) (fun x=>by grind) _
theorem qc{m:Option Nat}{t:ab}:(cr m 0 t= -1/\∀f,t.length<f->aP f m t=none)\/∃(n:Nat) (a r:ab),cr m 0 t=n/\n=a.length/\n<t.length/\r=t.drop (n+1)/\∀f,t.length<f->aP f m t=some (a,r):=by
 cases h:aP (t.length+1) m t with
 |none=>left;exact⟨by unfold cr;rw[h];rfl,fun f hf=>by grind[gK]⟩
 |some y=>
  obtain⟨a,r⟩:=y;right
  have ht:=d8 _ _ _ _ _ h;refine⟨a.length,a,r,by grind[cr,pl],rfl,?_,?_,fun f hf=>by grind[gK]⟩
  ·grind
  simp_all
theorem Bz(d i:Nat)(t:ab):(cr none 0 t= -1/\cr (some d) i (34::t)= -1)\/∃n:Nat,cr none 0 t=n/\n<t.length/\cr (some d) i (34::t)=cr (some d) (i+n+2) (t.drop (n+1)):=by
 have hs:cr (some d) i (34::t)=pl i ((aP (t.length+1) none t).bind fun y=>(aP (t.length+1) (some d) y.2).map fun x=>(34::(y.1++34::x.1),x.2)):=by
  show pl i (aP (t.length+1+1) (some d) (34::t))=_
  grind[aU]
 rcases qc (m:=none) (t:=t)with⟨h1,h2⟩|⟨n,a,r,h1,h2,h3,h4,h5⟩
 ·left;exact⟨h1,by rw[hs,h2 _ (by omega)];rfl⟩
 ·right
  refine⟨n,h1,h3,?_⟩;rw[hs,h5 _ (by omega),<- h4];have:r.length<t.length+1:=by grind
  rw[js this];exact fM i (n+2) (fun x=>34::(a++34::x)) (fun x=>by grind) _
theorem BA(d i:Nat)(t:ab):cr (some d) i (40::t)=cr (some (d+1)) (i+1) t:=by
 show pl i (aP (t.length+1+1) (some d) (40::t))=_
 rw[aU,if_neg (by decide),if_neg (by decide),if_neg (by decide),if_pos rfl,js (Nat.lt_succ_self _)]
 simp_all[fM]
theorem BB(i:Nat)(t:ab):cr (some 1) i (41::t)=i:=by
 show pl i (aP (t.length+1+1) (some 1) (41::t))=_
 grind[aU,pl]
theorem xA(d i:Nat)(t:ab)(hd:d≠1):cr (some d) i (41::t)=cr (some (d-1)) (i+1) t:=by
 show pl i (aP (t.length+1+1) (some d) (41::t))=_
 rw[aU,if_neg (by decide),if_neg (by decide),if_neg (by decide),if_neg (by decide),if_pos rfl,if_neg hd,js (Nat.lt_succ_self _)]
 simp_all[fM]
theorem xB(d i:Nat)(c:UInt8)(t:ab)(h1:c≠92)(h2:c≠39)(h3:c≠34)(h4:c≠40)(h5:c≠41):cr (some d) i (c::t)=cr (some d) (i+1) t:=by
 show pl i (aP (t.length+1+1) (some d) (c::t))=_
 rw[aU,if_neg h1,if_neg h2,if_neg h3,if_neg h4,if_neg h5,js (Nat.lt_succ_self _)]
 simp_all[fM]
theorem Al(i:Nat)(t:ab):cr none i (34::t)=i:=by
 show pl i (aP (t.length+1+1) none (34::t))=_
 grind[bQ,pl]
theorem Ao(i:Nat)(t:ab):(cr (some 1) 0 t= -1/\cr none i (36::40::t)= -1)\/∃n:Nat,cr (some 1) 0 t=n/\n<t.length/\cr none i (36::40::t)=cr none (i+n+3) (t.drop (n+1)):=by
 have hs:cr none i (36::40::t)=pl i ((aP (t.length+2) (some 1) t).bind fun y=>(aP (t.length+2) none y.2).map fun x=>(36::40::(y.1++41::x.1),x.2)):=by
  show pl i (aP (t.length+2+1) none (36::40::t))=_
  grind[bQ]
 rcases qc (m:=some 1) (t:=t)with⟨h1,h2⟩|⟨n,a,r,h1,h2,h3,h4,h5⟩
 ·left;exact⟨h1,by rw[hs,h2 _ (by omega)];rfl⟩
 ·right
  refine⟨n,h1,h3,?_⟩;rw[hs,h5 _ (by omega),<- h4];have:r.length<t.length+2:=by grind
  rw[js this];exact fM i (n+3) (fun x=>36::40::(a++41::x)) (fun x=>by grind) _
theorem xC(i:Nat)(c:UInt8)(t:ab)(h1:c≠34)(h2:c≠92)(h3:¬(c=36/\t.head? =some 40)):cr none i (c::t)=cr none (i+1) t:=by
 show pl i (aP (t.length+1+1) none (c::t))=_
 rw[bQ,if_neg h1,if_neg h2,if_neg h3,js (Nat.lt_succ_self _)]
 simp_all[fM]
theorem sT(t:ab):(dF t=none/\cr (some 1) 0 t= -1)\/∃(a r:ab),dF t=some (a,r)/\cr (some 1) 0 t=a.length/\a.length<t.length/\a=t.take a.length/\r=t.drop (a.length+1):=by
 rcases qc (m:=some 1) (t:=t)with⟨h1,h2⟩|⟨n,a,r,h1,h2,h3,h4,h5⟩
 ·left;exact⟨h2 _ (by omega),h1⟩
 ·right
  have h6:=h5 (t.length+1) (by omega);refine⟨a,r,h6,by omega,by omega,?_,by grind⟩;have:=d8 _ _ _ _ _ h6;grind
def tot(ps:List Prt):Nat:=(ps.map (·.t.length)).sum
theorem nU(ps:List Prt)(p:Prt):tot (ps++[p])=tot ps+p.t.length:=by simp[tot]
def sz(ps:List Prt):Nat:=ps.length+tot ps
theorem mo(ps:List Prt)(p:Prt):sz (ps++[p])=sz ps+1+p.t.length:=by grind[sz,nU]
theorem eg:∀(ps:List Prt) (s:ab) (q:Bool),sz (addT ps s q)<=sz ps+1+s.length
 | [],s,q=>by simp[addT,sz,tot]
 | [p],s,q=>by
  grind[addT,sz,tot]
 |a::b::i,s,q=>by
  show sz (a::addT (b::i) s q)<=_
  have:=eg (b::i) s q;grind[sz,tot]
theorem nV(a:ab):lf a<=a.length:=List.count_le_length
theorem eN{ps:List Prt}{s:ab}{n:Nat}{q:Bool}{st:St}(h:aH ps s n q=.ok st):sz st.1+st.2.1.length<=sz ps+s.length+2/\n<=st.2.2/\st.2.2+st.2.1.length<=n+s.length/\st.2.1.length<=s.length:=by
 unfold aH at h
 split at h
 ·rename_i h40
  cases hp:dF (s.drop 1)with
  |none=>grind
  |some z=>
   obtain⟨a,r⟩:=z;rw[hp]at h;injection h with h
   rw[<- h];have ht:=congrArg List.length (d8 _ _ _ _ _ hp);grind[nV,mo]
 ·split at h
  ·cases hp:brk 125 (s.drop 1)with
   |none=>grind
   |some z=>
    obtain⟨a,r⟩:=z;rw[hp]at h;simp only at h;split at h
    ·cases h
    ·injection h with h
     rw[<- h];have ht:=congrArg List.length (bB hp).1;grind[mo]
  grind[iA,mo,eg]
theorem nW(n0:Nat):∀(f g:Nat) (ps:List Prt) (l:ab) (n:Nat),l.length<f->l.length<g->bn f n0 (ps,l,n)=bn g n0 (ps,l,n):=by
 intro f
 induction f with
 |zero=>omega
 |succ f ih=>
  intro g ps l n h1 h2;obtain⟨g,rfl⟩:∃g',g=g'+1:=⟨g-1,by omega⟩
  cases l with
  |nil=>rfl
  |cons c t=>
   simp only[List.length_cons]at h1 h2;rw[aQ,aQ];by_cases h34:c=34
   ·grind
   rw[if_neg h34,if_neg h34];by_cases h36:c=36
   ·rw[if_pos h36,if_pos h36]
    cases hd:aH ps t n true with
    |bad m=>rfl
    |ok x=>
     obtain⟨ps',r,m⟩:=x;have:r.length<=t.length:=(eN hd).2.2.2;grind
   grind
def dbl(n0:Nat)(x:St):R St:=bn (x.2.1.length+1) n0 x
theorem mp(n0 f:Nat)(ps:List Prt)(l:ab)(n:Nat)(h:l.length<f):bn f n0 (ps,l,n)=dbl n0 (ps,l,n):=nW n0 _ _ _ _ _ h (Nat.lt_succ_self _)
theorem xD(n0:Nat)(ps:List Prt)(n:Nat):dbl n0 (ps,[],n)=.bad n0:=rfl
theorem xE(n0:Nat)(ps:List Prt)(t:ab)(n:Nat):dbl n0 (ps,34::t,n)=.ok (ps,t,n):=by
 show bn (t.length+1+1) n0 _=_
 grind[aQ]
theorem qe(n0:Nat)(ps:List Prt)(t:ab)(n:Nat):dbl n0 (ps,36::t,n)=(match aH ps t n true with
  |.bad m=>.bad m
  |.ok x=>dbl n0 x):=by
 show bn (t.length+1+1) n0 _=_
 rw[aQ,if_neg (by decide),if_pos rfl]
 cases hd:aH ps t n true with
 |bad m=>rfl
 |ok x=>
  obtain⟨ps',r,m⟩:=x;have:r.length<=t.length:=(eN hd).2.2.2;grind[mp]
theorem xF(n0:Nat)(ps:List Prt)(d:UInt8)(r:ab)(n:Nat)(h:esc d=true):dbl n0 (ps,92::d::r,n)=dbl n0 (addT ps [d] true,r,n):=by
 show bn (r.length+1+1+1) n0 _=_
 grind[aQ,esc,mp]
theorem mq(n0:Nat)(ps:List Prt)(c:UInt8)(t:ab)(n:Nat)(h1:c≠34)(h2:c≠36)(h3:c≠92\/∀d r,t=d::r->esc d=false):dbl n0 (ps,c::t,n)=dbl n0 (addT ps [c] true,t,n+lf [c]):=by
 show bn (t.length+1+1) n0 _=_
 rw[aQ,if_neg h1,if_neg h2]
 by_cases h92:c=92
 ·subst h92
  rw[if_pos rfl]
  cases t with
  |nil=>rfl
  |cons d r=>
   have:=(h3.resolve_left (by simp)) d r rfl;show(if esc d then _ else _)=_
   rw[if_neg (by grind)];exact mp n0 _ _ _ _ (by simp)
 grind[mp]
def Sz(at_ ln:Nat)(ps:List Prt):Prop:=sz ps<=2*at_/\ln<=at_+1
def ptc(p:Prt):List Value:=[.int .i64 p.k,bs p.t,.bool p.q]
def PtL(LP:List (Nat×Obj))(v:Value)(ps:List Prt):Prop:=
 (LP=[]/\v=.slice none 0 0/\ps=[])\/∃g cap cur,LP=[(g,.cells cur 118 (0,0))]/\v=.slice (some ⟨g,0,none⟩) ps.length cap/\RowB 3 cur cap ps.length (ps.flatMap ptc)
theorem xG{α:Type}(l:List α):l=[]\/∃i x,l=i++[x]:=by
 rcases l.eq_nil_or_concat with h|⟨i,x,h⟩
 ·exact .inl h
 ·exact .inr ⟨i,x,by simpa using h⟩
theorem d9:∀(i:List Prt) (p:Prt) (s:ab) (q:Bool),addT (i++[p]) s q=if p.k=0/\p.q=q then i++[⟨0,p.t++s,q⟩]else i++[p,⟨0,s,q⟩]
 | [],p,s,q=>by simp[addT]
 | [a],p,s,q=>by
  show a::addT [p] s q=_
  rw[addT];split<;>rfl
 |a::b::i,p,s,q=>by
  show a::addT (b::(i++[p])) s q=_
  have:=d9 (b::i) p s q;rw[List.cons_append]at this;rw[this];split<;>rfl
theorem eK(ps:List Prt):(ps.flatMap ptc).length=3*ps.length:=by
 induction ps with
 |nil=>rfl
 |cons a r ih=>simp[List.flatMap_cons,ih,ptc];omega
theorem cR(b:ByteArray):bs b.data.toList=.string b:=by simp[bs]
theorem iY:(Tryz.prog.info? 118).map (fun i=>(i.zero,i.size,i.bytes))=some (some (.agg #[.int .i64 0,.string ⟨#[]⟩,.bool false]),3,32):=by kernel_rfl
theorem dc(p:Prt):∀u∈ptc p,u.oneCell'=true:=by
 intro u hu
 simp only[ptc,bs,List.mem_cons,List.not_mem_nil,or_false]at hu
 rcases hu with rfl|rfl|rfl<;>rfl
theorem fe (q : Nat) (v : Value) (w : World) (LP : List (Nat × Obj)) (ps : List Prt) (hL : Kn (q :: keys LP) w w ((q, .cells #[v] 135 (0, 0)) :: LP)) (hP : PtL LP v ps) (s : ByteArray) (qd : Bool) (hn : ps.length <= 100000) (ht : tot ps + s.size <= 1000000) :
    Calls Tryz.prog 113 #[.pointer (some ⟨q, 0, none⟩), .string s, .bool qd] w fun e w' => e = .returned (.tuple #[]) /\ ∃ v' LP', PtL LP' v' (addT ps s.data.toList qd) /\ Kn (q :: keys LP) w w' ((q, .cells #[v'] 135 (0, 0)) :: LP') := by
  obtain ⟨i0, hi, hz0, hz1, hz2⟩ := bu iY; rcases hP with ⟨rfl, rfl, rfl⟩ | ⟨g, cap, cur, rfl, rfl, hr⟩
  · have hF := hL.fx
    go_enter Tryz.func113, Tryz.ntmps113; go_wp2_with ((at_builtin; refine zL ?_; clear hF hL; intro W hL hF; refine bJ rfl _ _ 135 rfl 118 i0 _ Tryz.underlying135 hi hz0 (by rw [hz1]; rfl) (by rw [hz1]; decide) hL  rfl _ _ _ (ptc ⟨0, s.data.toList, qd⟩) rfl (by rw [hz1]; rfl) (fun j u hu => by rw [Go.WideShapes.add_plain, Nat.zero_add, World.cell?, hL.has _ List.mem_cons_self]; simpa [ptc, cR] using hu) (dc _) (by unfold maxLen; omega) (by rw [hz2]; omega) (by omega) ?_; intro g2 cap2 cur2 W2 hL2 hg2 hr2; clear hL hF; have hL := hL2; clear hL2; have hF := hL.fx))
    refine fa ?_; clear hF hL; intro W hL; simp only [kfb] at hL; have hF := hL.fx; go_end0
    rw [hz1] at hr2; refine ⟨rfl, .slice (some ⟨g2, 0, none⟩) 1 cap2, _, .inr ⟨g2, cap2, cur2, rfl, rfl, by simpa [addT] using hr2⟩, hL.pick (by simp) ?_⟩; have := hL.nd; (simp at this |-); grind
  · rcases xG ps with rfl | ⟨i, p, rfl⟩
    · have e0 : decide ((([] : List Prt).length : Int) > 0) = false := by decide
      have hF := hL.fx; go_enter Tryz.func113, Tryz.ntmps113; go_wp2_with ((at_builtin; refine zL ?_; clear hF hL; intro W hL hF; refine bg rfl _ _ 135 rfl 118 i0 _ Tryz.underlying135 hi hz0 (by rw [hz1]; rfl) (by rw [hz1]; decide) hL 2 _ _ _ _ _ rfl (by rw [hz1]; exact hr) rfl _ _ _ (ptc ⟨0, s.data.toList, qd⟩) rfl (by rw [hz1]; rfl) (fun j u hu => by rw [Go.WideShapes.add_plain, Nat.zero_add, World.cell?, hL.has _ List.mem_cons_self]; simpa [ptc, cR] using hu) (dc _) (by unfold maxLen; omega) (by rw [hz2]; omega) (by omega) ?_; intro g2 cap2 cur2 W2 hL2 hr2; clear hL hF; have hL := hL2; clear hL2; simp only [List.eraseIdx_cons_zero, List.eraseIdx_cons_succ] at hL; have hF := hL.fx))
      refine fa ?_; clear hF hL; intro W hL; simp only [kfb] at hL; have hF := hL.fx; go_end0
      rw [hz1] at hr2; refine ⟨rfl, .slice (some ⟨g2, 0, none⟩) 1 cap2, _, .inr ⟨g2, cap2, cur2, rfl, rfl, ?_⟩, hL.pick (by simp) ?_⟩
      · simpa [addT] using hr2
      · have := hL.nd
        (simp at this |-); grind
    obtain ⟨n, hn1⟩ : ∃ n, (i ++ [p]).length = n := ⟨_, rfl⟩; have hn2 : n = i.length + 1 := by rw [<- hn1]; simp
    have s1 : IntKind.i64.wrap ((n : Int) - 1) = (i.length : Int) := by rw [IntWalk.i64_in _ (by omega)]; omega
    have e0 : decide ((n : Int) > 0) = true := by simp; omega
    have s2 : (0 : Int) <= (i.length : Int) := by omega
    have s3 : (i.length : Int) < (n : Int) := by omega
    rw [hn1] at hL hr; have hc : ∀ j u, (ptc p)[j]? = some u -> cur[i.length * 3 + j]? = some u := fun j u hj => hr.get (by
      rw [Nat.mul_comm i.length 3, List.flatMap_append, List.getElem?_append_right (by rw [eK]; omega), eK]; simpa using hj)
    have c0 : cur[i.length * 3]? = _ := hc 0 _ rfl; have c1 := hc 1 _ rfl; have c2 := hc 2 _ rfl; have HN := yh hn2; clear hn2; by_cases hk : p.k = 0
    · have b0 : ((p.k : Int) == 0) = true := by simp [hk]
      by_cases hq : p.q = qd
      · have b2 : (p.q == qd) = true := by simp [hq]
        obtain ⟨u, hu⟩ : ∃ u : ByteArray, bs p.t = .string u := ⟨_, rfl⟩; have hul : u.data.toList = p.t := by
          simp only [bs, Value.string.injEq] at hu; rw [<- hu]
        rw [hu] at c1; have hus : u.size = p.t.length := by rw [<- hul]; simp
        have hmax : u.size + s.size <= 1000000 := by rw [nU] at ht; omega
        have m1 : ¬ IntKind.i64.max < (u.size : Int) + (s.size : Int) := by have : IntKind.i64.max = 9223372036854775807 := by decide
                                                                            omega
        have m2 : ¬ IntKind.i64.max < ((u.size + s.size : Nat) : Int) := by have : IntKind.i64.max = 9223372036854775807 := by decide
                                                                            omega
        have hF := hL.fx; go_enter Tryz.func113, Tryz.ntmps113; go_wp2; refine fa ?_; clear hF hL; intro W hL; have hF := hL.fx; refine bodyPost_ret (by simp [results, Tryz.results113, go_sem, *]; try rfl) rfl ?_; refine ⟨rfl, .slice (some ⟨g, 0, none⟩) n cap, _, .inr ⟨g, cap, cur.setIfInBounds (i.length * 3 + 1) (.string (u ++ s)), rfl, ?_, ?_⟩, hL.pick (by simp) ?_⟩
        · rw [d9, if_pos ⟨hk, hq⟩]; simp at hn1 |-; omega
        · rw [d9, if_pos ⟨hk, hq⟩]
          have h1 := hr.set (i.length * 3 + 1) (.string (u ++ s)); have h2 : (i ++ [(⟨0, p.t ++ s.data.toList, qd⟩ : Prt)]).length = n := by rw [<- hn1]; simp
          rw [h2]; have h3 : ((i ++ [p]).flatMap ptc).set (i.length * 3 + 1) (.string (u ++ s)) = (i ++ [(⟨0, p.t ++ s.data.toList, qd⟩ : Prt)]).flatMap ptc := by
            rw [List.flatMap_append, List.flatMap_append, List.set_append_right _ _ (by rw [eK]; omega), eK]; have : i.length * 3 + 1 - 3 * i.length = 1 := by omega
            rw [this]; have h4 : Value.string (u ++ s) = bs (p.t ++ s.data.toList) := by
              rw [<- hul]; unfold bs; congr 1
            rw [h4]; simp [ptc, hk, hq]
          rw [<- h3]; exact h1
        · have := hL.nd
          (simp at this |-); grind
      · have b2 : (p.q == qd) = false := by simp [hq]
        have hadd : ¬ (p.k = 0 /\ p.q = qd) := fun h => hq h.2
        have hF := hL.fx; go_enter Tryz.func113, Tryz.ntmps113; go_wp2_with ((at_builtin; refine zL ?_; clear hF hL; intro W hL hF; refine bg rfl _ _ 135 rfl 118 i0 _ Tryz.underlying135 hi hz0 (by rw [hz1]; rfl) (by rw [hz1]; decide) hL 2 _ _ _ _ _ rfl (by rw [hz1]; exact hr) rfl _ _ _ (ptc ⟨0, s.data.toList, qd⟩) rfl (by rw [hz1]; rfl) (fun j u hu => by rw [Go.WideShapes.add_plain, Nat.zero_add, World.cell?, hL.has _ List.mem_cons_self]; simpa [ptc, cR] using hu) (dc _) (by unfold maxLen; omega) (by rw [hz2]; omega) (by omega) ?_; intro g2 cap2 cur2 W2 hL2 hr2; clear hL hF; have hL := hL2; clear hL2; simp only [List.eraseIdx_cons_zero, List.eraseIdx_cons_succ] at hL; have hF := hL.fx))
        refine fa ?_; clear hF hL; intro W hL; simp only [kfb] at hL; have hF := hL.fx; go_end0
        rw [hz1] at hr2; refine ⟨rfl, .slice (some ⟨g2, 0, none⟩) (n + 1) cap2, _, .inr ⟨g2, cap2, cur2, rfl, (by rw [d9, if_neg hadd]; simp at hn1 |-; omega), ?_⟩, hL.pick (by simp) ?_⟩
        · rw [d9, if_neg hadd]
          have : (i ++ [p, ⟨0, s.data.toList, qd⟩]).length = n + 1 := by simp at hn1 |-; omega
          rw [this]; simpa using hr2
        · have := hL.nd
          (simp at this |-); grind
    · have b0 : ((p.k : Int) == 0) = false := by simp; omega
      have hadd : ¬ (p.k = 0 /\ p.q = qd) := fun h => hk h.1
      have hF := hL.fx; go_enter Tryz.func113, Tryz.ntmps113; go_wp2_with ((at_builtin; refine zL ?_; clear hF hL; intro W hL hF; refine bg rfl _ _ 135 rfl 118 i0 _ Tryz.underlying135 hi hz0 (by rw [hz1]; rfl) (by rw [hz1]; decide) hL 2 _ _ _ _ _ rfl (by rw [hz1]; exact hr) rfl _ _ _ (ptc ⟨0, s.data.toList, qd⟩) rfl (by rw [hz1]; rfl) (fun j u hu => by rw [Go.WideShapes.add_plain, Nat.zero_add, World.cell?, hL.has _ List.mem_cons_self]; simpa [ptc, cR] using hu) (dc _) (by unfold maxLen; omega) (by rw [hz2]; omega) (by omega) ?_; intro g2 cap2 cur2 W2 hL2 hr2; clear hL hF; have hL := hL2; clear hL2; simp only [List.eraseIdx_cons_zero, List.eraseIdx_cons_succ] at hL; have hF := hL.fx))
      refine fa ?_; clear hF hL; intro W hL; simp only [kfb] at hL; have hF := hL.fx; go_end0
      rw [hz1] at hr2; refine ⟨rfl, .slice (some ⟨g2, 0, none⟩) (n + 1) cap2, _, .inr ⟨g2, cap2, cur2, rfl, (by rw [d9, if_neg hadd]; simp at hn1 |-; omega), ?_⟩, hL.pick (by simp) ?_⟩
      · rw [d9, if_neg hadd]
        have : (i ++ [p, ⟨0, s.data.toList, qd⟩]).length = n + 1 := by simp at hn1 |-; omega
        rw [this]; simpa using hr2
      · have := hL.nd
        (simp at this |-); grind
end Go.Proofs.YtgboffbbpmileaaGreatDoor
