/- Lemmas and walks for the law VLawPJoins (part 4). -/
import Derived.Test.YtgboffbbpmileaaGreatDoorPy3
import Derived.Test.YtgboffbbpmileaaGreatDoorProg
import Derived.WalkKit
import Derived.Handy
import Derived.Deep.Light
import Derived.WalkSmall
import Derived.StillTailTactics
import Derived.Lib.Hide
import Derived.Shelf.Strings.SlTrimAscii
set_option maxRecDepth 20000
set_option maxHeartbeats 4000000
set_option linter.unusedVariables false
set_option linter.unusedSimpArgs false
namespace Go.Proofs.YtgboffbbpmileaaGreatDoor
open Go Go.RowKit
section
inductive Nd where
 |mk (kind:Nat) (name:ab) (neg:Bool) (asg:List (ab×List Prt)) (ws:List (List Prt)) (rs:List (Int×Nat×List Prt)) (kids:List Nd)
def Nd.kind:Nd->Nat|.mk k _ _ _ _ _ _=>k
def Nd.name:Nd->ab|.mk _ n _ _ _ _ _=>n
def Nd.neg:Nd->Bool|.mk _ _ g _ _ _ _=>g
def Nd.asg:Nd->List (ab×List Prt)|.mk _ _ _ a _ _ _=>a
def Nd.ws:Nd->List (List Prt)|.mk _ _ _ _ w _ _=>w
def Nd.rs:Nd->List (Int×Nat×List Prt)|.mk _ _ _ _ _ r _=>r
def Nd.kids:Nd->List Nd|.mk _ _ _ _ _ _ l=>l
def Nd.setRs:Nd->List (Int×Nat×List Prt)->Nd|.mk k n g a w _ l,r=>.mk k n g a w r l
def Nd.addKid:Nd->Nd->Nd|.mk k n g a w r l,x=>.mk k n g a w r (l++[x])
inductive PR (α:Type) where
 |ok (a:α) (r:List Tok)
 |bad (e:Nat) (m:Nat)
def PR.bind{α β:Type}:PR α->(α->List Tok->PR β)->PR β
 |.ok a r,f=>f a r
 |.bad e m,_=>.bad e m
abbrev Pa(α:Type):=List Tok->PR α
def syn{α:Type}(ts:List Tok):PR α:=.bad 1 ts.length
def full{α:Type}(ts:List Tok):PR α:=.bad 2 ts.length
def aS(s:ab):List Tok->Bool
 |t::_=>t.kind==1&&t.text==s
 | []=>false
def bS(l:List ab):List Tok->Bool
 |t::_=>t.kind==0&&(t.plain != []&&l.contains t.plain)
 | []=>false
def isK(k:Nat):List Tok->Bool
 |t::_=>t.kind==k
 | []=>false
def n4:ab:=[116,104,101,110]
def n5:ab:=[101,108,105,102]
def n6:ab:=[101,108,115,101]
def kFi:ab:=[102,105]
def kDo:ab:=[100,111]
def dw:ab:=[100,111,110,101]
def eT:ab:=[101,115,97,99]
def kIn:ab:=[105,110]
def kIf:ab:=[105,102]
def qf:ab:=[119,104,105,108,101]
def qg:ab:=[117,110,116,105,108]
def Ap:ab:=[102,111,114]
def uG:ab:=[99,97,115,101]
def mr:List ab:=[n4,n5,n6,kFi,kDo,dw,eT,[125]]
def closers:List ab:=[n4,n5,n6,kFi,kDo,dw,eT,[125],kIn,[33]]
def aW(s:ab)(ts:List Tok):PR Unit:=if aS s ts||bS [s] ts then .ok () ts.tail else syn ts
def bT:Pa (List Prt)
 |t::r=>if t.kind=0 then .ok t.parts r else syn (t::r)
 | []=>syn []
def au(ts:List Tok):List Tok:=ts.dropWhile (·.kind==3)
def fN:List Tok->Bool
 | []=>true
 |t::r=>aS [41] (t::r)||aS [59,59] (t::r)||bS mr (t::r)
def dk(pi:Pa Nd):Nat->Nd->Pa Nd
 |0,n,ts=>.ok n ts
 |f+1,n,ts=>if aS [38,38] ts||aS [124,124] ts then
   (pi (au ts.tail)).bind fun x r=>dk pi f (.mk (if aS [124,124] ts then 3 else 2) [] false [] [] [] [n,x]) r
  else .ok n ts
def item(pi:Pa Nd)(ts:List Tok):PR Nd:=(pi ts).bind fun n r=>dk pi r.length n r
def dl(cmd:Pa Nd):Nat->List Nd->Pa (List Nd)
 |0,l,ts=>.ok l ts
 |f+1,l,ts=>if aS [124] ts then(cmd (au ts.tail)).bind fun x r=>dl cmd f (l++[x]) r else .ok l ts
def pipe(cmd:Pa Nd)(ts:List Tok):PR Nd:=
 (cmd (if bS [[33]] ts then ts.tail else ts)).bind fun x r=>(dl cmd r.length [x] r).bind fun l r=>.ok (.mk 1 [] (bS [[33]] ts) [] [] [] l) r
def sep(ts:List Tok):Bool:=aS [38] ts||aS [59] ts||isK 3 ts
def back(ts:List Tok)(x:Nd):Nd:=if aS [38] ts then .mk 5 [] false [] [] [] [x]else x
def aR(it:Pa Nd):Nat->List Nd->Pa (List Nd)
 |0,l,ts=>.ok l ts
 |f+1,l,ts=>if fN (au ts)then .ok l (au ts)else
  (it (au ts)).bind fun x r=>if sep r then aR it f (l++[back r x]) r.tail else .ok (l++[back r x]) r
def eF(cmd:Pa Nd)(ts:List Tok):PR (List Nd):=aR (item (pipe cmd)) (ts.length+1) [] ts
def cj(cmd:Pa Nd)(ts:List Tok):PR Nd:=(eF cmd ts).bind fun l r=>.ok (.mk 4 [] false [] [] [] l) r
def eA(cmd:Pa Nd)(ts:List Tok):PR Nd:=(cj cmd ts).bind fun n r=>if n.kids.isEmpty then syn r else .ok n r
def kj(s:ab):Nat:=if s=[60]then 0 else if s=[62]then 1 else if s=[62,62]then 2 else 3
def fO(t:Tok)(w:List Prt):Int×Nat×List Prt:=(if t.fd<0 then(min 1 (kj t.text):Nat)else t.fd,kj t.text,w)
def dx:Pa (Int×Nat×List Prt)
 |t::r=>(bT r).bind fun w r=>.ok (fO t w) r
 | []=>syn []
def bp:Nat->List (Int×Nat×List Prt)->Pa (List (Int×Nat×List Prt))
 |0,l,ts=>.ok l ts
 |f+1,l,ts=>if isK 2 ts then(dx ts).bind fun x r=>bp f (l++[x]) r else .ok l ts
def xH:ab->Nat
 | []=>0
 |c::t=>if dz c||bK c then xH t+1 else 0
def cT:ab->Bool
 | []=>false
 |c::t=>dz c&&t.all fun c=>dz c||bK c
def lO:ab->Option (ab×ab)
 | []=>none
 |c::t=>if c=61 then some ([],t)else(lO t).map fun x=>(c::x.1,x.2)
def aJ:List Prt->Option (ab×List Prt)
 | []=>none
 |p::ps=>if p.k=0/\p.q=false then(match lO p.t with
   |some (n,v)=>if cT n then some (n,if v.isEmpty then ps else⟨0,v,false⟩::ps)else none
   |none=>none)else none
structure Sim where
 a:List (ab×List Prt)
 w:List (List Prt)
 r:List (Int×Nat×List Prt)
def Sim.word(x:Sim)(p:List Prt):Sim:=match aJ p with
 |some y=>if x.w.isEmpty then⟨x.a++[y],x.w,x.r⟩else⟨x.a,x.w++[p],x.r⟩
 |none=>⟨x.a,x.w++[p],x.r⟩
def Sim.nd(x:Sim):Nd:=.mk 0 [] false x.a x.w x.r []
def aM:Nat->Sim->Pa Nd
 |0,x,ts=>.ok x.nd ts
 |f+1,x,ts=>match ts with
  | []=>.ok x.nd []
  |t::r=>if t.kind=2 then(dx (t::r)).bind fun y r=>aM f ⟨x.a,x.w,x.r++[y]⟩ r
   else if t.kind=0 then aM f (x.word t.parts) r
   else .ok x.nd (t::r)
def simple(ts:List Tok):PR Nd:=if isK 0 ts||isK 2 ts then aM ts.length ⟨[],[],[]⟩ ts else syn ts
inductive Blk where
 |sub|grp|iff|whl|unt|for_|case_
 deriving DecidableEq
def fP(s:ab):Option Blk:=
 if s=[123]then some .grp else if s=kIf then some .iff else if s=qf then some .whl else if s=qg then some .unt
 else if s=Ap then some .for_ else if s=uG then some .case_ else none
def bU(ts:List Tok):Option Blk:=if aS [40] ts then some .sub else match ts with
 |t::_=>if t.kind=0 then fP t.plain else none
 | []=>none
def aO(so:Pa Nd)(kind:Nat)(first:ab)(second:Option ab)(ts:List Tok):PR Nd:=
 (so ts).bind fun a r=>(aW first r).bind fun _ r=>(so r).bind fun b r=>match second with
  |some s=>(aW s r).bind fun _ r=>.ok (.mk kind [] false [] [] [] [a,b]) r
  |none=>.ok (.mk kind [] false [] [] [] [a,b]) r
def closed(so:Pa Nd)(kind:Nat)(close:ab)(ts:List Tok):PR Nd:=(so ts).bind fun a r=>(aW close r).bind fun _ r=>.ok (.mk kind [] false [] [] [] [a]) r
def aE:List Tok->List (List Prt)×List Tok
 |t::r=>if t.kind=0 then((t.parts::(aE r).1),(aE r).2)else([],t::r)
 | []=>([],[])
def cf(so:Pa Nd)(name:ab)(ws:List (List Prt))(ts:List Tok):PR Nd:=
 (aW kDo (au ts)).bind fun _ r=>(so r).bind fun b r=>(aW dw r).bind fun _ r=>.ok (.mk 11 name false [] ws [] [b]) r
def qh:List (List Prt):=[[⟨1,[64],true⟩]]
def gV(so:Pa Nd)(name:ab)(ts:List Tok):PR Nd:=
 if aS [59] (aE ts).2||isK 3 (aE ts).2 then cf so name (aE ts).1 (aE ts).2.tail else syn (aE ts).2
def eG(so:Pa Nd):Pa Nd
 |t::r=>if t.kind=0/\cT t.plain=true then
   (if bS [kIn] (au r)then gV so t.plain (au r).tail
   else cf so t.plain qh (if aS [59] (au r)&& !isK 3 r then(au r).tail else au r))
  else syn (t::r)
 | []=>syn []
def e_:Nat->List (List Prt)->Pa (List (List Prt))
 |0,l,ts=>.ok l ts
 |f+1,l,ts=>if aS [124] ts then(bT ts.tail).bind fun w r=>e_ f (l++[w]) r else .ok l ts
def arm(li:Pa Nd)(ts:List Tok):PR Nd:=
 (bT (if aS [40] ts then ts.tail else ts)).bind fun w r=>(e_ r.length [w] r).bind fun ws r=>(aW [41] r).bind fun _ r=>
  (li r).bind fun n r=>(aW [59,59] r).bind fun _ r=>.ok (.mk 13 [] false [] ws [] [n]) r
def de(ar:Pa Nd):Nat->List Nd->Pa (List Nd)
 |0,l,ts=>.ok l ts
 |f+1,l,ts=>if bS [eT] (au ts)then .ok l (au ts)else(ar (au ts)).bind fun x r=>de ar f (l++[x]) r
def fQ(li:Pa Nd)(ts:List Tok):PR Nd:=
 (bT ts).bind fun w r=>(aW kIn (au r)).bind fun _ r=>(de (arm li) (r.length+1) [] r).bind fun l r=>(aW eT r).bind fun _ r=>.ok (.mk 12 [] false [] [w] [] l) r
def iC(li so conds:Pa Nd):Blk->Pa Nd
 |.sub=>closed so 6 [41]
 |.grp=>closed so 7 [125]
 |.iff=>conds
 |.whl=>aO so 9 kDo (some dw)
 |.unt=>aO so 10 kDo (some dw)
 |.for_=>eG so
 |.case_=>fQ li
def eU(so:Pa Nd)(inner:Option (Pa Nd))(ts:List Tok):PR Nd:=
 (aO so 8 n4 none ts).bind fun n r=>
  if bS [n6] r then(so r.tail).bind fun c r=>.ok (n.addKid c) r
  else if bS [n5] r then(match inner with
   |none=>full r
   |some c=>(c r.tail).bind fun x r=>.ok (n.addKid x) r)
  else .ok n r
def eV(bo:Blk->Pa Nd)(bk:Blk)(ts:List Tok):PR Nd:=
 (bo bk ts.tail).bind fun n r=>(if n.kind=8 then aW kFi r else .ok () r).bind fun _ r=>(bp r.length n.rs r).bind fun l r=>.ok (n.setRs l) r
def qi:List Tok->Bool
 |t::r=>t.kind==0&&cT t.plain&&aS [40] r
 | []=>false
def ia(comp:Blk->Pa Nd):Pa Nd
 |t::r=>if aS [41] r.tail then(match bU (au r.tail.tail)with
   |none=>syn (au r.tail.tail)
   |some bk=>(comp bk (au r.tail.tail)).bind fun x r=>.ok (.mk 14 t.plain false [] [] [] [x]) r)else syn r.tail
 | []=>syn []
def gT(comp:Blk->Pa Nd)(inner:Option (Blk->Pa Nd))(ts:List Tok):PR Nd:=match bU ts with
 |some bk=>comp bk ts
 |none=>if bS closers ts then syn ts else if qi ts then(match inner with
   |none=>full ts
   |some c=>ia c ts)else simple ts
structure Lev where
 cmd:Pa Nd
 conds:Pa Nd
 comp:Blk->Pa Nd
def lev:Nat->Lev
 |0=>⟨gT (fun _ ts=>full ts) none,eU (eA (gT (fun _ ts=>full ts) none)) none,fun _ ts=>full ts⟩
 |k+1=>
  let comp:=eV (iC (cj (lev k).cmd) (eA (lev k).cmd) (lev k).conds)
  ⟨gT comp (some (lev k).comp),eU (eA (gT comp (some (lev k).comp))) (some (lev k).conds),comp⟩
def dm(k:Nat)(ts:List Tok):PR (List Nd):=(eF (lev k).cmd ts).bind fun l r=>if r.isEmpty then .ok l []else syn r
def Wi{α:Type}(p:PR α)(ts:List Tok)(d:Nat):Prop:=match p with
 |.ok _ r=>r <:+ ts/\r.length+d<=ts.length
 |.bad _ m=>m<=ts.length
theorem Wi.ok{α:Type}{a:α}{r ts:List Tok}{d:Nat}(h1:r <:+ ts)(h2:r.length+d<=ts.length):Wi (.ok a r) ts d:=⟨h1,h2⟩
theorem Wi.bind{α β:Type}{p:PR α}{f:α->List Tok->PR β}{ts:List Tok}{d1 d2:Nat}(h:Wi p ts d1)(hf:∀a r,p=.ok a r->Wi (f a r) r d2):Wi (p.bind f) ts (d1+d2):=by
 cases p with
 |bad e m=>exact h
 |ok a r=>
  have h2:=hf a r rfl;show Wi (f a r) ts (d1+d2)
  obtain⟨h3,h4⟩:=h
  cases hfa:f a r with
  |bad e m=>rw[hfa]at h2;have h2:m<=r.length:=h2;show m<=ts.length;omega
  |ok b r2=>
   rw[hfa]at h2;exact⟨h2.1.trans h3,by have:=h2.2;omega⟩
theorem Wi.le{α:Type}{p:PR α}{ts:List Tok}{d d':Nat}(h:Wi p ts d)(hd:d'<=d):Wi p ts d':=by
 cases p with
 |bad e m=>exact h
 |ok a r=>exact⟨h.1,by have:=h.2;omega⟩
theorem Wi.up{α:Type}{p:PR α}{ts us:List Tok}{d k:Nat}(h:Wi p ts d)(hs:ts <:+ us)(hk:ts.length+k<=us.length):Wi p us (d+k):=by
 cases p with
 |bad e m=>have h:m<=ts.length:=h;show m<=us.length;omega
 |ok a r=>exact⟨h.1.trans hs,by have:=h.2;omega⟩
theorem Wi.up0{α:Type}{p:PR α}{ts us:List Tok}{d:Nat}(h:Wi p ts d)(hs:ts <:+ us):Wi p us d:=h.up (k:=0) hs hs.length_le
theorem d_{α:Type}{ts us:List Tok}{d:Nat}(h:ts.length<=us.length):Wi (syn ts:PR α) us d:=h
theorem mu{α:Type}{ts us:List Tok}{d:Nat}(h:ts.length<=us.length):Wi (full ts:PR α) us d:=h
theorem ay(ts:List Tok):au ts <:+ ts:=List.dropWhile_suffix _
theorem dK(ts:List Tok):(au ts).length<=ts.length:=(ay ts).length_le
theorem am(ts:List Tok):ts.tail <:+ ts:=List.tail_suffix ts
theorem eW{s:ab}{ts:List Tok}(h:aS s ts=true):ts≠[]:=by rintro rfl;cases h
theorem kk{l:List ab}{ts:List Tok}(h:bS l ts=true):ts≠[]:=by rintro rfl;cases h
theorem qj{k:Nat}{ts:List Tok}(h:isK k ts=true):ts≠[]:=by rintro rfl;cases h
theorem dR{ts:List Tok}(h:ts≠[]):ts.tail.length+1=ts.length:=by
 cases ts with
 |nil=>grind
 |cons t r=>rfl
theorem eh(s:ab)(ts:List Tok):Wi (aW s ts) ts 1:=by
 unfold aW
 split
 ·rename_i h
  have:ts≠[]:=by
   grind[eW,kk]
  exact .ok (am ts) (by grind[dR])
 grind[d_]
theorem fR(ts:List Tok):Wi (bT ts) ts 1:=by
 cases ts with
 |nil=>exact d_ (Nat.le_refl _)
 |cons t r=>
  simp only[bT];split
  ·exact .ok (List.suffix_cons _ _) (Nat.le_refl _)
  grind[d_]
theorem fu(ts:List Tok):Wi (dx ts) ts 2:=by
 cases ts with
 |nil=>exact d_ (Nat.le_refl _)
 |cons t r=>
  unfold dx;have:=(Wi.bind (d2:=0) (fR r) (f:=fun w r=>.ok (fO t w) r) fun w r _=>.ok (List.suffix_refl _) (Nat.le_refl _)).up (k:=1) (List.suffix_cons t r) (Nat.le_refl _);omega
theorem km:∀(f:Nat) (l:List (Int×Nat×List Prt)) (ts:List Tok),Wi (bp f l ts) ts 0
 |0,l,ts=>.ok (List.suffix_refl _) (Nat.le_refl _)
 |f+1,l,ts=>by
  unfold bp;split
  ·exact(Wi.bind (d2:=0) (fu ts) fun x r _=>km f (l++[x]) r).le (by omega)
  ·exact .ok (List.suffix_refl _) (Nat.le_refl _)
def Wp{α:Type}(P:Pa α)(d:Nat):Prop:=∀ts,Wi (P ts) ts d
section
variable {cmd it pi li so ar:Pa Nd} {d:Nat}
theorem n7(h:Wp pi 0):∀(f:Nat) (n:Nd) (ts:List Tok),Wi (dk pi f n ts) ts 0
 |0,n,ts=>.ok (List.suffix_refl _) (Nat.le_refl _)
 |f+1,n,ts=>by
  unfold dk;split
  ·exact(Wi.bind (d2:=0) ((h _).up0 ((ay _).trans (am ts))) fun x r _=>n7 h f _ r).le (by omega)
  ·exact .ok (List.suffix_refl _) (Nat.le_refl _)
theorem jL(h:Wp pi d):Wp (item pi) d:=fun ts=>
 Wi.bind (d2:=0) (h ts) fun n r _=>n7 (fun ts=>(h ts).le (Nat.zero_le _)) _ n r
theorem n_(h:Wp cmd 0):∀(f:Nat) (l:List Nd) (ts:List Tok),Wi (dl cmd f l ts) ts 0
 |0,l,ts=>.ok (List.suffix_refl _) (Nat.le_refl _)
 |f+1,l,ts=>by
  unfold dl;split
  ·exact(Wi.bind (d2:=0) ((h _).up0 ((ay _).trans (am ts))) fun x r _=>n_ h f _ r).le (by omega)
  ·exact .ok (List.suffix_refl _) (Nat.le_refl _)
theorem fS(h:Wp cmd d):Wp (pipe cmd) d:=fun ts=>by
 have h0:Wp cmd 0:=fun ts=>(h ts).le (Nat.zero_le _)
 refine Wi.bind (d2:=0) (d1:=d) ?_ fun x r _=>Wi.bind (d1:=0) (d2:=0) (n_ h0 _ _ r) fun l r _=>.ok (List.suffix_refl _) (Nat.le_refl _)
 split
 ·exact(h _).up0 (am ts)
 ·exact h ts
theorem mv{ts:List Tok}(h:sep ts=true):ts≠[]:=by rintro rfl;cases h
theorem oa(h:Wp it 1):∀(f:Nat) (l:List Nd) (ts:List Tok),Wi (aR it f l ts) ts 0
 |0,l,ts=>.ok (List.suffix_refl _) (Nat.le_refl _)
 |f+1,l,ts=>by
  unfold aR;split
  ·exact .ok (ay ts) (dK ts)
  ·refine(Wi.bind (d1:=1) (d2:=0) ((h _).up0 (ay ts)) fun x r _=>?_).le (Nat.zero_le _)
   split
   ·exact((oa h f _ r.tail).up0 (am r))
   ·exact .ok (List.suffix_refl _) (Nat.le_refl _)
theorem uH(h:Wp cmd 1):Wp (eF cmd) 0:=fun ts=>oa (jL (fS h)) _ _ _
theorem jM(h:Wp cmd 1):Wp (cj cmd) 0:=fun ts=>Wi.bind (d1:=0) (d2:=0) (uH h ts) fun l r _=>.ok (List.suffix_refl _) (Nat.le_refl _)
theorem iD(h:Wp cmd 1):Wp (eA cmd) 0:=fun ts=>Wi.bind (d1:=0) (d2:=0) (jM h ts) fun n r _=>by
 split
 ·grind[d_]
 ·exact .ok (List.suffix_refl _) (Nat.le_refl _)
theorem fT:∀(f:Nat) (x:Sim) (ts:List Tok),Wi (aM f x ts) ts 0
 |0,x,ts=>.ok (List.suffix_refl _) (Nat.le_refl _)
 |f+1,x,[]=>.ok (List.suffix_refl _) (Nat.le_refl _)
 |f+1,x,t::r=>by
  unfold aM;simp only;split
  ·exact(Wi.bind (d2:=0) (fu (t::r)) fun y r _=>fT f _ r).le (by omega)
  ·split
   ·exact(fT f _ r).up0 (List.suffix_cons t r)
   ·exact .ok (List.suffix_refl _) (Nat.le_refl _)
theorem sU:Wp simple 1:=fun ts=>by
 unfold simple
 split
 ·rename_i h
  cases ts with
  |nil=>cases h
  |cons t r=>
   show Wi (aM (r.length+1) _ (t::r)) _ _
   unfold aM;simp only;split
   ·exact(Wi.bind (d2:=0) (fu (t::r)) fun y r _=>fT _ _ r).le (by omega)
   ·split
    ·exact(fT _ _ r).up (k:=1) (List.suffix_cons t r) (Nat.le_refl _)
    grind[isK]
 grind[d_]
theorem ib(h:Wp so 0)(k:Nat)(f:ab)(s:Option ab):Wp (aO so k f s) 0:=fun ts=>
 (Wi.bind (d1:=0) (d2:=1+(0+0)) (h ts) fun a r _=>Wi.bind (eh f r) fun _ r _=>Wi.bind (d1:=0) (d2:=0) (h r) fun b r _=>by
  cases s with
  |none=>exact .ok (List.suffix_refl _) (Nat.le_refl _)
  |some s=>exact(Wi.bind (d2:=0) (eh s r) fun _ r _=>.ok (List.suffix_refl _) (Nat.le_refl _)).le (by omega)).le (by omega)
theorem lP(h:Wp so 0)(k:Nat)(c:ab):Wp (closed so k c) 0:=fun ts=>
 (Wi.bind (d1:=0) (d2:=1) (h ts) fun a r _=>Wi.bind (d2:=0) (eh c r) fun _ r _=>.ok (List.suffix_refl _) (Nat.le_refl _)).le (by omega)
theorem iE:∀ts:List Tok,(aE ts).2 <:+ ts
 | []=>List.suffix_refl _
 |t::r=>by
  unfold aE;split
  ·exact(iE r).trans (List.suffix_cons t r)
  grind
theorem ko(h:Wp so 0)(n:ab)(ws:List (List Prt)):Wp (cf so n ws) 0:=fun ts=>
 (Wi.bind (d1:=1) (d2:=0+1) ((eh kDo (au ts)).up0 (ay ts)) fun _ r _=>Wi.bind (h r) fun b r _=>Wi.bind (d2:=0) (eh dw r) fun _ r _=>.ok (List.suffix_refl _) (Nat.le_refl _)).le (by omega)
theorem xI(h:Wp so 0):Wp (eG so) 0:=fun ts=>by
 cases ts with
 |nil=>exact d_ (Nat.le_refl _)
 |cons t r=>
  simp only[eG];have hr:r <:+ t::r:=List.suffix_cons t r;split
  ·split
   ·have h1:(au r).tail <:+ t::r:=((am _).trans (ay r)).trans hr
    have h2:=(iE (au r).tail).trans h1;unfold gV;split
    ·exact(ko h _ _ _).up0 ((am _).trans h2)
    grind[d_]
   ·refine(ko h _ _ _).up0 ?_
    grind[am,ay]
  grind[d_]
theorem ro:∀(f:Nat) (l:List (List Prt)) (ts:List Tok),Wi (e_ f l ts) ts 0
 |0,l,ts=>.ok (List.suffix_refl _) (Nat.le_refl _)
 |f+1,l,ts=>by
  unfold e_;split
  ·exact(Wi.bind (d2:=0) ((fR ts.tail).up0 (am ts)) fun w r _=>ro f _ r).le (by omega)
  ·exact .ok (List.suffix_refl _) (Nat.le_refl _)
theorem qk(h:Wp li 0):Wp (arm li) 1:=fun ts=>by
 unfold arm
 refine(Wi.bind (d1:=1) (d2:=0+(1+(0+1))) ?_ fun w r _=>Wi.bind (d1:=0) (ro _ _ r) fun ws r _=>Wi.bind (eh _ r) fun _ r _=>Wi.bind (h r) fun n r _=>Wi.bind (d2:=0) (eh _ r) fun _ r _=>.ok (List.suffix_refl _) (Nat.le_refl _)).le (by omega)
 split
 ·exact(fR _).up0 (am ts)
 ·exact fR ts
theorem oc(h:Wp ar 1):∀(f:Nat) (l:List Nd) (ts:List Tok),Wi (de ar f l ts) ts 0
 |0,l,ts=>.ok (List.suffix_refl _) (Nat.le_refl _)
 |f+1,l,ts=>by
  unfold de;split
  ·exact .ok (ay ts) (dK ts)
  ·exact(Wi.bind (d1:=1) (d2:=0) ((h _).up0 (ay ts)) fun x r _=>oc h f _ r).le (Nat.zero_le _)
theorem sV(h:Wp li 0):Wp (fQ li) 0:=fun ts=>
 (Wi.bind (d1:=1) (d2:=1+(0+1)) (fR ts) fun w r _=>Wi.bind ((eh kIn (au r)).up0 (ay r)) fun _ r _=>Wi.bind (oc (qk h) _ _ r) fun l r _=>Wi.bind (d2:=0) (eh eT r) fun _ r _=>.ok (List.suffix_refl _) (Nat.le_refl _)).le (by omega)
theorem xJ{conds:Pa Nd}(h1:Wp li 0)(h2:Wp so 0)(h3:Wp conds 0):∀b,Wp (iC li so conds b) 0
 |.sub=>lP h2 _ _
 |.grp=>lP h2 _ _
 |.iff=>h3
 |.whl=>show Wp (aO so 9 kDo (some dw)) 0 from ib h2 _ _ _
 |.unt=>show Wp (aO so 10 kDo (some dw)) 0 from ib h2 _ _ _
 |.for_=>xI h2
 |.case_=>sV h1
theorem od{inner:Option (Pa Nd)}(h:Wp so 0)(hi:∀c,inner=some c->Wp c 0):Wp (eU so inner) 0:=fun ts=>by
 unfold eU
 refine Wi.bind (d1:=0) (d2:=0) (ib h 8 n4 none ts) fun n r _=>?_
 split
 ·exact(Wi.bind (d1:=0) (d2:=0) ((h _).up0 (am r)) fun c r _=>.ok (List.suffix_refl _) (Nat.le_refl _))
 ·split
  ·cases inner with
   |none=>grind[mu]
   |some c=>exact Wi.bind (d1:=0) (d2:=0) ((hi c rfl _).up0 (am r)) fun x r _=>.ok (List.suffix_refl _) (Nat.le_refl _)
  ·exact .ok (List.suffix_refl _) (Nat.le_refl _)
theorem fv{ts:List Tok}{b:Blk}(h:bU ts=some b):ts≠[]:=by rintro rfl;cases h
theorem uI{bo:Blk->Pa Nd}(h:∀b,Wp (bo b) 0)(bk:Blk)(ts:List Tok)(hn:ts≠[]):Wi (eV bo bk ts) ts 1:=by
 unfold eV
 have:=Wi.bind (d1:=0) (d2:=0+0) (h bk ts.tail) (f:=fun n r=>(if n.kind=8 then aW kFi r else .ok () r).bind fun _ r=>(bp r.length n.rs r).bind fun l r=>.ok (n.setRs l) r) fun n r _=>by
  refine Wi.bind (d1:=0) ?_ fun _ r _=>Wi.bind (d1:=0) (d2:=0) (km _ _ r) fun l r _=>.ok (List.suffix_refl _) (Nat.le_refl _)
  split
  ·exact(eh _ _).le (by omega)
  ·exact .ok (List.suffix_refl _) (Nat.le_refl _)
 exact this.up (k:=1) (am ts) (by grind[dR])
def Wc(comp:Blk->Pa Nd):Prop:=∀b ts,ts≠[]->Wi (comp b ts) ts 1
theorem xK{comp:Blk->Pa Nd}(h:Wc comp):Wp (ia comp) 1:=fun ts=>by
 cases ts with
 |nil=>exact d_ (Nat.le_refl _)
 |cons t r=>
  simp only[ia];have h1:r.tail <:+ t::r:=(am r).trans (List.suffix_cons t r);have h2:au r.tail.tail <:+ t::r:=(ay _).trans ((am _).trans h1);split
  ·split
   ·grind[d_]
   ·rename_i bk hb
    exact Wi.bind (d1:=1) (d2:=0) ((h bk _ (fv hb)).up0 h2) fun x r _=>.ok (List.suffix_refl _) (Nat.le_refl _)
  grind[d_]
theorem rp{comp:Blk->Pa Nd}{inner:Option (Blk->Pa Nd)}(h:Wc comp)(hi:∀c,inner=some c->Wc c):Wp (gT comp inner) 1:=fun ts=>by
 unfold gT
 split
 ·rename_i bk hb
  exact h bk ts (fv hb)
 ·split
  ·grind[d_]
  ·split
   ·cases inner with
    |none=>grind[mu]
    |some c=>exact xK (hi c rfl) ts
   ·exact sU ts
end
theorem fU:∀k:Nat,Wp (lev k).cmd 1/\Wp (lev k).conds 0/\Wc (lev k).comp
 |0=>by
  have h1:Wc (fun _ ts=>full ts):=fun b ts _=>mu (Nat.le_refl _)
  have h2:=rp (inner:=none) h1 (fun c h=>by cases h);have h3:=od (inner:=none) (iD h2) (fun c h=>by cases h);exact⟨h2,h3,h1⟩
 |k+1=>by
  obtain⟨i1,i2,i3⟩:=fU k;have h1:Wc (eV (iC (cj (lev k).cmd) (eA (lev k).cmd) (lev k).conds)):=fun b ts hn=>uI (xJ (jM i1) (iD i1) i2) b ts hn
  grind[rp,lev,od,iD]
theorem dS{b g o:Nat}{v:Value}{w W:World}{L:List (Nat×Obj)}(hL:Kn [b] w W L)(h:w.cell? ⟨g,o,none⟩=some v)(hg:g≠b):W.cell? ⟨g,o,none⟩=some v:=
 (dt (hL.block g (aI h) (by simpa using hg))).trans h
theorem lQ{g o:Nat}{v:Value}{w W:World}{L:List (Nat×Obj)}(hL:Kn [] w W L)(h:w.cell? ⟨g,o,none⟩=some v):W.cell? ⟨g,o,none⟩=some v:=
 (dt (hL.block g (aI h) (by simp))).trans h
theorem BC(kd fd ln:Int)(tx pl:ByteArray)(pa:Option Addr)(pn pc:Nat):∀w:World,(Instr.field 76 (.agg #[.int .i64 kd,.string tx,.string pl,.slice pa pn pc,.int .i64 fd,.int .i64 ln]) 0).run Tryz.prog w=.ok (.int .i64 kd) w:=fun _=>by kernel_rfl
theorem BD(kd fd ln:Int)(tx pl:ByteArray)(pa:Option Addr)(pn pc:Nat):∀w:World,(Instr.field 76 (.agg #[.int .i64 kd,.string tx,.string pl,.slice pa pn pc,.int .i64 fd,.int .i64 ln]) 1).run Tryz.prog w=.ok (.string tx) w:=fun _=>by kernel_rfl
theorem BE(kd fd ln:Int)(tx pl:ByteArray)(pa:Option Addr)(pn pc:Nat):∀w:World,(Instr.field 76 (.agg #[.int .i64 kd,.string tx,.string pl,.slice pa pn pc,.int .i64 fd,.int .i64 ln]) 2).run Tryz.prog w=.ok (.string pl) w:=fun _=>by kernel_rfl
theorem sW(kd fd ln:Int)(tx pl:ByteArray)(pa:Option Addr)(pn pc:Nat):∀w:World,(Instr.field 76 (.agg #[.int .i64 kd,.string tx,.string pl,.slice pa pn pc,.int .i64 fd,.int .i64 ln]) 3).run Tryz.prog w=.ok (.slice pa pn pc) w:=fun _=>by kernel_rfl
theorem BF(kd fd ln:Int)(tx pl:ByteArray)(pa:Option Addr)(pn pc:Nat):∀w:World,(Instr.field 76 (.agg #[.int .i64 kd,.string tx,.string pl,.slice pa pn pc,.int .i64 fd,.int .i64 ln]) 4).run Tryz.prog w=.ok (.int .i64 fd) w:=fun _=>by kernel_rfl
theorem Aq(kd fd ln:Int)(tx pl:ByteArray)(pa:Option Addr)(pn pc:Nat):∀w:World,(Instr.field 76 (.agg #[.int .i64 kd,.string tx,.string pl,.slice pa pn pc,.int .i64 fd,.int .i64 ln]) 5).run Tryz.prog w=.ok (.int .i64 ln) w:=fun _=>by kernel_rfl
theorem gL(b g q n cap:Nat)(v2:Value)(w:World)(hb:w.heap[b]? =some (.cells #[.slice (some ⟨g,q,none⟩) (n) (cap),v2] 73 (0,0)))(hn:1<=n)(kd fd ln:Int)(tx pl:ByteArray)(pa:Option Addr)(pn pc:Nat)(h0:w.cell? ⟨g,q,none⟩=some (.int .i64 kd))(h1:w.cell? ⟨g,q+1,none⟩=some (.string tx))(h2:w.cell? ⟨g,q+2,none⟩=some (.string pl))(h3:w.cell? ⟨g,q+3,none⟩=some (.slice pa pn pc))(h4:w.cell? ⟨g,q+4,none⟩=some (.int .i64 fd))(h5:w.cell? ⟨g,q+5,none⟩=some (.int .i64 ln))(hgb:g≠b):
  Calls Tryz.prog 27 #[.pointer (some ⟨b,0,none⟩)] w fun e w'=>e=.returned (.agg #[.int .i64 kd,.string tx,.string pl,.slice pa pn pc,.int .i64 fd,.int .i64 ln])/\Below w.heap.size w w':=by
 have HB:=yh hb
 have hL:Kn [b] w w [(b,.cells #[.slice (some ⟨g,q,none⟩) (n) (cap),v2] 73 (0,0))]:=Kn.one hb
 have hg:=aI h0
 clear hb
 have hF:=hL.fx
 go_enter Tryz.func27,Tryz.ntmps27
 go_wp2
 refine zF ?_;intro W hL hF
 refine bodyPost_ret (by simp[results,Tryz.results27,go_sem, *];try rfl) rfl ?_
 exact⟨rfl,ef (hL.sub (by repeat' (first|exact List.Sublist.refl _|apply List.Sublist.cons))) HB.out⟩
theorem xL(b g q n cap:Nat)(v2:Value)(w:World)(hb:w.heap[b]? =some (.cells #[.slice (some ⟨g,q,none⟩) (n) (cap),v2] 73 (0,0)))(hn:2<=n)(kd fd ln:Int)(tx pl:ByteArray)(pa:Option Addr)(pn pc:Nat)(h0:w.cell? ⟨g,q,none⟩=some (.int .i64 kd))(h1:w.cell? ⟨g,q+1,none⟩=some (.string tx))(h2:w.cell? ⟨g,q+2,none⟩=some (.string pl))(h3:w.cell? ⟨g,q+3,none⟩=some (.slice pa pn pc))(h4:w.cell? ⟨g,q+4,none⟩=some (.int .i64 fd))(h5:w.cell? ⟨g,q+5,none⟩=some (.int .i64 ln))(hgb:g≠b)(hc:n<=cap):
  Calls Tryz.prog 53 #[.pointer (some ⟨b,0,none⟩)] w fun e w'=>e=.returned (.agg #[.int .i64 kd,.string tx,.string pl,.slice pa pn pc,.int .i64 fd,.int .i64 ln])/\Kn [b] w w' [(b,.cells #[.slice (some ⟨g,q+6,none⟩) (n-1) (cap-1),v2] 73 (0,0))]:=by
 have HB:=yh hb
 have hL:Kn [b] w w [(b,.cells #[.slice (some ⟨g,q,none⟩) (n) (cap),v2] 73 (0,0))]:=Kn.one hb
 have hg:=aI h0
 clear hb
 have hF:=hL.fx
 have e1:decide ((1:Int)<(n:Int))=true:=decide_eq_true (by omega)
 have e2:decide (1<n)=true:=decide_eq_true (by omega)
 have e3:¬cap=1:=by omega
 have e4:¬n=1:=by omega
 go_enter Tryz.func53,Tryz.ntmps53
 go_wp2
 refine zF ?_;intro W hL hF
 refine bodyPost_ret (by simp[results,Tryz.results53,go_sem, *];try rfl) rfl ?_
 exact⟨rfl,hL.sub (by repeat' (first|exact List.Sublist.refl _|apply List.Sublist.cons))⟩
theorem rq(er:Int)(b g q n cap:Nat)(v2:Value)(w:World)(hb:w.heap[b]? =some (.cells #[.slice (some ⟨g,q,none⟩) (n) (cap),v2] 73 (0,0)))(hn:1<=n)(kd fd ln:Int)(tx pl:ByteArray)(pa:Option Addr)(pn pc:Nat)(h0:w.cell? ⟨g,q,none⟩=some (.int .i64 kd))(h1:w.cell? ⟨g,q+1,none⟩=some (.string tx))(h2:w.cell? ⟨g,q+2,none⟩=some (.string pl))(h3:w.cell? ⟨g,q+3,none⟩=some (.slice pa pn pc))(h4:w.cell? ⟨g,q+4,none⟩=some (.int .i64 fd))(h5:w.cell? ⟨g,q+5,none⟩=some (.int .i64 ln))(hgb:g≠b):
  Calls Tryz.prog 28 #[.pointer (some ⟨b,0,none⟩),.int .i64 er] w fun e w'=>e=.panicked [{v:=.iface 70 (.agg #[.int .i64 er,.int .i64 ln]),recovered:=false}]/\Below w.heap.size w w':=by
 have HB:=yh hb
 have hL:Kn [b] w w [(b,.cells #[.slice (some ⟨g,q,none⟩) (n) (cap),v2] 73 (0,0))]:=Kn.one hb
 have hg:=aI h0
 clear hb
 have hF:=hL.fx
 go_enter Tryz.func28,Tryz.ntmps28
 have f5:=Aq kd fd ln tx pl pa pn pc
 go_wp2_with (first|(with_reducible refine zS ?_;intro W hL hF)|(go_at_call 27;refine zC (fun W hL=>gL b g q n cap v2 _ hL.h0 (by omega) kd fd ln tx pl pa pn pc (dS hL h0 hgb) (dS hL h1 hgb) (dS hL h2 hgb) (dS hL h3 hgb) (dS hL h4 hgb) (dS hL h5 hgb) hgb) ?_;intro W hL hF))
 exact⟨rfl,rfl,ef (hL.sub (by repeat' ((exact List.Sublist.refl _)))) HB.out⟩
theorem xb{b n:Nat}(h:n<=b):∀y∈[b],n<=y:=by simpa using h
theorem tkF(kd fd ln:Int)(tx pl:ByteArray)(pa:Option Addr)(pn pc:Nat):(∀w:World,(Instr.field 76 (.agg #[.int .i64 kd,.string tx,.string pl,.slice pa pn pc,.int .i64 fd,.int .i64 ln]) 0).run Tryz.prog w=.ok (.int .i64 kd) w)/\(∀w:World,(Instr.field 76 (.agg #[.int .i64 kd,.string tx,.string pl,.slice pa pn pc,.int .i64 fd,.int .i64 ln]) 1).run Tryz.prog w=.ok (.string tx) w)/\(∀w:World,(Instr.field 76 (.agg #[.int .i64 kd,.string tx,.string pl,.slice pa pn pc,.int .i64 fd,.int .i64 ln]) 2).run Tryz.prog w=.ok (.string pl) w)/\(∀w:World,(Instr.field 76 (.agg #[.int .i64 kd,.string tx,.string pl,.slice pa pn pc,.int .i64 fd,.int .i64 ln]) 3).run Tryz.prog w=.ok (.slice pa pn pc) w)/\(∀w:World,(Instr.field 76 (.agg #[.int .i64 kd,.string tx,.string pl,.slice pa pn pc,.int .i64 fd,.int .i64 ln]) 4).run Tryz.prog w=.ok (.int .i64 fd) w)/\(∀w:World,(Instr.field 76 (.agg #[.int .i64 kd,.string tx,.string pl,.slice pa pn pc,.int .i64 fd,.int .i64 ln]) 5).run Tryz.prog w=.ok (.int .i64 ln) w):=
  ⟨BC kd fd ln tx pl pa pn pc,BD kd fd ln tx pl pa pn pc,BE kd fd ln tx pl pa pn pc,sW kd fd ln tx pl pa pn pc,BF kd fd ln tx pl pa pn pc,Aq kd fd ln tx pl pa pn pc⟩
theorem lR(c:UInt8):dz c=decide (c.toNat=95\/(97<=c.toNat/\c.toNat<=122)\/(65<=c.toNat/\c.toNat<=90)):=by
 have e:(c==95)=decide (c.toNat=95):=by
  by_cases h:c=95
  ·subst h;rfl
  ·exact(beq_false_of_ne h).trans (decide_eq_false (fun e=>h (UInt8.toNat_inj.1 e))).symm
 unfold dz
 rw[e]
 simp[Bool.decide_or,Bool.decide_and,Bool.or_assoc]
theorem fV(c:UInt8):bK c=decide (48<=c.toNat/\c.toNat<=57):=by simp[bK]
def nm(k:Nat)(l:ab):Nat:=if k=0 then named l else bR l
theorem rt(k:Nat)(c:UInt8)(t:ab):nm k (c::t)=if dz c||(decide (0<k)&&bK c)then nm (k+1) t+1 else 0:=by
 unfold nm
 rw[if_neg (by omega:¬k+1=0)]
 by_cases h:k=0
 ·subst h;simp[named]
 ·rw[if_neg h,bR]
  have:decide (0<k)=true:=by simp;omega
  rw[this];simp
theorem Ar(k:Nat):nm k []=0:=by unfold nm;split<;>rfl
theorem uJ(s:ByteArray)(hs:s.size<=1000000)(w:World):Calls Tryz.prog 152 #[.string s] w fun e w'=>e=.returned (.int .i64 (named s.data.toList))/\Below w.heap.size w w':=by
  obtain⟨V,hV⟩:∃V,named s.data.toList=V:=⟨_,rfl⟩;rw[hV];have HV:Hid (0+nm 0 (s.data.toList.drop 0)=V):=yh (by rw[<- hV];simp[nm]);clear hV;have hsl:=szl s;have hL:Kn [] w w []:=Kn.refl [] w;have hF:=hL.fx;go_enter Tryz.func152,Tryz.ntmps152;go_wp2;go_loopw [3] (fun i wr=>∃k:Nat,k<=s.size/\i=.int .i64 k/\Kn [] w wr []/\Hid (k+nm k (s.data.toList.drop k)=V)) (fun i _=>s.size-(intOf i).toNat)
  case atStart=>exact⟨0,by omega,rfl,hL,HV⟩
  case round=>
    clear hL HV hF;obtain⟨k,hk,rfl,hL,HV⟩:=hrel;have hF:=hL.facts;simp only[bX,dP,zD]at hF;by_cases hlt:k<s.size
    · obtain⟨c0,hc0⟩:∃c,s.data.toList[k]? =some c:=⟨_,List.getElem?_eq_getElem (by rw[szl];omega)⟩
      have eb0:=bP hc0 (by omega);have hd0:s.data.toList.drop (k)=c0::s.data.toList.drop (k+1):=by
        obtain⟨h1,h2⟩:=List.getElem?_eq_some_iff.1 hc0;rw[List.drop_eq_getElem_cons h1,h2]
      have hc256:=c0.toNat_lt;have HE:Hid (k+nm k (c0::s.data.toList.drop (k+1))=V):=yh (hd0▸HV.out);clear hd0 hc0 HV;go_each [(c0.toNat:Int)=95,97<=(c0.toNat:Int),(c0.toNat:Int)<=122,65<=(c0.toNat:Int),(c0.toNat:Int)<=90,0<k,48<=(c0.toNat:Int),(c0.toNat:Int)<=57]=>(
        first|have q0:((c0.toNat:Int)==95)=true:=beq_iff_eq.2 ‹_› |have q0:((c0.toNat:Int)==95)=false:=beq_false_of_ne ‹_›
        go_wp2;first
        | (refine bodyPost_ret (by simp[results,Tryz.results152,go_sem, *];try rfl) rfl ?_
           exact⟨by have h:=HE.out;rw[rt,lR,fV]at h;rw[<- h,if_neg (by simp;omega)];simp,hL.below0⟩)
        | (go_roundw
           case rel=>exact⟨k+1,by omega,by go_num,hL,yh (by have h:=HE.out;rw[rt,lR,fV,if_pos (by simp;omega)]at h;omega)⟩
           case measure=>simp[intOf];omega))
    · have hke:k=s.size:=by omega
      go_wp2;refine bodyPost_ret (by simp[results,Tryz.results152,go_sem, *];try rfl) rfl ?_;exact⟨by rw[<- HV.out,List.drop_eq_nil_of_le (by rw[szl];omega),Ar,hke];rfl,hL.below0⟩
theorem ct(s:ByteArray)(c:UInt8)(r:Int)(hr:Lib.indexByte s.data.toList c=r)(n:Int)(hn:(c.toNat:Int)=n)(w:World):
  Calls Tryz.prog 81 #[.string s,.int .u8 n] w fun x w'=>x=.returned (.int .i64 r)/\w'=w:=
 (Tryz.strings_IndexByte s n w).mono fun x w' ⟨h1,h2⟩=>⟨by rw[h1,<- hr,<- hn];congr 3;simp,h2⟩
theorem gM{p:UInt8->Bool}(h:∀n<256,p (UInt8.ofNat n)=true)(c:UInt8):p c=true:=by
 have:=h c.toNat c.toNat_lt
 simpa using this
theorem xM(c:UInt8):(decide (0<=Lib.indexByte [48,49,50,51,52,53,54,55,56,57,35,63,36,33,64,42] c)==eJ c)=true:=gM (p:=fun c=>decide (0<=Lib.indexByte [48,49,50,51,52,53,54,55,56,57,35,63,36,33,64,42] c)==eJ c) (by decide +kernel) c
theorem xN(c:UInt8):(decide (Lib.indexByte [32,9,10,124,38,59,40,41,60,62] c<0)== !ends c)=true:=gM (p:=fun c=>decide (Lib.indexByte [32,9,10,124,38,59,40,41,60,62] c<0)== !ends c) (by decide +kernel) c
theorem Au(c:UInt8):(decide (0<=Lib.indexByte [34,36,92] c)==esc c)=true:=gM (p:=fun c=>decide (0<=Lib.indexByte [34,36,92] c)==esc c) (by decide +kernel) c
theorem kp(s:ByteArray)(hs:s.size<=1000000)(w:World):Calls Tryz.prog 126 #[.string s] w fun e w'=>e=.returned (.int .i64 (bw s.data.toList))/\Below w.heap.size w w':=by
 obtain⟨V,hV⟩:∃V,bw s.data.toList=V:=⟨_,rfl⟩
 obtain⟨k,hk⟩:∃k,named s.data.toList=k:=⟨_,rfl⟩
 rw[hV]
 have HV:=yh hV
 have hsl:=szl s
 have hN:Hid (∀W,Calls Tryz.prog 152 #[.string s] W fun e w'=>e=.returned (.int .i64 k)/\Below W.heap.size W w'):=yh fun W=>by rw[<- hk];exact uJ s hs W
 by_cases hk0:0<k
 ·have q0:(k:Int)>0:=by omega
  have hVk:V=k:=by rw[<- hV];unfold bw;rw[hk];cases k with
   |zero=>omega
   |succ n=>rfl
  clear hV hk;have hL:Kn [] w w []:=Kn.refl [] w;have hF:=hL.fx;go_enter Tryz.func126,Tryz.ntmps126;go_wp2_with ((go_at_call 152;refine zC (fun W hL=>hN.out _) ?_;intro W hL hF))
  refine bodyPost_ret (by simp[results,Tryz.results126,go_sem, *];try rfl) rfl ?_;exact⟨by rw[hVk],hL.below0⟩
 ·obtain rfl:k=0:=by omega
  cases hl:s.data.toList with
  |nil=>
   have he:s=⟨#[]⟩:=by apply ByteArray.ext;apply Array.ext';simpa using hl
   have q1:(s==⟨#[]⟩)=true:=by rw[he];rfl
   have hV0:V=0:=by rw[<- hV,hl];rfl
   clear hV hk;subst he;have hL:Kn [] w w []:=Kn.refl [] w;have hF:=hL.fx;go_enter Tryz.func126,Tryz.ntmps126;go_wp2_with ((go_at_call 152;refine zC (fun W hL=>hN.out _) ?_;intro W hL hF))
   refine bodyPost_ret (by simp[results,Tryz.results126,go_sem, *];try rfl) rfl ?_;exact⟨by rw[hV0];rfl,hL.below0⟩
  |cons c0 tl=>
   have hsz:0<s.size:=by rw[hl]at hsl;simp at hsl;omega
   have hc0:s.data.toList[0]? =some c0:=by rw[hl];rfl
   have eb0:=bP hc0 hsz;have q2:(s.data.toList==[])=false:=by rw[hl];rfl
   have q3:s.toList.isEmpty=false:=by rw[Lib.toList_data,hl];rfl
   have q4:s.data.toList.isEmpty=false:=by rw[hl];rfl
   have q5:s.data.isEmpty=false:=by
    cases h:s.data.isEmpty with
    |false=>rfl
    |true=>simp at h;simp[h]at hl
   obtain⟨r,hr⟩:∃r,Lib.indexByte [48,49,50,51,52,53,54,55,56,57,35,63,36,33,64,42] c0=r:=⟨_,rfl⟩;have hI:Hid (∀W,Calls Tryz.prog 81 #[.string ⟨#[48,49,50,51,52,53,54,55,56,57,35,63,36,33,64,42]⟩,.int .u8 c0.toNat] W fun x w'=>x=.returned (.int .i64 r)/\w'=W):=yh fun W=>ct _ c0 r hr _ rfl W
   have hsp:=xM c0;rw[hr]at hsp;have hVs:V=if eJ c0 then 1 else 0:=by rw[<- hV];rw[hl]at hk |-;unfold bw;rw[hk]
   clear hV hk hr hl;by_cases h0:0<=r
   ·have q6:r≥0:=h0
    have hs1:eJ c0=true:=by simpa[h0]using hsp
    rw[hs1]at hVs;clear hsp;have hL:Kn [] w w []:=Kn.refl [] w;have hF:=hL.fx;go_enter Tryz.func126,Tryz.ntmps126;go_wp2_with (first|(go_at_call 152;refine zC (fun W hL=>hN.out _) ?_;intro W hL hF)|(go_at_call 81;(with_reducible refine(hI.out _).mono ?_);rintro e w' ⟨rfl,rfl⟩))
    refine bodyPost_ret (by simp[results,Tryz.results126,go_sem, *];try rfl) rfl ?_;exact⟨by rw[hVs];rfl,hL.below0⟩
   ·have q6:¬r≥0:=h0
    have hs1:eJ c0=false:=by simpa[h0]using hsp
    rw[hs1]at hVs;clear hsp;have hL:Kn [] w w []:=Kn.refl [] w;have hF:=hL.fx;go_enter Tryz.func126,Tryz.ntmps126;go_wp2_with (first|(go_at_call 152;refine zC (fun W hL=>hN.out _) ?_;intro W hL hF)|(go_at_call 81;(with_reducible refine(hI.out _).mono ?_);rintro e w' ⟨rfl,rfl⟩))
    refine bodyPost_ret (by simp[results,Tryz.results126,go_sem, *];try rfl) rfl ?_;exact⟨by rw[hVs];rfl,hL.below0⟩
def uK(m:Nat):Prop:=∀(s:ByteArray) (w:World),s.size<=m->s.size<=1000000->Calls Tryz.prog 125 #[.string s] w fun e w'=>e=.returned (.int .i64 (cr (some 1) 0 s.data.toList))/\w'=w
def Av(m:Nat):Prop:=∀(s:ByteArray) (w:World),s.size<=m->s.size<=1000000->Calls Tryz.prog 151 #[.string s] w fun e w'=>e=.returned (.int .i64 (cr none 0 s.data.toList))/\w'=w
theorem sX(m:Nat)(hQ:∀k,k<m->Av k):uK m:=by
 intro s w hsm hs
 obtain⟨V,hV⟩:∃V,cr (some 1) 0 s.data.toList=V:=⟨_,rfl⟩
 rw[hV]
 have HV:Hid (cr (some 1) 0 (s.data.toList.drop 0)=V):=yh hV
 have HQ:=yh hQ
 clear hV hQ
 have hsl:=szl s
 go_enter Tryz.func125,Tryz.ntmps125
 go_wp2
 go_loopw [3,4] (fun d i wr=>∃(dn k:Nat),k<=s.size+1/\1<=dn/\dn<=k+1/\d=.int .i64 dn/\i=.int .i64 k/\wr=w/\Hid (cr (some dn) k (s.data.toList.drop k)=V)) (fun _ i _=>s.size+1-(intOf i).toNat)
 case atStart=>exact⟨1,0,by omega,by omega,by omega,rfl,rfl,rfl,HV⟩
 case round=>
  obtain⟨dn,k,hk,hd1,hd2,rfl,rfl,rfl,HV1⟩:=hrel;clear HV;have HV:=HV1;clear HV1;by_cases hlt:k<s.size
  ·obtain⟨c0,hc0⟩:∃c,s.data.toList[k]? =some c:=⟨_,List.getElem?_eq_getElem (by rw[szl];omega)⟩
   have eb0:=bP hc0 (by omega);have hd0:s.data.toList.drop (k)=c0::s.data.toList.drop (k+1):=by
    obtain⟨h1,h2⟩:=List.getElem?_eq_some_iff.1 hc0;rw[List.drop_eq_getElem_cons h1,h2]
   by_cases h92:c0=92
   ·subst h92
    go_wp2;by_cases hlt1:k+1<s.size
    ·obtain⟨c1,hc1⟩:∃c,s.data.toList[k+1]? =some c:=⟨_,List.getElem?_eq_getElem (by rw[szl];omega)⟩
     have eb1:=bP hc1 (by omega);have hd1:s.data.toList.drop (k+1)=c1::s.data.toList.drop (k+1+1):=by
      obtain⟨h1,h2⟩:=List.getElem?_eq_some_iff.1 hc1;rw[List.drop_eq_getElem_cons h1,h2]
     go_roundw
     case rel=>exact⟨dn,k+2,by omega,by omega,by omega,(by go_num),(by go_num),(by trivial),yh (by rw[<- HV.out,hd0,hd1,uF])⟩
     case measure=>simp[intOf];omega
    ·have hd9:s.data.toList.drop (k+1)=[]:=List.drop_eq_nil_of_le (by omega)
     have hd8:s.data.toList.drop (k+2)=[]:=List.drop_eq_nil_of_le (by omega);go_roundw
     case rel=>exact⟨dn,k+2,by omega,by omega,by omega,(by go_num),(by go_num),(by trivial),yh (by rw[<- HV.out,hd0,hd9,hd8,uE,mn])⟩
     case measure=>simp[intOf];omega
   have f92:((c0.toNat:Int)==92)=false:=beq_false_of_ne (fun h=>h92 (UInt8.toNat_inj.1 (show c0.toNat=92 by omega)));by_cases h39:c0=39
   ·subst h39
    obtain⟨u,hu⟩:∃u,s.extract (k+1) s.size=u:=⟨_,rfl⟩;have hul:u.data.toList=s.data.toList.drop (k+1):=by rw[<- hu,bj,List.take_of_length_le (by omega)]
    have hus:u.size=s.size-(k+1):=by rw[<- szl,hul,List.length_drop,szl]
    rcases Bx dn k u.data.toList with⟨h1,h2⟩|⟨n,h1,h2,h3⟩
    ·have hI:Hid (∀W,Calls Tryz.prog 81 #[.string u,.int .u8 39] W fun x w'=>x=.returned (.int .i64 (-1))/\w'=W):=yh fun W=>ct u 39 (-1) h1 39 rfl W
     have HH:=yh h2;clear h1 h2;go_wp2_with ((go_at_call 81;(with_reducible refine(hI.out _).mono ?_);rintro e w' ⟨rfl,rfl⟩))
     refine bodyPost_ret (by simp[results,Tryz.results125,go_sem, *];try rfl) rfl ?_;exact⟨by rw[<- HV.out,hd0,<- hul,HH.out],rfl⟩
    ·have hI:Hid (∀W,Calls Tryz.prog 81 #[.string u,.int .u8 39] W fun x w'=>x=.returned (.int .i64 (n:Int))/\w'=W):=yh fun W=>ct u 39 n h1 39 rfl W
     have HH:=yh h3;clear h1 h3;rw[szl]at h2;have q0:¬(n:Int)<0:=by omega
     go_wp2_with ((go_at_call 81;(with_reducible refine(hI.out _).mono ?_);rintro e w' ⟨rfl,rfl⟩))
     go_roundw
     case rel=>exact⟨dn,k+n+2,by omega,by omega,by omega,(by go_num),(by go_num),(by trivial),yh (by rw[<- HV.out,hd0,<- hul,HH.out,hul,List.drop_drop];congr 2;omega)⟩
     case measure=>simp[intOf];omega
   have f39:((c0.toNat:Int)==39)=false:=beq_false_of_ne (fun h=>h39 (UInt8.toNat_inj.1 (show c0.toNat=39 by omega)));by_cases h34:c0=34
   ·subst h34
    obtain⟨u,hu⟩:∃u,s.extract (k+1) s.size=u:=⟨_,rfl⟩;have hul:u.data.toList=s.data.toList.drop (k+1):=by rw[<- hu,bj,List.take_of_length_le (by omega)]
    have hus:u.size=s.size-(k+1):=by rw[<- szl,hul,List.length_drop,szl]
    rcases Bz dn k u.data.toList with⟨h1,h2⟩|⟨n,h1,h2,h3⟩
    ·have hI:Hid (∀W,Calls Tryz.prog 151 #[.string u] W fun x w'=>x=.returned (.int .i64 (-1))/\w'=W):=yh fun W=>by rw[<- h1];exact HQ.out (m-1) (by omega) u W (by omega) (by omega)
     have HH:=yh h2;clear h1 h2;go_wp2_with ((go_at_call 151;(with_reducible refine(hI.out _).mono ?_);rintro e w' ⟨rfl,rfl⟩))
     refine bodyPost_ret (by simp[results,Tryz.results125,go_sem, *];try rfl) rfl ?_;exact⟨by rw[<- HV.out,hd0,<- hul,HH.out],rfl⟩
    ·have hI:Hid (∀W,Calls Tryz.prog 151 #[.string u] W fun x w'=>x=.returned (.int .i64 (n:Int))/\w'=W):=yh fun W=>by rw[<- h1];exact HQ.out (m-1) (by omega) u W (by omega) (by omega)
     have HH:=yh h3;clear h1 h3;rw[szl]at h2;have q0:¬(n:Int)<0:=by omega
     go_wp2_with ((go_at_call 151;(with_reducible refine(hI.out _).mono ?_);rintro e w' ⟨rfl,rfl⟩))
     go_roundw
     case rel=>exact⟨dn,k+n+2,by omega,by omega,by omega,(by go_num),(by go_num),(by trivial),yh (by rw[<- HV.out,hd0,<- hul,HH.out,hul,List.drop_drop];congr 2;omega)⟩
     case measure=>simp[intOf];omega
   have f34:((c0.toNat:Int)==34)=false:=beq_false_of_ne (fun h=>h34 (UInt8.toNat_inj.1 (show c0.toNat=34 by omega)));by_cases h40:c0=40
   ·subst h40
    go_wp2;go_roundw
    case rel=>exact⟨dn+1,k+1,by omega,by omega,by omega,(by go_num),(by go_num),(by trivial),yh (by rw[<- HV.out,hd0,BA])⟩
    case measure=>simp[intOf];omega
   have f40:((c0.toNat:Int)==40)=false:=beq_false_of_ne (fun h=>h40 (UInt8.toNat_inj.1 (show c0.toNat=40 by omega)));by_cases h41:c0=41
   ·subst h41
    by_cases hd:dn=1
    ·subst hd
     go_wp2;refine bodyPost_ret (by simp[results,Tryz.results125,go_sem, *];try rfl) rfl ?_;exact⟨by rw[<- HV.out,hd0,BB],rfl⟩
    ·have q0:(((dn:Int)-1)==0)=false:=beq_false_of_ne (by omega)
     go_wp2;go_roundw
     case rel=>exact⟨dn-1,k+1,by omega,by omega,by omega,(by go_num),(by go_num),(by trivial),yh (by rw[<- HV.out,hd0,xA _ _ _ hd])⟩
     case measure=>simp[intOf];omega
   have f41:((c0.toNat:Int)==41)=false:=beq_false_of_ne (fun h=>h41 (UInt8.toNat_inj.1 (show c0.toNat=41 by omega)));go_wp2;go_roundw
   case rel=>exact⟨dn,k+1,by omega,by omega,by omega,(by go_num),(by go_num),(by trivial),yh (by rw[<- HV.out,hd0,xB _ _ _ _ h92 h39 h34 h40 h41])⟩
   case measure=>simp[intOf];omega
  ·go_wp2
   refine bodyPost_ret (by simp[results,Tryz.results125,go_sem, *];try rfl) rfl ?_;exact⟨by rw[<- HV.out,List.drop_eq_nil_of_le (by omega),mn],rfl⟩
theorem hp2(l:ab):Lib.hasPrefix l [36,40]=decide (l.head? =some 36/\(l.drop 1).head? =some 40):=by
 cases l with
 |nil=>rfl
 |cons a t=>cases t with
  |nil=>simp[Lib.hasPrefix,List.isPrefixOf]
  |cons b t=>
   simp only[Lib.hasPrefix,List.isPrefixOf,List.head?_cons,List.drop_succ_cons,List.drop_zero,Option.some.injEq,Bool.and_true,Bool.decide_and];congr 1
   ·by_cases h:a=36
    ·subst h;rfl
    ·rw[decide_eq_false h,beq_false_of_ne (Ne.symm h)]
   ·by_cases h:b=40
    ·subst h;rfl
    ·rw[decide_eq_false h,beq_false_of_ne (Ne.symm h)]
theorem uL(m:Nat)(hQ:∀k,k<m->uK k):Av m:=by
 intro s w hsm hs
 obtain⟨V,hV⟩:∃V,cr none 0 s.data.toList=V:=⟨_,rfl⟩
 rw[hV]
 have HV:Hid (cr none 0 (s.data.toList.drop 0)=V):=yh hV
 have HQ:=yh hQ
 clear hV hQ
 have hsl:=szl s
 go_enter Tryz.func151,Tryz.ntmps151
 go_wp2
 go_loopw [3] (fun i wr=>∃(k:Nat),k<=s.size+1/\i=.int .i64 k/\wr=w/\Hid (cr none k (s.data.toList.drop k)=V)) (fun i _=>s.size+1-(intOf i).toNat)
 case atStart=>exact⟨0,by omega,rfl,rfl,HV⟩
 case round=>
  obtain⟨k,hk,rfl,rfl,HV1⟩:=hrel;clear HV;have HV:=HV1;clear HV1;by_cases hlt:k<s.size
  ·obtain⟨c0,hc0⟩:∃c,s.data.toList[k]? =some c:=⟨_,List.getElem?_eq_getElem (by rw[szl];omega)⟩
   have eb0:=bP hc0 (by omega);have hd0:s.data.toList.drop (k)=c0::s.data.toList.drop (k+1):=by
    obtain⟨h1,h2⟩:=List.getElem?_eq_some_iff.1 hc0;rw[List.drop_eq_getElem_cons h1,h2]
   by_cases h34:c0=34
   ·subst h34
    go_wp2;refine bodyPost_ret (by simp[results,Tryz.results151,go_sem, *];try rfl) rfl ?_;exact⟨by rw[<- HV.out,hd0,Al],rfl⟩
   have f34:((c0.toNat:Int)==34)=false:=beq_false_of_ne (fun h=>h34 (UInt8.toNat_inj.1 (show c0.toNat=34 by omega)));by_cases h92:c0=92
   ·subst h92
    go_wp2;by_cases hlt1:k+1<s.size
    ·obtain⟨c1,hc1⟩:∃c,s.data.toList[k+1]? =some c:=⟨_,List.getElem?_eq_getElem (by rw[szl];omega)⟩
     have eb1:=bP hc1 (by omega);have hd1:s.data.toList.drop (k+1)=c1::s.data.toList.drop (k+1+1):=by
      obtain⟨h1,h2⟩:=List.getElem?_eq_some_iff.1 hc1;rw[List.drop_eq_getElem_cons h1,h2]
     go_roundw
     case rel=>exact⟨k+2,by omega,(by go_num),(by trivial),yh (by rw[<- HV.out,hd0,hd1,uF])⟩
     case measure=>simp[intOf];omega
    ·have hd9:s.data.toList.drop (k+1)=[]:=List.drop_eq_nil_of_le (by omega)
     have hd8:s.data.toList.drop (k+2)=[]:=List.drop_eq_nil_of_le (by omega);go_roundw
     case rel=>exact⟨k+2,by omega,(by go_num),(by trivial),yh (by rw[<- HV.out,hd0,hd9,hd8,uE,mn])⟩
     case measure=>simp[intOf];omega
   have f92:((c0.toNat:Int)==92)=false:=beq_false_of_ne (fun h=>h92 (UInt8.toNat_inj.1 (show c0.toNat=92 by omega)));obtain⟨u0,hu0⟩:∃u,s.extract k s.size=u:=⟨_,rfl⟩;have hul0:u0.data.toList=c0::s.data.toList.drop (k+1):=by rw[<- hu0,bj,List.take_of_length_le (by omega),hd0]
   by_cases h3:c0=36/\(s.data.toList.drop (k+1)).head? =some 40
   ·obtain⟨rfl,h40⟩:=h3
    have hpv:Lib.hasPrefix u0.data.toList [36,40]=true:=by rw[hul0,hp2];simpa using h40
    have hP:Hid (∀W,Calls Tryz.prog 101 #[.string u0,.string ⟨#[36,40]⟩] W fun x w'=>x=.returned (.bool true)/\w'=W):=yh fun W=>by have:=Tryz.strings_HasPrefix u0 ⟨#[36,40]⟩ W;rw[hpv]at this;exact this
    have hlt1:k+1<s.size:=by
     rcases Nat.lt_or_ge (k+1) s.size with h|h
     ·exact h
     ·rw[List.drop_eq_nil_of_le (by omega)]at h40;cases h40
    obtain⟨c1,hc1⟩:∃c,s.data.toList[k+1]? =some c:=⟨_,List.getElem?_eq_getElem (by rw[szl];omega)⟩;have eb1:=bP hc1 (by omega);have hd1:s.data.toList.drop (k+1)=c1::s.data.toList.drop (k+1+1):=by
     obtain⟨h1,h2⟩:=List.getElem?_eq_some_iff.1 hc1;rw[List.drop_eq_getElem_cons h1,h2]
    have hc1':c1=40:=by rw[hd1]at h40;simpa using h40
    subst hc1';obtain⟨u,hu⟩:∃u,s.extract (k+2) s.size=u:=⟨_,rfl⟩;have hul:u.data.toList=s.data.toList.drop (k+2):=by rw[<- hu,bj,List.take_of_length_le (by omega)]
    have hus:u.size=s.size-(k+2):=by rw[<- szl,hul,List.length_drop,szl]
    have hd2:s.data.toList.drop k=36::40::u.data.toList:=by rw[hd0,hd1,hul]
    clear h40 hul0 hpv;rcases Ao k u.data.toList with⟨h1,h2⟩|⟨n,h1,h2,h3⟩
    ·have hI:Hid (∀W,Calls Tryz.prog 125 #[.string u] W fun x w'=>x=.returned (.int .i64 (-1))/\w'=W):=yh fun W=>by rw[<- h1];exact HQ.out (m-1) (by omega) u W (by omega) (by omega)
     have HH:=yh h2;clear h1 h2;go_wp2_with (first|(go_at_call 101;(with_reducible refine(hP.out _).mono ?_);rintro e w' ⟨rfl,rfl⟩)|(go_at_call 125;(with_reducible refine(hI.out _).mono ?_);rintro e w' ⟨rfl,rfl⟩))
     refine bodyPost_ret (by simp[results,Tryz.results151,go_sem, *];try rfl) rfl ?_;exact⟨by rw[<- HV.out,hd2,HH.out],rfl⟩
    ·have hI:Hid (∀W,Calls Tryz.prog 125 #[.string u] W fun x w'=>x=.returned (.int .i64 (n:Int))/\w'=W):=yh fun W=>by rw[<- h1];exact HQ.out (m-1) (by omega) u W (by omega) (by omega)
     have HH:=yh h3;clear h1 h3;rw[szl]at h2;have q0:¬(n:Int)<0:=by omega
     go_wp2_with (first|(go_at_call 101;(with_reducible refine(hP.out _).mono ?_);rintro e w' ⟨rfl,rfl⟩)|(go_at_call 125;(with_reducible refine(hI.out _).mono ?_);rintro e w' ⟨rfl,rfl⟩))
     go_roundw
     case rel=>exact⟨k+n+3,by omega,(by go_num),(by trivial),yh (by rw[<- HV.out,hd2,HH.out,hul,List.drop_drop];congr 2;omega)⟩
     case measure=>simp[intOf];omega
   ·have hpv:Lib.hasPrefix u0.data.toList [36,40]=false:=by rw[hul0,hp2];simpa using h3
    have hP:Hid (∀W,Calls Tryz.prog 101 #[.string u0,.string ⟨#[36,40]⟩] W fun x w'=>x=.returned (.bool false)/\w'=W):=yh fun W=>by have:=Tryz.strings_HasPrefix u0 ⟨#[36,40]⟩ W;rw[hpv]at this;exact this
    clear hul0 hpv;go_wp2_with ((go_at_call 101;(with_reducible refine(hP.out _).mono ?_);rintro e w' ⟨rfl,rfl⟩))
    go_roundw
    case rel=>exact⟨k+1,by omega,(by go_num),(by trivial),yh (by rw[<- HV.out,hd0,xC _ _ _ h34 h92 h3])⟩
    case measure=>simp[intOf];omega
  ·go_wp2
   refine bodyPost_ret (by simp[results,Tryz.results151,go_sem, *];try rfl) rfl ?_;exact⟨by rw[<- HV.out,List.drop_eq_nil_of_le (by omega),mn],rfl⟩
theorem BG(m:Nat):uK m/\Av m:=by
 induction m using Nat.strongRecOn with
 |_ m ih=>exact⟨sX m fun k hk=>(ih k hk).2,uL m fun k hk=>(ih k hk).1⟩
theorem ru(s:ByteArray)(hs:s.size<=1000000)(w:World):Calls Tryz.prog 125 #[.string s] w fun e w'=>e=.returned (.int .i64 (cr (some 1) 0 s.data.toList))/\w'=w:=(BG s.size).1 s w (Nat.le_refl _) hs
theorem Aw:(Tryz.prog.info? 154).map (fun i=>(i.zero,i.size))=some (some (.agg (Array.replicate 256 (.bool false))),256):=by kernel_rfl
theorem uM(s:ByteArray)(hs:s.size<=1000000)(r:ab)(hr:Lib.trimS s.data.toList [48,49,50,51,52,53,54,55,56,57]=r)(w:World):Calls Tryz.prog 116 #[.string s,.string ⟨#[48,49,50,51,52,53,54,55,56,57]⟩] w fun e w'=>e=.returned (bs r)/\Below w.heap.size w w':=by
 rw[<- hr]
 exact Any.strings_Trim_laid Tryz.lays160 Aw s ⟨#[48,49,50,51,52,53,54,55,56,57]⟩ w (by omega) (by decide) (ascii_of_all (by decide))
theorem Cf(c:UInt8):(([48,49,50,51,52,53,54,55,56,57]:List UInt8).contains c==bK c)=true:=gM (p:=fun c=>(([48,49,50,51,52,53,54,55,56,57]:List UInt8).contains c==bK c)) (by decide +kernel) c
theorem ql{p:UInt8->Bool}:∀{l:ab} {x:UInt8},x∈l.takeWhile p->p x=true
 | [],x,h=>by cases h
 |a::t,x,h=>by
  rw[List.takeWhile_cons]at h;split at h
  ·rename_i ha
   rcases List.mem_cons.1 h with rfl|h
   ·exact ha
   ·exact ql h
  ·cases h
theorem mw(acc:Nat)(c:UInt8)(r:ab)(h:48<=c.toNat/\c.toNat<=57)(ha:acc<=1000):Lib.parseUint10 acc (c::r)=Lib.parseUint10 (acc*10+(c.toNat-48)) r:=by
 rw[Lib.parseUint10,if_pos h,if_neg (by omega),if_neg (by omega)]
theorem oe(a:UInt8)(r:ab)(n:Nat)(h:a.toNat≠43/\a.toNat≠45)(hm:Lib.parseMag (a::r)=.ok n)(hn:n<=1000):Lib.atoiAll (a::r)=.ok (n:Int):=by
 unfold Lib.atoiAll
 grind
theorem uN(l:ab)(h1:1<=l.length)(h2:l.length<=2)(hd:∀c∈l,bK c=true):∃n:Int,da l=some n/\Lib.atoiAll l=.ok n:=by
 match l,h1,h2 with
 | [a],_,_=>
  have ha:=hd a (by simp);rw[fV]at ha;have ha':=of_decide_eq_true ha;refine⟨(a.toNat:Int)-48,?_,?_⟩
  ·show(if bK a then _ else _)=_
   grind
  ·rw[oe a [] (a.toNat-48) (by omega) (by unfold Lib.parseMag;rw[if_neg (by simp),mw 0 a [] ha' (by omega),Lib.parseUint10];grind) (by omega)]
   grind
 | [a,b],_,_=>
  have ha:=hd a (by simp);have hb:=hd b (by simp);rw[fV]at ha hb;have ha':=of_decide_eq_true ha;have hb':=of_decide_eq_true hb;refine⟨((a.toNat:Int)-48)*10+((b.toNat:Int)-48),?_,?_⟩
  ·show(if bK a&&bK b then _ else _)=_
   grind
  ·rw[oe a [b] ((a.toNat-48)*10+(b.toNat-48)) (by omega) (by unfold Lib.parseMag;rw[if_neg (by simp),mw 0 a [b] ha' (by omega),mw _ b [] hb' (by omega),Lib.parseUint10];grind) (by omega)]
   grind
theorem jt(l:ab)(h:l.length<1\/2<l.length\/∃c∈l,bK c=false):da l=none:=by
 match l,h with
 | [],_=>rfl
 | [a],h=>
  grind[da]
 | [a,b],h=>
  grind[da]
 |a::b::c::t,_=>rfl
theorem uO(s:ByteArray)(hs:s.size<=1000000)(n:Int)(h:Lib.atoiAll s.data.toList=.ok n)(w:World):Calls Tryz.prog 117 #[.string s] w fun e w'=>e=.returned (.tuple #[.int .i64 n,.nilIface])/\Below w.heap.size w w':=
 (Tryz.strconv_Atoi_ok s (by omega) n h w).mono fun e w' ⟨h1,h2⟩=>⟨h1,by
  rcases h2 with rfl|⟨t,rfl⟩
  ·exact Below.refl _ _
  ·exact Lib.bytesWorld_below _ _ _⟩
theorem og(l:ab):(Lib.trimS l [48,49,50,51,52,53,54,55,56,57]=[])↔∀c∈l,bK c=true:=by
 have hd:∀c:UInt8,([48,49,50,51,52,53,54,55,56,57]:List UInt8).contains c=bK c:=fun c=>by grind[Cf]
 have h0:(([48,49,50,51,52,53,54,55,56,57]:List UInt8).contains ·)=bK:=funext hd
 unfold Lib.trimS Lib.trimLeftS Lib.trimRightS
 rw[h0]
 constructor
 ·intro h c hc
  have h1:∀x∈(l.reverse.dropWhile bK).reverse,bK x=true:=by
   intro x hx;have:=List.takeWhile_append_dropWhile (p:=bK) (l:=(l.reverse.dropWhile bK).reverse);grind[ql]
  have h2:=List.takeWhile_append_dropWhile (p:=bK) (l:=l.reverse);have hc':c∈l.reverse:=by grind
  rw[<- h2]at hc';rcases List.mem_append.1 hc' with hc'|hc'
  ·exact ql hc'
  ·grind
 grind[bK,ke]
theorem lS(kd:Int)(tx p:ByteArray)(pv:Value)(fd ln:Int)(hp:p.size<=1000000)(w:World):Calls Tryz.prog 103 #[(.agg #[.int .i64 kd,.string tx,.string p,pv,.int .i64 fd,.int .i64 ln])] w fun e w'=>
  (match da p.data.toList with|some n=>e=.returned (.tuple #[.int .i64 n,.bool true])|none=>e=.returned (.tuple #[.int .i64 0,.bool false]))/\Below w.heap.size w w':=by
 have hpl:=szl p
 by_cases hlen:p.size<1
 ·have hn:da p.data.toList=none:=by
   rw[List.eq_nil_of_length_eq_zero (by omega:p.data.toList.length=0)];rfl
  rw[hn];have q0:(p.size:Int)<1:=by omega
  clear hn hpl;have hL:Kn [] w w []:=Kn.refl [] w;have hF:=hL.fx;go_enter Tryz.func103,Tryz.ntmps103;go_wp2;refine bodyPost_ret (by simp[results,Tryz.results103,go_sem, *];try rfl) rfl ?_;exact⟨rfl,(aV:Kn [] w _ _).below0⟩
 by_cases hlen2:2<p.size
 ·have hn:da p.data.toList=none:=jt _ (.inr (.inl (by omega)))
  rw[hn];have q0:¬(p.size:Int)<1:=by omega
  have q1:(p.size:Int)>2:=by omega
  clear hn hpl;have hL:Kn [] w w []:=Kn.refl [] w;have hF:=hL.fx;go_enter Tryz.func103,Tryz.ntmps103;go_wp2;refine bodyPost_ret (by simp[results,Tryz.results103,go_sem, *];try rfl) rfl ?_;exact⟨rfl,(aV:Kn [] w _ _).below0⟩
 obtain⟨r,hr⟩:∃r,Lib.trimS p.data.toList [48,49,50,51,52,53,54,55,56,57]=r:=⟨_,rfl⟩
 have hTr:Hid (∀W,Calls Tryz.prog 116 #[.string p,.string ⟨#[48,49,50,51,52,53,54,55,56,57]⟩] W fun e w'=>e=.returned (bs r)/\Below W.heap.size W w'):=yh fun W=>uM p hp r hr W
 have hnt:=og p.data.toList
 rw[hr]at hnt
 clear hr
 have q0:¬(p.size:Int)<1:=by omega
 have q1:¬(p.size:Int)>2:=by omega
 cases r with
 |cons c0 tl=>
  have hn:da p.data.toList=none:=jt _ (.inr (.inr (by
   rcases Classical.em (∃c∈p.data.toList,bK c=false)with h|h
   ·exact h
   ·exact absurd (hnt.2 fun c hc=>by
     cases hd:bK c with
     |true=>rfl
     |false=>exact absurd ⟨c,hc,hd⟩ h) (by simp))))
  rw[hn];clear hn hpl hnt;obtain⟨u,hu⟩:∃u:ByteArray,(⟨(c0::tl).toArray⟩:ByteArray)=u:=⟨_,rfl⟩;have q2:u.toList.isEmpty=false:=by rw[Lib.toList_data,<- hu];simp
  have q3:u.data.toList.isEmpty=false:=by rw[<- hu];simp
  unfold bs at hTr;rw[hu]at hTr;clear hu;have hL:Kn [] w w []:=Kn.refl [] w;have hF:=hL.fx;go_enter Tryz.func103,Tryz.ntmps103;go_wp2_with ((go_at_call 116;refine zC (fun W hL=>hTr.out _) ?_;intro W hL hF))
  refine bodyPost_ret (by simp[results,Tryz.results103,go_sem, *];try rfl) rfl ?_;exact⟨rfl,(aV:Kn [] w _ _).below0⟩
 |nil=>
  obtain⟨n,hn,ha⟩:=uN p.data.toList (by omega) (by omega) (hnt.1 rfl);rw[hn];have hA:Hid (∀W,Calls Tryz.prog 117 #[.string p] W fun e w'=>e=.returned (.tuple #[.int .i64 n,.nilIface])/\Below W.heap.size W w'):=yh fun W=>uO p hp n ha W
  clear hn ha hpl hnt;unfold bs at hTr;have hL:Kn [] w w []:=Kn.refl [] w;have hF:=hL.fx;go_enter Tryz.func103,Tryz.ntmps103;go_wp2_with (first|(go_at_call 116;refine zC (fun W hL=>hTr.out _) ?_;intro W hL hF)|(go_at_call 117;refine zC (fun W hL=>hA.out _) ?_;intro W hL hF)|((with_reducible refine af 4 ?_);refine zX [0,1,2,3,4] [] ?_;clear hF hL;intro ι F hne hC hG;(repeat((refine cP ?_;intro K hK;go_big_quiet_op;go_big_quiet_on)));refine zN ?_;clear hC hG;intro W hL hF))
  refine bodyPost_ret (by simp[results,Tryz.results103,go_sem, *];try rfl) rfl ?_;exact⟨rfl,(aV:Kn [] w _ _).below0⟩
theorem Kn.self0{X:List Nat}{w0 W:World}{P:List (Nat×Obj)}(h:Kn X w0 W P):Kn (keys P) W W P:=
 ⟨rfl,rfl,rfl,Nat.le_refl _,fun _ _ _=>rfl,fun p hp=>.inr (List.mem_map.2 ⟨p,hp,rfl⟩),h.has,h.nd⟩
theorem Kn.self1{X:List Nat}{w0 W:World}{a:Nat×Obj}{P:List (Nat×Obj)}(h:Kn X w0 W (a::P)):Kn (keys P) W W P:=(h.sub (List.sublist_cons_self _ _)).self0
theorem Kn.self1q{X:List Nat}{w0 W:World}{a:Nat×Obj}{q:Nat}{o:Obj}{P:List (Nat×Obj)}(h:Kn X w0 W (a::(q,o)::P)):Kn (q::keys P) W W ((q,o)::P):=h.self1
theorem Kn.self0q{X:List Nat}{w0 W:World}{q:Nat}{o:Obj}{P:List (Nat×Obj)}(h:Kn X w0 W ((q,o)::P)):Kn (q::keys P) W W ((q,o)::P):=h.self0
theorem Kn.tail0{X:List Nat}{w0 W W':World}{P P':List (Nat×Obj)}(h:Kn X w0 W P)(k:Kn (keys P) W W' P'):Kn X w0 W' P':=by
 have:=Kn.joinA [] [] (P:=P) (P':=P') (by simpa using h) k
 grind
theorem Kn.tail1{X:List Nat}{w0 W W':World}{a:Nat×Obj}{P P':List (Nat×Obj)}(h:Kn X w0 W (a::P))(k:Kn (keys P) W W' P'):Kn X w0 W' (a::P'):=by
 have:=Kn.joinA [a] [] (P:=P) (P':=P') (by simpa using h) k
 grind
theorem eH{l x r:ab}{a:Nat}(h:l.drop a=x++r):(l.take (a+x.length)).drop a=x/\l.drop (a+x.length)=r/\(x≠[]->a+x.length<=l.length):=by
 have h1:l.drop (a+x.length)=r:=by rw[<- List.drop_drop,h];simp
 refine⟨?_,h1,fun hx=>?_⟩
 ·grind
 ·have:=congrArg List.length h
  rw[List.length_drop,List.length_append]at this;have:0<x.length:=List.length_pos_iff.2 hx;omega
theorem bm(src:ByteArray)(at_:Nat)(x r:ab)(ln:Nat)(v:Value)(b:Nat)(w:World)(hb:w.heap[b]? =some (.cells #[.string src,.int .i64 (at_),.int .i64 (ln),v] 111 (0,0)))(hx:src.data.toList.drop at_=x++r)(hne:x≠[])(hs:src.size<=100000)(hln:ln<=500000)(k:Int)(hk:k=x.length):
  Calls Tryz.prog 80 #[.pointer (some ⟨b,0,none⟩),.int .i64 k] w fun e w'=>e=.returned (.tuple #[])/\Kn [b] w w' [(b,.cells #[.string src,.int .i64 (((at_+x.length:Nat):Int)),.int .i64 (((ln+lf x:Nat):Int)),v] 111 (0,0))]:=by
 subst hk
 obtain⟨h1,h2,h3⟩:=eH hx
 have h4:=h3 hne
 rw[szl]at h4
 have h5:lf x<=x.length:=List.count_le_length
 have:=xt src at_ x.length ln v b w hb h4 hs (by omega) (by omega) (lf x) (by omega) (by omega) (by rw[h1];rfl)
 grind
theorem iZ(b:Nat)(m:Nat)(w:World):Calls Tryz.prog 112 #[.pointer (some ⟨b,0,none⟩),.int .i64 m] w fun e w'=>e=.panicked [{v:=.iface 107 (.agg #[.int .i64 27,.int .i64 m]),recovered:=false}]/\w'=w:=by
 go_enter Tryz.func112,Tryz.ntmps112
 go_wp2
 exact⟨rfl,rfl,rfl⟩
def gW(src:ByteArray)(v:Value)(b q:Nat)(X:List Nat)(w:World)(res:R St)(e:Ending)(w':World):Prop:=match res with
 |.ok (ps',r,n')=>e=.returned (.tuple #[])/\∃(at_:Nat) (pv:Value) (LP:List (Nat×Obj)),at_<=src.size/\src.data.toList.drop at_=r/\PtL LP pv ps'/\Kn X w w' ((b,.cells #[.string src,.int .i64 (at_),.int .i64 (n'),v] 111 (0,0))::(q,.cells #[pv] 135 (0,0))::LP)
 |.bad m=>e=.panicked [{v:=.iface 107 (.agg #[.int .i64 27,.int .i64 m]),recovered:=false}]/\Kn X w w' []
theorem cu{l:ab}{a:Nat}{c:UInt8}{t:ab}(h:l.drop a=c::t):l[a]? =some c/\l.drop (a+1)=t/\a<l.length:=by
 have h1:l[a]? =some c:=by have:=congrArg (·[0]?) h;grind
 refine⟨h1,by rw[<- List.drop_drop,h];rfl,(List.getElem?_eq_some_iff.1 h1).1⟩
theorem uP:∀l:ab,named l=l.length->lf l=0
 | [],_=>rfl
 |c::t,h=>by
  have hT:∀l:ab,bR l=l.length->lf l=0:=by
   intro l;induction l with
   |nil=>intro _;rfl
   |cons d u ih=>
    intro h;rw[bR]at h;split at h
    ·rename_i ha
     have hd:d≠10:=by rintro rfl;exact absurd ha (by decide)
     simp only[List.length_cons]at h;have:=ih (by omega);show List.count 10 (d::u)=0
     rw[List.count_cons_of_ne hd];exact this
    grind
  rw[named]at h;split at h
  ·rename_i ha
   have hd:c≠10:=by rintro rfl;exact absurd ha (by decide)
   simp only[List.length_cons]at h;have:=hT t (by omega);show List.count 10 (c::t)=0
   rw[List.count_cons_of_ne hd];exact this
  grind
theorem oh{l:ab}(h:bw l=l.length):lf l=0:=by
 unfold bw at h
 split at h
 ·grind[uP]
 ·split at h
  ·rfl
  ·rename_i c t hx
   split at h
   ·rename_i hs
    simp only[List.length_cons]at h;obtain rfl:t=[]:=List.eq_nil_of_length_eq_zero (by omega);have hd:c≠10:=by rintro rfl;exact absurd hs (by decide)
    show List.count 10 [c]=0
    grind
   grind
theorem hp1(l:ab)(c:UInt8):Lib.hasPrefix l [c]=decide (l.head? =some c):=by
 cases l with
 |nil=>rfl
 |cons a t=>
  simp only[Lib.hasPrefix,List.isPrefixOf,List.head?_cons,Option.some.injEq,Bool.and_true];grind
theorem qm(src:ByteArray)(hs:src.size<=100000)(v:Value)(b q:Nat)(at_ ln:Nat)(pv:Value)(LP:List (Nat×Obj))(ps:List Prt)(w:World)(hL:Kn (b::q::keys LP) w w ((b,.cells #[.string src,.int .i64 (at_),.int .i64 (ln),v] 111 (0,0))::(q,.cells #[pv] 135 (0,0))::LP))(hP:PtL LP pv ps)(hln:ln<=100000)(hn:ps.length<=50000)(ht:tot ps<=500000)(qd:Bool)(s t:ab)(hd:src.data.toList.drop at_=36::40::t):
  Calls Tryz.prog 115 #[.pointer (some ⟨b,0,none⟩),.pointer (some ⟨q,0,none⟩),.bool qd] w (gW src v b q (b::q::keys LP) w (aH ps (40::t) ln qd)):=by
 obtain⟨i0,hi,hz0,hz1,hz2⟩:=bu iY
 obtain⟨h1,h2,h3⟩:=cu hd
 obtain⟨h4,h5,h6⟩:=cu h2
 have hsl:=szl src
 obtain⟨u,hu⟩:∃u,src.extract (at_+1) src.size=u:=⟨_,rfl⟩
 have hul:u.data.toList=40::t:=by rw[<- hu,bj,List.take_of_length_le (by omega),h2]
 have hus:u.size+(at_+1)=src.size:=by
  have:u.size=src.size-(at_+1):=by rw[<- szl,hul,<- h2,List.length_drop,szl]
  omega
 obtain⟨u2,hu2⟩:∃u2,u.extract 1 u.size=u2:=⟨_,rfl⟩
 have hul2:u2.data.toList=t:=by rw[<- hu2,bj,List.take_of_length_le (by rw[szl];omega),hul];rfl
 have hus2:u2.size+1=u.size:=by rw[<- szl,<- szl u,hul2,hul];rfl
 have hP1:Hid (∀W,Calls Tryz.prog 101 #[.string u,.string ⟨#[40]⟩] W fun e w'=>e=.returned (.bool true)/\w'=W):=yh fun W=>by
  have:=Tryz.strings_HasPrefix u ⟨#[40]⟩ W;rw[show Lib.hasPrefix u.data.toList [40]=true by rw[hul,hp1];rfl]at this;exact this
 have hds:aH ps (40::t) ln qd=match dF t with
  |none=>.bad ln
  |some (a,r)=>.ok (ps++[⟨2,a,qd⟩],r,ln+lf a):=by unfold aH;rw[if_pos (by rfl)];rfl
 rw[hds]
 rcases sT t with⟨hp1,hp2⟩|⟨a,r,hp1,hp2,hp3,hp4,hp5⟩
 ·rw[hp1]
  have hC:Hid (∀W,Calls Tryz.prog 125 #[.string u2] W fun e w'=>e=.returned (.int .i64 (-1))/\w'=W):=yh fun W=>by
   have:=ru u2 (by omega) W;rw[hul2,hp2]at this;exact this
  clear hds h1 h2 h4 h5 hd hul hul2 hp1 hp2;have hF:=hL.fx;go_enter Tryz.func115,Tryz.ntmps115;go_wp2_with (first|(go_at_call 101;(with_reducible refine(hP1.out _).mono ?_);rintro e w' ⟨rfl,rfl⟩)|(go_at_call 125;(with_reducible refine(hC.out _).mono ?_);rintro e w' ⟨rfl,rfl⟩)|((with_reducible refine af 0 ?_);refine zQ ?_;clear hF hL;intro ι F hne hG;(repeat go_big_quiet_step (fail));refine wpQuiet_nil ?_;clear hG;intro W hL hF)|(go_at_call 112;(with_reducible refine zM (fun W hL=>iZ b ln _) ?_);rintro W hL e W ⟨rfl,rfl⟩))
  exact⟨rfl,rfl,hL.sub sN⟩
 ·rw[hp1]
  have hC:Hid (∀W,Calls Tryz.prog 125 #[.string u2] W fun e w'=>e=.returned (.int .i64 (a.length:Int))/\w'=W):=yh fun W=>by
   have:=ru u2 (by omega) W;rw[hul2,hp2]at this;exact this
  have hal:a.length<u2.size:=by rw[<- szl,hul2];exact hp3
  obtain⟨u3,hu3⟩:∃u3,u.extract 1 (1+a.length)=u3:=⟨_,rfl⟩;have hul3:u3.data.toList=a:=by rw[<- hu3,bj,hul,List.drop_take];simp[<- hp4]
  have hxx:src.data.toList.drop at_=(36::40::(a++[41]))++r:=by
   have:=d8 _ _ _ _ _ hp1;rw[hd,this];simp[fL]
  have HX:=yh hxx;have hlf:lf (36::40::(a++[41]))=lf a:=by simp[lf,List.count_cons,List.count_append]
  have hxl:(36::40::(a++[41]):ab).length=a.length+3:=by simp
  obtain⟨hc1,hc2,hc3⟩:=eH hxx;have hc4:=hc3 (by simp);have HL:=yh hlf;have HC:=yh hc2;clear hds h1 h2 h4 h5 hd hul hul2 hp1 hp2 hp4 hp5 hxx hlf hc1 hc2 hc3;have hal0:¬(a.length:Int)<0:=by omega
  have r1:IntKind.i64.wrap (1+(a.length:Int))=1+(a.length:Int):=by rw[IntWalk.i64_in _ (by omega)]
  have r2:(1+(a.length:Int)).toNat=1+a.length:=by omega
  have r3:(1:Int)<=1+(a.length:Int):=by omega
  have r4:1+(a.length:Int)<=u.size:=by omega
  have r5:(0:Int)<=1+(a.length:Int):=by omega
  rcases hP with⟨rfl,rfl,rfl⟩|⟨g,cap,cur,rfl,rfl,hr⟩
  ·have hF:=hL.fx
   go_enter Tryz.func115,Tryz.ntmps115;go_wp2_with (first|(with_reducible refine zS ?_;intro W hL hF)|(go_at_call 101;(with_reducible refine(hP1.out _).mono ?_);rintro e w' ⟨rfl,rfl⟩)|(go_at_call 125;(with_reducible refine(hC.out _).mono ?_);rintro e w' ⟨rfl,rfl⟩)|((with_reducible refine af 0 ?_);refine zQ ?_;clear hF hL;intro ι F hne hG;(repeat go_big_quiet_step (fail));refine wpQuiet_nil ?_;clear hG;intro W hL hF)|((with_reducible refine af 7 ?_);refine zX [0,1,2,3,4,5,6,7,8,9,10,11,12,13] [11,13] ?_;clear hF hL;intro ι F hne hC hG;(repeat(first|((first|refine cF hC ?_|refine cP ?_);intro K hK;go_big_quiet_op;go_big_quiet_on)|(refine cM ?_;intro W hL hF;at_builtin;refine bJ rfl _ _ 135 rfl 118 i0 _ Tryz.underlying135 hi hz0 (by rw[hz1];rfl) (by rw[hz1];decide) hL rfl _ _ _ (ptc ⟨2,u3.data.toList,qd⟩) rfl (by rw[hz1];rfl) (fun j u hu=>by rw[Go.WideShapes.add_plain,Nat.zero_add,World.cell?,hL.has _ m0];simpa[ptc,cR]using hu) (dc _) (by unfold maxLen;omega) (by rw[hz2];omega) (by omega) ?_;intro g2 cap2 cur2 W2 hL2 hg2 hr2;clear hL hF;have hL:=hL2;clear hL2;have hF:=hL.fx;go_wp2;refine zB2 ?_;clear hL hF hC hG;intro ι F hne hC hG)|(refine cM ?_;intro W hL hF;go_wp2;(first|(refine zB2 ?_;clear hL hF hC hG;intro ι F hne hC hG)|(refine zO2 ?_;clear hL hF)))));refine zN ?_;clear hC hG;intro W hL hF)|(go_at_call 80;(with_reducible refine zM (fun W hL=>bm src at_ (36::40::(a++[41])) r ln v b _ hL.h2 HX.out (by simp) hs (by omega) _ (by(simp;omega))) ?_);rintro W hL e W ⟨rfl,hb⟩;replace hL:=hL.jn 2 hb;clear hb;have hF:=hL.fx))
   rw[HL.out]at hL;go_end0
   rw[hz1]at hr2;rw[hul3]at hr2;refine⟨rfl,at_+((36::40::(a++[41]))).length,.slice (some ⟨g2,0,none⟩) (1) cap2,[(g2,.cells cur2 118 (0,0))],by rw[szl]at hc4;exact hc4,HC.out,.inr ⟨g2,cap2,cur2,rfl,by simp,by simpa using hr2⟩,hL.pick (by simp) ?_⟩;have:=hL.nd;(simp at this |-);grind
  ·have hF:=hL.fx
   go_enter Tryz.func115,Tryz.ntmps115;go_wp2_with (first|(with_reducible refine zS ?_;intro W hL hF)|(go_at_call 101;(with_reducible refine(hP1.out _).mono ?_);rintro e w' ⟨rfl,rfl⟩)|(go_at_call 125;(with_reducible refine(hC.out _).mono ?_);rintro e w' ⟨rfl,rfl⟩)|((with_reducible refine af 0 ?_);refine zQ ?_;clear hF hL;intro ι F hne hG;(repeat go_big_quiet_step (fail));refine wpQuiet_nil ?_;clear hG;intro W hL hF)|((with_reducible refine af 7 ?_);refine zX [0,1,2,3,4,5,6,7,8,9,10,11,12,13] [11,13] ?_ (sC (sC (sD sR)));clear hF hL;intro ι F hne hC hG;(repeat(first|((first|refine cF hC ?_|refine cP ?_);intro K hK;go_big_quiet_op;go_big_quiet_on)|(refine cM ?_;intro W hL hF;at_builtin;refine bg rfl _ _ 135 rfl 118 i0 _ Tryz.underlying135 hi hz0 (by rw[hz1];rfl) (by rw[hz1];decide) hL 3 _ _ _ _ _ rfl (by rw[hz1];exact hr) rfl _ _ _ (ptc ⟨2,u3.data.toList,qd⟩) rfl (by rw[hz1];rfl) (fun j u hu=>by rw[Go.WideShapes.add_plain,Nat.zero_add,World.cell?,hL.has _ m0];simpa[ptc,cR]using hu) (dc _) (by unfold maxLen;omega) (by rw[hz2];omega) (by omega) ?_;intro g2 cap2 cur2 W2 hL2 hr2;clear hL hF;have hL:=hL2;clear hL2;simp only[List.eraseIdx_cons_zero,List.eraseIdx_cons_succ]at hL;have hF:=hL.fx;go_wp2;refine zB2 ?_;clear hL hF hC hG;intro ι F hne hC hG)|(refine cM ?_;intro W hL hF;go_wp2;refine ai ?_;(first|(refine bO _ (by rfl) ?_;clear hL hF hC hG;intro ι F hne hC hFF;have hG:=fun n=>(hFF n).fx;clear hFF)|(refine a_ _ (by repeat' (first|(with_reducible exact List.Sublist.refl _)|(with_reducible apply List.Sublist.cons_cons)|(with_reducible apply List.Sublist.cons))) ?_;clear hL hF)))));refine zN ?_;clear hC hG;intro W hL hF)|(go_at_call 80;(with_reducible refine zM (fun W hL=>bm src at_ (36::40::(a++[41])) r ln v b _ hL.h2 HX.out (by simp) hs (by omega) _ (by(simp;omega))) ?_);rintro W hL e W ⟨rfl,hb⟩;replace hL:=hL.jn 2 hb;clear hb;have hF:=hL.fx))
   rw[HL.out]at hL;go_end0
   rw[hz1]at hr2;rw[hul3]at hr2;refine⟨rfl,at_+((36::40::(a++[41]))).length,.slice (some ⟨g2,0,none⟩) (ps.length+1) cap2,[(g2,.cells cur2 118 (0,0))],by rw[szl]at hc4;exact hc4,HC.out,.inr ⟨g2,cap2,cur2,rfl,by simp,by simpa using hr2⟩,hL.pick (by simp) ?_⟩;have:=hL.nd;(simp at this |-);grind
end
end Go.Proofs.YtgboffbbpmileaaGreatDoor
