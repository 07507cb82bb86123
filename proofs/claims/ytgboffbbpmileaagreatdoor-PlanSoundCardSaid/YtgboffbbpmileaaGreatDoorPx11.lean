/- Lemmas and walks for the law VLawPSound (part 11). -/
import Derived.Test.YtgboffbbpmileaaGreatDoorPx10
set_option maxRecDepth 20000
set_option maxHeartbeats 4000000
set_option linter.unusedVariables false
set_option linter.unusedSimpArgs false
namespace Go.Proofs.YtgboffbbpmileaaGreatDoor
open Go Go.RowKit
section
structure Tg where
 s:ab:=[]
 a:Int:=0
 b:Nat:=0
mutual
inductive Wd where
 |nil
 |lit (p:Prt) (r:Wd)
 |sub (p:Prt) (t:Tr) (r:Wd)
 |bad (p:Prt) (f:Bool) (r:Wd)
inductive Ws where
 |nil
 |cons (g:Tg) (w:Wd) (r:Ws)
inductive Tr where
 |simple (a w r:Ws)
 |pipe (neg:Bool) (l:Ts)
 |ao (or:Bool) (x y:Tr)
 |lst (l:Ts)
 |back (x:Tr)
 |sub (x:Tr) (r:Ws)
 |grp (x:Tr) (r:Ws)
 |iff (c t:Tr) (r:Ws)
 |ife (c t e:Tr) (r:Ws)
 |loop (u:Bool) (c b:Tr) (r:Ws)
 |for_ (n:ab) (w:Ws) (b:Tr) (r:Ws)
 |case_ (w:Wd) (l:Am) (r:Ws)
 |fn (n:ab) (b:Tr)
inductive Ts where
 |nil
 |cons (x:Tr) (r:Ts)
inductive Am where
 |nil
 |cons (w:Ws) (b:Tr) (r:Am)
end
def Wd.ps:Wd->List Prt
 |.nil=>[]
 |.lit p r=>p::r.ps
 |.sub p _ r=>p::r.ps
 |.bad p _ r=>p::r.ps
def Ws.ws:Ws->List (List Prt)
 |.nil=>[]
 |.cons _ w r=>w.ps::r.ws
def Ws.as:Ws->List (ab×List Prt)
 |.nil=>[]
 |.cons g w r=>(g.s,w.ps)::r.as
def Ws.rs:Ws->List (Int×Nat×List Prt)
 |.nil=>[]
 |.cons g w r=>(g.a,g.b,w.ps)::r.rs
mutual
def Tr.nd:Tr->Nd
 |.simple a w r=>.mk 0 [] false a.as w.ws r.rs []
 |.pipe g l=>.mk 1 [] g [] [] [] l.nds
 |.ao o x y=>.mk (if o then 3 else 2) [] false [] [] [] [x.nd,y.nd]
 |.lst l=>.mk 4 [] false [] [] [] l.nds
 |.back x=>.mk 5 [] false [] [] [] [x.nd]
 |.sub x r=>.mk 6 [] false [] [] r.rs [x.nd]
 |.grp x r=>.mk 7 [] false [] [] r.rs [x.nd]
 |.iff c t r=>.mk 8 [] false [] [] r.rs [c.nd,t.nd]
 |.ife c t e r=>.mk 8 [] false [] [] r.rs [c.nd,t.nd,e.nd]
 |.loop u c b r=>.mk (if u then 10 else 9) [] false [] [] r.rs [c.nd,b.nd]
 |.for_ n w b r=>.mk 11 n false [] w.ws r.rs [b.nd]
 |.case_ w l r=>.mk 12 [] false [] [w.ps] r.rs l.nds
 |.fn n b=>.mk 14 n false [] [] [] [b.nd]
def Ts.nds:Ts->List Nd
 |.nil=>[]
 |.cons x r=>x.nd::r.nds
def Am.nds:Am->List Nd
 |.nil=>[]
 |.cons w b r=>.mk 13 [] false [] w.ws [] [b.nd]::r.nds
end
def Tr.lst1:Tr->Prop
 |.lst (.cons _ _)=>True
 |_=>False
mutual
def Wd.ok:Wd->Prop
 |.nil=>True
 |.lit p r=>p.k≠2/\r.ok
 |.sub p t r=>p.k=2/\(∃l,aH p.t=.ok l/\t.nd=.mk 4 [] false [] [] [] l/\∃ts,t=.lst ts)/\t.ok/\r.ok
 |.bad p f r=>p.k=2/\(∃m,aH p.t=.err f m)/\r.ok
def Ws.ok:Ws->Prop
 |.nil=>True
 |.cons _ w r=>w.ok/\r.ok
def Tr.ok:Tr->Prop
 |.simple a w r=>a.ok/\w.ok/\r.ok
 |.pipe _ l=>l.ok/\l.nds≠[]
 |.ao _ x y=>x.ok/\y.ok
 |.lst l=>l.ok
 |.back x=>x.ok
 |.sub x r=>x.ok/\r.ok
 |.grp x r=>x.ok/\r.ok
 |.iff c t r=>c.ok/\t.ok/\r.ok
 |.ife c t e r=>c.ok/\t.ok/\e.ok/\r.ok
 |.loop _ c b r=>(c.ok/\c.lst1)/\b.ok/\r.ok
 |.for_ _ w b r=>w.ok/\b.ok/\r.ok
 |.case_ w l r=>w.ok/\l.ok/\r.ok
 |.fn _ b=>b.ok
def Ts.ok:Ts->Prop
 |.nil=>True
 |.cons x r=>x.ok/\r.ok
def Am.ok:Am->Prop
 |.nil=>True
 |.cons w b r=>w.ok/\b.ok/\r.ok
end
def fF(L:Nat):Prop:=∀t:ab,t.length<L->(∃f m,aH t=.err f m)\/∃l,aH t=.ok l/\∃ts:Ts,ts.nds=l/\ts.ok
def PsOK(L:Nat)(ps:List Prt):Prop:=∀p∈ps,p.k=2->p.t.length<L
def TkOK(L:Nat)(ts:List Tok):Prop:=∀t∈ts,PsOK L t.parts
theorem TkOK.suf{L:Nat}{ts r:List Tok}(h:TkOK L ts)(hs:r <:+ ts):TkOK L r:=fun t ht=>h t (hs.subset ht)
theorem TkOK.hd{L:Nat}{t:Tok}{r:List Tok}(h:TkOK L (t::r)):PsOK L t.parts:=h t List.mem_cons_self
theorem TkOK.tl{L:Nat}{t:Tok}{r:List Tok}(h:TkOK L (t::r)):TkOK L r:=fun x hx=>h x (List.mem_cons_of_mem _ hx)
section
variable {L:Nat} (HS:fF L)
theorem nF(HS:fF L):∀ps:List Prt,PsOK L ps->∃w:Wd,w.ps=ps/\w.ok
 | [],_=>⟨.nil,rfl,by simp only[Wd.ok]⟩
 |p::ps,h=>by
  obtain⟨w,h1,h2⟩:=nF HS ps (fun q hq=>h q (List.mem_cons_of_mem _ hq));by_cases hk:p.k=2
  ·rcases HS p.t (h p List.mem_cons_self hk)with⟨f,m,he⟩|⟨l,he,ts,h3,h4⟩
   ·exact⟨.bad p f w,by grind[Wd.ps],by grind[Wd.ok]⟩
   ·exact⟨.sub p (.lst ts) w,by grind[Wd.ps],by grind[Wd.ok,Tr.ok,Tr.nd]⟩
  ·exact⟨.lit p w,by grind[Wd.ps],by grind[Wd.ok]⟩
theorem qj(HS:fF L):∀l:List (List Prt),(∀ps∈l,PsOK L ps)->∃w:Ws,w.ws=l/\w.ok
 | [],_=>⟨.nil,rfl,by simp only[Ws.ok]⟩
 |ps::l,h=>by
  obtain⟨w,h1,h2⟩:=qj HS l (fun q hq=>h q (List.mem_cons_of_mem _ hq));obtain⟨x,h3,h4⟩:=nF HS ps (h ps List.mem_cons_self);exact⟨.cons {} x w,by grind[Ws.ws],by grind[Ws.ok]⟩
theorem xN(HS:fF L):∀l:List (ab×List Prt),(∀x∈l,PsOK L x.2)->∃w:Ws,w.as=l/\w.ok
 | [],_=>⟨.nil,rfl,by simp only[Ws.ok]⟩
 |x::l,h=>by
  obtain⟨w,h1,h2⟩:=xN HS l (fun q hq=>h q (List.mem_cons_of_mem _ hq));obtain⟨y,h3,h4⟩:=nF HS x.2 (h x List.mem_cons_self);exact⟨.cons ⟨x.1,0,0⟩ y w,by grind[Ws.as],by grind[Ws.ok]⟩
theorem ue(HS:fF L):∀l:List (Int×Nat×List Prt),(∀x∈l,PsOK L x.2.2)->∃w:Ws,w.rs=l/\w.ok
 | [],_=>⟨.nil,rfl,by simp only[Ws.ok]⟩
 |x::l,h=>by
  obtain⟨w,h1,h2⟩:=ue HS l (fun q hq=>h q (List.mem_cons_of_mem _ hq));obtain⟨y,h3,h4⟩:=nF HS x.2.2 (h x List.mem_cons_self);exact⟨.cons ⟨[],x.1,x.2.1⟩ y w,by grind[Ws.rs],by grind[Ws.ok]⟩
def Gd(n:Nd):Prop:=∃x:Tr,x.nd=n/\x.ok
def Gl(n:Nd):Prop:=∃l:Ts,(Tr.lst l).nd=n/\l.ok
def Gs(n:Nd):Prop:=∃x r,(Tr.lst (.cons x r)).nd=n/\(Ts.cons x r).ok
def Gb(n:Nd):Prop:=n.rs=[]/\∃F:Ws->Tr,∀r:Ws,r.ok->(F r).nd=n.setRs r.rs/\(F r).ok
theorem Gs.gd{n:Nd}(h:Gs n):Gd n:=by obtain⟨x,r,h1,h2⟩:=h;exact⟨_,h1,by grind[Tr.ok]⟩
theorem Gl.gd{n:Nd}(h:Gl n):Gd n:=by obtain⟨l,h1,h2⟩:=h;exact⟨_,h1,by grind[Tr.ok]⟩
theorem Gb.gd{n:Nd}(h:Gb n):Gd n:=by
 obtain⟨h1,F,h2⟩:=h
 obtain⟨h3,h4⟩:=h2 .nil (by simp only[Ws.ok])
 refine⟨_,?_,h4⟩
 rw[h3]
 cases n
 simp only[Nd.rs]at h1
 subst h1
 rfl
def Gp(Q:Nd->Prop)(P:Pa Nd):Prop:=∀ts,TkOK L ts->∀a r,P ts=.ok a r->Q a/\TkOK L r
theorem lT{ts:List Tok}(ht:TkOK L ts){ps:List Prt}{r:List Tok}(h:bS ts=.ok ps r):PsOK L ps/\TkOK L r:=by
 cases ts with
 |nil=>cases h
 |cons t u=>
  simp only[bS]at h;split at h
  ·injection h with h1 h2
   subst h1 h2;exact⟨ht.hd,ht.tl⟩
  ·cases h
theorem dW{s:ab}{ts:List Tok}(ht:TkOK L ts){u:Unit}{r:List Tok}(h:aX s ts=.ok u r):TkOK L r:=by
 unfold aX at h
 split at h
 ·injection h with h1 h2
  rw[<- h2];exact ht.suf (am ts)
 ·cases h
theorem nG{Q:Nd->Prop}{cmd:Pa Nd}(h:Gp (L:=L) Q cmd):∀(f:Nat) (l:List Nd) (ts:List Tok),TkOK L ts->(∀n∈l,Q n)->∀a r,dy cmd f l ts=.ok a r->(∀n∈a,Q n)/\TkOK L r/\l.length<=a.length
 |0,l,ts,ht,hl,a,r,e=>by cases e;grind
 |f+1,l,ts,ht,hl,a,r,e=>by
  unfold dy at e;split at e
  ·obtain⟨x,s,h1,h2⟩:=ag e
   obtain⟨h3,h4⟩:=h _ (ht.suf ((aq _).trans (am ts))) _ _ h1;obtain⟨h5,h6,h7⟩:=nG h f _ s h4 (fun n hn=>by grind) a r h2;grind
  grind
theorem qk:∀l:List Nd,(∀n∈l,Gd n)->∃ts:Ts,ts.nds=l/\ts.ok
 | [],_=>⟨.nil,rfl,by simp only[Ts.ok]⟩
 |n::l,h=>by
  obtain⟨ts,h1,h2⟩:=qk l (fun q hq=>h q (List.mem_cons_of_mem _ hq));obtain⟨x,h3,h4⟩:=h n List.mem_cons_self;exact⟨.cons x ts,by grind[Ts.nds],by grind[Ts.ok]⟩
theorem ql{cmd:Pa Nd}(h:Gp (L:=L) Gd cmd):Gp (L:=L) Gd (pipe cmd):=fun ts ht a r e=>by
 obtain⟨x,s,h1,h2⟩:=ag e
 obtain⟨h3,h4⟩:=h _ (by split;exact ht.suf (am ts);exact ht) _ _ h1
 obtain⟨l,s2,h5,h6⟩:=ag h2
 obtain⟨h7,h8,h9⟩:=nG h _ _ s h4 (fun n hn=>by grind) _ _ h5
 injection h6 with h6 h10
 subst h6 h10
 obtain⟨tl,h11,h12⟩:=qk l h7
 refine⟨⟨.pipe (bP [[33]] ts) tl,by grind[Tr.nd],?_⟩,h8⟩
 grind[Tr.ok]
theorem nH{pi:Pa Nd}(h:Gp (L:=L) Gd pi):∀(f:Nat) (n:Nd) (ts:List Tok),TkOK L ts->Gd n->∀a r,dx pi f n ts=.ok a r->Gd a/\TkOK L r
 |0,n,ts,ht,hn,a,r,e=>by cases e;grind
 |f+1,n,ts,ht,hn,a,r,e=>by
  unfold dx at e;split at e
  ·obtain⟨x,s,h1,h2⟩:=ag e
   obtain⟨h3,h4⟩:=h _ (ht.suf ((aq _).trans (am ts))) _ _ h1;refine nH h f _ s h4 ?_ a r h2;obtain⟨y,h5,h6⟩:=hn;obtain⟨z,h7,h8⟩:=h3;exact⟨.ao (aR [124,124] ts) y z,by grind[Tr.nd],by grind[Tr.ok]⟩
  grind
theorem qm{pi:Pa Nd}(h:Gp (L:=L) Gd pi):Gp (L:=L) Gd (item pi):=fun ts ht a r e=>by
 obtain⟨x,s,h1,h2⟩:=ag e
 obtain⟨h3,h4⟩:=h _ ht _ _ h1
 grind[nH]
theorem wG{ts:List Tok}{n:Nd}(h:Gd n):Gd (back ts n):=by
 unfold back
 split
 ·obtain⟨y,h5,h6⟩:=h
  exact⟨.back y,by grind[Tr.nd],by grind[Tr.ok]⟩
 ·exact h
theorem j7{it:Pa Nd}(h:Gp (L:=L) Gd it):∀(f:Nat) (l:List Nd) (ts:List Tok),TkOK L ts->(∀n∈l,Gd n)->∀a r,ci it f l ts=.ok a r->(∀n∈a,Gd n)/\TkOK L r
 |0,l,ts,ht,hl,a,r,e=>by cases e;grind
 |f+1,l,ts,ht,hl,a,r,e=>by
  unfold ci at e;split at e
  ·cases e;exact⟨hl,ht.suf (aq ts)⟩
  ·obtain⟨x,s,h1,h2⟩:=ag e
   obtain⟨h3,h4⟩:=h _ (ht.suf (aq ts)) _ _ h1;have h5:∀n∈l++[back s x],Gd n:=fun n hn=>by grind[wG]
   split at h2
   ·exact j7 h f _ _ (h4.suf (am s)) h5 a r h2
   ·grind
theorem qn{cmd:Pa Nd}(h:Gp (L:=L) Gd cmd):Gp (L:=L) Gl (cK cmd):=fun ts ht a r e=>by
 obtain⟨l,s,h1,h2⟩:=ag e
 obtain⟨h3,h4⟩:=j7 (qm (ql h)) _ _ ts ht (fun n hn=>by cases hn) _ _ h1
 injection h2 with h2 h5
 subst h2 h5
 obtain⟨ts,h6,h7⟩:=qk l h3
 exact⟨⟨ts,by grind[Tr.nd],h7⟩,h4⟩
theorem lU{cmd:Pa Nd}(h:Gp (L:=L) Gd cmd):Gp (L:=L) Gs (eD cmd):=fun ts ht a r e=>by
 obtain⟨n,s,h1,h2⟩:=ag e
 obtain⟨⟨l,h3,h4⟩,h5⟩:=qn h ts ht _ _ h1
 split at h2
 ·cases h2
 ·rename_i hk
  injection h2 with h2 h6
  subst h2 h6
  cases l with
  |nil=>rw[<- h3]at hk;exact absurd rfl hk
  |cons x r=>exact⟨⟨x,r,h3,h4⟩,h5⟩
theorem kX{so:Pa Nd}(h:Gp (L:=L) Gs so)(k:Nat)(hk:k=6\/k=7)(c:ab):Gp (L:=L) Gb (closed so k c):=fun ts ht a r e=>by
 obtain⟨x,s,h1,h2⟩:=ag e
 obtain⟨h3,h4⟩:=h _ ht _ _ h1
 obtain⟨u,s2,h5,h6⟩:=ag h2
 injection h6 with h6 h7
 subst h6 h7
 obtain⟨y,h8,h9⟩:=h3.gd
 refine⟨⟨rfl,?_⟩,dW h4 h5⟩
 rcases hk with rfl|rfl
 ·exact⟨fun r=>.sub y r,fun r hr=>⟨by simp only[Tr.nd,h8];rfl,by grind[Tr.ok]⟩⟩
 ·exact⟨fun r=>.grp y r,fun r hr=>⟨by simp only[Tr.nd,h8];rfl,by grind[Tr.ok]⟩⟩
theorem wH{n:Nd}(h:Gs n):∃x:Tr,x.nd=n/\x.ok/\x.lst1:=by
 obtain⟨x,r,h1,h2⟩:=h
 exact⟨_,h1,by grind[Tr.ok],trivial⟩
theorem j8{so:Pa Nd}(h:Gp (L:=L) Gs so){k:Nat}{c:ab}{e:Option ab}{ts:List Tok}(ht:TkOK L ts){n:Nd}{r:List Tok}(hh:aY so k c e ts=.ok n r):∃a b,n=.mk k [] false [] [] [] [a,b]/\Gs a/\Gs b/\TkOK L r:=by
 obtain⟨a,s,h1,h2⟩:=ag hh
 obtain⟨h3,h4⟩:=h _ ht _ _ h1
 obtain⟨u,s2,h5,h6⟩:=ag h2
 obtain⟨b,s3,h7,h8⟩:=ag h6
 obtain⟨h9,h10⟩:=h _ (dW h4 h5) _ _ h7
 cases e with
 |none=>grind
 |some c2=>
  obtain⟨u,s4,h11,h12⟩:=ag h8;grind[dW]
theorem nI{so:Pa Nd}(h:Gp (L:=L) Gs so)(u:Bool)(c e:ab):Gp (L:=L) Gb (aY so (if u then 10 else 9) c (some e)):=fun ts ht n r hh=>by
 obtain⟨a,b,rfl,h1,h2,h3⟩:=j8 h ht hh
 obtain⟨x,h4,h5,h6⟩:=wH h1
 obtain⟨y,h7,h8⟩:=h2.gd
 exact⟨⟨rfl,fun r=>.loop u x y r,fun r hr=>⟨by simp only[Tr.nd,h4,h7];rfl,by grind[Tr.ok]⟩⟩,h3⟩
theorem iW:∀ts:List Tok,TkOK L ts->(∀ps∈(aI ts).1,PsOK L ps)/\TkOK L (aI ts).2
 | [],h=>by grind[aI]
 |t::r,h=>by
  unfold aI;split
  ·obtain⟨h1,h2⟩:=iW r h.tl
   exact⟨fun ps hp=>by rcases List.mem_cons.1 hp with rfl|hp;exact h.hd;grind,h2⟩
  grind
theorem j9(HS:fF L){so:Pa Nd}(h:Gp (L:=L) Gs so){n:ab}{ws:List (List Prt)}(hw:∀ps∈ws,PsOK L ps){ts:List Tok}(ht:TkOK L ts){a:Nd}{r:List Tok}(hh:dk so n ws ts=.ok a r):Gb a/\TkOK L r:=by
 obtain⟨u,s,h1,h2⟩:=ag hh
 obtain⟨b,s2,h3,h4⟩:=ag h2
 obtain⟨u2,s3,h5,h6⟩:=ag h4
 obtain⟨h7,h8⟩:=h _ (dW (ht.suf (aq ts)) h1) _ _ h3
 injection h6 with h6 h9
 subst h6 h9
 obtain⟨x,h10,h11⟩:=h7.gd
 obtain⟨w,h12,h13⟩:=qj HS ws hw
 exact⟨⟨rfl,fun r=>.for_ n w x r,fun r hr=>⟨by simp only[Tr.nd,h10,h12];rfl,by grind[Tr.ok]⟩⟩,dW h8 h5⟩
theorem wI(HS:fF L){so:Pa Nd}(h:Gp (L:=L) Gs so):Gp (L:=L) Gb (eE so):=fun ts ht a r hh=>by
 cases ts with
 |nil=>cases hh
 |cons t u=>
  simp only[eE]at hh;have hl:TkOK L (ay u):=ht.tl.suf (aq u);split at hh
  ·split at hh
   ·obtain⟨h1,h2⟩:=iW (ay u).tail (hl.suf (am _))
    unfold gT at hh;split at hh
    ·exact j9 HS h h1 (h2.suf (am _)) hh
    ·cases hh
   ·refine j9 HS h (fun ps hp=>?_) ?_ hh
    ·unfold oB at hp
     simp only[List.mem_singleton]at hp;subst hp;exact fun p hp hk=>by grind
    ·split
     ·exact hl.suf (am _)
     omega
  ·cases hh
theorem qo:∀(f:Nat) (l:List (List Prt)) (ts:List Tok),TkOK L ts->(∀ps∈l,PsOK L ps)->∀a r,fD f l ts=.ok a r->(∀ps∈a,PsOK L ps)/\TkOK L r
 |0,l,ts,ht,hl,a,r,e=>by cases e;grind
 |f+1,l,ts,ht,hl,a,r,e=>by
  unfold fD at e;split at e
  ·obtain⟨w,s,h1,h2⟩:=ag e
   obtain⟨h3,h4⟩:=lT (ht.suf (am ts)) h1;exact qo f _ s h4 (fun ps hp=>by grind) a r h2
  grind
def Ga(n:Nd):Prop:=∃(w:Ws) (b:Tr),n=.mk 13 [] false [] w.ws [] [b.nd]/\w.ok/\b.ok
theorem yS(HS:fF L){li:Pa Nd}(h:Gp (L:=L) Gl li):Gp (L:=L) Ga (arm li):=fun ts ht a r e=>by
 obtain⟨w,s,h1,h2⟩:=ag e
 obtain⟨h3,h4⟩:=lT (by split;exact ht.suf (am ts);exact ht) h1
 obtain⟨ws,s2,h5,h6⟩:=ag h2
 obtain⟨h7,h8⟩:=qo _ _ s h4 (fun ps hp=>by grind) _ _ h5
 obtain⟨u,s3,h9,h10⟩:=ag h6
 obtain⟨n,s4,h11,h12⟩:=ag h10
 obtain⟨h13,h14⟩:=h _ (dW h8 h9) _ _ h11
 obtain⟨u2,s5,h15,h16⟩:=ag h12
 injection h16 with h16 h17
 subst h16 h17
 obtain⟨y,h18,h19⟩:=h13.gd
 obtain⟨w,h20,h21⟩:=qj HS ws h7
 exact⟨⟨w,y,by grind,h21,h19⟩,dW h14 h15⟩
theorem nJ{Q:Nd->Prop}{ar:Pa Nd}(h:Gp (L:=L) Q ar):∀(f:Nat) (l:List Nd) (ts:List Tok),TkOK L ts->(∀n∈l,Q n)->∀a r,dg ar f l ts=.ok a r->(∀n∈a,Q n)/\TkOK L r
 |0,l,ts,ht,hl,a,r,e=>by cases e;grind
 |f+1,l,ts,ht,hl,a,r,e=>by
  unfold dg at e;split at e
  ·cases e;exact⟨hl,ht.suf (aq ts)⟩
  ·obtain⟨x,s,h1,h2⟩:=ag e
   obtain⟨h3,h4⟩:=h _ (ht.suf (aq ts)) _ _ h1;exact nJ h f _ s h4 (fun n hn=>by grind) a r h2
theorem xO:∀l:List Nd,(∀n∈l,Ga n)->∃x:Am,x.nds=l/\x.ok
 | [],_=>⟨.nil,rfl,by simp only[Am.ok]⟩
 |n::l,h=>by
  obtain⟨x,h1,h2⟩:=xO l (fun q hq=>h q (List.mem_cons_of_mem _ hq));obtain⟨w,b,rfl,h3,h4⟩:=h n List.mem_cons_self;exact⟨.cons w b x,by grind[Am.nds],by grind[Am.ok]⟩
theorem rG(HS:fF L){li:Pa Nd}(h:Gp (L:=L) Gl li):Gp (L:=L) Gb (gA li):=fun ts ht a r e=>by
 obtain⟨w,s,h1,h2⟩:=ag e
 obtain⟨h3,h4⟩:=lT ht h1
 obtain⟨u,s2,h5,h6⟩:=ag h2
 obtain⟨l,s3,h7,h8⟩:=ag h6
 obtain⟨h9,h10⟩:=nJ (yS HS h) _ _ s2 (dW (h4.suf (aq s)) h5) (fun n hn=>by cases hn) _ _ h7
 obtain⟨u2,s4,h11,h12⟩:=ag h8
 injection h12 with h12 h13
 subst h12 h13
 obtain⟨x,h14,h15⟩:=xO l h9
 obtain⟨y,h16,h17⟩:=nF HS w h3
 exact⟨⟨rfl,fun r=>.case_ y x r,fun r hr=>⟨by simp only[Tr.nd,h14,h16];rfl,by grind[Tr.ok]⟩⟩,dW h10 h11⟩
theorem qp{so:Pa Nd}{inner:Option (Pa Nd)}(h:Gp (L:=L) Gs so)(hi:∀c,inner=some c->Gp (L:=L) Gb c):Gp (L:=L) Gb (fK so inner):=fun ts ht a r e=>by
 obtain⟨n,s,h1,h2⟩:=ag e
 obtain⟨c,t,rfl,h3,h4,h5⟩:=j8 h ht h1
 obtain⟨x,h6,h7⟩:=h3.gd
 obtain⟨y,h8,h9⟩:=h4.gd
 have key:∀z:Tr,z.ok->∀(r:Ws),r.ok->(Tr.ife x y z r).nd=(Nd.addKid (.mk 8 [] false [] [] [] [c,t]) z.nd).setRs r.rs/\(Tr.ife x y z r).ok:=fun z hz r hr=>⟨by simp only[Tr.nd,h6,h8];rfl,by grind[Tr.ok]⟩
 split at h2
 ·obtain⟨k,s2,h10,h11⟩:=ag h2
  obtain⟨h12,h13⟩:=h _ (h5.suf (am s)) _ _ h10;injection h11 with h11 h14
  subst h11 h14;obtain⟨z,h15,h16⟩:=h12.gd;subst h15;exact⟨⟨rfl,fun r=>.ife x y z r,key z h16⟩,h13⟩
 ·split at h2
  ·cases inner with
   |none=>cases h2
   |some i=>
    obtain⟨k,s2,h10,h11⟩:=ag h2;obtain⟨h12,h13⟩:=hi i rfl _ (h5.suf (am s)) _ _ h10;injection h11 with h11 h14
    subst h11 h14;obtain⟨z,h15,h16⟩:=h12.gd;subst h15;exact⟨⟨rfl,fun r=>.ife x y z r,key z h16⟩,h13⟩
  ·injection h2 with h2 h10
   subst h2 h10;exact⟨⟨rfl,fun r=>.iff x y r,fun r hr=>⟨by simp only[Tr.nd,h6,h8];rfl,by grind[Tr.ok]⟩⟩,h5⟩
theorem kY{ts:List Tok}(ht:TkOK L ts){x:Int×Nat×List Prt}{r:List Tok}(h:dJ ts=.ok x r):PsOK L x.2.2/\TkOK L r:=by
 cases ts with
 |nil=>cases h
 |cons t u=>
  obtain⟨w,s,h1,h2⟩:=ag (p:=bS u) h;obtain⟨h3,h4⟩:=lT ht.tl h1;injection h2 with h2 h5
  subst h2 h5;exact⟨h3,h4⟩
theorem j_:∀(f:Nat) (l:List (Int×Nat×List Prt)) (ts:List Tok),TkOK L ts->(∀x∈l,PsOK L x.2.2)->∀a r,bC f l ts=.ok a r->(∀x∈a,PsOK L x.2.2)/\TkOK L r
 |0,l,ts,ht,hl,a,r,e=>by cases e;grind
 |f+1,l,ts,ht,hl,a,r,e=>by
  unfold bC at e;split at e
  ·obtain⟨w,s,h1,h2⟩:=ag e
   obtain⟨h3,h4⟩:=kY ht h1;exact j_ f _ s h4 (fun ps hp=>by grind) a r h2
  grind
theorem wJ(HS:fF L){li so conds:Pa Nd}(h1:Gp (L:=L) Gl li)(h2:Gp (L:=L) Gs so)(h3:Gp (L:=L) Gb conds):∀b,Gp (L:=L) Gb (kp li so conds b)
 |.sub=>kX h2 6 (.inl rfl) _
 |.grp=>kX h2 7 (.inr rfl) _
 |.iff=>h3
 |.whl=>nI h2 false _ _
 |.unt=>nI h2 true _ _
 |.for_=>wI HS h2
 |.case_=>rG HS h1
theorem wK(HS:fF L){bo:Blk->Pa Nd}(h:∀b,Gp (L:=L) Gb (bo b))(b:Blk):Gp (L:=L) Gd (fL bo b):=fun ts ht a r e=>by
 obtain⟨n,s,h1,h2⟩:=ag e
 obtain⟨⟨h3,F,h4⟩,h5⟩:=h b _ (ht.suf (am ts)) _ _ h1
 obtain⟨u,s2,h6,h7⟩:=ag h2
 have h8:TkOK L s2:=by
  grind[dW]
 obtain⟨l,s3,h9,h10⟩:=ag h7
 obtain⟨h11,h12⟩:=j_ _ _ s2 h8 (fun x hx=>by grind) _ _ h9
 injection h10 with h10 h13
 subst h10 h13
 obtain⟨w,h14,h15⟩:=ue HS l h11
 obtain⟨h16,h17⟩:=h4 w h15
 exact⟨⟨F w,by grind,h17⟩,h12⟩
theorem yT{ps:List Prt}(h:PsOK L ps){x:ab×List Prt}(e:aG ps=some x):PsOK L x.2:=by
 cases ps with
 |nil=>cases e
 |cons p r=>
  grind[PsOK,aG]
structure SimOK (L:Nat) (x:Sim):Prop where
 a:∀y∈x.a,PsOK L y.2
 w:∀y∈x.w,PsOK L y
 r:∀y∈x.r,PsOK L y.2.2
theorem ia{α:Type}{Q:α->Prop}{l:List α}{x:α}(h:∀y∈l,Q y)(hx:Q x):∀y∈l++[x],Q y:=fun y hy=>by
 grind
theorem SimOK.word{x:Sim}(h:SimOK L x){ps:List Prt}(hp:PsOK L ps):SimOK L (x.word ps):=by
 unfold Sim.word
 split
 ·rename_i y hy
  split
  ·exact⟨ia (Q:=fun y:ab×List Prt=>PsOK L y.2) h.a (yT hp hy),h.w,h.r⟩
  ·exact⟨h.a,ia (Q:=fun y:List Prt=>PsOK L y) h.w hp,h.r⟩
 ·exact⟨h.a,ia (Q:=fun y:List Prt=>PsOK L y) h.w hp,h.r⟩
theorem SimOK.gd(HS:fF L){x:Sim}(h:SimOK L x):Gd x.nd:=by
 obtain⟨a,h1,h2⟩:=xN HS x.a h.a
 obtain⟨w,h3,h4⟩:=qj HS x.w h.w
 obtain⟨r,h5,h6⟩:=ue HS x.r h.r
 exact⟨.simple a w r,by simp only[Tr.nd,h1,h3,h5];rfl,by grind[Tr.ok]⟩
theorem gI(HS:fF L):∀(f:Nat) (x:Sim) (ts:List Tok),TkOK L ts->SimOK L x->∀a r,aS f x ts=.ok a r->Gd a/\TkOK L r
 |0,x,ts,ht,hx,a,r,e=>by cases e;exact⟨hx.gd HS,ht⟩
 |f+1,x,ts,ht,hx,a,r,e=>by
  cases ts with
  |nil=>cases e;exact⟨hx.gd HS,ht⟩
  |cons t u=>
   simp only[aS]at e;split at e
   ·obtain⟨y,s,h1,h2⟩:=ag e
    obtain⟨h3,h4⟩:=kY ht h1;exact gI HS f ⟨x.a,x.w,x.r++[y]⟩ s h4 ⟨hx.a,hx.w,ia (Q:=fun y:Int×Nat×List Prt=>PsOK L y.2.2) hx.r h3⟩ a r h2
   ·split at e
    ·exact gI HS f _ u ht.tl (hx.word ht.hd) a r e
    ·cases e;exact⟨hx.gd HS,ht⟩
theorem rH(HS:fF L):Gp (L:=L) Gd simple:=fun ts ht a r e=>by
 unfold simple at e
 split at e
 ·exact gI HS _ _ ts ht ⟨fun y hy=>(by cases hy),fun y hy=>(by cases hy),fun y hy=>(by cases hy)⟩ a r e
 ·cases e
theorem yU{comp:Blk->Pa Nd}(h:∀b,Gp (L:=L) Gd (comp b)):Gp (L:=L) Gd (iu comp):=fun ts ht a r e=>by
 cases ts with
 |nil=>cases e
 |cons t u=>
  simp only[iu]at e;split at e
  ·split at e
   ·cases e
   ·obtain⟨x,s,h1,h2⟩:=ag e
    obtain⟨⟨y,h3,h4⟩,h5⟩:=h _ _ (ht.tl.suf ((aq _).trans ((am _).trans (am u)))) _ _ h1;injection h2 with h2 h6
    subst h2 h6;exact⟨⟨.fn t.plain y,by grind[Tr.nd],by grind[Tr.ok]⟩,h5⟩
  ·cases e
theorem uf(HS:fF L){comp:Blk->Pa Nd}{inner:Option (Blk->Pa Nd)}(h:∀b,Gp (L:=L) Gd (comp b))(hi:∀c,inner=some c->∀b,Gp (L:=L) Gd (c b)):Gp (L:=L) Gd (gU comp inner):=fun ts ht a r e=>by
 unfold gU at e
 split at e
 ·exact h _ ts ht a r e
 ·split at e
  ·cases e
  ·split at e
   ·cases inner with
    |none=>cases e
    |some c=>exact yU (hi c rfl) ts ht a r e
   ·exact rH HS ts ht a r e
theorem wL{Q:Nd->Prop}:Gp (L:=L) Q (fun ts=>full ts):=fun ts ht a r e=>by cases e
theorem ug(HS:fF L):∀k:Nat,Gp (L:=L) Gd (lev k).cmd/\Gp (L:=L) Gb (lev k).conds/\∀b,Gp (L:=L) Gd ((lev k).comp b)
 |0=>by
  have h1:∀b:Blk,Gp (L:=L) Gd (fun ts=>full ts):=fun b=>wL
  have h2:=uf (comp:=fun _ ts=>full ts) (inner:=none) HS h1 (fun c h=>by cases h);exact⟨h2,qp (inner:=none) (lU h2) (fun c h=>by cases h),h1⟩
 |k+1=>by
  obtain⟨i1,i2,i3⟩:=ug HS k;have h1:∀b,Gp (L:=L) Gd (fL (kp (cK (lev k).cmd) (eD (lev k).cmd) (lev k).conds) b):=wK HS (wJ HS (qn i1) (lU i1) i2);have h2:=uf (inner:=some (lev k).comp) HS h1 (fun c h=>by simp_all);simp_all[qp,lev,lU]
theorem rI(HS:fF L)(k:Nat){ts:List Tok}(ht:TkOK L ts){l r}(h:eK k ts=.ok l r):∃x:Ts,x.nds=l/\x.ok:=by
 obtain⟨a,s,h1,h2⟩:=ag h
 obtain⟨h3,_⟩:=j7 (qm (ql (ug HS k).1)) _ _ ts ht (fun n hn=>by cases hn) _ _ h1
 split at h2
 ·simp_all[qk]
 ·cases h2
end
theorem PsOK.addT{K:Nat}:∀{ps:List Prt} {s:ab} {q:Bool},PsOK K ps->PsOK K (addT ps s q)
 | [],s,q,_=>fun p hp hk=>by simp only[Go.Proofs.YtgboffbbpmileaaGreatDoor.addT,List.mem_singleton]at hp;grind
 | [p],s,q,h=>fun x hx hk=>by
  simp only[Go.Proofs.YtgboffbbpmileaaGreatDoor.addT]at hx;split at hx
  ·grind
  ·simp only[List.mem_cons,List.not_mem_nil,or_false]at hx
   rcases hx with rfl|rfl
   ·exact h _ List.mem_cons_self hk
   grind
 |p::p2::ps,s,q,h=>fun x hx hk=>by
  simp only[Go.Proofs.YtgboffbbpmileaaGreatDoor.addT]at hx;rcases List.mem_cons.1 hx with rfl|hx
  ·exact h _ List.mem_cons_self hk
  ·exact PsOK.addT (fun y hy=>h y (List.mem_cons_of_mem _ hy)) x hx hk
theorem PsOK.snoc{K:Nat}{ps:List Prt}{p:Prt}(h:PsOK K ps)(hp:p.k=2->p.t.length<K):PsOK K (ps++[p]):=fun x hx hk=>by
 rcases List.mem_append.1 hx with hx|hx
 ·exact h x hx hk
 grind
theorem PsOK.nil{K:Nat}:PsOK K []:=fun x hx=>by cases hx
theorem kZ{K:Nat}{ps:List Prt}{s:ab}{n:Nat}{q:Bool}{st:St}(hp:PsOK K ps)(hs:s.length<=K)(h:au ps s n q=.ok st):PsOK K st.1:=by
 unfold au at h
 split at h
 ·rename_i h40
  split at h
  ·cases h
  ·rename_i a r he
   cases h
   refine hp.snoc fun _=>?_
   have h1:=congrArg List.length (dL _ _ _ _ _ he);grind
 ·split at h
  ·split at h
   ·cases h
   ·split at h
    ·cases h
    ·cases h;exact hp.snoc fun e=>by cases e
  ·split at h
   ·cases h;exact hp.snoc fun e=>by cases e
   ·cases h;exact hp.addT
theorem ek{K n0:Nat}:∀(f:Nat) (ps:List Prt) (l:ab) (n:Nat) (st:St),PsOK K ps->l.length<=K->a_ f n0 (ps,l,n)=.ok st->PsOK K st.1
 |0,ps,l,n,st,hp,hl,h=>by cases h
 |f+1,ps,[],n,st,hp,hl,h=>by cases h
 |f+1,ps,c::t,n,st,hp,hl,h=>by
  rw[List.length_cons]at hl;rw[aN]at h;split at h
  ·grind
  ·split at h
   ·split at h
    ·cases h
    ·rename_i x hx
     have h1:=kZ hp (by omega) hx;have h2:=(fJ hx).length_le;obtain⟨p,l2,n2⟩:=x;have h2:l2.length<=t.length:=h2;exact ek f p l2 n2 st h1 (by omega) h
   ·split at h
    ·split at h
     ·rename_i d r _
      simp only[List.length_cons]at hl;split at h
      ·exact ek f _ _ _ st hp.addT (by omega) h
      ·exact ek f _ _ _ st hp.addT (by grind) h
     ·exact ek f _ _ _ st hp.addT (by omega) h
    ·exact ek f _ _ _ st hp.addT (by omega) h
theorem uh{K:Nat}{ps:List Prt}{c:UInt8}{t:ab}{n:Nat}{st:St}(hp:PsOK K ps)(hl:t.length<=K)(h:aV ps c t n=.ok st):PsOK K st.1:=by
 unfold aV at h
 split at h
 ·split at h
  ·cases h
  ·cases h;exact hp.addT
 ·split at h
  ·exact ek _ _ _ _ st hp.addT hl h
  ·split at h
   ·split at h
    ·cases h;exact hp.addT
    ·split at h
     ·grind
     ·cases h;exact hp.addT
   ·split at h
    ·grind[kZ]
    ·cases h;exact hp.addT
theorem qq{K:Nat}:∀(f:Nat) (ps:List Prt) (l:ab) (n:Nat) (st:St),PsOK K ps->l.length<=K->word f (ps,l,n)=.ok st->PsOK K st.1
 |0,ps,l,n,st,hp,hl,h=>by cases h;exact hp
 |f+1,ps,[],n,st,hp,hl,h=>by cases h;exact hp
 |f+1,ps,c::t,n,st,hp,hl,h=>by
  rw[List.length_cons]at hl;rw[aT]at h;split at h
  ·grind
  ·split at h
   ·cases h
   ·rename_i x hx
    have h1:=uh hp (by omega) hx;have h2:=(eZ hx).length_le;obtain⟨p,l2,n2⟩:=x;have h2:l2.length<=t.length:=h2;exact qq f p l2 n2 st h1 (by omega) h
theorem ui{K:Nat}{l r:ab}{fd:Int}{n n0 m:Nat}{x:Tok}(h:ioS l fd n0 n=.tok x r m):PsOK K x.parts:=by
 unfold ioS at h
 split at h<;>(cases h;exact PsOK.nil)
theorem wM{K:Nat}{c:UInt8}{t r:ab}{n m:Nat}{x:Tok}(hl:(c::t).length<=K)(h:ba c t n=.tok x r m):PsOK K x.parts:=by
 unfold ba at h
 split at h
 ·cases h
 ·split at h
  ·cases h
  ·split at h
   ·grind[PsOK.nil]
   ·split at h
    ·split at h<;>(cases h;exact PsOK.nil)
    ·split at h
     ·cases h;exact PsOK.nil
     ·split at h
      ·exact ui h
      ·split at h
       ·cases h
       ·split at h
        ·cases h
        ·rename_i ps r2 m2 hw
         have h1:=qq _ _ _ _ _ PsOK.nil hl hw;grind[ui]
theorem lV{K:Nat}:∀(d:Nat) (l:ab) (n:Nat),l.length<=d->l.length<=K->∀t∈(cQ l n).1,PsOK K t.parts
 |d,[],n,hd,hk,t,ht=>by grind[df]
 |0,c::l,n,hd,hk,t,ht=>by grind
 |d+1,c::l,n,hd,hk,t,ht=>by
  rw[bO]at ht;have h1:=di c l n;simp only[List.length_cons]at hd hk h1
  cases hs:ba c l n with
  |bad m=>grind
  |skip r m=>
   rw[hs]at ht h1;have h1:r.length<l.length+1:=h1;exact lV d r m (by omega) (by omega) t ht
  |tok x r m=>
   rw[hs]at ht h1;have h1:r.length<l.length+1:=h1;rcases List.mem_cons.1 ht with rfl|ht
   ·exact wM (by omega) hs
   ·exact lV d r m (by omega) (by omega) t ht
theorem uj{s:ab}{T:List Tok}(h:tQ s T):TkOK s.length T:=fun t ht=>by
 obtain⟨h1,_⟩:=h 1 (Nat.le_refl _)
 rw[<- h1]at ht
 obtain⟨x,hx,rfl⟩:=List.mem_map.1 ht
 exact lV s.length s 1 (Nat.le_refl _) (Nat.le_refl _) x hx
theorem uk{s:ab}(h:8000<s.length):lex s=.err true 0:=by grind[lex]
theorem pe{s:ab}{l:List Nd}(h:aH s=.ok l):s.length<=8000:=by
 grind[aH,uk]
theorem nK:∀L:Nat,fF L
 |0=>fun t ht=>by omega
 |L+1=>fun t ht=>by
  cases hp:aH t with
  |err f m=>grind
  |ok l=>
   obtain⟨T,h1,_,h3⟩:=rB (pe hp) hp;have h4:TkOK L T:=fun x hx p hpp hk=>by have:=uj h1 x hx p hpp hk;omega
   exact .inr ⟨l,rfl,rI (nK L) 20 h4 h3⟩
theorem wN{s:ab}{l:List Nd}(h:aH s=.ok l):∃x:Ts,x.nds=l/\x.ok:=by
 rcases nK (s.length+1) s (by omega)with⟨f,m,e⟩|⟨l2,e,hx⟩
 ·grind
 grind
structure Ins where
 op:Nat
 a:Int:=0
 b:Int:=0
 s:ab:=[]
 w:List Prt:=[]
structure PS where
 c:List Ins
 i:Nat
 e:Nat
def PS.add(s:PS)(x:Ins):PS:=⟨s.c++[x],s.i,s.e⟩
def PS.op(s:PS)(o:Nat)(a:Int):PS:=s.add {op:=o,a:=a}
def Ins.setA(x:Ins)(a:Int):Ins:={x with a:=a}
def Ins.setB(x:Ins)(b:Int):Ins:={x with b:=b}
def PS.here(s:PS)(k:Nat):PS:=⟨s.c.modify k (·.setA s.c.length),s.i,s.e⟩
def PS.heres(s:PS):List Nat->PS
 | []=>s
 |k::l=>(s.here k).heres l
def PS.child(s:PS)(kind:Int)(f:PS->PS):PS:=((f (s.add {op:=13,b:=kind})).op 16 0).here s.c.length
def PS.item(s:PS)(before:Option Nat):PS:=(⟨match before with|some k=>s.c.modify k (·.setB (s.i+1:Nat))|none=>s.c,s.i+1,s.e⟩:PS).add {op:=0,a:=(s.i+1:Nat)}
def Wd.plain:Wd->Bool
 |.nil=>true
 |.lit p r=>p.k != 2&&r.plain
 |.sub _ _ _=>false
 |.bad _ _ _=>false
def Ws.plain:Ws->Bool
 |.nil=>true
 |.cons _ w r=>w.plain&&r.plain
def Ws.nil? :Ws->Bool
 |.nil=>true
 |_=>false
def Ts.nil? :Ts->Bool
 |.nil=>true
 |_=>false
def prt(first last:Bool):Nat:=(if first then 0 else 1)+(if last then 0 else 2)
mutual
def Wd.g:Wd->PS->PS
 |.nil,s=>s
 |.lit _ r,s=>r.g s
 |.sub _ t r,s=>if s.e=0 then r.g ((s.child 8 t.g).op 15 0)else r.g s
 |.bad _ f r,s=>if s.e=0 then⟨s.c,s.i,if f then 6 else 27⟩else r.g s
def Ws.g(o:Nat):Ws->PS->PS
 |.nil,s=>s
 |.cons g w r,s=>r.g o ((w.g s).add {op:=o,a:=g.a,b:=g.b,s:=g.s,w:=w.ps})
def Tr.g:Tr->PS->PS
 |.simple a w r,s=>if s.e=0 then
   let s:=if r.nil? then s else r.g 10 (s.op 9 0)
   let s:=if w.nil? then s else w.g 7 (s.op 6 0)
   let s:=a.g 8 s
   let s:=if w.nil? then(if a.plain&&r.plain then s.op 5 0 else s)else s.op 12 0
   if r.nil? then s else s.op 11 0
  else s
 |.pipe g l,s=>if s.e=0 then
   let s:=if g then s.op 24 1 else s
   let s:=l.gp true s
   let s:=if 1<l.nds.length then s.op 14 0 else s
   if g then(s.op 24 (-1)).op 4 0 else s.op 25 0
  else s
 |.ao o x y,s=>if s.e=0 then
   let s:=(x.g (s.op 24 1)).op 24 (-1)
   (y.g (s.op (if o then 2 else 3) 0)).here s.c.length
  else s
 |.lst l,s=>if s.e=0 then l.gl none s else s
 |.back x,s=>if s.e=0 then(s.child 4 x.g).op 5 0 else s
 |.sub x r,s=>if s.e=0 then
   let s:=if r.nil? then s else r.g 10 (s.op 9 0)
   let s:=(s.child 0 x.g).op 14 0
   if r.nil? then s else s.op 11 0
  else s
 |.grp x r,s=>if s.e=0 then
   let s:=if r.nil? then s else r.g 10 (s.op 9 0)
   let s:=x.g s
   if r.nil? then s else s.op 11 0
  else s
 |.iff c t r,s=>if s.e=0 then
   let s:=if r.nil? then s else r.g 10 (s.op 9 0)
   let s1:=(c.g (s.op 24 1)).op 24 (-1)
   let s2:=t.g (s1.op 3 0)
   let s3:=(s2.op 1 0).here s1.c.length
   let s:=(s3.op 5 0).here s2.c.length
   if r.nil? then s else s.op 11 0
  else s
 |.ife c t e r,s=>if s.e=0 then
   let s:=if r.nil? then s else r.g 10 (s.op 9 0)
   let s1:=(c.g (s.op 24 1)).op 24 (-1)
   let s2:=t.g (s1.op 3 0)
   let s3:=(s2.op 1 0).here s1.c.length
   let s:=(e.g s3).here s2.c.length
   if r.nil? then s else s.op 11 0
  else s
 |.loop u c b r,s=>if s.e=0 then
   let s:=if r.nil? then s else r.g 10 (s.op 9 0)
   let s1:=(c.g (s.op 24 1)).op 24 (-1)
   let s2:=(b.g (s1.op (if u then 2 else 3) 0)).op 1 s.c.length
   let s:=(s2.here s1.c.length).op 5 0
   if r.nil? then s else s.op 11 0
  else s
 |.for_ n w b r,s=>if s.e=0 then
   let s:=if r.nil? then s else r.g 10 (s.op 9 0)
   let s1:=((w.g 7 (s.op 6 0)).add {op:=17,s:=n}).op 5 0
   let s:=((b.g (s1.op 18 0)).op 1 s1.c.length).here s1.c.length
   if r.nil? then s else s.op 11 0
  else s
 |.case_ w l r,s=>if s.e=0 then
   let s:=if r.nil? then s else r.g 10 (s.op 9 0)
   let s:=l.gm ((w.g s).add {op:=19,w:=w.ps}) []
   let s1:=s.1.op 5 0
   let x:=l.gb (s1.op 1 0) s.2 [s1.c.length]
   let s:=(x.1.heres x.2).op 21 0
   if r.nil? then s else s.op 11 0
  else s
 |.fn n b,s=>if s.e=0 then
   let s2:=((s.add {op:=22,s:=n}).op 1 0).here s.c.length
   (((b.g s2).op 23 0).here (s.c.length+1)).op 5 0
  else s
def Ts.gl:Ts->Option Nat->PS->PS
 |.nil,_,s=>s
 |.cons x r,before,s=>r.gl (some s.c.length) (x.g (s.item before))
def Ts.gp:Ts->Bool->PS->PS
 |.nil,_,s=>s
 |.cons x r,f,s=>r.gp false (if prt f r.nil? =0 then x.g s else s.child (prt f r.nil? :Nat) x.g)
def Am.gm:Am->PS->List (List Nat)->PS×List (List Nat)
 |.nil,s,l=>(s,l)
 |.cons w _ r,s,l=>let x:=w.gw s [];r.gm x.1 (l++[x.2])
def Ws.gw:Ws->PS->List Nat->PS×List Nat
 |.nil,s,l=>(s,l)
 |.cons _ w r,s,l=>let s:=w.g s;r.gw (s.add {op:=20,w:=w.ps}) (l++[s.c.length])
def Am.gb:Am->PS->List (List Nat)->List Nat->PS×List Nat
 |.nil,s,_,l=>(s,l)
 |.cons _ b r,s,h,l=>let s:=b.g ((s.heres (h.headD [])).op 5 0);r.gb (s.op 1 0) h.tail (l++[s.c.length])
end
def ax(l:Ts):PS:=
 let s:=((Tr.lst l).g ⟨[],0,0⟩).op 26 0
 if s.e=0/\500<s.i then⟨s.c,s.i,6⟩else s
def aD(x:Ins):Bool:=x.op==0
def itm(l:List Ins):Nat:=l.countP aD
theorem bu(a b:List Ins):itm (a++b)=itm a+itm b:=List.countP_append
theorem aJ(x:Ins)(l:List Ins):itm (x::l)=itm l+(if aD x then 1 else 0):=List.countP_cons
theorem bU:itm []=0:=rfl
abbrev K:=Nat->Nat->List Ins
def K.seq(f g:K):K:=fun p i=>f p i++g (p+(f p i).length) (i+itm (f p i))
def K.one(x:Ins):K:=fun _ _=>[x]
def K.o(o:Nat)(a:Int):K:=K.one {op:=o,a:=a}
def K.nil:K:=fun _ _=>[]
def K.child(kind:Int)(f:K):K:=fun p i=>{op:=13,a:=(p+1+(f (p+1) i).length+1:Nat),b:=kind}::(f (p+1) i++[{op:=16}])
def K.quiet(f:K):K:=(K.o 24 1).seq (f.seq (K.o 24 (-1)))
def K.over(o:Nat)(f:K):K:=fun p i=>{op:=o,a:=(p+1+(f (p+1) i).length:Nat)}::f (p+1) i
def K.alt(f g:K):K:=fun p i=>
 let l:=f (p+1) i
 let m:=g (p+1+l.length+1) (i+itm l)
 {op:=3,a:=(p+1+l.length+1:Nat)}::(l++ {op:=1,a:=(p+1+l.length+1+m.length:Nat)}::m)
def K.loop(o:Nat)(f g:K):K:=fun p i=>
 let l:=f p i
 let m:=g (p+l.length+1) (i+itm l)
 l++ {op:=o,a:=(p+l.length+1+m.length+1:Nat)}::(m++[{op:=1,a:=(p:Nat)}])
def K.each(f:K):K:=fun p i=>{op:=18,a:=(p+1+(f (p+1) i).length+1:Nat)}::(f (p+1) i++[{op:=1,a:=(p:Nat)}])
def K.fn(n:ab)(f:K):K:=fun p i=>{op:=22,a:=(p+2:Nat),s:=n}:: {op:=1,a:=(p+2+(f (p+2) i).length+1:Nat)}::(f (p+2) i++[{op:=23}])
def K.item(more:Bool)(f:K):K:=fun p i=>{op:=0,a:=(i+1:Nat),b:=if more then(i+1+itm (f (p+1) (i+1))+1:Nat)else 0}::f (p+1) (i+1)
def K.saved(none:Bool)(r f:K):K:=if none then f else(K.o 9 0).seq (r.seq (f.seq (K.o 11 0)))
def K.case(w:List Nat->K)(b:Nat->K)(pos:Nat->Nat->List Nat):K:=fun p i=>
 let n:=(w [] p i).length
 let j:=i+itm (w [] p i)
 let m:=(b 0 (p+n+2) j).length
 let l:=w (pos (p+n+2) j) p i
 l++ {op:=5}:: {op:=1,a:=(p+n+2+m:Nat)}::(b (p+n+2+m) (p+n+2) j++[{op:=21}])
mutual
def Wd.c:Wd->K
 |.nil=>K.nil
 |.lit _ r=>r.c
 |.sub _ t r=>(K.child 8 t.c).seq ((K.o 15 0).seq r.c)
 |.bad _ _ r=>r.c
def Ws.c(o:Nat):Ws->K
 |.nil=>K.nil
 |.cons g w r=>w.c.seq ((K.one {op:=o,a:=g.a,b:=g.b,s:=g.s,w:=w.ps}).seq (r.c o))
def Tr.c:Tr->K
 |.simple a w r=>K.saved r.nil? (r.c 10) ((if w.nil? then K.nil else(K.o 6 0).seq (w.c 7)).seq ((a.c 8).seq (if w.nil? then(if a.plain&&r.plain then K.o 5 0 else K.nil)else K.o 12 0)))
 |.pipe g l=>let k:=(l.cp true).seq (if 1<l.nds.length then K.o 14 0 else K.nil)
   if g then(K.o 24 1).seq (k.seq ((K.o 24 (-1)).seq (K.o 4 0)))else k.seq (K.o 25 0)
 |.ao o x y=>(K.quiet x.c).seq (K.over (if o then 2 else 3) y.c)
 |.lst l=>l.cl
 |.back x=>(K.child 4 x.c).seq (K.o 5 0)
 |.sub x r=>K.saved r.nil? (r.c 10) ((K.child 0 x.c).seq (K.o 14 0))
 |.grp x r=>K.saved r.nil? (r.c 10) x.c
 |.iff c t r=>K.saved r.nil? (r.c 10) ((K.quiet c.c).seq (K.alt t.c (K.o 5 0)))
 |.ife c t e r=>K.saved r.nil? (r.c 10) ((K.quiet c.c).seq (K.alt t.c e.c))
 |.loop u c b r=>K.saved r.nil? (r.c 10) ((K.loop (if u then 2 else 3) (K.quiet c.c) b.c).seq (K.o 5 0))
 |.for_ n w b r=>K.saved r.nil? (r.c 10) ((K.o 6 0).seq ((w.c 7).seq ((K.one {op:=17,s:=n}).seq ((K.o 5 0).seq (K.each b.c)))))
 |.case_ w l r=>K.saved r.nil? (r.c 10) (w.c.seq ((K.one {op:=19,w:=w.ps}).seq (K.case l.cw l.cb l.pos)))
 |.fn n b=>(K.fn n b.c).seq (K.o 5 0)
def Ts.cl:Ts->K
 |.nil=>K.nil
 |.cons x r=>(K.item (!r.nil?) x.c).seq r.cl
def Ts.cp:Ts->Bool->K
 |.nil,_=>K.nil
 |.cons x r,f=>(if prt f r.nil? =0 then x.c else K.child (prt f r.nil? :Nat) x.c).seq (r.cp false)
def Ws.cm:Ws->Nat->K
 |.nil,_=>K.nil
 |.cons _ w r,t=>w.c.seq ((K.one {op:=20,a:=(t:Nat),w:=w.ps}).seq (r.cm t))
def Am.cw:Am->List Nat->K
 |.nil,_=>K.nil
 |.cons w _ r,l=>(w.cm (l.headD 0)).seq (r.cw l.tail)
def Am.cb:Am->Nat->K
 |.nil,_=>K.nil
 |.cons _ b r,e=>(K.o 5 0).seq (b.c.seq ((K.o 1 e).seq (r.cb e)))
def Am.pos:Am->Nat->Nat->List Nat
 |.nil,_,_=>[]
 |.cons _ b r,p,i=>p::r.pos (p+1+(b.c (p+1) i).length+1) (i+itm (b.c (p+1) i))
end
mutual
def Wd.fine:Wd->Bool
 |.nil=>true
 |.lit _ r=>r.fine
 |.sub _ t r=>t.fine&&r.fine
 |.bad _ _ _=>false
def Ws.fine:Ws->Bool
 |.nil=>true
 |.cons _ w r=>w.fine&&r.fine
def Tr.fine:Tr->Bool
 |.simple a w r=>a.fine&&w.fine&&r.fine
 |.pipe _ l=>l.fine
 |.ao _ x y=>x.fine&&y.fine
 |.lst l=>l.fine
 |.back x=>x.fine
 |.sub x r=>x.fine&&r.fine
 |.grp x r=>x.fine&&r.fine
 |.iff c t r=>c.fine&&t.fine&&r.fine
 |.ife c t e r=>c.fine&&t.fine&&e.fine&&r.fine
 |.loop _ c b r=>c.fine&&b.fine&&r.fine
 |.for_ _ w b r=>w.fine&&b.fine&&r.fine
 |.case_ w l r=>w.fine&&l.fine&&r.fine
 |.fn _ b=>b.fine
def Ts.fine:Ts->Bool
 |.nil=>true
 |.cons x r=>x.fine&&r.fine
def Am.fine:Am->Bool
 |.nil=>true
 |.cons w b r=>w.fine&&b.fine&&r.fine
end
def Gen(G:PS->PS)(k:K):Prop:=∀s:PS,s.e=0->G s=⟨s.c++k s.c.length s.i,s.i+itm (k s.c.length s.i),0⟩
theorem Gen.seq{F G:PS->PS}{f g:K}(h1:Gen F f)(h2:Gen G g):Gen (fun s=>G (F s)) (f.seq g):=fun s hs=>by
 show G (F s)=_
 rw[h1 s hs,h2 _ rfl]
 grind[K.seq,bu]
theorem Gen.id:Gen (fun s=>s) K.nil:=fun s hs=>by
 obtain⟨c,i,e⟩:=s
 grind[K.nil,bU]
theorem Gen.add{x:Ins}(hx:aD x=false):Gen (fun s=>s.add x) (K.one x):=fun s hs=>by
 grind[K.one,aJ,bU,PS.add]
theorem Gen.op{o:Nat}{a:Int}(ho:o≠0):Gen (fun s=>s.op o a) (K.o o a):=Gen.add (x:={op:=o,a:=a}) (by simp[aD,ho])
theorem pf(x:Ins)(r:List Ins)(f:Ins->Ins):∀l:List Ins,(l++x::r).modify l.length f=l++f x::r
 | []=>rfl
 |y::l=>congrArg (y:: ·) (pf x r f l)
theorem lW(l:List Ins)(x:Ins)(r:List Ins)(i e:Nat):PS.here ⟨l++x::r,i,e⟩ l.length=⟨l++x.setA (l.length+1+r.length:Nat)::r,i,e⟩:=by
 grind[PS.here,pf]
theorem Gen.run{G:PS->PS}{k:K}(h:Gen G k)(l:List Ins)(i:Nat):G ⟨l,i,0⟩=⟨l++k l.length i,i+itm (k l.length i),0⟩:=h ⟨l,i,0⟩ rfl
theorem et(l:List Ins)(x:Ins):(l++[x]).length=l.length+1:=by simp
theorem Gen.child{F:PS->PS}{f:K}(kind:Int)(h:Gen F f):Gen (fun s=>s.child kind F) (K.child kind f):=fun s hs=>by
 obtain⟨l,i,e⟩:=s
 cases hs
 simp only[PS.child,PS.add,h.run,PS.op,List.append_assoc,List.cons_append,List.nil_append,et,List.length_append]
 rw[lW]
 grind[K.child,aJ,bu,bU,aD,Ins.setA]
theorem Gen.over{F:PS->PS}{f:K}{o:Nat}(ho:o≠0)(h:Gen F f):Gen (fun s=>(F (s.op o 0)).here s.c.length) (K.over o f):=fun s hs=>by
 obtain⟨l,i,e⟩:=s
 cases hs
 simp only[PS.add,h.run,PS.op,List.append_assoc,List.cons_append,List.nil_append,et]
 grind[lW,K.over,aJ,aD,Ins.setA]
theorem Gen.quiet{F:PS->PS}{f:K}(h:Gen F f):Gen (fun s=>(F (s.op 24 1)).op 24 (-1)) (K.quiet f):=(Gen.op (by decide)).seq (h.seq (Gen.op (by decide)))
theorem ef{c l:List Ins}{x:Ins}{r:List Ins}{k i e:Nat}(hc:c=l++x::r)(hk:k=l.length):PS.here ⟨c,i,e⟩ k=⟨l++x.setA (c.length:Nat)::r,i,e⟩:=by
 grind[lW]
theorem Gen.alt{F G:PS->PS}{f g:K}(h1:Gen F f)(h2:Gen G g):Gen (fun s=>(G (((F (s.op 3 0)).op 1 0).here s.c.length)).here (F (s.op 3 0)).c.length) (K.alt f g):=fun s hs=>by
 obtain⟨l,i,e⟩:=s
 cases hs
 have e1:F (PS.op ⟨l,i,0⟩ 3 0)=⟨l++({op:=3}:Ins)::f (l.length+1) i,i+itm (f (l.length+1) i),0⟩:=by
  simp only[PS.op,PS.add,h1.run,et,List.append_assoc,List.cons_append,List.nil_append]
 obtain⟨m,hm⟩:∃m,f (l.length+1) i=m:=⟨_,rfl⟩
 simp only[e1,hm]
 rw[show PS.op ⟨l++({op:=3}:Ins)::m,i+itm m,0⟩ 1 0=⟨l++({op:=3}:Ins)::(m++[({op:=1}:Ins)]),i+itm m,0⟩ by simp[PS.op,PS.add]]
 rw[ef (l:=l) (x:=({op:=3}:Ins)) (r:=m++[({op:=1}:Ins)]) rfl rfl]
 rw[h2.run]
 obtain⟨n,hn⟩:∃n,g (l.length+1+m.length+1) (i+itm m)=n:=⟨_,rfl⟩
 rw[show(l++Ins.setA ({op:=3}:Ins) ((l++({op:=3}:Ins)::(m++[({op:=1}:Ins)])).length:Nat)::(m++[({op:=1}:Ins)])).length=l.length+1+m.length+1 by grind,hn]
 rw[ef (l:=l++Ins.setA ({op:=3}:Ins) ((l++({op:=3}:Ins)::(m++[({op:=1}:Ins)])).length:Nat)::m) (x:=({op:=1}:Ins)) (r:=n) (by simp) (by simp)]
 grind[K.alt,aJ,bu,Ins.setA,aD]
theorem Gen.loop{F H:PS->PS}{f h:K}{o:Nat}(ho:o≠0)(h1:Gen F f)(h2:Gen H h):Gen (fun s=>((H ((F s).op o 0)).op 1 (s.c.length:Nat)).here (F s).c.length) (K.loop o f h):=fun s hs=>by
 obtain⟨l,i,e⟩:=s
 cases hs
 obtain⟨m,hm⟩:∃m,f l.length i=m:=⟨_,rfl⟩
 obtain⟨n,hn⟩:∃n,h (l.length+m.length+1) (i+itm m)=n:=⟨_,rfl⟩
 have e1:H (PS.op ⟨l++m,i+itm m,0⟩ o 0)=⟨(l++m)++({op:=o}:Ins)::n,i+itm m+itm n,0⟩:=by
  rw[show PS.op ⟨l++m,i+itm m,0⟩ o 0=⟨l++m++[({op:=o}:Ins)],i+itm m,0⟩from rfl,h2.run,et,List.length_append,hn];simp
 simp only[h1.run,hm,e1]
 rw[show PS.op ⟨(l++m)++({op:=o}:Ins)::n,i+itm m+itm n,0⟩ 1 (l.length:Nat)=⟨(l++m)++({op:=o}:Ins)::(n++[({op:=1,a:=(l.length:Nat)}:Ins)]),i+itm m+itm n,0⟩ by simp[PS.op,PS.add]]
 rw[ef rfl rfl]
 grind[K.loop,aJ,bu,Ins.setA,aD,bU]
theorem Gen.each{H:PS->PS}{h:K}(h2:Gen H h):Gen (fun s=>((H (s.op 18 0)).op 1 (s.c.length:Nat)).here s.c.length) (K.each h):=fun s hs=>by
 obtain⟨l,i,e⟩:=s
 cases hs
 obtain⟨n,hn⟩:∃n,h (l.length+1) i=n:=⟨_,rfl⟩
 have e1:H (PS.op ⟨l,i,0⟩ 18 0)=⟨l++({op:=18}:Ins)::n,i+itm n,0⟩:=by
  rw[show PS.op ⟨l,i,0⟩ 18 0=⟨l++[({op:=18}:Ins)],i,0⟩from rfl,h2.run,et,hn];simp
 simp only[e1]
 rw[show PS.op ⟨l++({op:=18}:Ins)::n,i+itm n,0⟩ 1 (l.length:Nat)=⟨l++({op:=18}:Ins)::(n++[({op:=1,a:=(l.length:Nat)}:Ins)]),i+itm n,0⟩ by simp[PS.op,PS.add]]
 rw[ef rfl rfl]
 grind[K.each,aJ,bu,Ins.setA,aD,bU]
theorem Gen.fn{H:PS->PS}{h:K}(n:ab)(h2:Gen H h):Gen (fun s=>((H (((s.add {op:=22,s:=n}).op 1 0).here s.c.length)).op 23 0).here (s.c.length+1)) (K.fn n h):=fun s hs=>by
 obtain⟨l,i,e⟩:=s
 cases hs
 obtain⟨m,hm⟩:∃m,h (l.length+2) i=m:=⟨_,rfl⟩
 have e0:PS.here (((⟨l,i,0⟩:PS).add {op:=22,s:=n}).op 1 0) l.length=⟨l++({op:=22,a:=(l.length+2:Nat),s:=n}:Ins)::[({op:=1}:Ins)],i,0⟩:=by
  rw[show((⟨l,i,0⟩:PS).add {op:=22,s:=n}).op 1 0=⟨l++({op:=22,s:=n}:Ins)::[({op:=1}:Ins)],i,0⟩ by simp[PS.op,PS.add],ef rfl rfl];simp[Ins.setA]
 simp only[e0]
 rw[h2.run,show(l++({op:=22,a:=(l.length+2:Nat),s:=n}:Ins)::[({op:=1}:Ins)]).length=l.length+2 by simp,hm]
 rw[show PS.op ⟨l++({op:=22,a:=(l.length+2:Nat),s:=n}:Ins)::[({op:=1}:Ins)]++m,i+itm m,0⟩ 23 0=⟨(l++[({op:=22,a:=(l.length+2:Nat),s:=n}:Ins)])++({op:=1}:Ins)::(m++[({op:=23}:Ins)]),i+itm m,0⟩ by simp[PS.op,PS.add]]
 rw[ef rfl (by simp)]
 grind[K.fn,aJ,bu,Ins.setA,aD,bU]
theorem Gen.saved{F R:PS->PS}{f r:K}(b:Bool)(h1:Gen F f)(h2:Gen R r):Gen (fun s=>if b then F (if b then s else R (s.op 9 0))else(F (if b then s else R (s.op 9 0))).op 11 0) (K.saved b r f):=by
 cases b with
 |true=>exact h1
 |false=>exact(Gen.op (by decide)).seq (h2.seq (h1.seq (Gen.op (by decide))))
theorem wO(x:Ins)(r:List Ins)(b:Int)(l:List Ins):(l++x::r).modify l.length (·.setB b)=l++x.setB b::r:=pf x r _ l
def ul(r:Ts):Prop:=∀(l:List Ins) (x0:Ins) (m:List Ins) (i:Nat),r.gl (some l.length) ⟨l++x0::m,i,0⟩=⟨(l++(if r.nil? then x0 else x0.setB (i+1:Nat))::m)++r.cl (l.length+1+m.length) i,i+itm (r.cl (l.length+1+m.length) i),0⟩
theorem um:ul .nil:=fun l x0 m i=>by simp[Ts.gl,Ts.cl,Ts.nil?,K.nil,bU]
theorem rJ{x:Tr}{r:Ts}(h1:Gen x.g x.c)(h2:ul r):ul (.cons x r):=fun l x0 m i=>by
 obtain⟨n,hn⟩:∃n,x.c (l.length+1+m.length+1) (i+1)=n:=⟨_,rfl⟩
 have e1:x.g (PS.item ⟨l++x0::m,i,0⟩ (some l.length))=⟨(l++x0.setB (i+1:Nat)::m)++({op:=0,a:=(i+1:Nat)}:Ins)::n,i+1+itm n,0⟩:=by
  simp only[PS.item,wO,PS.add];rw[h1.run,show((l++x0.setB (i+1:Nat)::m)++[({op:=0,a:=(i+1:Nat)}:Ins)]).length=l.length+1+m.length+1 by grind,hn];simp
 simp only[Ts.gl,e1]
 have e2:=h2 (l++x0.setB (i+1:Nat)::m) {op:=0,a:=(i+1:Nat)} n (i+1+itm n)
 rw[show(l++x0.setB (i+1:Nat)::m).length=(l++x0::m).length by simp]at e2
 rw[e2]
 have e3:(l++x0::m).length+1+n.length=l.length+1+m.length+(1+n.length):=by grind
 rw[e3]
 have hc:(Ts.cons x r).nil? =false:=rfl
 simp only[Ts.cl,K.seq,K.item,hn,hc]
 grind[itm,aJ,aD,bu,Ins.setB]
theorem un(b:Bool):Gen (Ts.nil.gp b) (Ts.nil.cp b):=fun s hs=>Gen.id s hs
theorem rK{x:Tr}{r:Ts}(b:Bool)(h1:Gen x.g x.c)(h2:Gen (r.gp false) (r.cp false)):Gen ((Ts.cons x r).gp b) ((Ts.cons x r).cp b):=by
 by_cases h:prt b r.nil? =0
 ·have:=h1.seq h2
  simp_all[Ts.gp,Ts.cp]
 ·have:=(Gen.child (prt b r.nil? :Nat) h1).seq h2
  simp_all[Ts.gp,Ts.cp]
theorem uo{o:Nat}(ho:o≠0){w:Wd}{r:Ws}(g:Tg)(h1:Gen w.g w.c)(h2:Gen (r.g o) (r.c o)):Gen ((Ws.cons g w r).g o) ((Ws.cons g w r).c o):=by
 have h3:=h1.seq ((Gen.add (x:={op:=o,a:=g.a,b:=g.b,s:=g.s,w:=w.ps}) (by simp[aD,ho])).seq h2)
 simp_all[Ws.g,Ws.c]
theorem wP{t:Tr}{p:Prt}{r:Wd}(h1:Gen t.g t.c)(h2:Gen r.g r.c):Gen (Wd.sub p t r).g (Wd.sub p t r).c:=by
 have h3:=(Gen.child 8 h1).seq ((Gen.op (o:=15) (a:=0) (by decide)).seq h2)
 intro s hs
 simp only[Wd.g,Wd.c,hs,if_true]
 exact h3 s hs
theorem uq{x:Tr}{r:Ws}(h1:Gen x.g x.c)(h2:Gen (r.g 10) (r.c 10)):Gen (Tr.sub x r).g (Tr.sub x r).c:=by
 have h3:=Gen.saved r.nil? ((Gen.child 0 h1).seq (Gen.op (o:=14) (a:=0) (by decide))) h2
 intro s hs
 simp only[Tr.g,Tr.c,hs,if_true]
 exact h3 s hs
theorem wQ{x:Tr}{r:Ws}(h1:Gen x.g x.c)(h2:Gen (r.g 10) (r.c 10)):Gen (Tr.grp x r).g (Tr.grp x r).c:=by
 have h3:=Gen.saved r.nil? h1 h2
 intro s hs
 simp only[Tr.g,Tr.c,hs,if_true]
 exact h3 s hs
theorem ur{x:Tr}(h1:Gen x.g x.c):Gen (Tr.back x).g (Tr.back x).c:=by
 have h3:=(Gen.child 4 h1).seq (Gen.op (o:=5) (a:=0) (by decide))
 intro s hs
 simp only[Tr.g,Tr.c,hs,if_true]
 exact h3 s hs
theorem wR{c t:Tr}{r:Ws}(h0:Gen c.g c.c)(h1:Gen t.g t.c)(h2:Gen (r.g 10) (r.c 10)):Gen (Tr.iff c t r).g (Tr.iff c t r).c:=by
 have h3:=Gen.saved r.nil? ((Gen.quiet h0).seq (Gen.alt h1 (Gen.op (o:=5) (a:=0) (by decide)))) h2
 intro s hs
 simp only[Tr.g,Tr.c,hs,if_true]
 exact h3 s hs
theorem wS{c t e:Tr}{r:Ws}(h0:Gen c.g c.c)(h1:Gen t.g t.c)(h4:Gen e.g e.c)(h2:Gen (r.g 10) (r.c 10)):Gen (Tr.ife c t e r).g (Tr.ife c t e r).c:=by
 have h3:=Gen.saved r.nil? ((Gen.quiet h0).seq (Gen.alt h1 h4)) h2
 intro s hs
 simp only[Tr.g,Tr.c,hs,if_true]
 exact h3 s hs
theorem ut{u:Bool}{c b:Tr}{r:Ws}(h0:Gen c.g c.c)(h1:Gen b.g b.c)(h2:Gen (r.g 10) (r.c 10)):Gen (Tr.loop u c b r).g (Tr.loop u c b r).c:=by
 have h3:=Gen.saved r.nil? ((Gen.loop (o:=if u then 2 else 3) (by grind) (Gen.quiet h0) h1).seq (Gen.op (o:=5) (a:=0) (by decide))) h2
 intro s hs
 simp only[Tr.g,Tr.c,hs,if_true]
 exact h3 s hs
theorem yV{n:ab}{b:Tr}(h1:Gen b.g b.c):Gen (Tr.fn n b).g (Tr.fn n b).c:=by
 have h3:=(Gen.fn n h1).seq (Gen.op (o:=5) (a:=0) (by decide))
 intro s hs
 simp only[Tr.g,Tr.c,hs,if_true]
 exact h3 s hs
theorem yW{o:Bool}{x y:Tr}(h0:Gen x.g x.c)(h1:Gen y.g y.c):Gen (Tr.ao o x y).g (Tr.ao o x y).c:=by
 have h3:=(Gen.quiet h0).seq (Gen.over (o:=if o then 2 else 3) (by grind) h1)
 intro s hs
 simp only[Tr.g,Tr.c,hs,if_true]
 exact h3 s hs
theorem wT{n:ab}{w:Ws}{b:Tr}{r:Ws}(h0:Gen (w.g 7) (w.c 7))(h1:Gen b.g b.c)(h2:Gen (r.g 10) (r.c 10)):Gen (Tr.for_ n w b r).g (Tr.for_ n w b r).c:=by
 have h3:=Gen.saved r.nil? ((Gen.op (o:=6) (a:=0) (by decide)).seq (h0.seq ((Gen.add (x:={op:=17,s:=n}) rfl).seq ((Gen.op (o:=5) (a:=0) (by decide)).seq (Gen.each h1))))) h2
 intro s hs
 simp only[Tr.g,Tr.c,hs,if_true]
 exact h3 s hs
theorem pg{b:Bool}{F G:PS->PS}{f g:K}(h1:Gen F f)(h2:Gen G g):Gen (fun s=>if b then F s else G s) (if b then f else g):=by
 cases b with
 |true=>exact h1
 |false=>exact h2
theorem uu{g:Bool}{l:Ts}(h0:Gen (l.gp true) (l.cp true)):Gen (Tr.pipe g l).g (Tr.pipe g l).c:=by
 have h1:Gen (fun s=>if 1<l.nds.length then PS.op s 14 0 else s) (if 1<l.nds.length then K.o 14 0 else K.nil):=by
  by_cases h:1<l.nds.length
  ·grind[Gen.op]
  ·simp only[h,if_false];exact Gen.id
 have h2:=h0.seq h1
 cases g with
 |true=>
  have h3:=(Gen.op (o:=24) (a:=1) (by decide)).seq (h2.seq ((Gen.op (o:=24) (a:=-1) (by decide)).seq (Gen.op (o:=4) (a:=0) (by decide))));intro s hs;simp only[Tr.g,Tr.c,hs,if_true];exact h3 s hs
 |false=>
  have h3:=h2.seq (Gen.op (o:=25) (a:=0) (by decide));intro s hs;simp only[Tr.g,Tr.c,hs,if_true,Bool.false_eq_true,if_false];exact h3 s hs
theorem ph{a w r:Ws}(h0:Gen (a.g 8) (a.c 8))(h1:Gen (w.g 7) (w.c 7))(h2:Gen (r.g 10) (r.c 10)):Gen (Tr.simple a w r).g (Tr.simple a w r).c:=by
 have e1:=pg (b:=w.nil?) Gen.id ((Gen.op (o:=6) (a:=0) (by decide)).seq h1)
 have e2:=pg (b:=w.nil?) (pg (b:=a.plain&&r.plain) (Gen.op (o:=5) (a:=0) (by decide)) Gen.id) (Gen.op (o:=12) (a:=0) (by decide))
 have h3:=Gen.saved r.nil? (e1.seq (h0.seq e2)) h2
 intro s hs
 simp only[Tr.g,Tr.c,hs,if_true]
 exact h3 s hs
def Ws.pl:Ws->Nat->Nat->List Nat
 |.nil,_,_=>[]
 |.cons _ w r,p,i=>(p+(w.c p i).length)::r.pl (p+(w.c p i).length+1) (i+itm (w.c p i))
def Am.pls:Am->Nat->Nat->List (List Nat)
 |.nil,_,_=>[]
 |.cons w _ r,p,i=>w.pl p i::r.pls (p+(w.cm 0 p i).length) (i+itm (w.cm 0 p i))
def Am.ends:Am->Nat->Nat->List Nat
 |.nil,_,_=>[]
 |.cons _ b r,p,i=>(p+1+(b.c (p+1) i).length)::r.ends (p+1+(b.c (p+1) i).length+1) (i+itm (b.c (p+1) i))
theorem ib(g:Tg)(w:Wd)(r:Ws)(t p i:Nat):(Ws.cons g w r).cm t p i=w.c p i++({op:=20,a:=(t:Nat),w:=w.ps}:Ins)::r.cm t (p+(w.c p i).length+1) (i+itm (w.c p i)):=by
 simp_all[Ws.cm,K.seq,K.one,aJ,bU,aD]
theorem fp:∀(ws:Ws) (t u p i:Nat),(ws.cm t p i).length=(ws.cm u p i).length/\itm (ws.cm t p i)=itm (ws.cm u p i)
 |.nil,t,u,p,i=>⟨rfl,rfl⟩
 |.cons g w r,t,u,p,i=>by
  obtain⟨h1,h2⟩:=fp r t u (p+(w.c p i).length+1) (i+itm (w.c p i));grind[ib,bu,aJ,aD]
theorem ic(w:Ws)(b:Tr)(r:Am)(l:List Nat)(p i:Nat):(Am.cons w b r).cw l p i=w.cm (l.headD 0) p i++r.cw l.tail (p+(w.cm 0 p i).length) (i+itm (w.cm 0 p i)):=by
 obtain⟨h1,h2⟩:=fp w (l.headD 0) 0 p i
 simp_all[Am.cw,K.seq]
theorem jk:∀(r:Am) (t u:List Nat) (p i:Nat),(r.cw t p i).length=(r.cw u p i).length/\itm (r.cw t p i)=itm (r.cw u p i)
 |.nil,t,u,p,i=>⟨rfl,rfl⟩
 |.cons w b r,t,u,p,i=>by
  obtain⟨h1,h2⟩:=jk r t.tail u.tail (p+(w.cm 0 p i).length) (i+itm (w.cm 0 p i));grind[fp,ic,bu]
theorem ie(w:Ws)(b:Tr)(r:Am)(e p i:Nat):(Am.cons w b r).cb e p i=({op:=5}:Ins)::(b.c (p+1) i++({op:=1,a:=(e:Nat)}:Ins)::r.cb e (p+1+(b.c (p+1) i).length+1) (i+itm (b.c (p+1) i))):=by
 simp only[Am.cb,K.seq,K.o,K.one,List.length_singleton,List.cons_append,List.nil_append]
 simp[aJ,bU,aD]
theorem lX:∀(r:Am) (t u p i:Nat),(r.cb t p i).length=(r.cb u p i).length/\itm (r.cb t p i)=itm (r.cb u p i)
 |.nil,t,u,p,i=>⟨rfl,rfl⟩
 |.cons w b r,t,u,p,i=>by
  obtain⟨h1,h2⟩:=lX r t u (p+1+(b.c (p+1) i).length+1) (i+itm (b.c (p+1) i));grind[ie,bu,aJ,aD]
def uv(ws:Ws):Prop:=∀(l:List Ins) (i:Nat) (ps:List Nat),ws.gw ⟨l,i,0⟩ ps=(⟨l++ws.cm 0 l.length i,i+itm (ws.cm 0 l.length i),0⟩,ps++ws.pl l.length i)
theorem uw:uv .nil:=fun l i ps=>by simp[Ws.gw,Ws.cm,Ws.pl,K.nil,bU]
theorem rL{g:Tg}{w:Wd}{r:Ws}(h1:Gen w.g w.c)(h2:uv r):uv (.cons g w r):=fun l i ps=>by
 obtain⟨n,hn⟩:∃n,w.c l.length i=n:=⟨_,rfl⟩
 simp only[Ws.gw,h1.run,hn,PS.add]
 rw[h2,ib,hn]
 grind[Ws.pl,bu,aJ,aD]
theorem qr:∀(ws:Ws) (A B:List Ins) (i j e:Nat),PS.heres ⟨A++(ws.cm 0 A.length j++B),i,e⟩ (ws.pl A.length j)=⟨A++(ws.cm (A++(ws.cm 0 A.length j++B)).length A.length j++B),i,e⟩
 |.nil,A,B,i,j,e=>rfl
 |.cons g w r,A,B,i,j,e=>by
  obtain⟨n,hn⟩:∃n,w.c A.length j=n:=⟨_,rfl⟩;have hs:=fp r;rw[ib,ib,hn];simp only[Ws.pl,hn,PS.heres];obtain⟨T,hT⟩:∃T,(A++(n++({op:=20,a:=(0:Nat),w:=w.ps}:Ins)::r.cm 0 (A.length+n.length+1) (j+itm n)++B)).length=T:=⟨_,rfl⟩;rw[hT,ef (l:=A++n) (x:=({op:=20,a:=(0:Nat),w:=w.ps}:Ins)) (r:=r.cm 0 (A.length+n.length+1) (j+itm n)++B) (by simp) (by simp),hT];have hl:(A++n++[Ins.setA ({op:=20,a:=(0:Nat),w:=w.ps}:Ins) (T:Nat)]).length=A.length+n.length+1:=by grind
  have h1:=qr r (A++n++[Ins.setA ({op:=20,a:=(0:Nat),w:=w.ps}:Ins) (T:Nat)]) B i (j+itm n) e;grind[Ins.setA,itm]
def rM(r:Am):Prop:=∀(l:List Ins) (i:Nat) (hs:List (List Nat)),r.gm ⟨l,i,0⟩ hs=(⟨l++r.cw [] l.length i,i+itm (r.cw [] l.length i),0⟩,hs++r.pls l.length i)
theorem uy:rM .nil:=fun l i hs=>by simp[Am.gm,Am.cw,Am.pls,K.nil,bU]
theorem rN{w:Ws}{b:Tr}{r:Am}(h1:uv w)(h2:rM r):rM (.cons w b r):=fun l i hs=>by
 simp only[Am.gm,h1 l i []]
 rw[h2,ic]
 grind[Am.pls,bu]
def rO(r:Am):Prop:=∀(A B:List Ins) (i j q:Nat) (es:List Nat),q=(A++(r.cw [] A.length j++B)).length->r.gb ⟨A++(r.cw [] A.length j++B),i,0⟩ (r.pls A.length j) es=(⟨A++(r.cw (r.pos q i) A.length j++(B++r.cb 0 q i)),i+itm (r.cb 0 q i),0⟩,es++r.ends q i)
theorem uA:rO .nil:=fun A B i j q es hq=>by simp[Am.gb,Am.cw,Am.pls,Am.pos,Am.cb,Am.ends,K.nil,bU]
theorem rP{w:Ws}{b:Tr}{r:Am}(h1:Gen b.g b.c)(h2:rO r):rO (.cons w b r):=fun A B i j q es hq=>by
 obtain⟨h3,h4⟩:=fp w q 0 A.length j
 rw[ic]at hq |-
 rw[ic]
 simp only[Am.pls,Am.pos,Am.ends,Am.gb,List.headD_cons,List.headD_nil,List.tail_cons,List.tail_nil]at hq |-
 obtain⟨M,hM⟩:∃M,r.cw [] (A.length+(w.cm 0 A.length j).length) (j+itm (w.cm 0 A.length j))=M:=⟨_,rfl⟩
 rw[hM]at hq |-
 rw[List.append_assoc]at hq |-
 rw[qr w A (M++B) i j 0,<- hq]
 obtain⟨n,hn⟩:∃n,b.c (q+1) i=n:=⟨_,rfl⟩
 have hq2:(A++(w.cm q A.length j++(M++B))).length=q:=by
  grind
 have e1:b.g (PS.op ⟨A++(w.cm q A.length j++(M++B)),i,0⟩ 5 0)=⟨A++(w.cm q A.length j++(M++B))++({op:=5}:Ins)::n,i+itm n,0⟩:=by
  rw[show PS.op ⟨A++(w.cm q A.length j++(M++B)),i,0⟩ 5 0=⟨A++(w.cm q A.length j++(M++B))++[({op:=5}:Ins)],i,0⟩from rfl,h1.run,et,hq2,hn];simp
 rw[e1]
 have h5:=h2 (A++w.cm q A.length j) (B++({op:=5}:Ins)::(n++[({op:=1}:Ins)])) (i+itm n) (j+itm (w.cm 0 A.length j)) (q+1+n.length+1) (es++[q+1+n.length])
 rw[show(A++w.cm q A.length j).length=A.length+(w.cm 0 A.length j).length by grind,hM]at h5
 have h6:=h5 (by grind)
 rw[show PS.op ⟨A++(w.cm q A.length j++(M++B))++({op:=5}:Ins)::n,i+itm n,0⟩ 1 0=⟨A++w.cm q A.length j++(M++(B++({op:=5}:Ins)::(n++[({op:=1}:Ins)]))),i+itm n,0⟩ by simp[PS.op,PS.add]]
 rw[show(A++(w.cm q A.length j++(M++B))++({op:=5}:Ins)::n).length=q+1+n.length by grind]
 rw[h6,ie]
 simp only[hn,bu,aJ,aD,List.append_assoc,List.cons_append,List.nil_append]
 grind
theorem qt:∀(r:Am) (A B:List Ins) (i j e:Nat),PS.heres ⟨A++(r.cb 0 A.length j++B),i,e⟩ (r.ends A.length j)=⟨A++(r.cb (A++(r.cb 0 A.length j++B)).length A.length j++B),i,e⟩
 |.nil,A,B,i,j,e=>rfl
 |.cons w b r,A,B,i,j,e=>by
  obtain⟨n,hn⟩:∃n,b.c (A.length+1) j=n:=⟨_,rfl⟩;rw[ie,ie,hn];simp only[Am.ends,hn,PS.heres];obtain⟨T,hT⟩:∃T,(A++(({op:=5}:Ins)::(n++({op:=1,a:=(0:Nat)}:Ins)::r.cb 0 (A.length+1+n.length+1) (j+itm n))++B)).length=T:=⟨_,rfl⟩;rw[hT,ef (l:=A++({op:=5}:Ins)::n) (x:=({op:=1,a:=(0:Nat)}:Ins)) (r:=r.cb 0 (A.length+1+n.length+1) (j+itm n)++B) (by simp) (by grind),hT];have hl:(A++({op:=5}:Ins)::n++[Ins.setA ({op:=1,a:=(0:Nat)}:Ins) (T:Nat)]).length=A.length+1+n.length+1:=by grind
  have h1:=qt r (A++({op:=5}:Ins)::n++[Ins.setA ({op:=1,a:=(0:Nat)}:Ins) (T:Nat)]) B i (j+itm n) e;grind[Ins.setA,itm]
theorem rQ{l:Am}(h1:rM l)(h2:rO l):Gen (fun s=>((l.gb (((l.gm s []).1.op 5 0).op 1 0) (l.gm s []).2 [((l.gm s []).1.op 5 0).c.length]).1.heres (l.gb (((l.gm s []).1.op 5 0).op 1 0) (l.gm s []).2 [((l.gm s []).1.op 5 0).c.length]).2).op 21 0) (K.case l.cw l.cb l.pos):=fun s hs=>by
 obtain⟨c,i,e⟩:=s
 cases hs
 obtain⟨N,hN⟩:∃N,l.cw [] c.length i=N:=⟨_,rfl⟩
 simp only[h1 c i [],List.nil_append,hN]
 have e1:PS.op (PS.op ⟨c++N,i+itm N,0⟩ 5 0) 1 0=⟨c++(N++[({op:=5}:Ins),({op:=1}:Ins)]),i+itm N,0⟩:=by simp[PS.op,PS.add]
 have e2:(PS.op ⟨c++N,i+itm N,0⟩ 5 0).c.length=c.length+N.length+1:=by grind[PS.op,PS.add]
 have h3:=h2 c [({op:=5}:Ins),({op:=1}:Ins)] (i+itm N) i (c.length+N.length+2) [c.length+N.length+1] (by grind)
 rw[hN]at h3
 rw[e1,e2,h3]
 obtain⟨N2,hN2⟩:∃N2,l.cw (l.pos (c.length+N.length+2) (i+itm N)) c.length i=N2:=⟨_,rfl⟩
 obtain⟨hl,hi⟩:=jk l (l.pos (c.length+N.length+2) (i+itm N)) [] c.length i
 rw[hN2,hN]at hl hi
 obtain⟨m,hm⟩:∃m,(l.cb 0 (c.length+N.length+2) (i+itm N)).length=m:=⟨_,rfl⟩
 simp only[hN2,PS.heres,List.cons_append,List.nil_append]
 have hT:(c++(N2++({op:=5}:Ins)::({op:=1}:Ins)::l.cb 0 (c.length+N.length+2) (i+itm N))).length=c.length+N.length+2+m:=by grind
 rw[ef (l:=c++(N2++[({op:=5}:Ins)])) (x:=({op:=1}:Ins)) (r:=l.cb 0 (c.length+N.length+2) (i+itm N)) (by simp) (by grind),hT]
 have h4:=qt l (c++(N2++[({op:=5}:Ins)])++[Ins.setA ({op:=1}:Ins) ((c.length+N.length+2+m:Nat):Int)]) [] (i+itm N+itm (l.cb 0 (c.length+N.length+2) (i+itm N))) (i+itm N) 0
 rw[show(c++(N2++[({op:=5}:Ins)])++[Ins.setA ({op:=1}:Ins) ((c.length+N.length+2+m:Nat):Int)]).length=c.length+N.length+2 by grind,List.append_nil]at h4
 rw[show c++(N2++[({op:=5}:Ins)])++Ins.setA ({op:=1}:Ins) ((c.length+N.length+2+m:Nat):Int)::l.cb 0 (c.length+N.length+2) (i+itm N)=c++(N2++[({op:=5}:Ins)])++[Ins.setA ({op:=1}:Ins) ((c.length+N.length+2+m:Nat):Int)]++l.cb 0 (c.length+N.length+2) (i+itm N) by simp,h4]
 rw[show(c++(N2++[({op:=5}:Ins)])++[Ins.setA ({op:=1}:Ins) ((c.length+N.length+2+m:Nat):Int)]++l.cb 0 (c.length+N.length+2) (i+itm N)).length=c.length+N.length+2+m by grind]
 obtain⟨h5,h6⟩:=lX l (c.length+N.length+2+m) 0 (c.length+N.length+2) (i+itm N)
 simp only[K.case,hN,hN2,hm,PS.op,PS.add,bu,aJ,bU,aD,Ins.setA,hi,h6]
 grind
theorem uB{w:Wd}{l:Am}{r:Ws}(h0:Gen w.g w.c)(h1:rM l)(h2:rO l)(h3:Gen (r.g 10) (r.c 10)):Gen (Tr.case_ w l r).g (Tr.case_ w l r).c:=by
 have h4:=Gen.saved r.nil? (h0.seq ((Gen.add (x:={op:=19,w:=w.ps}) rfl).seq (rQ h1 h2))) h3
 intro s hs
 simp only[Tr.g,Tr.c,hs,if_true]
 exact h4 s hs
theorem wU{x:Tr}{r:Ts}(h1:Gen x.g x.c)(h2:ul r):Gen (fun s=>(Ts.cons x r).gl none s) (Ts.cons x r).cl:=fun s hs=>by
 obtain⟨c,i,e⟩:=s
 cases hs
 obtain⟨n,hn⟩:∃n,x.c (c.length+1) (i+1)=n:=⟨_,rfl⟩
 have e1:x.g (PS.item ⟨c,i,0⟩ none)=⟨c++({op:=0,a:=(i+1:Nat)}:Ins)::n,i+1+itm n,0⟩:=by
  simp only[PS.item,PS.add];rw[h1.run,et,hn];simp
 simp only[Ts.gl,e1]
 rw[h2]
 simp only[Ts.cl,K.seq,K.item,hn]
 grind[itm,aJ,bu,aD,Ins.setB]
mutual
theorem Wd.gen:∀w:Wd,w.fine=true->Gen w.g w.c
 |.nil,_=>fun s hs=>by simp only[Wd.g,Wd.c];exact Gen.id s hs
 |.lit p r,h=>fun s hs=>by simp only[Wd.g,Wd.c];exact Wd.gen r (by grind[Wd.fine]) s hs
 |.sub p t r,h=>by
  simp only[Wd.fine,Bool.and_eq_true]at h;exact wP (Tr.gen t h.1) (Wd.gen r h.2)
 |.bad p f r,h=>by simp[Wd.fine]at h
theorem Ws.gen:∀w:Ws,w.fine=true->(∀o,o≠0->Gen (w.g o) (w.c o))/\uv w
 |.nil,_=>⟨fun o ho s hs=>by simp only[Ws.g,Ws.c];exact Gen.id s hs,uw⟩
 |.cons g w r,h=>by
  simp only[Ws.fine,Bool.and_eq_true]at h;exact⟨fun o ho=>uo ho g (Wd.gen w h.1) ((Ws.gen r h.2).1 o ho),rL (Wd.gen w h.1) (Ws.gen r h.2).2⟩
theorem Tr.gen:∀t:Tr,t.fine=true->Gen t.g t.c
 |.simple a w r,h=>by
  simp_all[Tr.fine,ph,Ws.gen]
 |.pipe g l,h=>uu ((Ts.gen l (by grind[Tr.fine])).2.1 true)
 |.ao o x y,h=>by
  simp only[Tr.fine,Bool.and_eq_true]at h;exact yW (Tr.gen x h.1) (Tr.gen y h.2)
 |.lst l,h=>fun s hs=>by
  simp only[Tr.g,Tr.c,hs,if_true];exact(Ts.gen l (by grind[Tr.fine])).2.2 s hs
 |.back x,h=>ur (Tr.gen x (by grind[Tr.fine]))
 |.sub x r,h=>by
  simp only[Tr.fine,Bool.and_eq_true]at h;exact uq (Tr.gen x h.1) ((Ws.gen r h.2).1 10 (by decide))
 |.grp x r,h=>by
  simp only[Tr.fine,Bool.and_eq_true]at h;exact wQ (Tr.gen x h.1) ((Ws.gen r h.2).1 10 (by decide))
 |.iff c t r,h=>by
  simp only[Tr.fine,Bool.and_eq_true]at h;exact wR (Tr.gen c h.1.1) (Tr.gen t h.1.2) ((Ws.gen r h.2).1 10 (by decide))
 |.ife c t e r,h=>by
  simp only[Tr.fine,Bool.and_eq_true]at h;exact wS (Tr.gen c h.1.1.1) (Tr.gen t h.1.1.2) (Tr.gen e h.1.2) ((Ws.gen r h.2).1 10 (by decide))
 |.loop u c b r,h=>by
  simp only[Tr.fine,Bool.and_eq_true]at h;exact ut (Tr.gen c h.1.1) (Tr.gen b h.1.2) ((Ws.gen r h.2).1 10 (by decide))
 |.for_ n w b r,h=>by
  simp only[Tr.fine,Bool.and_eq_true]at h;exact wT ((Ws.gen w h.1.1).1 7 (by decide)) (Tr.gen b h.1.2) ((Ws.gen r h.2).1 10 (by decide))
 |.case_ w l r,h=>by
  simp_all[Tr.fine,uB,Wd.gen,Am.gen,Ws.gen]
 |.fn n b,h=>yV (Tr.gen b (by grind[Tr.fine]))
theorem Ts.gen:∀l:Ts,l.fine=true->ul l/\(∀b,Gen (l.gp b) (l.cp b))/\Gen (fun s=>l.gl none s) l.cl
 |.nil,_=>⟨um,un,fun s hs=>by simp only[Ts.gl,Ts.cl];exact Gen.id s hs⟩
 |.cons x r,h=>by
  simp only[Ts.fine,Bool.and_eq_true]at h;obtain⟨h1,h2,h3⟩:=Ts.gen r h.2;simp_all[rJ,Tr.gen,rK,wU]
theorem Am.gen:∀l:Am,l.fine=true->rM l/\rO l
 |.nil,_=>⟨uy,uA⟩
 |.cons w b r,h=>by
  simp only[Am.fine,Bool.and_eq_true]at h;obtain⟨h1,h2⟩:=Am.gen r h.2;simp_all[rN,Ws.gen,rP,Tr.gen]
end
theorem qu:∀(l:Am) (p i:Nat),(l.pos p i).length=l.nds.length
 |.nil,_,_=>rfl
 |.cons w b r,p,i=>by simp only[Am.pos,Am.nds,List.length_cons,qu r]
def i8:Nat->List Ins->Prop
 |_,[]=>True
 |n,x::r=>(aD x=true->x.a=(n+1:Nat))/\i8 (n+if aD x then 1 else 0) r
def bok(t:Nat)(l:List Ins):Prop:=∀x∈l,aD x=true->x.b=0\/(x.a<x.b/\x.b<=t)
theorem j':∀(n:Nat) (a b:List Ins),i8 n a->i8 (n+itm a) b->i8 n (a++b)
 |n,[],b,_,h=>by grind[bU]
 |n,x::a,b,h1,h2=>by
  obtain⟨h3,h4⟩:=h1;refine⟨h3,j' _ a b h4 ?_⟩;grind[aJ]
theorem wV{n:Nat}{x:Ins}{r:List Ins}(hx:aD x=false)(h:i8 n r):i8 n (x::r):=by
 refine⟨fun e=>(by grind),?_⟩
 grind
theorem wW{t:Nat}{a b:List Ins}(h1:bok t a)(h2:bok t b):bok t (a++b):=fun x hx=>by
 rcases List.mem_append.1 hx with hx|hx
 ·exact h1 x hx
 ·exact h2 x hx
theorem yX{t:Nat}{x:Ins}{r:List Ins}(hx:aD x=false)(h:bok t r):bok t (x::r):=fun y hy=>by
 rcases List.mem_cons.1 hy with rfl|hy
 ·grind
 ·exact h y hy
theorem wX{t:Nat}:bok t []:=fun x hx=>by cases hx
theorem pj{t u:Nat}{l:List Ins}(h:bok t l)(hu:t<=u):bok u l:=fun x hx e=>(h x hx e).imp id fun h=>⟨h.1,by omega⟩
def NI(n:Nat)(l:List Ins):Prop:=i8 n l/\bok (n+itm l) l
theorem NI.nil{n:Nat}:NI n []:=⟨trivial,wX⟩
theorem NI.app{n:Nat}{a b:List Ins}(h1:NI n a)(h2:NI (n+itm a) b):NI n (a++b):=
 ⟨j' _ _ _ h1.1 h2.1,wW (pj h1.2 (by rw[bu];omega)) (pj h2.2 (by rw[bu];omega))⟩
theorem NI.no{n:Nat}{x:Ins}{r:List Ins}(h:NI n r)(hx:aD x=false:=by rfl):NI n (x::r):=
 ⟨wV hx h.1,yX hx (pj h.2 (by rw[aJ];omega))⟩
theorem NI.one{n:Nat}{x:Ins}(hx:aD x=false:=by rfl):NI n [x]:=NI.nil.no hx
def Nm(f:K):Prop:=∀p i,NI i (f p i)
theorem Nm.seq{f g:K}(hf:Nm f)(hg:Nm g):Nm (f.seq g):=fun p i=>(hf p i).app (hg _ _)
theorem Nm.nil:Nm K.nil:=fun _ _=>NI.nil
theorem Nm.one{x:Ins}(hx:aD x=false:=by rfl):Nm (K.one x):=fun _ _=>NI.one hx
theorem Nm.o{o:Nat}{a:Int}(h:o≠0:=by decide):Nm (K.o o a):=Nm.one (by simp[aD,h])
theorem Nm.child{f:K}(k:Int)(hf:Nm f):Nm (K.child k f):=fun p i=>((hf (p+1) i).app NI.one).no
theorem Nm.quiet{f:K}(hf:Nm f):Nm (K.quiet f):=(Nm.o).seq (hf.seq Nm.o)
theorem Nm.over{f:K}{o:Nat}(h:o≠0)(hf:Nm f):Nm (K.over o f):=fun p i=>(hf (p+1) i).no (by simp[aD,h])
theorem Nm.alt{f g:K}(hf:Nm f)(hg:Nm g):Nm (K.alt f g):=fun p i=>NI.no ((hf (p+1) i).app ((hg _ _).no))
theorem Nm.loop{f g:K}{o:Nat}(h:o≠0)(hf:Nm f)(hg:Nm g):Nm (K.loop o f g):=fun p i=>(hf p i).app (NI.no ((hg _ _).app NI.one) (by simp[aD,h]))
theorem Nm.each{f:K}(hf:Nm f):Nm (K.each f):=fun p i=>NI.no ((hf (p+1) i).app NI.one)
theorem Nm.fn{f:K}(n:ab)(hf:Nm f):Nm (K.fn n f):=fun p i=>NI.no (NI.no ((hf (p+2) i).app NI.one))
theorem Nm.saved{r f:K}(b:Bool)(hr:Nm r)(hf:Nm f):Nm (K.saved b r f):=by
 unfold K.saved
 split
 ·exact hf
 ·exact(Nm.o).seq (hr.seq (hf.seq Nm.o))
theorem Nm.ite{b:Prop}[Decidable b]{f g:K}(hf:Nm f)(hg:Nm g):Nm (if b then f else g):=by grind
def NmA(l:Am):Prop:=(∀t,Nm (l.cw t))/\∀e,Nm (l.cb e)
theorem uC{l:Am}(h:NmA l):Nm (K.case l.cw l.cb l.pos):=fun p i=>by
 simp only[K.case]
 have h1:=h.1 (l.pos (p+(l.cw [] p i).length+2) (i+itm (l.cw [] p i))) p i
 refine h1.app (NI.no (NI.no ?_))
 rw[(jk l (l.pos (p+(l.cw [] p i).length+2) (i+itm (l.cw [] p i))) [] p i).2]
 exact(h.2 _ _ _).app NI.one
theorem wY{x:K}{r:Ts}(h1:Nm x)(h2:Nm r.cl)(h3:r.nil? =false->∀p i,0<itm (r.cl p i)):Nm ((K.item (!r.nil?) x).seq r.cl):=fun p i=>by
 obtain⟨m,hm⟩:∃m,x (p+1) (i+1)=m:=⟨_,rfl⟩
 have h4:=h1 (p+1) (i+1)
 simp only[K.seq,K.item,hm]at h4 |-
 obtain⟨y,hy⟩:∃y:Ins,({op:=0,a:=(i+1:Nat),b:=if(!r.nil?)=true then((i+1+itm m+1:Nat):Int)else 0}:Ins)=y:=⟨_,rfl⟩
 have hyi:aD y=true:=by rw[<- hy];rfl
 have hya:y.a=(i+1:Nat):=by rw[<- hy]
 have hyb:y.b=if(!r.nil?)=true then((i+1+itm m+1:Nat):Int)else 0:=by rw[<- hy]
 rw[hy]
 have h5:=h2 (p+(y::m).length) (i+itm (y::m))
 have h7:itm (y::m)=itm m+1:=by grind[aJ]
 have h6:NI (i+1) (m++r.cl (p+(y::m).length) (i+itm (y::m))):=h4.app (by grind)
 refine⟨⟨fun _=>hya,by rw[hyi];exact h6.1⟩,fun z hz e=>?_⟩
 rcases List.mem_cons.1 hz with rfl|hz
 ·grind[itm,aJ,bu]
 ·rcases h6.2 z hz e with h|⟨ha,hb⟩
  ·omega
  grind[aJ,bu]
theorem yY:∀(r:Ts),r.nil? =false->∀p i,0<itm (r.cl p i)
 |.nil,h,_,_=>by cases h
 |.cons x r,_,p,i=>by
  simp_all[Ts.cl,K.seq,K.item,bu,aJ,aD]
mutual
theorem Wd.nm:∀w:Wd,Nm w.c
 |.nil=>fun p i=>by simp only[Wd.c];exact NI.nil
 |.lit p r=>fun a b=>by simp only[Wd.c];exact Wd.nm r a b
 |.sub p t r=>fun a b=>by simp only[Wd.c];exact((Tr.nm t).child 8).seq ((Nm.o).seq (Wd.nm r)) a b
 |.bad p f r=>fun a b=>by simp only[Wd.c];exact Wd.nm r a b
theorem Ws.nm:∀w:Ws,(∀o,o≠0->Nm (w.c o))/\∀t,Nm (w.cm t)
 |.nil=>⟨fun o _ p i=>by simp only[Ws.c];exact NI.nil,fun t p i=>by simp only[Ws.cm];exact NI.nil⟩
 |.cons g w r=>⟨fun o h1 a b=>by simp only[Ws.c];exact(Wd.nm w).seq ((Nm.one (by simp[aD,h1])).seq ((Ws.nm r).1 o h1)) a b,fun t a b=>by simp only[Ws.cm];exact(Wd.nm w).seq ((Nm.one).seq ((Ws.nm r).2 t)) a b⟩
theorem Tr.nm:∀t:Tr,Nm t.c
 |.simple a w r=>fun x y=>by
  simp only[Tr.c];exact Nm.saved _ ((Ws.nm r).1 10 (by decide)) ((Nm.ite Nm.nil ((Nm.o).seq ((Ws.nm w).1 7 (by decide)))).seq (((Ws.nm a).1 8 (by decide)).seq (Nm.ite (Nm.ite Nm.o Nm.nil) Nm.o))) x y
 |.pipe g l=>fun x y=>by
  simp only[Tr.c];have h:=((Ts.nm l).2 true).seq (Nm.ite (b:=1<l.nds.length) (Nm.o (o:=14) (a:=0)) Nm.nil);exact Nm.ite ((Nm.o).seq (h.seq ((Nm.o).seq Nm.o))) (h.seq Nm.o) x y
 |.ao o x y=>fun a b=>by
  simp only[Tr.c];exact(Tr.nm x).quiet.seq (Nm.over (by grind) (Tr.nm y)) a b
 |.lst l=>fun a b=>by simp only[Tr.c];exact(Ts.nm l).1 a b
 |.back x=>fun a b=>by simp only[Tr.c];exact((Tr.nm x).child 4).seq Nm.o a b
 |.sub x r=>fun a b=>by simp only[Tr.c];exact Nm.saved _ ((Ws.nm r).1 10 (by decide)) (((Tr.nm x).child 0).seq Nm.o) a b
 |.grp x r=>fun a b=>by simp only[Tr.c];exact Nm.saved _ ((Ws.nm r).1 10 (by decide)) (Tr.nm x) a b
 |.iff c t r=>fun a b=>by simp only[Tr.c];exact Nm.saved _ ((Ws.nm r).1 10 (by decide)) ((Tr.nm c).quiet.seq ((Tr.nm t).alt Nm.o)) a b
 |.ife c t e r=>fun a b=>by simp only[Tr.c];exact Nm.saved _ ((Ws.nm r).1 10 (by decide)) ((Tr.nm c).quiet.seq ((Tr.nm t).alt (Tr.nm e))) a b
 |.loop u c b r=>fun a e=>by simp only[Tr.c];exact Nm.saved _ ((Ws.nm r).1 10 (by decide)) ((Nm.loop (by grind) (Tr.nm c).quiet (Tr.nm b)).seq Nm.o) a e
 |.for_ n w b r=>fun a e=>by simp only[Tr.c];exact Nm.saved _ ((Ws.nm r).1 10 (by decide)) ((Nm.o).seq (((Ws.nm w).1 7 (by decide)).seq ((Nm.one).seq ((Nm.o).seq (Tr.nm b).each)))) a e
 |.case_ w l r=>fun a e=>by simp only[Tr.c];exact Nm.saved _ ((Ws.nm r).1 10 (by decide)) ((Wd.nm w).seq ((Nm.one).seq (uC (Am.nm l)))) a e
 |.fn n b=>fun a e=>by simp only[Tr.c];exact((Tr.nm b).fn n).seq Nm.o a e
theorem Ts.nm:∀l:Ts,Nm l.cl/\∀b,Nm (l.cp b)
 |.nil=>⟨fun p i=>by simp only[Ts.cl];exact NI.nil,fun b p i=>by simp only[Ts.cp];exact NI.nil⟩
 |.cons x r=>⟨fun a b=>by simp only[Ts.cl];exact wY (Tr.nm x) (Ts.nm r).1 (yY r) a b,fun f a b=>by simp only[Ts.cp];exact(Nm.ite (Tr.nm x) ((Tr.nm x).child _)).seq ((Ts.nm r).2 false) a b⟩
theorem Am.nm:∀l:Am,NmA l
 |.nil=>⟨fun t p i=>by simp only[Am.cw];exact NI.nil,fun t p i=>by simp only[Am.cb];exact NI.nil⟩
 |.cons w b r=>⟨fun t p i=>by simp only[Am.cw];exact((Ws.nm w).2 _).seq ((Am.nm r).1 _) p i,fun t p i=>by simp only[Am.cb];exact(Nm.o).seq ((Tr.nm b).seq ((Nm.o).seq ((Am.nm r).2 t))) p i⟩
end
end
end Go.Proofs.YtgboffbbpmileaaGreatDoor
