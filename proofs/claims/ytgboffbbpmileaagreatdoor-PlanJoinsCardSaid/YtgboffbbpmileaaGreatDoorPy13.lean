/- Lemmas and walks for the law VLawPJoins (part 13). -/
import Derived.Test.YtgboffbbpmileaaGreatDoorPy12
import Derived.Test.YtgboffbbpmileaaGreatDoorProg
import Derived.WalkKit
import Derived.Handy
import Derived.Deep.Light
import Derived.WalkSmall
import Derived.StillTailTactics
import Derived.Lib.Hide
import Derived.Defers
import Derived.Recover
import Derived.Laws.Pointers
import Derived.Shelf.Vars
import Derived.Lib.LaidIn
set_option maxRecDepth 20000
set_option maxHeartbeats 4000000
set_option linter.unusedVariables false
set_option linter.unusedSimpArgs false
namespace Go.Proofs.YtgboffbbpmileaaGreatDoor
open Go Go.RowKit
section
theorem oV(x:Value)(W:World):(Instr.typeAssert (.iface 70 x) 20 70 true).run Tryz.prog W=.ok (.tuple #[x,.bool true]) W:=by kernel_rfl
theorem vT(bo be bl:Nat)(kz:Int)(ng:Bool)(nm:ByteArray)(aa:Option Addr)(na:Nat)(ca:Nat)(aw:Option Addr)(nw:Nat)(cw:Nat)(ar:Option Addr)(nr:Nat)(cr:Nat)(ak:Option Addr)(nk:Nat)(ck:Nat)(e0 l0 k m:Int)(older:List PanicEntry)(w:World)(hL:Kn [bo,be,bl] w w [(bo,.cells #[.int .i64 kz,.string nm,.bool ng,.slice aa na ca,.slice aw nw cw,.slice ar nr cr,.slice ak nk ck] 41 (0,0)),(be,.cells #[.int .i64 e0] 26 (0,0)),(bl,.cells #[.int .i64 l0] 3 (0,0))]):
  CallsD Tryz.prog 25 #[.pointer (some ⟨bo,0,none⟩),.pointer (some ⟨be,0,none⟩),.pointer (some ⟨bl,0,none⟩)] (.panicking ({v:=.iface 70 (.agg #[.int .i64 k,.int .i64 m]),recovered:=false}::older)) w fun e u' w'=>
   e=.returned (.tuple #[])/\u'=.panicking ({v:=.iface 70 (.agg #[.int .i64 k,.int .i64 m]),recovered:=true}::older)/\Kn [bo,be,bl] w w' [(bo,.cells #[.int .i64 0,.string ⟨#[]⟩,.bool false,.slice none 0 0,.slice none 0 0,.slice none 0 0,.slice none 0 0] 41 (0,0)),(be,.cells #[.int .i64 k] 26 (0,0)),(bl,.cells #[.int .i64 m] 3 (0,0))]:=by
 refine callsD_of_wpS Tryz.func25 rfl fun c₀ cs hu=>?_
 apply wpS_seq
 apply wpS_region
 simp[wpOpsS,go_sem,recoverD,hu,Tryz.ntmps25,Exit.thenS]
 refine wpS_of_wp ?_
 have hF:=hL.fx
 generalize hR:(fun(e:Exit) (a':Act) (w':World)=>bodyPostS _ _ _ _ _ e a' _ w')=Q2
 have key:∀(a':Act) (w':World),a'.defers=[]->Kn [bo,be,bl] w w' [(bo,.cells #[.int .i64 0,.string ⟨#[]⟩,.bool false,.slice none 0 0,.slice none 0 0,.slice none 0 0,.slice none 0 0] 41 (0,0)),(be,.cells #[.int .i64 k] 26 (0,0)),(bl,.cells #[.int .i64 m] 3 (0,0))]->Q2 .normal a' w':=by
  intro a' w' h1 h2;rw[<- hR];refine⟨h1,_,rfl,.tuple #[],?_,rfl,rfl,h2⟩;simp[results,Tryz.results25,go_sem]
 have HK:=yh key
 clear hR key
 clear hu
 obtain⟨pz,hpz⟩:∃pz,Value.iface 70 (.agg #[.int .i64 k,.int .i64 m])=pz:=⟨_,rfl⟩
 rw[hpz]
 show Code.wp _ _ _ {tmps:=#[.pointer (some ⟨bo,0,none⟩),.pointer (some ⟨be,0,none⟩),.pointer (some ⟨bl,0,none⟩),undef,undef,undef,pz,undef,undef,undef,undef,undef,undef,undef,undef,undef,undef],defers:=[]} _
 subst hpz
 have hta:=oV (.agg #[.int .i64 k,.int .i64 m])
 go_wp2_with ((with_reducible refine af 7 ?_);refine zX [0,1,2,3,4,5,6,7] [7] ?_ (sC (sD (sD (sD sR))));clear hF hL;intro ι F hne hC hG;(repeat(first|((first|refine cF hC ?_|refine cP ?_);intro K hK;go_big_quiet_op;go_big_quiet_on)|(refine cN ?_;intro W hL;(try simp only[kfb]at hL);have hF:=hL.fx;go_wp2;refine ai ?_;(first|(refine bO _ (by rfl) ?_;clear hL hF hC hG;intro ι F hne hC hFF;have hG:=fun n=>(hFF n).fx;clear hFF)|(refine a_ _ (by repeat' (first|(with_reducible exact List.nil_sublist _)|(with_reducible apply List.Sublist.cons_cons))) ?_;clear hL hF)))));refine zN ?_;clear hC hG;intro W hL hF)
 exact HK.out _ _ rfl hL.drop1
theorem BW(bo be bl:Nat)(w:World):
  CallsD Tryz.prog 25 #[.pointer (some ⟨bo,0,none⟩),.pointer (some ⟨be,0,none⟩),.pointer (some ⟨bl,0,none⟩)] .returning w fun e u' w'=>e=.returned (.tuple #[])/\u'=.returning/\w'=w:=by
 refine callsD_of_wpS Tryz.func25 rfl fun c₀ cs hu=>?_
 apply wpS_seq
 apply wpS_region
 simp[wpOpsS,go_sem,recoverD,hu,Tryz.ntmps25,Exit.thenS]
 refine wpS_of_wp ?_
 generalize hR:(fun(e:Exit) (a':Act) (w':World)=>bodyPostS _ _ _ _ _ e a' _ w')=Q2
 have key:∀(a':Act),a'.defers=[]->Q2 .normal a' w:=by
  intro a' h1;rw[<- hR];refine⟨h1,c₀.mode,?_,.tuple #[],?_,rfl,hu,rfl⟩
  ·cases c₀;rfl
  ·simp[results,Tryz.results25,go_sem]
 have HK:=yh key
 clear hR key hu
 show Code.wp _ _ _ {tmps:=#[.pointer (some ⟨bo,0,none⟩),.pointer (some ⟨be,0,none⟩),.pointer (some ⟨bl,0,none⟩),undef,undef,undef,.nilIface,undef,undef,undef,undef,undef,undef,undef,undef,undef,undef],defers:=[]} _
 go_wp2
 exact HK.out _ rfl
def TkS(x:Tok):Prop:=x.kind≠4/\x.text.length<=2/\x.plain.length<=sz x.parts
theorem oW(ps:List Prt):(bx ps).length<=sz ps:=by
 unfold bx
 split
 ·rename_i p
  split
  ·simp_all[rO]
  grind
 grind
theorem vU{l r:ab}{fd:Int}{n0 n m:Nat}{x:Tok}(h:ioS l fd n0 n=.tok x r m):TkS x:=by
 unfold ioS at h
 split at h<;>(injection h with h1;subst h1;refine⟨by simp[ioT],?_,by simp[ioT]⟩;grind[ioT])
theorem yy{c:UInt8}{t r:ab}{n m:Nat}{x:Tok}(h:aT c t n=.tok x r m):TkS x:=by
 unfold aT at h
 split at h
 ·cases h
 split at h
 ·cases h
 split at h
 ·injection h with h1;subst h1;exact⟨by simp,by simp,by simp⟩
 split at h
 ·split at h<;>(injection h with h1;subst h1;exact⟨by simp[opT],by simp[opT],by simp[opT]⟩)
 split at h
 ·injection h with h1;subst h1;exact⟨by simp[opT],by simp[opT],by simp[opT]⟩
 split at h
 ·exact vU h
 split at h
 ·cases h
 split at h
 ·cases h
 ·rename_i ps r2 m2 _
  split at h
  ·split at h
   ·exact vU h
   ·injection h with h1;subst h1;exact⟨by simp,by simp,oW _⟩
  ·injection h with h1;subst h1;exact⟨by simp,by simp,oW _⟩
theorem mS:∀(d:Nat) (l:ab) (n:Nat),l.length<=d->∀t∈(bG l n).1,TkS t
 |0,l,n,hl=>by
  grind[ci]
 |d+1,[],n,hl=>by rw[ci];simp
 |d+1,c::t,n,hl=>by
  have hlt:=du c t n;rw[bD]
  cases hs:aT c t n with
  |bad m=>simp
  |skip r m=>
   rw[hs]at hlt;simp only[Step.rest,List.length_cons]at hlt hl;exact mS d r m (by omega)
  |tok x r m=>
   rw[hs]at hlt;simp only[Step.rest,List.length_cons]at hlt hl;intro z hz;rcases List.mem_cons.1 hz with rfl|hz
   ·exact yy hs
   ·exact mS d r m (by omega) z hz
structure LexT (ts:List Tok):Prop where
 pos:0<ts.length
 max:ts.length<=100000
 word:∀x∈ts,x.text.length<=100000/\x.plain.length<=100000/\x.parts.length<=100000/\∀p∈x.parts,p.t.length<=100000
 last:∀(i:Nat) x,ts[i]? =some x->(x.kind=4↔i+1=ts.length)
 fin:∀x,ts[ts.length-1]? =some x->x.text=[]/\x.plain=[]
theorem Cm{s:ab}{ts:List Tok}(hs:s.length<=8000)(h:lex s=.ok ts):LexT ts:=by
 obtain⟨xs,m,h1,rfl,h3⟩:=mR hs h
 have h4:=mS s.length s 1 (Nat.le_refl _)
 have h5:=kQ s.length s 1 (Nat.le_refl _)
 rw[h1]at h4 h5
 refine⟨by simp,by grind,fun x hx=>?_,fun i x hx=>?_,fun x hx=>?_⟩
 ·rcases List.mem_append.1 hx with hx|hx
  ·obtain⟨_,h6,h7⟩:=h4 x hx
   have h8:=h5 x hx;refine⟨by omega,by omega,?_,fun p hp=>?_⟩
   ·grind[sz]
   ·have:=rO hp;omega
  grind[ew]
 ·have hi:=(List.getElem?_eq_some_iff.1 hx).1
  rw[List.length_append,List.length_singleton]at hi |-
  by_cases hl:i<xs.length
  ·rw[List.getElem?_append_left hl]at hx
   have:=(h4 x (List.mem_of_getElem? hx)).1;omega
  grind[ew]
 grind[ew]
inductive Sm (N:Nat):Nd->Prop
 |mk (k:Nat) (n:ab) (g:Bool) (a:List (ab×List Prt)) (w:List (List Prt)) (r:List (Int×Nat×List Prt)) (l:List Nd) (h1:a.length<=N) (h2:∀x∈a,x.2.length<=N) (h3:w.length<=N) (h4:∀ps∈w,ps.length<=N) (h5:r.length<=N) (h6:∀x∈r,x.2.2.length<=N) (h7:l.length<=N) (h8:∀y∈l,Sm N y):Sm N (.mk k n g a w r l)
def Tk(N:Nat)(ts:List Tok):Prop:=ts.length<=N/\∀t∈ts,t.parts.length<=N
theorem Tk.suf{N:Nat}{ts r:List Tok}(h:Tk N ts)(hs:r <:+ ts):Tk N r:=⟨Nat.le_trans hs.length_le h.1,fun t ht=>h.2 t (hs.subset ht)⟩
theorem Tk.tl{N:Nat}{t:Tok}{r:List Tok}(h:Tk N (t::r)):Tk N r:=h.suf ⟨[t],rfl⟩
section
variable {N:Nat}
def Sq(N:Nat)(P:Pa Nd):Prop:=∀ts,Tk N ts->∀a r,P ts=.ok a r->Sm (N+3) a/\Tk N r
theorem jy{k:Nat}{n:ab}{g:Bool}{w:List (List Prt)}{l:List Nd}(hw:w.length<=N+3)(hw2:∀ps∈w,ps.length<=N)(hl:l.length<=N+3)(h:∀y∈l,Sm (N+3) y):Sm (N+3) (.mk k n g [] w [] l):=
 .mk k n g [] w [] l (Nat.zero_le _) (fun x hx=>by cases hx) hw (fun ps hp=>by grind) (Nat.zero_le _) (fun x hx=>by cases hx) hl h
theorem qP{k:Nat}{n:ab}{g:Bool}{x:Nd}(h:Sm (N+3) x):Sm (N+3) (.mk k n g [] [] [] [x]):=jy (Nat.zero_le _) (fun x hx=>by cases hx) (by simp) (fun y hy=>by grind)
theorem qQ{k:Nat}{n:ab}{g:Bool}{x z:Nd}(h:Sm (N+3) x)(h2:Sm (N+3) z):Sm (N+3) (.mk k n g [] [] [] [x,z]):=jy (Nat.zero_le _) (fun x hx=>by cases hx) (by simp) (fun y hy=>by
 grind)
theorem en{s:ab}{ts:List Tok}(ht:Tk N ts){u:Unit}{r:List Tok}(h:aW s ts=.ok u r):Tk N r:=by
 unfold aW at h
 split at h
 ·injection h with h1 h2
  rw[<- h2];exact ht.suf (am ts)
 ·cases h
theorem jT{ts:List Tok}(ht:Tk N ts){ps:List Prt}{r:List Tok}(h:bT ts=.ok ps r):ps.length<=N/\Tk N r/\r.length+1<=ts.length:=by
 cases ts with
 |nil=>cases h
 |cons t u=>
  simp only[bT]at h;split at h
  ·injection h with h1 h2
   subst h1 h2;exact⟨ht.2 t List.mem_cons_self,ht.tl,by simp⟩
  ·cases h
theorem f6{α:Type}{P:α->Prop}{l:List α}{x:α}(hl:∀y∈l,P y)(hx:P x):∀y∈l++[x],P y:=fun y hy=>by
 grind
theorem oY{cmd:Pa Nd}(h:Sq N cmd):∀(f:Nat) (l:List Nd) (ts:List Tok),Tk N ts->(∀n∈l,Sm (N+3) n)->∀a r,dl cmd f l ts=.ok a r->(∀n∈a,Sm (N+3) n)/\Tk N r/\a.length<=l.length+f
 |0,l,ts,ht,hl,a,r,e=>by cases e;grind
 |f+1,l,ts,ht,hl,a,r,e=>by
  unfold dl at e;split at e
  ·obtain⟨x,s,h1,h2⟩:=ac e
   obtain⟨h3,h4⟩:=h _ (ht.suf ((ay _).trans (am ts))) _ _ h1;obtain⟨h5,h6,h7⟩:=oY h f _ s h4 (f6 hl h3) a r h2;grind
  grind
theorem yz{cmd:Pa Nd}(h:Sq N cmd):Sq N (pipe cmd):=fun ts ht a r e=>by
 obtain⟨x,s,h1,h2⟩:=ac e
 obtain⟨h3,h4⟩:=h _ (by split;exact ht.suf (am ts);exact ht) _ _ h1
 obtain⟨l,s2,h5,h6⟩:=ac h2
 obtain⟨h7,h8,h9⟩:=oY h _ _ s h4 (fun n hn=>by grind) _ _ h5
 injection h6 with h6 h10
 subst h6 h10
 exact⟨jy (Nat.zero_le _) (fun x hx=>by cases hx) (by have:=h4.1;grind) h7,h8⟩
theorem oZ{pi:Pa Nd}(h:Sq N pi):∀(f:Nat) (n:Nd) (ts:List Tok),Tk N ts->Sm (N+3) n->∀a r,dk pi f n ts=.ok a r->Sm (N+3) a/\Tk N r
 |0,n,ts,ht,hn,a,r,e=>by cases e;grind
 |f+1,n,ts,ht,hn,a,r,e=>by
  unfold dk at e;split at e
  ·obtain⟨x,s,h1,h2⟩:=ac e
   obtain⟨h3,h4⟩:=h _ (ht.suf ((ay _).trans (am ts))) _ _ h1;exact oZ h f _ s h4 (qQ hn h3) a r h2
  grind
theorem yA{pi:Pa Nd}(h:Sq N pi):Sq N (item pi):=fun ts ht a r e=>by
 obtain⟨x,s,h1,h2⟩:=ac e
 obtain⟨h3,h4⟩:=h _ ht _ _ h1
 grind[oZ]
theorem yB{ts:List Tok}{n:Nd}(h:Sm (N+3) n):Sm (N+3) (back ts n):=by
 grind[back,qP]
theorem o8{it:Pa Nd}(h:Sq N it):∀(f:Nat) (l:List Nd) (ts:List Tok),Tk N ts->(∀n∈l,Sm (N+3) n)->∀a r,aR it f l ts=.ok a r->(∀n∈a,Sm (N+3) n)/\Tk N r/\a.length<=l.length+f
 |0,l,ts,ht,hl,a,r,e=>by cases e;grind
 |f+1,l,ts,ht,hl,a,r,e=>by
  unfold aR at e;split at e
  ·cases e;exact⟨hl,ht.suf (ay ts),by omega⟩
  ·obtain⟨x,s,h1,h2⟩:=ac e
   obtain⟨h3,h4⟩:=h _ (ht.suf (ay ts)) _ _ h1;have h5:∀n∈l++[back s x],Sm (N+3) n:=f6 hl (yB h3);split at h2
   ·obtain⟨h6,h7,h8⟩:=o8 h f _ _ (h4.suf (am s)) h5 a r h2
    grind
   ·grind
theorem o_{cmd:Pa Nd}(h:Sq N cmd){ts:List Tok}(ht:Tk N ts){l:List Nd}{r:List Tok}(e:eF cmd ts=.ok l r):(∀n∈l,Sm (N+3) n)/\Tk N r/\l.length<=N+1:=by
 obtain⟨h1,h2,h3⟩:=o8 (yA (yz h)) _ _ ts ht (fun n hn=>by cases hn) _ _ e
 exact⟨h1,h2,by have:=ht.1;grind⟩
theorem rR{cmd:Pa Nd}(h:Sq N cmd):Sq N (cj cmd):=fun ts ht a r e=>by
 obtain⟨l,s,h1,h2⟩:=ac e
 grind[o_,jy]
theorem mT{cmd:Pa Nd}(h:Sq N cmd):Sq N (eA cmd):=fun ts ht a r e=>by
 obtain⟨n,s,h1,h2⟩:=ac e
 obtain⟨h3,h5⟩:=rR h ts ht _ _ h1
 split at h2
 ·cases h2
 grind
theorem l7{so:Pa Nd}(h:Sq N so)(k:Nat)(c:ab):Sq N (closed so k c):=fun ts ht a r e=>by
 obtain⟨x,s,h1,h2⟩:=ac e
 obtain⟨h3,h4⟩:=h _ ht _ _ h1
 obtain⟨u,s2,h5,h6⟩:=ac h2
 grind[qP,en]
theorem kU{so:Pa Nd}(h:Sq N so){k:Nat}{c:ab}{e:Option ab}{ts:List Tok}(ht:Tk N ts){n:Nd}{r:List Tok}(hh:aO so k c e ts=.ok n r):∃a b,n=.mk k [] false [] [] [] [a,b]/\Sm (N+3) a/\Sm (N+3) b/\Tk N r:=by
 obtain⟨a,s,h1,h2⟩:=ac hh
 obtain⟨h3,h4⟩:=h _ ht _ _ h1
 obtain⟨u,s2,h5,h6⟩:=ac h2
 obtain⟨b,s3,h7,h8⟩:=ac h6
 obtain⟨h9,h10⟩:=h _ (en h4 h5) _ _ h7
 cases e with
 |none=>grind
 |some c2=>
  obtain⟨u,s4,h11,h12⟩:=ac h8;grind[en]
theorem jz{so:Pa Nd}(h:Sq N so)(k:Nat)(c:ab)(e:Option ab):Sq N (aO so k c e):=fun ts ht a r hh=>by
 grind[kU,qQ]
theorem jA:∀ts:List Tok,Tk N ts->(∀ps∈(aE ts).1,ps.length<=N)/\Tk N (aE ts).2/\(aE ts).1.length<=ts.length
 | [],h=>by grind[aE]
 |t::r,h=>by
  unfold aE;split
  ·obtain⟨h1,h2,h3⟩:=jA r h.tl
   exact⟨fun ps hp=>by rcases List.mem_cons.1 hp with rfl|hp;exact h.2 t List.mem_cons_self;grind,h2,by grind⟩
  grind
theorem kV{so:Pa Nd}(h:Sq N so){n:ab}{ws:List (List Prt)}(hw:∀ps∈ws,ps.length<=N)(hw2:ws.length<=N+3){ts:List Tok}(ht:Tk N ts){a:Nd}{r:List Tok}(hh:cf so n ws ts=.ok a r):Sm (N+3) a/\Tk N r:=by
 obtain⟨u,s,h1,h2⟩:=ac hh
 obtain⟨b,s2,h3,h4⟩:=ac h2
 obtain⟨u2,s3,h5,h6⟩:=ac h4
 obtain⟨h7,h8⟩:=h _ (en (ht.suf (ay ts)) h1) _ _ h3
 grind[jy,en]
theorem yC{so:Pa Nd}(h:Sq N so):Sq N (eG so):=fun ts ht a r hh=>by
 cases ts with
 |nil=>cases hh
 |cons t u=>
  simp only[eG]at hh;have hl:Tk N (au u):=ht.tl.suf (ay u);have hn:1<=N:=by have:=ht.1;grind
  split at hh
  ·split at hh
   ·obtain⟨h1,h2,h3⟩:=jA (au u).tail (hl.suf (am _))
    unfold gV at hh;split at hh
    ·exact kV h h1 (by have:=(hl.suf (am (au u))).1;omega) (h2.suf (am _)) hh
    ·cases hh
   ·refine kV h (fun ps hp=>?_) (by simp[qh]) ?_ hh
    ·grind[qh]
    ·split
     ·exact hl.suf (am _)
     omega
  ·cases hh
theorem rS:∀(f:Nat) (l:List (List Prt)) (ts:List Tok),Tk N ts->(∀ps∈l,ps.length<=N)->∀a r,e_ f l ts=.ok a r->(∀ps∈a,ps.length<=N)/\Tk N r/\a.length<=l.length+f
 |0,l,ts,ht,hl,a,r,e=>by cases e;grind
 |f+1,l,ts,ht,hl,a,r,e=>by
  unfold e_ at e;split at e
  ·obtain⟨w,s,h1,h2⟩:=ac e
   obtain⟨h3,h4,_⟩:=jT (ht.suf (am ts)) h1;obtain⟨h5,h6,h7⟩:=rS f _ s h4 (f6 hl h3) a r h2;grind
  grind
theorem A5{li:Pa Nd}(h:Sq N li):Sq N (arm li):=fun ts ht a r e=>by
 obtain⟨w,s,h1,h2⟩:=ac e
 obtain⟨h3,h4,_⟩:=jT (by split;exact ht.suf (am ts);exact ht) h1
 obtain⟨ws,s2,h5,h6⟩:=ac h2
 obtain⟨h7,h8,h8b⟩:=rS _ _ s h4 (fun ps hp=>by grind) _ _ h5
 obtain⟨u,s3,h9,h10⟩:=ac h6
 obtain⟨n,s4,h11,h12⟩:=ac h10
 obtain⟨h13,h14⟩:=h _ (en h8 h9) _ _ h11
 obtain⟨u2,s5,h15,h16⟩:=ac h12
 injection h16 with h16 h17
 subst h16 h17
 exact⟨jy (by have:=h4.1;grind) h7 (by simp) (fun y hy=>by grind),en h14 h15⟩
theorem pd{ar:Pa Nd}(h:Sq N ar):∀(f:Nat) (l:List Nd) (ts:List Tok),Tk N ts->(∀n∈l,Sm (N+3) n)->∀a r,de ar f l ts=.ok a r->(∀n∈a,Sm (N+3) n)/\Tk N r/\a.length<=l.length+f
 |0,l,ts,ht,hl,a,r,e=>by cases e;grind
 |f+1,l,ts,ht,hl,a,r,e=>by
  unfold de at e;split at e
  ·cases e;exact⟨hl,ht.suf (ay ts),by omega⟩
  ·obtain⟨x,s,h1,h2⟩:=ac e
   obtain⟨h3,h4⟩:=h _ (ht.suf (ay ts)) _ _ h1;obtain⟨h5,h6,h7⟩:=pd h f _ s h4 (f6 hl h3) a r h2;grind
theorem tE{li:Pa Nd}(h:Sq N li):Sq N (fQ li):=fun ts ht a r e=>by
 obtain⟨w,s,h1,h2⟩:=ac e
 obtain⟨h3,h4,_⟩:=jT ht h1
 obtain⟨u,s2,h5,h6⟩:=ac h2
 have h20:=en (h4.suf (ay s)) h5
 obtain⟨l,s3,h7,h8⟩:=ac h6
 obtain⟨h9,h10,h10b⟩:=pd (A5 h) _ _ s2 h20 (fun n hn=>by cases hn) _ _ h7
 obtain⟨u2,s4,h11,h12⟩:=ac h8
 injection h12 with h12 h13
 subst h12 h13
 exact⟨jy (by simp) (fun ps hp=>by grind) (by have:=h20.1;grind) h9,en h10 h11⟩
theorem rT{so:Pa Nd}{inner:Option (Pa Nd)}(h:Sq N so)(hi:∀c,inner=some c->Sq N c):Sq N (eU so inner):=fun ts ht a r e=>by
 obtain⟨n,s,h1,h2⟩:=ac e
 obtain⟨c,t,rfl,h3,h4,h5⟩:=kU h ht h1
 have key:∀z:Nd,Sm (N+3) z->Sm (N+3) (Nd.addKid (.mk 8 [] false [] [] [] [c,t]) z):=fun z hz=>jy (Nat.zero_le _) (fun x hx=>by cases hx) (by simp) (fun y hy=>by
  grind)
 split at h2
 ·obtain⟨k,s2,h10,h11⟩:=ac h2
  obtain⟨h12,h13⟩:=h _ (h5.suf (am s)) _ _ h10;grind
 ·split at h2
  ·cases inner with
   |none=>cases h2
   |some i=>
    obtain⟨k,s2,h10,h11⟩:=ac h2;obtain⟨h12,h13⟩:=hi i rfl _ (h5.suf (am s)) _ _ h10;grind
  grind[qQ]
theorem pe{ts:List Tok}(ht:Tk N ts){x:Int×Nat×List Prt}{r:List Tok}(h:dx ts=.ok x r):x.2.2.length<=N/\Tk N r/\r.length+1<=ts.length:=by
 cases ts with
 |nil=>cases h
 |cons t u=>
  obtain⟨w,s,h1,h2⟩:=ac (p:=bT u) h;obtain⟨h3,h4,h6⟩:=jT ht.tl h1;injection h2 with h2 h5
  subst h2 h5;exact⟨h3,h4,by grind⟩
theorem kW:∀(f:Nat) (l:List (Int×Nat×List Prt)) (ts:List Tok),Tk N ts->(∀x∈l,x.2.2.length<=N)->∀a r,bp f l ts=.ok a r->(∀x∈a,x.2.2.length<=N)/\Tk N r/\a.length<=l.length+f
 |0,l,ts,ht,hl,a,r,e=>by cases e;grind
 |f+1,l,ts,ht,hl,a,r,e=>by
  unfold bp at e;split at e
  ·obtain⟨w,s,h1,h2⟩:=ac e
   obtain⟨h3,h4,_⟩:=pe ht h1;obtain⟨h5,h6,h7⟩:=kW f _ s h4 (f6 hl h3) a r h2;grind
  grind
theorem yD{li so conds:Pa Nd}(h1:Sq N li)(h2:Sq N so)(h3:Sq N conds):∀b,Sq N (iC li so conds b)
 |.sub=>l7 h2 _ _
 |.grp=>l7 h2 _ _
 |.iff=>h3
 |.whl=>jz h2 9 kDo (some dw)
 |.unt=>jz h2 10 kDo (some dw)
 |.for_=>yC h2
 |.case_=>tE h1
theorem yE{bo:Blk->Pa Nd}(h:∀b,Sq N (bo b))(hr:∀b ts a r,bo b ts=.ok a r->a.rs=[])(b:Blk):Sq N (eV bo b):=fun ts ht a r e=>by
 obtain⟨n,s,h1,h2⟩:=ac e
 have h3:=hr _ _ _ _ h1
 obtain⟨h4,h5⟩:=h b _ (ht.suf (am ts)) _ _ h1
 obtain⟨u,s2,h6,h7⟩:=ac h2
 have h8:Tk N s2:=by
  grind[en]
 obtain⟨l,s3,h9,h10⟩:=ac h7
 rw[h3]at h9
 obtain⟨h11,h12,h13⟩:=kW _ _ s2 h8 (fun x hx=>by cases hx) _ _ h9
 injection h10 with h10 h14
 subst h10 h14
 refine⟨?_,h12⟩
 cases h4 with
 |mk k n g a w r l2 g1 g2 g3 g4 g5 g6 g7 g8=>exact .mk k n g a w l l2 g1 g2 g3 g4 (by have:=h8.1;grind) (fun x hx=>by grind) g7 g8
theorem A6{ps:List Prt}(h:ps.length<=N){x:ab×List Prt}(e:aJ ps=some x):x.2.length<=N:=by
 cases ps with
 |nil=>cases e
 |cons p r=>
  grind[aJ]
theorem im:∀(f:Nat) (x:Sim) (ts:List Tok),Tk N ts->x.a.length+x.w.length+x.r.length+f<=N->(∀y∈x.a,y.2.length<=N)->(∀ps∈x.w,ps.length<=N)->(∀y∈x.r,y.2.2.length<=N)->∀n r,aM f x ts=.ok n r->Sm (N+3) n/\Tk N r
 |f,x,ts,ht,hl,ha,hw,hr,n,r,e=>by
  have hend:Sm (N+3) x.nd:=.mk 0 [] false x.a x.w x.r [] (by omega) (fun y hy=>by grind) (by omega) (fun y hy=>by grind) (by omega) (fun y hy=>by grind) (Nat.zero_le _) (fun y hy=>by cases hy)
  cases f with
  |zero=>cases e;grind
  |succ f=>
   cases ts with
   |nil=>cases e;grind
   |cons t u=>
    simp only[aM]at e;split at e
    ·obtain⟨y,s,h1,h2⟩:=ac e
     obtain⟨h3,h4,_⟩:=pe ht h1;exact im f ⟨x.a,x.w,x.r++[y]⟩ s h4 (by grind) ha hw (f6 hr h3) n r h2
    ·split at e
     ·have hp:=ht.2 t List.mem_cons_self
      refine im f _ u ht.tl ?_ ?_ ?_ ?_ n r e
      ·grind[Sim.word]
      ·unfold Sim.word;split
       ·split
        ·rename_i z hz _
         exact f6 ha (A6 hp hz)
        omega
       omega
      ·unfold Sim.word;grind
      grind[Sim.word]
     grind
theorem tF:Sq N simple:=fun ts ht a r e=>by
 unfold simple at e
 split at e
 ·exact im _ _ _ ht (by have:=ht.1;grind) (fun y hy=>by cases hy) (fun y hy=>by cases hy) (fun y hy=>by cases hy) a r e
 ·cases e
theorem A7{comp:Blk->Pa Nd}(h:∀b,Sq N (comp b)):Sq N (ia comp):=fun ts ht a r e=>by
 cases ts with
 |nil=>cases e
 |cons t u=>
  simp only[ia]at e;split at e
  ·split at e
   ·cases e
   ·obtain⟨x,s,h1,h2⟩:=ac e
    obtain⟨h3,h4⟩:=h _ _ (ht.tl.suf ((ay _).trans ((am _).trans (am _)))) _ _ h1;grind[qP]
  ·cases e
theorem vV{comp:Blk->Pa Nd}{inner:Option (Blk->Pa Nd)}(h:∀b,Sq N (comp b))(hi:∀c,inner=some c->∀b,Sq N (c b)):Sq N (gT comp inner):=fun ts ht a r e=>by
 unfold gT at e
 split at e
 ·exact h _ _ ht _ _ e
 ·split at e
  ·cases e
  ·split at e
   ·cases inner with
    |none=>cases e
    |some c=>exact A7 (hi c rfl) _ ht _ _ e
   ·exact tF _ ht _ _ e
theorem io{so:Pa Nd}{k:Nat}{c:ab}{e:Option ab}{ts:List Tok}{n:Nd}{r:List Tok}(hh:aO so k c e ts=.ok n r):n.rs=[]:=by
 obtain⟨a,s,h1,h2⟩:=ac hh
 obtain⟨u,s2,h5,h6⟩:=ac h2
 obtain⟨b,s3,h7,h8⟩:=ac h6
 cases e with
 |none=>injection h8 with h8 h11;subst h8;rfl
 |some c2=>
  obtain⟨u,s4,h11,h12⟩:=ac h8;injection h12 with h12 h13;subst h12;rfl
theorem l8{so:Pa Nd}{k:Nat}{c:ab}{ts:List Tok}{n:Nd}{r:List Tok}(hh:closed so k c ts=.ok n r):n.rs=[]:=by
 obtain⟨x,s,h1,h2⟩:=ac hh
 obtain⟨u,s2,h5,h6⟩:=ac h2
 injection h6 with h6 h7
 subst h6;rfl
theorem kX{so:Pa Nd}{n:ab}{ws:List (List Prt)}{ts:List Tok}{a:Nd}{r:List Tok}(hh:cf so n ws ts=.ok a r):a.rs=[]:=by
 obtain⟨u,s,h1,h2⟩:=ac hh
 obtain⟨b,s2,h3,h4⟩:=ac h2
 obtain⟨u2,s3,h5,h6⟩:=ac h4
 injection h6 with h6 h9
 subst h6;rfl
theorem yF{so:Pa Nd}{ts:List Tok}{a:Nd}{r:List Tok}(hh:eG so ts=.ok a r):a.rs=[]:=by
 cases ts with
 |nil=>cases hh
 |cons t u=>
  simp only[eG]at hh;split at hh
  ·split at hh
   ·unfold gV at hh
    split at hh
    ·exact kX hh
    ·cases hh
   ·exact kX hh
  ·cases hh
theorem tG{li:Pa Nd}{ts:List Tok}{a:Nd}{r:List Tok}(e:fQ li ts=.ok a r):a.rs=[]:=by
 obtain⟨w,s,h1,h2⟩:=ac e
 obtain⟨u,s2,h5,h6⟩:=ac h2
 obtain⟨l,s3,h7,h8⟩:=ac h6
 obtain⟨u2,s4,h11,h12⟩:=ac h8
 injection h12 with h12 h13
 subst h12;rfl
theorem rU{so:Pa Nd}:∀{inner:Option (Pa Nd)} {ts:List Tok} {a:Nd} {r:List Tok},eU so inner ts=.ok a r->a.rs=[]:=by
 intro inner ts a r e
 obtain⟨n,s,h1,h2⟩:=ac e
 have h3:=io h1
 have key:∀z,(n.addKid z).rs=[]:=fun z=>by cases n;exact h3
 split at h2
 ·obtain⟨k,s2,h10,h11⟩:=ac h2
  grind
 ·split at h2
  ·cases inner with
   |none=>cases h2
   |some i=>
    obtain⟨k,s2,h10,h11⟩:=ac h2;grind
  grind
theorem rV{li so conds:Pa Nd}(hc:∀ts a r,conds ts=.ok a r->a.rs=[]):∀b ts a r,iC li so conds b ts=.ok a r->a.rs=[]
 |.sub,_,_,_,h=>l8 h
 |.grp,_,_,_,h=>l8 h
 |.iff,_,_,_,h=>hc _ _ _ h
 |.whl,_,_,_,h=>io (so:=so) (k:=9) (c:=kDo) (e:=some dw) h
 |.unt,_,_,_,h=>io (so:=so) (k:=10) (c:=kDo) (e:=some dw) h
 |.for_,_,_,_,h=>yF h
 |.case_,_,_,_,h=>tG h
theorem qR:∀k:Nat,Sq N (lev k).cmd/\Sq N (lev k).conds/\(∀b,Sq N ((lev k).comp b))/\∀ts a r,(lev k).conds ts=.ok a r->a.rs=[]
 |0=>by
  have h1:∀b,Sq N ((lev 0).comp b):=fun b ts ht a r e=>by cases e
  have h2:Sq N (lev 0).cmd:=vV (inner:=none) h1 (fun c h=>by cases h);exact⟨h2,rT (inner:=none) (mT h2) (fun c h=>by cases h),h1,fun ts a r e=>rU (so:=eA (lev 0).cmd) (inner:=none) e⟩
 |k+1=>by
  obtain⟨i1,i2,i3,i4⟩:=qR k;have h1:∀b,Sq N ((lev (k+1)).comp b):=fun b=>yE (yD (rR i1) (mT i1) i2) (rV i4) b
  have h2:Sq N (lev (k+1)).cmd:=vV (inner:=some (lev k).comp) h1 (fun c h=>by simp_all);exact⟨h2,rT (inner:=some (lev k).conds) (mT h2) (fun c h=>by grind),h1,fun ts a r e=>rU (so:=eA (lev (k+1)).cmd) (inner:=some (lev k).conds) e⟩
end
theorem tH{s:ab}{l:List Nd}(hs:s.length<=8000)(h:ax s=.ok l):l.length<=16004/\∀n∈l,Sm 16003 n:=by
 unfold ax at h
 cases hx:lex s with
 |err f m=>grind
 |ok ts=>
  rw[hx]at h;obtain⟨xs,m,h1,rfl,h3⟩:=mR hs hx;have h5:=kQ s.length s 1 (Nat.le_refl _);rw[h1]at h5;simp only[fZ,List.dropLast_concat]at h
  cases hp:dm 20 (xs.map fA)with
  |bad e m=>grind
  |ok l2 r=>
   rw[hp]at h
   cases h
   obtain⟨l3,s3,h6,h7⟩:=ac (p:=eF (lev 20).cmd (xs.map fA)) hp;have ht:Tk 16000 (xs.map fA):=⟨by grind,fun t ht=>by
    obtain⟨y,hy,rfl⟩:=List.mem_map.1 ht;have:=h5 y hy;show y.parts.length<=16000
    grind[sz]⟩
   obtain⟨h8,h9,h10⟩:=o_ (N:=16000) (qR 20).1 ht h6;split at h7
   ·grind
   ·cases h7
def TabP(w:World):Prop:=(∃m:Int,w.cell? ⟨1,0,none⟩=some (.int .i64 m))/\∃cg co cc,w.cell? ⟨0,0,none⟩=some (.slice (some ⟨cg,co,none⟩) 10 cc)/\10<=cc/\∀(j:Nat) s,closers[j]? =some s->w.cell? ⟨cg,co+j,none⟩=some (bs s)
theorem TabP.ext{w w':World}(h:TabP w)(k:Below w.heap.size w w'):TabP w':=by
 obtain⟨⟨m,h1⟩,cg,co,cc,h2,h3,h4⟩:=h
 exact⟨⟨m,bN h1 k⟩,cg,co,cc,bN h2 k,h3,fun j s hs=>bN (h4 j s hs) k⟩
theorem yG{W0:World}{v:Value}{ts:List Tok}(hT:TokRow W0 v ts)(hl:LexT ts)(hP:TabP W0):∃(g o cap:Nat) (tvs:List (Tok×Value)),v=.slice (some ⟨g,o,none⟩) tvs.length cap/\tvs.map (·.1)=ts/\PEnv W0 g o cap tvs/\TyV W0 76 v:=by
 obtain⟨hc,hty,tvs,rfl,hr,hp⟩:=hT
 obtain⟨ao,c,rfl,h2⟩:=hr
 obtain⟨_,_,_,e,hle⟩:=hc
 injection e with e1 e2 e3
 subst e1 e2 e3
 have hpos:=hl.pos
 rw[List.length_map]at hpos hle
 obtain⟨x0,hx0⟩:∃x,tvs[0]? =some x:=⟨_,List.getElem?_eq_getElem hpos⟩
 obtain⟨g,o,hg,_⟩:=h2 0 (tkc x0) (by grind)
 subst hg
 have hmem:∀x∈tvs,x.1∈tvs.map (·.1):=fun x hx=>List.mem_map.2 ⟨x,hx,rfl⟩
 refine⟨g,o,c,tvs,by grind,rfl,⟨fun i x hx cc u hu=>?_,fun x hx=>⟨(hp x hx).1,(hp x hx).2.1⟩,fun x hx a n cc e cl t f hcl=>?_,hle,hpos,by have:=hl.max;grind,fun x hx=>hl.word _ (hmem x hx),fun i x hx=>?_,fun x hx=>?_,hP.1,hP.2⟩,hty⟩
 ·obtain⟨g2,o2,hg2,h3⟩:=h2 i (tkc x) (by grind)
  grind
 ·obtain⟨cells,h3⟩:=(hp x hx).2.2 a n cc e
  grind
 ·have:=hl.last i x.1 (by grind)
  grind
 ·exact hl.fin x.1 (by grind)
theorem Aa{tvs:List (Tok×Value)}{ts:List Tok}(h:tvs.map (·.1)=ts):ts.dropLast.map fA=TT tvs:=by
 subst h
 unfold TT
 rw[<- List.map_dropLast,List.map_map]
 rfl
theorem rW{tvs:List (Tok×Value)}{ts:List Tok}(h:tvs.map (·.1)=ts)(m:Nat):(ts.getD (ts.length-1-m) (ew 0)).line=fp tvs m:=by
 subst h
 unfold fp
 rw[List.getD_eq_getElem?_getD,List.length_map,List.getElem?_map]
 cases tvs[tvs.length-1-m]? <;>rfl
section
variable {s:ab} {ts:List Tok} {tvs:List (Tok×Value)} (hx:lex s=.ok ts) (ht:tvs.map (·.1)=ts)
theorem tI(hx:lex s=.ok ts)(ht:tvs.map (·.1)=ts){er m:Nat}(h:cj (lev 20).cmd (TT tvs)=.bad er m):ax s=.err (er==2) (fp tvs m):=by
 unfold ax
 rw[hx]
 show fZ ts=_
 unfold fZ dm
 rw[Aa ht]
 unfold cj at h
 cases hk:eF (lev 20).cmd (TT tvs)with
 |ok l r=>rw[hk]at h;cases h
 |bad e2 m2=>
  grind[PR.bind,rW]
theorem vW(hx:lex s=.ok ts)(ht:tvs.map (·.1)=ts){x:Nd}{r:List Tok}(h:cj (lev 20).cmd (TT tvs)=.ok x r):∃l,x=.mk 4 [] false [] [] [] l/\ax s=if r.isEmpty then .ok l else .err false (fp tvs r.length):=by
 unfold cj at h
 cases hk:eF (lev 20).cmd (TT tvs)with
 |bad e2 m2=>rw[hk]at h;cases h
 |ok l r2=>
  rw[hk]at h;injection h with h1 h2
  subst h1 h2;refine⟨l,rfl,?_⟩;unfold ax;grind[fZ,dm,Aa,PR.bind,syn,rW]
end
theorem vX(er:Nat):ku er=if(er==2)=true then 6 else 27:=by
 grind[ku]
theorem f7{X:List Nat}{w0 W:World}{L:List (Nat×Obj)}(h:Kn X w0 W L)(h1:∀x∈X,∃o,(x,o)∈L/\w0.heap[x]? =some o):Below w0.heap.size w0 W:=
 ⟨h.os,h.tape,h.output,h.size,fun k hk=>by
  by_cases hm:k∈X
  ·obtain⟨o,ho,he⟩:=h1 k hm
   rw[he];exact h.has _ ho
  ·exact h.block k hk hm⟩
theorem yH{X Y:List Nat}{w0 W:World}{L:List (Nat×Obj)}(h:Kn X w0 W L)(h1:∀x∈X,x∈Y\/∃o,(x,o)∈L/\w0.heap[x]? =some o):Kn Y w0 W []:=by
 refine⟨h.os,h.tape,h.output,h.size,fun k hk hy=>?_,fun p hp=>absurd hp List.not_mem_nil,fun p hp=>absurd hp List.not_mem_nil,List.nodup_nil⟩
 by_cases hm:k∈X
 ·rcases h1 k hm with hx|⟨o,ho,he⟩
  ·grind
  ·rw[he];exact h.has _ ho
 ·exact h.block k hk hm
theorem cW{X:List Nat}{g o:Nat}{v:Value}{w W:World}{L:List (Nat×Obj)}(hL:Kn X w W L)(h:w.cell? ⟨g,o,none⟩=some v)(hg:g∉X):W.cell? ⟨g,o,none⟩=some v:=
 (dt (hL.block g (aI h) hg)).trans h
theorem RowM.rowF{k:Nat}{W0:World}{L:List (Nat×Obj)}{v:Value}{xs:List (List Value)}{X Y:List Nat}{w0 w:World}{K:List (Nat×Obj)}(h:RowM k W0 L v xs)(hB:∀g,g<W0.heap.size->w.heap[g]? =W0.heap[g]?)(hz:W0.heap.size<=w.heap.size)(hk:Kn X w0 w K)(hs:∀p∈L,p∈K)(hY:∀p∈L,p.1∉Y)(hY0:∀g,g<W0.heap.size->xV W0 g->g∉Y):RowY k Y w v xs:=by
 obtain⟨ao,cap,h1,h2,h3⟩:=h
 refine⟨ao,cap,h1,h2,fun j cs hj=>?_⟩
 obtain⟨g,o,h4,h5⟩:=h3 j cs hj
 rcases h5 with⟨cells,t,hm,hc⟩|⟨hg,hn,hc⟩
 ·exact⟨g,o,h4,hY _ hm,hk.lt (hs _ hm),fun c x hx=>by rw[aK hk (hs _ hm)];grind⟩
 grind[dt]
theorem NodeL.isF{W0:World}{L:List (Nat×Obj)}{n:Nd}{cs:List Value}(h:NodeL W0 L n cs){X Y:List Nat}{w0 w:World}{K:List (Nat×Obj)}(hB:∀g,g<W0.heap.size->w.heap[g]? =W0.heap[g]?)(hz:W0.heap.size<=w.heap.size)(hk:Kn X w0 w K)(hs:∀p∈L,p∈K)(hY:∀p∈L,p.1∉Y)(hY0:∀g,g<W0.heap.size->xV W0 g->g∉Y):NodeIs Y w n cs:=by
 induction h with
 |mk kind name neg al ws rs ks va vw vr vk h1 h2 h3 h4 h5 h6 h7 h8 ih=>
  exact .mk kind name neg al ws rs ks va vw vr vk (h1.rowF hB hz hk hs hY hY0) (fun x hx=>RowM.rowF (h2 x hx) hB hz hk hs hY hY0) (h3.rowF hB hz hk hs hY hY0) (fun x hx=>RowM.rowF (h4 x hx) hB hz hk hs hY hY0) (h5.rowF hB hz hk hs hY hY0) (fun x hx=>RowM.rowF (h6 x hx) hB hz hk hs hY hY0) (h7.rowF hB hz hk hs hY hY0) ih
theorem qS{X:List Nat}{w w0 W:World}{L:List (Nat×Obj)}(h0:Kn X w w0 L)(h:Kn (keys L) w0 W L):Below w0.heap.size w0 W:=f7 h fun x hx=>by
 obtain⟨p,hp,rfl⟩:=List.mem_map.1 hx
 exact⟨p.2,hp,h0.has p hp⟩
def vY(w:World)(p:PAns)(e:Ending)(w':World):Prop:=match p with
 |.ok l=>∃(nm:ByteArray) (aa:Option Addr) (na:Nat) (ca:Nat) (aw:Option Addr) (nw:Nat) (cw:Nat) (ar:Option Addr) (nr:Nat) (cr:Nat) (ak:Option Addr) (nk:Nat) (ck:Nat),e=.returned (.tuple #[.agg #[.int .i64 ((4:Nat):Int),.string nm,.bool false,.slice aa na ca,.slice aw nw cw,.slice ar nr cr,.slice ak nk ck],.int .i64 0,.int .i64 0])/\∀Y:List Nat,(∀y∈Y,∃c t,w.heap[y]? =some (.cells c t (0,0))/\t≠118)->NodeIs Y w' (.mk 4 [] false [] [] [] l) [.int .i64 ((4:Nat):Int),.string nm,.bool false,.slice aa na ca,.slice aw nw cw,.slice ar nr cr,.slice ak nk ck]
 |.err f m=>e=.returned (.tuple #[.agg #[.int .i64 0,.string ⟨#[]⟩,.bool false,.slice none 0 0,.slice none 0 0,.slice none 0 0,.slice none 0 0],.int .i64 (if f=true then 6 else 27),.int .i64 m])
def BX(src:ByteArray)(w:World)(e:Ending)(w':World):Prop:=Below w.heap.size w w'/\vY w (ax src.data.toList) e w'
end
end Go.Proofs.YtgboffbbpmileaaGreatDoor
namespace Go.Proofs.YtgboffbbpmileaaGreatDoor
open Go Go.ChangeAt Go.ChangeShapes Go.RowKit Go.WideShapes
theorem own:ownKnob Tryz.prog.godebug=none:=by kernel_rfl
theorem kids:Kids Tryz.prog (· <Tryz.prog.types.size):=kids_rows (by kernel_rfl) (by kernel_rfl)
theorem vZ:∀t e,t<Tryz.prog.types.size->Tryz.prog.underlying t=some (.slice e)->0<Tryz.prog.cellsOf e:=slices_full_of _ (by kernel_rfl)
def kY:List (String×DataW Unit):=[("math/bits.deBruijn32tab",Rows.laid_math_bits_deBruijn32tab),("math/bits.deBruijn64tab",Rows.laid_math_bits_deBruijn64tab),("internal/strconv.uint64pow10",Rows.laid_internal_strconv_uint64pow10),("unicode/utf8.acceptRanges",Rows.laid_unicode_utf8_acceptRanges),("strconv.ErrRange",Rows.laid_strconv_ErrRange),("strconv.ErrSyntax",Rows.laid_strconv_ErrSyntax),("rehearsal/parse.closers",Rows.laid_rehearsal_parse_closers),("unicode/utf8.first",Rows.laid_unicode_utf8_first)]
set_option maxRecDepth 100000 in
theorem tables{W:World}(h:laidMetH Tryz.prog kY W)(hSh:W.ShapedOpen Tryz.prog):TabP W:=by
 have h':laidMet Tryz.prog kY W:=h
 obtain⟨ps,hV,_⟩:=h'
 obtain⟨T0,qs0,hV1⟩:=j9 (k:=.u8) (zs:=[0,1,28,2,29,14,24,3,30,22,20,15,25,17,4,8,31,27,13,23,21,19,16,7,26,12,18,6,11,5,10,9]) (g:=7) (by kernel_rfl) (by kernel_rfl) Tryz.underlying212 Tryz.underlying5 (by kernel_rfl) (by kernel_rfl) hV
 obtain⟨T1,qs1,hV2⟩:=j9 (k:=.u8) (zs:=[0,1,56,2,57,49,28,3,61,58,42,50,38,29,17,4,62,47,59,36,45,43,51,22,53,39,33,30,24,18,12,5,63,55,48,27,60,41,37,16,46,35,44,21,52,32,23,11,54,26,40,15,34,20,31,10,25,14,19,9,13,8,7,6]) (g:=8) (by kernel_rfl) (by kernel_rfl) Tryz.underlying213 Tryz.underlying5 (by kernel_rfl) (by kernel_rfl) hV1
 obtain⟨T2,qs2,hV3⟩:=j9 (k:=.u64) (zs:=[1,10,100,1000,10000,100000,1000000,10000000,100000000,1000000000,10000000000,100000000000,1000000000000,10000000000000,100000000000000,1000000000000000,10000000000000000,100000000000000000,1000000000000000000,10000000000000000000]) (g:=6) (by kernel_rfl) (by kernel_rfl) Tryz.underlying207 Tryz.underlying183 (by kernel_rfl) (by kernel_rfl) hV2
 obtain⟨qs3,hV4⟩:=lF hV3
 obtain⟨T4,qs4,hV5⟩:=j_ (g:=3) (by kernel_rfl) (by kernel_rfl) Tryz.underlying145 hV4
 obtain⟨T5,qs5,hV6⟩:=j_ (g:=2) (by kernel_rfl) (by kernel_rfl) Tryz.underlying145 hV5
 obtain⟨T6,qs6,hV7⟩:=nG (ss:=[[116,104,101,110],[101,108,105,102],[101,108,115,101],[102,105],[100,111],[100,111,110,101],[101,115,97,99],[125],[105,110],[33]]) (g:=0) (by kernel_rfl) (by kernel_rfl) Tryz.underlying50 Tryz.underlying9 (by kernel_rfl) (by simp) hV6
 obtain⟨qs7,hV8⟩:=lF hV7
 obtain⟨m,hm⟩:=cell_of_shapedOpen_int (g:=1) (zero:=#[.int .i64 0]) (t:=3) hSh (of_decide_eq_true (by kernel_rfl)) (by kernel_rfl) rfl (by kernel_rfl) (by kernel_rfl) Tryz.underlying3
 obtain⟨cg,co,cc,h1,h2,h3⟩:=T6
 exact⟨⟨m,hm⟩,cg,co,cc,h1,h2,fun j s hs=>h3 j s hs⟩
def low:Nat:=14
def lay(h:Array Obj)(g:Nat)(cs:Array Value):Array Obj:=h.modify g fun
 |.cells _ t frozen=>.cells cs t frozen
 |o=>o
noncomputable def laidWorld (os:Os):World:=
 {World.holding Tryz.prog os ⟨#[.cells #[.string ⟨#[118,97,108,117,101,32,111,117,116,32,111,102,32,114,97,110,103,101]⟩] 199,.cells #[.string ⟨#[105,110,118,97,108,105,100,32,115,121,110,116,97,120]⟩] 199,.cells #[.string ⟨#[116,104,101,110]⟩,.string ⟨#[101,108,105,102]⟩,.string ⟨#[101,108,115,101]⟩,.string ⟨#[102,105]⟩,.string ⟨#[100,111]⟩,.string ⟨#[100,111,110,101]⟩,.string ⟨#[101,115,97,99]⟩,.string ⟨#[125]⟩,.string ⟨#[105,110]⟩,.string ⟨#[33]⟩] 9],#[],[]⟩with heap:=(lay (lay (lay (lay (lay (lay (lay (lay (World.holding Tryz.prog os ⟨#[.cells #[.string ⟨#[118,97,108,117,101,32,111,117,116,32,111,102,32,114,97,110,103,101]⟩] 199,.cells #[.string ⟨#[105,110,118,97,108,105,100,32,115,121,110,116,97,120]⟩] 199,.cells #[.string ⟨#[116,104,101,110]⟩,.string ⟨#[101,108,105,102]⟩,.string ⟨#[101,108,115,101]⟩,.string ⟨#[102,105]⟩,.string ⟨#[100,111]⟩,.string ⟨#[100,111,110,101]⟩,.string ⟨#[101,115,97,99]⟩,.string ⟨#[125]⟩,.string ⟨#[105,110]⟩,.string ⟨#[33]⟩] 9],#[],[]⟩).heap 7 #[.int .u8 0,.int .u8 1,.int .u8 28,.int .u8 2,.int .u8 29,.int .u8 14,.int .u8 24,.int .u8 3,.int .u8 30,.int .u8 22,.int .u8 20,.int .u8 15,.int .u8 25,.int .u8 17,.int .u8 4,.int .u8 8,.int .u8 31,.int .u8 27,.int .u8 13,.int .u8 23,.int .u8 21,.int .u8 19,.int .u8 16,.int .u8 7,.int .u8 26,.int .u8 12,.int .u8 18,.int .u8 6,.int .u8 11,.int .u8 5,.int .u8 10,.int .u8 9]) 8 #[.int .u8 0,.int .u8 1,.int .u8 56,.int .u8 2,.int .u8 57,.int .u8 49,.int .u8 28,.int .u8 3,.int .u8 61,.int .u8 58,.int .u8 42,.int .u8 50,.int .u8 38,.int .u8 29,.int .u8 17,.int .u8 4,.int .u8 62,.int .u8 47,.int .u8 59,.int .u8 36,.int .u8 45,.int .u8 43,.int .u8 51,.int .u8 22,.int .u8 53,.int .u8 39,.int .u8 33,.int .u8 30,.int .u8 24,.int .u8 18,.int .u8 12,.int .u8 5,.int .u8 63,.int .u8 55,.int .u8 48,.int .u8 27,.int .u8 60,.int .u8 41,.int .u8 37,.int .u8 16,.int .u8 46,.int .u8 35,.int .u8 44,.int .u8 21,.int .u8 52,.int .u8 32,.int .u8 23,.int .u8 11,.int .u8 54,.int .u8 26,.int .u8 40,.int .u8 15,.int .u8 34,.int .u8 20,.int .u8 31,.int .u8 10,.int .u8 25,.int .u8 14,.int .u8 19,.int .u8 9,.int .u8 13,.int .u8 8,.int .u8 7,.int .u8 6]) 6 #[.int .u64 1,.int .u64 10,.int .u64 100,.int .u64 1000,.int .u64 10000,.int .u64 100000,.int .u64 1000000,.int .u64 10000000,.int .u64 100000000,.int .u64 1000000000,.int .u64 10000000000,.int .u64 100000000000,.int .u64 1000000000000,.int .u64 10000000000000,.int .u64 100000000000000,.int .u64 1000000000000000,.int .u64 10000000000000000,.int .u64 100000000000000000,.int .u64 1000000000000000000,.int .u64 10000000000000000000]) 5 #[.int .u8 128,.int .u8 191,.int .u8 160,.int .u8 191,.int .u8 128,.int .u8 159,.int .u8 144,.int .u8 191,.int .u8 128,.int .u8 143,.int .u8 0,.int .u8 0,.int .u8 0,.int .u8 0,.int .u8 0,.int .u8 0,.int .u8 0,.int .u8 0,.int .u8 0,.int .u8 0,.int .u8 0,.int .u8 0,.int .u8 0,.int .u8 0,.int .u8 0,.int .u8 0,.int .u8 0,.int .u8 0,.int .u8 0,.int .u8 0,.int .u8 0,.int .u8 0]) 3 #[.iface 197 (.pointer (some ⟨low+0,0,none⟩))]) 2 #[.iface 197 (.pointer (some ⟨low+1,0,none⟩))]) 0 #[.slice (some ⟨low+2,0,none⟩) 10 10]) 4 (Go.Pinned.utf8FirstZ.map fun z:Nat=>Value.int .u8 z).toArray)}
theorem v7(os:Os)(args:Array Value):laidMet Tryz.prog kY ((laidWorld os).forCall (fun _ _=>0) ⟨#[],args,[]⟩).memory:=
 (LaidIn.of_run [7,8,6,5,3,2,0,4,14,15,16] 8 (by kernel_rfl) (by kernel_rfl) (by kernel_rfl) (by kernel_rfl)).met
end Go.Proofs.YtgboffbbpmileaaGreatDoor
namespace Go.Proofs.YtgboffbbpmileaaGreatDoor
open Go Go.RowKit
section
structure Tg where
 s:ab:=[]
 a:Int:=0
 b:Nat:=0
mutual
inductive Wd where
 |nil
 |lit (p:Prt) (r:Wd)
 |sub (p:Prt) (t:Tr) (r:Wd)
 |bad (p:Prt) (f:Bool) (r:Wd)
inductive Ws where
 |nil
 |cons (g:Tg) (w:Wd) (r:Ws)
inductive Tr where
 |simple (a w r:Ws)
 |pipe (neg:Bool) (l:Ts)
 |ao (or:Bool) (x y:Tr)
 |lst (l:Ts)
 |back (x:Tr)
 |sub (x:Tr) (r:Ws)
 |grp (x:Tr) (r:Ws)
 |iff (c t:Tr) (r:Ws)
 |ife (c t e:Tr) (r:Ws)
 |loop (u:Bool) (c b:Tr) (r:Ws)
 |for_ (n:ab) (w:Ws) (b:Tr) (r:Ws)
 |case_ (w:Wd) (l:Am) (r:Ws)
 |fn (n:ab) (b:Tr)
inductive Ts where
 |nil
 |cons (x:Tr) (r:Ts)
inductive Am where
 |nil
 |cons (w:Ws) (b:Tr) (r:Am)
end
def Wd.ps:Wd->List Prt
 |.nil=>[]
 |.lit p r=>p::r.ps
 |.sub p _ r=>p::r.ps
 |.bad p _ r=>p::r.ps
def Ws.ws:Ws->List (List Prt)
 |.nil=>[]
 |.cons _ w r=>w.ps::r.ws
def Ws.as:Ws->List (ab×List Prt)
 |.nil=>[]
 |.cons g w r=>(g.s,w.ps)::r.as
def Ws.rs:Ws->List (Int×Nat×List Prt)
 |.nil=>[]
 |.cons g w r=>(g.a,g.b,w.ps)::r.rs
mutual
def Tr.nd:Tr->Nd
 |.simple a w r=>.mk 0 [] false a.as w.ws r.rs []
 |.pipe g l=>.mk 1 [] g [] [] [] l.nds
 |.ao o x y=>.mk (if o then 3 else 2) [] false [] [] [] [x.nd,y.nd]
 |.lst l=>.mk 4 [] false [] [] [] l.nds
 |.back x=>.mk 5 [] false [] [] [] [x.nd]
 |.sub x r=>.mk 6 [] false [] [] r.rs [x.nd]
 |.grp x r=>.mk 7 [] false [] [] r.rs [x.nd]
 |.iff c t r=>.mk 8 [] false [] [] r.rs [c.nd,t.nd]
 |.ife c t e r=>.mk 8 [] false [] [] r.rs [c.nd,t.nd,e.nd]
 |.loop u c b r=>.mk (if u then 10 else 9) [] false [] [] r.rs [c.nd,b.nd]
 |.for_ n w b r=>.mk 11 n false [] w.ws r.rs [b.nd]
 |.case_ w l r=>.mk 12 [] false [] [w.ps] r.rs l.nds
 |.fn n b=>.mk 14 n false [] [] [] [b.nd]
def Ts.nds:Ts->List Nd
 |.nil=>[]
 |.cons x r=>x.nd::r.nds
def Am.nds:Am->List Nd
 |.nil=>[]
 |.cons w b r=>.mk 13 [] false [] w.ws [] [b.nd]::r.nds
end
def Tr.lst1:Tr->Prop
 |.lst (.cons _ _)=>True
 |_=>False
mutual
def Wd.ok:Wd->Prop
 |.nil=>True
 |.lit p r=>p.k≠2/\r.ok
 |.sub p t r=>p.k=2/\(∃l,ax p.t=.ok l/\t.nd=.mk 4 [] false [] [] [] l/\∃ts,t=.lst ts)/\t.ok/\r.ok
 |.bad p f r=>p.k=2/\(∃m,ax p.t=.err f m)/\r.ok
def Ws.ok:Ws->Prop
 |.nil=>True
 |.cons _ w r=>w.ok/\r.ok
def Tr.ok:Tr->Prop
 |.simple a w r=>a.ok/\w.ok/\r.ok
 |.pipe _ l=>l.ok/\l.nds≠[]
 |.ao _ x y=>x.ok/\y.ok
 |.lst l=>l.ok
 |.back x=>x.ok
 |.sub x r=>x.ok/\r.ok
 |.grp x r=>x.ok/\r.ok
 |.iff c t r=>c.ok/\t.ok/\r.ok
 |.ife c t e r=>c.ok/\t.ok/\e.ok/\r.ok
 |.loop _ c b r=>(c.ok/\c.lst1)/\b.ok/\r.ok
 |.for_ _ w b r=>w.ok/\b.ok/\r.ok
 |.case_ w l r=>w.ok/\l.ok/\r.ok
 |.fn _ b=>b.ok
def Ts.ok:Ts->Prop
 |.nil=>True
 |.cons x r=>x.ok/\r.ok
def Am.ok:Am->Prop
 |.nil=>True
 |.cons w b r=>w.ok/\b.ok/\r.ok
end
def gr(L:Nat):Prop:=∀t:ab,t.length<L->(∃f m,ax t=.err f m)\/∃l,ax t=.ok l/\∃ts:Ts,ts.nds=l/\ts.ok
def PsOK(L:Nat)(ps:List Prt):Prop:=∀p∈ps,p.k=2->p.t.length<L
def TkOK(L:Nat)(ts:List Tok):Prop:=∀t∈ts,PsOK L t.parts
theorem TkOK.suf{L:Nat}{ts r:List Tok}(h:TkOK L ts)(hs:r <:+ ts):TkOK L r:=fun t ht=>h t (hs.subset ht)
theorem TkOK.hd{L:Nat}{t:Tok}{r:List Tok}(h:TkOK L (t::r)):PsOK L t.parts:=h t List.mem_cons_self
theorem TkOK.tl{L:Nat}{t:Tok}{r:List Tok}(h:TkOK L (t::r)):TkOK L r:=fun x hx=>h x (List.mem_cons_of_mem _ hx)
section
variable {L:Nat} (HS:gr L)
theorem pf(HS:gr L):∀ps:List Prt,PsOK L ps->∃w:Wd,w.ps=ps/\w.ok
 | [],_=>⟨.nil,rfl,by simp only[Wd.ok]⟩
 |p::ps,h=>by
  obtain⟨w,h1,h2⟩:=pf HS ps (fun q hq=>h q (List.mem_cons_of_mem _ hq));by_cases hk:p.k=2
  ·rcases HS p.t (h p List.mem_cons_self hk)with⟨f,m,he⟩|⟨l,he,ts,h3,h4⟩
   ·exact⟨.bad p f w,by grind[Wd.ps],by grind[Wd.ok]⟩
   ·exact⟨.sub p (.lst ts) w,by grind[Wd.ps],by grind[Wd.ok,Tr.ok,Tr.nd]⟩
  ·exact⟨.lit p w,by grind[Wd.ps],by grind[Wd.ok]⟩
theorem rX(HS:gr L):∀l:List (List Prt),(∀ps∈l,PsOK L ps)->∃w:Ws,w.ws=l/\w.ok
 | [],_=>⟨.nil,rfl,by simp only[Ws.ok]⟩
 |ps::l,h=>by
  obtain⟨w,h1,h2⟩:=rX HS l (fun q hq=>h q (List.mem_cons_of_mem _ hq));obtain⟨x,h3,h4⟩:=pf HS ps (h ps List.mem_cons_self);exact⟨.cons {} x w,by grind[Ws.ws],by grind[Ws.ok]⟩
theorem Ab(HS:gr L):∀l:List (ab×List Prt),(∀x∈l,PsOK L x.2)->∃w:Ws,w.as=l/\w.ok
 | [],_=>⟨.nil,rfl,by simp only[Ws.ok]⟩
 |x::l,h=>by
  obtain⟨w,h1,h2⟩:=Ab HS l (fun q hq=>h q (List.mem_cons_of_mem _ hq));obtain⟨y,h3,h4⟩:=pf HS x.2 (h x List.mem_cons_self);exact⟨.cons ⟨x.1,0,0⟩ y w,by grind[Ws.as],by grind[Ws.ok]⟩
theorem v8(HS:gr L):∀l:List (Int×Nat×List Prt),(∀x∈l,PsOK L x.2.2)->∃w:Ws,w.rs=l/\w.ok
 | [],_=>⟨.nil,rfl,by simp only[Ws.ok]⟩
 |x::l,h=>by
  obtain⟨w,h1,h2⟩:=v8 HS l (fun q hq=>h q (List.mem_cons_of_mem _ hq));obtain⟨y,h3,h4⟩:=pf HS x.2.2 (h x List.mem_cons_self);exact⟨.cons ⟨[],x.1,x.2.1⟩ y w,by grind[Ws.rs],by grind[Ws.ok]⟩
def Gd(n:Nd):Prop:=∃x:Tr,x.nd=n/\x.ok
def Gl(n:Nd):Prop:=∃l:Ts,(Tr.lst l).nd=n/\l.ok
def Gs(n:Nd):Prop:=∃x r,(Tr.lst (.cons x r)).nd=n/\(Ts.cons x r).ok
def Gb(n:Nd):Prop:=n.rs=[]/\∃F:Ws->Tr,∀r:Ws,r.ok->(F r).nd=n.setRs r.rs/\(F r).ok
theorem Gs.gd{n:Nd}(h:Gs n):Gd n:=by obtain⟨x,r,h1,h2⟩:=h;exact⟨_,h1,by grind[Tr.ok]⟩
theorem Gl.gd{n:Nd}(h:Gl n):Gd n:=by obtain⟨l,h1,h2⟩:=h;exact⟨_,h1,by grind[Tr.ok]⟩
theorem Gb.gd{n:Nd}(h:Gb n):Gd n:=by
 obtain⟨h1,F,h2⟩:=h
 obtain⟨h3,h4⟩:=h2 .nil (by simp only[Ws.ok])
 refine⟨_,?_,h4⟩
 rw[h3]
 cases n
 simp only[Nd.rs]at h1
 subst h1
 rfl
def Gp(Q:Nd->Prop)(P:Pa Nd):Prop:=∀ts,TkOK L ts->∀a r,P ts=.ok a r->Q a/\TkOK L r
theorem mU{ts:List Tok}(ht:TkOK L ts){ps:List Prt}{r:List Tok}(h:bT ts=.ok ps r):PsOK L ps/\TkOK L r:=by
 cases ts with
 |nil=>cases h
 |cons t u=>
  simp only[bT]at h;split at h
  ·injection h with h1 h2
   subst h1 h2;exact⟨ht.hd,ht.tl⟩
  ·cases h
theorem eo{s:ab}{ts:List Tok}(ht:TkOK L ts){u:Unit}{r:List Tok}(h:aW s ts=.ok u r):TkOK L r:=by
 unfold aW at h
 split at h
 ·injection h with h1 h2
  rw[<- h2];exact ht.suf (am ts)
 ·cases h
theorem pg{Q:Nd->Prop}{cmd:Pa Nd}(h:Gp (L:=L) Q cmd):∀(f:Nat) (l:List Nd) (ts:List Tok),TkOK L ts->(∀n∈l,Q n)->∀a r,dl cmd f l ts=.ok a r->(∀n∈a,Q n)/\TkOK L r/\l.length<=a.length
 |0,l,ts,ht,hl,a,r,e=>by cases e;grind
 |f+1,l,ts,ht,hl,a,r,e=>by
  unfold dl at e;split at e
  ·obtain⟨x,s,h1,h2⟩:=ac e
   obtain⟨h3,h4⟩:=h _ (ht.suf ((ay _).trans (am ts))) _ _ h1;obtain⟨h5,h6,h7⟩:=pg h f _ s h4 (fun n hn=>by grind) a r h2;grind
  grind
theorem rY:∀l:List Nd,(∀n∈l,Gd n)->∃ts:Ts,ts.nds=l/\ts.ok
 | [],_=>⟨.nil,rfl,by simp only[Ts.ok]⟩
 |n::l,h=>by
  obtain⟨ts,h1,h2⟩:=rY l (fun q hq=>h q (List.mem_cons_of_mem _ hq));obtain⟨x,h3,h4⟩:=h n List.mem_cons_self;exact⟨.cons x ts,by grind[Ts.nds],by grind[Ts.ok]⟩
theorem rZ{cmd:Pa Nd}(h:Gp (L:=L) Gd cmd):Gp (L:=L) Gd (pipe cmd):=fun ts ht a r e=>by
 obtain⟨x,s,h1,h2⟩:=ac e
 obtain⟨h3,h4⟩:=h _ (by split;exact ht.suf (am ts);exact ht) _ _ h1
 obtain⟨l,s2,h5,h6⟩:=ac h2
 obtain⟨h7,h8,h9⟩:=pg h _ _ s h4 (fun n hn=>by grind) _ _ h5
 injection h6 with h6 h10
 subst h6 h10
 obtain⟨tl,h11,h12⟩:=rY l h7
 refine⟨⟨.pipe (bS [[33]] ts) tl,by grind[Tr.nd],?_⟩,h8⟩
 grind[Tr.ok]
theorem ph{pi:Pa Nd}(h:Gp (L:=L) Gd pi):∀(f:Nat) (n:Nd) (ts:List Tok),TkOK L ts->Gd n->∀a r,dk pi f n ts=.ok a r->Gd a/\TkOK L r
 |0,n,ts,ht,hn,a,r,e=>by cases e;grind
 |f+1,n,ts,ht,hn,a,r,e=>by
  unfold dk at e;split at e
  ·obtain⟨x,s,h1,h2⟩:=ac e
   obtain⟨h3,h4⟩:=h _ (ht.suf ((ay _).trans (am ts))) _ _ h1;refine ph h f _ s h4 ?_ a r h2;obtain⟨y,h5,h6⟩:=hn;obtain⟨z,h7,h8⟩:=h3;exact⟨.ao (aS [124,124] ts) y z,by grind[Tr.nd],by grind[Tr.ok]⟩
  grind
theorem r6{pi:Pa Nd}(h:Gp (L:=L) Gd pi):Gp (L:=L) Gd (item pi):=fun ts ht a r e=>by
 obtain⟨x,s,h1,h2⟩:=ac e
 obtain⟨h3,h4⟩:=h _ ht _ _ h1
 grind[ph]
theorem yI{ts:List Tok}{n:Nd}(h:Gd n):Gd (back ts n):=by
 unfold back
 split
 ·obtain⟨y,h5,h6⟩:=h
  exact⟨.back y,by grind[Tr.nd],by grind[Tr.ok]⟩
 ·exact h
theorem kZ{it:Pa Nd}(h:Gp (L:=L) Gd it):∀(f:Nat) (l:List Nd) (ts:List Tok),TkOK L ts->(∀n∈l,Gd n)->∀a r,aR it f l ts=.ok a r->(∀n∈a,Gd n)/\TkOK L r
 |0,l,ts,ht,hl,a,r,e=>by cases e;grind
 |f+1,l,ts,ht,hl,a,r,e=>by
  unfold aR at e;split at e
  ·cases e;exact⟨hl,ht.suf (ay ts)⟩
  ·obtain⟨x,s,h1,h2⟩:=ac e
   obtain⟨h3,h4⟩:=h _ (ht.suf (ay ts)) _ _ h1;have h5:∀n∈l++[back s x],Gd n:=fun n hn=>by grind[yI]
   split at h2
   ·exact kZ h f _ _ (h4.suf (am s)) h5 a r h2
   ·grind
theorem r7{cmd:Pa Nd}(h:Gp (L:=L) Gd cmd):Gp (L:=L) Gl (cj cmd):=fun ts ht a r e=>by
 obtain⟨l,s,h1,h2⟩:=ac e
 obtain⟨h3,h4⟩:=kZ (r6 (rZ h)) _ _ ts ht (fun n hn=>by cases hn) _ _ h1
 injection h2 with h2 h5
 subst h2 h5
 obtain⟨ts,h6,h7⟩:=rY l h3
 exact⟨⟨ts,by grind[Tr.nd],h7⟩,h4⟩
theorem mV{cmd:Pa Nd}(h:Gp (L:=L) Gd cmd):Gp (L:=L) Gs (eA cmd):=fun ts ht a r e=>by
 obtain⟨n,s,h1,h2⟩:=ac e
 obtain⟨⟨l,h3,h4⟩,h5⟩:=r7 h ts ht _ _ h1
 split at h2
 ·cases h2
 ·rename_i hk
  injection h2 with h2 h6
  subst h2 h6
  cases l with
  |nil=>rw[<- h3]at hk;exact absurd rfl hk
  |cons x r=>exact⟨⟨x,r,h3,h4⟩,h5⟩
theorem l9{so:Pa Nd}(h:Gp (L:=L) Gs so)(k:Nat)(hk:k=6\/k=7)(c:ab):Gp (L:=L) Gb (closed so k c):=fun ts ht a r e=>by
 obtain⟨x,s,h1,h2⟩:=ac e
 obtain⟨h3,h4⟩:=h _ ht _ _ h1
 obtain⟨u,s2,h5,h6⟩:=ac h2
 injection h6 with h6 h7
 subst h6 h7
 obtain⟨y,h8,h9⟩:=h3.gd
 refine⟨⟨rfl,?_⟩,eo h4 h5⟩
 rcases hk with rfl|rfl
 ·exact⟨fun r=>.sub y r,fun r hr=>⟨by simp only[Tr.nd,h8];rfl,by grind[Tr.ok]⟩⟩
 ·exact⟨fun r=>.grp y r,fun r hr=>⟨by simp only[Tr.nd,h8];rfl,by grind[Tr.ok]⟩⟩
theorem yJ{n:Nd}(h:Gs n):∃x:Tr,x.nd=n/\x.ok/\x.lst1:=by
 obtain⟨x,r,h1,h2⟩:=h
 exact⟨_,h1,by grind[Tr.ok],trivial⟩
theorem k9{so:Pa Nd}(h:Gp (L:=L) Gs so){k:Nat}{c:ab}{e:Option ab}{ts:List Tok}(ht:TkOK L ts){n:Nd}{r:List Tok}(hh:aO so k c e ts=.ok n r):∃a b,n=.mk k [] false [] [] [] [a,b]/\Gs a/\Gs b/\TkOK L r:=by
 obtain⟨a,s,h1,h2⟩:=ac hh
 obtain⟨h3,h4⟩:=h _ ht _ _ h1
 obtain⟨u,s2,h5,h6⟩:=ac h2
 obtain⟨b,s3,h7,h8⟩:=ac h6
 obtain⟨h9,h10⟩:=h _ (eo h4 h5) _ _ h7
 cases e with
 |none=>grind
 |some c2=>
  obtain⟨u,s4,h11,h12⟩:=ac h8;grind[eo]
theorem pj{so:Pa Nd}(h:Gp (L:=L) Gs so)(u:Bool)(c e:ab):Gp (L:=L) Gb (aO so (if u then 10 else 9) c (some e)):=fun ts ht n r hh=>by
 obtain⟨a,b,rfl,h1,h2,h3⟩:=k9 h ht hh
 obtain⟨x,h4,h5,h6⟩:=yJ h1
 obtain⟨y,h7,h8⟩:=h2.gd
 exact⟨⟨rfl,fun r=>.loop u x y r,fun r hr=>⟨by simp only[Tr.nd,h4,h7];rfl,by grind[Tr.ok]⟩⟩,h3⟩
theorem jB:∀ts:List Tok,TkOK L ts->(∀ps∈(aE ts).1,PsOK L ps)/\TkOK L (aE ts).2
 | [],h=>by grind[aE]
 |t::r,h=>by
  unfold aE;split
  ·obtain⟨h1,h2⟩:=jB r h.tl
   exact⟨fun ps hp=>by rcases List.mem_cons.1 hp with rfl|hp;exact h.hd;grind,h2⟩
  grind
theorem k_(HS:gr L){so:Pa Nd}(h:Gp (L:=L) Gs so){n:ab}{ws:List (List Prt)}(hw:∀ps∈ws,PsOK L ps){ts:List Tok}(ht:TkOK L ts){a:Nd}{r:List Tok}(hh:cf so n ws ts=.ok a r):Gb a/\TkOK L r:=by
 obtain⟨u,s,h1,h2⟩:=ac hh
 obtain⟨b,s2,h3,h4⟩:=ac h2
 obtain⟨u2,s3,h5,h6⟩:=ac h4
 obtain⟨h7,h8⟩:=h _ (eo (ht.suf (ay ts)) h1) _ _ h3
 injection h6 with h6 h9
 subst h6 h9
 obtain⟨x,h10,h11⟩:=h7.gd
 obtain⟨w,h12,h13⟩:=rX HS ws hw
 exact⟨⟨rfl,fun r=>.for_ n w x r,fun r hr=>⟨by simp only[Tr.nd,h10,h12];rfl,by grind[Tr.ok]⟩⟩,eo h8 h5⟩
theorem yK(HS:gr L){so:Pa Nd}(h:Gp (L:=L) Gs so):Gp (L:=L) Gb (eG so):=fun ts ht a r hh=>by
 cases ts with
 |nil=>cases hh
 |cons t u=>
  simp only[eG]at hh;have hl:TkOK L (au u):=ht.tl.suf (ay u);split at hh
  ·split at hh
   ·obtain⟨h1,h2⟩:=jB (au u).tail (hl.suf (am _))
    unfold gV at hh;split at hh
    ·exact k_ HS h h1 (h2.suf (am _)) hh
    ·cases hh
   ·refine k_ HS h (fun ps hp=>?_) ?_ hh
    ·unfold qh at hp
     simp only[List.mem_singleton]at hp;subst hp;exact fun p hp hk=>by grind
    ·split
     ·exact hl.suf (am _)
     omega
  ·cases hh
theorem r8:∀(f:Nat) (l:List (List Prt)) (ts:List Tok),TkOK L ts->(∀ps∈l,PsOK L ps)->∀a r,e_ f l ts=.ok a r->(∀ps∈a,PsOK L ps)/\TkOK L r
 |0,l,ts,ht,hl,a,r,e=>by cases e;grind
 |f+1,l,ts,ht,hl,a,r,e=>by
  unfold e_ at e;split at e
  ·obtain⟨w,s,h1,h2⟩:=ac e
   obtain⟨h3,h4⟩:=mU (ht.suf (am ts)) h1;exact r8 f _ s h4 (fun ps hp=>by grind) a r h2
  grind
def Ga(n:Nd):Prop:=∃(w:Ws) (b:Tr),n=.mk 13 [] false [] w.ws [] [b.nd]/\w.ok/\b.ok
theorem A8(HS:gr L){li:Pa Nd}(h:Gp (L:=L) Gl li):Gp (L:=L) Ga (arm li):=fun ts ht a r e=>by
 obtain⟨w,s,h1,h2⟩:=ac e
 obtain⟨h3,h4⟩:=mU (by split;exact ht.suf (am ts);exact ht) h1
 obtain⟨ws,s2,h5,h6⟩:=ac h2
 obtain⟨h7,h8⟩:=r8 _ _ s h4 (fun ps hp=>by grind) _ _ h5
 obtain⟨u,s3,h9,h10⟩:=ac h6
 obtain⟨n,s4,h11,h12⟩:=ac h10
 obtain⟨h13,h14⟩:=h _ (eo h8 h9) _ _ h11
 obtain⟨u2,s5,h15,h16⟩:=ac h12
 injection h16 with h16 h17
 subst h16 h17
 obtain⟨y,h18,h19⟩:=h13.gd
 obtain⟨w,h20,h21⟩:=rX HS ws h7
 exact⟨⟨w,y,by grind,h21,h19⟩,eo h14 h15⟩
theorem pk{Q:Nd->Prop}{ar:Pa Nd}(h:Gp (L:=L) Q ar):∀(f:Nat) (l:List Nd) (ts:List Tok),TkOK L ts->(∀n∈l,Q n)->∀a r,de ar f l ts=.ok a r->(∀n∈a,Q n)/\TkOK L r
 |0,l,ts,ht,hl,a,r,e=>by cases e;grind
 |f+1,l,ts,ht,hl,a,r,e=>by
  unfold de at e;split at e
  ·cases e;exact⟨hl,ht.suf (ay ts)⟩
  ·obtain⟨x,s,h1,h2⟩:=ac e
   obtain⟨h3,h4⟩:=h _ (ht.suf (ay ts)) _ _ h1;exact pk h f _ s h4 (fun n hn=>by grind) a r h2
theorem Ac:∀l:List Nd,(∀n∈l,Ga n)->∃x:Am,x.nds=l/\x.ok
 | [],_=>⟨.nil,rfl,by simp only[Am.ok]⟩
 |n::l,h=>by
  obtain⟨x,h1,h2⟩:=Ac l (fun q hq=>h q (List.mem_cons_of_mem _ hq));obtain⟨w,b,rfl,h3,h4⟩:=h n List.mem_cons_self;exact⟨.cons w b x,by grind[Am.nds],by grind[Am.ok]⟩
theorem tJ(HS:gr L){li:Pa Nd}(h:Gp (L:=L) Gl li):Gp (L:=L) Gb (fQ li):=fun ts ht a r e=>by
 obtain⟨w,s,h1,h2⟩:=ac e
 obtain⟨h3,h4⟩:=mU ht h1
 obtain⟨u,s2,h5,h6⟩:=ac h2
 obtain⟨l,s3,h7,h8⟩:=ac h6
 obtain⟨h9,h10⟩:=pk (A8 HS h) _ _ s2 (eo (h4.suf (ay s)) h5) (fun n hn=>by cases hn) _ _ h7
 obtain⟨u2,s4,h11,h12⟩:=ac h8
 injection h12 with h12 h13
 subst h12 h13
 obtain⟨x,h14,h15⟩:=Ac l h9
 obtain⟨y,h16,h17⟩:=pf HS w h3
 exact⟨⟨rfl,fun r=>.case_ y x r,fun r hr=>⟨by simp only[Tr.nd,h14,h16];rfl,by grind[Tr.ok]⟩⟩,eo h10 h11⟩
theorem r_{so:Pa Nd}{inner:Option (Pa Nd)}(h:Gp (L:=L) Gs so)(hi:∀c,inner=some c->Gp (L:=L) Gb c):Gp (L:=L) Gb (eU so inner):=fun ts ht a r e=>by
 obtain⟨n,s,h1,h2⟩:=ac e
 obtain⟨c,t,rfl,h3,h4,h5⟩:=k9 h ht h1
 obtain⟨x,h6,h7⟩:=h3.gd
 obtain⟨y,h8,h9⟩:=h4.gd
 have key:∀z:Tr,z.ok->∀(r:Ws),r.ok->(Tr.ife x y z r).nd=(Nd.addKid (.mk 8 [] false [] [] [] [c,t]) z.nd).setRs r.rs/\(Tr.ife x y z r).ok:=fun z hz r hr=>⟨by simp only[Tr.nd,h6,h8];rfl,by grind[Tr.ok]⟩
 split at h2
 ·obtain⟨k,s2,h10,h11⟩:=ac h2
  obtain⟨h12,h13⟩:=h _ (h5.suf (am s)) _ _ h10;injection h11 with h11 h14
  subst h11 h14;obtain⟨z,h15,h16⟩:=h12.gd;subst h15;exact⟨⟨rfl,fun r=>.ife x y z r,key z h16⟩,h13⟩
 ·split at h2
  ·cases inner with
   |none=>cases h2
   |some i=>
    obtain⟨k,s2,h10,h11⟩:=ac h2;obtain⟨h12,h13⟩:=hi i rfl _ (h5.suf (am s)) _ _ h10;injection h11 with h11 h14
    subst h11 h14;obtain⟨z,h15,h16⟩:=h12.gd;subst h15;exact⟨⟨rfl,fun r=>.ife x y z r,key z h16⟩,h13⟩
  ·injection h2 with h2 h10
   subst h2 h10;exact⟨⟨rfl,fun r=>.iff x y r,fun r hr=>⟨by simp only[Tr.nd,h6,h8];rfl,by grind[Tr.ok]⟩⟩,h5⟩
theorem l_{ts:List Tok}(ht:TkOK L ts){x:Int×Nat×List Prt}{r:List Tok}(h:dx ts=.ok x r):PsOK L x.2.2/\TkOK L r:=by
 cases ts with
 |nil=>cases h
 |cons t u=>
  obtain⟨w,s,h1,h2⟩:=ac (p:=bT u) h;obtain⟨h3,h4⟩:=mU ht.tl h1;injection h2 with h2 h5
  subst h2 h5;exact⟨h3,h4⟩
theorem k':∀(f:Nat) (l:List (Int×Nat×List Prt)) (ts:List Tok),TkOK L ts->(∀x∈l,PsOK L x.2.2)->∀a r,bp f l ts=.ok a r->(∀x∈a,PsOK L x.2.2)/\TkOK L r
 |0,l,ts,ht,hl,a,r,e=>by cases e;grind
 |f+1,l,ts,ht,hl,a,r,e=>by
  unfold bp at e;split at e
  ·obtain⟨w,s,h1,h2⟩:=ac e
   obtain⟨h3,h4⟩:=l_ ht h1;exact k' f _ s h4 (fun ps hp=>by grind) a r h2
  grind
theorem yL(HS:gr L){li so conds:Pa Nd}(h1:Gp (L:=L) Gl li)(h2:Gp (L:=L) Gs so)(h3:Gp (L:=L) Gb conds):∀b,Gp (L:=L) Gb (iC li so conds b)
 |.sub=>l9 h2 6 (.inl rfl) _
 |.grp=>l9 h2 7 (.inr rfl) _
 |.iff=>h3
 |.whl=>pj h2 false _ _
 |.unt=>pj h2 true _ _
 |.for_=>yK HS h2
 |.case_=>tJ HS h1
theorem yM(HS:gr L){bo:Blk->Pa Nd}(h:∀b,Gp (L:=L) Gb (bo b))(b:Blk):Gp (L:=L) Gd (eV bo b):=fun ts ht a r e=>by
 obtain⟨n,s,h1,h2⟩:=ac e
 obtain⟨⟨h3,F,h4⟩,h5⟩:=h b _ (ht.suf (am ts)) _ _ h1
 obtain⟨u,s2,h6,h7⟩:=ac h2
 have h8:TkOK L s2:=by
  grind[eo]
 obtain⟨l,s3,h9,h10⟩:=ac h7
 obtain⟨h11,h12⟩:=k' _ _ s2 h8 (fun x hx=>by grind) _ _ h9
 injection h10 with h10 h13
 subst h10 h13
 obtain⟨w,h14,h15⟩:=v8 HS l h11
 obtain⟨h16,h17⟩:=h4 w h15
 exact⟨⟨F w,by grind,h17⟩,h12⟩
theorem A9{ps:List Prt}(h:PsOK L ps){x:ab×List Prt}(e:aJ ps=some x):PsOK L x.2:=by
 cases ps with
 |nil=>cases e
 |cons p r=>
  grind[PsOK,aJ]
structure SimOK (L:Nat) (x:Sim):Prop where
 a:∀y∈x.a,PsOK L y.2
 w:∀y∈x.w,PsOK L y
 r:∀y∈x.r,PsOK L y.2.2
theorem iL{α:Type}{Q:α->Prop}{l:List α}{x:α}(h:∀y∈l,Q y)(hx:Q x):∀y∈l++[x],Q y:=fun y hy=>by
 grind
theorem SimOK.word{x:Sim}(h:SimOK L x){ps:List Prt}(hp:PsOK L ps):SimOK L (x.word ps):=by
 unfold Sim.word
 split
 ·rename_i y hy
  split
  ·exact⟨iL (Q:=fun y:ab×List Prt=>PsOK L y.2) h.a (A9 hp hy),h.w,h.r⟩
  ·exact⟨h.a,iL (Q:=fun y:List Prt=>PsOK L y) h.w hp,h.r⟩
 ·exact⟨h.a,iL (Q:=fun y:List Prt=>PsOK L y) h.w hp,h.r⟩
theorem SimOK.gd(HS:gr L){x:Sim}(h:SimOK L x):Gd x.nd:=by
 obtain⟨a,h1,h2⟩:=Ab HS x.a h.a
 obtain⟨w,h3,h4⟩:=rX HS x.w h.w
 obtain⟨r,h5,h6⟩:=v8 HS x.r h.r
 exact⟨.simple a w r,by simp only[Tr.nd,h1,h3,h5];rfl,by grind[Tr.ok]⟩
theorem ip(HS:gr L):∀(f:Nat) (x:Sim) (ts:List Tok),TkOK L ts->SimOK L x->∀a r,aM f x ts=.ok a r->Gd a/\TkOK L r
 |0,x,ts,ht,hx,a,r,e=>by cases e;exact⟨hx.gd HS,ht⟩
 |f+1,x,ts,ht,hx,a,r,e=>by
  cases ts with
  |nil=>cases e;exact⟨hx.gd HS,ht⟩
  |cons t u=>
   simp only[aM]at e;split at e
   ·obtain⟨y,s,h1,h2⟩:=ac e
    obtain⟨h3,h4⟩:=l_ ht h1;exact ip HS f ⟨x.a,x.w,x.r++[y]⟩ s h4 ⟨hx.a,hx.w,iL (Q:=fun y:Int×Nat×List Prt=>PsOK L y.2.2) hx.r h3⟩ a r h2
   ·split at e
    ·exact ip HS f _ u ht.tl (hx.word ht.hd) a r e
    ·cases e;exact⟨hx.gd HS,ht⟩
theorem tK(HS:gr L):Gp (L:=L) Gd simple:=fun ts ht a r e=>by
 unfold simple at e
 split at e
 ·exact ip HS _ _ ts ht ⟨fun y hy=>(by cases hy),fun y hy=>(by cases hy),fun y hy=>(by cases hy)⟩ a r e
 ·cases e
theorem A_{comp:Blk->Pa Nd}(h:∀b,Gp (L:=L) Gd (comp b)):Gp (L:=L) Gd (ia comp):=fun ts ht a r e=>by
 cases ts with
 |nil=>cases e
 |cons t u=>
  simp only[ia]at e;split at e
  ·split at e
   ·cases e
   ·obtain⟨x,s,h1,h2⟩:=ac e
    obtain⟨⟨y,h3,h4⟩,h5⟩:=h _ _ (ht.tl.suf ((ay _).trans ((am _).trans (am u)))) _ _ h1;injection h2 with h2 h6
    subst h2 h6;exact⟨⟨.fn t.plain y,by grind[Tr.nd],by grind[Tr.ok]⟩,h5⟩
  ·cases e
theorem v_(HS:gr L){comp:Blk->Pa Nd}{inner:Option (Blk->Pa Nd)}(h:∀b,Gp (L:=L) Gd (comp b))(hi:∀c,inner=some c->∀b,Gp (L:=L) Gd (c b)):Gp (L:=L) Gd (gT comp inner):=fun ts ht a r e=>by
 unfold gT at e
 split at e
 ·exact h _ ts ht a r e
 ·split at e
  ·cases e
  ·split at e
   ·cases inner with
    |none=>cases e
    |some c=>exact A_ (hi c rfl) ts ht a r e
   ·exact tK HS ts ht a r e
theorem yN{Q:Nd->Prop}:Gp (L:=L) Q (fun ts=>full ts):=fun ts ht a r e=>by cases e
theorem wa(HS:gr L):∀k:Nat,Gp (L:=L) Gd (lev k).cmd/\Gp (L:=L) Gb (lev k).conds/\∀b,Gp (L:=L) Gd ((lev k).comp b)
 |0=>by
  have h1:∀b:Blk,Gp (L:=L) Gd (fun ts=>full ts):=fun b=>yN
  have h2:=v_ (comp:=fun _ ts=>full ts) (inner:=none) HS h1 (fun c h=>by cases h);exact⟨h2,r_ (inner:=none) (mV h2) (fun c h=>by cases h),h1⟩
 |k+1=>by
  obtain⟨i1,i2,i3⟩:=wa HS k;have h1:∀b,Gp (L:=L) Gd (eV (iC (cj (lev k).cmd) (eA (lev k).cmd) (lev k).conds) b):=yM HS (yL HS (r7 i1) (mV i1) i2);have h2:=v_ (inner:=some (lev k).comp) HS h1 (fun c h=>by simp_all);simp_all[r_,lev,mV]
theorem tM(HS:gr L)(k:Nat){ts:List Tok}(ht:TkOK L ts){l r}(h:dm k ts=.ok l r):∃x:Ts,x.nds=l/\x.ok:=by
 obtain⟨a,s,h1,h2⟩:=ac h
 obtain⟨h3,_⟩:=kZ (r6 (rZ (wa HS k).1)) _ _ ts ht (fun n hn=>by cases hn) _ _ h1
 split at h2
 ·simp_all[rY]
 ·cases h2
end
theorem PsOK.addT{K:Nat}:∀{ps:List Prt} {s:ab} {q:Bool},PsOK K ps->PsOK K (addT ps s q)
 | [],s,q,_=>fun p hp hk=>by simp only[Go.Proofs.YtgboffbbpmileaaGreatDoor.addT,List.mem_singleton]at hp;grind
 | [p],s,q,h=>fun x hx hk=>by
  simp only[Go.Proofs.YtgboffbbpmileaaGreatDoor.addT]at hx;split at hx
  ·grind
  ·simp only[List.mem_cons,List.not_mem_nil,or_false]at hx
   rcases hx with rfl|rfl
   ·exact h _ List.mem_cons_self hk
   grind
 |p::p2::ps,s,q,h=>fun x hx hk=>by
  simp only[Go.Proofs.YtgboffbbpmileaaGreatDoor.addT]at hx;rcases List.mem_cons.1 hx with rfl|hx
  ·exact h _ List.mem_cons_self hk
  ·exact PsOK.addT (fun y hy=>h y (List.mem_cons_of_mem _ hy)) x hx hk
theorem PsOK.snoc{K:Nat}{ps:List Prt}{p:Prt}(h:PsOK K ps)(hp:p.k=2->p.t.length<K):PsOK K (ps++[p]):=fun x hx hk=>by
 rcases List.mem_append.1 hx with hx|hx
 ·exact h x hx hk
 grind
theorem PsOK.nil{K:Nat}:PsOK K []:=fun x hx=>by cases hx
theorem ma{K:Nat}{ps:List Prt}{s:ab}{n:Nat}{q:Bool}{st:St}(hp:PsOK K ps)(hs:s.length<=K)(h:aH ps s n q=.ok st):PsOK K st.1:=by
 unfold aH at h
 split at h
 ·rename_i h40
  split at h
  ·cases h
  ·rename_i a r he
   cases h
   refine hp.snoc fun _=>?_
   have h1:=congrArg List.length (d8 _ _ _ _ _ he);grind
 ·split at h
  ·split at h
   ·cases h
   ·split at h
    ·cases h
    ·cases h;exact hp.snoc fun e=>by cases e
  ·split at h
   ·cases h;exact hp.snoc fun e=>by cases e
   ·cases h;exact hp.addT
theorem eP{K n0:Nat}:∀(f:Nat) (ps:List Prt) (l:ab) (n:Nat) (st:St),PsOK K ps->l.length<=K->bn f n0 (ps,l,n)=.ok st->PsOK K st.1
 |0,ps,l,n,st,hp,hl,h=>by cases h
 |f+1,ps,[],n,st,hp,hl,h=>by cases h
 |f+1,ps,c::t,n,st,hp,hl,h=>by
  rw[List.length_cons]at hl;rw[aQ]at h;split at h
  ·grind
  ·split at h
   ·split at h
    ·cases h
    ·rename_i x hx
     have h1:=ma hp (by omega) hx;have h2:=(gA hx).length_le;obtain⟨p,l2,n2⟩:=x;have h2:l2.length<=t.length:=h2;exact eP f p l2 n2 st h1 (by omega) h
   ·split at h
    ·split at h
     ·rename_i d r _
      simp only[List.length_cons]at hl;split at h
      ·exact eP f _ _ _ st hp.addT (by omega) h
      ·exact eP f _ _ _ st hp.addT (by grind) h
     ·exact eP f _ _ _ st hp.addT (by omega) h
    ·exact eP f _ _ _ st hp.addT (by omega) h
theorem wd{K:Nat}{ps:List Prt}{c:UInt8}{t:ab}{n:Nat}{st:St}(hp:PsOK K ps)(hl:t.length<=K)(h:bh ps c t n=.ok st):PsOK K st.1:=by
 unfold bh at h
 split at h
 ·split at h
  ·cases h
  ·cases h;exact hp.addT
 ·split at h
  ·exact eP _ _ _ _ st hp.addT hl h
  ·split at h
   ·split at h
    ·cases h;exact hp.addT
    ·split at h
     ·grind
     ·cases h;exact hp.addT
   ·split at h
    ·grind[ma]
    ·cases h;exact hp.addT
theorem sa{K:Nat}:∀(f:Nat) (ps:List Prt) (l:ab) (n:Nat) (st:St),PsOK K ps->l.length<=K->word f (ps,l,n)=.ok st->PsOK K st.1
 |0,ps,l,n,st,hp,hl,h=>by cases h;exact hp
 |f+1,ps,[],n,st,hp,hl,h=>by cases h;exact hp
 |f+1,ps,c::t,n,st,hp,hl,h=>by
  rw[List.length_cons]at hl;rw[ba]at h;split at h
  ·grind
  ·split at h
   ·cases h
   ·rename_i x hx
    have h1:=wd hp (by omega) hx;have h2:=(fJ hx).length_le;obtain⟨p,l2,n2⟩:=x;have h2:l2.length<=t.length:=h2;exact sa f p l2 n2 st h1 (by omega) h
theorem we{K:Nat}{l r:ab}{fd:Int}{n n0 m:Nat}{x:Tok}(h:ioS l fd n0 n=.tok x r m):PsOK K x.parts:=by
 unfold ioS at h
 split at h<;>(cases h;exact PsOK.nil)
theorem yO{K:Nat}{c:UInt8}{t r:ab}{n m:Nat}{x:Tok}(hl:(c::t).length<=K)(h:aT c t n=.tok x r m):PsOK K x.parts:=by
 unfold aT at h
 split at h
 ·cases h
 ·split at h
  ·cases h
  ·split at h
   ·grind[PsOK.nil]
   ·split at h
    ·split at h<;>(cases h;exact PsOK.nil)
    ·split at h
     ·cases h;exact PsOK.nil
     ·split at h
      ·exact we h
      ·split at h
       ·cases h
       ·split at h
        ·cases h
        ·rename_i ps r2 m2 hw
         have h1:=sa _ _ _ _ _ PsOK.nil hl hw;grind[we]
theorem mW{K:Nat}:∀(d:Nat) (l:ab) (n:Nat),l.length<=d->l.length<=K->∀t∈(bG l n).1,PsOK K t.parts
 |d,[],n,hd,hk,t,ht=>by grind[ci]
 |0,c::l,n,hd,hk,t,ht=>by grind
 |d+1,c::l,n,hd,hk,t,ht=>by
  rw[bD]at ht;have h1:=du c l n;simp only[List.length_cons]at hd hk h1
  cases hs:aT c l n with
  |bad m=>grind
  |skip r m=>
   rw[hs]at ht h1;have h1:r.length<l.length+1:=h1;exact mW d r m (by omega) (by omega) t ht
  |tok x r m=>
   rw[hs]at ht h1;have h1:r.length<l.length+1:=h1;rcases List.mem_cons.1 ht with rfl|ht
   ·exact yO (by omega) hs
   ·exact mW d r m (by omega) (by omega) t ht
theorem wg{s:ab}{T:List Tok}(h:kR s T):TkOK s.length T:=fun t ht=>by
 obtain⟨h1,_⟩:=h 1 (Nat.le_refl _)
 rw[<- h1]at ht
 obtain⟨x,hx,rfl⟩:=List.mem_map.1 ht
 exact mW s.length s 1 (Nat.le_refl _) (Nat.le_refl _) x hx
theorem wh{s:ab}(h:8000<s.length):lex s=.err true 0:=by grind[lex]
theorem qT{s:ab}{l:List Nd}(h:ax s=.ok l):s.length<=8000:=by
 grind[ax,wh]
theorem pp:∀L:Nat,gr L
 |0=>fun t ht=>by omega
 |L+1=>fun t ht=>by
  cases hp:ax t with
  |err f m=>grind
  |ok l=>
   obtain⟨T,h1,_,h3⟩:=jg (qT hp) hp;have h4:TkOK L T:=fun x hx p hpp hk=>by have:=wg h1 x hx p hpp hk;omega
   exact .inr ⟨l,rfl,tM (pp L) 20 h4 h3⟩
theorem yP{s:ab}{l:List Nd}(h:ax s=.ok l):∃x:Ts,x.nds=l/\x.ok:=by
 rcases pp (s.length+1) s (by omega)with⟨f,m,e⟩|⟨l2,e,hx⟩
 ·grind
 grind
end
end Go.Proofs.YtgboffbbpmileaaGreatDoor
