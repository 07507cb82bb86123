/- Lemmas and walks for the law VLawPJoins (part 15). -/
import Derived.Test.YtgboffbbpmileaaGreatDoorPy14
import Derived.Test.YtgboffbbpmileaaGreatDoorProg
import Derived.WalkKit
import Derived.Handy
import Derived.Deep.Light
import Derived.WalkSmall
import Derived.StillTailTactics
import Derived.Lib.Hide
import Derived.IntWalk
set_option maxRecDepth 20000
set_option maxHeartbeats 4000000
set_option linter.unusedVariables false
set_option linter.unusedSimpArgs false
namespace Go.Proofs.YtgboffbbpmileaaGreatDoor
open Go Go.RowKit
def lD:Nat->List Ins->Prop
 |_,[]=>True
 |n,x::r=>(aD x=true->x.a=(n+1:Nat))/\lD (n+if aD x then 1 else 0) r
def bok(t:Nat)(l:List Ins):Prop:=∀x∈l,aD x=true->x.b=0\/(x.a<x.b/\x.b<=t)
theorem lo:∀(n:Nat) (a b:List Ins),lD n a->lD (n+itm a) b->lD n (a++b)
 |n,[],b,_,h=>by grind[bZ]
 |n,x::a,b,h1,h2=>by
  obtain⟨h3,h4⟩:=h1;refine⟨h3,lo _ a b h4 ?_⟩;grind[aF]
theorem zd{n:Nat}{x:Ins}{r:List Ins}(hx:aD x=false)(h:lD n r):lD n (x::r):=by
 refine⟨fun e=>(by grind),?_⟩
 grind
theorem ze{t:Nat}{a b:List Ins}(h1:bok t a)(h2:bok t b):bok t (a++b):=fun x hx=>by
 rcases List.mem_append.1 hx with hx|hx
 ·exact h1 x hx
 ·exact h2 x hx
theorem Bg{t:Nat}{x:Ins}{r:List Ins}(hx:aD x=false)(h:bok t r):bok t (x::r):=fun y hy=>by
 rcases List.mem_cons.1 hy with rfl|hy
 ·grind
 ·exact h y hy
theorem zf{t:Nat}:bok t []:=fun x hx=>by cases hx
theorem qZ{t u:Nat}{l:List Ins}(h:bok t l)(hu:t<=u):bok u l:=fun x hx e=>(h x hx e).imp id fun h=>⟨h.1,by omega⟩
def NI(n:Nat)(l:List Ins):Prop:=lD n l/\bok (n+itm l) l
theorem NI.nil{n:Nat}:NI n []:=⟨trivial,zf⟩
theorem NI.app{n:Nat}{a b:List Ins}(h1:NI n a)(h2:NI (n+itm a) b):NI n (a++b):=
 ⟨lo _ _ _ h1.1 h2.1,ze (qZ h1.2 (by rw[bd];omega)) (qZ h2.2 (by rw[bd];omega))⟩
theorem NI.no{n:Nat}{x:Ins}{r:List Ins}(h:NI n r)(hx:aD x=false:=by rfl):NI n (x::r):=
 ⟨zd hx h.1,Bg hx (qZ h.2 (by rw[aF];omega))⟩
theorem NI.one{n:Nat}{x:Ins}(hx:aD x=false:=by rfl):NI n [x]:=NI.nil.no hx
def Nm(f:K):Prop:=∀p i,NI i (f p i)
theorem Nm.seq{f g:K}(hf:Nm f)(hg:Nm g):Nm (f.seq g):=fun p i=>(hf p i).app (hg _ _)
theorem Nm.nil:Nm K.nil:=fun _ _=>NI.nil
theorem Nm.one{x:Ins}(hx:aD x=false:=by rfl):Nm (K.one x):=fun _ _=>NI.one hx
theorem Nm.o{o:Nat}{a:Int}(h:o≠0:=by decide):Nm (K.o o a):=Nm.one (by simp[aD,h])
theorem Nm.child{f:K}(k:Int)(hf:Nm f):Nm (K.child k f):=fun p i=>((hf (p+1) i).app NI.one).no
theorem Nm.quiet{f:K}(hf:Nm f):Nm (K.quiet f):=(Nm.o).seq (hf.seq Nm.o)
theorem Nm.over{f:K}{o:Nat}(h:o≠0)(hf:Nm f):Nm (K.over o f):=fun p i=>(hf (p+1) i).no (by simp[aD,h])
theorem Nm.alt{f g:K}(hf:Nm f)(hg:Nm g):Nm (K.alt f g):=fun p i=>NI.no ((hf (p+1) i).app ((hg _ _).no))
theorem Nm.loop{f g:K}{o:Nat}(h:o≠0)(hf:Nm f)(hg:Nm g):Nm (K.loop o f g):=fun p i=>(hf p i).app (NI.no ((hg _ _).app NI.one) (by simp[aD,h]))
theorem Nm.each{f:K}(hf:Nm f):Nm (K.each f):=fun p i=>NI.no ((hf (p+1) i).app NI.one)
theorem Nm.fn{f:K}(n:ab)(hf:Nm f):Nm (K.fn n f):=fun p i=>NI.no (NI.no ((hf (p+2) i).app NI.one))
theorem Nm.saved{r f:K}(b:Bool)(hr:Nm r)(hf:Nm f):Nm (K.saved b r f):=by
 unfold K.saved
 split
 ·exact hf
 ·exact(Nm.o).seq (hr.seq (hf.seq Nm.o))
theorem Nm.ite{b:Prop}[Decidable b]{f g:K}(hf:Nm f)(hg:Nm g):Nm (if b then f else g):=by grind
def NmA(l:Am):Prop:=(∀t,Nm (l.cw t))/\∀e,Nm (l.cb e)
theorem wN{l:Am}(h:NmA l):Nm (K.case l.cw l.cb l.pos):=fun p i=>by
 simp only[K.case]
 have h1:=h.1 (l.pos (p+(l.cw [] p i).length+2) (i+itm (l.cw [] p i))) p i
 refine h1.app (NI.no (NI.no ?_))
 rw[(gQ l (l.pos (p+(l.cw [] p i).length+2) (i+itm (l.cw [] p i))) [] p i).2]
 exact(h.2 _ _ _).app NI.one
theorem zg{x:K}{r:Ts}(h1:Nm x)(h2:Nm r.cl)(h3:r.nil? =false->∀p i,0<itm (r.cl p i)):Nm ((K.item (!r.nil?) x).seq r.cl):=fun p i=>by
 obtain⟨m,hm⟩:∃m,x (p+1) (i+1)=m:=⟨_,rfl⟩
 have h4:=h1 (p+1) (i+1)
 simp only[K.seq,K.item,hm]at h4 |-
 obtain⟨y,hy⟩:∃y:Ins,({op:=0,a:=(i+1:Nat),b:=if(!r.nil?)=true then((i+1+itm m+1:Nat):Int)else 0}:Ins)=y:=⟨_,rfl⟩
 have hyi:aD y=true:=by rw[<- hy];rfl
 have hya:y.a=(i+1:Nat):=by rw[<- hy]
 have hyb:y.b=if(!r.nil?)=true then((i+1+itm m+1:Nat):Int)else 0:=by rw[<- hy]
 rw[hy]
 have h5:=h2 (p+(y::m).length) (i+itm (y::m))
 have h7:itm (y::m)=itm m+1:=by grind[aF]
 have h6:NI (i+1) (m++r.cl (p+(y::m).length) (i+itm (y::m))):=h4.app (by grind)
 refine⟨⟨fun _=>hya,by rw[hyi];exact h6.1⟩,fun z hz e=>?_⟩
 rcases List.mem_cons.1 hz with rfl|hz
 ·grind[itm,aF,bd]
 ·rcases h6.2 z hz e with h|⟨ha,hb⟩
  ·omega
  grind[aF,bd]
theorem wO:∀(r:Ts),r.nil? =false->∀p i,0<itm (r.cl p i)
 |.nil,h,_,_=>by cases h
 |.cons x r,_,p,i=>by
  simp_all[Ts.cl,K.seq,K.item,bd,aF,aD]
mutual
theorem Wd.nm:∀w:Wd,Nm w.c
 |.nil=>fun p i=>by simp only[Wd.c];exact NI.nil
 |.lit p r=>fun a b=>by simp only[Wd.c];exact Wd.nm r a b
 |.sub p t r=>fun a b=>by simp only[Wd.c];exact((Tr.nm t).child 8).seq ((Nm.o).seq (Wd.nm r)) a b
 |.bad p f r=>fun a b=>by simp only[Wd.c];exact Wd.nm r a b
theorem Ws.nm:∀w:Ws,(∀o,o≠0->Nm (w.c o))/\∀t,Nm (w.cm t)
 |.nil=>⟨fun o _ p i=>by simp only[Ws.c];exact NI.nil,fun t p i=>by simp only[Ws.cm];exact NI.nil⟩
 |.cons g w r=>⟨fun o h1 a b=>by simp only[Ws.c];exact(Wd.nm w).seq ((Nm.one (by simp[aD,h1])).seq ((Ws.nm r).1 o h1)) a b,fun t a b=>by simp only[Ws.cm];exact(Wd.nm w).seq ((Nm.one).seq ((Ws.nm r).2 t)) a b⟩
theorem Tr.nm:∀t:Tr,Nm t.c
 |.simple a w r=>fun x y=>by
  simp only[Tr.c];exact Nm.saved _ ((Ws.nm r).1 10 (by decide)) ((Nm.ite Nm.nil ((Nm.o).seq ((Ws.nm w).1 7 (by decide)))).seq (((Ws.nm a).1 8 (by decide)).seq (Nm.ite (Nm.ite Nm.o Nm.nil) Nm.o))) x y
 |.pipe g l=>fun x y=>by
  simp only[Tr.c];have h:=((Ts.nm l).2 true).seq (Nm.ite (b:=1<l.nds.length) (Nm.o (o:=14) (a:=0)) Nm.nil);exact Nm.ite ((Nm.o).seq (h.seq ((Nm.o).seq Nm.o))) (h.seq Nm.o) x y
 |.ao o x y=>fun a b=>by
  simp only[Tr.c];exact(Tr.nm x).quiet.seq (Nm.over (by grind) (Tr.nm y)) a b
 |.lst l=>fun a b=>by simp only[Tr.c];exact(Ts.nm l).1 a b
 |.back x=>fun a b=>by simp only[Tr.c];exact((Tr.nm x).child 4).seq Nm.o a b
 |.sub x r=>fun a b=>by simp only[Tr.c];exact Nm.saved _ ((Ws.nm r).1 10 (by decide)) (((Tr.nm x).child 0).seq Nm.o) a b
 |.grp x r=>fun a b=>by simp only[Tr.c];exact Nm.saved _ ((Ws.nm r).1 10 (by decide)) (Tr.nm x) a b
 |.iff c t r=>fun a b=>by simp only[Tr.c];exact Nm.saved _ ((Ws.nm r).1 10 (by decide)) ((Tr.nm c).quiet.seq ((Tr.nm t).alt Nm.o)) a b
 |.ife c t e r=>fun a b=>by simp only[Tr.c];exact Nm.saved _ ((Ws.nm r).1 10 (by decide)) ((Tr.nm c).quiet.seq ((Tr.nm t).alt (Tr.nm e))) a b
 |.loop u c b r=>fun a e=>by simp only[Tr.c];exact Nm.saved _ ((Ws.nm r).1 10 (by decide)) ((Nm.loop (by grind) (Tr.nm c).quiet (Tr.nm b)).seq Nm.o) a e
 |.for_ n w b r=>fun a e=>by simp only[Tr.c];exact Nm.saved _ ((Ws.nm r).1 10 (by decide)) ((Nm.o).seq (((Ws.nm w).1 7 (by decide)).seq ((Nm.one).seq ((Nm.o).seq (Tr.nm b).each)))) a e
 |.case_ w l r=>fun a e=>by simp only[Tr.c];exact Nm.saved _ ((Ws.nm r).1 10 (by decide)) ((Wd.nm w).seq ((Nm.one).seq (wN (Am.nm l)))) a e
 |.fn n b=>fun a e=>by simp only[Tr.c];exact((Tr.nm b).fn n).seq Nm.o a e
theorem Ts.nm:∀l:Ts,Nm l.cl/\∀b,Nm (l.cp b)
 |.nil=>⟨fun p i=>by simp only[Ts.cl];exact NI.nil,fun b p i=>by simp only[Ts.cp];exact NI.nil⟩
 |.cons x r=>⟨fun a b=>by simp only[Ts.cl];exact zg (Tr.nm x) (Ts.nm r).1 (wO r) a b,fun f a b=>by simp only[Ts.cp];exact(Nm.ite (Tr.nm x) ((Tr.nm x).child _)).seq ((Ts.nm r).2 false) a b⟩
theorem Am.nm:∀l:Am,NmA l
 |.nil=>⟨fun t p i=>by simp only[Am.cw];exact NI.nil,fun t p i=>by simp only[Am.cb];exact NI.nil⟩
 |.cons w b r=>⟨fun t p i=>by simp only[Am.cw];exact((Ws.nm w).2 _).seq ((Am.nm r).1 _) p i,fun t p i=>by simp only[Am.cb];exact(Nm.o).seq ((Tr.nm b).seq ((Nm.o).seq ((Am.nm r).2 t))) p i⟩
end
structure Stt where
 fr:ab:=[]
 q:Int:=0
def Stt.push(s:Stt)(k:UInt8):Stt:=⟨s.fr++[k],s.q⟩
inductive Stp:Stt->Ins->Option Stt->Option Stt->Prop where
 |plain (s:Stt) (x:Ins) (h:x.op=0\/x.op=4\/x.op=5\/x.op=8\/x.op=14\/x.op=15\/x.op=25\/x.op=22):Stp s x (some s) none
 |jump (s:Stt) (x:Ins) (h:x.op=1):Stp s x none (some s)
 |cond (s:Stt) (x:Ins) (h:x.op=2\/x.op=3\/x.op=13):Stp s x (some s) (some s)
 |exit (s:Stt) (x:Ins) (h:x.op=16):Stp s x none none
 |ret (x:Ins) (h:x.op=23):Stp {} x none none
 |push (s:Stt) (x:Ins) (k:UInt8) (h:(x.op=6/\k=97)\/(x.op=9/\k=115)\/(x.op=19/\k=99)):Stp s x (some (s.push k)) none
 |pop (s:Stt) (x:Ins) (k:UInt8) (h:(x.op=12/\k=97)\/(x.op=11/\k=115)\/(x.op=21/\k=99)):Stp (s.push k) x (some s) none
 |top (s:Stt) (x:Ins) (k:UInt8) (h:(x.op=7/\k=97)\/(x.op=10/\k=115)):Stp (s.push k) x (some (s.push k)) none
 |mtch (s:Stt) (x:Ins) (h:x.op=20):Stp (s.push 99) x (some (s.push 99)) (some (s.push 99))
 |for_ (s:Stt) (x:Ins) (h:x.op=17):Stp (s.push 97) x (some (s.push 102)) none
 |next(s:Stt) (x:Ins) (h:x.op=18):Stp (s.push 102) x (some (s.push 102)) (some s)
 |up (s:Stt) (x:Ins) (h:x.op=24/\x.a=1):Stp s x (some ⟨s.fr,s.q+1⟩) none
 |dn (s:Stt) (x:Ins) (h:x.op=24/\x.a= -1):Stp ⟨s.fr,s.q+1⟩ x (some s) none
def Rm(N:Nat)(s:Stt)(n:Nat):Prop:=0<=s.q/\s.q+n<=N/\s.fr.length+n<=N
theorem Rm.le{N n m:Nat}{s:Stt}(h:Rm N s n)(hm:m<=n):Rm N s m:=⟨h.1,by have:=h.2.1;omega,by have:=h.2.2;omega⟩
theorem Rm.push{N n:Nat}{s:Stt}(k:UInt8)(h:Rm N s (1+n)):Rm N (s.push k) n:=by
 obtain⟨h1,h2,h3⟩:=h
 exact⟨h1,by show s.q+n<=N;omega,by grind[Stt.push]⟩
theorem Rm.pop{N n:Nat}{s:Stt}{k:UInt8}(h:Rm N (s.push k) n):Rm N s n:=by
 obtain⟨h1,h2,h3⟩:=h
 simp only[Stt.push,List.length_append,List.length_singleton]at h3
 exact⟨h1,h2,by omega⟩
theorem Rm.up{N n:Nat}{s:Stt}(h:Rm N s (1+n)):Rm N ⟨s.fr,s.q+1⟩ n:=by
 obtain⟨h1,h2,h3⟩:=h
 exact⟨by grind,by grind,by grind⟩
theorem Rm.nil{N n:Nat}{s:Stt}(h:Rm N s n):Rm N {} n:=by
 obtain⟨h1,h2,h3⟩:=h
 exact⟨Int.le_refl _,by grind,by grind⟩
def At(p:Nat)(L:List Stt)(E:List (Nat×Stt))(T:Int)(u:Stt):Prop:=(∃j:Nat,T=((p+j:Nat):Int)/\L[j]? =some u)\/∃n:Nat,T=(n:Int)/\(n,u)∈E
def Fr(N p:Nat)(c:List Ins)(s q:Stt)(M E:List (Nat×Stt)):Prop:=
 ∃ls:List Stt,ls.length=c.length/\(∀m∈M,∃j,m.1=p+j/\(ls++[q])[j]? =some m.2)/\(ls++[q])[0]? =some s/\(∀t∈ls,Rm N t 0)/\
  ∀(k:Nat) (x:Ins) (t:Stt),c[k]? =some x->ls[k]? =some t->∃nx nm,Stp t x nx nm/\(∀u,nx=some u->(ls++[q])[k+1]? =some u)/\(∀u,nm=some u->At p (ls++[q]) E x.a u)/\(x.op=22->At p (ls++[q]) E x.a {})
theorem Fr.seq{N p:Nat}{c d:List Ins}{s t q:Stt}{M1 M2 E1 E2:List (Nat×Stt)}(h1:Fr N p c s t M1 E1)(h2:Fr N (p+c.length) d t q M2 E2):Fr N p (c++d) s q (M1++M2) (E1++E2):=by
 obtain⟨l1,a1,a2,a3,a4,a5⟩:=h1
 obtain⟨l2,b1,b2,b3,b4,b5⟩:=h2
 have k1:∀(j:Nat) (u:Stt),(l1++[t])[j]? =some u->((l1++l2)++[q])[j]? =some u:=fun j u hj=>by
  grind
 have k2:∀(j:Nat) (u:Stt),(l2++[q])[j]? =some u->((l1++l2)++[q])[c.length+j]? =some u:=fun j u hj=>by
  rw[List.append_assoc,List.getElem?_append_right (by omega),a1,Nat.add_sub_cancel_left];exact hj
 refine⟨l1++l2,by grind,fun m hm=>?_,k1 0 s a3,fun u hu=>?_,fun k x u hx hu=>?_⟩
 ·grind
 ·grind
 ·by_cases hk:k<c.length
  ·rw[List.getElem?_append_left hk]at hx
   rw[List.getElem?_append_left (by omega)]at hu;obtain⟨nx,nm,e1,e2,e3,e4⟩:=a5 k x u hx hu;have e5:∀T v,At p (l1++[t]) E1 T v->At p ((l1++l2)++[q]) (E1++E2) T v:=fun T v h=>by
    rcases h with⟨j,h1,h2⟩|⟨n,h1,h2⟩
    ·exact .inl ⟨j,h1,k1 j v h2⟩
    ·exact .inr ⟨n,h1,List.mem_append_left _ h2⟩
   exact⟨nx,nm,e1,fun v hv=>k1 _ v (e2 v hv),fun v hv=>e5 _ _ (e3 v hv),fun h=>e5 _ _ (e4 h)⟩
  ·rw[List.getElem?_append_right (by omega)]at hx
   rw[List.getElem?_append_right (by omega),a1]at hu;obtain⟨nx,nm,e1,e2,e3,e4⟩:=b5 (k-c.length) x u hx hu;have e5:∀T v,At (p+c.length) (l2++[q]) E2 T v->At p ((l1++l2)++[q]) (E1++E2) T v:=fun T v h=>by
    rcases h with⟨j,h1,h2⟩|⟨n,h1,h2⟩
    ·exact .inl ⟨c.length+j,by omega,k2 j v h2⟩
    ·exact .inr ⟨n,h1,List.mem_append_right _ h2⟩
   refine⟨nx,nm,e1,fun v hv=>?_,fun v hv=>e5 _ _ (e3 v hv),fun h=>e5 _ _ (e4 h)⟩;have:=k2 _ v (e2 v hv);rwa[show c.length+(k-c.length+1)=k+1 by omega]at this
theorem Fr.res{N p:Nat}{c:List Ins}{s q:Stt}{M E:List (Nat×Stt)}(h:Fr N p c s q M E)(M' E':List (Nat×Stt))(hM:∀m∈M',m∈M)(hE:∀e∈E,e∈M\/e∈E'):Fr N p c s q M' E':=by
 obtain⟨ls,a1,a2,a3,a4,a5⟩:=h
 have e5:∀T v,At p (ls++[q]) E T v->At p (ls++[q]) E' T v:=fun T v h=>by
  rcases h with h|⟨n,h1,h2⟩
  ·exact .inl h
  ·rcases hE _ h2 with h3|h3
   ·obtain⟨j,h4,h5⟩:=a2 _ h3
    exact .inl ⟨j,by omega,h5⟩
   ·exact .inr ⟨n,h1,h3⟩
 exact⟨ls,a1,fun m hm=>a2 m (hM m hm),a3,a4,fun k x t hx ht=>by
  grind⟩
theorem Fr.ends{N p:Nat}{c:List Ins}{s q:Stt}{M E:List (Nat×Stt)}(h:Fr N p c s q M E):Fr N p c s q ((p,s)::(p+c.length,q)::M) E:=by
 obtain⟨ls,a1,a2,a3,a4,a5⟩:=h
 refine⟨ls,a1,fun m hm=>?_,a3,a4,a5⟩
 rcases List.mem_cons.1 hm with rfl|hm
 ·grind
 rcases List.mem_cons.1 hm with rfl|hm
 ·grind
 grind
theorem Fr.nil{N p:Nat}{s:Stt}:Fr N p [] s s [] []:=⟨[],rfl,fun m hm=>(by cases hm),rfl,fun t ht=>(by cases ht),fun k x t hx=>(by grind)⟩
theorem Fr.one{N p:Nat}{x:Ins}{s q:Stt}{nx nm:Option Stt}{E:List (Nat×Stt)}(h:Stp s x nx nm)(hr:Rm N s 0)(hq:∀u,nx=some u->u=q)(hm:∀u,nm=some u->∃n:Nat,x.a=(n:Int)/\(n,u)∈E)(hd:x.op=22->∃n:Nat,x.a=(n:Int)/\(n,{})∈E):Fr N p [x] s q [] E:=by
 refine⟨[s],rfl,fun m hm=>(by cases hm),rfl,fun t ht=>by grind,fun k y t hy ht=>?_⟩
 obtain rfl:k=0:=by
  grind
 obtain rfl:x=y:=by grind
 obtain rfl:s=t:=by grind
 exact⟨nx,nm,h,fun u hu=>by grind,fun u hu=>.inr (hm u hu),fun h=>.inr (hd h)⟩
def FlK(f:K)(s q:Stt):Prop:=∀(N p i n:Nat),Rm N s ((f p i).length+n)->Fr N p (f p i) s q [] []/\Rm N q n
theorem FlK.seq{f g:K}{s t q:Stt}(h1:FlK f s t)(h2:FlK g t q):FlK (f.seq g) s q:=fun N p i n hr=>by
 simp only[K.seq,List.length_append]at hr |-
 obtain⟨a1,a2⟩:=h1 N p i _ (hr.le (m:=(f p i).length+((g (p+(f p i).length) (i+itm (f p i))).length+n)) (by omega))
 obtain⟨b1,b2⟩:=h2 N (p+(f p i).length) (i+itm (f p i)) n a2
 exact⟨a1.seq b1,b2⟩
theorem FlK.nil{s:Stt}:FlK K.nil s s:=fun N p i n hr=>⟨Fr.nil,hr.le (by omega)⟩
theorem FlK.of{x:Ins}{s q:Stt}(h:Stp s x (some q) none)(hd:x.op≠22)(hr:∀N n,Rm N s (1+n)->Rm N q n):FlK (K.one x) s q:=fun N p i n hn=>by
 have hn:Rm N s (1+n):=hn
 exact⟨Fr.one h (hn.le (Nat.zero_le _)) (fun u hu=>(Option.some.inj hu).symm) (fun u hu=>(by cases hu)) (fun h=>absurd h hd),hr N n hn⟩
theorem FlK.plain{x:Ins}{s:Stt}(h:x.op=0\/x.op=4\/x.op=5\/x.op=8\/x.op=14\/x.op=15\/x.op=25):FlK (K.one x) s s:=
 .of (.plain s x (by omega)) (by omega) (fun N n h=>h.le (by omega))
theorem FlK.push{x:Ins}{s:Stt}(k:UInt8)(h:(x.op=6/\k=97)\/(x.op=9/\k=115)\/(x.op=19/\k=99)):FlK (K.one x) s (s.push k):=
 .of (.push s x k h) (by omega) (fun N n h=>h.push k)
theorem FlK.pop{x:Ins}{s:Stt}(k:UInt8)(h:(x.op=12/\k=97)\/(x.op=11/\k=115)\/(x.op=21/\k=99)):FlK (K.one x) (s.push k) s:=
 .of (.pop s x k h) (by omega) (fun N n h=>h.pop.le (by omega))
theorem FlK.top{x:Ins}{s:Stt}(k:UInt8)(h:(x.op=7/\k=97)\/(x.op=10/\k=115)):FlK (K.one x) (s.push k) (s.push k):=
 .of (.top s x k h) (by omega) (fun N n h=>h.le (by omega))
theorem FlK.quiet{f:K}{s:Stt}(h:FlK f ⟨s.fr,s.q+1⟩ ⟨s.fr,s.q+1⟩)(hs:0<=s.q):FlK (K.quiet f) s s:=
 (FlK.of (x:={op:=24,a:=1}) (.up s _ ⟨rfl,rfl⟩) (by decide) (fun N n h=>h.up)).seq (h.seq (FlK.of (x:={op:=24,a:=-1}) (.dn s _ ⟨rfl,rfl⟩) (by decide) (fun N n h=>by
  obtain⟨h1,h2,h3⟩:=h;simp only at h1 h2 h3;exact⟨hs,by omega,by omega⟩)))
theorem FlK.child{f:K}{s t:Stt}(kind:Int)(h:FlK f s t):FlK (K.child kind f) s s:=fun N p i n hr=>by
 simp only[K.child]at hr |-
 obtain⟨l,hl⟩:∃l,f (p+1) i=l:=⟨_,rfl⟩
 have h1:=h N (p+1) i 1
 rw[hl]at hr h1 |-
 simp only[List.length_cons,List.length_append,List.length_nil]at hr
 obtain⟨a1,a2⟩:=h1 (hr.le (by omega))
 have b0:Fr N p [({op:=13,a:=(p+1+l.length+1:Nat),b:=kind}:Ins)] s s [] [(p+1+l.length+1,s)]:=Fr.one (.cond s _ (.inr (.inr rfl))) (hr.le (Nat.zero_le _)) (fun u hu=>(Option.some.inj hu).symm) (fun u hu=>⟨_,rfl,by grind⟩) (fun h=>(by cases h))
 have b2:Fr N (p+1+l.length) [({op:=16}:Ins)] t s [] []:=Fr.one (.exit t _ rfl) (a2.le (Nat.zero_le _)) (fun u hu=>(by cases hu)) (fun u hu=>(by cases hu)) (fun h=>(by cases h))
 refine⟨((b0.seq (a1.seq b2)).ends).res [] [] (fun m hm=>(by cases hm)) (fun e he=>.inl ?_),hr.le (by omega)⟩
 grind
theorem FlK.over{f:K}{s:Stt}{o:Nat}(ho:o=2\/o=3)(h:FlK f s s):FlK (K.over o f) s s:=fun N p i n hr=>by
 simp only[K.over]at hr |-
 obtain⟨l,hl⟩:∃l,f (p+1) i=l:=⟨_,rfl⟩
 have h1:=h N (p+1) i 0
 rw[hl]at hr h1 |-
 simp only[List.length_cons]at hr
 obtain⟨a1,a2⟩:=h1 (hr.le (by omega))
 have b0:Fr N p [({op:=o,a:=(p+1+l.length:Nat)}:Ins)] s s [] [(p+1+l.length,s)]:=Fr.one (.cond s _ (by grind)) (hr.le (Nat.zero_le _)) (fun u hu=>(Option.some.inj hu).symm) (fun u hu=>⟨_,rfl,by grind⟩) (fun h=>by grind)
 refine⟨((b0.seq a1).ends).res [] [] (fun m hm=>(by cases hm)) (fun e he=>.inl ?_),hr.le (by omega)⟩
 grind
theorem FlK.alt{f g:K}{s:Stt}(h:FlK f s s)(h':FlK g s s):FlK (K.alt f g) s s:=fun N p i n hr=>by
 simp only[K.alt]at hr |-
 obtain⟨l,hl⟩:∃l,f (p+1) i=l:=⟨_,rfl⟩
 have h1:=h N (p+1) i 0
 rw[hl]at hr h1 |-
 obtain⟨m,hm⟩:∃m,g (p+1+l.length+1) (i+itm l)=m:=⟨_,rfl⟩
 have h2:=h' N (p+1+l.length+1) (i+itm l) 0
 rw[hm]at hr h2 |-
 simp only[List.length_cons,List.length_append]at hr
 obtain⟨a1,a2⟩:=h1 (hr.le (by omega))
 obtain⟨a3,a4⟩:=h2 (hr.le (by omega))
 have b0:Fr N p [({op:=3,a:=(p+1+l.length+1:Nat)}:Ins)] s s [] [(p+1+l.length+1,s)]:=Fr.one (.cond s _ (.inr (.inl rfl))) (hr.le (Nat.zero_le _)) (fun u hu=>(Option.some.inj hu).symm) (fun u hu=>⟨_,rfl,by grind⟩) (fun h=>(by cases h))
 have b2:Fr N (p+1+l.length) [({op:=1,a:=(p+1+l.length+1+m.length:Nat)}:Ins)] s s [] [(p+1+l.length+1+m.length,s)]:=Fr.one (.jump s _ rfl) (hr.le (Nat.zero_le _)) (fun u hu=>(by cases hu)) (fun u hu=>⟨_,rfl,by grind⟩) (fun h=>(by cases h))
 have b3:=(b0.seq (a1.seq (b2.seq (Fr.ends (by omega))))).ends
 refine⟨b3.res [] [] (fun m hm=>(by cases hm)) (fun e he=>.inl ?_),hr.le (by omega)⟩
 grind
theorem FlK.loop{f g:K}{s:Stt}{o:Nat}(ho:o=2\/o=3)(h:FlK f s s)(h':FlK g s s):FlK (K.loop o f g) s s:=fun N p i n hr=>by
 simp only[K.loop]at hr |-
 obtain⟨l,hl⟩:∃l,f p i=l:=⟨_,rfl⟩
 have h1:=h N p i 0
 rw[hl]at hr h1 |-
 obtain⟨m,hm⟩:∃m,g (p+l.length+1) (i+itm l)=m:=⟨_,rfl⟩
 have h2:=h' N (p+l.length+1) (i+itm l) 0
 rw[hm]at hr h2 |-
 simp only[List.length_cons,List.length_append,List.length_nil]at hr
 obtain⟨a1,a2⟩:=h1 (hr.le (by omega))
 obtain⟨a3,a4⟩:=h2 (hr.le (by omega))
 have b1:Fr N (p+l.length) [({op:=o,a:=(p+l.length+1+m.length+1:Nat)}:Ins)] s s [] [(p+l.length+1+m.length+1,s)]:=Fr.one (.cond s _ (by grind)) (hr.le (Nat.zero_le _)) (fun u hu=>(Option.some.inj hu).symm) (fun u hu=>⟨_,rfl,by grind⟩) (fun h=>by grind)
 have b2:Fr N (p+l.length+1+m.length) [({op:=1,a:=(p:Nat)}:Ins)] s s [] [(p,s)]:=Fr.one (.jump s _ rfl) (hr.le (Nat.zero_le _)) (fun u hu=>(by cases hu)) (fun u hu=>⟨_,rfl,by grind⟩) (fun h=>(by cases h))
 have b3:=(a1.seq (b1.seq ((show Fr N (p+l.length+[({op:=o,a:=(p+l.length+1+m.length+1:Nat)}:Ins)].length) m s s [] []from a3).seq b2))).ends
 refine⟨b3.res [] [] (fun m hm=>(by cases hm)) (fun e he=>.inl ?_),hr.le (by omega)⟩
 grind
theorem FlK.each{f:K}{s:Stt}(h:FlK f (s.push 102) (s.push 102)):FlK (K.each f) (s.push 102) s:=fun N p i n hr=>by
 simp only[K.each]at hr |-
 obtain⟨l,hl⟩:∃l,f (p+1) i=l:=⟨_,rfl⟩
 have h1:=h N (p+1) i 1
 rw[hl]at hr h1 |-
 simp only[List.length_cons,List.length_append,List.length_nil]at hr
 obtain⟨a1,a2⟩:=h1 (hr.le (by omega))
 have b0:Fr N p [({op:=18,a:=(p+1+l.length+1:Nat)}:Ins)] (s.push 102) (s.push 102) [] [(p+1+l.length+1,s)]:=Fr.one (.next s _ rfl) (hr.le (Nat.zero_le _)) (fun u hu=>(Option.some.inj hu).symm) (fun u hu=>⟨_,rfl,by grind⟩) (fun h=>(by cases h))
 have b2:Fr N (p+1+l.length) [({op:=1,a:=(p:Nat)}:Ins)] (s.push 102) s [] [(p,s.push 102)]:=Fr.one (.jump _ _ rfl) (a2.le (Nat.zero_le _)) (fun u hu=>(by cases hu)) (fun u hu=>⟨_,rfl,by grind⟩) (fun h=>(by cases h))
 refine⟨((b0.seq (a1.seq b2)).ends).res [] [] (fun m hm=>(by cases hm)) (fun e he=>.inl ?_),(hr.pop).le (by omega)⟩
 grind
theorem FlK.fn{f:K}{s:Stt}(nm:ab)(h:FlK f {} {}):FlK (K.fn nm f) s s:=fun N p i n hr=>by
 simp only[K.fn]at hr |-
 obtain⟨l,hl⟩:∃l,f (p+2) i=l:=⟨_,rfl⟩
 have h1:=h N (p+2) i 1
 rw[hl]at hr h1 |-
 simp only[List.length_cons,List.length_append,List.length_nil]at hr
 obtain⟨a1,a2⟩:=h1 ((hr.le (by omega)).nil)
 have b0:Fr N p [({op:=22,a:=(p+2:Nat),s:=nm}:Ins)] s s [] [(p+2,{})]:=Fr.one (.plain s _ (by simp)) (hr.le (Nat.zero_le _)) (fun u hu=>(Option.some.inj hu).symm) (fun u hu=>(by cases hu)) (fun h=>⟨_,rfl,List.mem_singleton.2 rfl⟩)
 have b1:Fr N (p+1) [({op:=1,a:=(p+2+l.length+1:Nat)}:Ins)] s {} [] [(p+2+l.length+1,s)]:=Fr.one (.jump _ _ rfl) (hr.le (Nat.zero_le _)) (fun u hu=>(by cases hu)) (fun u hu=>⟨_,rfl,by grind⟩) (fun h=>(by cases h))
 have b2:Fr N (p+2+l.length) [({op:=23}:Ins)] {} s [] []:=Fr.one (.ret _ rfl) (a2.le (Nat.zero_le _)) (fun u hu=>(by cases hu)) (fun u hu=>(by cases hu)) (fun h=>(by cases h))
 have b3:=(b0.seq (b1.seq ((show Fr N (p+1+[({op:=1,a:=(p+2+l.length+1:Nat)}:Ins)].length) l {} {} _ []from a1.ends).seq (show Fr N (p+1+[({op:=1,a:=(p+2+l.length+1:Nat)}:Ins)].length+l.length) _ _ _ _ _ from b2)))).ends
 refine⟨b3.res [] [] (fun m hm=>(by cases hm)) (fun e he=>.inl ?_),hr.le (by omega)⟩
 grind
theorem FlK.item{f:K}{s t:Stt}(more:Bool)(h:FlK f s t):FlK (K.item more f) s t:=fun N p i n hr=>by
 simp only[K.item]at hr |-
 obtain⟨l,hl⟩:∃l,f (p+1) (i+1)=l:=⟨_,rfl⟩
 have h1:=h N (p+1) (i+1) n
 rw[hl]at hr h1 |-
 simp only[List.length_cons]at hr
 obtain⟨a1,a2⟩:=h1 (hr.le (by omega))
 have b0:Fr N p [({op:=0,a:=(i+1:Nat),b:=if more=true then((i+1+itm l+1:Nat):Int)else 0}:Ins)] s s [] []:=Fr.one (.plain s _ (.inl rfl)) (hr.le (Nat.zero_le _)) (fun u hu=>(Option.some.inj hu).symm) (fun u hu=>(by cases hu)) (fun h=>(by cases h))
 exact⟨b0.seq a1,a2⟩
theorem FlK.saved{r f:K}{s:Stt}(b:Bool)(hr:FlK r (s.push 115) (s.push 115))(hf:∀s,0<=s.q->FlK f s s)(hs:0<=s.q):FlK (K.saved b r f) s s:=by
 unfold K.saved
 split
 ·grind
 ·exact(FlK.push 115 (.inr (.inl ⟨rfl,rfl⟩))).seq (hr.seq ((hf (s.push 115) hs).seq (FlK.pop 115 (.inr (.inl ⟨rfl,rfl⟩)))))
theorem FlK.ite{b:Prop}[Decidable b]{f g:K}{s q:Stt}(hf:FlK f s q)(hg:FlK g s q):FlK (if b then f else g) s q:=by grind
def FlW(w:Ws):Prop:=∀(u:Stt) (T N p i:Nat),0<=u.q->Rm N (u.push 99) (w.cm T p i).length->Fr N p (w.cm T p i) (u.push 99) (u.push 99) [] [(T,u.push 99)]
theorem zh:FlW .nil:=fun u T N p i h0 hr=>Fr.nil.res [] _ (fun m hm=>(by cases hm)) (fun e he=>(by cases he))
theorem wP{g:Tg}{w:Wd}{r:Ws}(h1:∀s:Stt,0<=s.q->FlK w.c s s)(h2:FlW r):FlW (.cons g w r):=fun u T N p i h0 hr=>by
 rw[f8]at hr |-
 simp only[List.length_append,List.length_cons]at hr
 obtain⟨a1,a2⟩:=h1 (u.push 99) h0 N p i 0 (hr.le (by omega))
 have a3:=h2 u T N (p+(w.c p i).length+1) (i+itm (w.c p i)) h0 (hr.le (by omega))
 have b1:Fr N (p+(w.c p i).length) [({op:=20,a:=(T:Nat),w:=w.ps}:Ins)] (u.push 99) (u.push 99) [] [(T,u.push 99)]:=Fr.one (.mtch u _ rfl) (hr.le (Nat.zero_le _)) (fun v hv=>(Option.some.inj hv).symm) (fun v hv=>⟨_,rfl,by grind⟩) (fun h=>(by cases h))
 refine(a1.seq (b1.seq a3)).res [] _ (fun m hm=>(by cases hm)) (fun e he=>.inr ?_)
 grind
def FlA(l:Am):Prop:=(∀(u:Stt) (t:List Nat) (N p i:Nat),0<=u.q->t.length=l.nds.length->Rm N (u.push 99) (l.cw t p i).length->Fr N p (l.cw t p i) (u.push 99) (u.push 99) [] (t.map fun T=>(T,u.push 99)))/\
 ∀(s:Stt) (e N p i:Nat),0<=s.q->Rm N s (l.cb e p i).length->Fr N p (l.cb e p i) s s ((l.pos p i).map fun T=>(T,s)) [(e,s)]
theorem zi:FlA .nil:=⟨fun u t N p i _ ht _=>Fr.nil.res [] _ (fun m hm=>(by cases hm)) (fun e he=>(by cases he)),fun s e N p i _ _=>Fr.nil.res _ _ (fun m hm=>(by cases hm)) (fun e he=>(by cases he))⟩
theorem wQ{w:Ws}{b:Tr}{r:Am}(h1:FlW w)(h2:∀s:Stt,0<=s.q->FlK b.c s s)(h3:FlA r):FlA (.cons w b r):=by
 obtain⟨h4,h5⟩:=h3
 refine⟨fun u t N p i h0 ht hr=>?_,fun s e N p i h0 hr=>?_⟩
 ·cases t with
  |nil=>grind[Am.nds]
  |cons x t=>
   simp only[Am.nds,List.length_cons,Nat.add_right_cancel_iff]at ht;rw[f_]at hr |-
   simp only[List.headD_cons,List.tail_cons,List.length_append]at hr |-
   have a1:=h1 u x N p i h0 (hr.le (by omega));have a2:=h4 u t N (p+(w.cm x p i).length) (i+itm (w.cm 0 p i)) h0 ht;rw[(fk w x 0 p i).1]at a2;have a3:=a2 (hr.le (by omega));rw[<- (fk w x 0 p i).1]at a3 |-
   exact a1.seq a3
 ·rw[gc]at hr |-
  simp only[List.length_append,List.length_cons]at hr;obtain⟨a1,a2⟩:=h2 s h0 N (p+1) i 0 (hr.le (by omega));have a3:=h5 s e N (p+1+(b.c (p+1) i).length+1) (i+itm (b.c (p+1) i)) h0 (hr.le (by omega));have b0:Fr N p [({op:=5}:Ins)] s s [] []:=Fr.one (.plain s _ (by simp)) (hr.le (Nat.zero_le _)) (fun u hu=>(Option.some.inj hu).symm) (fun u hu=>(by cases hu)) (fun h=>(by cases h));have b1:Fr N (p+1+(b.c (p+1) i).length) [({op:=1,a:=(e:Nat)}:Ins)] s s [] [(e,s)]:=Fr.one (.jump _ _ rfl) (hr.le (Nat.zero_le _)) (fun u hu=>(by cases hu)) (fun u hu=>⟨_,rfl,by grind⟩) (fun h=>(by cases h));have b3:=(b0.seq ((show Fr N (p+[({op:=5}:Ins)].length) _ _ _ _ _ from a1).seq (b1.seq a3))).ends;refine b3.res _ _ (fun m hm=>?_) (fun x hx=>.inr ?_)
  ·grind[Am.pos]
  grind
theorem wR{l:Am}(h:FlA l){s:Stt}(h0:0<=s.q):FlK (K.case l.cw l.cb l.pos) (s.push 99) s:=fun N p i n hr=>by
 obtain⟨h4,h5⟩:=h
 simp only[K.case]at hr |-
 obtain⟨n0,hn0⟩:∃z,(l.cw [] p i).length=z:=⟨_,rfl⟩
 obtain⟨j,hj⟩:∃z,i+itm (l.cw [] p i)=z:=⟨_,rfl⟩
 obtain⟨m,hm⟩:∃z,(l.cb 0 (p+n0+2) j).length=z:=⟨_,rfl⟩
 rw[hn0,hj,hm]at hr |-
 have hcb:(l.cb (p+n0+2+m) (p+n0+2) j).length=m:=by grind[jU]
 have hcw:(l.cw (l.pos (p+n0+2) j) p i).length=n0:=by grind[gQ]
 simp only[List.length_append,List.length_cons,List.length_nil,hcb,hcw]at hr
 have a1:=h4 s (l.pos (p+n0+2) j) N p i h0 (mY _ _ _) (by rw[hcw];exact hr.le (by omega))
 have a2:=h5 (s.push 99) (p+n0+2+m) N (p+n0+2) j h0 (by rw[hcb];exact hr.le (by omega))
 have b1:Fr N (p+n0) [({op:=5}:Ins)] (s.push 99) (s.push 99) [] []:=Fr.one (.plain _ _ (by simp)) (hr.le (Nat.zero_le _)) (fun u hu=>(Option.some.inj hu).symm) (fun u hu=>(by cases hu)) (fun h=>(by cases h))
 have b2:Fr N (p+n0+1) [({op:=1,a:=(p+n0+2+m:Nat)}:Ins)] (s.push 99) (s.push 99) [] [(p+n0+2+m,s.push 99)]:=Fr.one (.jump _ _ rfl) (hr.le (Nat.zero_le _)) (fun u hu=>(by cases hu)) (fun u hu=>⟨_,rfl,by grind⟩) (fun h=>(by cases h))
 have b3:Fr N (p+n0+2+m) [({op:=21}:Ins)] (s.push 99) s [] []:=Fr.one (.pop s _ 99 (by simp)) (hr.le (Nat.zero_le _)) (fun u hu=>(Option.some.inj hu).symm) (fun u hu=>(by cases hu)) (fun h=>(by cases h))
 obtain⟨c1,hc1⟩:∃z,l.cw (l.pos (p+n0+2) j) p i=z:=⟨_,rfl⟩
 obtain⟨c2,hc2⟩:∃z,l.cb (p+n0+2+m) (p+n0+2) j=z:=⟨_,rfl⟩
 rw[hc1]at a1 hcw |-
 rw[hc2]at a2 hcb |-
 rw[<- hcw]at b1
 rw[show p+n0+1=p+c1.length+[({op:=5}:Ins)].length by grind]at b2
 have a2':Fr N (p+c1.length+[({op:=5}:Ins)].length+[({op:=1,a:=(p+n0+2+m:Nat)}:Ins)].length) c2 (s.push 99) (s.push 99) ((l.pos (p+n0+2) j).map fun T=>(T,s.push 99)) [(p+n0+2+m,s.push 99)]:=by grind
 have b3':Fr N (p+c1.length+[({op:=5}:Ins)].length+[({op:=1,a:=(p+n0+2+m:Nat)}:Ins)].length+c2.length) [({op:=21}:Ins)] (s.push 99) s [] []:=by grind
 have b4:=a1.seq (b1.seq (b2.seq (a2'.ends.seq b3')))
 refine⟨b4.res [] [] (fun m hm=>(by cases hm)) (fun e he=>.inl ?_),hr.pop.le (by omega)⟩
 grind
mutual
theorem Wd.fl:∀(w:Wd) (s:Stt),0<=s.q->FlK w.c s s
 |.nil,s,h=>fun N p i n hr=>by simp only[Wd.c]at hr |-;exact FlK.nil N p i n hr
 |.lit p r,s,h=>fun N a i n hr=>by simp only[Wd.c]at hr |-;exact Wd.fl r s h N a i n hr
 |.sub p t r,s,h=>fun N a i n hr=>by simp only[Wd.c]at hr |-;exact((Tr.fl t s h).child 8).seq ((FlK.plain (x:={op:=15,a:=0}) (by simp)).seq (Wd.fl r s h)) N a i n hr
 |.bad p f r,s,h=>fun N a i n hr=>by simp only[Wd.c]at hr |-;exact Wd.fl r s h N a i n hr
theorem Ws.fl:∀(w:Ws),(∀(o:Nat) (s:Stt),0<=s.q->(∀(g:Tg) (ps:List Prt),FlK (K.one {op:=o,a:=g.a,b:=g.b,s:=g.s,w:=ps}) s s)->FlK (w.c o) s s)/\FlW w
 |.nil=>⟨fun o s h _ N p i n hr=>by simp only[Ws.c]at hr |-;exact FlK.nil N p i n hr,zh⟩
 |.cons g w r=>⟨fun o s h h1 N p i n hr=>by simp only[Ws.c]at hr |-;exact(Wd.fl w s h).seq ((h1 g w.ps).seq ((Ws.fl r).1 o s h h1)) N p i n hr,wP (Wd.fl w) (Ws.fl r).2⟩
theorem Tr.fl:∀(t:Tr) (s:Stt),0<=s.q->FlK t.c s s
 |.simple a w r,s,h=>fun N p i n hr=>by
  simp only[Tr.c]at hr |-
  refine FlK.saved _ ((Ws.fl r).1 10 _ h fun g ps=>FlK.top 115 (.inr ⟨rfl,rfl⟩)) (fun s h=>?_) h N p i n hr
  cases hw:w.nil? with
  |true=>
   simp only[if_true];exact FlK.nil.seq (((Ws.fl a).1 8 s h fun g ps=>FlK.plain (by simp)).seq (FlK.ite (show FlK (K.o 5 0) s s from FlK.plain (by simp)) FlK.nil))
  |false=>
   simp only[Bool.false_eq_true,if_false];exact((FlK.push (x:={op:=6,a:=0}) 97 (.inl ⟨rfl,rfl⟩)).seq ((Ws.fl w).1 7 (s.push 97) h fun g ps=>FlK.top 97 (.inl ⟨rfl,rfl⟩))).seq (((Ws.fl a).1 8 (s.push 97) h fun g ps=>FlK.plain (by simp)).seq (FlK.pop (x:={op:=12,a:=0}) 97 (.inl ⟨rfl,rfl⟩)))
 |.pipe g l,s,h=>fun N p i n hr=>by
  simp only[Tr.c]at hr |-
  have hk:∀s:Stt,0<=s.q->FlK ((l.cp true).seq (if 1<l.nds.length then K.o 14 0 else K.nil)) s s:=fun s h=>((Ts.fl l).2 true s h).seq (FlK.ite (FlK.plain (x:={op:=14,a:=0}) (by simp)) FlK.nil)
  cases g with
  |true=>
   refine((FlK.of (x:={op:=24,a:=1}) (.up s _ ⟨rfl,rfl⟩) (by decide) (fun N n h=>h.up)).seq ((hk ⟨s.fr,s.q+1⟩ (by show 0<=s.q+1;omega)).seq ((FlK.of (x:={op:=24,a:=-1}) (.dn s _ ⟨rfl,rfl⟩) (by decide) (fun N n h'=>?_)).seq (FlK.plain (x:={op:=4,a:=0}) (by simp))))) N p i n hr;obtain⟨h1,h2,h3⟩:=h';simp only at h1 h2 h3;exact⟨h,by omega,by omega⟩
  |false=>exact(hk s h).seq (FlK.plain (x:={op:=25,a:=0}) (by simp)) N p i n hr
 |.ao o x y,s,h=>fun N p i n hr=>by
  simp only[Tr.c]at hr |-
  exact((Tr.fl x ⟨s.fr,s.q+1⟩ (by show 0<=s.q+1;omega)).quiet h).seq (FlK.over (by cases o<;>simp) (Tr.fl y s h)) N p i n hr
 |.lst l,s,h=>fun N p i n hr=>by simp only[Tr.c]at hr |-;exact(Ts.fl l).1 s h N p i n hr
 |.back x,s,h=>fun N p i n hr=>by simp only[Tr.c]at hr |-;exact((Tr.fl x s h).child 4).seq (FlK.plain (x:={op:=5,a:=0}) (by simp)) N p i n hr
 |.sub x r,s,h=>fun N p i n hr=>by
  simp only[Tr.c]at hr |-
  exact FlK.saved _ ((Ws.fl r).1 10 _ h fun g ps=>FlK.top 115 (.inr ⟨rfl,rfl⟩)) (fun s h=>((Tr.fl x s h).child 0).seq (FlK.plain (x:={op:=14,a:=0}) (by simp))) h N p i n hr
 |.grp x r,s,h=>fun N p i n hr=>by
  simp only[Tr.c]at hr |-
  exact FlK.saved _ ((Ws.fl r).1 10 _ h fun g ps=>FlK.top 115 (.inr ⟨rfl,rfl⟩)) (fun s h=>Tr.fl x s h) h N p i n hr
 |.iff c t r,s,h=>fun N p i n hr=>by
  simp only[Tr.c]at hr |-
  exact FlK.saved _ ((Ws.fl r).1 10 _ h fun g ps=>FlK.top 115 (.inr ⟨rfl,rfl⟩)) (fun s h=>((Tr.fl c ⟨s.fr,s.q+1⟩ (by show 0<=s.q+1;omega)).quiet h).seq ((Tr.fl t s h).alt (FlK.plain (x:={op:=5,a:=0}) (by simp)))) h N p i n hr
 |.ife c t e r,s,h=>fun N p i n hr=>by
  simp only[Tr.c]at hr |-
  exact FlK.saved _ ((Ws.fl r).1 10 _ h fun g ps=>FlK.top 115 (.inr ⟨rfl,rfl⟩)) (fun s h=>((Tr.fl c ⟨s.fr,s.q+1⟩ (by show 0<=s.q+1;omega)).quiet h).seq ((Tr.fl t s h).alt (Tr.fl e s h))) h N p i n hr
 |.loop u c b r,s,h=>fun N p i n hr=>by
  simp only[Tr.c]at hr |-
  exact FlK.saved _ ((Ws.fl r).1 10 _ h fun g ps=>FlK.top 115 (.inr ⟨rfl,rfl⟩)) (fun s h=>(FlK.loop (by cases u<;>simp) ((Tr.fl c ⟨s.fr,s.q+1⟩ (by show 0<=s.q+1;omega)).quiet h) (Tr.fl b s h)).seq (FlK.plain (x:={op:=5,a:=0}) (by simp))) h N p i n hr
 |.for_ nm w b r,s,h=>fun N p i n hr=>by
  simp only[Tr.c]at hr |-
  refine FlK.saved _ ((Ws.fl r).1 10 _ h fun g ps=>FlK.top 115 (.inr ⟨rfl,rfl⟩)) (fun s h=>?_) h N p i n hr;exact(FlK.push (x:={op:=6,a:=0}) 97 (.inl ⟨rfl,rfl⟩)).seq (((Ws.fl w).1 7 (s.push 97) h fun g ps=>FlK.top 97 (.inl ⟨rfl,rfl⟩)).seq ((FlK.of (x:={op:=17,s:=nm}) (.for_ s _ rfl) (show(17:Nat)≠22 by decide) (fun N n h=>((h.pop.push 102).le (Nat.le_refl _)))).seq ((FlK.plain (x:={op:=5,a:=0}) (by simp)).seq (FlK.each (Tr.fl b (s.push 102) h)))))
 |.case_ w l r,s,h=>fun N p i n hr=>by
  simp only[Tr.c]at hr |-
  exact FlK.saved _ ((Ws.fl r).1 10 _ h fun g ps=>FlK.top 115 (.inr ⟨rfl,rfl⟩)) (fun s h=>(Wd.fl w s h).seq ((FlK.push (x:={op:=19,w:=w.ps}) 99 (.inr (.inr ⟨rfl,rfl⟩))).seq (wR (Am.fl l) h))) h N p i n hr
 |.fn nm b,s,h=>fun N p i n hr=>by
  simp only[Tr.c]at hr |-
  exact((Tr.fl b {} (Int.le_refl _)).fn nm).seq (FlK.plain (x:={op:=5,a:=0}) (by simp)) N p i n hr
theorem Ts.fl:∀(l:Ts),(∀s:Stt,0<=s.q->FlK l.cl s s)/\∀(b:Bool) (s:Stt),0<=s.q->FlK (l.cp b) s s
 |.nil=>⟨fun s _ N p i n hr=>by simp only[Ts.cl]at hr |-;exact FlK.nil N p i n hr,fun b s _ N p i n hr=>by simp only[Ts.cp]at hr |-;exact FlK.nil N p i n hr⟩
 |.cons x r=>⟨fun s h N p i n hr=>by
   simp only[Ts.cl]at hr |-
   exact(FlK.item (!r.nil?) (Tr.fl x s h)).seq ((Ts.fl r).1 s h) N p i n hr,fun b s h N p i n hr=>by
   simp only[Ts.cp]at hr |-
   exact(FlK.ite (Tr.fl x s h) ((Tr.fl x s h).child _)).seq ((Ts.fl r).2 false s h) N p i n hr⟩
theorem Am.fl:∀l:Am,FlA l
 |.nil=>zi
 |.cons w b r=>wQ (Ws.fl w).2 (Tr.fl b) (Am.fl r)
end
theorem dy(s:PS)(o:Nat)(a:Int):(s.op o a).e=s.e:=rfl
theorem pD(s:PS)(x:Ins):(s.add x).e=s.e:=rfl
theorem ir(s:PS)(k:Nat):(s.here k).e=s.e:=rfl
theorem nf:∀(l:List Nat) (s:PS),(s.heres l).e=s.e
 | [],s=>rfl
 |k::l,s=>nf l (s.here k)
theorem jV(s:PS)(k:Int)(F:PS->PS):(s.child k F).e=(F (s.add {op:=13,b:=k})).e:=rfl
theorem pE{b:Bool}{s t:PS}:(if b then s else t).e=if b then s.e else t.e:=by grind
def Am.wf:Am->Bool
 |.nil=>true
 |.cons w _ r=>w.fine&&r.wf
def Am.bf:Am->Bool
 |.nil=>true
 |.cons _ b r=>b.fine&&r.bf
theorem Am.fi:∀{l:Am},l.bf=true->l.wf=true->l.fine=true
 |.nil,_,_=>rfl
 |.cons w b r,h1,h2=>by
  simp_all[Am.bf,Am.wf,Am.fine,Am.fi]
mutual
theorem Wd.er:∀(w:Wd) (s:PS),(w.g s).e=0->s.e=0/\w.fine=true
 |.nil,s,h=>⟨by grind[Wd.g],rfl⟩
 |.lit p r,s,h=>by simp only[Wd.g]at h;simp only[Wd.fine];exact Wd.er r s h
 |.sub p t r,s,h=>by
  simp only[Wd.g]at h;split at h
  ·rename_i h0
   obtain⟨h1,h2⟩:=Wd.er r _ h;rw[dy,jV]at h1;obtain⟨_,h3⟩:=Tr.er t _ h1;grind[Wd.fine]
  ·rename_i h0
   exact absurd (Wd.er r _ h).1 h0
 |.bad p f r,s,h=>by
  simp only[Wd.g]at h;split at h
  ·grind
  ·rename_i h0
   exact absurd (Wd.er r _ h).1 h0
theorem Ws.er(o:Nat):∀(w:Ws) (s:PS),(w.g o s).e=0->s.e=0/\w.fine=true
 |.nil,s,h=>⟨by grind[Ws.g],rfl⟩
 |.cons g w r,s,h=>by
  simp only[Ws.g]at h;obtain⟨h1,h2⟩:=Ws.er o r _ h;rw[pD]at h1;obtain⟨h3,h4⟩:=Wd.er w _ h1;grind[Ws.fine]
theorem Ws.erw:∀(w:Ws) (s:PS) (l:List Nat),(w.gw s l).1.e=0->s.e=0/\w.fine=true
 |.nil,s,l,h=>⟨by grind[Ws.gw],rfl⟩
 |.cons g w r,s,l,h=>by
  simp only[Ws.gw]at h;obtain⟨h1,h2⟩:=Ws.erw r _ _ h;rw[pD]at h1;obtain⟨h3,h4⟩:=Wd.er w _ h1;grind[Ws.fine]
theorem Tr.er:∀(t:Tr) (s:PS),(t.g s).e=0->s.e=0/\t.fine=true
 |.simple a w r,s,h=>by
  simp only[Tr.g]at h;split at h
  ·rename_i h0
   simp only[pE,dy]at h;have ha:(a.g 8 (if w.nil? =true then(if r.nil? =true then s else r.g 10 (s.op 9 0))else w.g 7 ((if r.nil? =true then s else r.g 10 (s.op 9 0)).op 6 0))).e=0:=by
    grind
   obtain⟨h1,h2⟩:=Ws.er 8 a _ ha;have hw:(if r.nil? =true then s else r.g 10 (s.op 9 0)).e=0/\w.fine=true:=by
    cases w with
    |nil=>exact⟨h1,rfl⟩
    |cons g x y=>exact Ws.er 7 (.cons g x y) (PS.op _ 6 0) h1
   have hr:r.fine=true:=by
    cases r with
    |nil=>rfl
    |cons g x y=>exact(Ws.er 10 (.cons g x y) _ hw.1).2
   grind[Tr.fine]
  omega
 |.pipe g l,s,h=>by
  simp only[Tr.g]at h;split at h
  ·rename_i h0
   have hp:(l.gp true (if g=true then s.op 24 1 else s)).e=0:=by
    grind[dy]
   simp only[Tr.fine,(Ts.erp l true _ hp).2];grind
  omega
 |.ao o x y,s,h=>by
  simp only[Tr.g]at h;split at h
  ·rename_i h0
   rw[ir]at h;obtain⟨h1,h2⟩:=Tr.er y _ h;rw[dy,dy]at h1;simp only[Tr.fine,h2,(Tr.er x _ h1).2];grind
  omega
 |.lst l,s,h=>by
  simp only[Tr.g]at h;split at h
  ·rename_i h0
   simp only[Tr.fine,(Ts.erl l _ _ h).2];grind
  omega
 |.back x,s,h=>by
  simp only[Tr.g]at h;split at h
  ·rename_i h0
   rw[dy,jV]at h;simp only[Tr.fine,(Tr.er x _ h).2];grind
  omega
 |.sub x r,s,h=>by
  simp only[Tr.g]at h;split at h
  ·rename_i h0
   simp only[pE,dy,jV,ite_self]at h;obtain⟨h1,h2⟩:=Tr.er x _ h;rw[pD]at h1;have hr:r.fine=true:=by
    cases r with
    |nil=>rfl
    |cons g x y=>exact(Ws.er 10 (.cons g x y) _ h1).2
   grind[Tr.fine]
  omega
 |.grp x r,s,h=>by
  simp only[Tr.g]at h;split at h
  ·rename_i h0
   simp only[pE,dy,ite_self]at h;obtain⟨h1,h2⟩:=Tr.er x _ h;have hr:r.fine=true:=by
    cases r with
    |nil=>rfl
    |cons g x y=>exact(Ws.er 10 (.cons g x y) _ h1).2
   grind[Tr.fine]
  omega
 |.iff c t r,s,h=>by
  simp only[Tr.g]at h;split at h
  ·rename_i h0
   simp only[pE,dy,ir,ite_self]at h;obtain⟨h1,h2⟩:=Tr.er t _ h;rw[dy,dy]at h1;obtain⟨h3,h4⟩:=Tr.er c _ h1;rw[dy]at h3;have hr:r.fine=true:=by
    cases r with
    |nil=>rfl
    |cons g x y=>exact(Ws.er 10 (.cons g x y) _ h3).2
   grind[Tr.fine]
  omega
 |.ife c t e r,s,h=>by
  simp only[Tr.g]at h;split at h
  ·rename_i h0
   simp only[pE,dy,ir,ite_self]at h;obtain⟨h5,h6⟩:=Tr.er e _ h;rw[ir,dy]at h5;obtain⟨h1,h2⟩:=Tr.er t _ h5;rw[dy,dy]at h1;obtain⟨h3,h4⟩:=Tr.er c _ h1;rw[dy]at h3;have hr:r.fine=true:=by
    cases r with
    |nil=>rfl
    |cons g x y=>exact(Ws.er 10 (.cons g x y) _ h3).2
   grind[Tr.fine]
  omega
 |.loop u c b r,s,h=>by
  simp only[Tr.g]at h;split at h
  ·rename_i h0
   simp only[pE,dy,ir,ite_self]at h;obtain⟨h1,h2⟩:=Tr.er b _ h;rw[dy,dy]at h1;obtain⟨h3,h4⟩:=Tr.er c _ h1;rw[dy]at h3;have hr:r.fine=true:=by
    cases r with
    |nil=>rfl
    |cons g x y=>exact(Ws.er 10 (.cons g x y) _ h3).2
   grind[Tr.fine]
  omega
 |.for_ n w b r,s,h=>by
  simp only[Tr.g]at h;split at h
  ·rename_i h0
   simp only[pE,dy,ir,ite_self]at h;obtain⟨h1,h2⟩:=Tr.er b _ h;rw[dy,dy,pD]at h1;obtain⟨h3,h4⟩:=Ws.er 7 w _ h1;rw[dy]at h3;have hr:r.fine=true:=by
    cases r with
    |nil=>rfl
    |cons g x y=>exact(Ws.er 10 (.cons g x y) _ h3).2
   grind[Tr.fine]
  omega
 |.case_ w l r,s,h=>by
  simp only[Tr.g]at h;split at h
  ·rename_i h0
   simp only[pE,dy,nf,ite_self]at h;obtain⟨h1,h2⟩:=Am.erb l _ _ _ h;rw[dy,dy]at h1;obtain⟨h3,h4⟩:=Am.erm l _ _ h1;rw[pD]at h3;obtain⟨h5,h6⟩:=Wd.er w _ h3;have hr:r.fine=true:=by
    cases r with
    |nil=>rfl
    |cons g x y=>exact(Ws.er 10 (.cons g x y) _ h5).2
   grind[Tr.fine,Am.fi]
  omega
 |.fn n b,s,h=>by
  simp only[Tr.g]at h;split at h
  ·rename_i h0
   rw[dy,ir,dy]at h;simp only[Tr.fine,(Tr.er b _ h).2];grind
  omega
theorem Ts.erl:∀(l:Ts) (b:Option Nat) (s:PS),(l.gl b s).e=0->s.e=0/\l.fine=true
 |.nil,b,s,h=>⟨by grind[Ts.gl],rfl⟩
 |.cons x r,b,s,h=>by
  simp only[Ts.gl]at h;obtain⟨h1,h2⟩:=Ts.erl r _ _ h;obtain⟨h3,h4⟩:=Tr.er x _ h1;simp only[Ts.fine,h2,h4];exact⟨h3,rfl⟩
theorem Ts.erp:∀(l:Ts) (f:Bool) (s:PS),(l.gp f s).e=0->s.e=0/\l.fine=true
 |.nil,f,s,h=>⟨by grind[Ts.gp],rfl⟩
 |.cons x r,f,s,h=>by
  simp only[Ts.gp]at h;obtain⟨h1,h2⟩:=Ts.erp r _ _ h;split at h1
  ·obtain⟨h3,h4⟩:=Tr.er x _ h1
   grind[Ts.fine]
  ·rw[jV]at h1
   obtain⟨h3,h4⟩:=Tr.er x _ h1;simp only[Ts.fine,h2,h4];exact⟨h3,rfl⟩
theorem Am.erm:∀(l:Am) (s:PS) (h:List (List Nat)),(l.gm s h).1.e=0->s.e=0/\l.wf=true
 |.nil,s,_,h=>⟨by grind[Am.gm],rfl⟩
 |.cons w b r,s,_,h=>by
  simp only[Am.gm]at h;obtain⟨h1,h2⟩:=Am.erm r _ _ h;obtain⟨h3,h4⟩:=Ws.erw w _ _ h1;grind[Am.wf]
theorem Am.erb:∀(l:Am) (s:PS) (h:List (List Nat)) (k:List Nat),(l.gb s h k).1.e=0->s.e=0/\l.bf=true
 |.nil,s,_,_,h=>⟨by grind[Am.gb],rfl⟩
 |.cons w b r,s,_,_,h=>by
  simp only[Am.gb]at h;obtain⟨h1,h2⟩:=Am.erb r _ _ _ h;rw[dy]at h1;obtain⟨h3,h4⟩:=Tr.er b _ h1;grind[dy,nf,Am.bf]
end
def Ts.app:Ts->Ts->Ts
 |.nil,b=>b
 |.cons x r,b=>.cons x (r.app b)
theorem sk:∀a b:Ts,(a.app b).nds=a.nds++b.nds
 |.nil,b=>rfl
 |.cons x r,b=>by simp_all[Ts.app,Ts.nds,sk]
theorem wS:∀a b:Ts,a.ok->b.ok->(a.app b).ok
 |.nil,b,_,h=>h
 |.cons x r,b,h,h2=>by simp_all[Ts.app,Ts.ok,wS]
theorem pF:∀a b:Ts,(a.app b).fine=(a.fine&&b.fine)
 |.nil,b=>by grind[Ts.app,Ts.fine]
 |.cons x r,b=>by simp only[Ts.app,Ts.fine,pF r b,Bool.and_assoc]
theorem zj:∀a b:Ts,(a.app b).nil? =(a.nil? &&b.nil?)
 |.nil,b=>by simp[Ts.app,Ts.nil?]
 |.cons x r,b=>by simp[Ts.app,Ts.nil?]
def Ts.clm(m:Bool):Ts->K
 |.nil=>K.nil
 |.cons x r=>(K.item (!r.nil? ||m) x.c).seq (r.clm m)
theorem cH:∀l:Ts,l.clm false=l.cl
 |.nil=>by simp only[Ts.clm,Ts.cl]
 |.cons x r=>by simp_all[Ts.clm,Ts.cl,cH]
theorem eZ(m:Bool)(x:Tr)(r:Ts)(p i:Nat):(Ts.cons x r).clm m p i=({op:=0,a:=(i+1:Nat),b:=if(!r.nil? ||m)=true then((i+1+itm (x.c (p+1) (i+1))+1:Nat):Int)else 0}:Ins)::(x.c (p+1) (i+1)++r.clm m (p+1+(x.c (p+1) (i+1)).length) (i+1+itm (x.c (p+1) (i+1)))):=by
 simp only[Ts.clm,K.seq,K.item,List.cons_append,List.length_cons,aF,aD]
 grind
theorem wT:∀(a b:Ts) (p i:Nat),(a.app b).cl p i=a.clm (!b.nil?) p i++b.cl (p+(a.cl p i).length) (i+itm (a.cl p i))
 |.nil,b,p,i=>by simp[Ts.app,Ts.clm,Ts.cl,K.nil,bZ]
 |.cons x r,b,p,i=>by
  rw[<- cH (Ts.app _ _),<- cH (Ts.cons x r)];simp only[Ts.app];rw[eZ,eZ,eZ,cH,cH,wT r b];grind[zj,aF,bd,aD,itm]
def Ts.hd:Ts->Nat->Nat->List (Nat×Nat)
 |.nil,_,_=>[]
 |.cons x r,p,i=>(p,i+1)::r.hd (p+1+(x.c (p+1) (i+1)).length) (i+1+itm (x.c (p+1) (i+1)))
theorem sl:∀(l:Ts) (p i:Nat),∀y∈l.hd p i,p<=y.1/\i<y.2
 |.nil,_,_,y,hy=>by cases hy
 |.cons x r,p,i,y,hy=>by
  simp only[Ts.hd]at hy;rcases List.mem_cons.1 hy with rfl|hy
  ·omega
  ·have:=sl r _ _ y hy;omega
theorem Ad(m:Bool):∀(l:Ts) (A B:List Ins) (i k:Nat) (y:Nat×Nat),(l.hd A.length i)[k]? =some y->
  ∃x:Ins,(A++(l.clm m A.length i++B))[y.1]? =some x/\aD x=true/\x.a=(y.2:Nat)/\x.b=(match(l.hd A.length i)[k+1]? with|some z=>((z.2:Nat):Int)|none=>if m then((i+itm (l.cl A.length i)+1:Nat):Int)else 0)
 |.nil,A,B,i,k,y,h=>by simp[Ts.hd]at h
 |.cons t r,A,B,i,k,y,h=>by
  rw[eZ];have hcl:itm ((Ts.cons t r).cl A.length i)=itm (t.c (A.length+1) (i+1))+itm (r.cl (A.length+1+(t.c (A.length+1) (i+1)).length) (i+1+itm (t.c (A.length+1) (i+1))))+1:=by
   rw[<- cH,eZ,cH];simp[aF,bd,aD]
  rw[hcl];simp only[Ts.hd]at h |-
  obtain⟨n,hn⟩:∃n,t.c (A.length+1) (i+1)=n:=⟨_,rfl⟩;rw[hn]at h |-
  cases k with
  |zero=>
   simp only[List.getElem?_cons_zero,Option.some.injEq]at h;subst h;refine⟨_,by rw[List.getElem?_append_right (Nat.le_refl _),Nat.sub_self];rfl,rfl,rfl,?_⟩;simp only[List.getElem?_cons_succ]
   cases r with
   |nil=>simp[Ts.hd,Ts.nil?,Ts.cl,K.nil,bZ];grind
   |cons u s=>simp[Ts.hd,Ts.nil?]
  |succ k=>
   simp only[List.getElem?_cons_succ]at h |-
   obtain⟨z,hz⟩:∃z:Ins,({op:=0,a:=(i+1:Nat),b:=if(!r.nil? ||m)=true then((i+1+itm n+1:Nat):Int)else 0}:Ins)=z:=⟨_,rfl⟩;rw[hz];have hl:(A++z::n).length=A.length+1+n.length:=by grind
   have h1:=Ad m r (A++z::n) B (i+1+itm n) k y (by grind);grind
theorem lp(f:Ins->Ins)(M:List Ins)(k:Nat):∀n:List Ins,(n++M).modify (n.length+k) f=n++M.modify k f
 | []=>by simp
 |a::n=>by
  rw[List.cons_append,List.length_cons,show n.length+1+k=n.length+k+1 by omega,List.modify_succ_cons,lp f M k n];rfl
theorem pG:∀(l:Ts) (p i:Nat) (y:Nat×Nat),(l.hd p i).getLast? =some y->l.clm true p i=(l.cl p i).modify (y.1-p) (·.setB (i+itm (l.cl p i)+1:Nat))
 |.nil,p,i,y,h=>by simp[Ts.hd]at h
 |.cons t r,p,i,y,h=>by
  rw[<- cH,eZ,eZ,cH];simp only[Ts.hd]at h;obtain⟨n,hn⟩:∃n,t.c (p+1) (i+1)=n:=⟨_,rfl⟩;rw[hn]at h |-
  cases r with
  |nil=>
   simp only[Ts.hd,List.getLast?_singleton,Option.some.injEq]at h;subst h;simp[Ts.clm,Ts.cl,Ts.nil?,K.nil,Ins.setB,aF,aD];omega
  |cons u s=>
   rw[List.getLast?_cons]at h;obtain⟨z,hz⟩:∃z,((Ts.cons u s).hd (p+1+n.length) (i+1+itm n)).getLast? =some z:=by grind[Ts.hd]
   rw[hz]at h;simp only[Option.getD_some,Option.some.injEq]at h;subst h;have h1:=pG (.cons u s) (p+1+n.length) (i+1+itm n) z hz;have h2:=sl (.cons u s) (p+1+n.length) (i+1+itm n) z (List.mem_of_getLast? hz);obtain⟨M,hM⟩:∃M,(Ts.cons u s).cl (p+1+n.length) (i+1+itm n)=M:=⟨_,rfl⟩;rw[hM]at h1 |-
   rw[h1];obtain⟨k,hk⟩:∃k,z.1=p+1+n.length+k:=⟨z.1-(p+1+n.length),by omega⟩;rw[hk,show p+1+n.length+k-(p+1+n.length)=k by omega,show p+1+n.length+k-p=(n.length+k)+1 by omega,List.modify_succ_cons];rw[lp];simp only[Ts.nil?,aF,bd,aD];grind
theorem dE{l:Ts}(h:(aq l).e=0):l.fine=true/\(aq l).c=l.cl 0 0++[({op:=26}:Ins)]/\itm (l.cl 0 0)<=500:=by
 obtain⟨s,hs⟩:∃s,((Tr.lst l).g ⟨[],0,0⟩).op 26 0=s:=⟨_,rfl⟩
 have hm:aq l=if s.e=0/\500<s.i then⟨s.c,s.i,6⟩else s:=by grind[aq]
 rw[hm]at h |-
 by_cases hc:s.e=0/\500<s.i
 ·grind
 ·rw[if_neg hc]at h |-
  have he:((Tr.lst l).g ⟨[],0,0⟩).e=0:=by grind[dy]
  have hf:=(Tr.er (.lst l) _ he).2;have hg:=Tr.gen (.lst l) hf ⟨[],0,0⟩ rfl;have hl:(Tr.lst l).c=l.cl:=by grind[Tr.c]
  rw[hl]at hg;grind[Tr.fine,PS.op,PS.add]
def Lab(N:Nat)(C:List Ins)(ls:List Stt):Prop:=
 ls.length=C.length/\ls[0]? =some (Stt.mk [] 0)/\(∀t∈ls,Rm N t 0)/\
  ∀(k:Nat) (x:Ins) (t:Stt),C[k]? =some x->ls[k]? =some t->(x.op=26/\t=Stt.mk [] 0)\/
   ∃nx nm,Stp t x nx nm/\(∀u,nx=some u->ls[k+1]? =some u)/\(∀u,nm=some u->∃j:Nat,x.a=(j:Int)/\ls[j]? =some u)/\(x.op=22->∃j:Nat,x.a=(j:Int)/\ls[j]? =some (Stt.mk [] 0))
theorem Bh(l:Ts){N:Nat}(hN:(l.cl 0 0).length<=N):∃ls,Lab N (l.cl 0 0++[({op:=26}:Ins)]) ls:=by
 have h:=((Ts.fl l).1 {} (Int.le_refl _) N 0 0 0 ⟨Int.le_refl _,by grind,by grind⟩).1
 obtain⟨C,hC⟩:∃C,l.cl 0 0=C:=⟨_,rfl⟩
 rw[hC]at h hN |-
 obtain⟨ls,a1,a2,a3,a4,a5⟩:=h
 refine⟨ls++[(Stt.mk [] 0)],by simp[a1],a3,fun t ht=>?_,fun k x t hx ht=>?_⟩
 ·rcases List.mem_append.1 ht with ht|ht
  ·grind
  ·rw[List.mem_singleton.1 ht]
   exact⟨Int.le_refl _,by grind,by grind⟩
 ·by_cases hk:k<C.length
  ·rw[List.getElem?_append_left hk]at hx
   rw[List.getElem?_append_left (by omega)]at ht;obtain⟨nx,nm,e1,e2,e3,e4⟩:=a5 k x t hx ht;have e5:∀T u,At 0 (ls++[(Stt.mk [] 0)]) [] T u->∃j:Nat,T=(j:Int)/\(ls++[(Stt.mk [] 0)])[j]? =some u:=fun T u h=>by
    rcases h with⟨j,h1,h2⟩|⟨n,_,h2⟩
    ·grind
    grind
   exact .inr ⟨nx,nm,e1,e2,fun u hu=>e5 _ _ (e3 u hu),fun h=>e5 _ _ (e4 h)⟩
  ·grind
theorem jW:∀(C:List Ins) (n k:Nat) (x:Ins),lD n C->C[k]? =some x->aD x=true->x.a=((n+itm (C.take k)+1:Nat):Int)
 | [],n,k,x,_,hx,_=>by grind
 |y::C,n,0,x,h,hx,hi=>by
  obtain rfl:y=x:=by grind
  simpa[bZ]using h.1 hi
 |y::C,n,k+1,x,h,hx,hi=>by
  have h1:=jW C _ k x h.2 (by grind) hi;grind[aF]
theorem t6{C:List Ins}{n j k:Nat}{x y:Ins}(h:lD n C)(hx:C[j]? =some x)(hy:C[k]? =some y)(h1:aD x=true)(h2:aD y=true)(he:x.a=y.a):j=k:=by
 have e1:=jW C n j x h hx h1
 have e2:=jW C n k y h hy h2
 have key:∀(a b:Nat) (u v:Ins),C[a]? =some u->C[b]? =some v->aD u=true->a<b->itm (C.take a)<itm (C.take b):=fun a b u v hu hv hi hab=>by
  have hb:=(List.getElem?_eq_some_iff.1 hv).1;have e3:C.take b=C.take a++u::(C.drop (a+1)).take (b-(a+1)):=by
   obtain⟨ha,hu⟩:=List.getElem?_eq_some_iff.1 hu;have e4:C.drop a=u::C.drop (a+1):=by rw[List.drop_eq_getElem_cons ha,hu]
   rw[show b=a+((b-(a+1))+1) by omega,List.take_add,e4,List.take_succ_cons];grind
  grind[bd,aF]
 grind
theorem lq(l:Ts){k:Nat}{y:Nat×Nat}(h:(l.hd 0 0)[k]? =some y):∃x:Ins,(l.cl 0 0++[({op:=26}:Ins)])[y.1]? =some x/\aD x=true/\x.a=(y.2:Nat)/\x.b=(match(l.hd 0 0)[k+1]? with|some z=>((z.2:Nat):Int)|none=>0):=by
 obtain⟨x,h1,h2,h3,h4⟩:=Ad false l [] [({op:=26}:Ins)] 0 k y h
 refine⟨x,?_,h2,h3,h4⟩
 simp_all[cH]
theorem t7(x:Tr)(r:Ts):((Ts.cons x r).hd 0 0)[0]? =some (0,1):=rfl
theorem q7(a b:Ts):(a.app b).cl 0 0++[({op:=26}:Ins)]=a.clm (!b.nil?) 0 0++(b.cl 0 0++[({op:=26}:Ins)]).map (Ins.up (a.cl 0 0).length (itm (a.cl 0 0))):=by
 rw[wT,Nat.zero_add,Nat.zero_add,List.map_append,List.append_assoc]
 congr 2
 have:=(Ts.sh b).1 0 0 (a.cl 0 0).length (itm (a.cl 0 0))
 grind
theorem Bi:(Tryz.prog.info? 31).map (fun i=>(i.zero,i.size,i.bytes))=some (some (.agg #[.int .i64 0,.int .i64 0,.int .i64 0,.string ⟨#[]⟩,.slice none 0 0]),5,64):=by kernel_rfl
theorem c_{W:World}{t:TypeId}{v:Value}{n m c:Nat}{xs news:List Value}{ad:Addr}(hl:news.length=m*5)(hnews:∀j u,news[j]? =some u->W.cell? (ad.add j)=some u)(h1:∀u∈news,u.oneCell'=true)(hs:n+m<=1000000)(ho:W.ownsRow 0 31 5 v n xs):
  ∃v' w',(Builtin.append_ #[23,23] t #[v,.slice (some ad) m c]).run Tryz.prog W=.ok v' w'/\w'.ownsRow 0 31 5 v' (n+m) (xs++news)/\W.grownBy w' v.ownBlock/\(v'.ownBlock=v.ownBlock\/v'.ownBlock=some W.heap.size):=by
 obtain⟨i0,hi,hz0,hz1,hz2⟩:=bu Bi
 have:=bA (P:=Tryz.prog) (w:=W) 0 23 t 31 i0 _ Tryz.underlying23 hi hz0 (by rw[hz1];rfl) (by rw[hz1];decide) v n xs (by rw[hz1];exact ho) ad m c news (by rw[hz1,hl]) hnews h1 (by unfold maxLen;omega) (by rw[hz2];omega) (Nat.zero_le _)
 rw[hz1]at this
 exact this
def cJ(x:Ins×Value):List Value:=[.int .i64 (x.1.op:Int),.int .i64 x.1.a,.int .i64 x.1.b,bs x.1.s,x.2]
def zk(LZ LP:List (Nat×Obj))(v:Value)(n:Nat)(xs:List Value):Prop:=∃LC,LP=LC++LZ/\RowL 5 31 LC v n xs/\∀p∈LZ,∃c t,p.2=.cells c t (0,0)/\t≠118
def MkQ(W0:World)(LZ:List (Nat×Obj))(W:World)(b:Nat)(s:PS)(v:Value)(LP:List (Nat×Obj)):Prop:=
 ∃cv:List (Ins×Value),cv.map (·.1)=s.c/\zk LZ LP v cv.length (cv.flatMap cJ)/\(∀x∈cv,PRow (b::keys LP) W x.2 x.1.w)/\Below W0.heap.size W0 W/\W0.heap.size<=b/\(∀p∈LP,W0.heap.size<=p.1)/\s.i<=s.n
def MkQ0(W0:World)(LZ:List (Nat×Obj))(W:World)(b:Nat)(s:PS)(v:Value)(LP:List (Nat×Obj)):Prop:=
 ∃cv:List (Ins×Value),cv.map (·.1)=s.c/\zk LZ LP v cv.length (cv.flatMap cJ)/\(∀x∈cv,PRow (b::keys LP) W x.2 x.1.w)/\Below W0.heap.size W0 W/\W0.heap.size<=b/\(∀p∈LP,W0.heap.size<=p.1)/\s.i<=s.n+1
theorem MkQ.w{W0 W:World}{b:Nat}{s:PS}{v:Value}{LP LZ:List (Nat×Obj)}(h:MkQ W0 LZ W b s v LP):MkQ0 W0 LZ W b s v LP:=by
 obtain⟨cv,h1,h2,h3,h4,h5,h6,h7⟩:=h
 exact⟨cv,h1,h2,h3,h4,h5,h6,by omega⟩
theorem MkQ0.s{W0 W:World}{b:Nat}{s:PS}{v:Value}{LP LZ:List (Nat×Obj)}(h:MkQ0 W0 LZ W b s v LP)(hi:s.i<=s.n):MkQ W0 LZ W b s v LP:=by
 obtain⟨cv,h1,h2,h3,h4,h5,h6,h7⟩:=h
 exact⟨cv,h1,h2,h3,h4,h5,h6,hi⟩
theorem fE{W0 w W:World}{Y:List Nat}{L:List (Nat×Obj)}(h:Below W0.heap.size W0 w)(hk:Kn Y w W L)(hy:∀y∈Y,W0.heap.size<=y):Below W0.heap.size W0 W:=
 ⟨hk.os.trans h.os,hk.tape.trans h.tape,hk.output.trans h.output,Nat.le_trans h.size hk.size,fun k h1=>(hk.block k (Nat.lt_of_lt_of_le h1 h.size) (fun hm=>by have:=hy k hm;omega)).trans (h.block k h1)⟩
theorem MkQ.next{W0 w W:World}{b:Nat}{s:PS}{v:Value}{LP L LZ:List (Nat×Obj)}(h:MkQ W0 LZ w b s v LP)(hk:Kn (b::keys LP) w W L):MkQ W0 LZ W b s v LP:=by
 obtain⟨cv,h1,h2,h3,h4,h5,h6,h7⟩:=h
 refine⟨cv,h1,h2,fun x hx=>RowY.kn (h3 x hx) hk fun y hy=>.inl hy,fE h4 hk fun y hy=>?_,h5,h6,h7⟩
 rcases List.mem_cons.1 hy with rfl|hy
 ·exact h5
 ·obtain⟨p,hp,rfl⟩:=List.mem_map.1 hy;exact h6 p hp
theorem MkQ.snoc{W0 w W:World}{b:Nat}{s:PS}{n3 c3:Nat}{a3:Option Addr}{LP LP3 L LZ:List (Nat×Obj)}{cv:List (Ins×Value)}{x:Ins}{wv:Value}(h1:cv.map (·.1)=s.c)(h3:∀x∈cv,PRow (b::keys LP) w x.2 x.1.w)(hw:PRow (b::keys LP) w wv x.w)(h4:Below W0.heap.size W0 w)(h5:W0.heap.size<=b)(h6:∀p∈LP,W0.heap.size<=p.1)(h7:s.i<=s.n+1)
  (hr:zk LZ LP3 (.slice a3 n3 c3) (cv.length+1) (cv.flatMap cJ++cJ (x,wv))) (hk:Kn (b::keys LP) w W L) (hs:∀p∈LP3,p∈L):MkQ W0 LZ W b (s.add x) (.slice a3 n3 c3) LP3:=by
 have hX:∀y∈b::keys LP,W0.heap.size<=y:=fun y hy=>by
  rcases List.mem_cons.1 hy with rfl|hy
  ·exact h5
  ·obtain⟨p,hp,rfl⟩:=List.mem_map.1 hy;exact h6 p hp
 have hown:∀p∈LP3,w.heap.size<=p.1\/p.1∈b::keys LP:=fun p hp=>hk.own p (hs p hp)
 have hY:∀y∈b::keys LP3,y∈b::keys LP\/w.heap.size<=y:=fun y hy=>by
  rcases List.mem_cons.1 hy with rfl|hy
  ·exact .inl m0
  ·obtain⟨p,hp,rfl⟩:=List.mem_map.1 hy
   exact(hown p hp).symm
 refine⟨cv++[(x,wv)],by rw[List.map_append,h1];rfl,by simpa[List.flatMap_append]using hr,fun y hy=>?_,fE h4 hk hX,h5,fun p hp=>?_,by rw[bt];exact h7⟩
 ·rcases List.mem_append.1 hy with hy|hy
  ·exact RowY.kn (h3 y hy) hk hY
  ·rw[List.mem_singleton.1 hy];exact RowY.kn hw hk hY
 ·rcases hown p hp with e|e
  ·exact Nat.le_trans h4.size e
  ·exact hX _ e
theorem Kn.mz{X:List Nat}{w0 W:World}{p0:Nat×Obj}{LC LZ:List (Nat×Obj)}(h:Kn X w0 W (p0::(LC++LZ))):Kn X w0 W (p0::(LZ++LC)):=h.perml fun p=>by simp only[List.countP_cons,List.countP_append];omega
theorem gk(W0:World){LZ:List (Nat×Obj)}(b:Nat)(s:PS)(ao:Option Addr)(cap:Nat)(LP:List (Nat×Obj))(w:World)(x:Ins)(oz az bz:Int)(sz9:ByteArray)(wv:Value)(ho:oz=(x.op:Int))(ha:az=x.a)(hb:bz=x.b)(hs9:x.s=sz9.data.toList)(hw:PRow (b::keys LP) w wv x.w)(hm:s.n<900000)(hL0:Kn (b::keys LP) w w ((b,.cells #[.slice ao s.n cap,.int .i64 (s.i:Int),.int .i64 (s.e:Int)] 81 (0,0))::LP))(hM:MkQ0 W0 LZ w b s (.slice ao s.n cap) LP):
  Calls Tryz.prog 30 #[.pointer (some ⟨b,0,none⟩),.agg #[.int .i64 oz,.int .i64 az,.int .i64 bz,.string sz9,wv]] w (fun e w'=>∃(a2:Option Addr) (c2:Nat) (LP2:List (Nat×Obj)),e=.returned (.int .i64 (s.n:Int))/\Kn (b::keys LP) w w' ((b,.cells #[.slice a2 (s.add x).n c2,.int .i64 ((s.add x).i:Int),.int .i64 ((s.add x).e:Int)] 81 (0,0))::LP2)/\Hid (MkQ W0 LZ w' b ((s.add x)) (.slice a2 (s.add x).n c2) LP2)):=by
 obtain⟨ap,np,cp,rfl⟩:∃ap np cp,wv=.slice ap np cp:=by
  obtain⟨ap,cp,hv,_⟩:=id hw;exact⟨ap,_,cp,hv⟩
 obtain⟨cv,h1,⟨LC,rfl,h2,hz⟩,h3,h4,h5,h6,h7⟩:=hM
 have HF9:=yh (show ∀(LP3 L:List (Nat×Obj)) (W:World) (a3:Option Addr) (c3:Nat),zk LZ LP3 (.slice a3 (s.n+1) c3) (cv.length+1) (cv.flatMap cJ++cJ (x,.slice ap np cp))->Kn (b::keys (LC++LZ)) w W L->(∀p∈LP3,p∈L)->MkQ W0 LZ W b (s.add x) (.slice a3 (s.n+1) c3) LP3 from fun LP3 L W a3 c3 hr hk hsb=>MkQ.snoc h1 h3 hw h4 h5 h6 h7 hr hk hsb)
 have hins:cJ (x,.slice ap np cp)=[.int .i64 oz,.int .i64 az,.int .i64 bz,.string sz9,.slice ap np cp]:=by
  simp only[cJ,ho,ha,hb,hs9];exact congrArg (fun z=>[_,_,_,z,_]) (cR sz9)
 have hcl:cv.length=s.n:=by unfold PS.n;rw[<- h1,List.length_map]
 rw[bt]
 rw[hins,hcl]at HF9
 rw[hcl]at h2
 obtain⟨n,hn⟩:∃n,s.n=n:=⟨_,rfl⟩
 obtain⟨iz,hiz⟩:∃z:Int,(s.i:Int)=z:=⟨_,rfl⟩
 obtain⟨ez,hez⟩:∃z:Int,(s.e:Int)=z:=⟨_,rfl⟩
 have hiz2:((s.add x).i:Int)=iz:=hiz
 have hez2:((s.add x).e:Int)=ez:=hez
 rw[hn]at HF9 h2 hm hL0 |-
 rw[hiz,hez]at hL0
 rw[hiz2,hez2]
 have HR:=yh h2
 have HZ:=yh hz
 clear hz h1 h2 h3 h4 h5 h6 h7 hins hcl hn hiz hez hiz2 hez2 hw ho ha hb hs9
 have p1:wrap64 (((n+1:Nat):Int)-1)=(n:Int):=by rw[IntWalk.wrap64_in _ (by omega)];omega
 have p2:wrap64 ((n:Int)+1-1)=(n:Int):=by rw[IntWalk.wrap64_in _ (by omega)];omega
 obtain⟨X9,hX9⟩:∃X,b::keys (LC++LZ)=X:=⟨_,rfl⟩
 rw[hX9]at hL0 HF9 |-
 clear hX9
 have hL:=Kn.mz hL0
 clear hL0
 have hF:=hL.fx
 go_enter Tryz.func30,Tryz.ntmps30
 go_wp2_with (first|(with_reducible refine zS ?_;intro W hL hF)|((with_reducible refine af 1 ?_);refine zX [0,1,2,3,4,5,6,7,8,9,10] [7,10] ?_ sR;clear hF hL;intro ι F hne hC hG;(repeat(first|(refine cS ?_)|((first|refine cF hC ?_|refine cP ?_);intro K hK;go_big_quiet_op;go_big_quiet_on)|(refine cN ?_;intro W hL;have hF:=hL.fx;at_builtin;(refine ah rfl _ _ 23 23 rfl (_::_::_::LZ) LC hL n 1 (cv.flatMap cJ) [.int .i64 oz,.int .i64 az,.int .i64 bz,.string sz9,.slice ap np cp] _ _ HR.out rfl rfl (fun ho=>c_ rfl (fun j u hu=>by rw[Go.WideShapes.add_plain,Nat.zero_add,aK hL m0];simpa using hu) (by intro u hu;simp only[List.mem_cons,List.not_mem_nil,or_false]at hu;rcases hu with rfl|rfl|rfl|rfl|rfl<;>rfl) (by omega) ho) ?_);intro LP3 a3 c3 W3 hL2 hr3;clear hL hF;have hL:=hL2;clear hL2;simp only[List.append_eq,List.cons_append,List.nil_append]at hL;have hF:=hL.fx;go_wp2;refine ai ?_;(first|(refine bO _ (by rfl) ?_;clear hL hF hC hG;intro ι F hne hC hFF;have hG:=fun n=>(hFF n).fx;clear hFF)|(refine a_ _ (by repeat' (first|(with_reducible exact List.nil_sublist _)|(with_reducible exact List.Sublist.refl _)|(with_reducible apply List.Sublist.cons_cons)|(with_reducible apply List.Sublist.cons))) ?_;clear hL)))|(refine cN ?_;intro W hL;have hF:=hL.fx;go_wp2;refine ai ?_;(first|(refine bO _ (by rfl) ?_;clear hL hF hC hG;intro ι F hne hC hFF;have hG:=fun n=>(hFF n).fx;clear hFF)|(refine a_ _ (by repeat' (first|(with_reducible exact List.nil_sublist _)|(with_reducible exact List.Sublist.refl _)|(with_reducible apply List.Sublist.cons_cons)|(with_reducible apply List.Sublist.cons))) ?_;clear hL hF)))));refine zN ?_;clear hC hG;intro W hL hF))
 refine zF ?_;intro W hL hF
 refine bodyPost_ret (by simp[results,Tryz.results30,go_sem, *];try rfl) rfl ?_
 exact⟨a3,c3,LP3++LZ,rfl,hL.pm,yh (HF9.out (LP3++LZ) _ _ a3 c3 ⟨LP3,rfl,hr3,HZ.out⟩ hL (fun p hp=>List.mem_cons_of_mem _ (List.mem_cons_of_mem _ (List.mem_cons_of_mem _ (List.mem_append.2 (List.mem_append.1 hp).symm)))))⟩
theorem dr{Y:List Nat}{w:World}:PRow Y w (.slice none 0 0) []:=RowY.nil
theorem Kn.mkr{X:List Nat}{w0 W W':World}{b:Nat}{o o2:Obj}{A LP LP2:List (Nat×Obj)}(h:Kn X w0 W (A++(b,o)::LP))(k:Kn (b::keys LP) W W' ((b,o2)::LP2)):Kn X w0 W' ((b,o2)::LP2):=
 (h.sub (List.sublist_append_right A _)).tail0 k
theorem Kn.own2{X:List Nat}{w0 W:World}{b:Nat}{o:Obj}{LP:List (Nat×Obj)}(h:Kn X w0 W ((b,o)::LP)):∀y∈b::keys LP,y∈X\/w0.heap.size<=y:=fun y hy=>by
 obtain⟨p,hp,rfl⟩:=List.mem_map.1 (show y∈keys ((b,o)::LP)from hy)
 exact(h.own p hp).symm
theorem Kn.mkr0{X:List Nat}{w0 Wb W:World}{b:Nat}{o:Obj}{LP:List (Nat×Obj)}(h:Kn X w0 Wb ((b,o)::LP))(k:Kn (b::keys LP) Wb W ((b,o)::LP)):Kn X w0 W ((b,o)::LP):=h.tail0 k
theorem NodeIs.mk2{X:List Nat}{w0 W:World}{b:Nat}{o:Obj}{LP:List (Nat×Obj)}{n:Nd}{cs:List Value}(h:NodeIs X w0 n cs)(k:Kn X w0 W ((b,o)::LP)):NodeIs (b::keys LP) W n cs:=h.kn k k.own2
theorem PRow.mk2{X:List Nat}{w0 W:World}{b:Nat}{o:Obj}{LP:List (Nat×Obj)}{v:Value}{ps:List Prt}(h:PRow X w0 v ps)(k:Kn X w0 W ((b,o)::LP)):PRow (b::keys LP) W v ps:=RowY.kn h k k.own2
theorem PRow.at_{X:List Nat}{w0 W:World}{L:List (Nat×Obj)}{v:Value}{ps:List Prt}(h:PRow X w0 v ps)(k:Kn X w0 W L):PRow X W v ps:=RowY.kn h k fun y hy=>.inl hy
theorem NodeIs.at_{X:List Nat}{w0 W:World}{L:List (Nat×Obj)}{n:Nd}{cs:List Value}(h:NodeIs X w0 n cs)(k:Kn X w0 W L):NodeIs X W n cs:=h.kn k fun y hy=>.inl hy
def CelY(Y:List Nat)(W:World)(g:Nat)(cs:List Value):Prop:=g∉Y/\g<W.heap.size/\∀(c:Nat) x,cs[c]? =some x->W.cell? ⟨g,c,none⟩=some x
theorem CelY.mk2{X:List Nat}{w0 W:World}{b:Nat}{o:Obj}{LP:List (Nat×Obj)}{g:Nat}{cs:List Value}(h:CelY X w0 g cs)(k:Kn X w0 W ((b,o)::LP)):CelY (b::keys LP) W g cs:=
 ⟨fun hm=>by rcases k.own2 g hm with e|e;exact h.1 e;have:=h.2.1;omega,Nat.lt_of_lt_of_le h.2.1 k.size,fun c x hx=>(dt (k.block g h.2.1 h.1)).trans (h.2.2 c x hx)⟩
theorem dO{X:List Nat}{w0 W:World}{b g:Nat}{o:Obj}{cells:Array Value}{t:TypeId}{A LP:List (Nat×Obj)}(h:Kn X w0 W (A++(b,o)::LP))(hm:(g,.cells cells t (0,0))∈A):CelY (b::keys LP) W g cells.toList:=
 ⟨fun e=>by
  have nd:=h.nd;rw[List.map_append,List.nodup_append]at nd;obtain⟨p,hp,e2⟩:=List.mem_map.1 (show g∈keys ((b,o)::LP)from e);exact nd.2.2 _ (List.mem_map.2 ⟨_,hm,rfl⟩) _ (List.mem_map.2 ⟨p,hp,rfl⟩) e2.symm,h.lt (List.mem_append_left _ hm),fun c x hx=>by rw[aK h (List.mem_append_left _ hm)];rwa[<- Array.getElem?_toList]⟩
theorem wU{X:List Nat}{w0 W W':World}{b g:Nat}{o o2:Obj}{cells:Array Value}{t:TypeId}{A LP LP2:List (Nat×Obj)}(h:Kn X w0 W (A++(b,o)::LP))(hm:(g,.cells cells t (0,0))∈A)(k:Kn (b::keys LP) W W' ((b,o2)::LP2)):CelY (b::keys LP2) W' g cells.toList:=(dO h hm).mk2 k
theorem BZ:∀(fn:Fn) (first cap:Array Value) (w:World),(Instr.makeFunc fn first cap).run Tryz.prog w=.ok (.func fn first cap) w:=fun _ _ _ _=>rfl
theorem bW(oz az:Int)(o:Nat)(ho:oz=(o:Int))(W0:World){LZ:List (Nat×Obj)}(b:Nat)(s:PS)(ao:Option Addr)(cap:Nat)(LP:List (Nat×Obj))(w:World)(hm:s.n<900000)(hL0:Kn (b::keys LP) w w ((b,.cells #[.slice ao s.n cap,.int .i64 (s.i:Int),.int .i64 (s.e:Int)] 81 (0,0))::LP))(hM:MkQ W0 LZ w b s (.slice ao s.n cap) LP):
  Calls Tryz.prog 66 #[.pointer (some ⟨b,0,none⟩),.int .i64 oz,.int .i64 az] w (fun e w'=>∃(a2:Option Addr) (c2:Nat) (LP2:List (Nat×Obj)),e=.returned (.tuple #[])/\Kn (b::keys LP) w w' ((b,.cells #[.slice a2 (s.op o az).n c2,.int .i64 ((s.op o az).i:Int),.int .i64 ((s.op o az).e:Int)] 81 (0,0))::LP2)/\Hid (MkQ W0 LZ w' b ((s.op o az)) (.slice a2 (s.op o az).n c2) LP2)):=by
 have HC:=yh (fun W hL (hM:MkQ W0 LZ W b s (.slice ao s.n cap) LP)=>gk W0 b s ao cap LP W {op:=o,a:=az} oz az 0 ⟨#[]⟩ (.slice none 0 0) ho rfl rfl rfl dr hm hL hM.w)
 have HM:=yh hM
 have HWB:=yh hL0
 have hL:=hL0
 clear hL0 hM hm ho
 have hF:=hL.fx
 go_enter Tryz.func66,Tryz.ntmps66
 go_wp2_with (first|(with_reducible refine zS ?_;intro W hL hF)|(go_at_call 30;refine aj ?_;clear hF hL;intro W hL;have hF:=hL.fx;have hS:=Kn.selfS (A:=[]) hL;have hN:=HM.out.next hL;(with_reducible refine(HC.out _ hS hN).mono ?_);clear hN;rintro e W ⟨ao,cap,LP,rfl,hb,HM⟩;have hJ:=Kn.mkr (A:=[]) hL hb;have HWB2:=yh (Kn.tail0 HWB.out hJ);clear HWB hL;have HWB:=HWB2;clear HWB2 hS hb hJ;clear hF;have hL:=Kn.self0q HWB.out;have hF:=hL.fx))
 refine bodyPost_end (by simp[results,Tryz.results66,go_sem, *];try rfl) rfl ?_
 exact⟨ao,cap,LP,rfl,HWB.out,HM⟩
theorem iu(W0:World){LZ:List (Nat×Obj)}(b:Nat)(s:PS)(ao:Option Addr)(cap:Nat)(LP:List (Nat×Obj))(w:World)(x:Ins)(oz az bz:Int)(sz9:ByteArray)(wv:Value)(ho:oz=(x.op:Int))(ha:az=x.a)(hbz:bz=x.b)(hs9:x.s=sz9.data.toList)(hw:PRow (b::keys LP) w wv x.w)(hm:s.n<900000)(hL0:Kn (b::keys LP) w w ((b,.cells #[.slice ao s.n cap,.int .i64 (s.i:Int),.int .i64 (s.e:Int)] 81 (0,0))::LP))(hM:MkQ W0 LZ w b s (.slice ao s.n cap) LP):
  Calls Tryz.prog 91 #[.pointer (some ⟨b,0,none⟩),.agg #[.int .i64 oz,.int .i64 az,.int .i64 bz,.string sz9,wv]] w (fun e w'=>∃(a2:Option Addr) (c2:Nat) (LP2:List (Nat×Obj)) (p9 q9:Nat),e=.returned (.func (.func 106) #[] #[.pointer (some ⟨p9,0,none⟩),.pointer (some ⟨q9,0,none⟩)])/\Kn (b::keys LP) w w' ((b,.cells #[.slice a2 (s.add x).n c2,.int .i64 ((s.add x).i:Int),.int .i64 ((s.add x).e:Int)] 81 (0,0))::LP2)/\Hid (MkQ W0 LZ w' b ((s.add x)) (.slice a2 (s.add x).n c2) LP2)/\Hid (CelY (b::keys LP2) w' p9 [.pointer (some ⟨b,0,none⟩)])/\Hid (CelY (b::keys LP2) w' q9 [.int .i64 (s.n:Int)])):=by
 obtain⟨ap,np,cp,rfl⟩:∃ap np cp,wv=.slice ap np cp:=by
  obtain⟨ap,cp,hv,_⟩:=id hw;exact⟨ap,_,cp,hv⟩
 have hmf:=BZ
 have HW:=yh hw
 have HC:=yh (fun W hw hL (hM:MkQ W0 LZ W b s (.slice ao s.n cap) LP)=>gk W0 b s ao cap LP W x oz az bz sz9 (.slice ap np cp) ho ha hbz hs9 hw hm hL hM.w)
 have HM:=yh hM
 have HWB:=yh hL0
 have hL:=hL0
 clear hL0 hM hm ho hw ha hbz hs9
 have hF:=hL.fx
 go_enter Tryz.func91,Tryz.ntmps91
 go_wp2_with (first|(with_reducible refine zS ?_;intro W hL hF)|(go_at_call 30;refine aj ?_;clear hF hL;intro W hL;have hF:=hL.fx;have hS:=Kn.selfS (A:=[_,_]) hL;have hN:=HM.out.next hL;(with_reducible refine(HC.out _ (HW.out.at_ hL) hS hN).mono ?_);clear hN;rintro e W ⟨ao,cap,LP,rfl,hb,HM⟩;have hJ:=Kn.mkr (A:=[_,_]) hL hb;have HP:=yh (wU (A:=[_,_]) hL m1 hb);have HWB2:=yh (Kn.tail0 HWB.out hJ);clear HWB hL;have HWB:=HWB2;clear HWB2 hS hb hJ;clear hF;have hL:=Kn.self0q HWB.out;have hF:=hL.fx))
 refine zF ?_;intro W hL hF
 refine bodyPost_ret (by simp[results,Tryz.results91,go_sem, *];try rfl) rfl ?_
 exact⟨ao,cap,LP,_,_,rfl,Kn.drop1 (HWB.out.tail0 hL),yh (HM.out.next hL),yh (HP.out.mk2 hL.drop1),yh (dO (A:=[_]) hL m0)⟩
theorem eQ(l:List (Ins×Value)):(l.flatMap cJ).length=l.length*5:=by
 induction l with
 |nil=>rfl
 |cons p r ih=>rw[List.flatMap_cons,List.length_append,ih,List.length_cons];simp[cJ];omega
theorem dC(x:Ins×Value):(cJ x).length=5:=rfl
theorem jX:∀(l:List (Ins×Value)) (k c:Nat) (x:Ins×Value) (u:Value),l[k]? =some x->(cJ x)[c]? =some u->(l.flatMap cJ)[k*5+c]? =some u
 | [],k,c,x,u,h,_=>by simp at h
 |y::l,0,c,x,u,h,h2=>by
  obtain rfl:y=x:=Option.some.inj h;rw[List.flatMap_cons,Nat.zero_mul,Nat.zero_add,List.getElem?_append_left (List.getElem?_eq_some_iff.1 h2).1];exact h2
 |y::l,k+1,c,x,u,h,h2=>by
  rw[List.flatMap_cons,List.getElem?_append_right (by rw[dC];omega),dC,show(k+1)*5+c-5=k*5+c by omega];exact jX l k c x u h h2
theorem lr(f:Ins->Ins)(c:Nat)(u:Value)(hc:c<5)(hf:∀(x:Ins) v,cJ (f x,v)=(cJ (x,v)).set c u):∀(l:List (Ins×Value)) (k:Nat),k<l.length->(l.flatMap cJ).set (k*5+c) u=(l.modify k fun x=>(f x.1,x.2)).flatMap cJ
 | [],k,h=>by simp at h
 |y::l,0,h=>by
  rw[List.flatMap_cons,Nat.zero_mul,Nat.zero_add,List.set_append_left _ _ (by rw[dC];exact hc)];show _=List.flatMap cJ ((f y.1,y.2)::l)
  rw[List.flatMap_cons,hf]
 |y::l,k+1,h=>by
  rw[List.flatMap_cons,List.set_append_right _ _ (by rw[dC];omega),dC,show(k+1)*5+c-5=k*5+c by omega,lr f c u hc hf l k (by simpa using h),List.modify_succ_cons,List.flatMap_cons]
theorem nh(f:Ins->Ins):∀(l:List (Ins×Value)) (k:Nat),(l.modify k fun x=>(f x.1,x.2)).map (·.1)=(l.map (·.1)).modify k f
 | [],k=>by simp
 |y::l,0=>rfl
 |y::l,k+1=>by simp only[List.modify_succ_cons,List.map_cons,nh f l k]
theorem ni(f:Ins->Ins):∀(l:List (Ins×Value)) (k:Nat) (x:Ins×Value),x∈(l.modify k fun x=>(f x.1,x.2))->∃y∈l,x.2=y.2/\(x.1=y.1\/x.1=f y.1)
 | [],k,x,h=>by simp at h
 |y::l,0,x,h=>by
  rcases List.mem_cons.1 (show x∈(f y.1,y.2)::l from h)with rfl|h
  ·exact⟨y,m0,rfl,.inr rfl⟩
  ·exact⟨x,List.mem_cons_of_mem _ h,rfl,.inl rfl⟩
 |y::l,k+1,x,h=>by
  rw[List.modify_succ_cons]at h;rcases List.mem_cons.1 h with rfl|h
  ·exact⟨x,m0,rfl,.inl rfl⟩
  ·obtain⟨z,h1,h2,h3⟩:=ni f l k x h
   exact⟨z,List.mem_cons_of_mem _ h1,h2,h3⟩
theorem wV(f:Ins->Ins)(c:Nat)(u:Value)(hc:c<5)(hf:∀(x:Ins) v,cJ (f x,v)=(cJ (x,v)).set c u)(hw:∀x,(f x).w=x.w){W0 w W:World}{b g k cap i2:Nat}{s:PS}{cur:Array Value}{cv:List (Ins×Value)}{L LZ:List (Nat×Obj)}(h1:cv.map (·.1)=s.c)(hk:k<cv.length)(hr:RowB 5 cur cap cv.length (cv.flatMap cJ))(h3:∀x∈cv,PRow (b::g::keys LZ) w x.2 x.1.w)(h4:Below W0.heap.size W0 w)(h5:W0.heap.size<=b)(h6:W0.heap.size<=g)(h6z:∀p∈LZ,W0.heap.size<=p.1)(hz:∀p∈LZ,∃c t,p.2=.cells c t (0,0)/\t≠118)(h7:i2<=s.n+1)(hK:Kn (b::g::keys LZ) w W L):
  MkQ0 W0 LZ W b ⟨s.c.modify k f,i2,s.e⟩ (.slice (some ⟨g,0,none⟩) s.n cap) ((g,.cells (cur.setIfInBounds (k*5+c) u) 31 (0,0))::LZ):=by
 have hl:(cv.modify k fun x=>(f x.1,x.2)).length=cv.length:=by simp
 have hcl:cv.length=s.n:=by unfold PS.n;rw[<- h1,List.length_map]
 refine⟨cv.modify k fun x=>(f x.1,x.2),by rw[nh,h1],⟨[_],rfl,.inr ⟨g,cap,_,rfl,by rw[hl,hcl],?_⟩,hz⟩,fun x hx=>?_,fE h4 hK ?_,h5,?_,by simpa[PS.n]using h7⟩
 ·rw[hl]
  exact⟨by rw[Array.size_setIfInBounds];exact hr.size,hr.le,hr.capm,by rw[Array.toList_setIfInBounds,List.take_set,hr.take,lr f c u hc hf cv k hk],by rw[eQ,hl]⟩
 ·obtain⟨y,h8,h9,h10⟩:=ni f cv k x hx
  have:=RowY.kn (h3 y h8) hK (fun z hz=>.inl hz);show RowY 3 (b::g::keys LZ) W x.2 (x.1.w.map ptc)
  rw[h9];rcases h10 with e|e
  ·rw[e];exact this
  ·rw[e,hw];exact this
 ·intro y hy
  simp only[List.mem_cons]at hy;rcases hy with rfl|rfl|hy
  ·exact h5
  ·exact h6
  ·obtain⟨p,hp,rfl⟩:=List.mem_map.1 hy
   exact h6z p hp
 ·intro p hp
  rcases List.mem_cons.1 hp with rfl|hp
  ·exact h6
  ·exact h6z p hp
theorem dX(p9 q9 k:Nat)(W0:World){LZ:List (Nat×Obj)}(b:Nat)(s:PS)(ao:Option Addr)(cap:Nat)(LP:List (Nat×Obj))(w:World)(hk:k<s.n)(hm:s.n<900000)(hP:CelY (b::keys LP) w p9 [.pointer (some ⟨b,0,none⟩)])(hQ:CelY (b::keys LP) w q9 [.int .i64 (k:Int)])(hL0:Kn (b::keys LP) w w ((b,.cells #[.slice ao s.n cap,.int .i64 (s.i:Int),.int .i64 (s.e:Int)] 81 (0,0))::LP))(hM:MkQ W0 LZ w b s (.slice ao s.n cap) LP):
  Calls Tryz.prog 106 #[.pointer (some ⟨p9,0,none⟩),.pointer (some ⟨q9,0,none⟩)] w (fun e w'=>∃(a2:Option Addr) (c2:Nat) (LP2:List (Nat×Obj)),e=.returned (.tuple #[])/\Kn (b::keys LP) w w' ((b,.cells #[.slice a2 (s.here k).n c2,.int .i64 ((s.here k).i:Int),.int .i64 ((s.here k).e:Int)] 81 (0,0))::LP2)/\Hid (MkQ W0 LZ w' b ((s.here k)) (.slice a2 (s.here k).n c2) LP2)):=by
 obtain⟨cv,h1,⟨LC,rfl,h2,hz⟩,h3,h4,h5,h6,h7⟩:=hM
 have hcl:cv.length=s.n:=by unfold PS.n;rw[<- h1,List.length_map]
 have hp0:=hP.2.2 0 _ rfl
 have hp1:=hP.2.1
 have hp2:=hP.1
 have hq0:=hQ.2.2 0 _ rfl
 have hq1:=hQ.2.1
 have hq2:=hQ.1
 rw[cV]
 rcases h2 with⟨_,_,h0,_⟩|⟨g,cap2,cur,rfl,hv,hr⟩
 ·omega
 ·injection hv with hv1 hv2 hv3
  subst hv1 hv3;change Kn (b::g::keys LZ) w w (_::_::LZ)at hL0;change p9∉b::g::keys LZ at hp2;change q9∉b::g::keys LZ at hq2;obtain⟨x0,hx0⟩:∃x,cv[k]? =some x:=⟨_,List.getElem?_eq_getElem (by omega)⟩;have hcu:=hr.get (jX cv k 1 x0 _ hx0 rfl);have HMS:=yh (show ∀(W:World) (L:List (Nat×Obj)),Kn (b::g::keys LZ) w W L->MkQ0 W0 LZ W b ⟨s.c.modify k (·.setA s.n),s.i,s.e⟩ (.slice (some ⟨g,0,none⟩) s.n cap) ((g,.cells (cur.setIfInBounds (k*5+1) (.int .i64 (s.n:Int))) 31 (0,0))::LZ)from fun W L hK=>wV (·.setA s.n) 1 (.int .i64 (s.n:Int)) (by omega) (fun x v=>rfl) (fun x=>rfl) h1 (by omega) hr h3 h4 h5 (h6 _ m0) (fun p hp=>h6 p (List.mem_cons_of_mem _ hp)) hz (by omega) hK);have HI:=yh h7;simp only[List.mem_cons,not_or]at hp2 hq2;obtain⟨n,hn⟩:∃n,s.n=n:=⟨_,rfl⟩;obtain⟨iz,hiz⟩:∃z:Int,(s.i:Int)=z:=⟨_,rfl⟩;obtain⟨ez,hez⟩:∃z:Int,(s.e:Int)=z:=⟨_,rfl⟩;have hiz2:((s.here k).i:Int)=iz:=hiz;have hez2:((s.here k).e:Int)=ez:=hez;have hst:PS.mk (s.c.modify k (·.setA (s.n:Int))) s.i s.e=s.here k:=rfl;have HIN:=yh (show(s.here k).i<=(s.here k).n from by rw[cV];exact h7);rw[hst,hn]at HMS;rw[hn]at hk hm hL0 |-
  rw[hiz,hez]at hL0;rw[hiz2,hez2];have hL:=hL0;clear hL0 h1 h3 h4 h5 h6 h7 hst hcl hP hQ hr hx0 hz;have hF:=hL.fx;go_enter Tryz.func106,Tryz.ntmps106;go_wp2_with (first|(with_reducible refine zS ?_;intro W hL hF)|((with_reducible refine af 0 ?_);refine zX [0,1,2,3,4,5,6,7,8,9,10,11,12] [12] ?_ sR;clear hF hL;intro ι F hne hC hG;(repeat(first|(refine cS ?_)|((first|refine cF hC ?_|refine cP ?_);intro K hK;go_big_quiet_op;go_big_quiet_on)|(refine cN ?_;intro W hL;have hF:=hL.fx;go_wp2;refine ai ?_;(first|(refine bO _ (by rfl) ?_;clear hL hF hC hG;intro ι F hne hC hFF;have hG:=fun n=>(hFF n).fx;clear hFF)|(refine a_ _ (by repeat' (first|(with_reducible exact List.nil_sublist _)|(with_reducible exact List.Sublist.refl _)|(with_reducible apply List.Sublist.cons_cons)|(with_reducible apply List.Sublist.cons))) ?_;clear hL)))));refine zN ?_;clear hC hG;intro W hL hF))
  refine zF ?_;intro W hL hF;refine bodyPost_end (by simp[results,Tryz.results106,go_sem, *];try rfl) rfl ?_;exact⟨_,_,_,rfl,hL,yh ((HMS.out _ _ hL).s HIN.out)⟩
theorem wW{w:World}{ao:Option Addr}{n cap:Nat}{ps:List Prt}(h:RowK 3 w (.slice ao n cap) (ps.map ptc)){k:Nat}{p:Prt}(hp:ps[k]? =some p):
  ∃g o,ao=some ⟨g,o,none⟩/\g<w.heap.size/\w.cell? ⟨g,o+k*3,none⟩=some (.int .i64 p.k)/\w.cell? ⟨g,o+k*3+1,none⟩=some (bs p.t)/\w.cell? ⟨g,o+k*3+2,none⟩=some (.bool p.q):=by
 obtain⟨ao',cap',hv,hc⟩:=h
 injection hv with h1 h2 h3
 subst h1
 obtain⟨g,o,hg,h4⟩:=hc k (ptc p) (by simp[hp])
 have h0:=h4 0 _ rfl
 exact⟨g,o,hg,aI h0,h0,h4 1 _ rfl,h4 2 _ rfl⟩
theorem B0(v1 v2:Value)(ps:List Prt)(hn:ps.length<=100000)(w:World)(h1:RowK 3 w v1 (ps.map ptc))(h2:RowK 3 w v2 (ps.map ptc)):Calls Tryz.prog 34 #[v1,v2] w fun e w'=>e=.returned (.bool true)/\Below w.heap.size w w':=by
 obtain⟨a1,c1,rfl,_⟩:=id h1
 obtain⟨a2,c2,rfl,_⟩:=id h2
 rw[List.length_map]at h1 h2 |-
 obtain⟨n,hn1⟩:∃n,ps.length=n:=⟨_,rfl⟩
 rw[hn1]at h1 h2 hn |-
 have hL:Kn [] w w []:=Kn.refl [] w;have hF:=hL.fx;go_enter Tryz.func34,Tryz.ntmps34
 go_wp2
 go_loopw [5] (fun i wr=>∃k:Nat,k<=n/\i=.int .i64 k/\Kn [] w wr []) (fun i _=>n-(intOf i).toNat)
 case atStart=>exact⟨0,by omega,rfl,hL⟩
 case round=>
  obtain⟨k,hk,rfl,hK⟩:=hrel;clear hL hF;have hL:=hK;clear hK;have hF:=hL.fx;by_cases hlt:k<n
  ·obtain⟨p,hp⟩:∃p,ps[k]? =some p:=⟨_,List.getElem?_eq_getElem (by omega)⟩
   obtain⟨g1,o1,rfl,hg1,c10,c11,c12⟩:=wW h1 hp;obtain⟨g2,o2,rfl,hg2,c20,c21,c22⟩:=wW h2 hp;obtain⟨u,hu⟩:∃u:ByteArray,bs p.t=.string u:=⟨_,rfl⟩;rw[hu]at c11 c21;clear hu;go_wp2_with ((with_reducible refine af 6 ?_);refine zQ ?_;clear hF hL;intro ι F hne hG;(repeat go_big_quiet_step (fail));refine wpQuiet_nil ?_;clear hG;intro W hL hF)
   exact⟨⟨k+1,by omega,by go_num,hL⟩,by simp[intOf];omega⟩
  ·go_wp2
   refine bodyPost_ret (by simp[results,Tryz.results34,go_sem, *];try rfl) rfl ?_;exact⟨rfl,hL.below0⟩
end Go.Proofs.YtgboffbbpmileaaGreatDoor
