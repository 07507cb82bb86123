/- Lemmas and walks for the law VLawPSound (part 12). -/
import Derived.Test.YtgboffbbpmileaaGreatDoorPx11
import Derived.Test.YtgboffbbpmileaaGreatDoorProg
import Derived.WalkKit
import Derived.Handy
import Derived.Deep.Light
import Derived.WalkSmall
import Derived.StillTailTactics
import Derived.Lib.Hide
set_option maxRecDepth 20000
set_option maxHeartbeats 4000000
set_option linter.unusedVariables false
set_option linter.unusedSimpArgs false
namespace Go.Proofs.YtgboffbbpmileaaGreatDoor
open Go Go.RowKit
structure Stt where
 fr:ab:=[]
 q:Int:=0
def Stt.push(s:Stt)(k:UInt8):Stt:=⟨s.fr++[k],s.q⟩
inductive Stp:Stt->Ins->Option Stt->Option Stt->Prop where
 |plain (s:Stt) (x:Ins) (h:x.op=0\/x.op=4\/x.op=5\/x.op=8\/x.op=14\/x.op=15\/x.op=25\/x.op=22):Stp s x (some s) none
 |jump (s:Stt) (x:Ins) (h:x.op=1):Stp s x none (some s)
 |cond (s:Stt) (x:Ins) (h:x.op=2\/x.op=3\/x.op=13):Stp s x (some s) (some s)
 |exit (s:Stt) (x:Ins) (h:x.op=16):Stp s x none none
 |ret (x:Ins) (h:x.op=23):Stp {} x none none
 |push (s:Stt) (x:Ins) (k:UInt8) (h:(x.op=6/\k=97)\/(x.op=9/\k=115)\/(x.op=19/\k=99)):Stp s x (some (s.push k)) none
 |pop (s:Stt) (x:Ins) (k:UInt8) (h:(x.op=12/\k=97)\/(x.op=11/\k=115)\/(x.op=21/\k=99)):Stp (s.push k) x (some s) none
 |top (s:Stt) (x:Ins) (k:UInt8) (h:(x.op=7/\k=97)\/(x.op=10/\k=115)):Stp (s.push k) x (some (s.push k)) none
 |mtch (s:Stt) (x:Ins) (h:x.op=20):Stp (s.push 99) x (some (s.push 99)) (some (s.push 99))
 |for_ (s:Stt) (x:Ins) (h:x.op=17):Stp (s.push 97) x (some (s.push 102)) none
 |next(s:Stt) (x:Ins) (h:x.op=18):Stp (s.push 102) x (some (s.push 102)) (some s)
 |up (s:Stt) (x:Ins) (h:x.op=24/\x.a=1):Stp s x (some ⟨s.fr,s.q+1⟩) none
 |dn (s:Stt) (x:Ins) (h:x.op=24/\x.a= -1):Stp ⟨s.fr,s.q+1⟩ x (some s) none
theorem Stp.op{s:Stt}{x:Ins}{nx nm:Option Stt}(h:Stp s x nx nm):x.op<26:=by
 cases h<;>omega
def Rm(N:Nat)(s:Stt)(n:Nat):Prop:=0<=s.q/\s.q+n<=N/\s.fr.length+n<=N
theorem Rm.le{N n m:Nat}{s:Stt}(h:Rm N s n)(hm:m<=n):Rm N s m:=⟨h.1,by have:=h.2.1;omega,by have:=h.2.2;omega⟩
theorem Rm.push{N n:Nat}{s:Stt}(k:UInt8)(h:Rm N s (1+n)):Rm N (s.push k) n:=by
 obtain⟨h1,h2,h3⟩:=h
 exact⟨h1,by show s.q+n<=N;omega,by grind[Stt.push]⟩
theorem Rm.pop{N n:Nat}{s:Stt}{k:UInt8}(h:Rm N (s.push k) n):Rm N s n:=by
 obtain⟨h1,h2,h3⟩:=h
 simp only[Stt.push,List.length_append,List.length_singleton]at h3
 exact⟨h1,h2,by omega⟩
theorem Rm.up{N n:Nat}{s:Stt}(h:Rm N s (1+n)):Rm N ⟨s.fr,s.q+1⟩ n:=by
 obtain⟨h1,h2,h3⟩:=h
 exact⟨by grind,by grind,by grind⟩
theorem Rm.nil{N n:Nat}{s:Stt}(h:Rm N s n):Rm N {} n:=by
 obtain⟨h1,h2,h3⟩:=h
 exact⟨Int.le_refl _,by grind,by grind⟩
def At(p:Nat)(L:List Stt)(E:List (Nat×Stt))(T:Int)(u:Stt):Prop:=(∃j:Nat,T=((p+j:Nat):Int)/\L[j]? =some u)\/∃n:Nat,T=(n:Int)/\(n,u)∈E
def Fr(N p:Nat)(c:List Ins)(s q:Stt)(M E:List (Nat×Stt)):Prop:=
 ∃ls:List Stt,ls.length=c.length/\(∀m∈M,∃j,m.1=p+j/\(ls++[q])[j]? =some m.2)/\(ls++[q])[0]? =some s/\(∀t∈ls,Rm N t 0)/\
  ∀(k:Nat) (x:Ins) (t:Stt),c[k]? =some x->ls[k]? =some t->∃nx nm,Stp t x nx nm/\(∀u,nx=some u->(ls++[q])[k+1]? =some u)/\(∀u,nm=some u->At p (ls++[q]) E x.a u)/\(x.op=22->At p (ls++[q]) E x.a {})
theorem Fr.seq{N p:Nat}{c d:List Ins}{s t q:Stt}{M1 M2 E1 E2:List (Nat×Stt)}(h1:Fr N p c s t M1 E1)(h2:Fr N (p+c.length) d t q M2 E2):Fr N p (c++d) s q (M1++M2) (E1++E2):=by
 obtain⟨l1,a1,a2,a3,a4,a5⟩:=h1
 obtain⟨l2,b1,b2,b3,b4,b5⟩:=h2
 have k1:∀(j:Nat) (u:Stt),(l1++[t])[j]? =some u->((l1++l2)++[q])[j]? =some u:=fun j u hj=>by
  grind
 have k2:∀(j:Nat) (u:Stt),(l2++[q])[j]? =some u->((l1++l2)++[q])[c.length+j]? =some u:=fun j u hj=>by
  rw[List.append_assoc,List.getElem?_append_right (by omega),a1,Nat.add_sub_cancel_left];exact hj
 refine⟨l1++l2,by grind,fun m hm=>?_,k1 0 s a3,fun u hu=>?_,fun k x u hx hu=>?_⟩
 ·grind
 ·grind
 ·by_cases hk:k<c.length
  ·rw[List.getElem?_append_left hk]at hx
   rw[List.getElem?_append_left (by omega)]at hu;obtain⟨nx,nm,e1,e2,e3,e4⟩:=a5 k x u hx hu;have e5:∀T v,At p (l1++[t]) E1 T v->At p ((l1++l2)++[q]) (E1++E2) T v:=fun T v h=>by
    rcases h with⟨j,h1,h2⟩|⟨n,h1,h2⟩
    ·exact .inl ⟨j,h1,k1 j v h2⟩
    ·exact .inr ⟨n,h1,List.mem_append_left _ h2⟩
   exact⟨nx,nm,e1,fun v hv=>k1 _ v (e2 v hv),fun v hv=>e5 _ _ (e3 v hv),fun h=>e5 _ _ (e4 h)⟩
  ·rw[List.getElem?_append_right (by omega)]at hx
   rw[List.getElem?_append_right (by omega),a1]at hu;obtain⟨nx,nm,e1,e2,e3,e4⟩:=b5 (k-c.length) x u hx hu;have e5:∀T v,At (p+c.length) (l2++[q]) E2 T v->At p ((l1++l2)++[q]) (E1++E2) T v:=fun T v h=>by
    rcases h with⟨j,h1,h2⟩|⟨n,h1,h2⟩
    ·exact .inl ⟨c.length+j,by omega,k2 j v h2⟩
    ·exact .inr ⟨n,h1,List.mem_append_right _ h2⟩
   refine⟨nx,nm,e1,fun v hv=>?_,fun v hv=>e5 _ _ (e3 v hv),fun h=>e5 _ _ (e4 h)⟩;have:=k2 _ v (e2 v hv);rwa[show c.length+(k-c.length+1)=k+1 by omega]at this
theorem Fr.res{N p:Nat}{c:List Ins}{s q:Stt}{M E:List (Nat×Stt)}(h:Fr N p c s q M E)(M' E':List (Nat×Stt))(hM:∀m∈M',m∈M)(hE:∀e∈E,e∈M\/e∈E'):Fr N p c s q M' E':=by
 obtain⟨ls,a1,a2,a3,a4,a5⟩:=h
 have e5:∀T v,At p (ls++[q]) E T v->At p (ls++[q]) E' T v:=fun T v h=>by
  rcases h with h|⟨n,h1,h2⟩
  ·exact .inl h
  ·rcases hE _ h2 with h3|h3
   ·obtain⟨j,h4,h5⟩:=a2 _ h3
    exact .inl ⟨j,by omega,h5⟩
   ·exact .inr ⟨n,h1,h3⟩
 exact⟨ls,a1,fun m hm=>a2 m (hM m hm),a3,a4,fun k x t hx ht=>by
  grind⟩
theorem Fr.ends{N p:Nat}{c:List Ins}{s q:Stt}{M E:List (Nat×Stt)}(h:Fr N p c s q M E):Fr N p c s q ((p,s)::(p+c.length,q)::M) E:=by
 obtain⟨ls,a1,a2,a3,a4,a5⟩:=h
 refine⟨ls,a1,fun m hm=>?_,a3,a4,a5⟩
 rcases List.mem_cons.1 hm with rfl|hm
 ·grind
 rcases List.mem_cons.1 hm with rfl|hm
 ·grind
 grind
theorem Fr.nil{N p:Nat}{s:Stt}:Fr N p [] s s [] []:=⟨[],rfl,fun m hm=>(by cases hm),rfl,fun t ht=>(by cases ht),fun k x t hx=>(by grind)⟩
theorem Fr.one{N p:Nat}{x:Ins}{s q:Stt}{nx nm:Option Stt}{E:List (Nat×Stt)}(h:Stp s x nx nm)(hr:Rm N s 0)(hq:∀u,nx=some u->u=q)(hm:∀u,nm=some u->∃n:Nat,x.a=(n:Int)/\(n,u)∈E)(hd:x.op=22->∃n:Nat,x.a=(n:Int)/\(n,{})∈E):Fr N p [x] s q [] E:=by
 refine⟨[s],rfl,fun m hm=>(by cases hm),rfl,fun t ht=>by grind,fun k y t hy ht=>?_⟩
 obtain rfl:k=0:=by
  grind
 obtain rfl:x=y:=by grind
 obtain rfl:s=t:=by grind
 exact⟨nx,nm,h,fun u hu=>by grind,fun u hu=>.inr (hm u hu),fun h=>.inr (hd h)⟩
def FlK(f:K)(s q:Stt):Prop:=∀(N p i n:Nat),Rm N s ((f p i).length+n)->Fr N p (f p i) s q [] []/\Rm N q n
theorem FlK.seq{f g:K}{s t q:Stt}(h1:FlK f s t)(h2:FlK g t q):FlK (f.seq g) s q:=fun N p i n hr=>by
 simp only[K.seq,List.length_append]at hr |-
 obtain⟨a1,a2⟩:=h1 N p i _ (hr.le (m:=(f p i).length+((g (p+(f p i).length) (i+itm (f p i))).length+n)) (by omega))
 obtain⟨b1,b2⟩:=h2 N (p+(f p i).length) (i+itm (f p i)) n a2
 exact⟨a1.seq b1,b2⟩
theorem FlK.nil{s:Stt}:FlK K.nil s s:=fun N p i n hr=>⟨Fr.nil,hr.le (by omega)⟩
theorem FlK.of{x:Ins}{s q:Stt}(h:Stp s x (some q) none)(hd:x.op≠22)(hr:∀N n,Rm N s (1+n)->Rm N q n):FlK (K.one x) s q:=fun N p i n hn=>by
 have hn:Rm N s (1+n):=hn
 exact⟨Fr.one h (hn.le (Nat.zero_le _)) (fun u hu=>(Option.some.inj hu).symm) (fun u hu=>(by cases hu)) (fun h=>absurd h hd),hr N n hn⟩
theorem FlK.plain{x:Ins}{s:Stt}(h:x.op=0\/x.op=4\/x.op=5\/x.op=8\/x.op=14\/x.op=15\/x.op=25):FlK (K.one x) s s:=
 .of (.plain s x (by omega)) (by omega) (fun N n h=>h.le (by omega))
theorem FlK.push{x:Ins}{s:Stt}(k:UInt8)(h:(x.op=6/\k=97)\/(x.op=9/\k=115)\/(x.op=19/\k=99)):FlK (K.one x) s (s.push k):=
 .of (.push s x k h) (by omega) (fun N n h=>h.push k)
theorem FlK.pop{x:Ins}{s:Stt}(k:UInt8)(h:(x.op=12/\k=97)\/(x.op=11/\k=115)\/(x.op=21/\k=99)):FlK (K.one x) (s.push k) s:=
 .of (.pop s x k h) (by omega) (fun N n h=>h.pop.le (by omega))
theorem FlK.top{x:Ins}{s:Stt}(k:UInt8)(h:(x.op=7/\k=97)\/(x.op=10/\k=115)):FlK (K.one x) (s.push k) (s.push k):=
 .of (.top s x k h) (by omega) (fun N n h=>h.le (by omega))
theorem FlK.quiet{f:K}{s:Stt}(h:FlK f ⟨s.fr,s.q+1⟩ ⟨s.fr,s.q+1⟩)(hs:0<=s.q):FlK (K.quiet f) s s:=
 (FlK.of (x:={op:=24,a:=1}) (.up s _ ⟨rfl,rfl⟩) (by decide) (fun N n h=>h.up)).seq (h.seq (FlK.of (x:={op:=24,a:=-1}) (.dn s _ ⟨rfl,rfl⟩) (by decide) (fun N n h=>by
  obtain⟨h1,h2,h3⟩:=h;simp only at h1 h2 h3;exact⟨hs,by omega,by omega⟩)))
theorem FlK.child{f:K}{s t:Stt}(kind:Int)(h:FlK f s t):FlK (K.child kind f) s s:=fun N p i n hr=>by
 simp only[K.child]at hr |-
 obtain⟨l,hl⟩:∃l,f (p+1) i=l:=⟨_,rfl⟩
 have h1:=h N (p+1) i 1
 rw[hl]at hr h1 |-
 simp only[List.length_cons,List.length_append,List.length_nil]at hr
 obtain⟨a1,a2⟩:=h1 (hr.le (by omega))
 have b0:Fr N p [({op:=13,a:=(p+1+l.length+1:Nat),b:=kind}:Ins)] s s [] [(p+1+l.length+1,s)]:=Fr.one (.cond s _ (.inr (.inr rfl))) (hr.le (Nat.zero_le _)) (fun u hu=>(Option.some.inj hu).symm) (fun u hu=>⟨_,rfl,by grind⟩) (fun h=>(by cases h))
 have b2:Fr N (p+1+l.length) [({op:=16}:Ins)] t s [] []:=Fr.one (.exit t _ rfl) (a2.le (Nat.zero_le _)) (fun u hu=>(by cases hu)) (fun u hu=>(by cases hu)) (fun h=>(by cases h))
 refine⟨((b0.seq (a1.seq b2)).ends).res [] [] (fun m hm=>(by cases hm)) (fun e he=>.inl ?_),hr.le (by omega)⟩
 grind
theorem FlK.over{f:K}{s:Stt}{o:Nat}(ho:o=2\/o=3)(h:FlK f s s):FlK (K.over o f) s s:=fun N p i n hr=>by
 simp only[K.over]at hr |-
 obtain⟨l,hl⟩:∃l,f (p+1) i=l:=⟨_,rfl⟩
 have h1:=h N (p+1) i 0
 rw[hl]at hr h1 |-
 simp only[List.length_cons]at hr
 obtain⟨a1,a2⟩:=h1 (hr.le (by omega))
 have b0:Fr N p [({op:=o,a:=(p+1+l.length:Nat)}:Ins)] s s [] [(p+1+l.length,s)]:=Fr.one (.cond s _ (by grind)) (hr.le (Nat.zero_le _)) (fun u hu=>(Option.some.inj hu).symm) (fun u hu=>⟨_,rfl,by grind⟩) (fun h=>by grind)
 refine⟨((b0.seq a1).ends).res [] [] (fun m hm=>(by cases hm)) (fun e he=>.inl ?_),hr.le (by omega)⟩
 grind
theorem FlK.alt{f g:K}{s:Stt}(h:FlK f s s)(h':FlK g s s):FlK (K.alt f g) s s:=fun N p i n hr=>by
 simp only[K.alt]at hr |-
 obtain⟨l,hl⟩:∃l,f (p+1) i=l:=⟨_,rfl⟩
 have h1:=h N (p+1) i 0
 rw[hl]at hr h1 |-
 obtain⟨m,hm⟩:∃m,g (p+1+l.length+1) (i+itm l)=m:=⟨_,rfl⟩
 have h2:=h' N (p+1+l.length+1) (i+itm l) 0
 rw[hm]at hr h2 |-
 simp only[List.length_cons,List.length_append]at hr
 obtain⟨a1,a2⟩:=h1 (hr.le (by omega))
 obtain⟨a3,a4⟩:=h2 (hr.le (by omega))
 have b0:Fr N p [({op:=3,a:=(p+1+l.length+1:Nat)}:Ins)] s s [] [(p+1+l.length+1,s)]:=Fr.one (.cond s _ (.inr (.inl rfl))) (hr.le (Nat.zero_le _)) (fun u hu=>(Option.some.inj hu).symm) (fun u hu=>⟨_,rfl,by grind⟩) (fun h=>(by cases h))
 have b2:Fr N (p+1+l.length) [({op:=1,a:=(p+1+l.length+1+m.length:Nat)}:Ins)] s s [] [(p+1+l.length+1+m.length,s)]:=Fr.one (.jump s _ rfl) (hr.le (Nat.zero_le _)) (fun u hu=>(by cases hu)) (fun u hu=>⟨_,rfl,by grind⟩) (fun h=>(by cases h))
 have b3:=(b0.seq (a1.seq (b2.seq (Fr.ends (by omega))))).ends
 refine⟨b3.res [] [] (fun m hm=>(by cases hm)) (fun e he=>.inl ?_),hr.le (by omega)⟩
 grind
theorem FlK.loop{f g:K}{s:Stt}{o:Nat}(ho:o=2\/o=3)(h:FlK f s s)(h':FlK g s s):FlK (K.loop o f g) s s:=fun N p i n hr=>by
 simp only[K.loop]at hr |-
 obtain⟨l,hl⟩:∃l,f p i=l:=⟨_,rfl⟩
 have h1:=h N p i 0
 rw[hl]at hr h1 |-
 obtain⟨m,hm⟩:∃m,g (p+l.length+1) (i+itm l)=m:=⟨_,rfl⟩
 have h2:=h' N (p+l.length+1) (i+itm l) 0
 rw[hm]at hr h2 |-
 simp only[List.length_cons,List.length_append,List.length_nil]at hr
 obtain⟨a1,a2⟩:=h1 (hr.le (by omega))
 obtain⟨a3,a4⟩:=h2 (hr.le (by omega))
 have b1:Fr N (p+l.length) [({op:=o,a:=(p+l.length+1+m.length+1:Nat)}:Ins)] s s [] [(p+l.length+1+m.length+1,s)]:=Fr.one (.cond s _ (by grind)) (hr.le (Nat.zero_le _)) (fun u hu=>(Option.some.inj hu).symm) (fun u hu=>⟨_,rfl,by grind⟩) (fun h=>by grind)
 have b2:Fr N (p+l.length+1+m.length) [({op:=1,a:=(p:Nat)}:Ins)] s s [] [(p,s)]:=Fr.one (.jump s _ rfl) (hr.le (Nat.zero_le _)) (fun u hu=>(by cases hu)) (fun u hu=>⟨_,rfl,by grind⟩) (fun h=>(by cases h))
 have b3:=(a1.seq (b1.seq ((show Fr N (p+l.length+[({op:=o,a:=(p+l.length+1+m.length+1:Nat)}:Ins)].length) m s s [] []from a3).seq b2))).ends
 refine⟨b3.res [] [] (fun m hm=>(by cases hm)) (fun e he=>.inl ?_),hr.le (by omega)⟩
 grind
theorem FlK.each{f:K}{s:Stt}(h:FlK f (s.push 102) (s.push 102)):FlK (K.each f) (s.push 102) s:=fun N p i n hr=>by
 simp only[K.each]at hr |-
 obtain⟨l,hl⟩:∃l,f (p+1) i=l:=⟨_,rfl⟩
 have h1:=h N (p+1) i 1
 rw[hl]at hr h1 |-
 simp only[List.length_cons,List.length_append,List.length_nil]at hr
 obtain⟨a1,a2⟩:=h1 (hr.le (by omega))
 have b0:Fr N p [({op:=18,a:=(p+1+l.length+1:Nat)}:Ins)] (s.push 102) (s.push 102) [] [(p+1+l.length+1,s)]:=Fr.one (.next s _ rfl) (hr.le (Nat.zero_le _)) (fun u hu=>(Option.some.inj hu).symm) (fun u hu=>⟨_,rfl,by grind⟩) (fun h=>(by cases h))
 have b2:Fr N (p+1+l.length) [({op:=1,a:=(p:Nat)}:Ins)] (s.push 102) s [] [(p,s.push 102)]:=Fr.one (.jump _ _ rfl) (a2.le (Nat.zero_le _)) (fun u hu=>(by cases hu)) (fun u hu=>⟨_,rfl,by grind⟩) (fun h=>(by cases h))
 refine⟨((b0.seq (a1.seq b2)).ends).res [] [] (fun m hm=>(by cases hm)) (fun e he=>.inl ?_),(hr.pop).le (by omega)⟩
 grind
theorem FlK.fn{f:K}{s:Stt}(nm:ab)(h:FlK f {} {}):FlK (K.fn nm f) s s:=fun N p i n hr=>by
 simp only[K.fn]at hr |-
 obtain⟨l,hl⟩:∃l,f (p+2) i=l:=⟨_,rfl⟩
 have h1:=h N (p+2) i 1
 rw[hl]at hr h1 |-
 simp only[List.length_cons,List.length_append,List.length_nil]at hr
 obtain⟨a1,a2⟩:=h1 ((hr.le (by omega)).nil)
 have b0:Fr N p [({op:=22,a:=(p+2:Nat),s:=nm}:Ins)] s s [] [(p+2,{})]:=Fr.one (.plain s _ (by simp)) (hr.le (Nat.zero_le _)) (fun u hu=>(Option.some.inj hu).symm) (fun u hu=>(by cases hu)) (fun h=>⟨_,rfl,List.mem_singleton.2 rfl⟩)
 have b1:Fr N (p+1) [({op:=1,a:=(p+2+l.length+1:Nat)}:Ins)] s {} [] [(p+2+l.length+1,s)]:=Fr.one (.jump _ _ rfl) (hr.le (Nat.zero_le _)) (fun u hu=>(by cases hu)) (fun u hu=>⟨_,rfl,by grind⟩) (fun h=>(by cases h))
 have b2:Fr N (p+2+l.length) [({op:=23}:Ins)] {} s [] []:=Fr.one (.ret _ rfl) (a2.le (Nat.zero_le _)) (fun u hu=>(by cases hu)) (fun u hu=>(by cases hu)) (fun h=>(by cases h))
 have b3:=(b0.seq (b1.seq ((show Fr N (p+1+[({op:=1,a:=(p+2+l.length+1:Nat)}:Ins)].length) l {} {} _ []from a1.ends).seq (show Fr N (p+1+[({op:=1,a:=(p+2+l.length+1:Nat)}:Ins)].length+l.length) _ _ _ _ _ from b2)))).ends
 refine⟨b3.res [] [] (fun m hm=>(by cases hm)) (fun e he=>.inl ?_),hr.le (by omega)⟩
 grind
theorem FlK.item{f:K}{s t:Stt}(more:Bool)(h:FlK f s t):FlK (K.item more f) s t:=fun N p i n hr=>by
 simp only[K.item]at hr |-
 obtain⟨l,hl⟩:∃l,f (p+1) (i+1)=l:=⟨_,rfl⟩
 have h1:=h N (p+1) (i+1) n
 rw[hl]at hr h1 |-
 simp only[List.length_cons]at hr
 obtain⟨a1,a2⟩:=h1 (hr.le (by omega))
 have b0:Fr N p [({op:=0,a:=(i+1:Nat),b:=if more=true then((i+1+itm l+1:Nat):Int)else 0}:Ins)] s s [] []:=Fr.one (.plain s _ (.inl rfl)) (hr.le (Nat.zero_le _)) (fun u hu=>(Option.some.inj hu).symm) (fun u hu=>(by cases hu)) (fun h=>(by cases h))
 exact⟨b0.seq a1,a2⟩
theorem FlK.saved{r f:K}{s:Stt}(b:Bool)(hr:FlK r (s.push 115) (s.push 115))(hf:∀s,0<=s.q->FlK f s s)(hs:0<=s.q):FlK (K.saved b r f) s s:=by
 unfold K.saved
 split
 ·grind
 ·exact(FlK.push 115 (.inr (.inl ⟨rfl,rfl⟩))).seq (hr.seq ((hf (s.push 115) hs).seq (FlK.pop 115 (.inr (.inl ⟨rfl,rfl⟩)))))
theorem FlK.ite{b:Prop}[Decidable b]{f g:K}{s q:Stt}(hf:FlK f s q)(hg:FlK g s q):FlK (if b then f else g) s q:=by grind
def FlW(w:Ws):Prop:=∀(u:Stt) (T N p i:Nat),0<=u.q->Rm N (u.push 99) (w.cm T p i).length->Fr N p (w.cm T p i) (u.push 99) (u.push 99) [] [(T,u.push 99)]
theorem wZ:FlW .nil:=fun u T N p i h0 hr=>Fr.nil.res [] _ (fun m hm=>(by cases hm)) (fun e he=>(by cases he))
theorem uD{g:Tg}{w:Wd}{r:Ws}(h1:∀s:Stt,0<=s.q->FlK w.c s s)(h2:FlW r):FlW (.cons g w r):=fun u T N p i h0 hr=>by
 rw[ib]at hr |-
 simp only[List.length_append,List.length_cons]at hr
 obtain⟨a1,a2⟩:=h1 (u.push 99) h0 N p i 0 (hr.le (by omega))
 have a3:=h2 u T N (p+(w.c p i).length+1) (i+itm (w.c p i)) h0 (hr.le (by omega))
 have b1:Fr N (p+(w.c p i).length) [({op:=20,a:=(T:Nat),w:=w.ps}:Ins)] (u.push 99) (u.push 99) [] [(T,u.push 99)]:=Fr.one (.mtch u _ rfl) (hr.le (Nat.zero_le _)) (fun v hv=>(Option.some.inj hv).symm) (fun v hv=>⟨_,rfl,by grind⟩) (fun h=>(by cases h))
 refine(a1.seq (b1.seq a3)).res [] _ (fun m hm=>(by cases hm)) (fun e he=>.inr ?_)
 grind
def FlA(l:Am):Prop:=(∀(u:Stt) (t:List Nat) (N p i:Nat),0<=u.q->t.length=l.nds.length->Rm N (u.push 99) (l.cw t p i).length->Fr N p (l.cw t p i) (u.push 99) (u.push 99) [] (t.map fun T=>(T,u.push 99)))/\
 ∀(s:Stt) (e N p i:Nat),0<=s.q->Rm N s (l.cb e p i).length->Fr N p (l.cb e p i) s s ((l.pos p i).map fun T=>(T,s)) [(e,s)]
theorem w_:FlA .nil:=⟨fun u t N p i _ ht _=>Fr.nil.res [] _ (fun m hm=>(by cases hm)) (fun e he=>(by cases he)),fun s e N p i _ _=>Fr.nil.res _ _ (fun m hm=>(by cases hm)) (fun e he=>(by cases he))⟩
theorem uE{w:Ws}{b:Tr}{r:Am}(h1:FlW w)(h2:∀s:Stt,0<=s.q->FlK b.c s s)(h3:FlA r):FlA (.cons w b r):=by
 obtain⟨h4,h5⟩:=h3
 refine⟨fun u t N p i h0 ht hr=>?_,fun s e N p i h0 hr=>?_⟩
 ·cases t with
  |nil=>grind[Am.nds]
  |cons x t=>
   simp only[Am.nds,List.length_cons,Nat.add_right_cancel_iff]at ht;rw[ic]at hr |-
   simp only[List.headD_cons,List.tail_cons,List.length_append]at hr |-
   have a1:=h1 u x N p i h0 (hr.le (by omega));have a2:=h4 u t N (p+(w.cm x p i).length) (i+itm (w.cm 0 p i)) h0 ht;rw[(fp w x 0 p i).1]at a2;have a3:=a2 (hr.le (by omega));rw[<- (fp w x 0 p i).1]at a3 |-
   exact a1.seq a3
 ·rw[ie]at hr |-
  simp only[List.length_append,List.length_cons]at hr;obtain⟨a1,a2⟩:=h2 s h0 N (p+1) i 0 (hr.le (by omega));have a3:=h5 s e N (p+1+(b.c (p+1) i).length+1) (i+itm (b.c (p+1) i)) h0 (hr.le (by omega));have b0:Fr N p [({op:=5}:Ins)] s s [] []:=Fr.one (.plain s _ (by simp)) (hr.le (Nat.zero_le _)) (fun u hu=>(Option.some.inj hu).symm) (fun u hu=>(by cases hu)) (fun h=>(by cases h));have b1:Fr N (p+1+(b.c (p+1) i).length) [({op:=1,a:=(e:Nat)}:Ins)] s s [] [(e,s)]:=Fr.one (.jump _ _ rfl) (hr.le (Nat.zero_le _)) (fun u hu=>(by cases hu)) (fun u hu=>⟨_,rfl,by grind⟩) (fun h=>(by cases h));have b3:=(b0.seq ((show Fr N (p+[({op:=5}:Ins)].length) _ _ _ _ _ from a1).seq (b1.seq a3))).ends;refine b3.res _ _ (fun m hm=>?_) (fun x hx=>.inr ?_)
  ·grind[Am.pos]
  grind
theorem uF{l:Am}(h:FlA l){s:Stt}(h0:0<=s.q):FlK (K.case l.cw l.cb l.pos) (s.push 99) s:=fun N p i n hr=>by
 obtain⟨h4,h5⟩:=h
 simp only[K.case]at hr |-
 obtain⟨n0,hn0⟩:∃z,(l.cw [] p i).length=z:=⟨_,rfl⟩
 obtain⟨j,hj⟩:∃z,i+itm (l.cw [] p i)=z:=⟨_,rfl⟩
 obtain⟨m,hm⟩:∃z,(l.cb 0 (p+n0+2) j).length=z:=⟨_,rfl⟩
 rw[hn0,hj,hm]at hr |-
 have hcb:(l.cb (p+n0+2+m) (p+n0+2) j).length=m:=by grind[lX]
 have hcw:(l.cw (l.pos (p+n0+2) j) p i).length=n0:=by grind[jk]
 simp only[List.length_append,List.length_cons,List.length_nil,hcb,hcw]at hr
 have a1:=h4 s (l.pos (p+n0+2) j) N p i h0 (qu _ _ _) (by rw[hcw];exact hr.le (by omega))
 have a2:=h5 (s.push 99) (p+n0+2+m) N (p+n0+2) j h0 (by rw[hcb];exact hr.le (by omega))
 have b1:Fr N (p+n0) [({op:=5}:Ins)] (s.push 99) (s.push 99) [] []:=Fr.one (.plain _ _ (by simp)) (hr.le (Nat.zero_le _)) (fun u hu=>(Option.some.inj hu).symm) (fun u hu=>(by cases hu)) (fun h=>(by cases h))
 have b2:Fr N (p+n0+1) [({op:=1,a:=(p+n0+2+m:Nat)}:Ins)] (s.push 99) (s.push 99) [] [(p+n0+2+m,s.push 99)]:=Fr.one (.jump _ _ rfl) (hr.le (Nat.zero_le _)) (fun u hu=>(by cases hu)) (fun u hu=>⟨_,rfl,by grind⟩) (fun h=>(by cases h))
 have b3:Fr N (p+n0+2+m) [({op:=21}:Ins)] (s.push 99) s [] []:=Fr.one (.pop s _ 99 (by simp)) (hr.le (Nat.zero_le _)) (fun u hu=>(Option.some.inj hu).symm) (fun u hu=>(by cases hu)) (fun h=>(by cases h))
 obtain⟨c1,hc1⟩:∃z,l.cw (l.pos (p+n0+2) j) p i=z:=⟨_,rfl⟩
 obtain⟨c2,hc2⟩:∃z,l.cb (p+n0+2+m) (p+n0+2) j=z:=⟨_,rfl⟩
 rw[hc1]at a1 hcw |-
 rw[hc2]at a2 hcb |-
 rw[<- hcw]at b1
 rw[show p+n0+1=p+c1.length+[({op:=5}:Ins)].length by grind]at b2
 have a2':Fr N (p+c1.length+[({op:=5}:Ins)].length+[({op:=1,a:=(p+n0+2+m:Nat)}:Ins)].length) c2 (s.push 99) (s.push 99) ((l.pos (p+n0+2) j).map fun T=>(T,s.push 99)) [(p+n0+2+m,s.push 99)]:=by grind
 have b3':Fr N (p+c1.length+[({op:=5}:Ins)].length+[({op:=1,a:=(p+n0+2+m:Nat)}:Ins)].length+c2.length) [({op:=21}:Ins)] (s.push 99) s [] []:=by grind
 have b4:=a1.seq (b1.seq (b2.seq (a2'.ends.seq b3')))
 refine⟨b4.res [] [] (fun m hm=>(by cases hm)) (fun e he=>.inl ?_),hr.pop.le (by omega)⟩
 grind
mutual
theorem Wd.fl:∀(w:Wd) (s:Stt),0<=s.q->FlK w.c s s
 |.nil,s,h=>fun N p i n hr=>by simp only[Wd.c]at hr |-;exact FlK.nil N p i n hr
 |.lit p r,s,h=>fun N a i n hr=>by simp only[Wd.c]at hr |-;exact Wd.fl r s h N a i n hr
 |.sub p t r,s,h=>fun N a i n hr=>by simp only[Wd.c]at hr |-;exact((Tr.fl t s h).child 8).seq ((FlK.plain (x:={op:=15,a:=0}) (by simp)).seq (Wd.fl r s h)) N a i n hr
 |.bad p f r,s,h=>fun N a i n hr=>by simp only[Wd.c]at hr |-;exact Wd.fl r s h N a i n hr
theorem Ws.fl:∀(w:Ws),(∀(o:Nat) (s:Stt),0<=s.q->(∀(g:Tg) (ps:List Prt),FlK (K.one {op:=o,a:=g.a,b:=g.b,s:=g.s,w:=ps}) s s)->FlK (w.c o) s s)/\FlW w
 |.nil=>⟨fun o s h _ N p i n hr=>by simp only[Ws.c]at hr |-;exact FlK.nil N p i n hr,wZ⟩
 |.cons g w r=>⟨fun o s h h1 N p i n hr=>by simp only[Ws.c]at hr |-;exact(Wd.fl w s h).seq ((h1 g w.ps).seq ((Ws.fl r).1 o s h h1)) N p i n hr,uD (Wd.fl w) (Ws.fl r).2⟩
theorem Tr.fl:∀(t:Tr) (s:Stt),0<=s.q->FlK t.c s s
 |.simple a w r,s,h=>fun N p i n hr=>by
  simp only[Tr.c]at hr |-
  refine FlK.saved _ ((Ws.fl r).1 10 _ h fun g ps=>FlK.top 115 (.inr ⟨rfl,rfl⟩)) (fun s h=>?_) h N p i n hr
  cases hw:w.nil? with
  |true=>
   simp only[if_true];exact FlK.nil.seq (((Ws.fl a).1 8 s h fun g ps=>FlK.plain (by simp)).seq (FlK.ite (show FlK (K.o 5 0) s s from FlK.plain (by simp)) FlK.nil))
  |false=>
   simp only[Bool.false_eq_true,if_false];exact((FlK.push (x:={op:=6,a:=0}) 97 (.inl ⟨rfl,rfl⟩)).seq ((Ws.fl w).1 7 (s.push 97) h fun g ps=>FlK.top 97 (.inl ⟨rfl,rfl⟩))).seq (((Ws.fl a).1 8 (s.push 97) h fun g ps=>FlK.plain (by simp)).seq (FlK.pop (x:={op:=12,a:=0}) 97 (.inl ⟨rfl,rfl⟩)))
 |.pipe g l,s,h=>fun N p i n hr=>by
  simp only[Tr.c]at hr |-
  have hk:∀s:Stt,0<=s.q->FlK ((l.cp true).seq (if 1<l.nds.length then K.o 14 0 else K.nil)) s s:=fun s h=>((Ts.fl l).2 true s h).seq (FlK.ite (FlK.plain (x:={op:=14,a:=0}) (by simp)) FlK.nil)
  cases g with
  |true=>
   refine((FlK.of (x:={op:=24,a:=1}) (.up s _ ⟨rfl,rfl⟩) (by decide) (fun N n h=>h.up)).seq ((hk ⟨s.fr,s.q+1⟩ (by show 0<=s.q+1;omega)).seq ((FlK.of (x:={op:=24,a:=-1}) (.dn s _ ⟨rfl,rfl⟩) (by decide) (fun N n h'=>?_)).seq (FlK.plain (x:={op:=4,a:=0}) (by simp))))) N p i n hr;obtain⟨h1,h2,h3⟩:=h';simp only at h1 h2 h3;exact⟨h,by omega,by omega⟩
  |false=>exact(hk s h).seq (FlK.plain (x:={op:=25,a:=0}) (by simp)) N p i n hr
 |.ao o x y,s,h=>fun N p i n hr=>by
  simp only[Tr.c]at hr |-
  exact((Tr.fl x ⟨s.fr,s.q+1⟩ (by show 0<=s.q+1;omega)).quiet h).seq (FlK.over (by cases o<;>simp) (Tr.fl y s h)) N p i n hr
 |.lst l,s,h=>fun N p i n hr=>by simp only[Tr.c]at hr |-;exact(Ts.fl l).1 s h N p i n hr
 |.back x,s,h=>fun N p i n hr=>by simp only[Tr.c]at hr |-;exact((Tr.fl x s h).child 4).seq (FlK.plain (x:={op:=5,a:=0}) (by simp)) N p i n hr
 |.sub x r,s,h=>fun N p i n hr=>by
  simp only[Tr.c]at hr |-
  exact FlK.saved _ ((Ws.fl r).1 10 _ h fun g ps=>FlK.top 115 (.inr ⟨rfl,rfl⟩)) (fun s h=>((Tr.fl x s h).child 0).seq (FlK.plain (x:={op:=14,a:=0}) (by simp))) h N p i n hr
 |.grp x r,s,h=>fun N p i n hr=>by
  simp only[Tr.c]at hr |-
  exact FlK.saved _ ((Ws.fl r).1 10 _ h fun g ps=>FlK.top 115 (.inr ⟨rfl,rfl⟩)) (fun s h=>Tr.fl x s h) h N p i n hr
 |.iff c t r,s,h=>fun N p i n hr=>by
  simp only[Tr.c]at hr |-
  exact FlK.saved _ ((Ws.fl r).1 10 _ h fun g ps=>FlK.top 115 (.inr ⟨rfl,rfl⟩)) (fun s h=>((Tr.fl c ⟨s.fr,s.q+1⟩ (by show 0<=s.q+1;omega)).quiet h).seq ((Tr.fl t s h).alt (FlK.plain (x:={op:=5,a:=0}) (by simp)))) h N p i n hr
 |.ife c t e r,s,h=>fun N p i n hr=>by
  simp only[Tr.c]at hr |-
  exact FlK.saved _ ((Ws.fl r).1 10 _ h fun g ps=>FlK.top 115 (.inr ⟨rfl,rfl⟩)) (fun s h=>((Tr.fl c ⟨s.fr,s.q+1⟩ (by show 0<=s.q+1;omega)).quiet h).seq ((Tr.fl t s h).alt (Tr.fl e s h))) h N p i n hr
 |.loop u c b r,s,h=>fun N p i n hr=>by
  simp only[Tr.c]at hr |-
  exact FlK.saved _ ((Ws.fl r).1 10 _ h fun g ps=>FlK.top 115 (.inr ⟨rfl,rfl⟩)) (fun s h=>(FlK.loop (by cases u<;>simp) ((Tr.fl c ⟨s.fr,s.q+1⟩ (by show 0<=s.q+1;omega)).quiet h) (Tr.fl b s h)).seq (FlK.plain (x:={op:=5,a:=0}) (by simp))) h N p i n hr
 |.for_ nm w b r,s,h=>fun N p i n hr=>by
  simp only[Tr.c]at hr |-
  refine FlK.saved _ ((Ws.fl r).1 10 _ h fun g ps=>FlK.top 115 (.inr ⟨rfl,rfl⟩)) (fun s h=>?_) h N p i n hr;exact(FlK.push (x:={op:=6,a:=0}) 97 (.inl ⟨rfl,rfl⟩)).seq (((Ws.fl w).1 7 (s.push 97) h fun g ps=>FlK.top 97 (.inl ⟨rfl,rfl⟩)).seq ((FlK.of (x:={op:=17,s:=nm}) (.for_ s _ rfl) (show(17:Nat)≠22 by decide) (fun N n h=>((h.pop.push 102).le (Nat.le_refl _)))).seq ((FlK.plain (x:={op:=5,a:=0}) (by simp)).seq (FlK.each (Tr.fl b (s.push 102) h)))))
 |.case_ w l r,s,h=>fun N p i n hr=>by
  simp only[Tr.c]at hr |-
  exact FlK.saved _ ((Ws.fl r).1 10 _ h fun g ps=>FlK.top 115 (.inr ⟨rfl,rfl⟩)) (fun s h=>(Wd.fl w s h).seq ((FlK.push (x:={op:=19,w:=w.ps}) 99 (.inr (.inr ⟨rfl,rfl⟩))).seq (uF (Am.fl l) h))) h N p i n hr
 |.fn nm b,s,h=>fun N p i n hr=>by
  simp only[Tr.c]at hr |-
  exact((Tr.fl b {} (Int.le_refl _)).fn nm).seq (FlK.plain (x:={op:=5,a:=0}) (by simp)) N p i n hr
theorem Ts.fl:∀(l:Ts),(∀s:Stt,0<=s.q->FlK l.cl s s)/\∀(b:Bool) (s:Stt),0<=s.q->FlK (l.cp b) s s
 |.nil=>⟨fun s _ N p i n hr=>by simp only[Ts.cl]at hr |-;exact FlK.nil N p i n hr,fun b s _ N p i n hr=>by simp only[Ts.cp]at hr |-;exact FlK.nil N p i n hr⟩
 |.cons x r=>⟨fun s h N p i n hr=>by
   simp only[Ts.cl]at hr |-
   exact(FlK.item (!r.nil?) (Tr.fl x s h)).seq ((Ts.fl r).1 s h) N p i n hr,fun b s h N p i n hr=>by
   simp only[Ts.cp]at hr |-
   exact(FlK.ite (Tr.fl x s h) ((Tr.fl x s h).child _)).seq ((Ts.fl r).2 false s h) N p i n hr⟩
theorem Am.fl:∀l:Am,FlA l
 |.nil=>w_
 |.cons w b r=>uE (Ws.fl w).2 (Tr.fl b) (Am.fl r)
end
theorem iC{l:ab}{k:UInt8}:(⟨(l++[k]).toArray⟩:ByteArray)=⟨l.toArray⟩++⟨#[k]⟩:=by
 apply ByteArray.ext;simp
inductive AfR:Int->Int->ByteArray->Int->ByteArray->Int->ByteArray->Bool->Bool->Prop where
 |plain (o a u q) (h:(o==1)=false/\(o==2)=false/\(o==3)=false/\(o==13)=false/\(o==16)=false/\(o==26)=false/\(o==23)=false/\(o==6)=false/\(o==9)=false/\(o==19)=false/\(o==12)=false/\(o==11)=false/\(o==21)=false/\(o==7)=false/\(o==10)=false/\(o==20)=false/\(o==17)=false/\(o==18)=false/\(o==24)=false):AfR o a u q u q u true false
 |jump (a u q):AfR 1 a u q u q u false true
 |cond (o a u q) (h:o=2\/o=3\/o=13):AfR o a u q u q u true true
 |leave (a u q):AfR 16 a u q u q u false false
 |ret (o a) (h:o=26\/o=23):AfR o a ⟨#[]⟩ 0 ⟨#[]⟩ 0 ⟨#[]⟩ false false
 |push (o a u q) (k:UInt8) (h:o=6/\k=97\/o=9/\k=115\/o=19/\k=99):AfR o a u q (u++⟨#[k]⟩) q u true false
 |pop (o a u q) (k:UInt8) (h:o=12/\k=97\/o=11/\k=115\/o=21/\k=99):AfR o a (u++⟨#[k]⟩) q u q (u++⟨#[k]⟩) true false
 |top (o a u q) (k:UInt8) (j:Bool) (h:o=7/\k=97/\j=false\/o=10/\k=115/\j=false\/o=20/\k=99/\j=true):AfR o a (u++⟨#[k]⟩) q (u++⟨#[k]⟩) q (u++⟨#[k]⟩) true j
 |for_ (a u q):AfR 17 a (u++⟨#[97]⟩) q (u++⟨#[102]⟩) q (u++⟨#[97]⟩) true false
 |next(a u q):AfR 18 a (u++⟨#[102]⟩) q (u++⟨#[102]⟩) q u true true
 |quiet (a u q q2) (h:a=1\/a= -1) (hq:q+a=q2) (h1:0<=q2) (h2:q2<=900000):AfR 24 a u q u q2 u true false
theorem cW{o az q q1:Int}{u n1 n2:ByteArray}{g j:Bool}(hc:AfR o az u q n1 q1 n2 g j)(bz:Int)(u9:ByteArray)(pa:Option Addr)(pn pc:Nat)(hl:u.size<=900000)(w:World):Calls Tryz.prog 33 #[.agg #[.string u,.int .i64 q],.agg #[.int .i64 o,.int .i64 az,.int .i64 bz,.string u9,.slice pa pn pc]] w fun e w'=>e=.returned (.tuple #[.agg #[.string n1,.int .i64 q1],.agg #[.string n2,.int .i64 q],.bool g,.bool j,.bool true])/\Below w.heap.size w w':=by
 have sz:∀(v:ByteArray) (k:UInt8),(v++⟨#[k]⟩:ByteArray).size=v.size+1:=fun v k=>by rw[ByteArray.size_append];rfl
 cases hc
 case' plain h=>obtain⟨h1,h2,h3,h13,h16,h26,h23,h6,h9,h19,h12,h11,h21,h7,h10,h20,h17,h18,h24⟩:=h
 case' cond h=>rcases h with rfl|rfl|rfl
 case' ret h=>rcases h with rfl|rfl
 case' push k h=>
  have HPU:=yh fun W kz hk=>qi u q k kz hk (by omega) W
  rcases h with⟨rfl,rfl⟩|⟨rfl,rfl⟩|⟨rfl,rfl⟩
 case' pop k h=>
  have HPO:=yh fun W kz hk=>lS _ n1 q k kz hk (jj n1 k) (by omega) W
  rcases h with⟨rfl,rfl⟩|⟨rfl,rfl⟩|⟨rfl,rfl⟩
 case' top u0 k h=>
  have HPO:=yh fun W kz hk=>lS _ u0 q k kz hk (jj u0 k) (by omega) W
  rcases h with⟨rfl,rfl,rfl⟩|⟨rfl,rfl,rfl⟩|⟨rfl,rfl,rfl⟩
 case' for_ u0=>
  rw[sz]at hl;have HPO:=yh fun W kz hk=>lS _ u0 q 97 kz hk (jj u0 97) (by rw[sz];omega) W
  have HPU:=yh fun W kz hk=>qi u0 q 102 kz hk (by omega) W
  clear hl
 case' next=>have HPO:=yh fun W kz hk=>lS _ n2 q 102 kz hk (jj n2 102) (by omega) W
 case' quiet h hq h1 h2=>
  have p1:wrap64 (q+az)=q1:=by rw[IntWalk.wrap64_in _ (by omega)];omega
  have p2:IntKind.i64.wrap (q+az)=q1:=by rw[IntWalk.i64_in _ (by omega)];omega
  have p4:0<=q1:=by omega
  have p3:decide (0<=q1)=true:=decide_eq_true p4;clear hq h1 h2;rcases h with rfl|rfl
 all_goals
  clear sz;have hL:Kn [] w w []:=Kn.refl [] w;have hF:=hL.fx;go_enter Tryz.func33,Tryz.ntmps33;go_wp2_with (first|(with_reducible refine zS ?_;intro W hL hF)|((with_reducible refine ac 1 ?_);refine zX [0,1,2,3,4,5] [3] ?_ (sD (sD sR));clear hF hL;intro ι F hne hC hG;(repeat(first|(refine cS ?_)|((first|refine cF hC ?_|refine cP ?_);intro K hK;go_big_quiet_op;go_big_quiet_on)|(refine cN ?_;intro W hL;(try simp only[kfb]at hL);have hF:=hL.fx;go_wp2;refine ai ?_;(first|(refine bH _ (by rfl) ?_;clear hL hF hC hG;intro ι F hne hC hFF;have hG:=fun n=>(hFF n).fx;clear hFF)|(refine aQ _ (by repeat' (first|(with_reducible exact List.nil_sublist _)|(with_reducible exact List.Sublist.refl _)|(with_reducible apply List.Sublist.cons_cons)|(with_reducible apply List.Sublist.cons))) ?_;clear hL hF)))));refine zN ?_;clear hC hG;intro W hL hF)|((with_reducible refine ac 13 ?_);refine zX [0,1,2,3,4] [] ?_ sR;clear hF hL;intro ι F hne hC hG;(repeat(first|(refine cS ?_)|((first|refine cF hC ?_|refine cP ?_);intro K hK;go_big_quiet_op;go_big_quiet_on)|(refine cN ?_;intro W hL;have hF:=hL.fx;go_wp2;refine ai ?_;(first|(refine bH _ (by rfl) ?_;clear hL hC hG;intro ι F hne hC hFF;have hG:=fun n=>(hFF n).fx;clear hFF)|(refine aQ _ (by repeat' (first|(with_reducible exact List.nil_sublist _)|(with_reducible exact List.Sublist.refl _)|(with_reducible apply List.Sublist.cons_cons)|(with_reducible apply List.Sublist.cons))) ?_;clear hL)))));refine zN ?_;clear hC hG;intro W hL hF)|((with_reducible refine ac 42 ?_);refine zX [0,1,2,3,4,5,6,7,8,9] [6] ?_ sR;clear hF hL;intro ι F hne hC hG;(repeat(first|(refine cS ?_)|((first|refine cF hC ?_|refine cP ?_);intro K hK;go_big_quiet_op;go_big_quiet_on)|(refine cN ?_;intro W hL;(try simp only[kfb]at hL);have hF:=hL.fx;go_wp2;refine ai ?_;(first|(refine bH _ (by rfl) ?_;clear hL hF hC hG;intro ι F hne hC hFF;have hG:=fun n=>(hFF n).fx;clear hFF)|(refine aQ _ (by repeat' (first|(with_reducible exact List.nil_sublist _)|(exact List.Sublist.refl _)|(with_reducible apply List.Sublist.cons_cons)|(with_reducible apply List.Sublist.cons))) ?_;clear hL hF)))));refine zN ?_;clear hC hG;intro W hL hF)|((first|(go_at_call 68;refine aj ?_;clear hF hL;intro W hL;have hF:=hL.fx;(with_reducible refine(HPU.out _ _ (by decide)).mono ?_))|(go_at_call 69;refine aj ?_;clear hF hL;intro W hL;have hF:=hL.fx;(with_reducible refine(HPO.out _ _ (by decide)).mono ?_)));rintro e W ⟨rfl,hb⟩;replace hL:=hL.below hb;clear hb hF;have hF:=hL.fx))
  refine bodyPost_ret (by simp[results,Tryz.results33,go_sem, *];try rfl) rfl ?_;exact⟨rfl,hL.below0⟩
theorem xa:(Tryz.prog.info? 3).map (fun i=>(i.zero,i.size,i.bytes))=some (some (.int .i64 0),1,8):=by kernel_rfl
theorem ka{W:World}{t:TypeId}{v:Value}{n m c:Nat}{xs news:List Value}{ad:Addr}(hl:news.length=m*1)(hnews:∀j u,news[j]? =some u->W.cell? (ad.add j)=some u)(h1:∀u∈news,u.oneCell'=true)(hs:n+m<=1000000)(ho:W.ownsRow 0 3 1 v n xs):
  ∃v' w',(Builtin.append_ #[51,51] t #[v,.slice (some ad) m c]).run Tryz.prog W=.ok v' w'/\w'.ownsRow 0 3 1 v' (n+m) (xs++news)/\W.grownBy w' v.ownBlock/\(v'.ownBlock=v.ownBlock\/v'.ownBlock=some W.heap.size):=by
 obtain⟨i0,hi,hz0,hz1,hz2⟩:=bd xa
 have:=bi (P:=Tryz.prog) (w:=W) 0 51 t 3 i0 _ Tryz.underlying51 hi hz0 (by rw[hz1];rfl) (by rw[hz1];decide) v n xs (by rw[hz1];exact ho) ad m c news (by rw[hz1,hl]) hnews h1 (by unfold maxLen;omega) (by rw[hz2];omega) (Nat.zero_le _)
 rw[hz1]at this
 exact this
def i_(p:Nat×Stt):Value×Value:=(.int .i64 (p.1:Int),.agg #[.string ⟨p.2.fr.toArray⟩,.int .i64 p.2.q])
theorem eu:Tryz.prog.underlying 83=some (.map 3 85):=Tryz.underlying83
theorem fq:Maps.Keyed Tryz.prog 3:=Maps.int_keyed Tryz.underlying3
theorem Af(k:Nat)(h:k<=900000):keyOf Tryz.prog 3 (.int .i64 (k:Int))=some (.int .i64 (k:Int)):=Maps.keyOf_int_mk Tryz.underlying3 (by simp only[Lit.wf,Bool.and_eq_true,decide_eq_true_eq];exact⟨by show(-9223372036854775808:Int)<=_;omega,by show _<=(9223372036854775807:Int);omega⟩)
theorem Ag(w:World):(zeroValue 85).run Tryz.prog w=.ok (.agg #[.string ⟨#[]⟩,.int .i64 0]) w:=by kernel_rfl
theorem uG{M:List (Nat×Stt)}{k:Nat}(h:∀p∈M,p.1≠k):∀p∈M.map i_,p.1≠ .int .i64 (k:Int):=fun p hp e=>by
 obtain⟨x,hx,rfl⟩:=List.mem_map.1 hp
 injection e with _ e
 exact h x hx (by omega)
theorem uH(X:List Nat)(w0:World)(bt bm mb bp:Nat)(ta:Option Addr)(tn tc:Nat)(es:Array MapEntry)(ck:Nat)(ca:Option Addr)(n cc:Nat)(LT:List (Nat×Obj))(M:List (Nat×Stt))(td:List Nat)(k:Nat)(s:Stt)(u:ByteArray)(q:Int)(hu:⟨s.fr.toArray⟩=u)(hq:s.q=q)(hk:k<n)(hn:n<=900000)(hM:MapV Tryz.prog 3 es (M.map i_))(hM9:M.length<=900000)(hT9:tn<=900000)(hR:RowL 1 3 LT (.slice ta tn tc) tn (td.map fun(j:Nat)=>.int .i64 (j:Int)))(w:World)(hL0:Kn X w0 w ((bt,.cells #[.slice ta tn tc] 51 (0,0))::(bm,.cells #[.map (some mb)] 83 (0,0))::(mb,.map es ck)::(bp,.cells #[.slice ca n cc] 25 (0,0))::LT))(hin:(k,s)∈M):Calls Tryz.prog 31 #[.int .i64 (k:Int),.agg #[.string u,.int .i64 q],.pointer (some ⟨bp,0,none⟩),.pointer (some ⟨bm,0,none⟩),.pointer (some ⟨bt,0,none⟩)] w fun e w'=>e=.returned (.bool true)/\Kn X w0 w' ((bt,.cells #[.slice ta tn tc] 51 (0,0))::(bm,.cells #[.map (some mb)] 83 (0,0))::(mb,.map es ck)::(bp,.cells #[.slice ca n cc] 25 (0,0))::LT):=by
 have hkm:=Af k (by omega)
 have HE:Hid (i_ (k,s)=(.int .i64 (k:Int),.agg #[.string u,.int .i64 q])):=yh (by simp only[i_,hu,hq])
 have k1:¬(k:Int)<0:=by omega
 have k2:decide ((k:Int)<0)=false:=decide_eq_false k1
 have k3:decide ((n:Int)<=(k:Int))=false:=decide_eq_false (by omega)
 have k4:decide (n<=k)=false:=decide_eq_false (by omega)
 clear hu hq
 have hmem:(.int .i64 (k:Int),.agg #[.string u,.int .i64 q])∈M.map i_:=by rw[<- HE.out];exact List.mem_map.2 ⟨_,hin,rfl⟩
 have hL:=hL0
 clear hL0 hin HE
 have hF:=hL.fx
 go_enter Tryz.func31,Tryz.ntmps31
 go_wp2_with (first|(with_reducible refine zS ?_;intro W hL hF)|(at_lookup;refine cT ?_;clear hF hL;intro W hL;have hF:=hL.fx;(refine c8 rfl _ _ _ rfl fq eu (hL.has _ m3) hM rfl _ _ rfl hmem ?_);simp only[Bool.false_eq_true,if_false,if_true]))
 refine zF ?_;intro W hL hF
 refine bodyPost_ret (by simp[results,Tryz.results31,go_sem, *];try rfl) rfl ?_
 exact⟨rfl,hL.drop1.drop1⟩
theorem rR(X:List Nat)(w0:World)(bt bm mb bp:Nat)(ta:Option Addr)(tn tc:Nat)(es:Array MapEntry)(ck:Nat)(ca:Option Addr)(n cc:Nat)(LT:List (Nat×Obj))(M:List (Nat×Stt))(td:List Nat)(k:Nat)(s:Stt)(u:ByteArray)(q:Int)(hu:⟨s.fr.toArray⟩=u)(hq:s.q=q)(hk:k<n)(hn:n<=900000)(hM:MapV Tryz.prog 3 es (M.map i_))(hM9:M.length<=900000)(hT9:tn<=900000)(hR:RowL 1 3 LT (.slice ta tn tc) tn (td.map fun(j:Nat)=>.int .i64 (j:Int)))(w:World)(hL0:Kn X w0 w ((bt,.cells #[.slice ta tn tc] 51 (0,0))::(bm,.cells #[.map (some mb)] 83 (0,0))::(mb,.map es ck)::(bp,.cells #[.slice ca n cc] 25 (0,0))::LT))(hin:∀p∈M,p.1≠k):Calls Tryz.prog 31 #[.int .i64 (k:Int),.agg #[.string u,.int .i64 q],.pointer (some ⟨bp,0,none⟩),.pointer (some ⟨bm,0,none⟩),.pointer (some ⟨bt,0,none⟩)] w fun e w'=>e=.returned (.bool true)/\∃es2 ck2 ta2 tc2 LT2,Kn X w0 w' ((bt,.cells #[.slice ta2 (tn+1) tc2] 51 (0,0))::(bm,.cells #[.map (some mb)] 83 (0,0))::(mb,.map es2 ck2)::(bp,.cells #[.slice ca n cc] 25 (0,0))::LT2)/\Hid (MapV Tryz.prog 3 es2 ((M++[(k,s)]).map i_))/\Hid (RowL 1 3 LT2 (.slice ta2 (tn+1) tc2) (tn+1) ((td++[k]).map fun(j:Nat)=>.int .i64 (j:Int))):=by
 have hkm:=Af k (by omega)
 have HE:Hid (i_ (k,s)=(.int .i64 (k:Int),.agg #[.string u,.int .i64 q])):=yh (by simp only[i_,hu,hq])
 have k1:¬(k:Int)<0:=by omega
 have k2:decide ((k:Int)<0)=false:=decide_eq_false k1
 have k3:decide ((n:Int)<=(k:Int))=false:=decide_eq_false (by omega)
 have k4:decide (n<=k)=false:=decide_eq_false (by omega)
 clear hu hq
 have hmis:=uG hin
 have hroom:(M.map i_).length<maxLen:=by rw[List.length_map];unfold maxLen;omega
 have hL:=hL0
 have HR:=yh hR
 clear hL0 hin hR
 have hF:=hL.fx
 go_enter Tryz.func31,Tryz.ntmps31
 go_upto_region 5 with((at_lookup;refine cT ?_;clear hF hL;intro W hL;have hF:=hL.fx;(refine iR rfl _ _ _ rfl fq eu _ Ag (hL.has _ m3) hM rfl _ _ rfl hkm hmis ?_);simp only[Bool.false_eq_true,if_false,if_true]))
 refine zE ?_;intro W hL hF
 go_upto_region 6 with(((refine cT ?_;clear hF hL;intro W hL;have hF:=hL.fx;refine oS rfl _ _ _ rfl fq eu hL 4 rfl hM hroom rfl _ _ _ rfl rfl hkm hmis ?_);intro W2 es2 ck2 hL2 hM2;clear hL hF;have hL:=hL2;clear hL2;simp only[List.set_cons_succ,List.set_cons_zero]at hL;have hF:=hL.fx))
 go_wp2_with (first|(with_reducible refine zS ?_;intro W hL hF)|(at_builtin;refine cT ?_;clear hF hL;intro W hL;have hF:=hL.fx;(refine ah rfl _ _ 51 51 rfl [_,_,_,_,_,_,_] LT hL tn 1 (td.map fun(j:Nat)=>Value.int .i64 (j:Int)) [.int .i64 (k:Int)] _ _ HR.out rfl rfl (fun ho=>ka rfl (fun j u hu=>by rw[Go.WideShapes.add_plain,Nat.zero_add,aO hL m0];simpa using hu) (by intro u hu;simp only[List.mem_cons,List.not_mem_nil,or_false]at hu;subst hu;rfl) (by omega) ho) ?_);intro LP3 a3 c3 W3 hL2 hr3;clear hL hF;have hL:=hL2;clear hL2;simp only[List.append_eq,List.cons_append,List.nil_append]at hL;have hF:=hL.fx))
 refine zF ?_;intro W hL hF
 refine bodyPost_ret (by simp[results,Tryz.results31,go_sem, *];try rfl) rfl ?_
 simp only[List.map_append,List.map_cons,List.map_nil]
 exact⟨trivial,_,_,a3,c3,LP3,hL.drop1.drop1.drop1,yh (by rw[HE.out];exact hM2),yh hr3⟩
def sw(ps:List Prt):Nat:=(ps.map fun p=>if p.k=2 then p.t.length+1 else 0).sum
theorem yZ:sw []=0:=rfl
theorem qv(p:Prt)(ps:List Prt):sw (p::ps)=(if p.k=2 then p.t.length+1 else 0)+sw ps:=by simp[sw]
theorem lY(ps:List Prt)(p:Prt):sw (ps++[p])=sw ps+(if p.k=2 then p.t.length+1 else 0):=by simp[sw]
theorem ft:∀(ps:List Prt) (s:ab) (q:Bool),sw (addT ps s q)=sw ps
 | [],s,q=>rfl
 | [p],s,q=>by
  grind[addT,sw]
 |a::b::i,s,q=>by
  show sw (a::addT (b::i) s q)=_
  simp_all[qv,ft]
theorem k9{ps:List Prt}{s:ab}{n:Nat}{q:Bool}{st:St}(h:au ps s n q=.ok st):sw st.1+st.2.1.length<=sw ps+s.length:=by
 unfold au at h
 split at h
 ·rename_i h40
  cases s with
  |nil=>grind
  |cons c0 s=>
  cases hp:dm (List.drop 1 (c0::s))with
  |none=>grind
  |some z=>
   obtain⟨a,r⟩:=z;rw[hp]at h;injection h with h
   rw[<- h];have ht:=congrArg List.length (dL _ _ _ _ _ hp);grind[lY]
 ·split at h
  ·cases hp:brk 125 (s.drop 1)with
   |none=>grind
   |some z=>
    obtain⟨a,r⟩:=z;rw[hp]at h;simp only at h;split at h
    ·cases h
    ·injection h with h
     rw[<- h];have ht:=congrArg List.length (bq hp).1;grind[lY]
  grind[lY,ft]
theorem rS(n0:Nat):∀(f:Nat) (ps:List Prt) (l:ab) (n:Nat) (st:St),a_ f n0 (ps,l,n)=.ok st->sw st.1+st.2.1.length<=sw ps+l.length:=by
 intro f
 induction f with
 |zero=>intro ps l n st h;cases h
 |succ f ih=>
  intro ps l n st h
  cases l with
  |nil=>cases h
  |cons c t=>
   rw[aN]at h;split at h
   ·grind
   split at h
   ·cases hd:au ps t n true with
    |bad m=>grind
    |ok x=>
     obtain⟨ps',r,m⟩:=x;rw[hd]at h;have h1:=k9 hd;grind
   grind[ft]
theorem nL{ps:List Prt}{c:UInt8}{t:ab}{n:Nat}{st:St}(h:aV ps c t n=.ok st):sw st.1+st.2.1.length<=sw ps+t.length:=by
 unfold aV at h
 split at h
 ·cases hp:brk 39 t with
  |none=>grind
  |some z=>
   obtain⟨a,r⟩:=z;rw[hp]at h;injection h with h
   rw[<- h];have ht:=congrArg List.length (bq hp).1;grind[ft]
 split at h
 ·have h2:=rS _ _ _ _ _ _ h
  grind[ft]
 split at h
 ·grind[ft]
 split at h
 ·exact k9 h
 grind[ft]
theorem xc:∀(f:Nat) (ps:List Prt) (l:ab) (n:Nat) (st:St),word f (ps,l,n)=.ok st->sw st.1+st.2.1.length<=sw ps+l.length:=by
 intro f
 induction f with
 |zero=>intro ps l n st h;injection h with h;grind
 |succ f ih=>
  intro ps l n st h
  cases l with
  |nil=>injection h with h;grind
  |cons c t=>
   rw[aT]at h;split at h
   ·grind
   ·cases hp:aV ps c t n with
    |bad m=>grind
    |ok x=>
     obtain⟨ps',r,m⟩:=x;rw[hp]at h;have h1:=nL hp;grind
theorem uI{f:Nat}{c:UInt8}{t:ab}{n:Nat}{st:St}(hc:ends c=false)(h:word (f+1) ([],c::t,n)=.ok st):sw st.1+st.2.1.length<=t.length:=by
 rw[aT,if_neg (by grind)]at h
 cases hp:aV [] c t n with
 |bad m=>grind
 |ok x=>
  obtain⟨ps',r,m⟩:=x;rw[hp]at h;have h1:=nL hp;have h2:=xc _ _ _ _ _ h;grind[yZ]
def wt(t:Tok):Nat:=1+sw t.parts
def wtl(ts:List Tok):Nat:=(ts.map wt).sum
theorem dE(t:Tok)(ts:List Tok):wtl (t::ts)=wt t+wtl ts:=by simp[wtl]
theorem xd:wtl []=0:=rfl
theorem pk(t:Tok):1<=wt t:=Nat.le_add_right _ _
theorem uJ{l r:ab}{fd:Int}{n0 n m:Nat}{x:Tok}(hl:l≠[])(h:ioS l fd n0 n=.tok x r m):wt x+r.length<=l.length:=by
 unfold ioS at h
 have hp:0<l.length:=List.length_pos_iff.2 hl
 split at h
 ·rename_i h2
  have h3:2<=l.length:=by
   have:(l.take 2).length=2:=by grind
   grind
  injection h with h1 h4;subst h1 h4
  show 1+0+_<=_
  grind
 ·injection h with h1 h4;subst h1 h4
  show 1+0+_<=_
  grind
theorem xe{c:UInt8}{t r:ab}{n m:Nat}{x:Tok}(h:ba c t n=.tok x r m):wt x+r.length<=(c::t).length:=by
 have hlt:=di c t n
 rw[h]at hlt
 simp only[Step.rest,List.length_cons]at hlt |-
 have h1:∀y:Tok,sw y.parts=0->x=y->wt x+r.length<=t.length+1:=fun y hy e=>by grind[wt]
 unfold ba at h
 split at h
 ·cases h
 split at h
 ·cases h
 split at h
 ·injection h with h;exact h1 _ rfl h.symm
 split at h
 ·split at h<;>(injection h with h;exact h1 _ rfl h.symm)
 split at h
 ·injection h with h;exact h1 _ rfl h.symm
 split at h
 ·have:=uJ (by simp) h;omega
 split at h
 ·cases h
 rename_i a1 a2 a3 a4 a5 a6 a7
 have he:ends c=false:=by
  grind[ends]
 cases hw:word (t.length+2) ([],c::t,n)with
 |bad k=>grind
 |ok y=>
  obtain⟨ps,r',k⟩:=y;have hs:=uI he hw;rw[hw]at h;simp only at h hs;have h2:∀z:Tok,z.parts=ps->x=z->r=r'->wt x+r.length<=t.length+1:=fun z hz e e2=>by grind[wt]
  split at h
  ·split at h
   ·rename_i h60
    have h3:r'≠[]:=fun e=>by grind
    have:=uJ h3 h;omega
   grind
  grind
theorem lZ:∀(d:Nat) (l:ab) (n:Nat),l.length<=d->wtl (cQ l n).1<=l.length
 |0,l,n,hl=>by
  obtain rfl:=List.eq_nil_of_length_eq_zero (Nat.le_zero.1 hl);rw[df];exact Nat.le_refl _
 |d+1,[],n,hl=>by rw[df];exact Nat.zero_le _
 |d+1,c::t,n,hl=>by
  have hlt:=di c t n;rw[bO]
  cases hs:ba c t n with
  |bad m=>exact Nat.zero_le _
  |skip r m=>
   rw[hs]at hlt;simp only[Step.rest,List.length_cons]at hlt hl |-
   have:=lZ d r m (by omega);omega
  |tok x r m=>
   have h1:=xe hs;rw[hs]at hlt;simp only[Step.rest,List.length_cons]at hlt hl h1 |-
   have:=lZ d r m (by omega);rw[dE];omega
def cwt(ps:List Prt):Nat:=(ps.map fun p=>if p.k=2 then 40*p.t.length+16 else 0).sum
theorem dF(p:Prt)(ps:List Prt):cwt (p::ps)=(if p.k=2 then 40*p.t.length+16 else 0)+cwt ps:=by simp[cwt]
theorem l4(ps:List Prt):cwt ps<=40*sw ps:=by
 induction ps with
 |nil=>exact Nat.zero_le _
 |cons p ps ih=>
  grind[dF,qv]
def cww(l:List (List Prt)):Nat:=(l.map fun ps=>1+cwt ps).sum
def cwa(l:List (ab×List Prt)):Nat:=(l.map fun x=>1+cwt x.2).sum
def cwr(l:List (Int×Nat×List Prt)):Nat:=(l.map fun x=>1+cwt x.2.2).sum
theorem eR(ps:List Prt)(l:List (List Prt)):cww (ps::l)=1+cwt ps+cww l:=by simp[cww]
theorem kb(ps:List Prt)(l:List (List Prt)):cww (l++[ps])=cww l+(1+cwt ps):=by simp[cww]
theorem uK(x:ab×List Prt)(l:List (ab×List Prt)):cwa (l++[x])=cwa l+(1+cwt x.2):=by simp[cwa]
theorem kc(x:Int×Nat×List Prt)(l:List (Int×Nat×List Prt)):cwr (l++[x])=cwr l+(1+cwt x.2.2):=by simp[cwr]
mutual
def Nd.co:Nd->Nat
 |.mk _ _ _ a w r l=>8+(cwa a+cww w+cwr r)+Nd.cos l
def Nd.cos:List Nd->Nat
 | []=>0
 |n::l=>n.co+Nd.cos l
end
theorem cu(k:Nat)(n:ab)(g:Bool)(a:List (ab×List Prt))(w:List (List Prt))(r:List (Int×Nat×List Prt))(l:List Nd):(Nd.mk k n g a w r l).co=8+(cwa a+cww w+cwr r)+Nd.cos l:=by simp only[Nd.co]
theorem bg:Nd.cos []=0:=by simp only[Nd.cos]
theorem aL(n:Nd)(l:List Nd):Nd.cos (n::l)=n.co+Nd.cos l:=by simp only[Nd.cos]
theorem eS(n:Nd):∀l:List Nd,Nd.cos (l++[n])=Nd.cos l+n.co
 | []=>by grind[aL,bg]
 |x::l=>by rw[List.cons_append,aL,aL,eS n l];omega
theorem ke(n:Nd):8<=n.co:=by
 cases n;rw[cu];omega
theorem dl{k:Nat}{n:ab}{g:Bool}{l:List Nd}:(Nd.mk k n g [] [] [] l).co=8+Nd.cos l:=by rw[cu];simp[cwa,cww,cwr]
theorem gJ{k:Nat}{n:ab}{g:Bool}{x:Nd}:(Nd.mk k n g [] [] [] [x]).co=8+x.co:=by rw[dl,aL,bg];omega
theorem kg{k:Nat}{n:ab}{g:Bool}{x y:Nd}:(Nd.mk k n g [] [] [] [x,y]).co=8+x.co+y.co:=by grind[dl,aL,bg]
theorem xf(a b:List Tok):wtl (a++b)=wtl a+wtl b:=by simp[wtl]
theorem qx{r ts:List Tok}(h:r <:+ ts):wtl r<=wtl ts:=by
 obtain⟨a,rfl⟩:=h
 rw[xf];omega
theorem du(ts:List Tok):wtl (ay ts)<=wtl ts:=qx (aq ts)
theorem cL(ts:List Tok):wtl ts.tail<=wtl ts:=qx (am ts)
theorem k_{ts:List Tok}(h:ts≠[]):wtl ts.tail+1<=wtl ts:=by
 cases ts with
 |nil=>grind
 |cons t u=>grind[dE,pk]
theorem dX{s:ab}{ts:List Tok}{u:Unit}{r:List Tok}(h:aX s ts=.ok u r):wtl r+1<=wtl ts:=by
 unfold aX at h
 split at h
 ·rename_i h1
  injection h with _ h2
  rw[<- h2];refine k_ fun e=>?_
  rw[e]at h1
  cases h1
 ·cases h
theorem ig{ts:List Tok}{ps:List Prt}{r:List Tok}(h:bS ts=.ok ps r):cwt ps+40+40*wtl r<=40*wtl ts:=by
 cases ts with
 |nil=>cases h
 |cons t u=>
  simp only[bS]at h;split at h
  ·grind[dE,l4,wt]
  ·cases h
def Cq(d:Nat)(P:Pa Nd):Prop:=∀ts a r,P ts=.ok a r->a.co+d+40*wtl r<=40*wtl ts
theorem nM{cmd:Pa Nd}(h:Cq 24 cmd):∀(f:Nat) (l:List Nd) (ts:List Tok) (a:List Nd) (r:List Tok),dy cmd f l ts=.ok a r->Nd.cos a+40*wtl r<=Nd.cos l+40*wtl ts
 |0,l,ts,a,r,e=>by cases e;omega
 |f+1,l,ts,a,r,e=>by
  unfold dy at e;split at e
  ·obtain⟨x,s,h1,h2⟩:=ag e
   have h3:=h _ _ _ h1;have h4:=nM h f _ s a r h2;grind[du,cL,eS]
  grind
theorem xg{cmd:Pa Nd}(h:Cq 24 cmd):Cq 16 (pipe cmd):=fun ts a r e=>by
 obtain⟨x,s,h1,h2⟩:=ag e
 have h3:=h _ _ _ h1
 have h4:wtl (if bP [[33]] ts=true then ts.tail else ts)<=wtl ts:=by grind[cL]
 obtain⟨l,s2,h5,h6⟩:=ag h2
 have h7:=nM h _ _ s _ _ h5
 grind[aL,bg,dl]
theorem nN{pi:Pa Nd}(h:Cq 16 pi):∀(f:Nat) (n:Nd) (ts:List Tok) (a:Nd) (r:List Tok),dx pi f n ts=.ok a r->a.co+40*wtl r<=n.co+40*wtl ts
 |0,n,ts,a,r,e=>by cases e;omega
 |f+1,n,ts,a,r,e=>by
  unfold dx at e;split at e
  ·obtain⟨x,s,h1,h2⟩:=ag e
   have h3:=h _ _ _ h1;have h4:=nN h f _ s a r h2;grind[du,cL,kg]
  grind
theorem xh{pi:Pa Nd}(h:Cq 16 pi):Cq 16 (item pi):=fun ts a r e=>by
 obtain⟨x,s,h1,h2⟩:=ag e
 have h3:=h _ _ _ h1
 have h4:=nN h _ _ s a r h2
 omega
theorem xi(ts:List Tok)(n:Nd):(back ts n).co<=8+n.co:=by
 grind[back,gJ]
theorem nP{it:Pa Nd}(h:Cq 16 it):∀(f:Nat) (l:List Nd) (ts:List Tok) (a:List Nd) (r:List Tok),ci it f l ts=.ok a r->Nd.cos a+8*a.length+40*wtl r<=Nd.cos l+8*l.length+40*wtl ts
 |0,l,ts,a,r,e=>by cases e;omega
 |f+1,l,ts,a,r,e=>by
  have h0:=du ts;unfold ci at e;split at e
  ·grind
  ·obtain⟨x,s,h1,h2⟩:=ag e
   have h3:=h _ _ _ h1;have h5:=xi s x;split at h2
   ·have h4:=nP h f _ _ a r h2
    grind[cL,eS]
   grind[eS]
theorem nQ{cmd:Pa Nd}(h:Cq 24 cmd){ts:List Tok}{l:List Nd}{r:List Tok}(e:gh cmd ts=.ok l r):Nd.cos l+8*l.length+40*wtl r<=40*wtl ts:=by
 have:=nP (xh (xg h)) _ _ ts _ _ e
 grind[bg]
theorem qy{cmd:Pa Nd}(h:Cq 24 cmd){ts:List Tok}{a:Nd}{r:List Tok}(e:cK cmd ts=.ok a r):a.co+40*wtl r<=8+40*wtl ts/\(a.kids≠[]->a.co+40*wtl r<=40*wtl ts):=by
 obtain⟨l,s,h1,h2⟩:=ag e
 have h3:=nQ h h1
 injection h2 with h2 h6
 subst h2 h6
 rw[dl]
 refine⟨by omega,fun hk=>?_⟩
 have:0<l.length:=List.length_pos_iff.2 hk
 omega
theorem fu{cmd:Pa Nd}(h:Cq 24 cmd):Cq 0 (eD cmd):=fun ts a r e=>by
 obtain⟨n,s,h1,h2⟩:=ag e
 obtain⟨h3,h5⟩:=qy h h1
 split at h2
 ·cases h2
 grind
theorem k'{so:Pa Nd}(h:Cq 0 so)(k:Nat)(c:ab):Cq 0 (closed so k c):=fun ts a r e=>by
 obtain⟨x,s,h1,h2⟩:=ag e
 have h3:=h _ _ _ h1
 obtain⟨u,s2,h5,h6⟩:=ag h2
 have h4:=dX h5
 grind[gJ]
theorem kh{so:Pa Nd}(h:Cq 0 so){k:Nat}{c:ab}{e:Option ab}{ts:List Tok}{n:Nd}{r:List Tok}(hh:aY so k c e ts=.ok n r):∃a b,n=.mk k [] false [] [] [] [a,b]/\n.co+40*wtl r<=40*wtl ts:=by
 obtain⟨a,s,h1,h2⟩:=ag hh
 have h3:=h _ _ _ h1
 obtain⟨u,s2,h5,h6⟩:=ag h2
 have h4:=dX h5
 obtain⟨b,s3,h7,h8⟩:=ag h6
 have h9:=h _ _ _ h7
 cases e with
 |none=>
  grind[kg]
 |some c2=>
  obtain⟨u,s4,h11,h12⟩:=ag h8;have h10:=dX h11;grind[kg]
theorem iX{so:Pa Nd}(h:Cq 0 so)(k:Nat)(c:ab)(e:Option ab):Cq 0 (aY so k c e):=fun ts a r hh=>by
 obtain⟨x,y,_,h1⟩:=kh h hh
 exact h1
theorem iY:∀ts:List Tok,cww (aI ts).1+40*wtl (aI ts).2<=40*wtl ts
 | []=>by unfold aI;exact Nat.le_refl _
 |t::r=>by
  unfold aI;split
  ·have h1:=iY r
   grind[l4,eR,dE,wt]
  ·simp[cww]
theorem ki{so:Pa Nd}(h:Cq 0 so){n:ab}{ws:List (List Prt)}{ts:List Tok}{a:Nd}{r:List Tok}(hh:dk so n ws ts=.ok a r):a.co+40*wtl r+40<=cww ws+40*wtl ts:=by
 obtain⟨u,s,h1,h2⟩:=ag hh
 obtain⟨b,s2,h3,h4⟩:=ag h2
 obtain⟨u2,s3,h5,h6⟩:=ag h4
 have h7:=h _ _ _ h3
 have h8:=dX h1
 have h9:=dX h5
 grind[du,cu,aL,bg,cwa,cwr]
theorem xj{so:Pa Nd}(h:Cq 0 so):Cq 0 (eE so):=fun ts a r hh=>by
 cases ts with
 |nil=>cases hh
 |cons t u=>
  simp only[eE]at hh;have hl:=du u;have ht:=pk t;rw[dE];split at hh
  ·split at hh
   ·have h1:=iY (ay u).tail
    have h4:=cL (ay u);unfold gT at hh;split at hh
    ·have h2:=ki h hh
     grind[cL,aI,ay]
    ·cases hh
   ·have h2:=ki h hh
    have h3:wtl (if(aR [59] (ay u)&& !isK 3 u)=true then(ay u).tail else ay u)<=wtl u:=by
     grind[cL,ay]
    have h4:cww oB=1:=rfl;omega
  ·cases hh
theorem qz:∀(f:Nat) (l:List (List Prt)) (ts:List Tok) (a:List (List Prt)) (r:List Tok),fD f l ts=.ok a r->cww a+40*wtl r<=cww l+40*wtl ts
 |0,l,ts,a,r,e=>by cases e;omega
 |f+1,l,ts,a,r,e=>by
  unfold fD at e;split at e
  ·obtain⟨w,s,h1,h2⟩:=ag e
   have h3:=ig h1;have h4:=cL ts;have h5:=qz f _ s a r h2;grind[kb]
  grind
theorem y3{cmd:Pa Nd}(h:Cq 24 cmd):Cq 0 (arm (cK cmd)):=fun ts a r e=>by
 obtain⟨w,s,h1,h2⟩:=ag e
 have h3:=ig h1
 have h4:wtl (if aR [40] ts=true then ts.tail else ts)<=wtl ts:=by grind[cL]
 obtain⟨ws,s2,h5,h6⟩:=ag h2
 have h7:=qz _ _ s _ _ h5
 rw[eR]at h7
 obtain⟨u,s3,h9,h10⟩:=ag h6
 have h8:=dX h9
 obtain⟨n,s4,h11,h12⟩:=ag h10
 have h13:=(qy h h11).1
 obtain⟨u2,s5,h15,h16⟩:=ag h12
 have h14:=dX h15
 grind[cu,aL,bg,cwa,cwr,cww]
theorem nS{ar:Pa Nd}(h:Cq 0 ar):∀(f:Nat) (l:List Nd) (ts:List Tok) (a:List Nd) (r:List Tok),dg ar f l ts=.ok a r->Nd.cos a+40*wtl r<=Nd.cos l+40*wtl ts
 |0,l,ts,a,r,e=>by cases e;omega
 |f+1,l,ts,a,r,e=>by
  have h0:=du ts;unfold dg at e;split at e
  ·grind
  ·obtain⟨x,s,h1,h2⟩:=ag e
   have h3:=h _ _ _ h1;have h5:=nS h f _ s a r h2;grind[eS]
theorem rT{cmd:Pa Nd}(h:Cq 24 cmd):Cq 0 (gA (cK cmd)):=fun ts a r e=>by
 obtain⟨w,s,h1,h2⟩:=ag e
 have h3:=ig h1
 obtain⟨u,s2,h5,h6⟩:=ag h2
 have h4:=dX h5
 have h0:=du s
 obtain⟨l,s3,h7,h8⟩:=ag h6
 have h9:=nS (y3 h) _ _ s2 _ _ h7
 obtain⟨u2,s4,h11,h12⟩:=ag h8
 have h10:=dX h11
 grind[cu,eR,bg,cwa,cwr,cww]
theorem lc(n z:Nd):(n.addKid z).co=n.co+z.co:=by
 cases n
 grind[Nd.addKid,cu,eS]
theorem qA{so:Pa Nd}{inner:Option (Pa Nd)}(h:Cq 0 so)(hi:∀c,inner=some c->Cq 0 c):Cq 0 (fK so inner):=fun ts a r e=>by
 obtain⟨n,s,h1,h2⟩:=ag e
 obtain⟨_,_,_,h3⟩:=kh h h1
 split at h2
 ·obtain⟨k,s2,h10,h11⟩:=ag h2
  have h12:=h _ _ _ h10;grind[cL,lc]
 ·split at h2
  ·cases inner with
   |none=>cases h2
   |some i=>
    obtain⟨k,s2,h10,h11⟩:=ag h2;have h12:=hi i rfl _ _ _ h10;grind[cL,lc]
  grind
theorem kj{ts:List Tok}{x:Int×Nat×List Prt}{r:List Tok}(h:dJ ts=.ok x r):40+cwt x.2.2+40*wtl r<=40*wtl ts:=by
 cases ts with
 |nil=>cases h
 |cons t u=>
  obtain⟨w,s,h1,h2⟩:=ag (p:=bS u) h;have h3:=ig h1;grind[dE,fa]
theorem kk:∀(f:Nat) (l:List (Int×Nat×List Prt)) (ts:List Tok) (a:List (Int×Nat×List Prt)) (r:List Tok),bC f l ts=.ok a r->cwr a+40*wtl r<=cwr l+40*wtl ts
 |0,l,ts,a,r,e=>by cases e;omega
 |f+1,l,ts,a,r,e=>by
  unfold bC at e;split at e
  ·obtain⟨w,s,h1,h2⟩:=ag e
   have h3:=kj h1;have h5:=kk f _ s a r h2;grind[kc]
  grind
theorem xk{cmd conds:Pa Nd}(h1:Cq 24 cmd)(h3:Cq 0 conds):∀b,Cq 0 (kp (cK cmd) (eD cmd) conds b)
 |.sub=>k' (fu h1) _ _
 |.grp=>k' (fu h1) _ _
 |.iff=>h3
 |.whl=>iX (fu h1) 9 kDo (some dw)
 |.unt=>iX (fu h1) 10 kDo (some dw)
 |.for_=>xj (fu h1)
 |.case_=>rT h1
theorem xl{bo:Blk->Pa Nd}(h:∀b,Cq 0 (bo b))(hr:∀b ts a r,bo b ts=.ok a r->a.rs=[])(b:Blk):Cq 24 (fL bo b):=fun ts a r e=>by
 obtain⟨n,s,h1,h2⟩:=ag e
 have h3:=hr _ _ _ _ h1
 have h4:=h b _ _ _ h1
 obtain⟨u,s2,h6,h7⟩:=ag h2
 have h8:wtl s2<=wtl s:=by
  split at h6
  ·have:=dX h6;omega
  grind
 obtain⟨l,s3,h9,h10⟩:=ag h7
 rw[h3]at h9
 have h11:=kk _ _ s2 _ _ h9
 injection h10 with h10 h14
 subst h10 h14
 have hp:=ke n
 have ht:ts≠[]:=fun e=>by
  grind[xd]
 have h12:=k_ ht
 have h13:(n.setRs l).co=n.co+cwr l:=by
  cases n
  grind[Nd.rs,Nd.setRs,cu,cwr]
 grind[cwr]
theorem y4{ps:List Prt}{x:ab×List Prt}(e:aG ps=some x):cwt x.2<=cwt ps:=by
 cases ps with
 |nil=>cases e
 |cons p r=>
  grind[aG,dF]
def Sim.co(x:Sim):Nat:=8+(cwa x.a+cww x.w+cwr x.r)
theorem nT(x:Sim)(p:List Prt):(x.word p).co<=x.co+1+cwt p:=by
 unfold Sim.word
 split
 ·rename_i y hy
  have:=y4 hy;grind[Sim.co,uK,kb]
 grind[Sim.co,kb]
theorem fv:∀(f:Nat) (x:Sim) (ts:List Tok) (n:Nd) (r:List Tok),aS f x ts=.ok n r->n.co+40*wtl r<=x.co+40*wtl ts
 |f,x,ts,n,r,e=>by
  have hend:x.nd.co=x.co:=by
   grind[Sim.nd,cu,Sim.co,bg]
  cases f with
  |zero=>cases e;omega
  |succ f=>
   cases ts with
   |nil=>cases e;omega
   |cons t u=>
    simp only[aS]at e;split at e
    ·obtain⟨y,s,h1,h2⟩:=ag e
     have h3:=kj h1;have h4:=fv f ⟨x.a,x.w,x.r++[y]⟩ s n r h2;grind[Sim.co,kc]
    ·split at e
     ·have h4:=fv f _ u n r e
      grind[nT,l4,dE,wt]
     grind
theorem rU:Cq 24 simple:=fun ts a r e=>by
 unfold simple at e
 split at e
 ·rename_i hk
  cases ts with
  |nil=>cases hk
  |cons t u=>
   have e0:(Sim.mk [] [] []).co=8:=rfl;simp only[List.length_cons,aS]at e;split at e
   ·obtain⟨y,s,h1,h2⟩:=ag e
    have h3:=kj h1;have h4:=fv _ _ _ _ _ h2;grind[Sim.co,cwa,cww,cwr,cwt,kc]
   ·split at e
    ·have h4:=fv _ _ _ _ _ e
     grind[nT,l4,dE,wt]
    grind[isK]
 ·cases e
theorem y5{comp:Blk->Pa Nd}(h:∀b,Cq 24 (comp b)):Cq 24 (iu comp):=fun ts a r e=>by
 cases ts with
 |nil=>cases e
 |cons t u=>
  simp only[iu]at e;split at e
  ·split at e
   ·cases e
   ·obtain⟨x,s,h1,h2⟩:=ag e
    have h3:=h _ _ _ _ h1;grind[du,cL,pk,gJ,dE]
  ·cases e
theorem uL{comp:Blk->Pa Nd}{inner:Option (Blk->Pa Nd)}(h:∀b,Cq 24 (comp b))(hi:∀c,inner=some c->∀b,Cq 24 (c b)):Cq 24 (gU comp inner):=fun ts a r e=>by
 unfold gU at e
 split at e
 ·exact h _ _ _ _ e
 ·split at e
  ·cases e
  ·split at e
   ·cases inner with
    |none=>cases e
    |some c=>exact y5 (hi c rfl) _ _ _ e
   ·exact rU _ _ _ e
theorem uM:∀k:Nat,Cq 24 (lev k).cmd/\Cq 0 (lev k).conds/\∀b,Cq 24 ((lev k).comp b)
 |0=>by
  have h1:∀b,Cq 24 ((lev 0).comp b):=fun b ts a r e=>by cases e
  have h2:Cq 24 (lev 0).cmd:=uL (inner:=none) h1 (fun c h=>by cases h);exact⟨h2,qA (inner:=none) (fu h2) (fun c h=>by cases h),h1⟩
 |k+1=>by
  obtain⟨i1,i2,i3⟩:=uM k;have h1:∀b,Cq 24 ((lev (k+1)).comp b):=fun b=>xl (xk i1 i2) (qg (o_ (N:=0) k).2.2.2) b
  have h2:Cq 24 (lev (k+1)).cmd:=uL (inner:=some (lev k).comp) h1 (fun c h=>by simp_all);grind[qA,lev,fu]
theorem rV(ts:List Tok):wtl (ts.map fB)=wtl ts:=by
 unfold wtl
 rw[List.map_map]
 rfl
theorem f7{s:ab}{l:List Nd}(hs:s.length<=8000)(h:aH s=.ok l):Nd.cos l<=40*s.length:=by
 unfold aH at h
 cases hx:lex s with
 |err f m=>grind
 |ok ts=>
  rw[hx]at h;obtain⟨xs,m,h1,rfl,h3⟩:=lP hs hx;have h5:=lZ s.length s 1 (Nat.le_refl _);rw[h1]at h5;simp only[gF,List.dropLast_concat]at h
  cases hp:eK 20 (xs.map fB)with
  |bad e m=>grind
  |ok l2 r=>
   rw[hp]at h
   cases h
   obtain⟨l3,s3,h6,h7⟩:=ag (p:=gh (lev 20).cmd (xs.map fB)) hp;have h8:=nQ (uM 20).1 h6;rw[rV]at h8;split at h7
   ·grind
   ·cases h7
def PS.n(s:PS):Nat:=s.c.length
theorem bh(s:PS)(x:Ins):(s.add x).n=s.n+1:=by simp[PS.n,PS.add]
theorem bX(s:PS)(o:Nat)(a:Int):(s.op o a).n=s.n+1:=bh s _
theorem cI(s:PS)(k:Nat):(s.here k).n=s.n:=by simp[PS.n,PS.here]
theorem ii:∀(l:List Nat) (s:PS),(s.heres l).n=s.n
 | [],s=>rfl
 |k::l,s=>by rw[PS.heres,ii l,cI]
theorem bR(s:PS)(k:Int)(F:PS->PS):(s.child k F).n=(F (s.add {op:=13,b:=k})).n+1:=by rw[PS.child,cI,bX]
theorem iD(s:PS)(b:Option Nat):(s.item b).n=s.n+1:=by
 unfold PS.item
 grind[bh,PS.n]
def Ws.b:Ws->Nat
 |.nil=>0
 |.cons _ w r=>1+cwt w.ps+r.b
theorem rW:∀w:Ws,cww w.ws=w.b
 |.nil=>rfl
 |.cons g w r=>by simp only[Ws.ws,Ws.b,eR,rW r]
theorem y6:∀w:Ws,cwa w.as=w.b
 |.nil=>rfl
 |.cons g w r=>by simp only[Ws.as,Ws.b,<- y6 r];simp[cwa]
theorem fG:∀w:Ws,cwr w.rs=w.b
 |.nil=>rfl
 |.cons g w r=>by simp only[Ws.rs,Ws.b,<- fG r];simp[cwr]
theorem cX:cwa []=0/\cww []=0/\cwr []=0:=⟨rfl,rfl,rfl⟩
theorem eJ{s:PS}{r:Ws}{F:PS->PS}{k:Nat}(hr:(r.g 10 (s.op 9 0)).n<=(s.op 9 0).n+r.b)(hF:∀s,(F s).n<=s.n+k):(if r.nil? then F (if r.nil? then s else r.g 10 (s.op 9 0))else(F (if r.nil? then s else r.g 10 (s.op 9 0))).op 11 0).n<=s.n+(2+r.b+k):=by
 grind[bX]
def Am.wb:Am->Nat
 |.nil=>0
 |.cons w _ r=>w.b+r.wb
def Am.bb:Am->Nat
 |.nil=>0
 |.cons _ b r=>b.nd.co+r.bb
theorem pp:∀l:Am,Nd.cos l.nds=8*l.nds.length+l.wb+l.bb
 |.nil=>by grind[Am.nds,bg,Am.wb,Am.bb]
 |.cons w b r=>by
  simp only[Am.nds,aL,pp r,Am.wb,Am.bb,cu,bg,rW,cX.1,cX.2.2,List.length_cons];omega
theorem cJ{s:ab}{l:List Nd}(h:aH s=.ok l):s.length<=8000:=by
 grind[aH,lex]
theorem qB{p:Prt}{t:Tr}{l:List Nd}(h1:aH p.t=.ok l)(h2:t.nd=.mk 4 [] false [] [] [] l):t.nd.co<=8+40*p.t.length:=by
 simp_all[dl,f7,cJ]
mutual
theorem Wd.len:∀(w:Wd),w.ok->∀(s:PS),(w.g s).n<=s.n+cwt w.ps
 |.nil,_,s=>by grind[Wd.g]
 |.lit p r,h,s=>by
  simp_all[Wd.ok,Wd.g,Wd.ps,dF,Wd.len]
 |.sub p t r,h,s=>by
  simp only[Wd.ok]at h;obtain⟨h1,⟨l,h2,h3,_⟩,h4,h5⟩:=h;simp only[Wd.g,Wd.ps,dF,if_pos h1];have h6:=qB h2 h3;split
  ·have h7:=Wd.len r h5 ((s.child 8 t.g).op 15 0)
   have h8:=Tr.len t h4 (s.add {op:=13,b:=8});grind[bX,bR,bh]
  ·have h7:=Wd.len r h5 s
   omega
 |.bad p f r,h,s=>by
  simp only[Wd.ok]at h;obtain⟨h1,_,h5⟩:=h;simp only[Wd.g,Wd.ps,dF,if_pos h1];split
  ·grind[PS.n]
  ·have h7:=Wd.len r h5 s
   omega
theorem Ws.len(o:Nat):∀(w:Ws),w.ok->∀(s:PS),(w.g o s).n<=s.n+w.b
 |.nil,_,s=>by grind[Ws.g]
 |.cons g w r,h,s=>by
  simp only[Ws.ok]at h;simp only[Ws.g,Ws.b];have h1:=Ws.len o r h.2 ((w.g s).add {op:=o,a:=g.a,b:=g.b,s:=g.s,w:=w.ps});have h2:=Wd.len w h.1 s;grind[bh]
theorem Ws.lenw:∀(w:Ws),w.ok->∀(s:PS) (l:List Nat),(w.gw s l).1.n<=s.n+w.b
 |.nil,_,s,l=>by grind[Ws.gw]
 |.cons g w r,h,s,l=>by
  simp only[Ws.ok]at h;simp only[Ws.gw,Ws.b];have h1:=Ws.lenw r h.2 ((w.g s).add {op:=20,w:=w.ps}) (l++[(w.g s).c.length]);have h2:=Wd.len w h.1 s;grind[bh]
theorem Tr.len:∀(t:Tr),t.ok->∀(s:PS),(t.g s).n+2<=s.n+t.nd.co
 |.simple a w r,h,s=>by
  simp only[Tr.ok]at h;simp only[Tr.g,Tr.nd,cu,bg,y6,rW,fG];split
  ·have h3:=eJ (s:=s) (r:=r) (F:=fun s=>if w.nil? then(if a.plain&&r.plain then(a.g 8 (if w.nil? then s else w.g 7 (s.op 6 0))).op 5 0 else a.g 8 (if w.nil? then s else w.g 7 (s.op 6 0)))else(a.g 8 (if w.nil? then s else w.g 7 (s.op 6 0))).op 12 0) (k:=a.b+w.b+2) (Ws.len 10 r h.2.2 _) (fun s=>by
    have h4:=Ws.len 8 a h.1 s;have h5:=Ws.len 8 a h.1 (w.g 7 (s.op 6 0));have h6:=Ws.len 7 w h.2.1 (s.op 6 0);grind[bX])
   omega
  ·omega
 |.pipe g l,h,s=>by
  simp only[Tr.ok]at h;simp only[Tr.g,Tr.nd,dl];split
  ·have h1:=Ts.lenp l h.1 true s
   have h2:=Ts.lenp l h.1 true (s.op 24 1);grind[bX]
  ·omega
 |.ao o x y,h,s=>by
  simp only[Tr.ok]at h;simp only[Tr.g,Tr.nd,kg];split
  ·have h1:=Tr.len x h.1 (s.op 24 1)
   have h2:=Tr.len y h.2 (((x.g (s.op 24 1)).op 24 (-1)).op (if o then 2 else 3) 0);grind[bX,cI]
  ·omega
 |.lst l,h,s=>by
  simp only[Tr.ok]at h;simp only[Tr.g,Tr.nd,dl];split
  ·have h1:=Ts.lenl l h none s
   omega
  ·omega
 |.back x,h,s=>by
  simp only[Tr.ok]at h;simp only[Tr.g,Tr.nd,gJ];split
  ·have h1:=Tr.len x h (s.add {op:=13,b:=4})
   grind[bh,bX,bR]
  ·omega
 |.sub x r,h,s=>by
  simp only[Tr.ok]at h;simp only[Tr.g,Tr.nd,cu,aL,bg,fG,cX];split
  ·have h3:=eJ (s:=s) (r:=r) (F:=fun s=>(s.child 0 x.g).op 14 0) (k:=x.nd.co+1) (Ws.len 10 r h.2 _) (fun s=>by
    have h1:=Tr.len x h.1 (s.add {op:=13,b:=0});grind[bh,bX,bR])
   omega
  ·omega
 |.grp x r,h,s=>by
  simp only[Tr.ok]at h;simp only[Tr.g,Tr.nd,cu,aL,bg,fG,cX];split
  ·have h3:=eJ (s:=s) (r:=r) (F:=fun s=>x.g s) (k:=x.nd.co-2) (Ws.len 10 r h.2 _) (fun s=>by
    have h1:=Tr.len x h.1 s;omega)
   omega
  ·omega
 |.iff c t r,h,s=>by
  simp only[Tr.ok]at h;simp only[Tr.g,Tr.nd,cu,aL,bg,fG,cX];split
  ·have h3:=eJ (s:=s) (r:=r) (F:=fun s=>((((t.g (((c.g (s.op 24 1)).op 24 (-1)).op 3 0)).op 1 0).here ((c.g (s.op 24 1)).op 24 (-1)).c.length).op 5 0).here (t.g (((c.g (s.op 24 1)).op 24 (-1)).op 3 0)).c.length) (k:=c.nd.co+t.nd.co+1) (Ws.len 10 r h.2.2 _) (fun s=>by
    have h1:=Tr.len c h.1 (s.op 24 1);have h2:=Tr.len t h.2.1 (((c.g (s.op 24 1)).op 24 (-1)).op 3 0);grind[bX,cI])
   omega
  ·omega
 |.ife c t e r,h,s=>by
  simp only[Tr.ok]at h;simp only[Tr.g,Tr.nd,cu,aL,bg,fG,cX];split
  ·have h3:=eJ (s:=s) (r:=r) (F:=fun s=>(e.g (((t.g (((c.g (s.op 24 1)).op 24 (-1)).op 3 0)).op 1 0).here ((c.g (s.op 24 1)).op 24 (-1)).c.length)).here (t.g (((c.g (s.op 24 1)).op 24 (-1)).op 3 0)).c.length) (k:=c.nd.co+t.nd.co+e.nd.co) (Ws.len 10 r h.2.2.2 _) (fun s=>by
    have h1:=Tr.len c h.1 (s.op 24 1);have h2:=Tr.len t h.2.1 (((c.g (s.op 24 1)).op 24 (-1)).op 3 0);have h4:=Tr.len e h.2.2.1 (((t.g (((c.g (s.op 24 1)).op 24 (-1)).op 3 0)).op 1 0).here ((c.g (s.op 24 1)).op 24 (-1)).c.length);grind[bX,cI])
   omega
  ·omega
 |.loop u c b r,h,s=>by
  simp only[Tr.ok]at h;simp only[Tr.g,Tr.nd,cu,aL,bg,fG,cX];split
  ·have h3:=eJ (s:=s) (r:=r) (F:=fun s=>((((b.g (((c.g (s.op 24 1)).op 24 (-1)).op (if u then 2 else 3) 0)).op 1 s.c.length).here ((c.g (s.op 24 1)).op 24 (-1)).c.length).op 5 0)) (k:=c.nd.co+b.nd.co+1) (Ws.len 10 r h.2.2 _) (fun s=>by
    have h1:=Tr.len c h.1.1 (s.op 24 1);have h2:=Tr.len b h.2.1 (((c.g (s.op 24 1)).op 24 (-1)).op (if u then 2 else 3) 0);grind[bX,cI])
   omega
  ·omega
 |.for_ nm w b r,h,s=>by
  simp only[Tr.ok]at h;simp only[Tr.g,Tr.nd,cu,aL,bg,fG,rW,cX];split
  ·have h3:=eJ (s:=s) (r:=r) (F:=fun s=>(((b.g ((((w.g 7 (s.op 6 0)).add {op:=17,s:=nm}).op 5 0).op 18 0)).op 1 (((w.g 7 (s.op 6 0)).add {op:=17,s:=nm}).op 5 0).c.length).here (((w.g 7 (s.op 6 0)).add {op:=17,s:=nm}).op 5 0).c.length)) (k:=w.b+b.nd.co+3) (Ws.len 10 r h.2.2 _) (fun s=>by
    have h1:=Ws.len 7 w h.1 (s.op 6 0);have h2:=Tr.len b h.2.1 ((((w.g 7 (s.op 6 0)).add {op:=17,s:=nm}).op 5 0).op 18 0);grind[bX,bh,cI])
   omega
  ·omega
 |.case_ w l r,h,s=>by
  simp only[Tr.ok]at h;simp only[Tr.g,Tr.nd,cu,fG,cX,pp];split
  ·have h3:=eJ (s:=s) (r:=r) (F:=fun s=>((l.gb (((l.gm ((w.g s).add {op:=19,w:=w.ps}) []).1.op 5 0).op 1 0) (l.gm ((w.g s).add {op:=19,w:=w.ps}) []).2 [((l.gm ((w.g s).add {op:=19,w:=w.ps}) []).1.op 5 0).c.length]).1.heres (l.gb (((l.gm ((w.g s).add {op:=19,w:=w.ps}) []).1.op 5 0).op 1 0) (l.gm ((w.g s).add {op:=19,w:=w.ps}) []).2 [((l.gm ((w.g s).add {op:=19,w:=w.ps}) []).1.op 5 0).c.length]).2).op 21 0) (k:=cwt w.ps+l.wb+l.bb+4) (Ws.len 10 r h.2.2 _) (fun s=>by
    have h1:=Wd.len w h.1 s;have h2:=Am.lenm l h.2.1 ((w.g s).add {op:=19,w:=w.ps}) [];have h4:=Am.lenb l h.2.1 (((l.gm ((w.g s).add {op:=19,w:=w.ps}) []).1.op 5 0).op 1 0) (l.gm ((w.g s).add {op:=19,w:=w.ps}) []).2 [((l.gm ((w.g s).add {op:=19,w:=w.ps}) []).1.op 5 0).c.length];grind[bh,bX,ii])
   grind[eR,cww]
  ·omega
 |.fn nm b,h,s=>by
  simp only[Tr.ok]at h;simp only[Tr.g,Tr.nd,gJ];split
  ·have h1:=Tr.len b h (((s.add {op:=22,s:=nm}).op 1 0).here s.c.length)
   grind[cI,bX,bh]
  ·omega
theorem Ts.lenl:∀(l:Ts),l.ok->∀(b:Option Nat) (s:PS),(l.gl b s).n<=s.n+Nd.cos l.nds
 |.nil,_,b,s=>by grind[Ts.gl]
 |.cons x r,h,b,s=>by
  simp only[Ts.ok]at h;simp only[Ts.gl,Ts.nds,aL];have h1:=Ts.lenl r h.2 (some s.c.length) (x.g (s.item b));have h2:=Tr.len x h.1 (s.item b);grind[iD]
theorem Ts.lenp:∀(l:Ts),l.ok->∀(f:Bool) (s:PS),(l.gp f s).n<=s.n+Nd.cos l.nds
 |.nil,_,f,s=>by grind[Ts.gp]
 |.cons x r,h,f,s=>by
  simp only[Ts.ok]at h;simp only[Ts.gp,Ts.nds,aL];have h1:=Ts.lenp r h.2 false (if prt f r.nil? =0 then x.g s else s.child (prt f r.nil? :Nat) x.g);have h2:=Tr.len x h.1 s;have h3:=Tr.len x h.1 (s.add {op:=13,b:=(prt f r.nil? :Nat)});grind[bh,prt,bR]
theorem Am.lenm:∀(l:Am),l.ok->∀(s:PS) (h:List (List Nat)),(l.gm s h).1.n<=s.n+l.wb
 |.nil,_,s,h=>by grind[Am.gm]
 |.cons w b r,h,s,hs=>by
  simp only[Am.ok]at h;simp only[Am.gm,Am.wb];have h1:=Ws.lenw w h.1 s [];have h2:=Am.lenm r h.2.2 (w.gw s []).1 (hs++[(w.gw s []).2]);omega
theorem Am.lenb:∀(l:Am),l.ok->∀(s:PS) (h:List (List Nat)) (k:List Nat),(l.gb s h k).1.n<=s.n+l.bb
 |.nil,_,s,h,k=>by grind[Am.gb]
 |.cons w b r,h,s,hs,k=>by
  simp only[Am.ok]at h;simp only[Am.gb,Am.bb];have h1:=Tr.len b h.2.1 ((s.heres (hs.headD [])).op 5 0);have h2:=Am.lenb r h.2.2 ((b.g ((s.heres (hs.headD [])).op 5 0)).op 1 0) hs.tail (k++[(b.g ((s.heres (hs.headD [])).op 5 0)).c.length]);grind[bX,ii]
end
theorem dc(s:PS)(o:Nat)(a:Int):(s.op o a).e=s.e:=rfl
theorem nU(s:PS)(x:Ins):(s.add x).e=s.e:=rfl
theorem gK(s:PS)(k:Nat):(s.here k).e=s.e:=rfl
theorem l5:∀(l:List Nat) (s:PS),(s.heres l).e=s.e
 | [],s=>rfl
 |k::l,s=>l5 l (s.here k)
theorem jl(s:PS)(k:Int)(F:PS->PS):(s.child k F).e=(F (s.add {op:=13,b:=k})).e:=rfl
theorem nV{b:Bool}{s t:PS}:(if b then s else t).e=if b then s.e else t.e:=by grind
def Am.wf:Am->Bool
 |.nil=>true
 |.cons w _ r=>w.fine&&r.wf
def Am.bf:Am->Bool
 |.nil=>true
 |.cons _ b r=>b.fine&&r.bf
theorem Am.fi:∀{l:Am},l.bf=true->l.wf=true->l.fine=true
 |.nil,_,_=>rfl
 |.cons w b r,h1,h2=>by
  simp_all[Am.bf,Am.wf,Am.fine,Am.fi]
mutual
theorem Wd.er:∀(w:Wd) (s:PS),(w.g s).e=0->s.e=0/\w.fine=true
 |.nil,s,h=>⟨by grind[Wd.g],rfl⟩
 |.lit p r,s,h=>by simp only[Wd.g]at h;simp only[Wd.fine];exact Wd.er r s h
 |.sub p t r,s,h=>by
  simp only[Wd.g]at h;split at h
  ·rename_i h0
   obtain⟨h1,h2⟩:=Wd.er r _ h;rw[dc,jl]at h1;obtain⟨_,h3⟩:=Tr.er t _ h1;grind[Wd.fine]
  ·rename_i h0
   exact absurd (Wd.er r _ h).1 h0
 |.bad p f r,s,h=>by
  simp only[Wd.g]at h;split at h
  ·grind
  ·rename_i h0
   exact absurd (Wd.er r _ h).1 h0
theorem Ws.er(o:Nat):∀(w:Ws) (s:PS),(w.g o s).e=0->s.e=0/\w.fine=true
 |.nil,s,h=>⟨by grind[Ws.g],rfl⟩
 |.cons g w r,s,h=>by
  simp only[Ws.g]at h;obtain⟨h1,h2⟩:=Ws.er o r _ h;rw[nU]at h1;obtain⟨h3,h4⟩:=Wd.er w _ h1;grind[Ws.fine]
theorem Ws.erw:∀(w:Ws) (s:PS) (l:List Nat),(w.gw s l).1.e=0->s.e=0/\w.fine=true
 |.nil,s,l,h=>⟨by grind[Ws.gw],rfl⟩
 |.cons g w r,s,l,h=>by
  simp only[Ws.gw]at h;obtain⟨h1,h2⟩:=Ws.erw r _ _ h;rw[nU]at h1;obtain⟨h3,h4⟩:=Wd.er w _ h1;grind[Ws.fine]
theorem Tr.er:∀(t:Tr) (s:PS),(t.g s).e=0->s.e=0/\t.fine=true
 |.simple a w r,s,h=>by
  simp only[Tr.g]at h;split at h
  ·rename_i h0
   simp only[nV,dc]at h;have ha:(a.g 8 (if w.nil? =true then(if r.nil? =true then s else r.g 10 (s.op 9 0))else w.g 7 ((if r.nil? =true then s else r.g 10 (s.op 9 0)).op 6 0))).e=0:=by
    grind
   obtain⟨h1,h2⟩:=Ws.er 8 a _ ha;have hw:(if r.nil? =true then s else r.g 10 (s.op 9 0)).e=0/\w.fine=true:=by
    cases w with
    |nil=>exact⟨h1,rfl⟩
    |cons g x y=>exact Ws.er 7 (.cons g x y) (PS.op _ 6 0) h1
   have hr:r.fine=true:=by
    cases r with
    |nil=>rfl
    |cons g x y=>exact(Ws.er 10 (.cons g x y) _ hw.1).2
   grind[Tr.fine]
  omega
 |.pipe g l,s,h=>by
  simp only[Tr.g]at h;split at h
  ·rename_i h0
   have hp:(l.gp true (if g=true then s.op 24 1 else s)).e=0:=by
    grind[dc]
   simp only[Tr.fine,(Ts.erp l true _ hp).2];grind
  omega
 |.ao o x y,s,h=>by
  simp only[Tr.g]at h;split at h
  ·rename_i h0
   rw[gK]at h;obtain⟨h1,h2⟩:=Tr.er y _ h;rw[dc,dc]at h1;simp only[Tr.fine,h2,(Tr.er x _ h1).2];grind
  omega
 |.lst l,s,h=>by
  simp only[Tr.g]at h;split at h
  ·rename_i h0
   simp only[Tr.fine,(Ts.erl l _ _ h).2];grind
  omega
 |.back x,s,h=>by
  simp only[Tr.g]at h;split at h
  ·rename_i h0
   rw[dc,jl]at h;simp only[Tr.fine,(Tr.er x _ h).2];grind
  omega
 |.sub x r,s,h=>by
  simp only[Tr.g]at h;split at h
  ·rename_i h0
   simp only[nV,dc,jl,ite_self]at h;obtain⟨h1,h2⟩:=Tr.er x _ h;rw[nU]at h1;have hr:r.fine=true:=by
    cases r with
    |nil=>rfl
    |cons g x y=>exact(Ws.er 10 (.cons g x y) _ h1).2
   grind[Tr.fine]
  omega
 |.grp x r,s,h=>by
  simp only[Tr.g]at h;split at h
  ·rename_i h0
   simp only[nV,dc,ite_self]at h;obtain⟨h1,h2⟩:=Tr.er x _ h;have hr:r.fine=true:=by
    cases r with
    |nil=>rfl
    |cons g x y=>exact(Ws.er 10 (.cons g x y) _ h1).2
   grind[Tr.fine]
  omega
 |.iff c t r,s,h=>by
  simp only[Tr.g]at h;split at h
  ·rename_i h0
   simp only[nV,dc,gK,ite_self]at h;obtain⟨h1,h2⟩:=Tr.er t _ h;rw[dc,dc]at h1;obtain⟨h3,h4⟩:=Tr.er c _ h1;rw[dc]at h3;have hr:r.fine=true:=by
    cases r with
    |nil=>rfl
    |cons g x y=>exact(Ws.er 10 (.cons g x y) _ h3).2
   grind[Tr.fine]
  omega
 |.ife c t e r,s,h=>by
  simp only[Tr.g]at h;split at h
  ·rename_i h0
   simp only[nV,dc,gK,ite_self]at h;obtain⟨h5,h6⟩:=Tr.er e _ h;rw[gK,dc]at h5;obtain⟨h1,h2⟩:=Tr.er t _ h5;rw[dc,dc]at h1;obtain⟨h3,h4⟩:=Tr.er c _ h1;rw[dc]at h3;have hr:r.fine=true:=by
    cases r with
    |nil=>rfl
    |cons g x y=>exact(Ws.er 10 (.cons g x y) _ h3).2
   grind[Tr.fine]
  omega
 |.loop u c b r,s,h=>by
  simp only[Tr.g]at h;split at h
  ·rename_i h0
   simp only[nV,dc,gK,ite_self]at h;obtain⟨h1,h2⟩:=Tr.er b _ h;rw[dc,dc]at h1;obtain⟨h3,h4⟩:=Tr.er c _ h1;rw[dc]at h3;have hr:r.fine=true:=by
    cases r with
    |nil=>rfl
    |cons g x y=>exact(Ws.er 10 (.cons g x y) _ h3).2
   grind[Tr.fine]
  omega
 |.for_ n w b r,s,h=>by
  simp only[Tr.g]at h;split at h
  ·rename_i h0
   simp only[nV,dc,gK,ite_self]at h;obtain⟨h1,h2⟩:=Tr.er b _ h;rw[dc,dc,nU]at h1;obtain⟨h3,h4⟩:=Ws.er 7 w _ h1;rw[dc]at h3;have hr:r.fine=true:=by
    cases r with
    |nil=>rfl
    |cons g x y=>exact(Ws.er 10 (.cons g x y) _ h3).2
   grind[Tr.fine]
  omega
 |.case_ w l r,s,h=>by
  simp only[Tr.g]at h;split at h
  ·rename_i h0
   simp only[nV,dc,l5,ite_self]at h;obtain⟨h1,h2⟩:=Am.erb l _ _ _ h;rw[dc,dc]at h1;obtain⟨h3,h4⟩:=Am.erm l _ _ h1;rw[nU]at h3;obtain⟨h5,h6⟩:=Wd.er w _ h3;have hr:r.fine=true:=by
    cases r with
    |nil=>rfl
    |cons g x y=>exact(Ws.er 10 (.cons g x y) _ h5).2
   grind[Tr.fine,Am.fi]
  omega
 |.fn n b,s,h=>by
  simp only[Tr.g]at h;split at h
  ·rename_i h0
   rw[dc,gK,dc]at h;simp only[Tr.fine,(Tr.er b _ h).2];grind
  omega
theorem Ts.erl:∀(l:Ts) (b:Option Nat) (s:PS),(l.gl b s).e=0->s.e=0/\l.fine=true
 |.nil,b,s,h=>⟨by grind[Ts.gl],rfl⟩
 |.cons x r,b,s,h=>by
  simp only[Ts.gl]at h;obtain⟨h1,h2⟩:=Ts.erl r _ _ h;obtain⟨h3,h4⟩:=Tr.er x _ h1;simp only[Ts.fine,h2,h4];exact⟨h3,rfl⟩
theorem Ts.erp:∀(l:Ts) (f:Bool) (s:PS),(l.gp f s).e=0->s.e=0/\l.fine=true
 |.nil,f,s,h=>⟨by grind[Ts.gp],rfl⟩
 |.cons x r,f,s,h=>by
  simp only[Ts.gp]at h;obtain⟨h1,h2⟩:=Ts.erp r _ _ h;split at h1
  ·obtain⟨h3,h4⟩:=Tr.er x _ h1
   grind[Ts.fine]
  ·rw[jl]at h1
   obtain⟨h3,h4⟩:=Tr.er x _ h1;simp only[Ts.fine,h2,h4];exact⟨h3,rfl⟩
theorem Am.erm:∀(l:Am) (s:PS) (h:List (List Nat)),(l.gm s h).1.e=0->s.e=0/\l.wf=true
 |.nil,s,_,h=>⟨by grind[Am.gm],rfl⟩
 |.cons w b r,s,_,h=>by
  simp only[Am.gm]at h;obtain⟨h1,h2⟩:=Am.erm r _ _ h;obtain⟨h3,h4⟩:=Ws.erw w _ _ h1;grind[Am.wf]
theorem Am.erb:∀(l:Am) (s:PS) (h:List (List Nat)) (k:List Nat),(l.gb s h k).1.e=0->s.e=0/\l.bf=true
 |.nil,s,_,_,h=>⟨by grind[Am.gb],rfl⟩
 |.cons w b r,s,_,_,h=>by
  simp only[Am.gb]at h;obtain⟨h1,h2⟩:=Am.erb r _ _ _ h;rw[dc]at h1;obtain⟨h3,h4⟩:=Tr.er b _ h1;grind[dc,l5,Am.bf]
end
def Ts.clm(m:Bool):Ts->K
 |.nil=>K.nil
 |.cons x r=>(K.item (!r.nil? ||m) x.c).seq (r.clm m)
theorem f8:∀l:Ts,l.clm false=l.cl
 |.nil=>by simp only[Ts.clm,Ts.cl]
 |.cons x r=>by simp_all[Ts.clm,Ts.cl,f8]
theorem nW(m:Bool)(x:Tr)(r:Ts)(p i:Nat):(Ts.cons x r).clm m p i=({op:=0,a:=(i+1:Nat),b:=if(!r.nil? ||m)=true then((i+1+itm (x.c (p+1) (i+1))+1:Nat):Int)else 0}:Ins)::(x.c (p+1) (i+1)++r.clm m (p+1+(x.c (p+1) (i+1)).length) (i+1+itm (x.c (p+1) (i+1)))):=by
 simp only[Ts.clm,K.seq,K.item,List.cons_append,List.length_cons,aJ,aD]
 grind
def Ts.hd:Ts->Nat->Nat->List (Nat×Nat)
 |.nil,_,_=>[]
 |.cons x r,p,i=>(p,i+1)::r.hd (p+1+(x.c (p+1) (i+1)).length) (i+1+itm (x.c (p+1) (i+1)))
theorem uN:∀(l:Ts) (p i:Nat),(l.hd p i).length=l.nds.length
 |.nil,_,_=>rfl
 |.cons x r,p,i=>by simp_all[Ts.hd,Ts.nds,uN]
theorem uO:∀(l:Ts) (p i:Nat),∀y∈l.hd p i,p<=y.1/\i<y.2
 |.nil,_,_,y,hy=>by cases hy
 |.cons x r,p,i,y,hy=>by
  simp only[Ts.hd]at hy;rcases List.mem_cons.1 hy with rfl|hy
  ·omega
  ·have:=uO r _ _ y hy;omega
theorem xP(m:Bool):∀(l:Ts) (A B:List Ins) (i k:Nat) (y:Nat×Nat),(l.hd A.length i)[k]? =some y->
  ∃x:Ins,(A++(l.clm m A.length i++B))[y.1]? =some x/\aD x=true/\x.a=(y.2:Nat)/\x.b=(match(l.hd A.length i)[k+1]? with|some z=>((z.2:Nat):Int)|none=>if m then((i+itm (l.cl A.length i)+1:Nat):Int)else 0)
 |.nil,A,B,i,k,y,h=>by simp[Ts.hd]at h
 |.cons t r,A,B,i,k,y,h=>by
  rw[nW];have hcl:itm ((Ts.cons t r).cl A.length i)=itm (t.c (A.length+1) (i+1))+itm (r.cl (A.length+1+(t.c (A.length+1) (i+1)).length) (i+1+itm (t.c (A.length+1) (i+1))))+1:=by
   rw[<- f8,nW,f8];simp[aJ,bu,aD]
  rw[hcl];simp only[Ts.hd]at h |-
  obtain⟨n,hn⟩:∃n,t.c (A.length+1) (i+1)=n:=⟨_,rfl⟩;rw[hn]at h |-
  cases k with
  |zero=>
   simp only[List.getElem?_cons_zero,Option.some.injEq]at h;subst h;refine⟨_,by rw[List.getElem?_append_right (Nat.le_refl _),Nat.sub_self];rfl,rfl,rfl,?_⟩;simp only[List.getElem?_cons_succ]
   cases r with
   |nil=>simp[Ts.hd,Ts.nil?,Ts.cl,K.nil,bU];grind
   |cons u s=>simp[Ts.hd,Ts.nil?]
  |succ k=>
   simp only[List.getElem?_cons_succ]at h |-
   obtain⟨z,hz⟩:∃z:Ins,({op:=0,a:=(i+1:Nat),b:=if(!r.nil? ||m)=true then((i+1+itm n+1:Nat):Int)else 0}:Ins)=z:=⟨_,rfl⟩;rw[hz];have hl:(A++z::n).length=A.length+1+n.length:=by grind
   have h1:=xP m r (A++z::n) B (i+1+itm n) k y (by grind);grind
theorem fw{l:Ts}(h:(ax l).e=0):l.fine=true/\(ax l).c=l.cl 0 0++[({op:=26}:Ins)]/\itm (l.cl 0 0)<=500:=by
 obtain⟨s,hs⟩:∃s,((Tr.lst l).g ⟨[],0,0⟩).op 26 0=s:=⟨_,rfl⟩
 have hm:ax l=if s.e=0/\500<s.i then⟨s.c,s.i,6⟩else s:=by grind[ax]
 rw[hm]at h |-
 by_cases hc:s.e=0/\500<s.i
 ·grind
 ·rw[if_neg hc]at h |-
  have he:((Tr.lst l).g ⟨[],0,0⟩).e=0:=by grind[dc]
  have hf:=(Tr.er (.lst l) _ he).2;have hg:=Tr.gen (.lst l) hf ⟨[],0,0⟩ rfl;have hl:(Tr.lst l).c=l.cl:=by grind[Tr.c]
  rw[hl]at hg;grind[Tr.fine,PS.op,PS.add]
def Lab(N:Nat)(C:List Ins)(ls:List Stt):Prop:=
 ls.length=C.length/\ls[0]? =some (Stt.mk [] 0)/\(∀t∈ls,Rm N t 0)/\
  ∀(k:Nat) (x:Ins) (t:Stt),C[k]? =some x->ls[k]? =some t->(x.op=26/\t=Stt.mk [] 0)\/
   ∃nx nm,Stp t x nx nm/\(∀u,nx=some u->ls[k+1]? =some u)/\(∀u,nm=some u->∃j:Nat,x.a=(j:Int)/\ls[j]? =some u)/\(x.op=22->∃j:Nat,x.a=(j:Int)/\ls[j]? =some (Stt.mk [] 0))
theorem y8(l:Ts){N:Nat}(hN:(l.cl 0 0).length<=N):∃ls,Lab N (l.cl 0 0++[({op:=26}:Ins)]) ls:=by
 have h:=((Ts.fl l).1 {} (Int.le_refl _) N 0 0 0 ⟨Int.le_refl _,by grind,by grind⟩).1
 obtain⟨C,hC⟩:∃C,l.cl 0 0=C:=⟨_,rfl⟩
 rw[hC]at h hN |-
 obtain⟨ls,a1,a2,a3,a4,a5⟩:=h
 refine⟨ls++[(Stt.mk [] 0)],by simp[a1],a3,fun t ht=>?_,fun k x t hx ht=>?_⟩
 ·rcases List.mem_append.1 ht with ht|ht
  ·grind
  ·rw[List.mem_singleton.1 ht]
   exact⟨Int.le_refl _,by grind,by grind⟩
 ·by_cases hk:k<C.length
  ·rw[List.getElem?_append_left hk]at hx
   rw[List.getElem?_append_left (by omega)]at ht;obtain⟨nx,nm,e1,e2,e3,e4⟩:=a5 k x t hx ht;have e5:∀T u,At 0 (ls++[(Stt.mk [] 0)]) [] T u->∃j:Nat,T=(j:Int)/\(ls++[(Stt.mk [] 0)])[j]? =some u:=fun T u h=>by
    rcases h with⟨j,h1,h2⟩|⟨n,_,h2⟩
    ·grind
    grind
   exact .inr ⟨nx,nm,e1,e2,fun u hu=>e5 _ _ (e3 u hu),fun h=>e5 _ _ (e4 h)⟩
  ·grind
theorem Ah(l:Ts):∀x∈l.cl 0 0,x.op<26:=fun x hx=>by
 obtain⟨ls,a1,a2,a3,a4,a5⟩:=((Ts.fl l).1 {} (Int.le_refl _) (l.cl 0 0).length 0 0 0 ⟨Int.le_refl _,by grind,by grind⟩).1
 obtain⟨k,hk,rfl⟩:=List.getElem_of_mem hx
 obtain⟨nx,nm,e1,_⟩:=a5 k _ _ (List.getElem?_eq_getElem hk) (List.getElem?_eq_getElem (by omega))
 exact e1.op
theorem jm:∀(C:List Ins) (n k:Nat) (x:Ins),i8 n C->C[k]? =some x->aD x=true->x.a=((n+itm (C.take k)+1:Nat):Int)
 | [],n,k,x,_,hx,_=>by grind
 |y::C,n,0,x,h,hx,hi=>by
  obtain rfl:y=x:=by grind
  simpa[bU]using h.1 hi
 |y::C,n,k+1,x,h,hx,hi=>by
  have h1:=jm C _ k x h.2 (by grind) hi;grind[aJ]
theorem rX{C:List Ins}{n j k:Nat}{x y:Ins}(h:i8 n C)(hx:C[j]? =some x)(hy:C[k]? =some y)(h1:aD x=true)(h2:aD y=true)(he:x.a=y.a):j=k:=by
 have e1:=jm C n j x h hx h1
 have e2:=jm C n k y h hy h2
 have key:∀(a b:Nat) (u v:Ins),C[a]? =some u->C[b]? =some v->aD u=true->a<b->itm (C.take a)<itm (C.take b):=fun a b u v hu hv hi hab=>by
  have hb:=(List.getElem?_eq_some_iff.1 hv).1;have e3:C.take b=C.take a++u::(C.drop (a+1)).take (b-(a+1)):=by
   obtain⟨ha,hu⟩:=List.getElem?_eq_some_iff.1 hu;have e4:C.drop a=u::C.drop (a+1):=by rw[List.drop_eq_getElem_cons ha,hu]
   rw[show b=a+((b-(a+1))+1) by omega,List.take_add,e4,List.take_succ_cons];grind
  grind[bu,aJ]
 grind
theorem km(l:Ts){k:Nat}{y:Nat×Nat}(h:(l.hd 0 0)[k]? =some y):∃x:Ins,(l.cl 0 0++[({op:=26}:Ins)])[y.1]? =some x/\aD x=true/\x.a=(y.2:Nat)/\x.b=(match(l.hd 0 0)[k+1]? with|some z=>((z.2:Nat):Int)|none=>0):=by
 obtain⟨x,h1,h2,h3,h4⟩:=xP false l [] [({op:=26}:Ins)] 0 k y h
 refine⟨x,?_,h2,h3,h4⟩
 simp_all[f8]
theorem rY(x:Tr)(r:Ts):((Ts.cons x r).hd 0 0)[0]? =some (0,1):=rfl
end Go.Proofs.YtgboffbbpmileaaGreatDoor
