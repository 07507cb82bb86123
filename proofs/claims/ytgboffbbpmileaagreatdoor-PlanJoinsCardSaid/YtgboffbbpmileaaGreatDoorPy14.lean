/- Lemmas and walks for the law VLawPJoins (part 14). -/
import Derived.Test.YtgboffbbpmileaaGreatDoorPy13
set_option maxRecDepth 20000
set_option maxHeartbeats 4000000
set_option linter.unusedVariables false
set_option linter.unusedSimpArgs false
namespace Go.Proofs.YtgboffbbpmileaaGreatDoor
open Go Go.RowKit
structure Ins where
 op:Nat
 a:Int:=0
 b:Int:=0
 s:ab:=[]
 w:List Prt:=[]
structure PS where
 c:List Ins
 i:Nat
 e:Nat
def PS.add(s:PS)(x:Ins):PS:=⟨s.c++[x],s.i,s.e⟩
def PS.op(s:PS)(o:Nat)(a:Int):PS:=s.add {op:=o,a:=a}
def Ins.setA(x:Ins)(a:Int):Ins:={x with a:=a}
def Ins.setB(x:Ins)(b:Int):Ins:={x with b:=b}
def PS.here(s:PS)(k:Nat):PS:=⟨s.c.modify k (·.setA s.c.length),s.i,s.e⟩
def PS.heres(s:PS):List Nat->PS
 | []=>s
 |k::l=>(s.here k).heres l
def PS.child(s:PS)(kind:Int)(f:PS->PS):PS:=((f (s.add {op:=13,b:=kind})).op 16 0).here s.c.length
def PS.item(s:PS)(before:Option Nat):PS:=(⟨match before with|some k=>s.c.modify k (·.setB (s.i+1:Nat))|none=>s.c,s.i+1,s.e⟩:PS).add {op:=0,a:=(s.i+1:Nat)}
def Wd.plain:Wd->Bool
 |.nil=>true
 |.lit p r=>p.k != 2&&r.plain
 |.sub _ _ _=>false
 |.bad _ _ _=>false
def Ws.plain:Ws->Bool
 |.nil=>true
 |.cons _ w r=>w.plain&&r.plain
def Ws.nil? :Ws->Bool
 |.nil=>true
 |_=>false
def Ts.nil? :Ts->Bool
 |.nil=>true
 |_=>false
def prt(first last:Bool):Nat:=(if first then 0 else 1)+(if last then 0 else 2)
mutual
def Wd.g:Wd->PS->PS
 |.nil,s=>s
 |.lit _ r,s=>r.g s
 |.sub _ t r,s=>if s.e=0 then r.g ((s.child 8 t.g).op 15 0)else r.g s
 |.bad _ f r,s=>if s.e=0 then⟨s.c,s.i,if f then 6 else 27⟩else r.g s
def Ws.g(o:Nat):Ws->PS->PS
 |.nil,s=>s
 |.cons g w r,s=>r.g o ((w.g s).add {op:=o,a:=g.a,b:=g.b,s:=g.s,w:=w.ps})
def Tr.g:Tr->PS->PS
 |.simple a w r,s=>if s.e=0 then
   let s:=if r.nil? then s else r.g 10 (s.op 9 0)
   let s:=if w.nil? then s else w.g 7 (s.op 6 0)
   let s:=a.g 8 s
   let s:=if w.nil? then(if a.plain&&r.plain then s.op 5 0 else s)else s.op 12 0
   if r.nil? then s else s.op 11 0
  else s
 |.pipe g l,s=>if s.e=0 then
   let s:=if g then s.op 24 1 else s
   let s:=l.gp true s
   let s:=if 1<l.nds.length then s.op 14 0 else s
   if g then(s.op 24 (-1)).op 4 0 else s.op 25 0
  else s
 |.ao o x y,s=>if s.e=0 then
   let s:=(x.g (s.op 24 1)).op 24 (-1)
   (y.g (s.op (if o then 2 else 3) 0)).here s.c.length
  else s
 |.lst l,s=>if s.e=0 then l.gl none s else s
 |.back x,s=>if s.e=0 then(s.child 4 x.g).op 5 0 else s
 |.sub x r,s=>if s.e=0 then
   let s:=if r.nil? then s else r.g 10 (s.op 9 0)
   let s:=(s.child 0 x.g).op 14 0
   if r.nil? then s else s.op 11 0
  else s
 |.grp x r,s=>if s.e=0 then
   let s:=if r.nil? then s else r.g 10 (s.op 9 0)
   let s:=x.g s
   if r.nil? then s else s.op 11 0
  else s
 |.iff c t r,s=>if s.e=0 then
   let s:=if r.nil? then s else r.g 10 (s.op 9 0)
   let s1:=(c.g (s.op 24 1)).op 24 (-1)
   let s2:=t.g (s1.op 3 0)
   let s3:=(s2.op 1 0).here s1.c.length
   let s:=(s3.op 5 0).here s2.c.length
   if r.nil? then s else s.op 11 0
  else s
 |.ife c t e r,s=>if s.e=0 then
   let s:=if r.nil? then s else r.g 10 (s.op 9 0)
   let s1:=(c.g (s.op 24 1)).op 24 (-1)
   let s2:=t.g (s1.op 3 0)
   let s3:=(s2.op 1 0).here s1.c.length
   let s:=(e.g s3).here s2.c.length
   if r.nil? then s else s.op 11 0
  else s
 |.loop u c b r,s=>if s.e=0 then
   let s:=if r.nil? then s else r.g 10 (s.op 9 0)
   let s1:=(c.g (s.op 24 1)).op 24 (-1)
   let s2:=(b.g (s1.op (if u then 2 else 3) 0)).op 1 s.c.length
   let s:=(s2.here s1.c.length).op 5 0
   if r.nil? then s else s.op 11 0
  else s
 |.for_ n w b r,s=>if s.e=0 then
   let s:=if r.nil? then s else r.g 10 (s.op 9 0)
   let s1:=((w.g 7 (s.op 6 0)).add {op:=17,s:=n}).op 5 0
   let s:=((b.g (s1.op 18 0)).op 1 s1.c.length).here s1.c.length
   if r.nil? then s else s.op 11 0
  else s
 |.case_ w l r,s=>if s.e=0 then
   let s:=if r.nil? then s else r.g 10 (s.op 9 0)
   let s:=l.gm ((w.g s).add {op:=19,w:=w.ps}) []
   let s1:=s.1.op 5 0
   let x:=l.gb (s1.op 1 0) s.2 [s1.c.length]
   let s:=(x.1.heres x.2).op 21 0
   if r.nil? then s else s.op 11 0
  else s
 |.fn n b,s=>if s.e=0 then
   let s2:=((s.add {op:=22,s:=n}).op 1 0).here s.c.length
   (((b.g s2).op 23 0).here (s.c.length+1)).op 5 0
  else s
def Ts.gl:Ts->Option Nat->PS->PS
 |.nil,_,s=>s
 |.cons x r,before,s=>r.gl (some s.c.length) (x.g (s.item before))
def Ts.gp:Ts->Bool->PS->PS
 |.nil,_,s=>s
 |.cons x r,f,s=>r.gp false (if prt f r.nil? =0 then x.g s else s.child (prt f r.nil? :Nat) x.g)
def Am.gm:Am->PS->List (List Nat)->PS×List (List Nat)
 |.nil,s,l=>(s,l)
 |.cons w _ r,s,l=>let x:=w.gw s [];r.gm x.1 (l++[x.2])
def Ws.gw:Ws->PS->List Nat->PS×List Nat
 |.nil,s,l=>(s,l)
 |.cons _ w r,s,l=>let s:=w.g s;r.gw (s.add {op:=20,w:=w.ps}) (l++[s.c.length])
def Am.gb:Am->PS->List (List Nat)->List Nat->PS×List Nat
 |.nil,s,_,l=>(s,l)
 |.cons _ b r,s,h,l=>let s:=b.g ((s.heres (h.headD [])).op 5 0);r.gb (s.op 1 0) h.tail (l++[s.c.length])
end
def aq(l:Ts):PS:=
 let s:=((Tr.lst l).g ⟨[],0,0⟩).op 26 0
 if s.e=0/\500<s.i then⟨s.c,s.i,6⟩else s
def aD(x:Ins):Bool:=x.op==0
def itm(l:List Ins):Nat:=l.countP aD
theorem bd(a b:List Ins):itm (a++b)=itm a+itm b:=List.countP_append
theorem aF(x:Ins)(l:List Ins):itm (x::l)=itm l+(if aD x then 1 else 0):=List.countP_cons
theorem bZ:itm []=0:=rfl
abbrev K:=Nat->Nat->List Ins
def K.seq(f g:K):K:=fun p i=>f p i++g (p+(f p i).length) (i+itm (f p i))
def K.one(x:Ins):K:=fun _ _=>[x]
def K.o(o:Nat)(a:Int):K:=K.one {op:=o,a:=a}
def K.nil:K:=fun _ _=>[]
def K.child(kind:Int)(f:K):K:=fun p i=>{op:=13,a:=(p+1+(f (p+1) i).length+1:Nat),b:=kind}::(f (p+1) i++[{op:=16}])
def K.quiet(f:K):K:=(K.o 24 1).seq (f.seq (K.o 24 (-1)))
def K.over(o:Nat)(f:K):K:=fun p i=>{op:=o,a:=(p+1+(f (p+1) i).length:Nat)}::f (p+1) i
def K.alt(f g:K):K:=fun p i=>
 let l:=f (p+1) i
 let m:=g (p+1+l.length+1) (i+itm l)
 {op:=3,a:=(p+1+l.length+1:Nat)}::(l++ {op:=1,a:=(p+1+l.length+1+m.length:Nat)}::m)
def K.loop(o:Nat)(f g:K):K:=fun p i=>
 let l:=f p i
 let m:=g (p+l.length+1) (i+itm l)
 l++ {op:=o,a:=(p+l.length+1+m.length+1:Nat)}::(m++[{op:=1,a:=(p:Nat)}])
def K.each(f:K):K:=fun p i=>{op:=18,a:=(p+1+(f (p+1) i).length+1:Nat)}::(f (p+1) i++[{op:=1,a:=(p:Nat)}])
def K.fn(n:ab)(f:K):K:=fun p i=>{op:=22,a:=(p+2:Nat),s:=n}:: {op:=1,a:=(p+2+(f (p+2) i).length+1:Nat)}::(f (p+2) i++[{op:=23}])
def K.item(more:Bool)(f:K):K:=fun p i=>{op:=0,a:=(i+1:Nat),b:=if more then(i+1+itm (f (p+1) (i+1))+1:Nat)else 0}::f (p+1) (i+1)
def K.saved(none:Bool)(r f:K):K:=if none then f else(K.o 9 0).seq (r.seq (f.seq (K.o 11 0)))
def K.case(w:List Nat->K)(b:Nat->K)(pos:Nat->Nat->List Nat):K:=fun p i=>
 let n:=(w [] p i).length
 let j:=i+itm (w [] p i)
 let m:=(b 0 (p+n+2) j).length
 let l:=w (pos (p+n+2) j) p i
 l++ {op:=5}:: {op:=1,a:=(p+n+2+m:Nat)}::(b (p+n+2+m) (p+n+2) j++[{op:=21}])
mutual
def Wd.c:Wd->K
 |.nil=>K.nil
 |.lit _ r=>r.c
 |.sub _ t r=>(K.child 8 t.c).seq ((K.o 15 0).seq r.c)
 |.bad _ _ r=>r.c
def Ws.c(o:Nat):Ws->K
 |.nil=>K.nil
 |.cons g w r=>w.c.seq ((K.one {op:=o,a:=g.a,b:=g.b,s:=g.s,w:=w.ps}).seq (r.c o))
def Tr.c:Tr->K
 |.simple a w r=>K.saved r.nil? (r.c 10) ((if w.nil? then K.nil else(K.o 6 0).seq (w.c 7)).seq ((a.c 8).seq (if w.nil? then(if a.plain&&r.plain then K.o 5 0 else K.nil)else K.o 12 0)))
 |.pipe g l=>let k:=(l.cp true).seq (if 1<l.nds.length then K.o 14 0 else K.nil)
   if g then(K.o 24 1).seq (k.seq ((K.o 24 (-1)).seq (K.o 4 0)))else k.seq (K.o 25 0)
 |.ao o x y=>(K.quiet x.c).seq (K.over (if o then 2 else 3) y.c)
 |.lst l=>l.cl
 |.back x=>(K.child 4 x.c).seq (K.o 5 0)
 |.sub x r=>K.saved r.nil? (r.c 10) ((K.child 0 x.c).seq (K.o 14 0))
 |.grp x r=>K.saved r.nil? (r.c 10) x.c
 |.iff c t r=>K.saved r.nil? (r.c 10) ((K.quiet c.c).seq (K.alt t.c (K.o 5 0)))
 |.ife c t e r=>K.saved r.nil? (r.c 10) ((K.quiet c.c).seq (K.alt t.c e.c))
 |.loop u c b r=>K.saved r.nil? (r.c 10) ((K.loop (if u then 2 else 3) (K.quiet c.c) b.c).seq (K.o 5 0))
 |.for_ n w b r=>K.saved r.nil? (r.c 10) ((K.o 6 0).seq ((w.c 7).seq ((K.one {op:=17,s:=n}).seq ((K.o 5 0).seq (K.each b.c)))))
 |.case_ w l r=>K.saved r.nil? (r.c 10) (w.c.seq ((K.one {op:=19,w:=w.ps}).seq (K.case l.cw l.cb l.pos)))
 |.fn n b=>(K.fn n b.c).seq (K.o 5 0)
def Ts.cl:Ts->K
 |.nil=>K.nil
 |.cons x r=>(K.item (!r.nil?) x.c).seq r.cl
def Ts.cp:Ts->Bool->K
 |.nil,_=>K.nil
 |.cons x r,f=>(if prt f r.nil? =0 then x.c else K.child (prt f r.nil? :Nat) x.c).seq (r.cp false)
def Ws.cm:Ws->Nat->K
 |.nil,_=>K.nil
 |.cons _ w r,t=>w.c.seq ((K.one {op:=20,a:=(t:Nat),w:=w.ps}).seq (r.cm t))
def Am.cw:Am->List Nat->K
 |.nil,_=>K.nil
 |.cons w _ r,l=>(w.cm (l.headD 0)).seq (r.cw l.tail)
def Am.cb:Am->Nat->K
 |.nil,_=>K.nil
 |.cons _ b r,e=>(K.o 5 0).seq (b.c.seq ((K.o 1 e).seq (r.cb e)))
def Am.pos:Am->Nat->Nat->List Nat
 |.nil,_,_=>[]
 |.cons _ b r,p,i=>p::r.pos (p+1+(b.c (p+1) i).length+1) (i+itm (b.c (p+1) i))
end
mutual
def Wd.fine:Wd->Bool
 |.nil=>true
 |.lit _ r=>r.fine
 |.sub _ t r=>t.fine&&r.fine
 |.bad _ _ _=>false
def Ws.fine:Ws->Bool
 |.nil=>true
 |.cons _ w r=>w.fine&&r.fine
def Tr.fine:Tr->Bool
 |.simple a w r=>a.fine&&w.fine&&r.fine
 |.pipe _ l=>l.fine
 |.ao _ x y=>x.fine&&y.fine
 |.lst l=>l.fine
 |.back x=>x.fine
 |.sub x r=>x.fine&&r.fine
 |.grp x r=>x.fine&&r.fine
 |.iff c t r=>c.fine&&t.fine&&r.fine
 |.ife c t e r=>c.fine&&t.fine&&e.fine&&r.fine
 |.loop _ c b r=>c.fine&&b.fine&&r.fine
 |.for_ _ w b r=>w.fine&&b.fine&&r.fine
 |.case_ w l r=>w.fine&&l.fine&&r.fine
 |.fn _ b=>b.fine
def Ts.fine:Ts->Bool
 |.nil=>true
 |.cons x r=>x.fine&&r.fine
def Am.fine:Am->Bool
 |.nil=>true
 |.cons w b r=>w.fine&&b.fine&&r.fine
end
def Gen(G:PS->PS)(k:K):Prop:=∀s:PS,s.e=0->G s=⟨s.c++k s.c.length s.i,s.i+itm (k s.c.length s.i),0⟩
theorem Gen.seq{F G:PS->PS}{f g:K}(h1:Gen F f)(h2:Gen G g):Gen (fun s=>G (F s)) (f.seq g):=fun s hs=>by
 show G (F s)=_
 rw[h1 s hs,h2 _ rfl]
 grind[K.seq,bd]
theorem Gen.id:Gen (fun s=>s) K.nil:=fun s hs=>by
 obtain⟨c,i,e⟩:=s
 grind[K.nil,bZ]
theorem Gen.add{x:Ins}(hx:aD x=false):Gen (fun s=>s.add x) (K.one x):=fun s hs=>by
 grind[K.one,aF,bZ,PS.add]
theorem Gen.op{o:Nat}{a:Int}(ho:o≠0):Gen (fun s=>s.op o a) (K.o o a):=Gen.add (x:={op:=o,a:=a}) (by simp[aD,ho])
theorem qU(x:Ins)(r:List Ins)(f:Ins->Ins):∀l:List Ins,(l++x::r).modify l.length f=l++f x::r
 | []=>rfl
 |y::l=>congrArg (y:: ·) (qU x r f l)
theorem mX(l:List Ins)(x:Ins)(r:List Ins)(i e:Nat):PS.here ⟨l++x::r,i,e⟩ l.length=⟨l++x.setA (l.length+1+r.length:Nat)::r,i,e⟩:=by
 grind[PS.here,qU]
theorem Gen.run{G:PS->PS}{k:K}(h:Gen G k)(l:List Ins)(i:Nat):G ⟨l,i,0⟩=⟨l++k l.length i,i+itm (k l.length i),0⟩:=h ⟨l,i,0⟩ rfl
theorem eY(l:List Ins)(x:Ins):(l++[x]).length=l.length+1:=by simp
theorem Gen.child{F:PS->PS}{f:K}(kind:Int)(h:Gen F f):Gen (fun s=>s.child kind F) (K.child kind f):=fun s hs=>by
 obtain⟨l,i,e⟩:=s
 cases hs
 simp only[PS.child,PS.add,h.run,PS.op,List.append_assoc,List.cons_append,List.nil_append,eY,List.length_append]
 rw[mX]
 grind[K.child,aF,bd,bZ,aD,Ins.setA]
theorem Gen.over{F:PS->PS}{f:K}{o:Nat}(ho:o≠0)(h:Gen F f):Gen (fun s=>(F (s.op o 0)).here s.c.length) (K.over o f):=fun s hs=>by
 obtain⟨l,i,e⟩:=s
 cases hs
 simp only[PS.add,h.run,PS.op,List.append_assoc,List.cons_append,List.nil_append,eY]
 grind[mX,K.over,aF,aD,Ins.setA]
theorem Gen.quiet{F:PS->PS}{f:K}(h:Gen F f):Gen (fun s=>(F (s.op 24 1)).op 24 (-1)) (K.quiet f):=(Gen.op (by decide)).seq (h.seq (Gen.op (by decide)))
theorem eL{c l:List Ins}{x:Ins}{r:List Ins}{k i e:Nat}(hc:c=l++x::r)(hk:k=l.length):PS.here ⟨c,i,e⟩ k=⟨l++x.setA (c.length:Nat)::r,i,e⟩:=by
 grind[mX]
theorem Gen.alt{F G:PS->PS}{f g:K}(h1:Gen F f)(h2:Gen G g):Gen (fun s=>(G (((F (s.op 3 0)).op 1 0).here s.c.length)).here (F (s.op 3 0)).c.length) (K.alt f g):=fun s hs=>by
 obtain⟨l,i,e⟩:=s
 cases hs
 have e1:F (PS.op ⟨l,i,0⟩ 3 0)=⟨l++({op:=3}:Ins)::f (l.length+1) i,i+itm (f (l.length+1) i),0⟩:=by
  simp only[PS.op,PS.add,h1.run,eY,List.append_assoc,List.cons_append,List.nil_append]
 obtain⟨m,hm⟩:∃m,f (l.length+1) i=m:=⟨_,rfl⟩
 simp only[e1,hm]
 rw[show PS.op ⟨l++({op:=3}:Ins)::m,i+itm m,0⟩ 1 0=⟨l++({op:=3}:Ins)::(m++[({op:=1}:Ins)]),i+itm m,0⟩ by simp[PS.op,PS.add]]
 rw[eL (l:=l) (x:=({op:=3}:Ins)) (r:=m++[({op:=1}:Ins)]) rfl rfl]
 rw[h2.run]
 obtain⟨n,hn⟩:∃n,g (l.length+1+m.length+1) (i+itm m)=n:=⟨_,rfl⟩
 rw[show(l++Ins.setA ({op:=3}:Ins) ((l++({op:=3}:Ins)::(m++[({op:=1}:Ins)])).length:Nat)::(m++[({op:=1}:Ins)])).length=l.length+1+m.length+1 by grind,hn]
 rw[eL (l:=l++Ins.setA ({op:=3}:Ins) ((l++({op:=3}:Ins)::(m++[({op:=1}:Ins)])).length:Nat)::m) (x:=({op:=1}:Ins)) (r:=n) (by simp) (by simp)]
 grind[K.alt,aF,bd,Ins.setA,aD]
theorem Gen.loop{F H:PS->PS}{f h:K}{o:Nat}(ho:o≠0)(h1:Gen F f)(h2:Gen H h):Gen (fun s=>((H ((F s).op o 0)).op 1 (s.c.length:Nat)).here (F s).c.length) (K.loop o f h):=fun s hs=>by
 obtain⟨l,i,e⟩:=s
 cases hs
 obtain⟨m,hm⟩:∃m,f l.length i=m:=⟨_,rfl⟩
 obtain⟨n,hn⟩:∃n,h (l.length+m.length+1) (i+itm m)=n:=⟨_,rfl⟩
 have e1:H (PS.op ⟨l++m,i+itm m,0⟩ o 0)=⟨(l++m)++({op:=o}:Ins)::n,i+itm m+itm n,0⟩:=by
  rw[show PS.op ⟨l++m,i+itm m,0⟩ o 0=⟨l++m++[({op:=o}:Ins)],i+itm m,0⟩from rfl,h2.run,eY,List.length_append,hn];simp
 simp only[h1.run,hm,e1]
 rw[show PS.op ⟨(l++m)++({op:=o}:Ins)::n,i+itm m+itm n,0⟩ 1 (l.length:Nat)=⟨(l++m)++({op:=o}:Ins)::(n++[({op:=1,a:=(l.length:Nat)}:Ins)]),i+itm m+itm n,0⟩ by simp[PS.op,PS.add]]
 rw[eL rfl rfl]
 grind[K.loop,aF,bd,Ins.setA,aD,bZ]
theorem Gen.each{H:PS->PS}{h:K}(h2:Gen H h):Gen (fun s=>((H (s.op 18 0)).op 1 (s.c.length:Nat)).here s.c.length) (K.each h):=fun s hs=>by
 obtain⟨l,i,e⟩:=s
 cases hs
 obtain⟨n,hn⟩:∃n,h (l.length+1) i=n:=⟨_,rfl⟩
 have e1:H (PS.op ⟨l,i,0⟩ 18 0)=⟨l++({op:=18}:Ins)::n,i+itm n,0⟩:=by
  rw[show PS.op ⟨l,i,0⟩ 18 0=⟨l++[({op:=18}:Ins)],i,0⟩from rfl,h2.run,eY,hn];simp
 simp only[e1]
 rw[show PS.op ⟨l++({op:=18}:Ins)::n,i+itm n,0⟩ 1 (l.length:Nat)=⟨l++({op:=18}:Ins)::(n++[({op:=1,a:=(l.length:Nat)}:Ins)]),i+itm n,0⟩ by simp[PS.op,PS.add]]
 rw[eL rfl rfl]
 grind[K.each,aF,bd,Ins.setA,aD,bZ]
theorem Gen.fn{H:PS->PS}{h:K}(n:ab)(h2:Gen H h):Gen (fun s=>((H (((s.add {op:=22,s:=n}).op 1 0).here s.c.length)).op 23 0).here (s.c.length+1)) (K.fn n h):=fun s hs=>by
 obtain⟨l,i,e⟩:=s
 cases hs
 obtain⟨m,hm⟩:∃m,h (l.length+2) i=m:=⟨_,rfl⟩
 have e0:PS.here (((⟨l,i,0⟩:PS).add {op:=22,s:=n}).op 1 0) l.length=⟨l++({op:=22,a:=(l.length+2:Nat),s:=n}:Ins)::[({op:=1}:Ins)],i,0⟩:=by
  rw[show((⟨l,i,0⟩:PS).add {op:=22,s:=n}).op 1 0=⟨l++({op:=22,s:=n}:Ins)::[({op:=1}:Ins)],i,0⟩ by simp[PS.op,PS.add],eL rfl rfl];simp[Ins.setA]
 simp only[e0]
 rw[h2.run,show(l++({op:=22,a:=(l.length+2:Nat),s:=n}:Ins)::[({op:=1}:Ins)]).length=l.length+2 by simp,hm]
 rw[show PS.op ⟨l++({op:=22,a:=(l.length+2:Nat),s:=n}:Ins)::[({op:=1}:Ins)]++m,i+itm m,0⟩ 23 0=⟨(l++[({op:=22,a:=(l.length+2:Nat),s:=n}:Ins)])++({op:=1}:Ins)::(m++[({op:=23}:Ins)]),i+itm m,0⟩ by simp[PS.op,PS.add]]
 rw[eL rfl (by simp)]
 grind[K.fn,aF,bd,Ins.setA,aD,bZ]
theorem Gen.saved{F R:PS->PS}{f r:K}(b:Bool)(h1:Gen F f)(h2:Gen R r):Gen (fun s=>if b then F (if b then s else R (s.op 9 0))else(F (if b then s else R (s.op 9 0))).op 11 0) (K.saved b r f):=by
 cases b with
 |true=>exact h1
 |false=>exact(Gen.op (by decide)).seq (h2.seq (h1.seq (Gen.op (by decide))))
theorem yQ(x:Ins)(r:List Ins)(b:Int)(l:List Ins):(l++x::r).modify l.length (·.setB b)=l++x.setB b::r:=qU x r _ l
def wk(r:Ts):Prop:=∀(l:List Ins) (x0:Ins) (m:List Ins) (i:Nat),r.gl (some l.length) ⟨l++x0::m,i,0⟩=⟨(l++(if r.nil? then x0 else x0.setB (i+1:Nat))::m)++r.cl (l.length+1+m.length) i,i+itm (r.cl (l.length+1+m.length) i),0⟩
theorem wl:wk .nil:=fun l x0 m i=>by simp[Ts.gl,Ts.cl,Ts.nil?,K.nil,bZ]
theorem tN{x:Tr}{r:Ts}(h1:Gen x.g x.c)(h2:wk r):wk (.cons x r):=fun l x0 m i=>by
 obtain⟨n,hn⟩:∃n,x.c (l.length+1+m.length+1) (i+1)=n:=⟨_,rfl⟩
 have e1:x.g (PS.item ⟨l++x0::m,i,0⟩ (some l.length))=⟨(l++x0.setB (i+1:Nat)::m)++({op:=0,a:=(i+1:Nat)}:Ins)::n,i+1+itm n,0⟩:=by
  simp only[PS.item,yQ,PS.add];rw[h1.run,show((l++x0.setB (i+1:Nat)::m)++[({op:=0,a:=(i+1:Nat)}:Ins)]).length=l.length+1+m.length+1 by grind,hn];simp
 simp only[Ts.gl,e1]
 have e2:=h2 (l++x0.setB (i+1:Nat)::m) {op:=0,a:=(i+1:Nat)} n (i+1+itm n)
 rw[show(l++x0.setB (i+1:Nat)::m).length=(l++x0::m).length by simp]at e2
 rw[e2]
 have e3:(l++x0::m).length+1+n.length=l.length+1+m.length+(1+n.length):=by grind
 rw[e3]
 have hc:(Ts.cons x r).nil? =false:=rfl
 simp only[Ts.cl,K.seq,K.item,hn,hc]
 grind[itm,aF,aD,bd,Ins.setB]
theorem wm(b:Bool):Gen (Ts.nil.gp b) (Ts.nil.cp b):=fun s hs=>Gen.id s hs
theorem tO{x:Tr}{r:Ts}(b:Bool)(h1:Gen x.g x.c)(h2:Gen (r.gp false) (r.cp false)):Gen ((Ts.cons x r).gp b) ((Ts.cons x r).cp b):=by
 by_cases h:prt b r.nil? =0
 ·have:=h1.seq h2
  simp_all[Ts.gp,Ts.cp]
 ·have:=(Gen.child (prt b r.nil? :Nat) h1).seq h2
  simp_all[Ts.gp,Ts.cp]
theorem wn{o:Nat}(ho:o≠0){w:Wd}{r:Ws}(g:Tg)(h1:Gen w.g w.c)(h2:Gen (r.g o) (r.c o)):Gen ((Ws.cons g w r).g o) ((Ws.cons g w r).c o):=by
 have h3:=h1.seq ((Gen.add (x:={op:=o,a:=g.a,b:=g.b,s:=g.s,w:=w.ps}) (by simp[aD,ho])).seq h2)
 simp_all[Ws.g,Ws.c]
theorem yR{t:Tr}{p:Prt}{r:Wd}(h1:Gen t.g t.c)(h2:Gen r.g r.c):Gen (Wd.sub p t r).g (Wd.sub p t r).c:=by
 have h3:=(Gen.child 8 h1).seq ((Gen.op (o:=15) (a:=0) (by decide)).seq h2)
 intro s hs
 simp only[Wd.g,Wd.c,hs,if_true]
 exact h3 s hs
theorem wo{x:Tr}{r:Ws}(h1:Gen x.g x.c)(h2:Gen (r.g 10) (r.c 10)):Gen (Tr.sub x r).g (Tr.sub x r).c:=by
 have h3:=Gen.saved r.nil? ((Gen.child 0 h1).seq (Gen.op (o:=14) (a:=0) (by decide))) h2
 intro s hs
 simp only[Tr.g,Tr.c,hs,if_true]
 exact h3 s hs
theorem yS{x:Tr}{r:Ws}(h1:Gen x.g x.c)(h2:Gen (r.g 10) (r.c 10)):Gen (Tr.grp x r).g (Tr.grp x r).c:=by
 have h3:=Gen.saved r.nil? h1 h2
 intro s hs
 simp only[Tr.g,Tr.c,hs,if_true]
 exact h3 s hs
theorem wu{x:Tr}(h1:Gen x.g x.c):Gen (Tr.back x).g (Tr.back x).c:=by
 have h3:=(Gen.child 4 h1).seq (Gen.op (o:=5) (a:=0) (by decide))
 intro s hs
 simp only[Tr.g,Tr.c,hs,if_true]
 exact h3 s hs
theorem yT{c t:Tr}{r:Ws}(h0:Gen c.g c.c)(h1:Gen t.g t.c)(h2:Gen (r.g 10) (r.c 10)):Gen (Tr.iff c t r).g (Tr.iff c t r).c:=by
 have h3:=Gen.saved r.nil? ((Gen.quiet h0).seq (Gen.alt h1 (Gen.op (o:=5) (a:=0) (by decide)))) h2
 intro s hs
 simp only[Tr.g,Tr.c,hs,if_true]
 exact h3 s hs
theorem yU{c t e:Tr}{r:Ws}(h0:Gen c.g c.c)(h1:Gen t.g t.c)(h4:Gen e.g e.c)(h2:Gen (r.g 10) (r.c 10)):Gen (Tr.ife c t e r).g (Tr.ife c t e r).c:=by
 have h3:=Gen.saved r.nil? ((Gen.quiet h0).seq (Gen.alt h1 h4)) h2
 intro s hs
 simp only[Tr.g,Tr.c,hs,if_true]
 exact h3 s hs
theorem ww{u:Bool}{c b:Tr}{r:Ws}(h0:Gen c.g c.c)(h1:Gen b.g b.c)(h2:Gen (r.g 10) (r.c 10)):Gen (Tr.loop u c b r).g (Tr.loop u c b r).c:=by
 have h3:=Gen.saved r.nil? ((Gen.loop (o:=if u then 2 else 3) (by grind) (Gen.quiet h0) h1).seq (Gen.op (o:=5) (a:=0) (by decide))) h2
 intro s hs
 simp only[Tr.g,Tr.c,hs,if_true]
 exact h3 s hs
theorem A'{n:ab}{b:Tr}(h1:Gen b.g b.c):Gen (Tr.fn n b).g (Tr.fn n b).c:=by
 have h3:=(Gen.fn n h1).seq (Gen.op (o:=5) (a:=0) (by decide))
 intro s hs
 simp only[Tr.g,Tr.c,hs,if_true]
 exact h3 s hs
theorem Ba{o:Bool}{x y:Tr}(h0:Gen x.g x.c)(h1:Gen y.g y.c):Gen (Tr.ao o x y).g (Tr.ao o x y).c:=by
 have h3:=(Gen.quiet h0).seq (Gen.over (o:=if o then 2 else 3) (by grind) h1)
 intro s hs
 simp only[Tr.g,Tr.c,hs,if_true]
 exact h3 s hs
theorem yV{n:ab}{w:Ws}{b:Tr}{r:Ws}(h0:Gen (w.g 7) (w.c 7))(h1:Gen b.g b.c)(h2:Gen (r.g 10) (r.c 10)):Gen (Tr.for_ n w b r).g (Tr.for_ n w b r).c:=by
 have h3:=Gen.saved r.nil? ((Gen.op (o:=6) (a:=0) (by decide)).seq (h0.seq ((Gen.add (x:={op:=17,s:=n}) rfl).seq ((Gen.op (o:=5) (a:=0) (by decide)).seq (Gen.each h1))))) h2
 intro s hs
 simp only[Tr.g,Tr.c,hs,if_true]
 exact h3 s hs
theorem qV{b:Bool}{F G:PS->PS}{f g:K}(h1:Gen F f)(h2:Gen G g):Gen (fun s=>if b then F s else G s) (if b then f else g):=by
 cases b with
 |true=>exact h1
 |false=>exact h2
theorem wy{g:Bool}{l:Ts}(h0:Gen (l.gp true) (l.cp true)):Gen (Tr.pipe g l).g (Tr.pipe g l).c:=by
 have h1:Gen (fun s=>if 1<l.nds.length then PS.op s 14 0 else s) (if 1<l.nds.length then K.o 14 0 else K.nil):=by
  by_cases h:1<l.nds.length
  ·grind[Gen.op]
  ·simp only[h,if_false];exact Gen.id
 have h2:=h0.seq h1
 cases g with
 |true=>
  have h3:=(Gen.op (o:=24) (a:=1) (by decide)).seq (h2.seq ((Gen.op (o:=24) (a:=-1) (by decide)).seq (Gen.op (o:=4) (a:=0) (by decide))));intro s hs;simp only[Tr.g,Tr.c,hs,if_true];exact h3 s hs
 |false=>
  have h3:=h2.seq (Gen.op (o:=25) (a:=0) (by decide));intro s hs;simp only[Tr.g,Tr.c,hs,if_true,Bool.false_eq_true,if_false];exact h3 s hs
theorem qW{a w r:Ws}(h0:Gen (a.g 8) (a.c 8))(h1:Gen (w.g 7) (w.c 7))(h2:Gen (r.g 10) (r.c 10)):Gen (Tr.simple a w r).g (Tr.simple a w r).c:=by
 have e1:=qV (b:=w.nil?) Gen.id ((Gen.op (o:=6) (a:=0) (by decide)).seq h1)
 have e2:=qV (b:=w.nil?) (qV (b:=a.plain&&r.plain) (Gen.op (o:=5) (a:=0) (by decide)) Gen.id) (Gen.op (o:=12) (a:=0) (by decide))
 have h3:=Gen.saved r.nil? (e1.seq (h0.seq e2)) h2
 intro s hs
 simp only[Tr.g,Tr.c,hs,if_true]
 exact h3 s hs
def Ws.pl:Ws->Nat->Nat->List Nat
 |.nil,_,_=>[]
 |.cons _ w r,p,i=>(p+(w.c p i).length)::r.pl (p+(w.c p i).length+1) (i+itm (w.c p i))
def Am.pls:Am->Nat->Nat->List (List Nat)
 |.nil,_,_=>[]
 |.cons w _ r,p,i=>w.pl p i::r.pls (p+(w.cm 0 p i).length) (i+itm (w.cm 0 p i))
def Am.ends:Am->Nat->Nat->List Nat
 |.nil,_,_=>[]
 |.cons _ b r,p,i=>(p+1+(b.c (p+1) i).length)::r.ends (p+1+(b.c (p+1) i).length+1) (i+itm (b.c (p+1) i))
theorem f8(g:Tg)(w:Wd)(r:Ws)(t p i:Nat):(Ws.cons g w r).cm t p i=w.c p i++({op:=20,a:=(t:Nat),w:=w.ps}:Ins)::r.cm t (p+(w.c p i).length+1) (i+itm (w.c p i)):=by
 simp_all[Ws.cm,K.seq,K.one,aF,bZ,aD]
theorem fk:∀(ws:Ws) (t u p i:Nat),(ws.cm t p i).length=(ws.cm u p i).length/\itm (ws.cm t p i)=itm (ws.cm u p i)
 |.nil,t,u,p,i=>⟨rfl,rfl⟩
 |.cons g w r,t,u,p,i=>by
  obtain⟨h1,h2⟩:=fk r t u (p+(w.c p i).length+1) (i+itm (w.c p i));grind[f8,bd,aF,aD]
theorem f_(w:Ws)(b:Tr)(r:Am)(l:List Nat)(p i:Nat):(Am.cons w b r).cw l p i=w.cm (l.headD 0) p i++r.cw l.tail (p+(w.cm 0 p i).length) (i+itm (w.cm 0 p i)):=by
 obtain⟨h1,h2⟩:=fk w (l.headD 0) 0 p i
 simp_all[Am.cw,K.seq]
theorem gQ:∀(r:Am) (t u:List Nat) (p i:Nat),(r.cw t p i).length=(r.cw u p i).length/\itm (r.cw t p i)=itm (r.cw u p i)
 |.nil,t,u,p,i=>⟨rfl,rfl⟩
 |.cons w b r,t,u,p,i=>by
  obtain⟨h1,h2⟩:=gQ r t.tail u.tail (p+(w.cm 0 p i).length) (i+itm (w.cm 0 p i));grind[fk,f_,bd]
theorem gc(w:Ws)(b:Tr)(r:Am)(e p i:Nat):(Am.cons w b r).cb e p i=({op:=5}:Ins)::(b.c (p+1) i++({op:=1,a:=(e:Nat)}:Ins)::r.cb e (p+1+(b.c (p+1) i).length+1) (i+itm (b.c (p+1) i))):=by
 simp only[Am.cb,K.seq,K.o,K.one,List.length_singleton,List.cons_append,List.nil_append]
 simp[aF,bZ,aD]
theorem jU:∀(r:Am) (t u p i:Nat),(r.cb t p i).length=(r.cb u p i).length/\itm (r.cb t p i)=itm (r.cb u p i)
 |.nil,t,u,p,i=>⟨rfl,rfl⟩
 |.cons w b r,t,u,p,i=>by
  obtain⟨h1,h2⟩:=jU r t u (p+1+(b.c (p+1) i).length+1) (i+itm (b.c (p+1) i));grind[gc,bd,aF,aD]
def wz(ws:Ws):Prop:=∀(l:List Ins) (i:Nat) (ps:List Nat),ws.gw ⟨l,i,0⟩ ps=(⟨l++ws.cm 0 l.length i,i+itm (ws.cm 0 l.length i),0⟩,ps++ws.pl l.length i)
theorem wB:wz .nil:=fun l i ps=>by simp[Ws.gw,Ws.cm,Ws.pl,K.nil,bZ]
theorem tP{g:Tg}{w:Wd}{r:Ws}(h1:Gen w.g w.c)(h2:wz r):wz (.cons g w r):=fun l i ps=>by
 obtain⟨n,hn⟩:∃n,w.c l.length i=n:=⟨_,rfl⟩
 simp only[Ws.gw,h1.run,hn,PS.add]
 rw[h2,f8,hn]
 grind[Ws.pl,bd,aF,aD]
theorem sb:∀(ws:Ws) (A B:List Ins) (i j e:Nat),PS.heres ⟨A++(ws.cm 0 A.length j++B),i,e⟩ (ws.pl A.length j)=⟨A++(ws.cm (A++(ws.cm 0 A.length j++B)).length A.length j++B),i,e⟩
 |.nil,A,B,i,j,e=>rfl
 |.cons g w r,A,B,i,j,e=>by
  obtain⟨n,hn⟩:∃n,w.c A.length j=n:=⟨_,rfl⟩;have hs:=fk r;rw[f8,f8,hn];simp only[Ws.pl,hn,PS.heres];obtain⟨T,hT⟩:∃T,(A++(n++({op:=20,a:=(0:Nat),w:=w.ps}:Ins)::r.cm 0 (A.length+n.length+1) (j+itm n)++B)).length=T:=⟨_,rfl⟩;rw[hT,eL (l:=A++n) (x:=({op:=20,a:=(0:Nat),w:=w.ps}:Ins)) (r:=r.cm 0 (A.length+n.length+1) (j+itm n)++B) (by simp) (by simp),hT];have hl:(A++n++[Ins.setA ({op:=20,a:=(0:Nat),w:=w.ps}:Ins) (T:Nat)]).length=A.length+n.length+1:=by grind
  have h1:=sb r (A++n++[Ins.setA ({op:=20,a:=(0:Nat),w:=w.ps}:Ins) (T:Nat)]) B i (j+itm n) e;grind[Ins.setA,itm]
def tQ(r:Am):Prop:=∀(l:List Ins) (i:Nat) (hs:List (List Nat)),r.gm ⟨l,i,0⟩ hs=(⟨l++r.cw [] l.length i,i+itm (r.cw [] l.length i),0⟩,hs++r.pls l.length i)
theorem wC:tQ .nil:=fun l i hs=>by simp[Am.gm,Am.cw,Am.pls,K.nil,bZ]
theorem tR{w:Ws}{b:Tr}{r:Am}(h1:wz w)(h2:tQ r):tQ (.cons w b r):=fun l i hs=>by
 simp only[Am.gm,h1 l i []]
 rw[h2,f_]
 grind[Am.pls,bd]
def tS(r:Am):Prop:=∀(A B:List Ins) (i j q:Nat) (es:List Nat),q=(A++(r.cw [] A.length j++B)).length->r.gb ⟨A++(r.cw [] A.length j++B),i,0⟩ (r.pls A.length j) es=(⟨A++(r.cw (r.pos q i) A.length j++(B++r.cb 0 q i)),i+itm (r.cb 0 q i),0⟩,es++r.ends q i)
theorem wD:tS .nil:=fun A B i j q es hq=>by simp[Am.gb,Am.cw,Am.pls,Am.pos,Am.cb,Am.ends,K.nil,bZ]
theorem tT{w:Ws}{b:Tr}{r:Am}(h1:Gen b.g b.c)(h2:tS r):tS (.cons w b r):=fun A B i j q es hq=>by
 obtain⟨h3,h4⟩:=fk w q 0 A.length j
 rw[f_]at hq |-
 rw[f_]
 simp only[Am.pls,Am.pos,Am.ends,Am.gb,List.headD_cons,List.headD_nil,List.tail_cons,List.tail_nil]at hq |-
 obtain⟨M,hM⟩:∃M,r.cw [] (A.length+(w.cm 0 A.length j).length) (j+itm (w.cm 0 A.length j))=M:=⟨_,rfl⟩
 rw[hM]at hq |-
 rw[List.append_assoc]at hq |-
 rw[sb w A (M++B) i j 0,<- hq]
 obtain⟨n,hn⟩:∃n,b.c (q+1) i=n:=⟨_,rfl⟩
 have hq2:(A++(w.cm q A.length j++(M++B))).length=q:=by
  grind
 have e1:b.g (PS.op ⟨A++(w.cm q A.length j++(M++B)),i,0⟩ 5 0)=⟨A++(w.cm q A.length j++(M++B))++({op:=5}:Ins)::n,i+itm n,0⟩:=by
  rw[show PS.op ⟨A++(w.cm q A.length j++(M++B)),i,0⟩ 5 0=⟨A++(w.cm q A.length j++(M++B))++[({op:=5}:Ins)],i,0⟩from rfl,h1.run,eY,hq2,hn];simp
 rw[e1]
 have h5:=h2 (A++w.cm q A.length j) (B++({op:=5}:Ins)::(n++[({op:=1}:Ins)])) (i+itm n) (j+itm (w.cm 0 A.length j)) (q+1+n.length+1) (es++[q+1+n.length])
 rw[show(A++w.cm q A.length j).length=A.length+(w.cm 0 A.length j).length by grind,hM]at h5
 have h6:=h5 (by grind)
 rw[show PS.op ⟨A++(w.cm q A.length j++(M++B))++({op:=5}:Ins)::n,i+itm n,0⟩ 1 0=⟨A++w.cm q A.length j++(M++(B++({op:=5}:Ins)::(n++[({op:=1}:Ins)]))),i+itm n,0⟩ by simp[PS.op,PS.add]]
 rw[show(A++(w.cm q A.length j++(M++B))++({op:=5}:Ins)::n).length=q+1+n.length by grind]
 rw[h6,gc]
 simp only[hn,bd,aF,aD,List.append_assoc,List.cons_append,List.nil_append]
 grind
theorem sc:∀(r:Am) (A B:List Ins) (i j e:Nat),PS.heres ⟨A++(r.cb 0 A.length j++B),i,e⟩ (r.ends A.length j)=⟨A++(r.cb (A++(r.cb 0 A.length j++B)).length A.length j++B),i,e⟩
 |.nil,A,B,i,j,e=>rfl
 |.cons w b r,A,B,i,j,e=>by
  obtain⟨n,hn⟩:∃n,b.c (A.length+1) j=n:=⟨_,rfl⟩;rw[gc,gc,hn];simp only[Am.ends,hn,PS.heres];obtain⟨T,hT⟩:∃T,(A++(({op:=5}:Ins)::(n++({op:=1,a:=(0:Nat)}:Ins)::r.cb 0 (A.length+1+n.length+1) (j+itm n))++B)).length=T:=⟨_,rfl⟩;rw[hT,eL (l:=A++({op:=5}:Ins)::n) (x:=({op:=1,a:=(0:Nat)}:Ins)) (r:=r.cb 0 (A.length+1+n.length+1) (j+itm n)++B) (by simp) (by grind),hT];have hl:(A++({op:=5}:Ins)::n++[Ins.setA ({op:=1,a:=(0:Nat)}:Ins) (T:Nat)]).length=A.length+1+n.length+1:=by grind
  have h1:=sc r (A++({op:=5}:Ins)::n++[Ins.setA ({op:=1,a:=(0:Nat)}:Ins) (T:Nat)]) B i (j+itm n) e;grind[Ins.setA,itm]
theorem tU{l:Am}(h1:tQ l)(h2:tS l):Gen (fun s=>((l.gb (((l.gm s []).1.op 5 0).op 1 0) (l.gm s []).2 [((l.gm s []).1.op 5 0).c.length]).1.heres (l.gb (((l.gm s []).1.op 5 0).op 1 0) (l.gm s []).2 [((l.gm s []).1.op 5 0).c.length]).2).op 21 0) (K.case l.cw l.cb l.pos):=fun s hs=>by
 obtain⟨c,i,e⟩:=s
 cases hs
 obtain⟨N,hN⟩:∃N,l.cw [] c.length i=N:=⟨_,rfl⟩
 simp only[h1 c i [],List.nil_append,hN]
 have e1:PS.op (PS.op ⟨c++N,i+itm N,0⟩ 5 0) 1 0=⟨c++(N++[({op:=5}:Ins),({op:=1}:Ins)]),i+itm N,0⟩:=by simp[PS.op,PS.add]
 have e2:(PS.op ⟨c++N,i+itm N,0⟩ 5 0).c.length=c.length+N.length+1:=by grind[PS.op,PS.add]
 have h3:=h2 c [({op:=5}:Ins),({op:=1}:Ins)] (i+itm N) i (c.length+N.length+2) [c.length+N.length+1] (by grind)
 rw[hN]at h3
 rw[e1,e2,h3]
 obtain⟨N2,hN2⟩:∃N2,l.cw (l.pos (c.length+N.length+2) (i+itm N)) c.length i=N2:=⟨_,rfl⟩
 obtain⟨hl,hi⟩:=gQ l (l.pos (c.length+N.length+2) (i+itm N)) [] c.length i
 rw[hN2,hN]at hl hi
 obtain⟨m,hm⟩:∃m,(l.cb 0 (c.length+N.length+2) (i+itm N)).length=m:=⟨_,rfl⟩
 simp only[hN2,PS.heres,List.cons_append,List.nil_append]
 have hT:(c++(N2++({op:=5}:Ins)::({op:=1}:Ins)::l.cb 0 (c.length+N.length+2) (i+itm N))).length=c.length+N.length+2+m:=by grind
 rw[eL (l:=c++(N2++[({op:=5}:Ins)])) (x:=({op:=1}:Ins)) (r:=l.cb 0 (c.length+N.length+2) (i+itm N)) (by simp) (by grind),hT]
 have h4:=sc l (c++(N2++[({op:=5}:Ins)])++[Ins.setA ({op:=1}:Ins) ((c.length+N.length+2+m:Nat):Int)]) [] (i+itm N+itm (l.cb 0 (c.length+N.length+2) (i+itm N))) (i+itm N) 0
 rw[show(c++(N2++[({op:=5}:Ins)])++[Ins.setA ({op:=1}:Ins) ((c.length+N.length+2+m:Nat):Int)]).length=c.length+N.length+2 by grind,List.append_nil]at h4
 rw[show c++(N2++[({op:=5}:Ins)])++Ins.setA ({op:=1}:Ins) ((c.length+N.length+2+m:Nat):Int)::l.cb 0 (c.length+N.length+2) (i+itm N)=c++(N2++[({op:=5}:Ins)])++[Ins.setA ({op:=1}:Ins) ((c.length+N.length+2+m:Nat):Int)]++l.cb 0 (c.length+N.length+2) (i+itm N) by simp,h4]
 rw[show(c++(N2++[({op:=5}:Ins)])++[Ins.setA ({op:=1}:Ins) ((c.length+N.length+2+m:Nat):Int)]++l.cb 0 (c.length+N.length+2) (i+itm N)).length=c.length+N.length+2+m by grind]
 obtain⟨h5,h6⟩:=jU l (c.length+N.length+2+m) 0 (c.length+N.length+2) (i+itm N)
 simp only[K.case,hN,hN2,hm,PS.op,PS.add,bd,aF,bZ,aD,Ins.setA,hi,h6]
 grind
theorem wE{w:Wd}{l:Am}{r:Ws}(h0:Gen w.g w.c)(h1:tQ l)(h2:tS l)(h3:Gen (r.g 10) (r.c 10)):Gen (Tr.case_ w l r).g (Tr.case_ w l r).c:=by
 have h4:=Gen.saved r.nil? (h0.seq ((Gen.add (x:={op:=19,w:=w.ps}) rfl).seq (tU h1 h2))) h3
 intro s hs
 simp only[Tr.g,Tr.c,hs,if_true]
 exact h4 s hs
theorem yW{x:Tr}{r:Ts}(h1:Gen x.g x.c)(h2:wk r):Gen (fun s=>(Ts.cons x r).gl none s) (Ts.cons x r).cl:=fun s hs=>by
 obtain⟨c,i,e⟩:=s
 cases hs
 obtain⟨n,hn⟩:∃n,x.c (c.length+1) (i+1)=n:=⟨_,rfl⟩
 have e1:x.g (PS.item ⟨c,i,0⟩ none)=⟨c++({op:=0,a:=(i+1:Nat)}:Ins)::n,i+1+itm n,0⟩:=by
  simp only[PS.item,PS.add];rw[h1.run,eY,hn];simp
 simp only[Ts.gl,e1]
 rw[h2]
 simp only[Ts.cl,K.seq,K.item,hn]
 grind[itm,aF,bd,aD,Ins.setB]
mutual
theorem Wd.gen:∀w:Wd,w.fine=true->Gen w.g w.c
 |.nil,_=>fun s hs=>by simp only[Wd.g,Wd.c];exact Gen.id s hs
 |.lit p r,h=>fun s hs=>by simp only[Wd.g,Wd.c];exact Wd.gen r (by grind[Wd.fine]) s hs
 |.sub p t r,h=>by
  simp only[Wd.fine,Bool.and_eq_true]at h;exact yR (Tr.gen t h.1) (Wd.gen r h.2)
 |.bad p f r,h=>by simp[Wd.fine]at h
theorem Ws.gen:∀w:Ws,w.fine=true->(∀o,o≠0->Gen (w.g o) (w.c o))/\wz w
 |.nil,_=>⟨fun o ho s hs=>by simp only[Ws.g,Ws.c];exact Gen.id s hs,wB⟩
 |.cons g w r,h=>by
  simp only[Ws.fine,Bool.and_eq_true]at h;exact⟨fun o ho=>wn ho g (Wd.gen w h.1) ((Ws.gen r h.2).1 o ho),tP (Wd.gen w h.1) (Ws.gen r h.2).2⟩
theorem Tr.gen:∀t:Tr,t.fine=true->Gen t.g t.c
 |.simple a w r,h=>by
  simp_all[Tr.fine,qW,Ws.gen]
 |.pipe g l,h=>wy ((Ts.gen l (by grind[Tr.fine])).2.1 true)
 |.ao o x y,h=>by
  simp only[Tr.fine,Bool.and_eq_true]at h;exact Ba (Tr.gen x h.1) (Tr.gen y h.2)
 |.lst l,h=>fun s hs=>by
  simp only[Tr.g,Tr.c,hs,if_true];exact(Ts.gen l (by grind[Tr.fine])).2.2 s hs
 |.back x,h=>wu (Tr.gen x (by grind[Tr.fine]))
 |.sub x r,h=>by
  simp only[Tr.fine,Bool.and_eq_true]at h;exact wo (Tr.gen x h.1) ((Ws.gen r h.2).1 10 (by decide))
 |.grp x r,h=>by
  simp only[Tr.fine,Bool.and_eq_true]at h;exact yS (Tr.gen x h.1) ((Ws.gen r h.2).1 10 (by decide))
 |.iff c t r,h=>by
  simp only[Tr.fine,Bool.and_eq_true]at h;exact yT (Tr.gen c h.1.1) (Tr.gen t h.1.2) ((Ws.gen r h.2).1 10 (by decide))
 |.ife c t e r,h=>by
  simp only[Tr.fine,Bool.and_eq_true]at h;exact yU (Tr.gen c h.1.1.1) (Tr.gen t h.1.1.2) (Tr.gen e h.1.2) ((Ws.gen r h.2).1 10 (by decide))
 |.loop u c b r,h=>by
  simp only[Tr.fine,Bool.and_eq_true]at h;exact ww (Tr.gen c h.1.1) (Tr.gen b h.1.2) ((Ws.gen r h.2).1 10 (by decide))
 |.for_ n w b r,h=>by
  simp only[Tr.fine,Bool.and_eq_true]at h;exact yV ((Ws.gen w h.1.1).1 7 (by decide)) (Tr.gen b h.1.2) ((Ws.gen r h.2).1 10 (by decide))
 |.case_ w l r,h=>by
  simp_all[Tr.fine,wE,Wd.gen,Am.gen,Ws.gen]
 |.fn n b,h=>A' (Tr.gen b (by grind[Tr.fine]))
theorem Ts.gen:∀l:Ts,l.fine=true->wk l/\(∀b,Gen (l.gp b) (l.cp b))/\Gen (fun s=>l.gl none s) l.cl
 |.nil,_=>⟨wl,wm,fun s hs=>by simp only[Ts.gl,Ts.cl];exact Gen.id s hs⟩
 |.cons x r,h=>by
  simp only[Ts.fine,Bool.and_eq_true]at h;obtain⟨h1,h2,h3⟩:=Ts.gen r h.2;simp_all[tN,Tr.gen,tO,yW]
theorem Am.gen:∀l:Am,l.fine=true->tQ l/\tS l
 |.nil,_=>⟨wC,wD⟩
 |.cons w b r,h=>by
  simp only[Am.fine,Bool.and_eq_true]at h;obtain⟨h1,h2⟩:=Am.gen r h.2;simp_all[tR,Ws.gen,tT,Tr.gen]
end
def fB(o:Nat):Bool:=[1,2,3,13,18,20,22].contains o
def Ins.up(dp di:Nat)(x:Ins):Ins:=
 if x.op=0 then {x with a:=x.a+di,b:=if x.b=0 then 0 else x.b+di}else if fB x.op then {x with a:=x.a+dp}else x
theorem yX(dp di:Nat)(x:Ins):aD (x.up dp di)=aD x:=by
 grind[Ins.up,aD]
theorem gf(dp di:Nat)(l:List Ins):itm (l.map (Ins.up dp di))=itm l:=by
 induction l with
 |nil=>rfl
 |cons x r ih=>grind[aF,yX]
def Sh(f:K):Prop:=∀p i dp di,f (p+dp) (i+di)=(f p i).map (Ins.up dp di)
theorem Sh.seq{f g:K}(hf:Sh f)(hg:Sh g):Sh (f.seq g):=fun p i dp di=>by
 simp only[K.seq,hf p i dp di,List.length_map,gf,List.map_append]
 rw[show p+dp+(f p i).length=p+(f p i).length+dp by omega,show i+di+itm (f p i)=i+itm (f p i)+di by omega,hg]
theorem Sh.nil:Sh K.nil:=fun _ _ _ _=>rfl
theorem Sh.one{x:Ins}(h1:x.op≠0)(h2:fB x.op=false):Sh (K.one x):=fun p i dp di=>by
 grind[K.one,Ins.up]
theorem Sh.o{o:Nat}{a:Int}(h1:o≠0)(h2:fB o=false):Sh (K.o o a):=Sh.one h1 h2
theorem Sh.at{f:K}(hf:Sh f){p i q j:Nat}{dp di:Nat}(hp:q=p+dp)(hi:j=i+di):f q j=(f p i).map (Ins.up dp di):=by
 subst hp hi;exact hf p i dp di
theorem Sh.child{f:K}(kind:Int)(hf:Sh f):Sh (K.child kind f):=fun p i dp di=>by
 simp only[K.child]
 rw[hf.at (p:=p+1) (i:=i) (dp:=dp) (di:=di) (by omega) rfl]
 simp only[List.length_map,List.map_cons,List.map_append,List.map_nil]
 simp[Ins.up,fB]
 omega
theorem Sh.over{f:K}{o:Nat}(h1:o≠0)(h2:fB o=true)(hf:Sh f):Sh (K.over o f):=fun p i dp di=>by
 simp only[K.over]
 rw[hf.at (p:=p+1) (i:=i) (dp:=dp) (di:=di) (by omega) rfl]
 grind[Ins.up]
theorem Sh.quiet{f:K}(hf:Sh f):Sh (K.quiet f):=(Sh.o (by decide) rfl).seq (hf.seq (Sh.o (by decide) rfl))
theorem Sh.alt{f g:K}(hf:Sh f)(hg:Sh g):Sh (K.alt f g):=fun p i dp di=>by
 simp only[K.alt]
 rw[hf.at (p:=p+1) (i:=i) (dp:=dp) (di:=di) (by omega) rfl]
 simp only[List.length_map,gf]
 rw[hg.at (p:=p+1+(f (p+1) i).length+1) (i:=i+itm (f (p+1) i)) (dp:=dp) (di:=di) (by omega) (by omega)]
 grind[Ins.up,fB]
theorem Sh.loop{f g:K}{o:Nat}(h1:o≠0)(h2:fB o=true)(hf:Sh f)(hg:Sh g):Sh (K.loop o f g):=fun p i dp di=>by
 simp only[K.loop]
 rw[hf p i dp di]
 simp only[List.length_map,gf]
 rw[hg.at (p:=p+(f p i).length+1) (i:=i+itm (f p i)) (dp:=dp) (di:=di) (by omega) (by omega)]
 grind[Ins.up,fB]
theorem Sh.each{f:K}(hf:Sh f):Sh (K.each f):=fun p i dp di=>by
 simp only[K.each]
 rw[hf.at (p:=p+1) (i:=i) (dp:=dp) (di:=di) (by omega) rfl]
 grind[Ins.up,fB]
theorem Sh.fn{f:K}(n:ab)(hf:Sh f):Sh (K.fn n f):=fun p i dp di=>by
 simp only[K.fn]
 rw[hf.at (p:=p+2) (i:=i) (dp:=dp) (di:=di) (by omega) rfl]
 simp only[List.length_map,List.map_cons,List.map_append,List.map_nil]
 simp[Ins.up,fB]
 omega
theorem Sh.item{f:K}(more:Bool)(hf:Sh f):Sh (K.item more f):=fun p i dp di=>by
 simp only[K.item]
 rw[hf.at (p:=p+1) (i:=i+1) (dp:=dp) (di:=di) (by omega) (by omega)]
 grind[gf,Ins.up]
theorem Sh.saved{r f:K}(b:Bool)(hr:Sh r)(hf:Sh f):Sh (K.saved b r f):=by
 unfold K.saved
 split
 ·exact hf
 ·exact(Sh.o (by decide) rfl).seq (hr.seq (hf.seq (Sh.o (by decide) rfl)))
theorem Sh.ite{b:Prop}[Decidable b]{f g:K}(hf:Sh f)(hg:Sh g):Sh (if b then f else g):=by grind
def ShW(ws:Ws):Prop:=∀t p i dp di,ws.cm (t+dp) (p+dp) (i+di)=(ws.cm t p i).map (Ins.up dp di)
theorem wF{g:Tg}{w:Wd}{r:Ws}(h1:Sh w.c)(h2:ShW r):ShW (.cons g w r):=fun t p i dp di=>by
 rw[f8,f8,h1 p i dp di]
 simp only[List.length_map,gf]
 rw[show p+dp+(w.c p i).length+1=p+(w.c p i).length+1+dp by omega,show i+di+itm (w.c p i)=i+itm (w.c p i)+di by omega,h2]
 simp[Ins.up,fB]
def ShA(l:Am):Prop:=(∀t p i dp di,t.length=l.nds.length->l.cw (t.map (· +dp)) (p+dp) (i+di)=(l.cw t p i).map (Ins.up dp di))/\(∀e p i dp di,l.cb (e+dp) (p+dp) (i+di)=(l.cb e p i).map (Ins.up dp di))/\∀p i dp di,l.pos (p+dp) (i+di)=(l.pos p i).map (· +dp)
theorem mY:∀(l:Am) (p i:Nat),(l.pos p i).length=l.nds.length
 |.nil,_,_=>rfl
 |.cons w b r,p,i=>by simp only[Am.pos,Am.nds,List.length_cons,mY r]
theorem yY:ShA .nil:=⟨fun _ _ _ _ _ _=>rfl,fun _ _ _ _ _=>rfl,fun _ _ _ _=>rfl⟩
theorem wG{w:Ws}{b:Tr}{r:Am}(h1:ShW w)(h2:Sh b.c)(h3:ShA r):ShA (.cons w b r):=by
 obtain⟨h4,h5,h6⟩:=h3
 refine⟨fun t p i dp di ht=>?_,fun e p i dp di=>?_,fun p i dp di=>?_⟩
 ·cases t with
  |nil=>grind[Am.nds]
  |cons x t=>
   simp only[Am.nds,List.length_cons,Nat.add_right_cancel_iff]at ht;rw[f_,f_];simp only[List.map_cons,List.headD_cons,List.tail_cons];have hm:(w.cm 0 (p+dp) (i+di)).length=(w.cm 0 p i).length/\itm (w.cm 0 (p+dp) (i+di))=itm (w.cm 0 p i):=by
    obtain⟨a1,a2⟩:=fk w 0 (0+dp) (p+dp) (i+di);rw[a1,a2,h1,List.length_map,gf];omega
   rw[h1,hm.1,hm.2,List.map_append];grind
 ·rw[gc,gc,h2.at (p:=p+1) (i:=i) (dp:=dp) (di:=di) (by omega) rfl]
  simp only[List.length_map,gf];rw[show p+dp+1+(b.c (p+1) i).length+1=p+1+(b.c (p+1) i).length+1+dp by omega,show i+di+itm (b.c (p+1) i)=i+itm (b.c (p+1) i)+di by omega,h5];simp[Ins.up,fB]
 ·simp only[Am.pos,List.map_cons]
  rw[h2.at (p:=p+1) (i:=i) (dp:=dp) (di:=di) (by omega) rfl];simp only[List.length_map,gf];rw[show p+dp+1+(b.c (p+1) i).length+1=p+1+(b.c (p+1) i).length+1+dp by omega,show i+di+itm (b.c (p+1) i)=i+itm (b.c (p+1) i)+di by omega,h6]
theorem wH{l:Am}(h:ShA l):Sh (K.case l.cw l.cb l.pos):=fun p i dp di=>by
 obtain⟨h4,h5,h6⟩:=h
 have hn:∀q:List Nat,q.length=l.nds.length->(l.cw q p i).length=(l.cw [] p i).length/\itm (l.cw q p i)=itm (l.cw [] p i):=fun q _=>gQ l q [] p i
 have hm:(l.cw [] (p+dp) (i+di)).length=(l.cw [] p i).length/\itm (l.cw [] (p+dp) (i+di))=itm (l.cw [] p i):=by
  have h7:=h4 (List.replicate l.nds.length 0) p i dp di (by simp);grind[gQ,gf]
 obtain⟨N,hN⟩:∃N,(l.cw [] p i).length=N:=⟨_,rfl⟩
 obtain⟨J,hJ⟩:∃J,itm (l.cw [] p i)=J:=⟨_,rfl⟩
 simp only[K.case,hm.1,hm.2,hN,hJ]
 have ep:p+dp+N+2=p+N+2+dp:=by omega
 have ei:i+di+J=i+J+di:=by omega
 have hb0:(l.cb 0 (p+N+2+dp) (i+J+di)).length=(l.cb 0 (p+N+2) (i+J)).length:=by
  rw[(jU l 0 (0+dp) (p+N+2+dp) (i+J+di)).1,h5,List.length_map]
 rw[ep,ei,h6,h4 _ _ _ _ _ (mY _ _ _),hb0]
 rw[show p+N+2+dp+(l.cb 0 (p+N+2) (i+J)).length=p+N+2+(l.cb 0 (p+N+2) (i+J)).length+dp by omega,h5]
 simp[Ins.up,fB]
mutual
theorem Wd.sh:∀w:Wd,Sh w.c
 |.nil=>fun p i dp di=>by simp only[Wd.c];rfl
 |.lit p r=>fun a b c d=>by simp only[Wd.c];exact Wd.sh r a b c d
 |.sub p t r=>fun a b c d=>by simp only[Wd.c];exact((Tr.sh t).child 8).seq ((Sh.o (by decide) rfl).seq (Wd.sh r)) a b c d
 |.bad p f r=>fun a b c d=>by simp only[Wd.c];exact Wd.sh r a b c d
theorem Ws.sh:∀w:Ws,(∀o,o≠0->fB o=false->Sh (w.c o))/\ShW w
 |.nil=>⟨fun o _ _ p i dp di=>by simp only[Ws.c];rfl,fun t p i dp di=>rfl⟩
 |.cons g w r=>⟨fun o h1 h2 a b c d=>by simp only[Ws.c];exact(Wd.sh w).seq ((Sh.one h1 h2).seq ((Ws.sh r).1 o h1 h2)) a b c d,wF (Wd.sh w) (Ws.sh r).2⟩
theorem Tr.sh:∀t:Tr,Sh t.c
 |.simple a w r=>fun x y c d=>by
  simp only[Tr.c];exact Sh.saved _ ((Ws.sh r).1 10 (by decide) rfl) ((Sh.ite Sh.nil ((Sh.o (by decide) rfl).seq ((Ws.sh w).1 7 (by decide) rfl))).seq (((Ws.sh a).1 8 (by decide) rfl).seq (Sh.ite (Sh.ite (Sh.o (by decide) rfl) Sh.nil) (Sh.o (by decide) rfl)))) x y c d
 |.pipe g l=>fun x y c d=>by
  simp only[Tr.c];have h:=((Ts.sh l).2 true).seq (Sh.ite (b:=1<l.nds.length) (Sh.o (o:=14) (a:=0) (by decide) rfl) Sh.nil);exact Sh.ite ((Sh.o (by decide) rfl).seq (h.seq ((Sh.o (by decide) rfl).seq (Sh.o (by decide) rfl)))) (h.seq (Sh.o (by decide) rfl)) x y c d
 |.ao o x y=>fun a b c d=>by
  simp only[Tr.c];exact(Tr.sh x).quiet.seq (Sh.over (by grind) (by cases o<;>rfl) (Tr.sh y)) a b c d
 |.lst l=>fun a b c d=>by simp only[Tr.c];exact(Ts.sh l).1 a b c d
 |.back x=>fun a b c d=>by simp only[Tr.c];exact((Tr.sh x).child 4).seq (Sh.o (by decide) rfl) a b c d
 |.sub x r=>fun a b c d=>by simp only[Tr.c];exact Sh.saved _ ((Ws.sh r).1 10 (by decide) rfl) (((Tr.sh x).child 0).seq (Sh.o (by decide) rfl)) a b c d
 |.grp x r=>fun a b c d=>by simp only[Tr.c];exact Sh.saved _ ((Ws.sh r).1 10 (by decide) rfl) (Tr.sh x) a b c d
 |.iff c t r=>fun a b e d=>by simp only[Tr.c];exact Sh.saved _ ((Ws.sh r).1 10 (by decide) rfl) ((Tr.sh c).quiet.seq ((Tr.sh t).alt (Sh.o (by decide) rfl))) a b e d
 |.ife c t e r=>fun a b f d=>by simp only[Tr.c];exact Sh.saved _ ((Ws.sh r).1 10 (by decide) rfl) ((Tr.sh c).quiet.seq ((Tr.sh t).alt (Tr.sh e))) a b f d
 |.loop u c b r=>fun a e f d=>by simp only[Tr.c];exact Sh.saved _ ((Ws.sh r).1 10 (by decide) rfl) ((Sh.loop (by grind) (by cases u<;>rfl) (Tr.sh c).quiet (Tr.sh b)).seq (Sh.o (by decide) rfl)) a e f d
 |.for_ n w b r=>fun a e f d=>by simp only[Tr.c];exact Sh.saved _ ((Ws.sh r).1 10 (by decide) rfl) ((Sh.o (by decide) rfl).seq (((Ws.sh w).1 7 (by decide) rfl).seq ((Sh.one (x:={op:=17,s:=n}) (show(17:Nat)≠0 by decide) rfl).seq ((Sh.o (by decide) rfl).seq (Tr.sh b).each)))) a e f d
 |.case_ w l r=>fun a e f d=>by simp only[Tr.c];exact Sh.saved _ ((Ws.sh r).1 10 (by decide) rfl) ((Wd.sh w).seq ((Sh.one (x:={op:=19,w:=w.ps}) (show(19:Nat)≠0 by decide) rfl).seq (wH (Am.sh l)))) a e f d
 |.fn n b=>fun a e f d=>by simp only[Tr.c];exact((Tr.sh b).fn n).seq (Sh.o (by decide) rfl) a e f d
theorem Ts.sh:∀l:Ts,Sh l.cl/\∀b,Sh (l.cp b)
 |.nil=>⟨fun p i dp di=>by simp only[Ts.cl];rfl,fun b p i dp di=>by simp only[Ts.cp];rfl⟩
 |.cons x r=>⟨fun a b c d=>by simp only[Ts.cl];exact((Tr.sh x).item _).seq (Ts.sh r).1 a b c d,fun f a b c d=>by simp only[Ts.cp];exact(Sh.ite (Tr.sh x) ((Tr.sh x).child _)).seq ((Ts.sh r).2 false) a b c d⟩
theorem Am.sh:∀l:Am,ShA l
 |.nil=>yY
 |.cons w b r=>wG (Ws.sh w).2 (Tr.sh b) (Am.sh r)
end
def sw(ps:List Prt):Nat:=(ps.map fun p=>if p.k=2 then p.t.length+1 else 0).sum
theorem Bb:sw []=0:=rfl
theorem sd(p:Prt)(ps:List Prt):sw (p::ps)=(if p.k=2 then p.t.length+1 else 0)+sw ps:=by simp[sw]
theorem mZ(ps:List Prt)(p:Prt):sw (ps++[p])=sw ps+(if p.k=2 then p.t.length+1 else 0):=by simp[sw]
theorem gg:∀(ps:List Prt) (s:ab) (q:Bool),sw (addT ps s q)=sw ps
 | [],s,q=>rfl
 | [p],s,q=>by
  grind[addT,sw]
 |a::b::i,s,q=>by
  show sw (a::addT (b::i) s q)=_
  simp_all[sd,gg]
theorem mb{ps:List Prt}{s:ab}{n:Nat}{q:Bool}{st:St}(h:aH ps s n q=.ok st):sw st.1+st.2.1.length<=sw ps+s.length:=by
 unfold aH at h
 split at h
 ·rename_i h40
  cases s with
  |nil=>grind
  |cons c0 s=>
  cases hp:dF (List.drop 1 (c0::s))with
  |none=>grind
  |some z=>
   obtain⟨a,r⟩:=z;rw[hp]at h;injection h with h
   rw[<- h];have ht:=congrArg List.length (d8 _ _ _ _ _ hp);grind[mZ]
 ·split at h
  ·cases hp:brk 125 (s.drop 1)with
   |none=>grind
   |some z=>
    obtain⟨a,r⟩:=z;rw[hp]at h;simp only at h;split at h
    ·cases h
    ·injection h with h
     rw[<- h];have ht:=congrArg List.length (bB hp).1;grind[mZ]
  grind[mZ,gg]
theorem tV(n0:Nat):∀(f:Nat) (ps:List Prt) (l:ab) (n:Nat) (st:St),bn f n0 (ps,l,n)=.ok st->sw st.1+st.2.1.length<=sw ps+l.length:=by
 intro f
 induction f with
 |zero=>intro ps l n st h;cases h
 |succ f ih=>
  intro ps l n st h
  cases l with
  |nil=>cases h
  |cons c t=>
   rw[aQ]at h;split at h
   ·grind
   split at h
   ·cases hd:aH ps t n true with
    |bad m=>grind
    |ok x=>
     obtain⟨ps',r,m⟩:=x;rw[hd]at h;have h1:=mb hd;grind
   grind[gg]
theorem pr{ps:List Prt}{c:UInt8}{t:ab}{n:Nat}{st:St}(h:bh ps c t n=.ok st):sw st.1+st.2.1.length<=sw ps+t.length:=by
 unfold bh at h
 split at h
 ·cases hp:brk 39 t with
  |none=>grind
  |some z=>
   obtain⟨a,r⟩:=z;rw[hp]at h;injection h with h
   rw[<- h];have ht:=congrArg List.length (bB hp).1;grind[gg]
 split at h
 ·have h2:=tV _ _ _ _ _ _ h
  grind[gg]
 split at h
 ·grind[gg]
 split at h
 ·exact mb h
 grind[gg]
theorem yZ:∀(f:Nat) (ps:List Prt) (l:ab) (n:Nat) (st:St),word f (ps,l,n)=.ok st->sw st.1+st.2.1.length<=sw ps+l.length:=by
 intro f
 induction f with
 |zero=>intro ps l n st h;injection h with h;grind
 |succ f ih=>
  intro ps l n st h
  cases l with
  |nil=>injection h with h;grind
  |cons c t=>
   rw[ba]at h;split at h
   ·grind
   ·cases hp:bh ps c t n with
    |bad m=>grind
    |ok x=>
     obtain⟨ps',r,m⟩:=x;rw[hp]at h;have h1:=pr hp;grind
theorem wI{f:Nat}{c:UInt8}{t:ab}{n:Nat}{st:St}(hc:ends c=false)(h:word (f+1) ([],c::t,n)=.ok st):sw st.1+st.2.1.length<=t.length:=by
 rw[ba,if_neg (by grind)]at h
 cases hp:bh [] c t n with
 |bad m=>grind
 |ok x=>
  obtain⟨ps',r,m⟩:=x;rw[hp]at h;have h1:=pr hp;have h2:=yZ _ _ _ _ _ h;grind[Bb]
def wt(t:Tok):Nat:=1+sw t.parts
def wtl(ts:List Tok):Nat:=(ts.map wt).sum
theorem dV(t:Tok)(ts:List Tok):wtl (t::ts)=wt t+wtl ts:=by simp[wtl]
theorem y3:wtl []=0:=rfl
theorem qX(t:Tok):1<=wt t:=Nat.le_add_right _ _
theorem wJ{l r:ab}{fd:Int}{n0 n m:Nat}{x:Tok}(hl:l≠[])(h:ioS l fd n0 n=.tok x r m):wt x+r.length<=l.length:=by
 unfold ioS at h
 have hp:0<l.length:=List.length_pos_iff.2 hl
 split at h
 ·rename_i h2
  have h3:2<=l.length:=by
   have:(l.take 2).length=2:=by grind
   grind
  injection h with h1 h4;subst h1 h4
  show 1+0+_<=_
  grind
 ·injection h with h1 h4;subst h1 h4
  show 1+0+_<=_
  grind
theorem y4{c:UInt8}{t r:ab}{n m:Nat}{x:Tok}(h:aT c t n=.tok x r m):wt x+r.length<=(c::t).length:=by
 have hlt:=du c t n
 rw[h]at hlt
 simp only[Step.rest,List.length_cons]at hlt |-
 have h1:∀y:Tok,sw y.parts=0->x=y->wt x+r.length<=t.length+1:=fun y hy e=>by grind[wt]
 unfold aT at h
 split at h
 ·cases h
 split at h
 ·cases h
 split at h
 ·injection h with h;exact h1 _ rfl h.symm
 split at h
 ·split at h<;>(injection h with h;exact h1 _ rfl h.symm)
 split at h
 ·injection h with h;exact h1 _ rfl h.symm
 split at h
 ·have:=wJ (by simp) h;omega
 split at h
 ·cases h
 rename_i a1 a2 a3 a4 a5 a6 a7
 have he:ends c=false:=by
  grind[ends]
 cases hw:word (t.length+2) ([],c::t,n)with
 |bad k=>grind
 |ok y=>
  obtain⟨ps,r',k⟩:=y;have hs:=wI he hw;rw[hw]at h;simp only at h hs;have h2:∀z:Tok,z.parts=ps->x=z->r=r'->wt x+r.length<=t.length+1:=fun z hz e e2=>by grind[wt]
  split at h
  ·split at h
   ·rename_i h60
    have h3:r'≠[]:=fun e=>by grind
    have:=wJ h3 h;omega
   grind
  grind
theorem m_:∀(d:Nat) (l:ab) (n:Nat),l.length<=d->wtl (bG l n).1<=l.length
 |0,l,n,hl=>by
  obtain rfl:=List.eq_nil_of_length_eq_zero (Nat.le_zero.1 hl);rw[ci];exact Nat.le_refl _
 |d+1,[],n,hl=>by rw[ci];exact Nat.zero_le _
 |d+1,c::t,n,hl=>by
  have hlt:=du c t n;rw[bD]
  cases hs:aT c t n with
  |bad m=>exact Nat.zero_le _
  |skip r m=>
   rw[hs]at hlt;simp only[Step.rest,List.length_cons]at hlt hl |-
   have:=m_ d r m (by omega);omega
  |tok x r m=>
   have h1:=y4 hs;rw[hs]at hlt;simp only[Step.rest,List.length_cons]at hlt hl h1 |-
   have:=m_ d r m (by omega);rw[dV];omega
def cwt(ps:List Prt):Nat:=(ps.map fun p=>if p.k=2 then 40*p.t.length+16 else 0).sum
theorem dW(p:Prt)(ps:List Prt):cwt (p::ps)=(if p.k=2 then 40*p.t.length+16 else 0)+cwt ps:=by simp[cwt]
theorem nc(ps:List Prt):cwt ps<=40*sw ps:=by
 induction ps with
 |nil=>exact Nat.zero_le _
 |cons p ps ih=>
  grind[dW,sd]
def cww(l:List (List Prt)):Nat:=(l.map fun ps=>1+cwt ps).sum
def cwa(l:List (ab×List Prt)):Nat:=(l.map fun x=>1+cwt x.2).sum
def cwr(l:List (Int×Nat×List Prt)):Nat:=(l.map fun x=>1+cwt x.2.2).sum
theorem fC(ps:List Prt)(l:List (List Prt)):cww (ps::l)=1+cwt ps+cww l:=by simp[cww]
theorem lc(ps:List Prt)(l:List (List Prt)):cww (l++[ps])=cww l+(1+cwt ps):=by simp[cww]
theorem wK(x:ab×List Prt)(l:List (ab×List Prt)):cwa (l++[x])=cwa l+(1+cwt x.2):=by simp[cwa]
theorem ld(x:Int×Nat×List Prt)(l:List (Int×Nat×List Prt)):cwr (l++[x])=cwr l+(1+cwt x.2.2):=by simp[cwr]
mutual
def Nd.co:Nd->Nat
 |.mk _ _ _ a w r l=>8+(cwa a+cww w+cwr r)+Nd.cos l
def Nd.cos:List Nd->Nat
 | []=>0
 |n::l=>n.co+Nd.cos l
end
theorem cO(k:Nat)(n:ab)(g:Bool)(a:List (ab×List Prt))(w:List (List Prt))(r:List (Int×Nat×List Prt))(l:List Nd):(Nd.mk k n g a w r l).co=8+(cwa a+cww w+cwr r)+Nd.cos l:=by simp only[Nd.co]
theorem bq:Nd.cos []=0:=by simp only[Nd.cos]
theorem aN(n:Nd)(l:List Nd):Nd.cos (n::l)=n.co+Nd.cos l:=by simp only[Nd.cos]
theorem fD(n:Nd):∀l:List Nd,Nd.cos (l++[n])=Nd.cos l+n.co
 | []=>by grind[aN,bq]
 |x::l=>by rw[List.cons_append,aN,aN,fD n l];omega
theorem lg(n:Nd):8<=n.co:=by
 cases n;rw[cO];omega
theorem dD{k:Nat}{n:ab}{g:Bool}{l:List Nd}:(Nd.mk k n g [] [] [] l).co=8+Nd.cos l:=by rw[cO];simp[cwa,cww,cwr]
theorem iq{k:Nat}{n:ab}{g:Bool}{x:Nd}:(Nd.mk k n g [] [] [] [x]).co=8+x.co:=by rw[dD,aN,bq];omega
theorem lh{k:Nat}{n:ab}{g:Bool}{x y:Nd}:(Nd.mk k n g [] [] [] [x,y]).co=8+x.co+y.co:=by grind[dD,aN,bq]
theorem y5(a b:List Tok):wtl (a++b)=wtl a+wtl b:=by simp[wtl]
theorem se{r ts:List Tok}(h:r <:+ ts):wtl r<=wtl ts:=by
 obtain⟨a,rfl⟩:=h
 rw[y5];omega
theorem dN(ts:List Tok):wtl (au ts)<=wtl ts:=se (ay ts)
theorem c8(ts:List Tok):wtl ts.tail<=wtl ts:=se (am ts)
theorem mc{ts:List Tok}(h:ts≠[]):wtl ts.tail+1<=wtl ts:=by
 cases ts with
 |nil=>grind
 |cons t u=>grind[dV,qX]
theorem et{s:ab}{ts:List Tok}{u:Unit}{r:List Tok}(h:aW s ts=.ok u r):wtl r+1<=wtl ts:=by
 unfold aW at h
 split at h
 ·rename_i h1
  injection h with _ h2
  rw[<- h2];refine mc fun e=>?_
  rw[e]at h1
  cases h1
 ·cases h
theorem iM{ts:List Tok}{ps:List Prt}{r:List Tok}(h:bT ts=.ok ps r):cwt ps+40+40*wtl r<=40*wtl ts:=by
 cases ts with
 |nil=>cases h
 |cons t u=>
  simp only[bT]at h;split at h
  ·grind[dV,nc,wt]
  ·cases h
def Cq(d:Nat)(P:Pa Nd):Prop:=∀ts a r,P ts=.ok a r->a.co+d+40*wtl r<=40*wtl ts
theorem pt{cmd:Pa Nd}(h:Cq 24 cmd):∀(f:Nat) (l:List Nd) (ts:List Tok) (a:List Nd) (r:List Tok),dl cmd f l ts=.ok a r->Nd.cos a+40*wtl r<=Nd.cos l+40*wtl ts
 |0,l,ts,a,r,e=>by cases e;omega
 |f+1,l,ts,a,r,e=>by
  unfold dl at e;split at e
  ·obtain⟨x,s,h1,h2⟩:=ac e
   have h3:=h _ _ _ h1;have h4:=pt h f _ s a r h2;grind[dN,c8,fD]
  grind
theorem y6{cmd:Pa Nd}(h:Cq 24 cmd):Cq 16 (pipe cmd):=fun ts a r e=>by
 obtain⟨x,s,h1,h2⟩:=ac e
 have h3:=h _ _ _ h1
 have h4:wtl (if bS [[33]] ts=true then ts.tail else ts)<=wtl ts:=by grind[c8]
 obtain⟨l,s2,h5,h6⟩:=ac h2
 have h7:=pt h _ _ s _ _ h5
 grind[aN,bq,dD]
theorem pw{pi:Pa Nd}(h:Cq 16 pi):∀(f:Nat) (n:Nd) (ts:List Tok) (a:Nd) (r:List Tok),dk pi f n ts=.ok a r->a.co+40*wtl r<=n.co+40*wtl ts
 |0,n,ts,a,r,e=>by cases e;omega
 |f+1,n,ts,a,r,e=>by
  unfold dk at e;split at e
  ·obtain⟨x,s,h1,h2⟩:=ac e
   have h3:=h _ _ _ h1;have h4:=pw h f _ s a r h2;grind[dN,c8,lh]
  grind
theorem y8{pi:Pa Nd}(h:Cq 16 pi):Cq 16 (item pi):=fun ts a r e=>by
 obtain⟨x,s,h1,h2⟩:=ac e
 have h3:=h _ _ _ h1
 have h4:=pw h _ _ s a r h2
 omega
theorem y9(ts:List Tok)(n:Nd):(back ts n).co<=8+n.co:=by
 grind[back,iq]
theorem py{it:Pa Nd}(h:Cq 16 it):∀(f:Nat) (l:List Nd) (ts:List Tok) (a:List Nd) (r:List Tok),aR it f l ts=.ok a r->Nd.cos a+8*a.length+40*wtl r<=Nd.cos l+8*l.length+40*wtl ts
 |0,l,ts,a,r,e=>by cases e;omega
 |f+1,l,ts,a,r,e=>by
  have h0:=dN ts;unfold aR at e;split at e
  ·grind
  ·obtain⟨x,s,h1,h2⟩:=ac e
   have h3:=h _ _ _ h1;have h5:=y9 s x;split at h2
   ·have h4:=py h f _ _ a r h2
    grind[c8,fD]
   grind[fD]
theorem pA{cmd:Pa Nd}(h:Cq 24 cmd){ts:List Tok}{l:List Nd}{r:List Tok}(e:eF cmd ts=.ok l r):Nd.cos l+8*l.length+40*wtl r<=40*wtl ts:=by
 have:=py (y8 (y6 h)) _ _ ts _ _ e
 grind[bq]
theorem sf{cmd:Pa Nd}(h:Cq 24 cmd){ts:List Tok}{a:Nd}{r:List Tok}(e:cj cmd ts=.ok a r):a.co+40*wtl r<=8+40*wtl ts/\(a.kids≠[]->a.co+40*wtl r<=40*wtl ts):=by
 obtain⟨l,s,h1,h2⟩:=ac e
 have h3:=pA h h1
 injection h2 with h2 h6
 subst h2 h6
 rw[dD]
 refine⟨by omega,fun hk=>?_⟩
 have:0<l.length:=List.length_pos_iff.2 hk
 omega
theorem gh{cmd:Pa Nd}(h:Cq 24 cmd):Cq 0 (eA cmd):=fun ts a r e=>by
 obtain⟨n,s,h1,h2⟩:=ac e
 obtain⟨h3,h5⟩:=sf h h1
 split at h2
 ·cases h2
 grind
theorem me{so:Pa Nd}(h:Cq 0 so)(k:Nat)(c:ab):Cq 0 (closed so k c):=fun ts a r e=>by
 obtain⟨x,s,h1,h2⟩:=ac e
 have h3:=h _ _ _ h1
 obtain⟨u,s2,h5,h6⟩:=ac h2
 have h4:=et h5
 grind[iq]
theorem lj{so:Pa Nd}(h:Cq 0 so){k:Nat}{c:ab}{e:Option ab}{ts:List Tok}{n:Nd}{r:List Tok}(hh:aO so k c e ts=.ok n r):∃a b,n=.mk k [] false [] [] [] [a,b]/\n.co+40*wtl r<=40*wtl ts:=by
 obtain⟨a,s,h1,h2⟩:=ac hh
 have h3:=h _ _ _ h1
 obtain⟨u,s2,h5,h6⟩:=ac h2
 have h4:=et h5
 obtain⟨b,s3,h7,h8⟩:=ac h6
 have h9:=h _ _ _ h7
 cases e with
 |none=>
  grind[lh]
 |some c2=>
  obtain⟨u,s4,h11,h12⟩:=ac h8;have h10:=et h11;grind[lh]
theorem jC{so:Pa Nd}(h:Cq 0 so)(k:Nat)(c:ab)(e:Option ab):Cq 0 (aO so k c e):=fun ts a r hh=>by
 obtain⟨x,y,_,h1⟩:=lj h hh
 exact h1
theorem jD:∀ts:List Tok,cww (aE ts).1+40*wtl (aE ts).2<=40*wtl ts
 | []=>by unfold aE;exact Nat.le_refl _
 |t::r=>by
  unfold aE;split
  ·have h1:=jD r
   grind[nc,fC,dV,wt]
  ·simp[cww]
theorem lk{so:Pa Nd}(h:Cq 0 so){n:ab}{ws:List (List Prt)}{ts:List Tok}{a:Nd}{r:List Tok}(hh:cf so n ws ts=.ok a r):a.co+40*wtl r+40<=cww ws+40*wtl ts:=by
 obtain⟨u,s,h1,h2⟩:=ac hh
 obtain⟨b,s2,h3,h4⟩:=ac h2
 obtain⟨u2,s3,h5,h6⟩:=ac h4
 have h7:=h _ _ _ h3
 have h8:=et h1
 have h9:=et h5
 grind[dN,cO,aN,bq,cwa,cwr]
theorem y_{so:Pa Nd}(h:Cq 0 so):Cq 0 (eG so):=fun ts a r hh=>by
 cases ts with
 |nil=>cases hh
 |cons t u=>
  simp only[eG]at hh;have hl:=dN u;have ht:=qX t;rw[dV];split at hh
  ·split at hh
   ·have h1:=jD (au u).tail
    have h4:=c8 (au u);unfold gV at hh;split at hh
    ·have h2:=lk h hh
     grind[c8,aE,au]
    ·cases hh
   ·have h2:=lk h hh
    have h3:wtl (if(aS [59] (au u)&& !isK 3 u)=true then(au u).tail else au u)<=wtl u:=by
     grind[c8,au]
    have h4:cww qh=1:=rfl;omega
  ·cases hh
theorem sg:∀(f:Nat) (l:List (List Prt)) (ts:List Tok) (a:List (List Prt)) (r:List Tok),e_ f l ts=.ok a r->cww a+40*wtl r<=cww l+40*wtl ts
 |0,l,ts,a,r,e=>by cases e;omega
 |f+1,l,ts,a,r,e=>by
  unfold e_ at e;split at e
  ·obtain⟨w,s,h1,h2⟩:=ac e
   have h3:=iM h1;have h4:=c8 ts;have h5:=sg f _ s a r h2;grind[lc]
  grind
theorem Bc{cmd:Pa Nd}(h:Cq 24 cmd):Cq 0 (arm (cj cmd)):=fun ts a r e=>by
 obtain⟨w,s,h1,h2⟩:=ac e
 have h3:=iM h1
 have h4:wtl (if aS [40] ts=true then ts.tail else ts)<=wtl ts:=by grind[c8]
 obtain⟨ws,s2,h5,h6⟩:=ac h2
 have h7:=sg _ _ s _ _ h5
 rw[fC]at h7
 obtain⟨u,s3,h9,h10⟩:=ac h6
 have h8:=et h9
 obtain⟨n,s4,h11,h12⟩:=ac h10
 have h13:=(sf h h11).1
 obtain⟨u2,s5,h15,h16⟩:=ac h12
 have h14:=et h15
 grind[cO,aN,bq,cwa,cwr,cww]
theorem pB{ar:Pa Nd}(h:Cq 0 ar):∀(f:Nat) (l:List Nd) (ts:List Tok) (a:List Nd) (r:List Tok),de ar f l ts=.ok a r->Nd.cos a+40*wtl r<=Nd.cos l+40*wtl ts
 |0,l,ts,a,r,e=>by cases e;omega
 |f+1,l,ts,a,r,e=>by
  have h0:=dN ts;unfold de at e;split at e
  ·grind
  ·obtain⟨x,s,h1,h2⟩:=ac e
   have h3:=h _ _ _ h1;have h5:=pB h f _ s a r h2;grind[fD]
theorem tW{cmd:Pa Nd}(h:Cq 24 cmd):Cq 0 (fQ (cj cmd)):=fun ts a r e=>by
 obtain⟨w,s,h1,h2⟩:=ac e
 have h3:=iM h1
 obtain⟨u,s2,h5,h6⟩:=ac h2
 have h4:=et h5
 have h0:=dN s
 obtain⟨l,s3,h7,h8⟩:=ac h6
 have h9:=pB (Bc h) _ _ s2 _ _ h7
 obtain⟨u2,s4,h11,h12⟩:=ac h8
 have h10:=et h11
 grind[cO,fC,bq,cwa,cwr,cww]
theorem mf(n z:Nd):(n.addKid z).co=n.co+z.co:=by
 cases n
 grind[Nd.addKid,cO,fD]
theorem si{so:Pa Nd}{inner:Option (Pa Nd)}(h:Cq 0 so)(hi:∀c,inner=some c->Cq 0 c):Cq 0 (eU so inner):=fun ts a r e=>by
 obtain⟨n,s,h1,h2⟩:=ac e
 obtain⟨_,_,_,h3⟩:=lj h h1
 split at h2
 ·obtain⟨k,s2,h10,h11⟩:=ac h2
  have h12:=h _ _ _ h10;grind[c8,mf]
 ·split at h2
  ·cases inner with
   |none=>cases h2
   |some i=>
    obtain⟨k,s2,h10,h11⟩:=ac h2;have h12:=hi i rfl _ _ _ h10;grind[c8,mf]
  grind
theorem ll{ts:List Tok}{x:Int×Nat×List Prt}{r:List Tok}(h:dx ts=.ok x r):40+cwt x.2.2+40*wtl r<=40*wtl ts:=by
 cases ts with
 |nil=>cases h
 |cons t u=>
  obtain⟨w,s,h1,h2⟩:=ac (p:=bT u) h;have h3:=iM h1;grind[dV,fO]
theorem lm:∀(f:Nat) (l:List (Int×Nat×List Prt)) (ts:List Tok) (a:List (Int×Nat×List Prt)) (r:List Tok),bp f l ts=.ok a r->cwr a+40*wtl r<=cwr l+40*wtl ts
 |0,l,ts,a,r,e=>by cases e;omega
 |f+1,l,ts,a,r,e=>by
  unfold bp at e;split at e
  ·obtain⟨w,s,h1,h2⟩:=ac e
   have h3:=ll h1;have h5:=lm f _ s a r h2;grind[ld]
  grind
theorem y'{cmd conds:Pa Nd}(h1:Cq 24 cmd)(h3:Cq 0 conds):∀b,Cq 0 (iC (cj cmd) (eA cmd) conds b)
 |.sub=>me (gh h1) _ _
 |.grp=>me (gh h1) _ _
 |.iff=>h3
 |.whl=>jC (gh h1) 9 kDo (some dw)
 |.unt=>jC (gh h1) 10 kDo (some dw)
 |.for_=>y_ (gh h1)
 |.case_=>tW h1
theorem za{bo:Blk->Pa Nd}(h:∀b,Cq 0 (bo b))(hr:∀b ts a r,bo b ts=.ok a r->a.rs=[])(b:Blk):Cq 24 (eV bo b):=fun ts a r e=>by
 obtain⟨n,s,h1,h2⟩:=ac e
 have h3:=hr _ _ _ _ h1
 have h4:=h b _ _ _ h1
 obtain⟨u,s2,h6,h7⟩:=ac h2
 have h8:wtl s2<=wtl s:=by
  split at h6
  ·have:=et h6;omega
  grind
 obtain⟨l,s3,h9,h10⟩:=ac h7
 rw[h3]at h9
 have h11:=lm _ _ s2 _ _ h9
 injection h10 with h10 h14
 subst h10 h14
 have hp:=lg n
 have ht:ts≠[]:=fun e=>by
  grind[y3]
 have h12:=mc ht
 have h13:(n.setRs l).co=n.co+cwr l:=by
  cases n
  grind[Nd.rs,Nd.setRs,cO,cwr]
 grind[cwr]
theorem Bd{ps:List Prt}{x:ab×List Prt}(e:aJ ps=some x):cwt x.2<=cwt ps:=by
 cases ps with
 |nil=>cases e
 |cons p r=>
  grind[aJ,dW]
def Sim.co(x:Sim):Nat:=8+(cwa x.a+cww x.w+cwr x.r)
theorem pC(x:Sim)(p:List Prt):(x.word p).co<=x.co+1+cwt p:=by
 unfold Sim.word
 split
 ·rename_i y hy
  have:=Bd hy;grind[Sim.co,wK,lc]
 grind[Sim.co,lc]
theorem gi:∀(f:Nat) (x:Sim) (ts:List Tok) (n:Nd) (r:List Tok),aM f x ts=.ok n r->n.co+40*wtl r<=x.co+40*wtl ts
 |f,x,ts,n,r,e=>by
  have hend:x.nd.co=x.co:=by
   grind[Sim.nd,cO,Sim.co,bq]
  cases f with
  |zero=>cases e;omega
  |succ f=>
   cases ts with
   |nil=>cases e;omega
   |cons t u=>
    simp only[aM]at e;split at e
    ·obtain⟨y,s,h1,h2⟩:=ac e
     have h3:=ll h1;have h4:=gi f ⟨x.a,x.w,x.r++[y]⟩ s n r h2;grind[Sim.co,ld]
    ·split at e
     ·have h4:=gi f _ u n r e
      grind[pC,nc,dV,wt]
     grind
theorem tX:Cq 24 simple:=fun ts a r e=>by
 unfold simple at e
 split at e
 ·rename_i hk
  cases ts with
  |nil=>cases hk
  |cons t u=>
   have e0:(Sim.mk [] [] []).co=8:=rfl;simp only[List.length_cons,aM]at e;split at e
   ·obtain⟨y,s,h1,h2⟩:=ac e
    have h3:=ll h1;have h4:=gi _ _ _ _ _ h2;grind[Sim.co,cwa,cww,cwr,cwt,ld]
   ·split at e
    ·have h4:=gi _ _ _ _ _ e
     grind[pC,nc,dV,wt]
    grind[isK]
 ·cases e
theorem Be{comp:Blk->Pa Nd}(h:∀b,Cq 24 (comp b)):Cq 24 (ia comp):=fun ts a r e=>by
 cases ts with
 |nil=>cases e
 |cons t u=>
  simp only[ia]at e;split at e
  ·split at e
   ·cases e
   ·obtain⟨x,s,h1,h2⟩:=ac e
    have h3:=h _ _ _ _ h1;grind[dN,c8,qX,iq,dV]
  ·cases e
theorem wL{comp:Blk->Pa Nd}{inner:Option (Blk->Pa Nd)}(h:∀b,Cq 24 (comp b))(hi:∀c,inner=some c->∀b,Cq 24 (c b)):Cq 24 (gT comp inner):=fun ts a r e=>by
 unfold gT at e
 split at e
 ·exact h _ _ _ _ e
 ·split at e
  ·cases e
  ·split at e
   ·cases inner with
    |none=>cases e
    |some c=>exact Be (hi c rfl) _ _ _ e
   ·exact tX _ _ _ e
theorem wM:∀k:Nat,Cq 24 (lev k).cmd/\Cq 0 (lev k).conds/\∀b,Cq 24 ((lev k).comp b)
 |0=>by
  have h1:∀b,Cq 24 ((lev 0).comp b):=fun b ts a r e=>by cases e
  have h2:Cq 24 (lev 0).cmd:=wL (inner:=none) h1 (fun c h=>by cases h);exact⟨h2,si (inner:=none) (gh h2) (fun c h=>by cases h),h1⟩
 |k+1=>by
  obtain⟨i1,i2,i3⟩:=wM k;have h1:∀b,Cq 24 ((lev (k+1)).comp b):=fun b=>za (y' i1 i2) (rV (qR (N:=0) k).2.2.2) b
  have h2:Cq 24 (lev (k+1)).cmd:=wL (inner:=some (lev k).comp) h1 (fun c h=>by simp_all);grind[si,lev,gh]
theorem tY(ts:List Tok):wtl (ts.map fA)=wtl ts:=by
 unfold wtl
 rw[List.map_map]
 rfl
theorem gR{s:ab}{l:List Nd}(hs:s.length<=8000)(h:ax s=.ok l):Nd.cos l<=40*s.length:=by
 unfold ax at h
 cases hx:lex s with
 |err f m=>grind
 |ok ts=>
  rw[hx]at h;obtain⟨xs,m,h1,rfl,h3⟩:=mR hs hx;have h5:=m_ s.length s 1 (Nat.le_refl _);rw[h1]at h5;simp only[fZ,List.dropLast_concat]at h
  cases hp:dm 20 (xs.map fA)with
  |bad e m=>grind
  |ok l2 r=>
   rw[hp]at h
   cases h
   obtain⟨l3,s3,h6,h7⟩:=ac (p:=eF (lev 20).cmd (xs.map fA)) hp;have h8:=pA (wM 20).1 h6;rw[tY]at h8;split at h7
   ·grind
   ·cases h7
def PS.n(s:PS):Nat:=s.c.length
theorem bt(s:PS)(x:Ins):(s.add x).n=s.n+1:=by simp[PS.n,PS.add]
theorem cd(s:PS)(o:Nat)(a:Int):(s.op o a).n=s.n+1:=bt s _
theorem cV(s:PS)(k:Nat):(s.here k).n=s.n:=by simp[PS.n,PS.here]
theorem iN:∀(l:List Nat) (s:PS),(s.heres l).n=s.n
 | [],s=>rfl
 |k::l,s=>by rw[PS.heres,iN l,cV]
theorem b7(s:PS)(k:Int)(F:PS->PS):(s.child k F).n=(F (s.add {op:=13,b:=k})).n+1:=by rw[PS.child,cV,cd]
theorem jh(s:PS)(b:Option Nat):(s.item b).n=s.n+1:=by
 unfold PS.item
 grind[bt,PS.n]
def Ws.b:Ws->Nat
 |.nil=>0
 |.cons _ w r=>1+cwt w.ps+r.b
theorem tZ:∀w:Ws,cww w.ws=w.b
 |.nil=>rfl
 |.cons g w r=>by simp only[Ws.ws,Ws.b,fC,tZ r]
theorem Bf:∀w:Ws,cwa w.as=w.b
 |.nil=>rfl
 |.cons g w r=>by simp only[Ws.as,Ws.b,<- Bf r];simp[cwa]
theorem gt:∀w:Ws,cwr w.rs=w.b
 |.nil=>rfl
 |.cons g w r=>by simp only[Ws.rs,Ws.b,<- gt r];simp[cwr]
theorem dg:cwa []=0/\cww []=0/\cwr []=0:=⟨rfl,rfl,rfl⟩
theorem fm{s:PS}{r:Ws}{F:PS->PS}{k:Nat}(hr:(r.g 10 (s.op 9 0)).n<=(s.op 9 0).n+r.b)(hF:∀s,(F s).n<=s.n+k):(if r.nil? then F (if r.nil? then s else r.g 10 (s.op 9 0))else(F (if r.nil? then s else r.g 10 (s.op 9 0))).op 11 0).n<=s.n+(2+r.b+k):=by
 grind[cd]
def Am.wb:Am->Nat
 |.nil=>0
 |.cons w _ r=>w.b+r.wb
def Am.bb:Am->Nat
 |.nil=>0
 |.cons _ b r=>b.nd.co+r.bb
theorem qY:∀l:Am,Nd.cos l.nds=8*l.nds.length+l.wb+l.bb
 |.nil=>by grind[Am.nds,bq,Am.wb,Am.bb]
 |.cons w b r=>by
  simp only[Am.nds,aN,qY r,Am.wb,Am.bb,cO,bq,tZ,dg.1,dg.2.2,List.length_cons];omega
theorem dv{s:ab}{l:List Nd}(h:ax s=.ok l):s.length<=8000:=by
 grind[ax,lex]
theorem sj{p:Prt}{t:Tr}{l:List Nd}(h1:ax p.t=.ok l)(h2:t.nd=.mk 4 [] false [] [] [] l):t.nd.co<=8+40*p.t.length:=by
 simp_all[dD,gR,dv]
mutual
theorem Wd.len:∀(w:Wd),w.ok->∀(s:PS),(w.g s).n<=s.n+cwt w.ps
 |.nil,_,s=>by grind[Wd.g]
 |.lit p r,h,s=>by
  simp_all[Wd.ok,Wd.g,Wd.ps,dW,Wd.len]
 |.sub p t r,h,s=>by
  simp only[Wd.ok]at h;obtain⟨h1,⟨l,h2,h3,_⟩,h4,h5⟩:=h;simp only[Wd.g,Wd.ps,dW,if_pos h1];have h6:=sj h2 h3;split
  ·have h7:=Wd.len r h5 ((s.child 8 t.g).op 15 0)
   have h8:=Tr.len t h4 (s.add {op:=13,b:=8});grind[cd,b7,bt]
  ·have h7:=Wd.len r h5 s
   omega
 |.bad p f r,h,s=>by
  simp only[Wd.ok]at h;obtain⟨h1,_,h5⟩:=h;simp only[Wd.g,Wd.ps,dW,if_pos h1];split
  ·grind[PS.n]
  ·have h7:=Wd.len r h5 s
   omega
theorem Ws.len(o:Nat):∀(w:Ws),w.ok->∀(s:PS),(w.g o s).n<=s.n+w.b
 |.nil,_,s=>by grind[Ws.g]
 |.cons g w r,h,s=>by
  simp only[Ws.ok]at h;simp only[Ws.g,Ws.b];have h1:=Ws.len o r h.2 ((w.g s).add {op:=o,a:=g.a,b:=g.b,s:=g.s,w:=w.ps});have h2:=Wd.len w h.1 s;grind[bt]
theorem Ws.lenw:∀(w:Ws),w.ok->∀(s:PS) (l:List Nat),(w.gw s l).1.n<=s.n+w.b
 |.nil,_,s,l=>by grind[Ws.gw]
 |.cons g w r,h,s,l=>by
  simp only[Ws.ok]at h;simp only[Ws.gw,Ws.b];have h1:=Ws.lenw r h.2 ((w.g s).add {op:=20,w:=w.ps}) (l++[(w.g s).c.length]);have h2:=Wd.len w h.1 s;grind[bt]
theorem Tr.len:∀(t:Tr),t.ok->∀(s:PS),(t.g s).n+2<=s.n+t.nd.co
 |.simple a w r,h,s=>by
  simp only[Tr.ok]at h;simp only[Tr.g,Tr.nd,cO,bq,Bf,tZ,gt];split
  ·have h3:=fm (s:=s) (r:=r) (F:=fun s=>if w.nil? then(if a.plain&&r.plain then(a.g 8 (if w.nil? then s else w.g 7 (s.op 6 0))).op 5 0 else a.g 8 (if w.nil? then s else w.g 7 (s.op 6 0)))else(a.g 8 (if w.nil? then s else w.g 7 (s.op 6 0))).op 12 0) (k:=a.b+w.b+2) (Ws.len 10 r h.2.2 _) (fun s=>by
    have h4:=Ws.len 8 a h.1 s;have h5:=Ws.len 8 a h.1 (w.g 7 (s.op 6 0));have h6:=Ws.len 7 w h.2.1 (s.op 6 0);grind[cd])
   omega
  ·omega
 |.pipe g l,h,s=>by
  simp only[Tr.ok]at h;simp only[Tr.g,Tr.nd,dD];split
  ·have h1:=Ts.lenp l h.1 true s
   have h2:=Ts.lenp l h.1 true (s.op 24 1);grind[cd]
  ·omega
 |.ao o x y,h,s=>by
  simp only[Tr.ok]at h;simp only[Tr.g,Tr.nd,lh];split
  ·have h1:=Tr.len x h.1 (s.op 24 1)
   have h2:=Tr.len y h.2 (((x.g (s.op 24 1)).op 24 (-1)).op (if o then 2 else 3) 0);grind[cd,cV]
  ·omega
 |.lst l,h,s=>by
  simp only[Tr.ok]at h;simp only[Tr.g,Tr.nd,dD];split
  ·have h1:=Ts.lenl l h none s
   omega
  ·omega
 |.back x,h,s=>by
  simp only[Tr.ok]at h;simp only[Tr.g,Tr.nd,iq];split
  ·have h1:=Tr.len x h (s.add {op:=13,b:=4})
   grind[bt,cd,b7]
  ·omega
 |.sub x r,h,s=>by
  simp only[Tr.ok]at h;simp only[Tr.g,Tr.nd,cO,aN,bq,gt,dg];split
  ·have h3:=fm (s:=s) (r:=r) (F:=fun s=>(s.child 0 x.g).op 14 0) (k:=x.nd.co+1) (Ws.len 10 r h.2 _) (fun s=>by
    have h1:=Tr.len x h.1 (s.add {op:=13,b:=0});grind[bt,cd,b7])
   omega
  ·omega
 |.grp x r,h,s=>by
  simp only[Tr.ok]at h;simp only[Tr.g,Tr.nd,cO,aN,bq,gt,dg];split
  ·have h3:=fm (s:=s) (r:=r) (F:=fun s=>x.g s) (k:=x.nd.co-2) (Ws.len 10 r h.2 _) (fun s=>by
    have h1:=Tr.len x h.1 s;omega)
   omega
  ·omega
 |.iff c t r,h,s=>by
  simp only[Tr.ok]at h;simp only[Tr.g,Tr.nd,cO,aN,bq,gt,dg];split
  ·have h3:=fm (s:=s) (r:=r) (F:=fun s=>((((t.g (((c.g (s.op 24 1)).op 24 (-1)).op 3 0)).op 1 0).here ((c.g (s.op 24 1)).op 24 (-1)).c.length).op 5 0).here (t.g (((c.g (s.op 24 1)).op 24 (-1)).op 3 0)).c.length) (k:=c.nd.co+t.nd.co+1) (Ws.len 10 r h.2.2 _) (fun s=>by
    have h1:=Tr.len c h.1 (s.op 24 1);have h2:=Tr.len t h.2.1 (((c.g (s.op 24 1)).op 24 (-1)).op 3 0);grind[cd,cV])
   omega
  ·omega
 |.ife c t e r,h,s=>by
  simp only[Tr.ok]at h;simp only[Tr.g,Tr.nd,cO,aN,bq,gt,dg];split
  ·have h3:=fm (s:=s) (r:=r) (F:=fun s=>(e.g (((t.g (((c.g (s.op 24 1)).op 24 (-1)).op 3 0)).op 1 0).here ((c.g (s.op 24 1)).op 24 (-1)).c.length)).here (t.g (((c.g (s.op 24 1)).op 24 (-1)).op 3 0)).c.length) (k:=c.nd.co+t.nd.co+e.nd.co) (Ws.len 10 r h.2.2.2 _) (fun s=>by
    have h1:=Tr.len c h.1 (s.op 24 1);have h2:=Tr.len t h.2.1 (((c.g (s.op 24 1)).op 24 (-1)).op 3 0);have h4:=Tr.len e h.2.2.1 (((t.g (((c.g (s.op 24 1)).op 24 (-1)).op 3 0)).op 1 0).here ((c.g (s.op 24 1)).op 24 (-1)).c.length);grind[cd,cV])
   omega
  ·omega
 |.loop u c b r,h,s=>by
  simp only[Tr.ok]at h;simp only[Tr.g,Tr.nd,cO,aN,bq,gt,dg];split
  ·have h3:=fm (s:=s) (r:=r) (F:=fun s=>((((b.g (((c.g (s.op 24 1)).op 24 (-1)).op (if u then 2 else 3) 0)).op 1 s.c.length).here ((c.g (s.op 24 1)).op 24 (-1)).c.length).op 5 0)) (k:=c.nd.co+b.nd.co+1) (Ws.len 10 r h.2.2 _) (fun s=>by
    have h1:=Tr.len c h.1.1 (s.op 24 1);have h2:=Tr.len b h.2.1 (((c.g (s.op 24 1)).op 24 (-1)).op (if u then 2 else 3) 0);grind[cd,cV])
   omega
  ·omega
 |.for_ nm w b r,h,s=>by
  simp only[Tr.ok]at h;simp only[Tr.g,Tr.nd,cO,aN,bq,gt,tZ,dg];split
  ·have h3:=fm (s:=s) (r:=r) (F:=fun s=>(((b.g ((((w.g 7 (s.op 6 0)).add {op:=17,s:=nm}).op 5 0).op 18 0)).op 1 (((w.g 7 (s.op 6 0)).add {op:=17,s:=nm}).op 5 0).c.length).here (((w.g 7 (s.op 6 0)).add {op:=17,s:=nm}).op 5 0).c.length)) (k:=w.b+b.nd.co+3) (Ws.len 10 r h.2.2 _) (fun s=>by
    have h1:=Ws.len 7 w h.1 (s.op 6 0);have h2:=Tr.len b h.2.1 ((((w.g 7 (s.op 6 0)).add {op:=17,s:=nm}).op 5 0).op 18 0);grind[cd,bt,cV])
   omega
  ·omega
 |.case_ w l r,h,s=>by
  simp only[Tr.ok]at h;simp only[Tr.g,Tr.nd,cO,gt,dg,qY];split
  ·have h3:=fm (s:=s) (r:=r) (F:=fun s=>((l.gb (((l.gm ((w.g s).add {op:=19,w:=w.ps}) []).1.op 5 0).op 1 0) (l.gm ((w.g s).add {op:=19,w:=w.ps}) []).2 [((l.gm ((w.g s).add {op:=19,w:=w.ps}) []).1.op 5 0).c.length]).1.heres (l.gb (((l.gm ((w.g s).add {op:=19,w:=w.ps}) []).1.op 5 0).op 1 0) (l.gm ((w.g s).add {op:=19,w:=w.ps}) []).2 [((l.gm ((w.g s).add {op:=19,w:=w.ps}) []).1.op 5 0).c.length]).2).op 21 0) (k:=cwt w.ps+l.wb+l.bb+4) (Ws.len 10 r h.2.2 _) (fun s=>by
    have h1:=Wd.len w h.1 s;have h2:=Am.lenm l h.2.1 ((w.g s).add {op:=19,w:=w.ps}) [];have h4:=Am.lenb l h.2.1 (((l.gm ((w.g s).add {op:=19,w:=w.ps}) []).1.op 5 0).op 1 0) (l.gm ((w.g s).add {op:=19,w:=w.ps}) []).2 [((l.gm ((w.g s).add {op:=19,w:=w.ps}) []).1.op 5 0).c.length];grind[bt,cd,iN])
   grind[fC,cww]
  ·omega
 |.fn nm b,h,s=>by
  simp only[Tr.ok]at h;simp only[Tr.g,Tr.nd,iq];split
  ·have h1:=Tr.len b h (((s.add {op:=22,s:=nm}).op 1 0).here s.c.length)
   grind[cV,cd,bt]
  ·omega
theorem Ts.lenl:∀(l:Ts),l.ok->∀(b:Option Nat) (s:PS),(l.gl b s).n<=s.n+Nd.cos l.nds
 |.nil,_,b,s=>by grind[Ts.gl]
 |.cons x r,h,b,s=>by
  simp only[Ts.ok]at h;simp only[Ts.gl,Ts.nds,aN];have h1:=Ts.lenl r h.2 (some s.c.length) (x.g (s.item b));have h2:=Tr.len x h.1 (s.item b);grind[jh]
theorem Ts.lenp:∀(l:Ts),l.ok->∀(f:Bool) (s:PS),(l.gp f s).n<=s.n+Nd.cos l.nds
 |.nil,_,f,s=>by grind[Ts.gp]
 |.cons x r,h,f,s=>by
  simp only[Ts.ok]at h;simp only[Ts.gp,Ts.nds,aN];have h1:=Ts.lenp r h.2 false (if prt f r.nil? =0 then x.g s else s.child (prt f r.nil? :Nat) x.g);have h2:=Tr.len x h.1 s;have h3:=Tr.len x h.1 (s.add {op:=13,b:=(prt f r.nil? :Nat)});grind[bt,prt,b7]
theorem Am.lenm:∀(l:Am),l.ok->∀(s:PS) (h:List (List Nat)),(l.gm s h).1.n<=s.n+l.wb
 |.nil,_,s,h=>by grind[Am.gm]
 |.cons w b r,h,s,hs=>by
  simp only[Am.ok]at h;simp only[Am.gm,Am.wb];have h1:=Ws.lenw w h.1 s [];have h2:=Am.lenm r h.2.2 (w.gw s []).1 (hs++[(w.gw s []).2]);omega
theorem Am.lenb:∀(l:Am),l.ok->∀(s:PS) (h:List (List Nat)) (k:List Nat),(l.gb s h k).1.n<=s.n+l.bb
 |.nil,_,s,h,k=>by grind[Am.gb]
 |.cons w b r,h,s,hs,k=>by
  simp only[Am.ok]at h;simp only[Am.gb,Am.bb];have h1:=Tr.len b h.2.1 ((s.heres (hs.headD [])).op 5 0);have h2:=Am.lenb r h.2.2 ((b.g ((s.heres (hs.headD [])).op 5 0)).op 1 0) hs.tail (k++[(b.g ((s.heres (hs.headD [])).op 5 0)).c.length]);grind[cd,iN]
end
end Go.Proofs.YtgboffbbpmileaaGreatDoor
