/- Lemmas and walks for the law VLawPJoins (part 16). -/
import Derived.Test.YtgboffbbpmileaaGreatDoorPy15
import Derived.Test.YtgboffbbpmileaaGreatDoorProg
import Derived.WalkKit
import Derived.Handy
import Derived.Deep.Light
import Derived.WalkSmall
import Derived.StillTailTactics
import Derived.Lib.Hide
set_option maxRecDepth 20000
set_option maxHeartbeats 4000000
set_option linter.unusedVariables false
set_option linter.unusedSimpArgs false
namespace Go.Proofs.YtgboffbbpmileaaGreatDoor
open Go Go.RowKit
section
theorem NodeIs.open{Y:List Nat}{w:World}{n:Nd}{cs:List Value}(h:NodeIs Y w n cs):∃(al:List ((ab×List Prt)×Value)) (ws:List (List Prt×Value)) (rs:List ((Int×Nat×List Prt)×Value)) (ks:List (Nd×List Value)) (va vw vr vk:Value),
  n=.mk n.kind n.name n.neg (al.map (·.1)) (ws.map (·.1)) (rs.map (·.1)) (ks.map (·.1))/\cs=[.int .i64 n.kind,bs n.name,.bool n.neg,va,vw,vr,vk]/\RowY 2 Y w va (al.map asc)/\(∀x∈al,PRow Y w x.2 x.1.2)/\RowY 1 Y w vw (ws.map fun x=>[x.2])/\(∀x∈ws,PRow Y w x.2 x.1)/\
  RowY 3 Y w vr (rs.map rsc)/\(∀x∈rs,PRow Y w x.2 x.1.2.2)/\RowY 7 Y w vk (ks.map (·.2))/\∀x∈ks,NodeIs Y w x.1 x.2:=by
 cases h with
 |mk kind name neg al ws rs ks va vw vr vk h1 h2 h3 h4 h5 h6 h7 h8=>exact⟨al,ws,rs,ks,va,vw,vr,vk,rfl,rfl,h1,h2,h3,h4,h5,h6,h7,h8⟩
theorem NodeIs.len{Y:List Nat}{w:World}{n:Nd}{cs:List Value}(h:NodeIs Y w n cs):cs.length=7:=by cases h;rfl
theorem dY{k:Nat}{Y:List Nat}{w:World}{v:Value}{xs:List (List Value)}(h:RowY k Y w v xs):∃a cap,v=.slice a xs.length cap:=by
 obtain⟨ao,c,hv,_⟩:=h;grind
def MkF(W0:World)(f:FuncId)(nd:Nd)(N:Nat)(G:PS->PS):Prop:=∀ ⦃LZ:List (Nat×Obj)⦄ (b:Nat) (s:PS) (ao:Option Addr) (cap:Nat) (LP:List (Nat×Obj)) (w:World) (cs:List Value),s.n+N<=900000->Kn (b::keys LP) w w ((b,.cells #[.slice ao s.n cap,.int .i64 (s.i:Int),.int .i64 (s.e:Int)] 81 (0,0))::LP)->MkQ W0 LZ w b s (.slice ao s.n cap) LP->NodeIs (b::keys LP) w nd cs->Calls Tryz.prog f #[.pointer (some ⟨b,0,none⟩),.agg cs.toArray] w (fun e w'=>∃(a2:Option Addr) (c2:Nat) (LP2:List (Nat×Obj)),e=.returned (.tuple #[])/\Kn (b::keys LP) w w' ((b,.cells #[.slice a2 (G s).n c2,.int .i64 ((G s).i:Int),.int .i64 ((G s).e:Int)] 81 (0,0))::LP2)/\Hid (MkQ W0 LZ w' b ((G s)) (.slice a2 (G s).n c2) LP2))
theorem wX{Y:List Nat}{w:World}{n:Nd}{v0 v1 v2 v3 v4 v5:Value}{ak:Option Addr}{nk ck:Nat}(h:NodeIs Y w n [v0,v1,v2,v3,v4,v5,.slice ak nk ck]){i:Nat}{y:Nd}(hy:n.kids[i]? =some y):∃g o d0 d1 d2 d3 d4 d5 d6,ak=some ⟨g,o,none⟩/\g∉Y/\g<w.heap.size/\i<nk/\nk=n.kids.length/\(∀(c:Nat) x,[d0,d1,d2,d3,d4,d5,d6][c]? =some x->w.cell? ⟨g,o+i*7+c,none⟩=some x)/\NodeIs Y w y [d0,d1,d2,d3,d4,d5,d6]:=by
 obtain⟨al,ws,rs,ks,va,vw,vr,vk,hn,hcs,h1,_,h3,_,h5,_,h7,h8⟩:=h.open
 simp only[List.cons.injEq,and_true]at hcs
 obtain⟨_,_,_,_,_,_,rfl⟩:=hcs
 have hnk:n.kids.length=nk:=by
  obtain⟨a9,c9,hv⟩:=dY h7;injection hv with _ hv _
  rw[hn];simp only[Nd.kids,List.length_map]at hv |-;exact hv.symm
 rw[hn]at hy
 simp only[Nd.kids,List.getElem?_map]at hy
 obtain⟨p,hp,rfl⟩:=Option.map_eq_some_iff.1 hy
 obtain⟨ao,c,hv,_,h9⟩:=h7
 injection hv with e1 e2 e3
 subst e1
 obtain⟨g,o,e,hgY,hl,hc⟩:=h9 i p.2 (by rw[List.getElem?_map,hp];rfl)
 have hi:=(List.getElem?_eq_some_iff.1 hp).1
 rw[List.length_map]at e2
 have hpn:=h8 p (List.mem_of_getElem? hp)
 obtain⟨d0,d1,d2,d3,d4,d5,d6,hd⟩:∃a b c d e f g,p.2=[a,b,c,d,e,f,g]:=by
  have hl7:p.2.length=7:=hpn.len
  match p.2,hl7 with
  | [a,b,c,d,e,f,g],_=>exact⟨a,b,c,d,e,f,g,rfl⟩
 rw[hd]at hc hpn
 exact⟨g,o,d0,d1,d2,d3,d4,d5,d6,e,hgY,hl,by omega,hnk.symm,hc,hpn⟩
theorem dh{Y:List Nat}{w:World}{n:Nd}{cs:List Value}(h:NodeIs Y w n cs):∃(aa:Option Addr) (ca:Nat) (aw:Option Addr) (cw9:Nat) (ar:Option Addr) (cr:Nat) (ak:Option Addr) (ck:Nat),cs=[.int .i64 (n.kind:Int),bs n.name,.bool n.neg,.slice aa n.asg.length ca,.slice aw n.ws.length cw9,.slice ar n.rs.length cr,.slice ak n.kids.length ck]:=by
 obtain⟨al,ws,rs,ks,va,vw,vr,vk,hn,rfl,h1,_,h3,_,h5,_,h7,h8⟩:=h.open
 obtain⟨a1,c1,rfl⟩:=dY h1
 obtain⟨a3,c3,rfl⟩:=dY h3
 obtain⟨a5,c5,rfl⟩:=dY h5
 obtain⟨a7,c7,rfl⟩:=dY h7
 refine⟨a1,c1,a3,c3,a5,c5,a7,c7,?_⟩
 rw[hn]
 simp only[Nd.kind,Nd.name,Nd.neg,Nd.asg,Nd.ws,Nd.rs,Nd.kids,List.length_map]
theorem q_(W0:World){LZ:List (Nat×Obj)}(b:Nat)(s:PS)(ao:Option Addr)(cap:Nat)(LP:List (Nat×Obj))(w:World)(hm:s.n<900000)(hL0:Kn (b::keys LP) w w ((b,.cells #[.slice ao s.n cap,.int .i64 (s.i:Int),.int .i64 (s.e:Int)] 81 (0,0))::LP))(hM:MkQ W0 LZ w b s (.slice ao s.n cap) LP):Calls Tryz.prog 66 #[.pointer (some ⟨b,0,none⟩),.int .i64 24,.int .i64 (-1)] w (fun e w'=>∃(a2:Option Addr) (c2:Nat) (LP2:List (Nat×Obj)),e=.returned (.tuple #[])/\Kn (b::keys LP) w w' ((b,.cells #[.slice a2 (s.op 24 (-1)).n c2,.int .i64 ((s.op 24 (-1)).i:Int),.int .i64 ((s.op 24 (-1)).e:Int)] 81 (0,0))::LP2)/\Hid (MkQ W0 LZ w' b ((s.op 24 (-1))) (.slice a2 (s.op 24 (-1)).n c2) LP2)):=bW 24 (-1) 24 rfl W0 b s ao cap LP w hm hL0 hM
theorem wY(W0:World){LZ:List (Nat×Obj)}(b:Nat)(s:PS)(ao:Option Addr)(cap:Nat)(LP:List (Nat×Obj))(w:World)(hm:s.n<900000)(hL0:Kn (b::keys LP) w w ((b,.cells #[.slice ao s.n cap,.int .i64 (s.i:Int),.int .i64 (s.e:Int)] 81 (0,0))::LP))(hM:MkQ W0 LZ w b s (.slice ao s.n cap) LP):Calls Tryz.prog 91 #[.pointer (some ⟨b,0,none⟩),.agg #[.int .i64 1,.int .i64 0,.int .i64 0,.string ⟨#[]⟩,.slice none 0 0]] w (fun e w'=>∃(a2:Option Addr) (c2:Nat) (LP2:List (Nat×Obj)) (p9 q9:Nat),e=.returned (.func (.func 106) #[] #[.pointer (some ⟨p9,0,none⟩),.pointer (some ⟨q9,0,none⟩)])/\Kn (b::keys LP) w w' ((b,.cells #[.slice a2 (s.op 1 0).n c2,.int .i64 ((s.op 1 0).i:Int),.int .i64 ((s.op 1 0).e:Int)] 81 (0,0))::LP2)/\Hid (MkQ W0 LZ w' b ((s.op 1 0)) (.slice a2 (s.op 1 0).n c2) LP2)/\Hid (CelY (b::keys LP2) w' p9 [.pointer (some ⟨b,0,none⟩)])/\Hid (CelY (b::keys LP2) w' q9 [.int .i64 (s.n:Int)])):=iu W0 b s ao cap LP w {op:=1,a:=0} 1 0 0 ⟨#[]⟩ (.slice none 0 0) rfl rfl rfl rfl dr hm hL0 hM
theorem B1(W0:World){LZ:List (Nat×Obj)}(b:Nat)(s:PS)(ao:Option Addr)(cap:Nat)(LP:List (Nat×Obj))(w:World)(hm:s.n<900000)(hL0:Kn (b::keys LP) w w ((b,.cells #[.slice ao s.n cap,.int .i64 (s.i:Int),.int .i64 (s.e:Int)] 81 (0,0))::LP))(hM:MkQ W0 LZ w b s (.slice ao s.n cap) LP):Calls Tryz.prog 91 #[.pointer (some ⟨b,0,none⟩),.agg #[.int .i64 2,.int .i64 0,.int .i64 0,.string ⟨#[]⟩,.slice none 0 0]] w (fun e w'=>∃(a2:Option Addr) (c2:Nat) (LP2:List (Nat×Obj)) (p9 q9:Nat),e=.returned (.func (.func 106) #[] #[.pointer (some ⟨p9,0,none⟩),.pointer (some ⟨q9,0,none⟩)])/\Kn (b::keys LP) w w' ((b,.cells #[.slice a2 (s.op 2 0).n c2,.int .i64 ((s.op 2 0).i:Int),.int .i64 ((s.op 2 0).e:Int)] 81 (0,0))::LP2)/\Hid (MkQ W0 LZ w' b ((s.op 2 0)) (.slice a2 (s.op 2 0).n c2) LP2)/\Hid (CelY (b::keys LP2) w' p9 [.pointer (some ⟨b,0,none⟩)])/\Hid (CelY (b::keys LP2) w' q9 [.int .i64 (s.n:Int)])):=iu W0 b s ao cap LP w {op:=2,a:=0} 2 0 0 ⟨#[]⟩ (.slice none 0 0) rfl rfl rfl rfl dr hm hL0 hM
theorem zl(W0:World){LZ:List (Nat×Obj)}(b:Nat)(s:PS)(ao:Option Addr)(cap:Nat)(LP:List (Nat×Obj))(w:World)(hm:s.n<900000)(hL0:Kn (b::keys LP) w w ((b,.cells #[.slice ao s.n cap,.int .i64 (s.i:Int),.int .i64 (s.e:Int)] 81 (0,0))::LP))(hM:MkQ W0 LZ w b s (.slice ao s.n cap) LP):Calls Tryz.prog 91 #[.pointer (some ⟨b,0,none⟩),.agg #[.int .i64 3,.int .i64 0,.int .i64 0,.string ⟨#[]⟩,.slice none 0 0]] w (fun e w'=>∃(a2:Option Addr) (c2:Nat) (LP2:List (Nat×Obj)) (p9 q9:Nat),e=.returned (.func (.func 106) #[] #[.pointer (some ⟨p9,0,none⟩),.pointer (some ⟨q9,0,none⟩)])/\Kn (b::keys LP) w w' ((b,.cells #[.slice a2 (s.op 3 0).n c2,.int .i64 ((s.op 3 0).i:Int),.int .i64 ((s.op 3 0).e:Int)] 81 (0,0))::LP2)/\Hid (MkQ W0 LZ w' b ((s.op 3 0)) (.slice a2 (s.op 3 0).n c2) LP2)/\Hid (CelY (b::keys LP2) w' p9 [.pointer (some ⟨b,0,none⟩)])/\Hid (CelY (b::keys LP2) w' q9 [.int .i64 (s.n:Int)])):=iu W0 b s ao cap LP w {op:=3,a:=0} 3 0 0 ⟨#[]⟩ (.slice none 0 0) rfl rfl rfl rfl dr hm hL0 hM
theorem B2(W0:World){LZ:List (Nat×Obj)}(b:Nat)(s:PS)(ao:Option Addr)(cap:Nat)(LP:List (Nat×Obj))(w:World)(hm:s.n<900000)(hL0:Kn (b::keys LP) w w ((b,.cells #[.slice ao s.n cap,.int .i64 (s.i:Int),.int .i64 (s.e:Int)] 81 (0,0))::LP))(hM:MkQ W0 LZ w b s (.slice ao s.n cap) LP):Calls Tryz.prog 91 #[.pointer (some ⟨b,0,none⟩),.agg #[.int .i64 18,.int .i64 0,.int .i64 0,.string ⟨#[]⟩,.slice none 0 0]] w (fun e w'=>∃(a2:Option Addr) (c2:Nat) (LP2:List (Nat×Obj)) (p9 q9:Nat),e=.returned (.func (.func 106) #[] #[.pointer (some ⟨p9,0,none⟩),.pointer (some ⟨q9,0,none⟩)])/\Kn (b::keys LP) w w' ((b,.cells #[.slice a2 (s.op 18 0).n c2,.int .i64 ((s.op 18 0).i:Int),.int .i64 ((s.op 18 0).e:Int)] 81 (0,0))::LP2)/\Hid (MkQ W0 LZ w' b ((s.op 18 0)) (.slice a2 (s.op 18 0).n c2) LP2)/\Hid (CelY (b::keys LP2) w' p9 [.pointer (some ⟨b,0,none⟩)])/\Hid (CelY (b::keys LP2) w' q9 [.int .i64 (s.n:Int)])):=iu W0 b s ao cap LP w {op:=18,a:=0} 18 0 0 ⟨#[]⟩ (.slice none 0 0) rfl rfl rfl rfl dr hm hL0 hM
section
variable {P:Program} {f:FuncId} {args:Array Value} {Q:Ending->World->Prop} {X:List Nat} {w Wb V W0:World} {L LZ LP:List (Nat×Obj)} {b:Nat} {o:Obj} {s s2:PS} {v:Value} {o2:Option Addr->Nat->Obj} {v2:Option Addr->Nat->Value} {R:Option Addr->Nat->List (Nat×Obj)->World->Prop}
theorem zK{r:Value}[h:Kn (b::keys LP) Wb V L](A:List (Nat×Obj))(wb:Kn X w Wb ((b,o)::LP))(hm:MkQ W0 LZ Wb b s v LP)
  (c:∀W,Kn (b::keys LP) Wb W L->Kn (b::keys LP) W W ((b,o)::LP)->MkQ W0 LZ W b s v LP->Calls P f args W fun e W2=>∃(a2:Option Addr) (c2:Nat) (LP2:List (Nat×Obj)),e=.returned r/\Kn (b::keys LP) W W2 ((b,o2 a2 c2)::LP2)/\Hid (MkQ W0 LZ W2 b s2 (v2 a2 c2) LP2))
  (k:∀W a2 c2 LP2,Hid (Kn X w W ((b,o2 a2 c2)::LP2))->Hid (MkQ W0 LZ W b s2 (v2 a2 c2) LP2)->Kn (b::keys LP) Wb W ((b,o2 a2 c2)::LP2)->Kn (b::keys LP2) W W ((b,o2 a2 c2)::LP2)->R a2 c2 LP2 W->Q (.returned r) W)
  (ha:L=A++(b,o)::LP:=by with_unfolding_all rfl) (e:∀a2 c2 LP2 W,Fz (b::keys LP2) W W ((b,o2 a2 c2)::LP2)=R a2 c2 LP2 W:=by(intro _ _ _ W;simp only[Fz];(try simp only[bX,dP,zD]);rfl)):Calls P f args V Q:=
 (c V h (Kn.selfS (A:=A) (ha▸h)) (hm.next h)).mono fun _ W ⟨a2,c2,LP2,he,hb,hM⟩=>he▸(
  have hJ:=Kn.mkr (A:=A) (ha▸h) hb;have hS:=Kn.self0q hJ
  k W a2 c2 LP2 (yh (Kn.tail0 wb hJ)) hM hJ hS (e a2 c2 LP2 W▸hS.facts))
theorem zJ{r2:Nat->Nat->Value}{cp cq:List Value}[h:Kn (b::keys LP) Wb V L](A:List (Nat×Obj))(wb:Kn X w Wb ((b,o)::LP))(hm:MkQ W0 LZ Wb b s v LP)
  (c:∀W,Kn (b::keys LP) Wb W L->Kn (b::keys LP) W W ((b,o)::LP)->MkQ W0 LZ W b s v LP->Calls P f args W fun e W2=>∃(a2:Option Addr) (c2:Nat) (LP2:List (Nat×Obj)) (p9 q9:Nat),e=.returned (r2 p9 q9)/\Kn (b::keys LP) W W2 ((b,o2 a2 c2)::LP2)/\Hid (MkQ W0 LZ W2 b s2 (v2 a2 c2) LP2)/\Hid (CelY (b::keys LP2) W2 p9 cp)/\Hid (CelY (b::keys LP2) W2 q9 cq))
  (k:∀W a2 c2 LP2 p9 q9,Hid (CelY (b::keys LP2) W p9 cp)->Hid (CelY (b::keys LP2) W q9 cq)->Hid (Kn X w W ((b,o2 a2 c2)::LP2))->Hid (MkQ W0 LZ W b s2 (v2 a2 c2) LP2)->Kn (b::keys LP) Wb W ((b,o2 a2 c2)::LP2)->Kn (b::keys LP2) W W ((b,o2 a2 c2)::LP2)->R a2 c2 LP2 W->Q (.returned (r2 p9 q9)) W)
  (ha:L=A++(b,o)::LP:=by with_unfolding_all rfl) (e:∀a2 c2 LP2 W,Fz (b::keys LP2) W W ((b,o2 a2 c2)::LP2)=R a2 c2 LP2 W:=by(intro _ _ _ W;simp only[Fz];(try simp only[bX,dP,zD]);rfl)):Calls P f args V Q:=
 (c V h (Kn.selfS (A:=A) (ha▸h)) (hm.next h)).mono fun _ W ⟨a2,c2,LP2,p9,q9,he,hb,hM,hp,hq⟩=>he▸(
  have hJ:=Kn.mkr (A:=A) (ha▸h) hb;have hS:=Kn.self0q hJ
  k W a2 c2 LP2 p9 q9 hp hq (yh (Kn.tail0 wb hJ)) hM hJ hS (e a2 c2 LP2 W▸hS.facts))
theorem zT0{d:Code}{a:Act}{Q:Exit->Act->World->Prop}{S:World->Prop}[h:Kn (b::keys LP) Wb V L](A:List (Nat×Obj))(wb:Kn X w Wb ((b,o)::LP))(hm:MkQ W0 LZ Wb b s v LP)
  (k:∀W,Hid (MkQ W0 LZ W b s v LP)->Hid (Kn X w W ((b,o)::LP))->Kn (b::keys LP) Wb W ((b,o)::LP)->Kn (b::keys LP) W W ((b,o)::LP)->S W->Kn (b::keys LP) Wb W (A++(b,o)::LP)->d.wp P Q a W)
  (ha:L=A++(b,o)::LP:=by((try simp only[kfb]);with_unfolding_all rfl)) (e:∀W,Fz (b::keys LP) W W ((b,o)::LP)=S W:=by(intro W;simp only[Fz];(try simp only[bX,dP,zD]);rfl)):d.wp P Q a V:=
 have h1:Kn (b::keys LP) Wb V (A++(b,o)::LP):=ha▸h
 have hJ:=Kn.sub h1 (List.sublist_append_right _ _)
 have hS:=Kn.self0q (Kn.tail0 wb hJ)
 k V (yh (hm.next h)) (yh (Kn.tail0 wb hJ)) hJ hS (e V▸hS.facts) h1
theorem zT1{d:Code}{a:Act}{Q:Exit->Act->World->Prop}{S:World->Prop}{g:Nat}{cs:Array Value}{t:TypeId}[h:Kn (b::keys LP) Wb V L](wb:Kn X w Wb ((b,o)::LP))(hm:MkQ W0 LZ Wb b s v LP)
  (k:∀W,Hid (CelY (b::keys LP) W g cs.toList)->Hid (MkQ W0 LZ W b s v LP)->Hid (Kn X w W ((b,o)::LP))->Kn (b::keys LP) Wb W ((b,o)::LP)->Kn (b::keys LP) W W ((b,o)::LP)->S W->d.wp P Q a W)
  (ha:L=(g,.cells cs t (0,0))::(b,o)::LP:=by((try simp only[kfb]);with_unfolding_all rfl)) (e:∀W,Fz (b::keys LP) W W ((b,o)::LP)=S W:=by(intro W;simp only[Fz];(try simp only[bX,dP,zD]);rfl)):d.wp P Q a V:=
 zT0 [_] wb hm (fun W m wb hJ hS f h=>k W (yh (dO (A:=[_]) h m0)) m wb hJ hS f) ha e
theorem zT2{d:Code}{a:Act}{Q:Exit->Act->World->Prop}{S:World->Prop}{g g2:Nat}{cs cs2:Array Value}{t t2:TypeId}[h:Kn (b::keys LP) Wb V L](wb:Kn X w Wb ((b,o)::LP))(hm:MkQ W0 LZ Wb b s v LP)
  (k:∀W,Hid (CelY (b::keys LP) W g cs.toList)->Hid (CelY (b::keys LP) W g2 cs2.toList)->Hid (MkQ W0 LZ W b s v LP)->Hid (Kn X w W ((b,o)::LP))->Kn (b::keys LP) Wb W ((b,o)::LP)->Kn (b::keys LP) W W ((b,o)::LP)->S W->d.wp P Q a W)
  (ha:L=(g,.cells cs t (0,0))::(g2,.cells cs2 t2 (0,0))::(b,o)::LP:=by((try simp only[kfb]);with_unfolding_all rfl)) (e:∀W,Fz (b::keys LP) W W ((b,o)::LP)=S W:=by(intro W;simp only[Fz];(try simp only[bX,dP,zD]);rfl)):d.wp P Q a V:=
 zT0 [_,_] wb hm (fun W m wb hJ hS f h=>k W (yh (dO (A:=[_,_]) h m0)) (yh (dO (A:=[_,_]) h m1)) m wb hJ hS f) ha e
end
theorem nO:(∀(s:PS) (o:Nat) (a:Int),(s.op o a).n=s.n+1)/\(∀(s:PS) (x:Ins),(s.add x).n=s.n+1)/\(∀(s:PS) (k:Nat),(s.here k).n=s.n)/\∀(s:PS) (k:Int) (F:PS->PS),(s.child k F).n=(F (s.add {op:=13,b:=k})).n+1:=⟨cd,bt,cV,b7⟩
class Mk2 (p:Prop) (X:outParam (List Nat)) (w0:outParam World) (W:World) (b:Nat) (LP:List (Nat×Obj)) (q:outParam Prop):Prop where
 go:∀{o:Obj},p->Kn X w0 W ((b,o)::LP)->q
instance (X:List Nat) (w0 W:World) (b:Nat) (LP:List (Nat×Obj)) (n:Nd) (cs:List Value):Mk2 (NodeIs X w0 n cs) X w0 W b LP (NodeIs (b::keys LP) W n cs):=⟨fun h k=>h.mk2 k⟩
instance (X:List Nat) (w0 W:World) (b:Nat) (LP:List (Nat×Obj)) (v:Value) (ps:List Prt):Mk2 (PRow X w0 v ps) X w0 W b LP (PRow (b::keys LP) W v ps):=⟨fun h k=>h.mk2 k⟩
instance (X:List Nat) (w0 W:World) (b:Nat) (LP:List (Nat×Obj)) (g:Nat) (cs:List Value):Mk2 (CelY X w0 g cs) X w0 W b LP (CelY (b::keys LP) W g cs):=⟨fun h k=>h.mk2 k⟩
theorem cy{p q:Prop}{X:List Nat}{w0 W:World}{b:Nat}{o:Obj}{LP:List (Nat×Obj)}(h:Hid p)(k:Kn X w0 W ((b,o)::LP))[m:Mk2 p X w0 W b LP q]:Hid q:=yh (m.go h.out k)
theorem MkF.mk{W0:World}{f:FuncId}{nd:Nd}{N:Nat}{G:PS->PS} (H:∀ ⦃LZ:List (Nat×Obj)⦄ (b:Nat) (s:PS) (ao:Option Addr) (cap:Nat) (LP:List (Nat×Obj)) (w:World) (X9:List Nat) (kz:Int) (nm:ByteArray) (ng:Bool) (na nw nr nk:Nat) (aa:Option Addr) (ca:Nat) (aw:Option Addr) (cw9:Nat) (ar:Option Addr) (cr:Nat) (ak:Option Addr) (ck:Nat),s.n+N<=900000->Hid (((nd.kind:Nat):Int)=kz)->Hid ((⟨nd.name.toArray⟩:ByteArray)=nm)->Hid (nd.neg=ng)->Hid (nd.asg.length=na)->Hid (nd.ws.length=nw)->Hid (nd.rs.length=nr)->Hid (nd.kids.length=nk)->
  Hid (NodeIs (b::keys LP) w nd [.int .i64 kz,.string nm,.bool ng,.slice aa na ca,.slice aw nw cw9,.slice ar nr cr,.slice ak nk ck])->Hid (MkQ W0 LZ w b s (.slice ao s.n cap) LP)->Hid (Kn X9 w w ((b,.cells #[.slice ao s.n cap,.int .i64 (s.i:Int),.int .i64 (s.e:Int)] 81 (0,0))::LP))->Kn (b::keys LP) w w ((b,.cells #[.slice ao s.n cap,.int .i64 (s.i:Int),.int .i64 (s.e:Int)] 81 (0,0))::LP)->
  Calls Tryz.prog f #[.pointer (some ⟨b,0,none⟩),.agg #[.int .i64 kz,.string nm,.bool ng,.slice aa na ca,.slice aw nw cw9,.slice ar nr cr,.slice ak nk ck]] w (fun e w'=>∃(a2:Option Addr) (c2:Nat) (LP2:List (Nat×Obj)),e=.returned (.tuple #[])/\Kn X9 w w' ((b,.cells #[.slice a2 (G s).n c2,.int .i64 ((G s).i:Int),.int .i64 ((G s).e:Int)] 81 (0,0))::LP2)/\Hid (MkQ W0 LZ w' b ((G s)) (.slice a2 (G s).n c2) LP2))):MkF W0 f nd N G:=by
 intro LZ b s ao cap LP w cs hm hL hM hn
 obtain⟨aa,ca,aw,cw9,ar,cr,ak,ck,rfl⟩:=dh hn
 exact H b s ao cap LP w _ _ _ _ _ _ _ _ aa ca aw cw9 ar cr ak ck hm (yh rfl) (yh rfl) (yh rfl) (yh rfl) (yh rfl) (yh rfl) (yh rfl) (yh hn) (yh hM) (yh hL) hL
section
variable {W:World} {b g:Nat} {K:List Nat} {x0 x1 x2 x3 x4 x5 x6:Value}
theorem CelY.c1(h:CelY (b::K) W g [x0]):g<W.heap.size/\(¬g=b/\¬g∈K)/\W.cell? ⟨g,0,none⟩=some x0:=⟨h.2.1,not_or.1 fun e=>h.1 (List.mem_cons.2 e),h.2.2 0 _ rfl⟩
theorem CelY.c2(h:CelY (b::K) W g [x0,x1]):g<W.heap.size/\(¬g=b/\¬g∈K)/\W.cell? ⟨g,0,none⟩=some x0/\W.cell? ⟨g,1,none⟩=some x1:=⟨h.2.1,not_or.1 fun e=>h.1 (List.mem_cons.2 e),h.2.2 0 _ rfl,h.2.2 1 _ rfl⟩
theorem CelY.c3(h:CelY (b::K) W g [x0,x1,x2]):g<W.heap.size/\(¬g=b/\¬g∈K)/\W.cell? ⟨g,0,none⟩=some x0/\W.cell? ⟨g,1,none⟩=some x1/\W.cell? ⟨g,2,none⟩=some x2:=⟨h.2.1,not_or.1 fun e=>h.1 (List.mem_cons.2 e),h.2.2 0 _ rfl,h.2.2 1 _ rfl,h.2.2 2 _ rfl⟩
theorem CelY.c7(h:CelY (b::K) W g [x0,x1,x2,x3,x4,x5,x6]):g<W.heap.size/\(¬g=b/\¬g∈K)/\W.cell? ⟨g,0,none⟩=some x0/\W.cell? ⟨g,1,none⟩=some x1/\W.cell? ⟨g,2,none⟩=some x2/\W.cell? ⟨g,3,none⟩=some x3/\W.cell? ⟨g,4,none⟩=some x4/\W.cell? ⟨g,5,none⟩=some x5/\W.cell? ⟨g,6,none⟩=some x6:=⟨h.2.1,not_or.1 fun e=>h.1 (List.mem_cons.2 e),h.2.2 0 _ rfl,h.2.2 1 _ rfl,h.2.2 2 _ rfl,h.2.2 3 _ rfl,h.2.2 4 _ rfl,h.2.2 5 _ rfl,h.2.2 6 _ rfl⟩
end
theorem bC{b:Nat}{K:List Nat}{w:World}{n:Nd}{v0 v1 v2 v3 v4 v5:Value}{ak:Option Addr}{nk ck:Nat}(h:NodeIs (b::K) w n [v0,v1,v2,v3,v4,v5,.slice ak nk ck]){i:Nat}{y:Nd}(hy:n.kids[i]? =some y):∃g o d0 d1 d2 d3 d4 d5 d6,ak=some ⟨g,o,none⟩/\(¬g=b/\¬g∈K)/\g<w.heap.size/\i<nk/\Hid (nk=n.kids.length)/\Hid (NodeIs (b::K) w y [d0,d1,d2,d3,d4,d5,d6])/\w.cell? ⟨g,o+i*7,none⟩=some d0/\w.cell? ⟨g,o+i*7+1,none⟩=some d1/\w.cell? ⟨g,o+i*7+2,none⟩=some d2/\w.cell? ⟨g,o+i*7+3,none⟩=some d3/\w.cell? ⟨g,o+i*7+4,none⟩=some d4/\w.cell? ⟨g,o+i*7+5,none⟩=some d5/\w.cell? ⟨g,o+i*7+6,none⟩=some d6:=by
 obtain⟨g,o,d0,d1,d2,d3,d4,d5,d6,e,h1,h2,h3,h4,h5,h6⟩:=wX h hy
 exact⟨g,o,d0,d1,d2,d3,d4,d5,d6,e,not_or.1 fun e=>h1 (List.mem_cons.2 e),h2,h3,yh h4,yh h6,h5 0 _ rfl,h5 1 _ rfl,h5 2 _ rfl,h5 3 _ rfl,h5 4 _ rfl,h5 5 _ rfl,h5 6 _ rfl⟩
theorem wZ{W0:World}{x:Tr}{r:Ws}(hx:MkF W0 29 x.nd x.nd.co x.g):MkF W0 60 (Tr.grp x r).nd x.nd.co x.g:=by
 refine MkF.mk ?_
 intro LZ b s ao cap LP w X9 kz nm ng na nw nr nk aa ca aw cw9 ar cr ak ck hm HKZ HNM HNG HNA HNW HNR HNK HN HM HWB hL
 have hF:=hL.fx
 go_enter Tryz.func60,Tryz.ntmps60
 go_upto_region 1 with(fail)
 (with_reducible refine zT1 HWB.out HM.out ?_);clear hF;clear hL HM HWB;intro W HB HM HWB hJ hL hF;replace HN:=cy HN hJ;clear hJ
 have n0:=HB.out.c7
 obtain⟨g0,o0,d00,d01,d02,d03,d04,d05,d06,ke0,kx0,kl0,ki0,HKN0,HD0,k00,k01,k02,k03,k04,k05,k06⟩:=bC HN.out (i:=0) (y:=x.nd) (by simp only[Tr.nd];rfl)
 subst ke0
 rw[Nat.zero_mul,Nat.add_zero]at k00
 unfold MkF at hx
 have HX:=yh hx
 clear hx
 go_wp2_with (first|(with_reducible refine zS ?_;intro W hL hF)|(go_at_call 29;(with_reducible refine zK [] HWB.out HM.out (fun W hL hS hN=>HX.out b _ ao cap LP _ _ hm hS hN (HD0.out.at_ hL)) ?_);clear hF hL HWB HM;intro W ao cap LP HWB HM hJ hL hF;clear hJ))
 refine bodyPost_end (by simp[results,Tryz.results60,go_sem, *];try rfl) rfl ?_
 exact⟨ao,cap,LP,rfl,HWB.out,HM⟩
theorem fF{W0:World}{x:Tr}(hx:MkF W0 29 x.nd x.nd.co x.g)(hlx:∀s,(x.g s).n+2<=s.n+x.nd.co/\s.n<=(x.g s).n):MkF W0 90 x.nd (x.nd.co+1) (fun s=>(x.g (s.op 24 1)).op 24 (-1)):=by
 refine MkF.mk ?_
 intro LZ b s ao cap LP w X9 kz nm ng na nw nr nk aa ca aw cw9 ar cr ak ck hm HKZ HNM HNG HNA HNW HNR HNK HN HM HWB hL
 have hF:=hL.fx
 go_enter Tryz.func90,Tryz.ntmps90
 go_upto_region 1 with(fail)
 (with_reducible refine zT1 HWB.out HM.out ?_);clear hF;clear hL HM HWB;intro W HB HM HWB hJ hL hF;replace HN:=cy HN hJ;clear hJ
 have n0:=HB.out.c7
 unfold MkF at hx
 have HX:=yh hx
 have HM9:=yh hm
 have HLx:=yh hlx;clear hlx
 clear hx hm
 go_wp2_with (first|(with_reducible refine zS ?_;intro W hL hF)|((first|(go_at_call 66;(with_reducible refine zK [] HWB.out HM.out (fun W hL hS hN=>bW 24 1 24 rfl W0 b _ ao cap LP _ (by have h0:=HM9.out;simp only[nO]at *;omega) hS hN) ?_))|(go_at_call 29;(with_reducible refine zK [] HWB.out HM.out (fun W hL hS hN=>HX.out b _ ao cap LP _ _ (by have h0:=HM9.out;simp only[nO]at *;omega) hS hN (HN.out.at_ hL)) ?_))|(go_at_call 66;(with_reducible refine zK [] HWB.out HM.out (fun W hL hS hN=>q_ W0 b _ ao cap LP _ (by have h0:=HM9.out;have h1:=HLx.out (s.op 24 1);simp only[nO]at *;omega) hS hN) ?_)));clear hF hL HWB HM;intro W ao cap LP HWB HM hJ hL hF;replace HB:=cy HB hJ;replace HN:=cy HN hJ;clear hJ;clear n0;have n0:=HB.out.c7))
 refine bodyPost_end (by simp[results,Tryz.results90,go_sem, *];try rfl) rfl ?_
 exact⟨ao,cap,LP,rfl,HWB.out,HM⟩
theorem pH{W0:World}{x y:Tr}(hqx:MkF W0 90 x.nd (x.nd.co+1) (fun s=>(x.g (s.op 24 1)).op 24 (-1)))(hy:MkF W0 29 y.nd y.nd.co y.g)(hlx:∀s,(x.g s).n+2<=s.n+x.nd.co/\s.n<=(x.g s).n)(hly:∀s,(y.g s).n+2<=s.n+y.nd.co/\s.n<=(y.g s).n):MkF W0 56 (Tr.ao false x y).nd (x.nd.co+y.nd.co+4) (fun s=>(y.g (((x.g (s.op 24 1)).op 24 (-1)).op 3 0)).here ((x.g (s.op 24 1)).op 24 (-1)).n):=by
 refine MkF.mk ?_
 intro LZ b s ao cap LP w X9 kz nm ng na nw nr nk aa ca aw cw9 ar cr ak ck hm HKZ HNM HNG HNA HNW HNR HNK HN HM HWB hL
 have hF:=hL.fx
 go_enter Tryz.func56,Tryz.ntmps56
 obtain rfl:kz=2:=HKZ.out.symm
 go_upto_region 1 with(fail)
 (with_reducible refine zT1 HWB.out HM.out ?_);clear hF;clear hL HM HWB;intro W HB HM HWB hJ hL hF;replace HN:=cy HN hJ;clear hJ
 have n0:=HB.out.c7;obtain⟨g0,o0,d00,d01,d02,d03,d04,d05,d06,ke0,kx0,kl0,ki0,HKN0,HD0,k00,k01,k02,k03,k04,k05,k06⟩:=bC HN.out (i:=0) (y:=x.nd) (by simp only[Tr.nd];rfl);(first|subst ke0|(injection ke0 with ke0;injection ke0 with kf0 kg0;subst kf0 kg0));simp only[Nat.zero_mul,Nat.one_mul,Nat.add_zero]at k00;obtain⟨g1,o1,d10,d11,d12,d13,d14,d15,d16,ke1,kx1,kl1,ki1,HKN1,HD1,k10,k11,k12,k13,k14,k15,k16⟩:=bC HN.out (i:=1) (y:=y.nd) (by simp only[Tr.nd];rfl);(first|subst ke1|(injection ke1 with ke1;injection ke1 with kf1 kg1;subst kf1 kg1));simp only[Nat.zero_mul,Nat.one_mul,Nat.add_zero]at k10
 unfold MkF at hqx;have HQX:=yh hqx;clear hqx;unfold MkF at hy;have HY:=yh hy;clear hy
 have HM9:=yh hm
 have HLx:=yh hlx;clear hlx
 have HLy:=yh hly;clear hly
 clear hm
 go_wp2_with (first|(with_reducible refine zS ?_;intro W hL hF)|((first|((first|((first|(go_at_call 90;(with_reducible refine zK [] HWB.out HM.out (fun W hL hS hN=>HQX.out b _ ao cap LP _ _ (by have h0:=HM9.out;simp only[nO]at *;omega) hS hN (HD0.out.at_ hL)) ?_))|(go_at_call 106;(with_reducible refine zK [] HWB.out HM.out (fun W hL hS hN=>dX _ _ _ W0 b _ ao cap LP _ (by have h0:=HLy.out (((x.g (s.op 24 1)).op 24 (-1)).op 3 0);simp only[nO]at *;omega) (by have h0:=HM9.out;have h1:=HLx.out (s.op 24 1);have h2:=HLy.out (((x.g (s.op 24 1)).op 24 (-1)).op 3 0);simp only[nO]at *;omega) (HP.out.mk2 (Kn.sub hL sR)) (HQ.out.mk2 (Kn.sub hL sR)) hS hN) ?_)));clear hF hL HWB HM;intro W ao cap LP HWB HM hJ hL hF)|(go_at_call 91;(with_reducible refine zJ [] HWB.out HM.out (fun W hL hS hN=>zl W0 b _ ao cap LP _ (by have h0:=HM9.out;have h1:=HLx.out (s.op 24 1);simp only[nO]at *;omega) hS hN) ?_);clear hF hL HWB HM;intro W ao cap LP hp9 hq9 HP HQ HWB HM hJ hL hF));replace HB:=cy HB hJ;replace HN:=cy HN hJ)|(go_at_call 29;(with_reducible refine zK [] HWB.out HM.out (fun W hL hS hN=>HY.out b _ ao cap LP _ _ (by have h0:=HM9.out;have h1:=HLx.out (s.op 24 1);simp only[nO]at *;omega) hS hN (HD1.out.at_ hL)) ?_);clear hF hL HWB HM;intro W ao cap LP HWB HM hJ hL hF;replace HB:=cy HB hJ;replace HN:=cy HN hJ;replace HP:=cy HP hJ;replace HQ:=cy HQ hJ));clear hJ;clear n0;clear k00 k01 k02 k03 k04 k05 k06 HD0 HKN0 kx0 kl0 ki0;clear k10 k11 k12 k13 k14 k15 k16 HD1 HKN1 kx1 kl1 ki1;have n0:=HB.out.c7;obtain⟨g0,o0,d00,d01,d02,d03,d04,d05,d06,ke0,kx0,kl0,ki0,HKN0,HD0,k00,k01,k02,k03,k04,k05,k06⟩:=bC HN.out (i:=0) (y:=x.nd) (by simp only[Tr.nd];rfl);(first|subst ke0|(injection ke0 with ke0;injection ke0 with kf0 kg0;subst kf0 kg0));simp only[Nat.zero_mul,Nat.one_mul,Nat.add_zero]at k00;obtain⟨g1,o1,d10,d11,d12,d13,d14,d15,d16,ke1,kx1,kl1,ki1,HKN1,HD1,k10,k11,k12,k13,k14,k15,k16⟩:=bC HN.out (i:=1) (y:=y.nd) (by simp only[Tr.nd];rfl);(first|subst ke1|(injection ke1 with ke1;injection ke1 with kf1 kg1;subst kf1 kg1));simp only[Nat.zero_mul,Nat.one_mul,Nat.add_zero]at k10))
 refine bodyPost_end (by simp[results,Tryz.results56,go_sem, *];try rfl) rfl ?_
 exact⟨ao,cap,LP,rfl,HWB.out,HM⟩
theorem q'{W0:World}{x y:Tr}(hqx:MkF W0 90 x.nd (x.nd.co+1) (fun s=>(x.g (s.op 24 1)).op 24 (-1)))(hy:MkF W0 29 y.nd y.nd.co y.g)(hlx:∀s,(x.g s).n+2<=s.n+x.nd.co/\s.n<=(x.g s).n)(hly:∀s,(y.g s).n+2<=s.n+y.nd.co/\s.n<=(y.g s).n):MkF W0 56 (Tr.ao true x y).nd (x.nd.co+y.nd.co+4) (fun s=>(y.g (((x.g (s.op 24 1)).op 24 (-1)).op 2 0)).here ((x.g (s.op 24 1)).op 24 (-1)).n):=by
 refine MkF.mk ?_
 intro LZ b s ao cap LP w X9 kz nm ng na nw nr nk aa ca aw cw9 ar cr ak ck hm HKZ HNM HNG HNA HNW HNR HNK HN HM HWB hL
 have hF:=hL.fx
 go_enter Tryz.func56,Tryz.ntmps56
 obtain rfl:kz=3:=HKZ.out.symm
 go_upto_region 1 with(fail)
 (with_reducible refine zT1 HWB.out HM.out ?_);clear hF;clear hL HM HWB;intro W HB HM HWB hJ hL hF;replace HN:=cy HN hJ;clear hJ
 have n0:=HB.out.c7;obtain⟨g0,o0,d00,d01,d02,d03,d04,d05,d06,ke0,kx0,kl0,ki0,HKN0,HD0,k00,k01,k02,k03,k04,k05,k06⟩:=bC HN.out (i:=0) (y:=x.nd) (by simp only[Tr.nd];rfl);(first|subst ke0|(injection ke0 with ke0;injection ke0 with kf0 kg0;subst kf0 kg0));simp only[Nat.zero_mul,Nat.one_mul,Nat.add_zero]at k00;obtain⟨g1,o1,d10,d11,d12,d13,d14,d15,d16,ke1,kx1,kl1,ki1,HKN1,HD1,k10,k11,k12,k13,k14,k15,k16⟩:=bC HN.out (i:=1) (y:=y.nd) (by simp only[Tr.nd];rfl);(first|subst ke1|(injection ke1 with ke1;injection ke1 with kf1 kg1;subst kf1 kg1));simp only[Nat.zero_mul,Nat.one_mul,Nat.add_zero]at k10
 unfold MkF at hqx;have HQX:=yh hqx;clear hqx;unfold MkF at hy;have HY:=yh hy;clear hy
 have HM9:=yh hm
 have HLx:=yh hlx;clear hlx
 have HLy:=yh hly;clear hly
 clear hm
 go_wp2_with (first|(with_reducible refine zS ?_;intro W hL hF)|((first|((first|((first|(go_at_call 90;(with_reducible refine zK [] HWB.out HM.out (fun W hL hS hN=>HQX.out b _ ao cap LP _ _ (by have h0:=HM9.out;simp only[nO]at *;omega) hS hN (HD0.out.at_ hL)) ?_))|(go_at_call 106;(with_reducible refine zK [] HWB.out HM.out (fun W hL hS hN=>dX _ _ _ W0 b _ ao cap LP _ (by have h0:=HLy.out (((x.g (s.op 24 1)).op 24 (-1)).op 2 0);simp only[nO]at *;omega) (by have h0:=HM9.out;have h1:=HLx.out (s.op 24 1);have h2:=HLy.out (((x.g (s.op 24 1)).op 24 (-1)).op 2 0);simp only[nO]at *;omega) (HP.out.mk2 (Kn.sub hL sR)) (HQ.out.mk2 (Kn.sub hL sR)) hS hN) ?_)));clear hF hL HWB HM;intro W ao cap LP HWB HM hJ hL hF)|(go_at_call 91;(with_reducible refine zJ [] HWB.out HM.out (fun W hL hS hN=>B1 W0 b _ ao cap LP _ (by have h0:=HM9.out;have h1:=HLx.out (s.op 24 1);simp only[nO]at *;omega) hS hN) ?_);clear hF hL HWB HM;intro W ao cap LP hp9 hq9 HP HQ HWB HM hJ hL hF));replace HB:=cy HB hJ;replace HN:=cy HN hJ)|(go_at_call 29;(with_reducible refine zK [] HWB.out HM.out (fun W hL hS hN=>HY.out b _ ao cap LP _ _ (by have h0:=HM9.out;have h1:=HLx.out (s.op 24 1);simp only[nO]at *;omega) hS hN (HD1.out.at_ hL)) ?_);clear hF hL HWB HM;intro W ao cap LP HWB HM hJ hL hF;replace HB:=cy HB hJ;replace HN:=cy HN hJ;replace HP:=cy HP hJ;replace HQ:=cy HQ hJ));clear hJ;clear n0;clear k00 k01 k02 k03 k04 k05 k06 HD0 HKN0 kx0 kl0 ki0;clear k10 k11 k12 k13 k14 k15 k16 HD1 HKN1 kx1 kl1 ki1;have n0:=HB.out.c7;obtain⟨g0,o0,d00,d01,d02,d03,d04,d05,d06,ke0,kx0,kl0,ki0,HKN0,HD0,k00,k01,k02,k03,k04,k05,k06⟩:=bC HN.out (i:=0) (y:=x.nd) (by simp only[Tr.nd];rfl);(first|subst ke0|(injection ke0 with ke0;injection ke0 with kf0 kg0;subst kf0 kg0));simp only[Nat.zero_mul,Nat.one_mul,Nat.add_zero]at k00;obtain⟨g1,o1,d10,d11,d12,d13,d14,d15,d16,ke1,kx1,kl1,ki1,HKN1,HD1,k10,k11,k12,k13,k14,k15,k16⟩:=bC HN.out (i:=1) (y:=y.nd) (by simp only[Tr.nd];rfl);(first|subst ke1|(injection ke1 with ke1;injection ke1 with kf1 kg1;subst kf1 kg1));simp only[Nat.zero_mul,Nat.one_mul,Nat.add_zero]at k10))
 refine bodyPost_end (by simp[results,Tryz.results56,go_sem, *];try rfl) rfl ?_
 exact⟨ao,cap,LP,rfl,HWB.out,HM⟩
theorem eM(fid:FuncId)(caps:Array Value)(F:PS->PS)(N:Nat)(kz:Int)(W0:World){LZ:List (Nat×Obj)}(b:Nat)(s:PS)(ao:Option Addr)(cap:Nat)(LP:List (Nat×Obj))(w:World)(hfid:∀(a:Array Value) (W:World),(callFunc fid a).run Tryz.prog W=.ok (.enter fid a) W)(hF:∀(s2:PS) (ao2:Option Addr) (cap2:Nat) (LP2:List (Nat×Obj)) (W:World),Kn (b::keys LP) w W ((b,.cells #[.slice ao2 s2.n cap2,.int .i64 (s2.i:Int),.int .i64 (s2.e:Int)] 81 (0,0))::LP2)->MkQ W0 LZ W b s2 (.slice ao2 s2.n cap2) LP2->s2.n+N<=900000->Calls Tryz.prog fid caps W (fun e w'=>∃(a2:Option Addr) (c2:Nat) (LP3:List (Nat×Obj)),e=.returned (.tuple #[])/\Kn (b::keys LP2) W w' ((b,.cells #[.slice a2 (F s2).n c2,.int .i64 ((F s2).i:Int),.int .i64 ((F s2).e:Int)] 81 (0,0))::LP3)/\Hid (MkQ W0 LZ w' b (F s2) (.slice a2 (F s2).n c2) LP3)))(hlen:∀s,(F s).n<=s.n+N/\s.n<=(F s).n)(hm:s.n+N+4<=900000)(hL0:Kn (b::keys LP) w w ((b,.cells #[.slice ao s.n cap,.int .i64 (s.i:Int),.int .i64 (s.e:Int)] 81 (0,0))::LP))(hM:MkQ W0 LZ w b s (.slice ao s.n cap) LP):
  Calls Tryz.prog 88 #[.pointer (some ⟨b,0,none⟩),.int .i64 kz,.func (.func fid) #[] caps] w (fun e w'=>∃(a2:Option Addr) (c2:Nat) (LP2:List (Nat×Obj)),e=.returned (.tuple #[])/\Kn (b::keys LP) w w' ((b,.cells #[.slice a2 (s.child kz F).n c2,.int .i64 ((s.child kz F).i:Int),.int .i64 ((s.child kz F).e:Int)] 81 (0,0))::LP2)/\Hid (MkQ W0 LZ w' b ((s.child kz F)) (.slice a2 (s.child kz F).n c2) LP2)):=by
 have HM:=yh hM
 have HWB:=yh hL0
 have HM9:=yh hm
 have HLF:=yh hlen
 have HF:=yh hF
 have hL:=hL0
 clear hL0 hM hm hlen hF
 have hF:=hL.fx
 go_enter Tryz.func88,Tryz.ntmps88
 go_wp2_with (first|(with_reducible refine zS ?_;intro W hL hF)|((with_reducible refine zK [] HWB.out HM.out (fun W hL hS hN=>HF.out _ ao cap LP _ (Kn.mkr0 HWB.out hL) hN (by have h0:=HM9.out;have h1:=HLF.out (s.add {op:=13,b:=kz});simp only[nO]at *;omega)) ?_);clear hF hL HWB HM;intro W ao cap LP HWB HM hJ hL hF;replace HP:=cy HP hJ;replace HQ:=cy HQ hJ;clear hJ)|((first|(go_at_call 91;(with_reducible refine zJ [] HWB.out HM.out (fun W hL hS hN=>iu W0 b _ ao cap LP _ {op:=13,b:=kz} 13 0 kz ⟨#[]⟩ (.slice none 0 0) rfl rfl rfl rfl dr (by have h0:=HM9.out;omega) hS hN) ?_);clear hF hL HWB HM;intro W ao cap LP hp9 hq9 HP HQ HWB HM hJ hL hF)|((first|(go_at_call 66;(with_reducible refine zK [] HWB.out HM.out (fun W hL hS hN=>bW 16 0 16 rfl W0 b _ ao cap LP _ (by have h0:=HM9.out;have h1:=HLF.out (s.add {op:=13,b:=kz});simp only[nO]at *;omega) hS hN) ?_))|(go_at_call 106;(with_reducible refine zK [] HWB.out HM.out (fun W hL hS hN=>dX _ _ _ W0 b _ ao cap LP _ (by have h0:=HM9.out;have h1:=HLF.out (s.add {op:=13,b:=kz});simp only[nO]at *;omega) (by have h0:=HM9.out;have h1:=HLF.out (s.add {op:=13,b:=kz});simp only[nO]at *;omega) (HP.out.mk2 (Kn.sub hL sR)) (HQ.out.mk2 (Kn.sub hL sR)) hS hN) ?_)));clear hF hL HWB HM;intro W ao cap LP HWB HM hJ hL hF;replace HP:=cy HP hJ;replace HQ:=cy HQ hJ));clear hJ))
 refine bodyPost_end (by simp[results,Tryz.results88,go_sem, *];try rfl) rfl ?_
 exact⟨ao,cap,LP,rfl,HWB.out,HM⟩
theorem t8{W0:World}{LZ:List (Nat×Obj)}{nd y:Nd}{N:Nat}{G:PS->PS}(hy:nd.kids[0]? =some y)(hx:MkF W0 29 y N G)(p0 q0:Nat)(cs:List Value)(b:Nat)(s:PS)(ao:Option Addr)(cap:Nat)(LP:List (Nat×Obj))(w:World)(hP:CelY (b::keys LP) w p0 [.pointer (some ⟨b,0,none⟩)])(hB:CelY (b::keys LP) w q0 cs)(hn:NodeIs (b::keys LP) w nd cs)(hm:s.n+N<=900000)(hL0:Kn (b::keys LP) w w ((b,.cells #[.slice ao s.n cap,.int .i64 (s.i:Int),.int .i64 (s.e:Int)] 81 (0,0))::LP))(hM:MkQ W0 LZ w b s (.slice ao s.n cap) LP):
  Calls Tryz.prog 92 #[.pointer (some ⟨p0,0,none⟩),.pointer (some ⟨q0,0,none⟩)] w (fun e w'=>∃(a2:Option Addr) (c2:Nat) (LP2:List (Nat×Obj)),e=.returned (.tuple #[])/\Kn (b::keys LP) w w' ((b,.cells #[.slice a2 (G s).n c2,.int .i64 ((G s).i:Int),.int .i64 ((G s).e:Int)] 81 (0,0))::LP2)/\Hid (MkQ W0 LZ w' b ((G s)) (.slice a2 (G s).n c2) LP2)):=by
 have HN:=yh hn
 obtain⟨aa,ca,aw,cw9,ar,cr,ak,ck,rfl⟩:=dh hn
 have HM:=yh hM
 have HWB:=yh hL0
 have HB:=yh hB
 have HP:=yh hP
 have pq:=hP.2.1
 have px:=hP.1
 simp only[List.mem_cons,not_or]at px
 have p00:=hP.2.2 0 _ rfl
 have n0:=HB.out.c7;obtain⟨g0,o0,d00,d01,d02,d03,d04,d05,d06,ke0,kx0,kl0,ki0,HKN0,HD0,k00,k01,k02,k03,k04,k05,k06⟩:=bC HN.out (i:=0) (y:=y) hy;(first|subst ke0|(injection ke0 with ke0;injection ke0 with kf0 kg0;subst kf0 kg0));simp only[Nat.zero_mul,Nat.one_mul,Nat.add_zero]at k00
 have hL:=hL0
 clear hL0 hM hn hB hP hy
 unfold MkF at hx;have HX:=yh hx;clear hx
 have hF:=hL.fx
 go_enter Tryz.func92,Tryz.ntmps92
 (with_reducible refine af 0 ?_)
 go_still_tail 5,(by kernel_rfl)
 go_wp2_with (first|(with_reducible refine zS ?_;intro W hL hF)|(go_at_call 29;(with_reducible refine zK [] HWB.out HM.out (fun W hL hS hN=>HX.out b _ ao cap LP _ _ hm hS hN (HD0.out.at_ hL)) ?_);clear hF hL HWB HM;intro W ao cap LP HWB HM hJ hL hF;clear hJ))
 refine bodyPost_end (by simp[results,Tryz.results92,go_sem, *];try rfl) rfl ?_
 exact⟨ao,cap,LP,rfl,HWB.out,HM⟩
theorem w_{W0:World}{LZ:List (Nat×Obj)}{nd y:Nd}{N:Nat}{G:PS->PS}(hy:nd.kids[0]? =some y)(hx:MkF W0 29 y N G)(p0 q0:Nat)(cs:List Value)(b:Nat)(s:PS)(ao:Option Addr)(cap:Nat)(LP:List (Nat×Obj))(w:World)(hP:CelY (b::keys LP) w p0 [.pointer (some ⟨b,0,none⟩)])(hB:CelY (b::keys LP) w q0 cs)(hn:NodeIs (b::keys LP) w nd cs)(hm:s.n+N<=900000)(hL0:Kn (b::keys LP) w w ((b,.cells #[.slice ao s.n cap,.int .i64 (s.i:Int),.int .i64 (s.e:Int)] 81 (0,0))::LP))(hM:MkQ W0 LZ w b s (.slice ao s.n cap) LP):
  Calls Tryz.prog 95 #[.pointer (some ⟨p0,0,none⟩),.pointer (some ⟨q0,0,none⟩)] w (fun e w'=>∃(a2:Option Addr) (c2:Nat) (LP2:List (Nat×Obj)),e=.returned (.tuple #[])/\Kn (b::keys LP) w w' ((b,.cells #[.slice a2 (G s).n c2,.int .i64 ((G s).i:Int),.int .i64 ((G s).e:Int)] 81 (0,0))::LP2)/\Hid (MkQ W0 LZ w' b ((G s)) (.slice a2 (G s).n c2) LP2)):=by
 have HN:=yh hn
 obtain⟨aa,ca,aw,cw9,ar,cr,ak,ck,rfl⟩:=dh hn
 have HM:=yh hM
 have HWB:=yh hL0
 have HB:=yh hB
 have HP:=yh hP
 have pq:=hP.2.1
 have px:=hP.1
 simp only[List.mem_cons,not_or]at px
 have p00:=hP.2.2 0 _ rfl
 have n0:=HB.out.c7;obtain⟨g0,o0,d00,d01,d02,d03,d04,d05,d06,ke0,kx0,kl0,ki0,HKN0,HD0,k00,k01,k02,k03,k04,k05,k06⟩:=bC HN.out (i:=0) (y:=y) hy;(first|subst ke0|(injection ke0 with ke0;injection ke0 with kf0 kg0;subst kf0 kg0));simp only[Nat.zero_mul,Nat.one_mul,Nat.add_zero]at k00
 have hL:=hL0
 clear hL0 hM hn hB hP hy
 unfold MkF at hx;have HX:=yh hx;clear hx
 have hF:=hL.fx
 go_enter Tryz.func95,Tryz.ntmps95
 (with_reducible refine af 0 ?_)
 go_still_tail 5,(by kernel_rfl)
 go_wp2_with (first|(with_reducible refine zS ?_;intro W hL hF)|(go_at_call 29;(with_reducible refine zK [] HWB.out HM.out (fun W hL hS hN=>HX.out b _ ao cap LP _ _ hm hS hN (HD0.out.at_ hL)) ?_);clear hF hL HWB HM;intro W ao cap LP HWB HM hJ hL hF;clear hJ))
 refine bodyPost_end (by simp[results,Tryz.results95,go_sem, *];try rfl) rfl ?_
 exact⟨ao,cap,LP,rfl,HWB.out,HM⟩
theorem eR{W0:World}{LZ:List (Nat×Obj)}{nd:Nd}{N:Nat}{G:PS->PS}(hx:MkF W0 29 nd N G)(p0 q0:Nat)(cs:List Value)(b:Nat)(s:PS)(ao:Option Addr)(cap:Nat)(LP:List (Nat×Obj))(w:World)(hP:CelY (b::keys LP) w p0 [.pointer (some ⟨b,0,none⟩)])(hB:CelY (b::keys LP) w q0 cs)(hn:NodeIs (b::keys LP) w nd cs)(hm:s.n+N<=900000)(hL0:Kn (b::keys LP) w w ((b,.cells #[.slice ao s.n cap,.int .i64 (s.i:Int),.int .i64 (s.e:Int)] 81 (0,0))::LP))(hM:MkQ W0 LZ w b s (.slice ao s.n cap) LP):
  Calls Tryz.prog 89 #[.pointer (some ⟨p0,0,none⟩),.pointer (some ⟨q0,0,none⟩)] w (fun e w'=>∃(a2:Option Addr) (c2:Nat) (LP2:List (Nat×Obj)),e=.returned (.tuple #[])/\Kn (b::keys LP) w w' ((b,.cells #[.slice a2 (G s).n c2,.int .i64 ((G s).i:Int),.int .i64 ((G s).e:Int)] 81 (0,0))::LP2)/\Hid (MkQ W0 LZ w' b ((G s)) (.slice a2 (G s).n c2) LP2)):=by
 have HN:=yh hn
 obtain⟨aa,ca,aw,cw9,ar,cr,ak,ck,rfl⟩:=dh hn
 have HM:=yh hM
 have HWB:=yh hL0
 have HB:=yh hB
 have HP:=yh hP
 have pq:=hP.2.1
 have px:=hP.1
 simp only[List.mem_cons,not_or]at px
 have p00:=hP.2.2 0 _ rfl
 have n0:=HB.out.c7
 have hL:=hL0
 clear hL0 hM hn hB hP
 unfold MkF at hx;have HX:=yh hx;clear hx
 have hF:=hL.fx
 go_enter Tryz.func89,Tryz.ntmps89
 go_wp2_with (first|(with_reducible refine zS ?_;intro W hL hF)|(go_at_call 29;(with_reducible refine zK [] HWB.out HM.out (fun W hL hS hN=>HX.out b _ ao cap LP _ _ hm hS hN (HN.out.at_ hL)) ?_);clear hF hL HWB HM;intro W ao cap LP HWB HM hJ hL hF;clear hJ))
 refine bodyPost_end (by simp[results,Tryz.results89,go_sem, *];try rfl) rfl ?_
 exact⟨ao,cap,LP,rfl,HWB.out,HM⟩
theorem t_{W0:World}{LZ:List (Nat×Obj)}{nd:Nd}{N:Nat}{G:PS->PS}(hx:MkF W0 29 nd N G)(p0 q0:Nat)(cs:List Value)(b:Nat)(s:PS)(ao:Option Addr)(cap:Nat)(LP:List (Nat×Obj))(w:World)(hP:CelY (b::keys LP) w p0 [.pointer (some ⟨b,0,none⟩)])(hB:CelY (b::keys LP) w q0 cs)(hn:NodeIs (b::keys LP) w nd cs)(hm:s.n+N<=900000)(hL0:Kn (b::keys LP) w w ((b,.cells #[.slice ao s.n cap,.int .i64 (s.i:Int),.int .i64 (s.e:Int)] 81 (0,0))::LP))(hM:MkQ W0 LZ w b s (.slice ao s.n cap) LP):
  Calls Tryz.prog 96 #[.pointer (some ⟨p0,0,none⟩),.pointer (some ⟨q0,0,none⟩)] w (fun e w'=>∃(a2:Option Addr) (c2:Nat) (LP2:List (Nat×Obj)),e=.returned (.tuple #[])/\Kn (b::keys LP) w w' ((b,.cells #[.slice a2 (G s).n c2,.int .i64 ((G s).i:Int),.int .i64 ((G s).e:Int)] 81 (0,0))::LP2)/\Hid (MkQ W0 LZ w' b ((G s)) (.slice a2 (G s).n c2) LP2)):=by
 have HN:=yh hn
 obtain⟨aa,ca,aw,cw9,ar,cr,ak,ck,rfl⟩:=dh hn
 have HM:=yh hM
 have HWB:=yh hL0
 have HB:=yh hB
 have HP:=yh hP
 have pq:=hP.2.1
 have px:=hP.1
 simp only[List.mem_cons,not_or]at px
 have p00:=hP.2.2 0 _ rfl
 have n0:=HB.out.c7
 have hL:=hL0
 clear hL0 hM hn hB hP
 unfold MkF at hx;have HX:=yh hx;clear hx
 have hF:=hL.fx
 go_enter Tryz.func96,Tryz.ntmps96
 go_wp2_with (first|(with_reducible refine zS ?_;intro W hL hF)|(go_at_call 29;(with_reducible refine zK [] HWB.out HM.out (fun W hL hS hN=>HX.out b _ ao cap LP _ _ hm hS hN (HN.out.at_ hL)) ?_);clear hF hL HWB HM;intro W ao cap LP HWB HM hJ hL hF;clear hJ))
 refine bodyPost_end (by simp[results,Tryz.results96,go_sem, *];try rfl) rfl ?_
 exact⟨ao,cap,LP,rfl,HWB.out,HM⟩
theorem xa:∀(a:Array Value) (W:World),(callFunc 92 a).run Tryz.prog W=.ok (.enter 92 a) W:=fun _ _=>by kernel_rfl
theorem zm:∀(a:Array Value) (W:World),(callFunc 95 a).run Tryz.prog W=.ok (.enter 95 a) W:=fun _ _=>by kernel_rfl
theorem fG:∀(a:Array Value) (W:World),(callFunc 89 a).run Tryz.prog W=.ok (.enter 89 a) W:=fun _ _=>by kernel_rfl
theorem xc:∀(a:Array Value) (W:World),(callFunc 96 a).run Tryz.prog W=.ok (.enter 96 a) W:=fun _ _=>by kernel_rfl
theorem zn{W0:World}{x:Tr}(hx:MkF W0 29 x.nd x.nd.co x.g)(hlx:∀s,(x.g s).n+2<=s.n+x.nd.co/\s.n<=(x.g s).n):MkF W0 57 (Tr.back x).nd (x.nd.co+7) (fun s=>(s.child 4 x.g).op 5 0):=by
 refine MkF.mk ?_
 intro LZ b s ao cap LP w X9 kz nm ng na nw nr nk aa ca aw cw9 ar cr ak ck hm HKZ HNM HNG HNA HNW HNR HNK HN HM HWB hL
 have hF:=hL.fx
 go_enter Tryz.func57,Tryz.ntmps57
 go_upto_region 1 with(fail)
 (with_reducible refine zT2 HWB.out HM.out ?_);clear hF;clear hL HM HWB;intro W HB HP HM HWB hJ hL hF;replace HN:=cy HN hJ;clear hJ
 have n0:=HB.out.c7
 obtain⟨pq,px,p00⟩:=HP.out.c1
 have HXX:=yh hx
 have HM9:=yh hm
 have HLL:=yh (fun s=>(⟨by have:=hlx s;omega,(hlx s).2⟩:(x.g s).n<=s.n+x.nd.co/\s.n<=(x.g s).n))
 have HLx:=yh hlx;clear hlx
 have HY:Hid ((Tr.back x).nd.kids[0]? =some x.nd):=yh (by simp only[Tr.nd];rfl)
 clear hm hx
 go_wp2_with (first|(with_reducible refine zS ?_;intro W hL hF)|(first|(go_at_call 88;(with_reducible refine zK [] HWB.out HM.out (fun W hL hS hN=>eM 92 _ x.g x.nd.co 4 W0 b _ ao cap LP _ xa (fun s2 ao2 cap2 LP2 W2 hk hM2 hn2=>t8 HY.out HXX.out _ _ _ b s2 ao2 cap2 LP2 W2 ((HP.out.mk2 hL).mk2 hk) ((HB.out.mk2 hL).mk2 hk) ((HN.out.mk2 hL).mk2 hk) hn2 (Kn.self0q hk) hM2) HLL.out (by have h0:=HM9.out;simp only[nO]at *;omega) hS hN) ?_);clear hF hL HWB HM;intro W ao cap LP HWB HM hJ hL hF;replace HB:=cy HB hJ;replace HN:=cy HN hJ;replace HP:=cy HP hJ;clear hJ;clear pq px p00;obtain⟨pq,px,p00⟩:=HP.out.c1)|(go_at_call 66;(with_reducible refine zK [] HWB.out HM.out (fun W hL hS hN=>bW 5 0 5 rfl W0 b _ ao cap LP _ (by have h0:=HM9.out;have h1:=HLx.out (s.add {op:=13,b:=4});simp only[nO]at *;omega) hS hN) ?_);clear hF hL HWB HM;intro W ao cap LP HWB HM hJ hL hF;clear hJ)))
 refine bodyPost_end (by simp[results,Tryz.results57,go_sem, *];try rfl) rfl ?_
 exact⟨ao,cap,LP,rfl,HWB.out,HM⟩
theorem Bj{W0:World}{x:Tr}{r:Ws}(hx:MkF W0 29 x.nd x.nd.co x.g)(hlx:∀s,(x.g s).n+2<=s.n+x.nd.co/\s.n<=(x.g s).n):MkF W0 59 (Tr.sub x r).nd (x.nd.co+7) (fun s=>(s.child 0 x.g).op 14 0):=by
 refine MkF.mk ?_
 intro LZ b s ao cap LP w X9 kz nm ng na nw nr nk aa ca aw cw9 ar cr ak ck hm HKZ HNM HNG HNA HNW HNR HNK HN HM HWB hL
 have hF:=hL.fx
 go_enter Tryz.func59,Tryz.ntmps59
 go_upto_region 1 with(fail)
 (with_reducible refine zT2 HWB.out HM.out ?_);clear hF;clear hL HM HWB;intro W HB HP HM HWB hJ hL hF;replace HN:=cy HN hJ;clear hJ
 have n0:=HB.out.c7
 obtain⟨pq,px,p00⟩:=HP.out.c1
 have HXX:=yh hx
 have HM9:=yh hm
 have HLL:=yh (fun s=>(⟨by have:=hlx s;omega,(hlx s).2⟩:(x.g s).n<=s.n+x.nd.co/\s.n<=(x.g s).n))
 have HLx:=yh hlx;clear hlx
 have HY:Hid ((Tr.sub x r).nd.kids[0]? =some x.nd):=yh (by simp only[Tr.nd];rfl)
 clear hm hx
 go_wp2_with (first|(with_reducible refine zS ?_;intro W hL hF)|(first|(go_at_call 88;(with_reducible refine zK [] HWB.out HM.out (fun W hL hS hN=>eM 95 _ x.g x.nd.co 0 W0 b _ ao cap LP _ zm (fun s2 ao2 cap2 LP2 W2 hk hM2 hn2=>w_ HY.out HXX.out _ _ _ b s2 ao2 cap2 LP2 W2 ((HP.out.mk2 hL).mk2 hk) ((HB.out.mk2 hL).mk2 hk) ((HN.out.mk2 hL).mk2 hk) hn2 (Kn.self0q hk) hM2) HLL.out (by have h0:=HM9.out;simp only[nO]at *;omega) hS hN) ?_);clear hF hL HWB HM;intro W ao cap LP HWB HM hJ hL hF;replace HB:=cy HB hJ;replace HN:=cy HN hJ;replace HP:=cy HP hJ;clear hJ;clear pq px p00;obtain⟨pq,px,p00⟩:=HP.out.c1)|(go_at_call 66;(with_reducible refine zK [] HWB.out HM.out (fun W hL hS hN=>bW 14 0 14 rfl W0 b _ ao cap LP _ (by have h0:=HM9.out;have h1:=HLx.out (s.add {op:=13,b:=0});simp only[nO]at *;omega) hS hN) ?_);clear hF hL HWB HM;intro W ao cap LP HWB HM hJ hL hF;clear hJ)))
 refine bodyPost_end (by simp[results,Tryz.results59,go_sem, *];try rfl) rfl ?_
 exact⟨ao,cap,LP,rfl,HWB.out,HM⟩
def xd:Prop:=∀(src:ByteArray) (W:World),TabP W->
 (∀l,ax src.data.toList=.ok l->Calls Tryz.prog 13 #[.string src] W fun e w'=>∃(aa:Option Addr) (ca:Nat) (aw:Option Addr) (cw:Nat) (ar:Option Addr) (cr:Nat) (ak:Option Addr) (ck:Nat),e=.returned (.tuple #[.agg #[.int .i64 4,.string ⟨#[]⟩,.bool false,.slice aa 0 ca,.slice aw 0 cw,.slice ar 0 cr,.slice ak l.length ck],.int .i64 0,.int .i64 0])/\Hid (∀Y:List Nat,(∀y∈Y,∃c t,W.heap[y]? =some (.cells c t (0,0))/\t≠118)->NodeIs Y w' (.mk 4 [] false [] [] [] l) [.int .i64 4,.string ⟨#[]⟩,.bool false,.slice aa 0 ca,.slice aw 0 cw,.slice ar 0 cr,.slice ak l.length ck])/\Below W.heap.size W w')/\
 (∀f m,ax src.data.toList=.err f m->Calls Tryz.prog 13 #[.string src] W fun e w'=>e=.returned (.tuple #[.agg #[.int .i64 0,.string ⟨#[]⟩,.bool false,.slice none 0 0,.slice none 0 0,.slice none 0 0,.slice none 0 0],.int .i64 (if f=true then 6 else 27),.int .i64 (m:Int)])/\Below W.heap.size W w')
def Wd.all(P:Tr->Prop):Wd->Prop
 |.nil=>True
 |.lit _ r=>r.all P
 |.sub _ t r=>P t/\r.all P
 |.bad _ _ r=>r.all P
def cI(W0:World)(t:Tr):Prop:=MkF W0 29 t.nd t.nd.co t.g/\∀s,(t.g s).n+2<=s.n+t.nd.co/\s.n<=(t.g s).n
def MkW(W0:World)(w9:Wd):Prop:=∀ ⦃LZ:List (Nat×Obj)⦄ (b:Nat) (s:PS) (ao:Option Addr) (cap:Nat) (LP:List (Nat×Obj)) (w:World) (v:Value),s.n+cwt w9.ps<=900000->Kn (b::keys LP) w w ((b,.cells #[.slice ao s.n cap,.int .i64 (s.i:Int),.int .i64 (s.e:Int)] 81 (0,0))::LP)->MkQ W0 LZ w b s (.slice ao s.n cap) LP->PRow (b::keys LP) w v w9.ps->Calls Tryz.prog 67 #[.pointer (some ⟨b,0,none⟩),v] w (fun e w'=>∃(a2:Option Addr) (c2:Nat) (LP2:List (Nat×Obj)),e=.returned (.tuple #[])/\Kn (b::keys LP) w w' ((b,.cells #[.slice a2 (w9.g s).n c2,.int .i64 ((w9.g s).i:Int),.int .i64 ((w9.g s).e:Int)] 81 (0,0))::LP2)/\Hid (MkQ W0 LZ w' b ((w9.g s)) (.slice a2 (w9.g s).n c2) LP2))
theorem fo{k:Nat}{Y:List Nat}{w:World}{a:Option Addr}{n cap:Nat}{xs:List (List Value)}(h:RowY k Y w (.slice a n cap) xs){j:Nat}{cs:List Value}(hj:xs[j]? =some cs):∃g o,a=some ⟨g,o,none⟩/\g∉Y/\g<w.heap.size/\∀(c:Nat) x,cs[c]? =some x->w.cell? ⟨g,o+j*k+c,none⟩=some x:=by
 obtain⟨ao,c,hv,_,h2⟩:=h
 injection hv with e1 e2 e3
 subst e1
 obtain⟨g,o,h3,h3b,h4,h5⟩:=h2 j cs hj
 exact⟨g,o,h3,h3b,h4,h5⟩
theorem jY{Y:List Nat}{w:World}{a:Option Addr}{n cap:Nat}{ps:List Prt}(h:PRow Y w (.slice a n cap) ps){j:Nat}{p:Prt}(hj:ps[j]? =some p):∃g o,a=some ⟨g,o,none⟩/\g∉Y/\g<w.heap.size/\w.cell? ⟨g,o+j*3,none⟩=some (.int .i64 (p.k:Int))/\w.cell? ⟨g,o+j*3+1,none⟩=some (bs p.t)/\w.cell? ⟨g,o+j*3+2,none⟩=some (.bool p.q):=by
 obtain⟨g,o,h1,h2,h3,h4⟩:=fo h (j:=j) (cs:=ptc p) (by rw[List.getElem?_map,hj];rfl)
 exact⟨g,o,h1,h2,h3,h4 0 _ rfl,h4 1 _ rfl,h4 2 _ rfl⟩
theorem bF{α:Type}{l:List α}{k:Nat}{x:α}{r:List α}(h:l.drop k=x::r):l[k]? =some x/\l.drop (k+1)=r/\k<l.length:=by
 have hk:k<l.length:=by
  have:=congrArg List.length h;rw[List.length_drop,List.length_cons]at this;omega
 rw[List.drop_eq_getElem_cons hk]at h
 injection h with h1 h2
 exact⟨by rw[List.getElem?_eq_getElem hk,h1],h2,hk⟩
theorem MkQ.below{W0 W:World}{b:Nat}{s:PS}{v:Value}{LP LZ:List (Nat×Obj)}(h:MkQ W0 LZ W b s v LP):Below W0.heap.size W0 W:=by
 obtain⟨cv,h1,h2,h3,h4,_⟩:=h;exact h4
theorem MkQ.e{W0 W:World}{b:Nat}{s:PS}{v:Value}{LP LZ:List (Nat×Obj)}(h:MkQ W0 LZ W b s v LP)(e:Nat):MkQ W0 LZ W b ⟨s.c,s.i,e⟩ v LP:=h
theorem MkQ.typed{X:List Nat}{w0 W W1:World}{W0:World}{b:Nat}{s:PS}{v:Value}{LP A LZ:List (Nat×Obj)}{cells:Array Value}(h:MkQ W0 LZ W1 b s v LP)(hL:Kn X w0 W (A++(b,.cells cells 81 (0,0))::LP)):∀y∈b::keys LP,∃c t,W.heap[y]? =some (.cells c t (0,0))/\t≠118:=fun y hy=>by
 rcases List.mem_cons.1 hy with rfl|hy
 ·exact⟨_,_,hL.has _ (List.mem_append_right _ m0),by decide⟩
 ·obtain⟨p,hp,rfl⟩:=List.mem_map.1 hy
  obtain⟨cv,h1,⟨LC,rfl,h2,hz⟩,_⟩:=h;obtain⟨c,t,e,ht⟩:∃c t,p.2=.cells c t (0,0)/\t≠118:=by
   rcases List.mem_append.1 hp with hp|hp
   ·rcases h2 with⟨rfl,_⟩|⟨g,cap,cur,rfl,_⟩
    ·cases hp
    ·obtain rfl:=List.mem_singleton.1 hp
     exact⟨_,_,rfl,by decide⟩
   ·exact hz p hp
  exact⟨c,t,by rw[hL.has p (List.mem_append_right _ (List.mem_cons_of_mem _ hp)),e],ht⟩
theorem sm{W0:World}(hPG:xd)(hT:TabP W0)(w9:Wd)(hok:w9.ok)(hall:w9.all (cI W0))(hsz:w9.ps.length<=100000):MkW W0 w9:=by
 intro LZ b s ao cap LP w v hm hL0 hM hv
 obtain⟨av,cv9,hv9,_⟩:=id hv
 obtain⟨n9,hn9⟩:∃n,w9.ps.length=n:=⟨_,rfl⟩
 rw[List.length_map,hn9]at hv9
 subst hv9
 have hmf:=BZ
 have HPG:=yh hPG
 have HT:=yh hT
 have HM:=yh hM
 have HWB:=yh hL0
 have HW:=yh hv
 have HM9:=yh hm
 have HN9:=yh hn9
 rw[hn9]at hsz
 have HOK:=yh (⟨hok,hall,rfl⟩:w9.ok/\w9.all (cI W0)/\w9.ps=w9.ps.drop 0)
 have hL:=hL0
 clear hL0 hM hv hm hok hall hPG hT hn9
 obtain⟨X9,hX9⟩:∃X,b::keys LP=X:=⟨_,rfl⟩
 rw[hX9]at HWB |-
 clear hX9
 have hF:=hL.fx
 go_enter Tryz.func67,Tryz.ntmps67
 go_upto_region 1 with(fail)
 (with_reducible refine zT1 HWB.out HM.out ?_);clear hF;clear hL HM HWB;intro W HP HM HWB hJ hL hF;replace HW:=yh (HW.out.mk2 hJ);clear hJ
 go_wp2
 go_loopw [11] (fun z wr=>∃(k:Nat) (r:Wd) (s2:PS) (ao:Option Addr) (cap:Nat) (LP:List (Nat×Obj)),z=.int .i64 k/\k<=n9/\Hid (r.ok/\r.all (cI W0)/\r.ps=w9.ps.drop k/\w9.g s=r.g s2)/\Hid (s2.n+cwt r.ps<=s.n+cwt w9.ps)/\Kn X9 w wr ((b,.cells #[.slice ao s2.n cap,.int .i64 (s2.i:Int),.int .i64 (s2.e:Int)] 81 (0,0))::LP)/\Hid (MkQ W0 LZ wr b s2 (.slice ao s2.n cap) LP)/\Hid (CelY (b::keys LP) wr (w.heap.size) [.pointer (some ⟨b,0,none⟩)])/\Hid (PRow (b::keys LP) wr (.slice av n9 cv9) w9.ps)) (fun z _=>n9-(intOf z).toNat)
 case atStart=>exact⟨0,w9,s,ao,cap,LP,rfl,Nat.zero_le _,yh ⟨HOK.out.1,HOK.out.2.1,HOK.out.2.2,rfl⟩,yh (Nat.le_refl _),HWB.out,HM,HP,HW⟩
 case round=>
  clear HWB HM HP HW HOK;obtain⟨k,r,s2,ao,cap,LP,rfl,hk,HR,HB9,hWB,HM,HP,HW⟩:=hrel;have HWB:=yh hWB;clear hL hF hWB;have hL:=Kn.self0q HWB.out;have hF:=hL.fx;have pq:=HP.out.2.1;have px:=HP.out.1;simp only[List.mem_cons,not_or]at px;have p00:=HP.out.2.2 0 _ rfl
  cases r with
  |nil=>
   have hkn:k=n9:=by
    have h:=congrArg List.length HR.out.2.2.1;rw[List.length_drop,HN9.out]at h;simp only[Wd.ps,List.length_nil]at h;omega
   subst hkn;have he:w9.g s=s2:=by rw[HR.out.2.2.2];simp only[Wd.g]
   go_wp2;refine bodyPost_end (by simp[results,Tryz.results67,go_sem, *];try rfl) rfl ?_;rw[he];exact⟨ao,cap,LP,rfl,HWB.out,HM⟩
  |lit p r=>
   obtain⟨HD1,HD2,HD3⟩:=bF HR.out.2.2.1.symm;have HD:Hid (w9.ps[k]? =some p/\w9.ps.drop (k+1)=r.ps/\k<w9.ps.length):=yh ⟨HD1,HD2,HD3⟩;have hkn:k<n9:=by rw[<- HN9.out];exact HD3
   obtain⟨g,o,hga,gx,gl,c0,c1,c2⟩:=jY HW.out HD1;clear HD1 HD2 HD3;subst hga;simp only[List.mem_cons,not_or]at gx;obtain⟨u,hu⟩:∃u:ByteArray,(⟨p.t.toArray⟩:ByteArray)=u:=⟨_,rfl⟩;have hbs:bs p.t=.string u:=by rw[<- hu];rfl
   rw[hbs]at c1;have HU9:Hid (u.data.toList=p.t):=yh (by rw[<- hu]);clear hbs hu;have hpk:((p.k:Int) != 2)=true:=by
    have h:=HR.out.1;simp only[Wd.ok]at h;rw[bne_iff_ne];omega
   go_wp2;refine⟨⟨k+1,r,s2,ao,cap,LP,by go_num,by omega,yh ?_,yh ?_,Kn.drop1 (HWB.out.tail0 aV),yh (HM.out.next aV),yh (HP.out.mk2 (Kn.drop1 aV)),yh (HW.out.mk2 (Kn.drop1 aV))⟩,by simp[intOf];omega⟩
   ·have h:=HR.out
    simp only[Wd.ok,Wd.all,Wd.g]at h;exact⟨h.1.2,h.2.1,HD.out.2.1.symm,h.2.2.2⟩
   ·have h:=HB9.out
    simp only[Wd.ps,dW]at h;omega
  |sub p t r=>
   obtain⟨HD1,HD2,HD3⟩:=bF HR.out.2.2.1.symm;have HD:Hid (w9.ps[k]? =some p/\w9.ps.drop (k+1)=r.ps/\k<w9.ps.length):=yh ⟨HD1,HD2,HD3⟩;have hkn:k<n9:=by rw[<- HN9.out];exact HD3
   obtain⟨g,o,hga,gx,gl,c0,c1,c2⟩:=jY HW.out HD1;clear HD1 HD2 HD3;subst hga;simp only[List.mem_cons,not_or]at gx;obtain⟨u,hu⟩:∃u:ByteArray,(⟨p.t.toArray⟩:ByteArray)=u:=⟨_,rfl⟩;have hbs:bs p.t=.string u:=by rw[<- hu];rfl
   rw[hbs]at c1;have HU9:Hid (u.data.toList=p.t):=yh (by rw[<- hu]);clear hbs hu;have hpk0:p.k=2:=by
    have h:=HR.out.1;simp only[Wd.ok]at h;exact h.1
   have hpk:((p.k:Int) != 2)=false:=by rw[bne_eq_false_iff_eq];omega
   by_cases he:s2.e=0
   ·have hez:((s2.e:Int) != 0)=false:=by rw[he];rfl
    have hok2:∃l,ax p.t=.ok l/\t.nd=.mk 4 [] false [] [] [] l:=by
     have h:=HR.out.1;simp only[Wd.ok]at h;obtain⟨_,⟨l,h1,h2,_⟩,_⟩:=h;exact⟨l,h1,h2⟩
    obtain⟨l,hpl,hnd⟩:=hok2;have HSL:=yh (sj hpl hnd);have HPL:=yh (show ax u.data.toList=.ok l by rw[HU9.out];exact hpl);have HND:=yh hnd;have HXX:Hid (cI W0 t):=yh (by have h:=HR.out.2.1;simp only[Wd.all]at h;exact h.1);have HX1:=yh HXX.out.1;have HX2:=yh HXX.out.2;have HLL:=yh (fun s=>(⟨by have:=HXX.out.2 s;omega,(HXX.out.2 s).2⟩:(t.g s).n<=s.n+t.nd.co/\s.n<=(t.g s).n));have HE:=yh he;have HCW:Hid (cwt (Wd.sub p t r).ps=40*p.t.length+16+cwt r.ps):=yh (by simp only[Wd.ps,dW,if_pos hpk0]);have HPE:=yh (fun(W:World) (h:TabP W)=>(HPG.out u W h).1 l HPL.out);clear hpl hnd he;go_upto_region 6 with((go_at_call 13;refine aj ?_;clear hF hL;intro W hL;have hF:=hL.fx;(with_reducible refine(HPE.out _ (HT.out.ext (HM.out.next hL).below)).mono ?_);rintro e V ⟨aa,ca,aw,cw,ar,cr,ak,ck,rfl,HNY,hb⟩;have HNR:=yh (HNY.out _ (HM.out.typed (A:=[_]) hL));clear HNY;have hL3:=hL.below hb;have hJ:=Kn.sub hL3 (List.sublist_append_right [_] _);have hM2:=yh (HM.out.next hL3);clear HM;have HM:=hM2;clear hM2;replace HP:=cy HP hJ;replace HW:=yh (HW.out.mk2 hJ);have HWB2:=yh (Kn.tail0 HWB.out hJ);clear HWB;have HWB:=HWB2;clear HWB2;clear hJ hL hL3 hb hF;have hL:=Kn.self0q HWB.out;have hF:=hL.fx;clear pq px p00;have pq:=HP.out.2.1;have px:=HP.out.1;simp only[List.mem_cons,not_or]at px;have p00:=HP.out.2.2 0 _ rfl))
    rw[<- HND.out]at HNR;(with_reducible refine zT1 HWB.out HM.out ?_);clear hF;clear hL HM HWB;intro W HB HM HWB hJ hL hF;replace HP:=cy HP hJ;replace HNR:=yh (HNR.out.mk2 hJ);replace HW:=yh (HW.out.mk2 hJ);clear hJ
    clear pq px p00 gx gl c0 c1 c2;have pq:=HP.out.2.1;have px:=HP.out.1;simp only[List.mem_cons,not_or]at px;have p00:=HP.out.2.2 0 _ rfl;go_wp2_with (first|(with_reducible refine zS ?_;intro W hL hF)|(first|(go_at_call 88;(with_reducible refine zK [] HWB.out HM.out (fun W hL hS hN=>eM 96 _ t.g t.nd.co 8 W0 b _ ao cap LP _ xc (fun s2 ao2 cap2 LP2 W2 hk hM2 hn2=>t_ HX1.out _ _ _ b s2 ao2 cap2 LP2 W2 ((HP.out.mk2 hL).mk2 hk) ((HB.out.mk2 hL).mk2 hk) ((HNR.out.mk2 hL).mk2 hk) hn2 (Kn.self0q hk) hM2) HLL.out (by have h0:=HM9.out;have h1:=HB9.out;have h2:=HSL.out;have h3:=HCW.out;simp only[nO]at *;omega) hS hN) ?_);clear hF hL HWB HM;intro W ao cap LP HWB HM hJ hL hF;replace HB:=cy HB hJ;replace HP:=cy HP hJ;replace HNR:=yh (HNR.out.mk2 hJ);replace HW:=yh (HW.out.mk2 hJ);clear hJ;clear pq px p00;have pq:=HP.out.2.1;have px:=HP.out.1;simp only[List.mem_cons,not_or]at px;have p00:=HP.out.2.2 0 _ rfl)|(go_at_call 66;(with_reducible refine zK [] HWB.out HM.out (fun W hL hS hN=>bW 15 0 15 rfl W0 b _ ao cap LP _ (by have h0:=HM9.out;have h1:=HB9.out;have h2:=HSL.out;have h3:=HCW.out;have h4:=HX2.out (s2.add {op:=13,b:=8});simp only[nO]at *;omega) hS hN) ?_);clear hF hL HWB HM;intro W ao cap LP HWB HM hJ hL hF;replace HP:=cy HP hJ;replace HW:=yh (HW.out.mk2 hJ);clear hJ)))
    refine⟨⟨k+1,r,(s2.child 8 t.g).op 15 0,ao,cap,LP,by go_num,by omega,yh ?_,yh ?_,HWB.out,HM,HP,HW⟩,by simp[intOf];omega⟩
    ·have h:=HR.out
     have he:=HE.out;simp only[Wd.ok,Wd.all,Wd.g,he,if_true]at h;exact⟨h.1.2.2.2,h.2.1.2,HD.out.2.1.symm,h.2.2.2⟩
    ·have h:=HB9.out
     have h1:=HSL.out;have h2:=HXX.out.2 (s2.add {op:=13,b:=8});rw[HCW.out]at h;rw[cd,b7];rw[bt]at h2;omega
   ·have hez:((s2.e:Int) != 0)=true:=by rw[bne_iff_ne];omega
    go_wp2;refine⟨⟨k+1,r,s2,ao,cap,LP,by go_num,by omega,yh ?_,yh ?_,Kn.drop1 (HWB.out.tail0 aV),yh (HM.out.next aV),yh (HP.out.mk2 (Kn.drop1 aV)),yh (HW.out.mk2 (Kn.drop1 aV))⟩,by simp[intOf];omega⟩
    ·have h:=HR.out
     simp only[Wd.ok,Wd.all,Wd.g,if_neg he]at h;exact⟨h.1.2.2.2,h.2.1.2,HD.out.2.1.symm,h.2.2.2⟩
    ·have h:=HB9.out
     simp only[Wd.ps,dW]at h;omega
  |bad p f r=>
   obtain⟨HD1,HD2,HD3⟩:=bF HR.out.2.2.1.symm;have HD:Hid (w9.ps[k]? =some p/\w9.ps.drop (k+1)=r.ps/\k<w9.ps.length):=yh ⟨HD1,HD2,HD3⟩;have hkn:k<n9:=by rw[<- HN9.out];exact HD3
   obtain⟨g,o,hga,gx,gl,c0,c1,c2⟩:=jY HW.out HD1;clear HD1 HD2 HD3;subst hga;simp only[List.mem_cons,not_or]at gx;obtain⟨u,hu⟩:∃u:ByteArray,(⟨p.t.toArray⟩:ByteArray)=u:=⟨_,rfl⟩;have hbs:bs p.t=.string u:=by rw[<- hu];rfl
   rw[hbs]at c1;have HU9:Hid (u.data.toList=p.t):=yh (by rw[<- hu]);clear hbs hu;have hpk0:p.k=2:=by
    have h:=HR.out.1;simp only[Wd.ok]at h;exact h.1
   have hpk:((p.k:Int) != 2)=false:=by rw[bne_eq_false_iff_eq];omega
   by_cases he:s2.e=0
   ·have hez:((s2.e:Int) != 0)=false:=by rw[he];rfl
    obtain⟨m,hpl⟩:∃m,ax p.t=.err f m:=by
     have h:=HR.out.1;simp only[Wd.ok]at h;exact h.2.1
    have HPL:=yh (show ax u.data.toList=.err f m by rw[HU9.out];exact hpl);obtain⟨e2,he2⟩:∃z:Nat,(if f=true then 6 else 27)=z:=⟨_,rfl⟩;have hec:(if f=true then(6:Int)else 27)=(e2:Int):=by rw[<- he2];cases f<;>rfl
    have hec2:((e2:Int) != 0)=true:=by rw[<- he2];cases f<;>rfl
    have HPE:Hid (∀W:World,TabP W->Calls Tryz.prog 13 #[.string u] W fun e w'=>e=.returned (.tuple #[.agg #[.int .i64 0,.string ⟨#[]⟩,.bool false,.slice none 0 0,.slice none 0 0,.slice none 0 0,.slice none 0 0],.int .i64 (e2:Int),.int .i64 (m:Int)])/\Below W.heap.size W w'):=yh (fun W h=>by have h2:=(HPG.out u W h).2 f m HPL.out;rw[hec]at h2;exact h2);have HST:Hid (w9.g s=⟨s2.c,s2.i,e2⟩):=yh (by rw[HR.out.2.2.2,<- he2];simp only[Wd.g,he,if_true]);clear hpl hec he he2;go_wp2_with (first|(with_reducible refine zS ?_;intro W hL hF)|(go_at_call 13;refine aj ?_;clear hF hL;intro W hL;have hF:=hL.fx;(with_reducible refine(HPE.out _ (HT.out.ext (HM.out.next hL).below)).mono ?_);rintro e V ⟨rfl,hb⟩;have hL3:=hL.below hb;have hJ:=Kn.sub hL3 (List.sublist_append_right [_] _);have hM2:=yh (HM.out.next hL3);clear HM;have HM:=hM2;clear hM2;replace HP:=cy HP hJ;replace HW:=yh (HW.out.mk2 hJ);have HWB2:=yh (Kn.tail0 HWB.out hJ);clear HWB;have HWB:=HWB2;clear HWB2;clear hJ hL hL3 hb hF;have hL:=Kn.self0q HWB.out;have hF:=hL.fx;clear pq px p00;have pq:=HP.out.2.1;have px:=HP.out.1;simp only[List.mem_cons,not_or]at px;have p00:=HP.out.2.2 0 _ rfl))
    refine zF ?_;intro W hL hF;refine bodyPost_ret (by simp[results,Tryz.results67,go_sem, *];try rfl) rfl ?_;rw[HST.out];exact⟨ao,cap,LP,rfl,Kn.drop1 (HWB.out.tail0 hL),yh ((HM.out.next hL).e e2)⟩
   ·have hez:((s2.e:Int) != 0)=true:=by rw[bne_iff_ne];omega
    go_wp2;refine⟨⟨k+1,r,s2,ao,cap,LP,by go_num,by omega,yh ?_,yh ?_,Kn.drop1 (HWB.out.tail0 aV),yh (HM.out.next aV),yh (HP.out.mk2 (Kn.drop1 aV)),yh (HW.out.mk2 (Kn.drop1 aV))⟩,by simp[intOf];omega⟩
    ·have h:=HR.out
     simp only[Wd.ok,Wd.all,Wd.g,if_neg he]at h;exact⟨h.1.2.2,h.2.1,HD.out.2.1.symm,h.2.2.2⟩
    ·have h:=HB9.out
     simp only[Wd.ps,dW]at h;omega
theorem b_{s:PS}{r:Ws}{F:PS->PS}(hr:(s.op 9 0).n<=(r.g 10 (s.op 9 0)).n)(hF:∀s,s.n<=(F s).n):s.n<=(if r.nil? then F (if r.nil? then s else r.g 10 (s.op 9 0))else(F (if r.nil? then s else r.g 10 (s.op 9 0))).op 11 0).n:=by
 grind[cd]
mutual
theorem Wd.mono:∀(w:Wd) (s:PS),s.n<=(w.g s).n
 |.nil,s=>by grind[Wd.g]
 |.lit p r,s=>by simp only[Wd.g];exact Wd.mono r s
 |.sub p t r,s=>by
  simp only[Wd.g];split
  ·have h7:=Wd.mono r ((s.child 8 t.g).op 15 0)
   have h8:=Tr.mono t (s.add {op:=13,b:=8});grind[cd,b7,bt]
  ·exact Wd.mono r s
 |.bad p f r,s=>by
  simp only[Wd.g];split
  ·exact Nat.le_refl _
  ·exact Wd.mono r s
theorem Ws.mono(o:Nat):∀(w:Ws) (s:PS),s.n<=(w.g o s).n
 |.nil,s=>by grind[Ws.g]
 |.cons g w r,s=>by
  simp only[Ws.g];have h1:=Ws.mono o r ((w.g s).add {op:=o,a:=g.a,b:=g.b,s:=g.s,w:=w.ps});have h2:=Wd.mono w s;grind[bt]
theorem Ws.monow:∀(w:Ws) (s:PS) (l:List Nat),s.n<=(w.gw s l).1.n
 |.nil,s,l=>by grind[Ws.gw]
 |.cons g w r,s,l=>by
  simp only[Ws.gw];have h1:=Ws.monow r ((w.g s).add {op:=20,w:=w.ps}) (l++[(w.g s).c.length]);have h2:=Wd.mono w s;grind[bt]
theorem Tr.mono:∀(t:Tr) (s:PS),s.n<=(t.g s).n
 |.simple a w r,s=>by
  simp only[Tr.g];split
  ·exact b_ (s:=s) (r:=r) (F:=fun s=>if w.nil? then(if a.plain&&r.plain then(a.g 8 (if w.nil? then s else w.g 7 (s.op 6 0))).op 5 0 else a.g 8 (if w.nil? then s else w.g 7 (s.op 6 0)))else(a.g 8 (if w.nil? then s else w.g 7 (s.op 6 0))).op 12 0) (Ws.mono 10 r _) (fun s=>by
    have h4:=Ws.mono 8 a s;have h5:=Ws.mono 8 a (w.g 7 (s.op 6 0));have h6:=Ws.mono 7 w (s.op 6 0);grind[cd])
  ·omega
 |.pipe g l,s=>by
  simp only[Tr.g];split
  ·have h1:=Ts.monop l true s
   have h2:=Ts.monop l true (s.op 24 1);grind[cd]
  ·omega
 |.ao o x y,s=>by
  simp only[Tr.g];split
  ·have h1:=Tr.mono x (s.op 24 1)
   have h2:=Tr.mono y (((x.g (s.op 24 1)).op 24 (-1)).op (if o then 2 else 3) 0);grind[cd,cV]
  ·omega
 |.lst l,s=>by
  simp only[Tr.g];split
  ·exact Ts.monol l none s
  ·omega
 |.back x,s=>by
  simp only[Tr.g];split
  ·have h1:=Tr.mono x (s.add {op:=13,b:=4})
   grind[bt,cd,b7]
  ·omega
 |.sub x r,s=>by
  simp only[Tr.g];split
  ·exact b_ (s:=s) (r:=r) (F:=fun s=>(s.child 0 x.g).op 14 0) (Ws.mono 10 r _) (fun s=>by
    have h1:=Tr.mono x (s.add {op:=13,b:=0});grind[bt,cd,b7])
  ·omega
 |.grp x r,s=>by
  simp only[Tr.g];split
  ·exact b_ (s:=s) (r:=r) (F:=fun s=>x.g s) (Ws.mono 10 r _) (Tr.mono x)
  ·omega
 |.iff c t r,s=>by
  simp only[Tr.g];split
  ·exact b_ (s:=s) (r:=r) (F:=fun s=>((((t.g (((c.g (s.op 24 1)).op 24 (-1)).op 3 0)).op 1 0).here ((c.g (s.op 24 1)).op 24 (-1)).c.length).op 5 0).here (t.g (((c.g (s.op 24 1)).op 24 (-1)).op 3 0)).c.length) (Ws.mono 10 r _) (fun s=>by
    have h1:=Tr.mono c (s.op 24 1);have h2:=Tr.mono t (((c.g (s.op 24 1)).op 24 (-1)).op 3 0);grind[cd,cV])
  ·omega
 |.ife c t e r,s=>by
  simp only[Tr.g];split
  ·exact b_ (s:=s) (r:=r) (F:=fun s=>(e.g (((t.g (((c.g (s.op 24 1)).op 24 (-1)).op 3 0)).op 1 0).here ((c.g (s.op 24 1)).op 24 (-1)).c.length)).here (t.g (((c.g (s.op 24 1)).op 24 (-1)).op 3 0)).c.length) (Ws.mono 10 r _) (fun s=>by
    have h1:=Tr.mono c (s.op 24 1);have h2:=Tr.mono t (((c.g (s.op 24 1)).op 24 (-1)).op 3 0);have h4:=Tr.mono e (((t.g (((c.g (s.op 24 1)).op 24 (-1)).op 3 0)).op 1 0).here ((c.g (s.op 24 1)).op 24 (-1)).c.length);grind[cd,cV])
  ·omega
 |.loop u c b r,s=>by
  simp only[Tr.g];split
  ·exact b_ (s:=s) (r:=r) (F:=fun s=>((((b.g (((c.g (s.op 24 1)).op 24 (-1)).op (if u then 2 else 3) 0)).op 1 s.c.length).here ((c.g (s.op 24 1)).op 24 (-1)).c.length).op 5 0)) (Ws.mono 10 r _) (fun s=>by
    have h1:=Tr.mono c (s.op 24 1);have h2:=Tr.mono b (((c.g (s.op 24 1)).op 24 (-1)).op (if u then 2 else 3) 0);grind[cd,cV])
  ·omega
 |.for_ nm w b r,s=>by
  simp only[Tr.g];split
  ·exact b_ (s:=s) (r:=r) (F:=fun s=>(((b.g ((((w.g 7 (s.op 6 0)).add {op:=17,s:=nm}).op 5 0).op 18 0)).op 1 (((w.g 7 (s.op 6 0)).add {op:=17,s:=nm}).op 5 0).c.length).here (((w.g 7 (s.op 6 0)).add {op:=17,s:=nm}).op 5 0).c.length)) (Ws.mono 10 r _) (fun s=>by
    have h1:=Ws.mono 7 w (s.op 6 0);have h2:=Tr.mono b ((((w.g 7 (s.op 6 0)).add {op:=17,s:=nm}).op 5 0).op 18 0);grind[cd,bt,cV])
  ·omega
 |.case_ w l r,s=>by
  simp only[Tr.g];split
  ·exact b_ (s:=s) (r:=r) (F:=fun s=>((l.gb (((l.gm ((w.g s).add {op:=19,w:=w.ps}) []).1.op 5 0).op 1 0) (l.gm ((w.g s).add {op:=19,w:=w.ps}) []).2 [((l.gm ((w.g s).add {op:=19,w:=w.ps}) []).1.op 5 0).c.length]).1.heres (l.gb (((l.gm ((w.g s).add {op:=19,w:=w.ps}) []).1.op 5 0).op 1 0) (l.gm ((w.g s).add {op:=19,w:=w.ps}) []).2 [((l.gm ((w.g s).add {op:=19,w:=w.ps}) []).1.op 5 0).c.length]).2).op 21 0) (Ws.mono 10 r _) (fun s=>by
    have h1:=Wd.mono w s;have h2:=Am.monom l ((w.g s).add {op:=19,w:=w.ps}) [];have h4:=Am.monob l (((l.gm ((w.g s).add {op:=19,w:=w.ps}) []).1.op 5 0).op 1 0) (l.gm ((w.g s).add {op:=19,w:=w.ps}) []).2 [((l.gm ((w.g s).add {op:=19,w:=w.ps}) []).1.op 5 0).c.length];grind[bt,cd,iN])
  ·omega
 |.fn nm b,s=>by
  simp only[Tr.g];split
  ·have h1:=Tr.mono b (((s.add {op:=22,s:=nm}).op 1 0).here s.c.length)
   grind[cV,cd,bt]
  ·omega
theorem Ts.monol:∀(l:Ts) (b:Option Nat) (s:PS),s.n<=(l.gl b s).n
 |.nil,b,s=>by grind[Ts.gl]
 |.cons x r,b,s=>by
  simp only[Ts.gl];have h1:=Ts.monol r (some s.c.length) (x.g (s.item b));have h2:=Tr.mono x (s.item b);grind[jh]
theorem Ts.monop:∀(l:Ts) (f:Bool) (s:PS),s.n<=(l.gp f s).n
 |.nil,f,s=>by grind[Ts.gp]
 |.cons x r,f,s=>by
  simp only[Ts.gp];have h1:=Ts.monop r false (if prt f r.nil? =0 then x.g s else s.child (prt f r.nil? :Nat) x.g);have h2:=Tr.mono x s;have h3:=Tr.mono x (s.add {op:=13,b:=(prt f r.nil? :Nat)});grind[bt,prt,b7]
theorem Am.monom:∀(l:Am) (s:PS) (h:List (List Nat)),s.n<=(l.gm s h).1.n
 |.nil,s,h=>by grind[Am.gm]
 |.cons w b r,s,hs=>by
  simp only[Am.gm];have h1:=Ws.monow w s [];have h2:=Am.monom r (w.gw s []).1 (hs++[(w.gw s []).2]);omega
theorem Am.monob:∀(l:Am) (s:PS) (h:List (List Nat)) (k:List Nat),s.n<=(l.gb s h k).1.n
 |.nil,s,h,k=>by grind[Am.gb]
 |.cons w b r,s,hs,k=>by
  simp only[Am.gb];have h1:=Tr.mono b ((s.heres (hs.headD [])).op 5 0);have h2:=Am.monob r ((b.g ((s.heres (hs.headD [])).op 5 0)).op 1 0) hs.tail (k++[(b.g ((s.heres (hs.headD [])).op 5 0)).c.length]);grind[cd,iN]
end
def Ws.tw:Ws->Prop
 |.nil=>True
 |.cons g _ r=>g={}/\r.tw
def Ws.ta:Ws->Prop
 |.nil=>True
 |.cons g _ r=>(g.a=0/\g.b=0)/\r.ta
def Ws.tr:Ws->Prop
 |.nil=>True
 |.cons g _ r=>g.s=[]/\r.tr
mutual
def Wd.nz:Wd->Wd
 |.nil=>.nil
 |.lit p r=>.lit p r.nz
 |.sub p t r=>.sub p t.nz r.nz
 |.bad p f r=>.bad p f r.nz
def Ws.nw:Ws->Ws
 |.nil=>.nil
 |.cons _ w r=>.cons {} w.nz r.nw
def Ws.na:Ws->Ws
 |.nil=>.nil
 |.cons g w r=>.cons ⟨g.s,0,0⟩ w.nz r.na
def Ws.nr:Ws->Ws
 |.nil=>.nil
 |.cons g w r=>.cons ⟨[],g.a,g.b⟩ w.nz r.nr
def Tr.nz:Tr->Tr
 |.simple a w r=>.simple a.na w.nw r.nr
 |.pipe g l=>.pipe g l.nz
 |.ao o x y=>.ao o x.nz y.nz
 |.lst l=>.lst l.nz
 |.back x=>.back x.nz
 |.sub x r=>.sub x.nz r.nr
 |.grp x r=>.grp x.nz r.nr
 |.iff c t r=>.iff c.nz t.nz r.nr
 |.ife c t e r=>.ife c.nz t.nz e.nz r.nr
 |.loop u c b r=>.loop u c.nz b.nz r.nr
 |.for_ n w b r=>.for_ n w.nw b.nz r.nr
 |.case_ w l r=>.case_ w.nz l.nz r.nr
 |.fn n b=>.fn n b.nz
def Ts.nz:Ts->Ts
 |.nil=>.nil
 |.cons x r=>.cons x.nz r.nz
def Am.nz:Am->Am
 |.nil=>.nil
 |.cons w b r=>.cons w.nw b.nz r.nz
end
mutual
def Wd.tg:Wd->Prop
 |.nil=>True
 |.lit _ r=>r.tg
 |.sub _ t r=>t.tg/\r.tg
 |.bad _ _ r=>r.tg
def Ws.tg:Ws->Prop
 |.nil=>True
 |.cons _ w r=>w.tg/\r.tg
def Tr.tg:Tr->Prop
 |.simple a w r=>(a.tg/\a.ta)/\(w.tg/\w.tw)/\r.tg/\r.tr
 |.pipe _ l=>l.tg
 |.ao _ x y=>x.tg/\y.tg
 |.lst l=>l.tg
 |.back x=>x.tg
 |.sub x r=>x.tg/\r.tg/\r.tr
 |.grp x r=>x.tg/\r.tg/\r.tr
 |.iff c t r=>(c.tg/\t.tg)/\r.tg/\r.tr
 |.ife c t e r=>(c.tg/\t.tg/\e.tg)/\r.tg/\r.tr
 |.loop _ c b r=>(c.tg/\b.tg)/\r.tg/\r.tr
 |.for_ _ w b r=>((w.tg/\w.tw)/\b.tg)/\r.tg/\r.tr
 |.case_ w l r=>(w.tg/\l.tg)/\r.tg/\r.tr
 |.fn _ b=>b.tg
def Ts.tg:Ts->Prop
 |.nil=>True
 |.cons x r=>x.tg/\r.tg
def Am.tg:Am->Prop
 |.nil=>True
 |.cons w b r=>(w.tg/\w.tw)/\b.tg/\r.tg
end
mutual
theorem Wd.nz_ps:∀w:Wd,w.nz.ps=w.ps
 |.nil=>by simp only[Wd.nz]
 |.lit p r=>by simp only[Wd.nz,Wd.ps,Wd.nz_ps r]
 |.sub p t r=>by simp only[Wd.nz,Wd.ps,Wd.nz_ps r]
 |.bad p f r=>by simp only[Wd.nz,Wd.ps,Wd.nz_ps r]
end
theorem Ws.nw_ws:∀w:Ws,w.nw.ws=w.ws
 |.nil=>by simp only[Ws.nw]
 |.cons g w r=>by simp only[Ws.nw,Ws.ws,Wd.nz_ps w,Ws.nw_ws r]
theorem Ws.na_as:∀w:Ws,w.na.as=w.as
 |.nil=>by simp only[Ws.na]
 |.cons g w r=>by simp only[Ws.na,Ws.as,Wd.nz_ps w,Ws.na_as r]
theorem Ws.nr_rs:∀w:Ws,w.nr.rs=w.rs
 |.nil=>by simp only[Ws.nr]
 |.cons g w r=>by simp only[Ws.nr,Ws.rs,Wd.nz_ps w,Ws.nr_rs r]
theorem Ws.nw_t:∀w:Ws,w.nw.tw
 |.nil=>by simp only[Ws.nw,Ws.tw]
 |.cons g w r=>by simp only[Ws.nw,Ws.tw];exact⟨trivial,Ws.nw_t r⟩
theorem Ws.na_t:∀w:Ws,w.na.ta
 |.nil=>by simp only[Ws.na,Ws.ta]
 |.cons g w r=>by simp only[Ws.na,Ws.ta];exact⟨⟨trivial,trivial⟩,Ws.na_t r⟩
theorem Ws.nr_t:∀w:Ws,w.nr.tr
 |.nil=>by simp only[Ws.nr,Ws.tr]
 |.cons g w r=>by simp only[Ws.nr,Ws.tr];exact⟨trivial,Ws.nr_t r⟩
mutual
theorem Tr.nz_nd:∀t:Tr,t.nz.nd=t.nd
 |.simple a w r=>by simp only[Tr.nz,Tr.nd,Ws.na_as,Ws.nw_ws,Ws.nr_rs]
 |.pipe g l=>by simp only[Tr.nz,Tr.nd,Ts.nz_nds l]
 |.ao o x y=>by simp only[Tr.nz,Tr.nd,Tr.nz_nd x,Tr.nz_nd y]
 |.lst l=>by simp only[Tr.nz,Tr.nd,Ts.nz_nds l]
 |.back x=>by simp only[Tr.nz,Tr.nd,Tr.nz_nd x]
 |.sub x r=>by simp only[Tr.nz,Tr.nd,Tr.nz_nd x,Ws.nr_rs]
 |.grp x r=>by simp only[Tr.nz,Tr.nd,Tr.nz_nd x,Ws.nr_rs]
 |.iff c t r=>by simp only[Tr.nz,Tr.nd,Tr.nz_nd c,Tr.nz_nd t,Ws.nr_rs]
 |.ife c t e r=>by simp only[Tr.nz,Tr.nd,Tr.nz_nd c,Tr.nz_nd t,Tr.nz_nd e,Ws.nr_rs]
 |.loop u c b r=>by simp only[Tr.nz,Tr.nd,Tr.nz_nd c,Tr.nz_nd b,Ws.nr_rs]
 |.for_ n w b r=>by simp only[Tr.nz,Tr.nd,Tr.nz_nd b,Ws.nw_ws,Ws.nr_rs]
 |.case_ w l r=>by simp only[Tr.nz,Tr.nd,Wd.nz_ps,Am.nz_nds l,Ws.nr_rs]
 |.fn n b=>by simp only[Tr.nz,Tr.nd,Tr.nz_nd b]
theorem Ts.nz_nds:∀l:Ts,l.nz.nds=l.nds
 |.nil=>by simp only[Ts.nz]
 |.cons x r=>by simp only[Ts.nz,Ts.nds,Tr.nz_nd x,Ts.nz_nds r]
theorem Am.nz_nds:∀l:Am,l.nz.nds=l.nds
 |.nil=>by simp only[Am.nz]
 |.cons w b r=>by simp only[Am.nz,Am.nds,Tr.nz_nd b,Am.nz_nds r,Ws.nw_ws]
end
theorem zp:∀t:Tr,t.lst1->t.nz.lst1
 |.lst (.cons x r),_=>by simp only[Tr.nz,Ts.nz];trivial
mutual
theorem Wd.nz_ok:∀w:Wd,w.ok->w.nz.ok
 |.nil,h=>by simp only[Wd.nz,Wd.ok]
 |.lit p r,h=>by simp only[Wd.nz,Wd.ok]at h |-;exact⟨h.1,Wd.nz_ok r h.2⟩
 |.sub p t r,h=>by
  simp only[Wd.nz,Wd.ok]at h |-
  obtain⟨h1,⟨l,h2,h3,ts,rfl⟩,h4,h5⟩:=h;exact⟨h1,⟨l,h2,by rw[Tr.nz_nd];exact h3,ts.nz,by simp only[Tr.nz]⟩,Tr.nz_ok _ h4,Wd.nz_ok r h5⟩
 |.bad p f r,h=>by simp only[Wd.nz,Wd.ok]at h |-;exact⟨h.1,h.2.1,Wd.nz_ok r h.2.2⟩
theorem Ws.nz_ok:∀w:Ws,w.ok->w.nw.ok/\w.na.ok/\w.nr.ok
 |.nil,h=>by simp only[Ws.nw,Ws.na,Ws.nr,Ws.ok];exact⟨trivial,trivial,trivial⟩
 |.cons g w r,h=>by
  simp only[Ws.nw,Ws.na,Ws.nr,Ws.ok]at h |-
  obtain⟨h1,h2,h3⟩:=Ws.nz_ok r h.2;exact⟨⟨Wd.nz_ok w h.1,h1⟩,⟨Wd.nz_ok w h.1,h2⟩,⟨Wd.nz_ok w h.1,h3⟩⟩
theorem Tr.nz_ok:∀t:Tr,t.ok->t.nz.ok
 |.simple a w r,h=>by simp only[Tr.nz,Tr.ok]at h |-;exact⟨(Ws.nz_ok a h.1).2.1,(Ws.nz_ok w h.2.1).1,(Ws.nz_ok r h.2.2).2.2⟩
 |.pipe g l,h=>by simp only[Tr.nz,Tr.ok]at h |-;exact⟨Ts.nz_ok l h.1,by rw[Ts.nz_nds];exact h.2⟩
 |.ao o x y,h=>by simp only[Tr.nz,Tr.ok]at h |-;exact⟨Tr.nz_ok x h.1,Tr.nz_ok y h.2⟩
 |.lst l,h=>by simp only[Tr.nz,Tr.ok]at h |-;exact Ts.nz_ok l h
 |.back x,h=>by simp only[Tr.nz,Tr.ok]at h |-;exact Tr.nz_ok x h
 |.sub x r,h=>by simp only[Tr.nz,Tr.ok]at h |-;exact⟨Tr.nz_ok x h.1,(Ws.nz_ok r h.2).2.2⟩
 |.grp x r,h=>by simp only[Tr.nz,Tr.ok]at h |-;exact⟨Tr.nz_ok x h.1,(Ws.nz_ok r h.2).2.2⟩
 |.iff c t r,h=>by simp only[Tr.nz,Tr.ok]at h |-;exact⟨Tr.nz_ok c h.1,Tr.nz_ok t h.2.1,(Ws.nz_ok r h.2.2).2.2⟩
 |.ife c t e r,h=>by simp only[Tr.nz,Tr.ok]at h |-;exact⟨Tr.nz_ok c h.1,Tr.nz_ok t h.2.1,Tr.nz_ok e h.2.2.1,(Ws.nz_ok r h.2.2.2).2.2⟩
 |.loop u c b r,h=>by simp only[Tr.nz,Tr.ok]at h |-;exact⟨⟨Tr.nz_ok c h.1.1,zp c h.1.2⟩,Tr.nz_ok b h.2.1,(Ws.nz_ok r h.2.2).2.2⟩
 |.for_ n w b r,h=>by simp only[Tr.nz,Tr.ok]at h |-;exact⟨(Ws.nz_ok w h.1).1,Tr.nz_ok b h.2.1,(Ws.nz_ok r h.2.2).2.2⟩
 |.case_ w l r,h=>by simp only[Tr.nz,Tr.ok]at h |-;exact⟨Wd.nz_ok w h.1,Am.nz_ok l h.2.1,(Ws.nz_ok r h.2.2).2.2⟩
 |.fn n b,h=>by simp only[Tr.nz,Tr.ok]at h |-;exact Tr.nz_ok b h
theorem Ts.nz_ok:∀l:Ts,l.ok->l.nz.ok
 |.nil,h=>by simp only[Ts.nz,Ts.ok]
 |.cons x r,h=>by simp only[Ts.nz,Ts.ok]at h |-;exact⟨Tr.nz_ok x h.1,Ts.nz_ok r h.2⟩
theorem Am.nz_ok:∀l:Am,l.ok->l.nz.ok
 |.nil,h=>by simp only[Am.nz,Am.ok]
 |.cons w b r,h=>by simp only[Am.nz,Am.ok]at h |-;exact⟨(Ws.nz_ok w h.1).1,Tr.nz_ok b h.2.1,Am.nz_ok r h.2.2⟩
end
mutual
theorem Wd.nz_tg:∀w:Wd,w.nz.tg
 |.nil=>by simp only[Wd.nz,Wd.tg]
 |.lit p r=>by simp only[Wd.nz,Wd.tg];exact Wd.nz_tg r
 |.sub p t r=>by simp only[Wd.nz,Wd.tg];exact⟨Tr.nz_tg t,Wd.nz_tg r⟩
 |.bad p f r=>by simp only[Wd.nz,Wd.tg];exact Wd.nz_tg r
theorem Ws.nz_tg:∀w:Ws,w.nw.tg/\w.na.tg/\w.nr.tg
 |.nil=>by grind[Ws.nw,Ws.na,Ws.nr,Ws.tg]
 |.cons g w r=>by
  simp only[Ws.nw,Ws.na,Ws.nr,Ws.tg];obtain⟨h1,h2,h3⟩:=Ws.nz_tg r;simp_all[Wd.nz_tg]
theorem Tr.nz_tg:∀t:Tr,t.nz.tg
 |.simple a w r=>by simp_all[Tr.nz,Tr.tg,Ws.nz_tg,Ws.na_t,Ws.nw_t,Ws.nr_t]
 |.pipe g l=>by simp_all[Tr.nz,Tr.tg,Ts.nz_tg]
 |.ao o x y=>by simp only[Tr.nz,Tr.tg];exact⟨Tr.nz_tg x,Tr.nz_tg y⟩
 |.lst l=>by simp_all[Tr.nz,Tr.tg,Ts.nz_tg]
 |.back x=>by simp only[Tr.nz,Tr.tg];exact Tr.nz_tg x
 |.sub x r=>by simp only[Tr.nz,Tr.tg];exact⟨Tr.nz_tg x,(Ws.nz_tg r).2.2,Ws.nr_t r⟩
 |.grp x r=>by simp only[Tr.nz,Tr.tg];exact⟨Tr.nz_tg x,(Ws.nz_tg r).2.2,Ws.nr_t r⟩
 |.iff c t r=>by simp only[Tr.nz,Tr.tg];exact⟨⟨Tr.nz_tg c,Tr.nz_tg t⟩,(Ws.nz_tg r).2.2,Ws.nr_t r⟩
 |.ife c t e r=>by simp only[Tr.nz,Tr.tg];exact⟨⟨Tr.nz_tg c,Tr.nz_tg t,Tr.nz_tg e⟩,(Ws.nz_tg r).2.2,Ws.nr_t r⟩
 |.loop u c b r=>by simp only[Tr.nz,Tr.tg];exact⟨⟨Tr.nz_tg c,Tr.nz_tg b⟩,(Ws.nz_tg r).2.2,Ws.nr_t r⟩
 |.for_ n w b r=>by simp only[Tr.nz,Tr.tg];exact⟨⟨⟨(Ws.nz_tg w).1,Ws.nw_t w⟩,Tr.nz_tg b⟩,(Ws.nz_tg r).2.2,Ws.nr_t r⟩
 |.case_ w l r=>by simp_all[Tr.nz,Tr.tg,Wd.nz_tg,Am.nz_tg,Ws.nz_tg,Ws.nr_t]
 |.fn n b=>by simp only[Tr.nz,Tr.tg];exact Tr.nz_tg b
theorem Ts.nz_tg:∀l:Ts,l.nz.tg
 |.nil=>by simp only[Ts.nz,Ts.tg]
 |.cons x r=>by simp only[Ts.nz,Ts.tg];exact⟨Tr.nz_tg x,Ts.nz_tg r⟩
theorem Am.nz_tg:∀l:Am,l.nz.tg
 |.nil=>by simp only[Am.nz,Am.tg]
 |.cons w b r=>by simp only[Am.nz,Am.tg];exact⟨⟨(Ws.nz_tg w).1,Ws.nw_t w⟩,Tr.nz_tg b,Am.nz_tg r⟩
end
end
end Go.Proofs.YtgboffbbpmileaaGreatDoor
