/- Lemmas and walks for the law VLawPSound (part 2). -/
import Derived.Test.YtgboffbbpmileaaGreatDoorPx1
import Derived.Laws.AppendOwn
import Derived.Test.YtgboffbbpmileaaGreatDoorProg
import Derived.WalkKit
import Derived.Handy
import Derived.Deep.Light
import Derived.WalkSmall
import Derived.StillTailTactics
import Derived.Lib.Hide
import Derived.Lib.Bytealg
import Derived.Lib.ItoaNum
import Derived.Lib.AtoiAll
import Derived.Lib.ItoaLen
import Derived.IntWalk
import Derived.WalkLawsBesides
set_option maxRecDepth 20000
set_option maxHeartbeats 4000000
set_option linter.unusedVariables false
set_option linter.unusedSimpArgs false
namespace Go.Proofs.YtgboffbbpmileaaGreatDoor
open Go Go.RowKit
section
def mi(v:Value)(L:List (Nat×Obj)):Prop:=∀g,v.ownBlock=some g->g∉L.map (·.1)
section
variable {P:Program} {w w':World} {base n:Nat} {e:TypeId} {size:Nat} {v:Value} {xs:List Value} {X:List Nat} {w0:World} {L:List (Nat×Obj)}
theorem vh(h:w.ownsRow base e size v n xs){g:Nat}(hg:v.ownBlock=some g):g<w.heap.size/\base<=g:=by
 obtain⟨hl,⟨rfl,_⟩|⟨g',cap,cur,rfl,e2,e3,e4⟩⟩:=h
 ·cases hg
 ·obtain rfl:g'=g:=Option.some.inj hg
  grind
theorem ju{row:Option Nat}(h:Kn X w0 w L)(hg:w.grownBy w' row)(hrow:∀g,row=some g->(w0.heap.size<=g\/g∈X)/\g∉L.map (·.1)):Kn X w0 w' L:=
 ⟨hg.os.trans h.os,hg.tape.trans h.tape,hg.output.trans h.output,Nat.le_trans h.size hg.size,
  fun b hb hx=>(hg.block b (Nat.lt_of_lt_of_le hb h.size) (fun e=>by grind)).trans (h.block b hb hx),h.own,
  fun p hp=>(hg.block p.1 (h.lt hp) (fun e=>(hrow p.1 e.symm).2 (List.mem_map_of_mem hp))).trans (h.has p hp),h.nd⟩
theorem bi(base:Nat)(t ty e:TypeId)(i:TypeInfo)(z:Value)(ht:P.underlying t=some (.slice e))(hi:P.info? e=some i)(hz:i.zero=some z)
  (hzs:z.cells.size=i.size) (hsz:0<i.size)
  (v:Value) (n:Nat) (xs:List Value) (hown:w.ownsRow base e i.size v n xs)
  (a:Addr) (m c:Nat) (news:List Value) (hl:news.length=m*i.size) (hnews:∀j u,news[j]? =some u->w.cell? (a.add j)=some u) (h1:∀u∈news,u.oneCell'=true)
  (h63:n+m<=maxLen) (hbytes:(n+m)*i.bytes<=140737488355328) (hbase:base<=w.heap.size):
  ∃v' w',(Builtin.append_ #[t,t] ty #[v,.slice (some a) m c]).run P w=.ok v' w'/\w'.ownsRow base e i.size v' (n+m) (xs++news)/\w.grownBy w' v.ownBlock/\(v'.ownBlock=v.ownBlock\/v'.ownBlock=some w.heap.size):=by
 have hsmall:n+m<=9223372036854775807:=by simp only[maxLen]at h63;omega
 obtain⟨v',w',hr,h2,h3,h4⟩:=run_append_own (P:=P) w base t ty e i z i.size i.bytes ht hi hz rfl rfl hzs hsz v n xs hown a m c news hl hnews h1 h63 hbytes hbase
 refine⟨v',w',hr,h2,h3,?_⟩
 rcases hown.2 with⟨rfl,rfl⟩|⟨g,cap,cur,rfl,hbg,hg,hnc,hcm,hcs,htake⟩
 ·by_cases hm:m=0
  ·grind
  ·have hr':=run_append_nil (P:=P) w t ty e i z ht hi hz a m c news hl hnews (by omega) (by omega) (by grind)
   rw[hr]at hr';injection hr' with e1 e2
   right;rw[e1];rfl
 ·by_cases hroom:n+m<=cap
  ·have hfit:n*i.size+news.length<=cur.size:=by rw[hl,hcs,<- Nat.add_mul];exact Nat.mul_le_mul_right _ hroom
   have hr':=run_append_room (P:=P) w t ty e i ht hi g n cap cur hg a m c news hl hnews h1 hroom hfit;rw[hr]at hr';injection hr' with e1 e2
   left;rw[e1];rfl
  ·have holds:∀j u,xs[j]? =some u->w.cell? ((⟨g,0,none⟩:Addr).add j)=some u:=hown.cells (g:=g) rfl
   have hr':=run_append_grow (P:=P) w t ty e i z ht hi hz ⟨g,0,none⟩ n cap xs hown.1 holds a m c news hl hnews (by omega) (by omega) (growslice_fits (by omega) hbytes);rw[hr]at hr';injection hr' with e1 e2
   right;rw[e1];rfl
theorem ll{o:Oper}{a:Act}{K:Act->World->Prop}{Q:Exit->Act->World->Prop}(s x:Operand)(t:TypeId)
  (ho:o.op=.call {callee:=.builtin .append,args:=#[s,x],argTypes:=#[t,t]})
  (e:TypeId) (i:TypeInfo) (z:Value) (ht:P.underlying t=some (.slice e)) (hi:P.info? e=some i) (hz:i.zero=some z) (hzs:z.cells.size=i.size) (hsz:0<i.size)
  (v:Value) (n:Nat) (xs:List Value) (hs:a.eval s=v) (hk:Kn X w0 w L) (hown:w.ownsRow w0.heap.size e i.size v n xs) (hf:mi v L)
  (ad:Addr) (m c:Nat) (news:List Value) (hx:a.eval x=.slice (some ad) m c) (hl:news.length=m*i.size) (hnews:∀j u,news[j]? =some u->w.cell? (ad.add j)=some u) (h1:∀u∈news,u.oneCell'=true)
  (h63:n+m<=maxLen) (hbytes:(n+m)*i.bytes<=140737488355328)
  (h:∀v' w',Kn X w0 w' L->w'.ownsRow w0.heap.size e i.size v' (n+m) (xs++news)->mi v' L->K (a.put o.dst v') w'):o.wp P a w K Q:=by
 obtain⟨v',w',hr,h2,h3,h4⟩:=bi (P:=P) w0.heap.size t o.type e i z ht hi hz hzs hsz v n xs hown ad m c news hl hnews h1 h63 hbytes hk.size
 unfold Oper.wp execOp
 simp only[ho,resolve,invoke,builtin,Sem.run_bind,Sem.run_pure,Result.andThen_ok,List.map_toArray,List.map_cons,List.map_nil,hs,hx,hr]
 refine h v' w' (ju hk h3 fun g hg=>⟨.inl (vh hown hg).2,hf g hg⟩) h2 fun g hg hm=>?_
 rcases h4 with e4|e4
 ·exact hf g (e4▸hg) hm
 ·have:g=w.heap.size:=Option.some.inj (hg.symm.trans e4)
  obtain⟨q,hq,rfl⟩:=List.mem_map.1 hm;have:=hk.lt hq;omega
theorem io{ops:Array Oper}{rest:List Oper}{o:Oper}{a:Act}{Q:Exit->Act->World->Prop}(hgd:o.guard=none)(s x:Operand)(t:TypeId)
  (ho:o.op=.call {callee:=.builtin .append,args:=#[s,x],argTypes:=#[t,t]})
  (e:TypeId) (i:TypeInfo) (z:Value) (ht:P.underlying t=some (.slice e)) (hi:P.info? e=some i) (hz:i.zero=some z) (hzs:z.cells.size=i.size) (hsz:0<i.size)
  (v:Value) (n:Nat) (xs:List Value) (hs:a.eval s=v) (hk:Kn X w0 w L) (hown:w.ownsRow w0.heap.size e i.size v n xs) (hf:mi v L)
  (ad:Addr) (m c:Nat) (news:List Value) (hx:a.eval x=.slice (some ad) m c) (hl:news.length=m*i.size) (hnews:∀j u,news[j]? =some u->w.cell? (ad.add j)=some u) (h1:∀u∈news,u.oneCell'=true)
  (h63:n+m<=maxLen) (hbytes:(n+m)*i.bytes<=140737488355328)
  (h:∀v' w',Kn X w0 w' L->w'.ownsRow w0.heap.size e i.size v' (n+m) (xs++news)->mi v' L->wpList P ops Q rest (a.put o.dst v') w'):wpList P ops Q (o::rest) a w:=
 wpList_plain hgd fun _ hK=>ll s x t ho e i z ht hi hz hzs hsz v n xs hs hk hown hf ad m c news hx hl hnews h1 h63 hbytes fun v' w' h1 h2 h3=>hK _ _ (h v' w' h1 h2 h3)
end
structure RowB (z:Nat) (cur:Array Value) (cap n:Nat) (xs:List Value):Prop where
 size:cur.size=cap*z
 le:n<=cap
 capm:cap<=maxLen
 take:cur.toList.take (n*z)=xs
 len:xs.length=n*z
theorem RowB.get{z:Nat}{cur:Array Value}{cap n:Nat}{xs:List Value}(h:RowB z cur cap n xs){k:Nat}{x:Value}(hk:xs[k]? =some x):cur[k]? =some x:=by
 rw[<- h.take,List.getElem?_take]at hk
 grind
theorem RowB.set{z:Nat}{cur:Array Value}{cap n:Nat}{xs:List Value}(h:RowB z cur cap n xs)(k:Nat)(x:Value):RowB z (cur.setIfInBounds k x) cap n (xs.set k x):=
 ⟨by simp[h.size],h.le,h.capm,by rw[<- h.take,Array.toList_setIfInBounds,List.take_set],by simp[h.len]⟩
section
variable {P:Program} {w w':World} {e:TypeId} {z n:Nat} {v:Value} {xs:List Value} {X:List Nat} {w0:World} {L:List (Nat×Obj)}
theorem vi(h:Kn X w0 w L)(ho:w.ownsRow w0.heap.size e z v n xs)(hf:mi v L):(v=.slice none 0 0/\n=0/\xs=[])\/
  ∃g cap cur,v=.slice (some ⟨g,0,none⟩) n cap/\w0.heap.size<=g/\Kn X w0 w ((g,.cells cur e (0,0))::L)/\RowB z cur cap n xs:=by
 obtain⟨hl,⟨rfl,rfl⟩|⟨g,cap,cur,rfl,hg,hc,h1,h2,h3,h4⟩⟩:=ho
 ·grind
 ·right
  refine⟨g,cap,cur,rfl,hg,⟨h.os,h.tape,h.output,h.size,h.block,fun p hp=>?_,fun p hp=>?_,?_⟩,⟨h3,h1,h2,h4,hl⟩⟩
  ·rcases List.mem_cons.1 hp with rfl|hp
   ·omega
   ·exact h.own p hp
  ·rcases List.mem_cons.1 hp with rfl|hp
   ·exact hc
   ·exact h.has p hp
  ·rw[List.map_cons,List.nodup_cons]
   exact⟨hf g rfl,h.nd⟩
theorem kD{L:List (Nat×Obj)}(nd:(L.map (·.1)).Nodup){i:Nat}{g:Nat}{o:Obj}(hi:L[i]? =some (g,o)):g∉(L.eraseIdx i).map (·.1):=by
 intro hm
 obtain⟨hil,hie⟩:=List.getElem?_eq_some_iff.1 hi
 obtain⟨p,hp,e⟩:=List.mem_map.1 hm
 obtain⟨j,hj,hje⟩:=List.mem_iff_getElem.1 hp
 have hL:∃m,m≠i/\∃hm:m<L.length,L[m]=p:=by
  grind
 obtain⟨m,hmi,hm,hme⟩:=hL
 have h1:(L.map (·.1))[m]'(by grind)=(L.map (·.1))[i]'(by grind):=by grind
 exact hmi ((List.getElem_inj nd).1 h1)
theorem Kn.erase(h:Kn X w0 w L)(i:Nat):Kn X w0 w (L.eraseIdx i):=h.sub (List.eraseIdx_sublist L i)
theorem jv{o:Oper}{a:Act}{K:Act->World->Prop}{Q:Exit->Act->World->Prop}(s x:Operand)(t:TypeId)
  (ho:o.op=.call {callee:=.builtin .append,args:=#[s,x],argTypes:=#[t,t]})
  (e:TypeId) (i:TypeInfo) (zv:Value) (ht:P.underlying t=some (.slice e)) (hi:P.info? e=some i) (hz:i.zero=some zv) (hzs:zv.cells.size=i.size) (hsz:0<i.size)
  (hk:Kn X w0 w L) (j g cap n:Nat) (cur:Array Value) (xs:List Value) (hj:L[j]? =some (g,.cells cur e (0,0))) (hr:RowB i.size cur cap n xs) (hs:a.eval s=.slice (some ⟨g,0,none⟩) n cap)
  (ad:Addr) (m c:Nat) (news:List Value) (hx:a.eval x=.slice (some ad) m c) (hl:news.length=m*i.size) (hnews:∀j u,news[j]? =some u->w.cell? (ad.add j)=some u) (h1:∀u∈news,u.oneCell'=true)
  (h63:n+m<=maxLen) (hbytes:(n+m)*i.bytes<=140737488355328) (hpos:0<n+m)
  (h:∀g' cap' cur' w',Kn X w0 w' ((g',.cells cur' e (0,0))::L.eraseIdx j)->RowB i.size cur' cap' (n+m) (xs++news)->K (a.put o.dst (.slice (some ⟨g',0,none⟩) (n+m) cap')) w'):o.wp P a w K Q:=by
 have hm:=List.mem_of_getElem? hj
 have hgo:=hk.own _ hm
 have hown:w.ownsRow 0 e i.size (.slice (some ⟨g,0,none⟩) n cap) n xs:=⟨hr.len,.inr ⟨g,cap,cur,rfl,Nat.zero_le _,hk.has _ hm,hr.le,hr.capm,hr.size,hr.take⟩⟩
 obtain⟨v',w',hrun,h2,h3,h4⟩:=bi (P:=P) 0 t o.type e i zv ht hi hz hzs hsz _ n xs hown ad m c news hl hnews h1 h63 hbytes (Nat.zero_le _)
 have hK:Kn X w0 w' (L.eraseIdx j):=ju (hk.erase j) h3 fun g' hg'=>by
  obtain rfl:g=g':=Option.some.inj hg';exact⟨hgo,kD hk.nd hj⟩
 unfold Oper.wp execOp
 simp only[ho,resolve,invoke,builtin,Sem.run_bind,Sem.run_pure,Result.andThen_ok,List.map_toArray,List.map_cons,List.map_nil,hs,hx,hrun]
 obtain⟨hl2,⟨_,h0⟩|⟨g',cap',cur',rfl,_,hc,k1,k2,k3,k4⟩⟩:=h2
 ·omega
 ·refine h g' cap' cur' w' ⟨hK.os,hK.tape,hK.output,hK.size,hK.block,fun p hp=>?_,fun p hp=>?_,?_⟩ ⟨k3,k1,k2,k4,hl2⟩
  ·rcases List.mem_cons.1 hp with rfl|hp
   ·rcases h4 with h4|h4
    ·obtain rfl:g'=g:=Option.some.inj h4
     exact hgo
    ·obtain rfl:g'=w.heap.size:=Option.some.inj h4
     exact .inl hk.size
   ·exact hK.own p hp
  ·rcases List.mem_cons.1 hp with rfl|hp
   ·exact hc
   ·exact hK.has p hp
  ·rw[List.map_cons,List.nodup_cons]
   refine⟨fun hm2=>?_,hK.nd⟩;rcases h4 with h4|h4
   ·obtain rfl:g'=g:=Option.some.inj h4
    exact kD hk.nd hj hm2
   ·obtain rfl:g'=w.heap.size:=Option.some.inj h4
    obtain⟨q,hq,e2⟩:=List.mem_map.1 hm2;have:=(hk.erase j).lt hq;omega
theorem aU{ops:Array Oper}{rest:List Oper}{o:Oper}{a:Act}{Q:Exit->Act->World->Prop}(hgd:o.guard=none)(s x:Operand)(t:TypeId)
  (ho:o.op=.call {callee:=.builtin .append,args:=#[s,x],argTypes:=#[t,t]})
  (e:TypeId) (i:TypeInfo) (zv:Value) (ht:P.underlying t=some (.slice e)) (hi:P.info? e=some i) (hz:i.zero=some zv) (hzs:zv.cells.size=i.size) (hsz:0<i.size)
  (hk:Kn X w0 w L) (j g cap n:Nat) (cur:Array Value) (xs:List Value) (hj:L[j]? =some (g,.cells cur e (0,0))) (hr:RowB i.size cur cap n xs) (hs:a.eval s=.slice (some ⟨g,0,none⟩) n cap)
  (ad:Addr) (m c:Nat) (news:List Value) (hx:a.eval x=.slice (some ad) m c) (hl:news.length=m*i.size) (hnews:∀j u,news[j]? =some u->w.cell? (ad.add j)=some u) (h1:∀u∈news,u.oneCell'=true)
  (h63:n+m<=maxLen) (hbytes:(n+m)*i.bytes<=140737488355328) (hpos:0<n+m)
  (h:∀g' cap' cur' w',Kn X w0 w' ((g',.cells cur' e (0,0))::L.eraseIdx j)->RowB i.size cur' cap' (n+m) (xs++news)->wpList P ops Q rest (a.put o.dst (.slice (some ⟨g',0,none⟩) (n+m) cap')) w'):wpList P ops Q (o::rest) a w:=
 wpList_plain hgd fun _ hK=>jv s x t ho e i zv ht hi hz hzs hsz hk j g cap n cur xs hj hr hs ad m c news hx hl hnews h1 h63 hbytes hpos fun g' cap' cur' w' h1 h2=>hK _ _ (h g' cap' cur' w' h1 h2)
def RowL(z:Nat)(e:TypeId)(LP:List (Nat×Obj))(v:Value)(n:Nat)(xs:List Value):Prop:=
 (LP=[]/\v=.slice none 0 0/\n=0/\xs=[])\/∃g cap cur,LP=[(g,.cells cur e (0,0))]/\v=.slice (some ⟨g,0,none⟩) n cap/\RowB z cur cap n xs
theorem bE{ops:Array Oper}{rest:List Oper}{o:Oper}{a:Act}{Q:Exit->Act->World->Prop}(hgd:o.guard=none)(s x:Operand)(t:TypeId)
  (ho:o.op=.call {callee:=.builtin .append,args:=#[s,x],argTypes:=#[t,t]})
  (e:TypeId) (i:TypeInfo) (zv:Value) (ht:P.underlying t=some (.slice e)) (hi:P.info? e=some i) (hz:i.zero=some zv) (hzs:zv.cells.size=i.size) (hsz:0<i.size)
  (hk:Kn X w0 w L) (hs:a.eval s=.slice none 0 0)
  (ad:Addr) (m c:Nat) (news:List Value) (hx:a.eval x=.slice (some ad) m c) (hl:news.length=m*i.size) (hnews:∀j u,news[j]? =some u->w.cell? (ad.add j)=some u) (h1:∀u∈news,u.oneCell'=true)
  (h63:m<=maxLen) (hbytes:m*i.bytes<=140737488355328) (hpos:0<m)
  (h:∀g' cap' cur' w',Kn X w0 w' ((g',.cells cur' e (0,0))::L)->w0.heap.size<=g'->RowB i.size cur' cap' m news->wpList P ops Q rest (a.put o.dst (.slice (some ⟨g',0,none⟩) m cap')) w'):wpList P ops Q (o::rest) a w:=by
 refine io hgd s x t ho e i zv ht hi hz hzs hsz _ 0 [] hs hk ⟨by simp,.inl ⟨rfl,rfl⟩⟩ (fun g hg=>by cases hg) ad m c news hx hl hnews h1 (by omega) (by grind) fun v' w' h7 h8 h9=>?_
 grind[vi]
theorem RowL.nil:RowL z e [] (.slice none 0 0) 0 []:=.inl ⟨rfl,rfl,rfl,rfl⟩
end
abbrev keys(P:List (Nat×Obj)):List Nat:=P.map (·.1)
theorem Kn.self{X:List Nat}{w0 W:World}{P:List (Nat×Obj)}(A R:List (Nat×Obj))(h:Kn X w0 W (A++(P++R))):Kn (keys P) W W P:=
 ⟨rfl,rfl,rfl,Nat.le_refl _,fun _ _ _=>rfl,fun p hp=>.inr (List.mem_map.2 ⟨p,hp,rfl⟩),fun p hp=>h.has p (List.mem_append_right _ (List.mem_append_left _ hp)),
  h.nd.sublist (((List.sublist_append_left P R).trans (List.sublist_append_right A _)).map _)⟩
theorem Kn.joinA{X:List Nat}{w0 W W':World}{P P':List (Nat×Obj)}(A R:List (Nat×Obj))(h:Kn X w0 W (A++(P++R)))(k:Kn (keys P) W W' P'):Kn X w0 W' (A++(P'++R)):=by
 have nd:=h.nd
 simp only[List.map_append,List.nodup_append]at nd
 obtain⟨ndA,⟨ndP,ndR,dPR⟩,dA⟩:=nd
 have hPin:∀q∈P,q∈A++(P++R):=fun q hq=>List.mem_append_right _ (List.mem_append_left _ hq)
 have keep:∀p∈A++(P++R),p.1∉keys P->W'.heap[p.1]? =some p.2:=fun p hp hn=>(k.block p.1 (h.lt hp) hn).trans (h.has p hp)
 have nA:∀p∈A,p.1∉keys P:=fun p hp hm=>dA p.1 (List.mem_map.2 ⟨p,hp,rfl⟩) p.1 (List.mem_append_left _ hm) rfl
 have nR:∀p∈R,p.1∉keys P:=fun p hp hm=>dPR p.1 hm p.1 (List.mem_map.2 ⟨p,hp,rfl⟩) rfl
 have own':∀p∈P',w0.heap.size<=p.1\/p.1∈X:=fun p hp=>by
  rcases k.own p hp with e|e
  ·exact .inl (Nat.le_trans h.size e)
  ·obtain⟨q,hq,e2⟩:=List.mem_map.1 e
   rw[<- e2];exact h.own q (hPin q hq)
 have far:∀q∈A++(P++R),q.1∉keys P->∀p∈P',p.1≠q.1:=fun q hq hn p hp e=>by
  rcases k.own p hp with e1|e1
  ·have:=h.lt hq;omega
  ·exact hn (e▸e1)
 refine⟨k.os.trans h.os,k.tape.trans h.tape,k.output.trans h.output,Nat.le_trans h.size k.size,fun b hb hx=>?_,fun p hp=>?_,fun p hp=>?_,?_⟩
 ·rw[k.block b (Nat.lt_of_lt_of_le hb h.size) fun hm=>?_,h.block b hb hx]
  obtain⟨q,hq,e⟩:=List.mem_map.1 hm;rcases h.own q (hPin q hq)with e1|e1
  ·omega
  ·exact hx (e▸e1)
 ·rcases List.mem_append.1 hp with hp|hp
  ·exact h.own p (List.mem_append_left _ hp)
  rcases List.mem_append.1 hp with hp|hp
  ·exact own' p hp
  ·exact h.own p (List.mem_append_right _ (List.mem_append_right _ hp))
 ·rcases List.mem_append.1 hp with hp|hp
  ·exact keep p (List.mem_append_left _ hp) (nA p hp)
  rcases List.mem_append.1 hp with hp|hp
  ·exact k.has p hp
  ·exact keep p (List.mem_append_right _ (List.mem_append_right _ hp)) (nR p hp)
 ·simp only[List.map_append,List.nodup_append]
  refine⟨ndA,⟨k.nd,ndR,fun a ha b hb e=>?_⟩,fun a ha b hb e=>?_⟩
  ·obtain⟨p,hp,rfl⟩:=List.mem_map.1 ha
   obtain⟨q,hq,rfl⟩:=List.mem_map.1 hb;exact far q (List.mem_append_right _ (List.mem_append_right _ hq)) (nR q hq) p hp e
  ·obtain⟨q,hq,rfl⟩:=List.mem_map.1 ha
   rcases List.mem_append.1 hb with hb|hb
   ·obtain⟨p,hp,rfl⟩:=List.mem_map.1 hb
    exact far q (List.mem_append_left _ hq) (nA q hq) p hp e.symm
   ·exact dA q.1 (List.mem_map.2 ⟨q,hq,rfl⟩) b (List.mem_append_right _ hb) e
theorem Kn.pick{X:List Nat}{w0 w:World}{L L':List (Nat×Obj)}(h:Kn X w0 w L)(hm:∀p∈L',p∈L)(nd:(keys L').Nodup):Kn X w0 w L':=
 ⟨h.os,h.tape,h.output,h.size,h.block,fun p hp=>h.own p (hm p hp),fun p hp=>h.has p (hm p hp),nd⟩
abbrev ab:=List UInt8
structure Prt where
 k:Nat
 t:ab
 q:Bool
 deriving DecidableEq
structure Tok where
 kind:Nat
 text:ab
 plain:ab
 parts:List Prt
 fd:Int
 line:Nat
 deriving DecidableEq
inductive R (α:Type) where
 |ok (a:α)
 |bad (line:Nat)
def lf(l:ab):Nat:=l.count 10
def de(c:UInt8):Bool:=c==95||(97<=c.toNat&&c.toNat<=122)||(65<=c.toNat&&c.toNat<=90)
def bF(c:UInt8):Bool:=48<=c.toNat&&c.toNat<=57
def bJ:ab->Nat
 | []=>0
 |c::t=>if de c||bF c then bJ t+1 else 0
def named:ab->Nat
 | []=>0
 |c::t=>if de c then bJ t+1 else 0
def ed(c:UInt8):Bool:=bF c||c==35||c==63||c==36||c==33||c==64||c==42
def bj(s:ab):Nat:=match named s with
 |n+1=>n+1
 |0=>match s with
  | []=>0
  |c::_=>if ed c then 1 else 0
def brk(c:UInt8):ab->Option (ab×ab)
 | []=>none
 |d::t=>if d=c then some ([],t)else(brk c t).map fun x=>(d::x.1,x.2)
def aM:Nat->Option Nat->ab->Option (ab×ab)
 |0,_,_=>none
 |_+1,_,[]=>none
 |f+1,some d,c::t=>
  if c=92 then(match t with
   | []=>none
   |e::t=>(aM f (some d) t).map fun x=>(92::e::x.1,x.2))
  else if c=39 then(brk 39 t).bind fun y=>(aM f (some d) y.2).map fun x=>(39::(y.1++39::x.1),x.2)
  else if c=34 then(aM f none t).bind fun y=>(aM f (some d) y.2).map fun x=>(34::(y.1++34::x.1),x.2)
  else if c=40 then(aM f (some (d+1)) t).map fun x=>(40::x.1,x.2)
  else if c=41 then(if d=1 then some ([],t)else(aM f (some (d-1)) t).map fun x=>(41::x.1,x.2))
  else(aM f (some d) t).map fun x=>(c::x.1,x.2)
 |f+1,none,c::t=>
  if c=34 then some ([],t)
  else if c=92 then(match t with
   | []=>none
   |e::t=>(aM f none t).map fun x=>(92::e::x.1,x.2))
  else if c=36/\t.head? =some 40 then(aM f (some 1) (t.drop 1)).bind fun y=>(aM f none y.2).map fun x=>(36::40::(y.1++41::x.1),x.2)
  else(aM f none t).map fun x=>(c::x.1,x.2)
def dm(s:ab):Option (ab×ab):=aM (s.length+1) (some 1) s
def addT:List Prt->ab->Bool->List Prt
 | [],s,q=>[⟨0,s,q⟩]
 | [p],s,q=>if p.k=0/\p.q=q then [⟨0,p.t++s,q⟩]else [p,⟨0,s,q⟩]
 |p::ps,s,q=>p::addT ps s q
abbrev St:=List Prt×ab×Nat
def au(ps:List Prt)(s:ab)(n:Nat)(q:Bool):R St:=
 if s.head? =some 40 then(match dm (s.drop 1)with
  |none=>.bad n
  |some (a,r)=>.ok (ps++[⟨2,a,q⟩],r,n+lf a))
 else if s.head? =some 123 then(match brk 125 (s.drop 1)with
  |none=>.bad n
  |some (a,r)=>if a=[]\/bj a≠a.length then .bad n else .ok (ps++[⟨1,a,q⟩],r,n))
 else if 0<bj s then .ok (ps++[⟨1,s.take (bj s),q⟩],s.drop (bj s),n)
 else .ok (addT ps [36] true,s,n)
def esc(c:UInt8):Bool:=c==34||c==36||c==92
def a_:Nat->Nat->St->R St
 |0,n0,_=>.bad n0
 |f+1,n0,(ps,l,n)=>match l with
  | []=>.bad n0
  |c::t=>
   if c=34 then .ok (ps,t,n)
   else if c=36 then(match au ps t n true with
    |.bad m=>.bad m
    |.ok x=>a_ f n0 x)
   else if c=92 then(match t with
    |d::r=>if esc d then a_ f n0 (addT ps [d] true,r,n)else a_ f n0 (addT ps [92] true,t,n)
    | []=>a_ f n0 (addT ps [92] true,t,n))
   else a_ f n0 (addT ps [c] true,t,n+lf [c])
def aV(ps:List Prt)(c:UInt8)(t:ab)(n:Nat):R St:=
 if c=39 then(match brk 39 t with
  |none=>.bad n
  |some (a,r)=>.ok (addT ps a true,r,n+lf a))
 else if c=34 then a_ (t.length+1) n (addT ps [] true,t,n)
 else if c=92 then(match t with
  | []=>.ok (addT ps [92] true,[],n)
  |d::r=>if d=10 then .ok (ps,r,n+1)else .ok (addT ps [d] true,r,n))
 else if c=36 then au ps t n false
 else .ok (addT ps [c] false,t,n)
def ends(c:UInt8):Bool:=c==32||c==9||c==10||c==124||c==38||c==59||c==40||c==41||c==60||c==62
def word:Nat->St->R St
 |0,x=>.ok x
 |f+1,(ps,l,n)=>match l with
  | []=>.ok (ps,[],n)
  |c::t=>if ends c then .ok (ps,l,n)else match aV ps c t n with
   |.bad m=>.bad m
   |.ok x=>word f x
def bn:List Prt->ab
 | [p]=>if p.k=0/\p.q=false then p.t else []
 |_=>[]
def cO(s:ab):Option Int:=match s with
 | [a]=>if bF a then some ((a.toNat:Int)-48)else none
 | [a,b]=>if bF a&&bF b then some (((a.toNat:Int)-48)*10+((b.toNat:Int)-48))else none
 |_=>none
inductive Step where
 |skip (rest:ab) (line:Nat)
 |tok (t:Tok) (rest:ab) (line:Nat)
 |bad (line:Nat)
def opT(text:ab)(n:Nat):Tok:=⟨1,text,[],[],-1,n⟩
def ioT(text:ab)(fd:Int)(n:Nat):Tok:=⟨2,text,[],[],fd,n⟩
def ioS(l:ab)(fd:Int)(n0 n:Nat):Step:=
 if l.take 2=[62,62]\/l.take 2=[62,38]then .tok (ioT (l.take 2) fd n0) (l.drop 2) n else .tok (ioT (l.take 1) fd n0) (l.drop 1) n
def ba(c:UInt8)(t:ab)(n:Nat):Step:=
 if c=32\/c=9 then .skip t n
 else if c=35 then .skip (t.dropWhile (· != 10)) n
 else if c=10 then .tok ⟨3,[],[],[],-1,n⟩ t (n+1)
 else if c=124\/c=38\/c=59 then(if t.head? =some c then .tok (opT [c,c] n) (t.drop 1) n else .tok (opT [c] n) t n)
 else if c=40\/c=41 then .tok (opT [c] n) t n
 else if c=60\/c=62 then ioS (c::t) (-1) n n
 else if c=92/\t.head? =some 10 then .skip (t.drop 1) (n+1)
 else match word (t.length+2) ([],c::t,n)with
  |.bad m=>.bad m
  |.ok (ps,r,m)=>match cO (bn ps)with
   |some fd=>if r.head? =some 60\/r.head? =some 62 then ioS r fd n m else .tok ⟨0,[],bn ps,ps,-1,n⟩ r m
   |none=>.tok ⟨0,[],bn ps,ps,-1,n⟩ r m
inductive Res where
 |ok (l:List Tok)
 |err (full:Bool) (line:Nat)
def d9(n:Nat):Tok:=⟨4,[],[],[],-1,n⟩
def run:Nat->List Tok->ab->Nat->Res
 |0,out,_,n=>.ok (out++[d9 n])
 |f+1,out,l,n=>match l with
  | []=>.ok (out++[d9 n])
  |c::t=>match ba c t n with
   |.bad m=>.err false m
   |.skip r m=>run f out r m
   |.tok x r m=>if 2000<=out.length then .err true x.line else run f (out++[x]) r m
def lex(s:ab):Res:=if 8000<s.length then .err true 0 else run (s.length+1) [] s 1
def val(l:List UInt8):Nat:=l.foldl (fun s d=>s*10+(d.toNat-48)) 0
theorem szl(x:ByteArray):x.data.toList.length=x.size:=by simp
theorem aW(s:ByteArray)(i j:Nat):(s.extract i j).data.toList=(s.data.toList.take j).drop i:=by
 rw[ByteArray.data_extract,Array.toList_extract]
 simp[List.extract,List.drop_take]
theorem bY{s:ByteArray}{i:Nat}{c:UInt8}(h:s.data.toList[i]? =some c)(hi:i<s.size):s[i]'hi=c:=by
 have h1:s.data.toList[i]? =some (s[i]'hi):=by
  rw[List.getElem?_eq_getElem (by simpa using hi)];rfl
 rw[h]at h1;exact(Option.some.inj h1).symm
theorem dR{b:Nat}{o:Obj}{w W:World}(h:Kn [b] w W [(b,o)])(hb:w.heap[b]? =some o):Below w.heap.size w W:=
 ⟨h.os,h.tape,h.output,h.size,fun g hg=>by
  by_cases e:g=b
  ·subst e;rw[hb];exact h.has _ m0
  ·exact h.block g hg (by simpa using e)⟩
theorem cx(src p:ByteArray)(at_:Nat)(line:Int)(v:Value)(b:Nat)(w:World)(hb:w.heap[b]? =some (.cells #[.string src,.int .i64 (at_),.int .i64 (line),v] 111 (0,0)))(hat:at_<=src.size)(hs:src.size<=100000)(r:Bool)(hr:Lib.hasPrefix (src.data.toList.drop at_) p.data.toList=r):
  Calls Tryz.prog 83 #[.pointer (some ⟨b,0,none⟩),.string p] w fun e w'=>e=.returned (.bool r)/\Below w.heap.size w w':=by
 obtain⟨u,hu⟩:∃u,src.extract at_ src.size=u:=⟨_,rfl⟩
 have hul:u.data.toList=src.data.toList.drop at_:=by
  have:=szl src;rw[<- hu,aW,List.take_of_length_le (by omega)]
 have HP:Hid (∀W,Calls Tryz.prog 101 #[.string u,.string p] W fun e w'=>e=.returned (.bool r)/\w'=W):=yh fun W=>by
  have:=Tryz.strings_HasPrefix u p W;rw[hul,hr]at this;exact this
 have HB:=yh hb
 have hL:Kn [b] w w [(b,.cells #[.string src,.int .i64 (at_),.int .i64 (line),v] 111 (0,0))]:=Kn.one hb
 clear hr hul hb
 have hF:=hL.fx
 go_enter Tryz.func83,Tryz.ntmps83
 go_wp2_with (first|(with_reducible refine zS ?_;intro W hL hF)|((with_reducible refine ac 1 ?_);refine zX [0,1,2,3,4,5,6,7,8,9,10,11] [10] ?_;clear hF hL;intro ι F hne hC hG;(repeat(first|(refine cS ?_)|((first|refine cF hC ?_|refine cP ?_);intro K hK;go_big_quiet_op;go_big_quiet_on)|(refine cD ?_;intro W hL hF;go_at_call 101;(with_reducible refine(HP.out _).mono ?_);rintro e W' ⟨rfl,rfl⟩;refine zB ?_;clear hL hF hC hG;intro ι F hne hC hG;simp only[Act.put,zT])|(refine cM ?_;intro W hL hF;go_wp2;refine zB2 ?_;clear hL hC hG;intro ι F hne hC hG)));refine zN ?_;clear hC hG;intro W hL hF))
 refine bodyPost_ret (by simp[results,Tryz.results83,go_sem, *];try rfl) rfl ?_
 exact⟨rfl,dR hL HB.out⟩
theorem vl(src:ByteArray)(at_ n:Nat)(line:Int)(v:Value)(b:Nat)(w:World)(hb:w.heap[b]? =some (.cells #[.string src,.int .i64 (at_),.int .i64 (line),v] 111 (0,0)))(hat:at_+n<=src.size)(hs:src.size<=100000)(hl0:0<=line)(hl1:line<=1000000)(c:Int)(hc0:0<=c)(hc1:c<=1000000)(hc:Lib.countByte ((src.data.toList.take (at_+n)).drop at_) 10=c):
  Calls Tryz.prog 80 #[.pointer (some ⟨b,0,none⟩),.int .i64 n] w fun e w'=>e=.returned (.tuple #[])/\Kn [b] w w' [(b,.cells #[.string src,.int .i64 ((at_:Int)+n),.int .i64 (line+c),v] 111 (0,0))]:=by
 obtain⟨u,hu⟩:∃u,src.extract at_ (at_+n)=u:=⟨_,rfl⟩
 have HC:Hid (∀W,Calls Tryz.prog 98 #[.string u,.string ⟨#[10]⟩] W fun e w'=>e=.returned (.int .i64 c)/\w'=W):=yh fun W=>by
  have:=Tryz.strings_Count_one u 10 W;rw[<- hu,aW,hc,hu]at this;exact this
 have hL:Kn [b] w w [(b,.cells #[.string src,.int .i64 (at_),.int .i64 (line),v] 111 (0,0))]:=Kn.one hb
 have s1:IntKind.i64.wrap ((at_:Int)+n)=(at_:Int)+n:=by rw[IntWalk.i64_in _ (by omega)]
 have s2:((at_:Int)+n).toNat=at_+n:=by omega
 have s3:(at_:Int)<=(at_:Int)+n:=by omega
 have s4:(at_:Int)+n<=src.size:=by omega
 have s5:0<=(at_:Int)+n:=by omega
 have s6:IntKind.i64.wrap (line+c)=line+c:=by rw[IntWalk.i64_in _ (by omega)]
 have HC2:=yh hc
 clear hb hc
 have hF:=hL.fx
 go_enter Tryz.func80,Tryz.ntmps80
 go_wp2_with (first|(with_reducible refine zS ?_;intro W hL hF)|((with_reducible refine ac 0 ?_);refine zX [0,1,2,3,4,5,6,7,8,9,10,11,12,13,14,15,16,17,18,19,20,21,22,23] [23] ?_;clear hF hL;intro ι F hne hC hG;(repeat(first|(refine cS ?_)|((first|refine cF hC ?_|refine cP ?_);intro K hK;go_big_quiet_op;go_big_quiet_on)|(refine cD ?_;intro W hL hF;go_at_call 98;(with_reducible refine(HC.out _).mono ?_);rintro e W' ⟨rfl,rfl⟩;refine zO ?_;clear hL hF;simp only[Act.put,zT])|(refine cM ?_;intro W hL hF;go_wp2;refine zB2 ?_;clear hL hF hC hG;intro ι F hne hC hG)));refine zN ?_;clear hC hG;intro W hL hF))
 go_end0
 exact⟨rfl,aE⟩
def bs(l:ab):Value:=.string ⟨l.toArray⟩
def tkc(x:Tok×Value):List Value:=[.int .i64 x.1.kind,bs x.1.text,bs x.1.plain,x.2,.int .i64 x.1.fd,.int .i64 x.1.line]
def tkv(x:Tok×Value):Value:=.agg (tkc x).toArray
def gf(LO:List (Nat×Obj))(v:Value)(tvs:List (Tok×Value)):Prop:=
 (LO=[]/\v=.slice none 0 0/\tvs=[])\/∃g cap cur,LO=[(g,.cells cur 76 (0,0))]/\v=.slice (some ⟨g,0,none⟩) tvs.length cap/\RowB 6 cur cap tvs.length (tvs.flatMap tkc)
theorem sl(src:ByteArray)(at_ line:Int)(v:Value)(b:Nat)(w:World)(LO:List (Nat×Obj))(tvs:List (Tok×Value))(hL:Kn (b::keys LO) w w ((b,.cells #[.string src,.int .i64 (at_),.int .i64 (line),v] 111 (0,0))::LO))(hO:gf LO v tvs)(tv:Tok×Value)(hfull:2000<=tvs.length):
  Calls Tryz.prog 100 #[.pointer (some ⟨b,0,none⟩),tkv tv] w fun e w'=>e=.panicked [{v:=.iface 107 (.agg #[.int .i64 6,.int .i64 tv.1.line]),recovered:=false}]/\Kn (b::keys LO) w w' []:=by
 rcases hO with⟨_,_,rfl⟩|⟨g,cap,cur,rfl,rfl,hr⟩
 ·simp at hfull
 have HR:=yh hr
 have e1:decide ((tvs.length:Int)≥2000)=true:=by simp;omega
 obtain⟨n,hn⟩:∃n,tvs.length=n:=⟨_,rfl⟩
 rw[hn]at e1
 clear hr
 have hF:=hL.fx
 go_enter Tryz.func100,Tryz.ntmps100
 unfold tkv tkc
 go_wp2
 exact⟨rfl,rfl,aE.sub sN⟩
theorem xG:(Tryz.prog.info? 76).map (fun i=>(i.zero,i.size,i.bytes))=some (some (.agg #[.int .i64 0,.string ⟨#[]⟩,.string ⟨#[]⟩,.slice none 0 0,.int .i64 0,.int .i64 0]),6,80):=by kernel_rfl
theorem bd{t:TypeId}{z:Option Value}{s b:Nat}(h:(Tryz.prog.info? t).map (fun i=>(i.zero,i.size,i.bytes))=some (z,s,b)):∃i,Tryz.prog.info? t=some i/\i.zero=z/\i.size=s/\i.bytes=b:=by
 cases hi:Tryz.prog.info? t with
 |none=>rw[hi]at h;simp at h
 |some i=>rw[hi]at h;simp at h;exact⟨i,rfl,h.1,h.2.1,h.2.2⟩
theorem ja(x:Tok×Value)(h:x.2.oneCell'=true):∀u∈tkc x,u.oneCell'=true:=by
 intro u hu
 simp only[tkc,bs,List.mem_cons,List.not_mem_nil,or_false]at hu
 rcases hu with rfl|rfl|rfl|rfl|rfl|rfl<;>first|rfl|exact h
theorem xV(src:ByteArray)(at_ line:Int)(v:Value)(b:Nat)(w:World)(LO:List (Nat×Obj))(tvs:List (Tok×Value))(hL:Kn (b::keys LO) w w ((b,.cells #[.string src,.int .i64 (at_),.int .i64 (line),v] 111 (0,0))::LO))(hO:gf LO v tvs)(tv:Tok×Value)(htv:tv.2.oneCell'=true)(hfull:tvs.length<2000):
  Calls Tryz.prog 100 #[.pointer (some ⟨b,0,none⟩),tkv tv] w fun e w'=>e=.returned (.tuple #[])/\∃v' LO',gf LO' v' (tvs++[tv])/\Kn (b::keys LO) w w' ((b,.cells #[.string src,.int .i64 (at_),.int .i64 (line),v'] 111 (0,0))::LO'):=by
 obtain⟨i0,hi,hz0,hz1,hz2⟩:=bd xG
 rcases hO with⟨rfl,rfl,rfl⟩|⟨g,cap,cur,rfl,rfl,hr⟩
 ·clear hfull
  have hF:=hL.fx;go_enter Tryz.func100,Tryz.ntmps100;unfold tkv;simp only[tkc];go_wp2_with ((with_reducible refine ac 3 ?_);refine zX [0,1,2,3,4,5,6,7,8,9,10] [7,10] ?_;clear hF hL;intro ι F hne hC hG;(repeat(first|((first|refine cF hC ?_|refine cP ?_);intro K hK;go_big_quiet_op;go_big_quiet_on)|(refine cM ?_;intro W hL hF;at_builtin;refine bE rfl _ _ 66 rfl 76 i0 _ Tryz.underlying66 hi hz0 (by rw[hz1];rfl) (by rw[hz1];decide) hL rfl _ _ _ (tkc tv) rfl (by rw[hz1];rfl) (fun j u hu=>by rw[Go.WideShapes.add_plain,Nat.zero_add,World.cell?,hL.has _ m0];simpa[tkc]using hu) (ja tv htv) (by unfold maxLen;omega) (by rw[hz2];omega) (by omega) ?_;intro g2 cap2 cur2 W2 hL2 hg2 hr2;clear hL;have hL:=hL2;clear hL2;have hF:=hL.fx;go_wp2;refine zB2 ?_;clear hL hF hC hG;intro ι F hne hC hG)|(refine cM ?_;intro W hL hF;go_wp2;(first|(refine zB2 ?_;clear hL hF hC hG;intro ι F hne hC hG)|(refine zO2 ?_;clear hL hF)))));refine zN ?_;clear hC hG;intro W hL hF)
  go_end0
  rw[hz1]at hr2;refine⟨rfl,.slice (some ⟨g2,0,none⟩) ([]++[tv]).length cap2,_,.inr ⟨g2,cap2,cur2,rfl,rfl,by simpa using hr2⟩,hL.pick (by simp) ?_⟩;have:=hL.nd;(simp at this |-);((grind))
 ·have e1:decide ((tvs.length:Int)≥2000)=false:=by simp;omega
  have hF:=hL.fx;go_enter Tryz.func100,Tryz.ntmps100;unfold tkv;simp only[tkc];go_wp2_with ((with_reducible refine ac 3 ?_);refine zX [0,1,2,3,4,5,6,7,8,9,10] [7,10] ?_ (sC (sC (sD sR)));clear hF hL;intro ι F hne hC hG;(repeat(first|((first|refine cF hC ?_|refine cP ?_);intro K hK;go_big_quiet_op;go_big_quiet_on)|(refine cM ?_;intro W hL hF;at_builtin;refine aU rfl _ _ 66 rfl 76 i0 _ Tryz.underlying66 hi hz0 (by rw[hz1];rfl) (by rw[hz1];decide) hL 3 _ _ _ _ _ rfl (by rw[hz1];exact hr) rfl _ _ _ (tkc tv) rfl (by rw[hz1];rfl) (fun j u hu=>by rw[Go.WideShapes.add_plain,Nat.zero_add,World.cell?,hL.has _ m0];simpa[tkc]using hu) (ja tv htv) (by unfold maxLen;omega) (by rw[hz2];omega) (by omega) ?_;intro g2 cap2 cur2 W2 hL2 hr2;clear hL;have hL:=hL2;clear hL2;simp only[List.eraseIdx_cons_zero,List.eraseIdx_cons_succ]at hL;have hF:=hL.fx;go_wp2;refine zB2 ?_;clear hL hF hC hG;intro ι F hne hC hG)|(refine cM ?_;intro W hL hF;go_wp2;refine ai ?_;(first|(refine bH _ (by rfl) ?_;clear hL hF hC hG;intro ι F hne hC hFF;have hG:=fun n=>(hFF n).fx;clear hFF)|(refine aQ _ (by repeat' (first|(with_reducible exact List.Sublist.refl _)|(with_reducible apply List.Sublist.cons_cons)|(with_reducible apply List.Sublist.cons))) ?_;clear hL hF)))));refine zN ?_;clear hC hG;intro W hL hF)
  go_end0
  rw[hz1]at hr2;refine⟨rfl,.slice (some ⟨g2,0,none⟩) (tvs++[tv]).length cap2,_,.inr ⟨g2,cap2,cur2,rfl,rfl,by simpa using hr2⟩,hL.pick (by simp) ?_⟩;have:=hL.nd;(simp at this |-);((grind))
theorem gQ{c:UInt8}:∀{s a r:ab} (x:ab),brk c s=some (a,r)->brk c (s++x)=some (a,r++x)
 | [],a,r,x,h=>by simp[brk]at h
 |d::t,a,r,x,h=>by
  rw[brk]at h;rw[List.cons_append,brk];split at h
  ·grind
  ·rename_i hd
   rw[if_neg hd]
   cases hb:brk c t with
   |none=>grind
   |some y=>
    obtain⟨y1,y2⟩:=y;rw[hb]at h;simp only[Option.map_some,Option.some.injEq,Prod.mk.injEq]at h;obtain⟨rfl,rfl⟩:=h;rw[gQ x hb];rfl
theorem bq{c:UInt8}:∀{s a r:ab},brk c s=some (a,r)->s=a++c::r/\c∉a
 | [],a,r,h=>by simp[brk]at h
 |d::t,a,r,h=>by
  rw[brk]at h;split at h
  ·grind
  ·rename_i hd
   cases hb:brk c t with
   |none=>grind
   |some y=>
    obtain⟨y1,y2⟩:=y;rw[hb]at h;simp only[Option.map_some,Option.some.injEq,Prod.mk.injEq]at h;obtain⟨rfl,rfl⟩:=h;obtain⟨h1,h2⟩:=bq hb;grind
theorem aP(f d:Nat)(c:UInt8)(t:ab):aM (f+1) (some d) (c::t)=
  (if c=92 then(match t with
   | []=>none
   |e::t=>(aM f (some d) t).map fun x=>(92::e::x.1,x.2))
  else if c=39 then(brk 39 t).bind fun y=>(aM f (some d) y.2).map fun x=>(39::(y.1++39::x.1),x.2)
  else if c=34 then(aM f none t).bind fun y=>(aM f (some d) y.2).map fun x=>(34::(y.1++34::x.1),x.2)
  else if c=40 then(aM f (some (d+1)) t).map fun x=>(40::x.1,x.2)
  else if c=41 then(if d=1 then some ([],t)else(aM f (some (d-1)) t).map fun x=>(41::x.1,x.2))
  else(aM f (some d) t).map fun x=>(c::x.1,x.2)):=rfl
theorem bI(f:Nat)(c:UInt8)(t:ab):aM (f+1) none (c::t)=
  (if c=34 then some ([],t)
  else if c=92 then(match t with
   | []=>none
   |e::t=>(aM f none t).map fun x=>(92::e::x.1,x.2))
  else if c=36/\t.head? =some 40 then(aM f (some 1) (t.drop 1)).bind fun y=>(aM f none y.2).map fun x=>(36::40::(y.1++41::x.1),x.2)
  else(aM f none t).map fun x=>(c::x.1,x.2)):=rfl
theorem mj:∀(f:Nat) (m:Option Nat) (s a r:ab),aM f m s=some (a,r)->r.length<s.length:=by
 intro f
 induction f with
 |zero=>intro m s a r h;cases m<;>cases h
 |succ f ih=>
  intro m s a r h
  cases s with
  |nil=>cases m<;>cases h
  |cons c t=>
   have one:∀(m':Option Nat) (t':ab) (g:ab->ab),((aM f m' t').map fun x=>(g x.1,x.2))=some (a,r)->t'.length<=t.length->r.length<(c::t).length:=by
    intro m' t' g h hl
    cases hs:aM f m' t' with
    |none=>grind
    |some y=>
     grind
   cases m with
   |some d=>
    rw[aP]at h;split at h
    ·split at h
     ·cases h
     ·rename_i e t'
      exact one _ _ (fun z=>92::e::z) h (by simp)
    ·split at h
     ·cases hb:brk 39 t with
      |none=>grind
      |some y=>
       rw[hb]at h;simp only[Option.bind_some]at h;obtain⟨h1,_⟩:=bq (a:=y.1) (r:=y.2) hb;have:=congrArg List.length h1;simp only[List.length_append,List.length_cons]at this;exact one _ _ (fun z=>39::(y.1++39::z)) h (by omega)
     ·split at h
      ·cases hb:aM f none t with
       |none=>grind
       |some y=>
        rw[hb]at h;simp only[Option.bind_some]at h;have:=ih _ _ y.1 y.2 hb;exact one _ _ (fun z=>34::(y.1++34::z)) h (by omega)
      ·split at h
       ·exact one _ _ (fun z=>40::z) h (by simp)
       ·split at h
        ·split at h
         ·grind
         ·exact one _ _ (fun z=>41::z) h (by simp)
        ·exact one _ _ (fun z=>c::z) h (by simp)
   |none=>
    rw[bI]at h;split at h
    ·grind
    ·split at h
     ·split at h
      ·cases h
      ·rename_i e t'
       exact one _ _ (fun z=>92::e::z) h (by simp)
     ·split at h
      ·cases hb:aM f (some 1) (t.drop 1)with
       |none=>grind
       |some y=>
        rw[hb]at h;simp only[Option.bind_some]at h;have:=ih _ _ y.1 y.2 hb;rw[List.length_drop]at this;exact one _ _ (fun z=>36::40::(y.1++41::z)) h (by omega)
      ·exact one _ _ (fun z=>c::z) h (by simp)
theorem qR:∀(f:Nat) (m:Option Nat) (s a r:ab),aM f m s=some (a,r)->∀(g:Nat) (x:ab),f<=g->aM g m (s++x)=some (a,r++x):=by
 intro f
 induction f with
 |zero=>intro m s a r h;cases m<;>cases h
 |succ f ih=>
  intro m s a r h g x hg;obtain⟨g,rfl⟩:∃g',g=g'+1:=⟨g-1,by omega⟩
  cases s with
  |nil=>cases m<;>cases h
  |cons c t=>
   have one:∀(m':Option Nat) (t':ab) (k:ab->ab),((aM f m' t').map fun x=>(k x.1,x.2))=some (a,r)->((aM g m' (t'++x)).map fun x=>(k x.1,x.2))=some (a,r++x):=by
    intro m' t' k h
    cases hs:aM f m' t' with
    |none=>grind
    |some y=>
     grind
   rw[List.cons_append]
   cases m with
   |some d=>
    rw[aP]at h |-
    by_cases h92:c=92
    ·rw[if_pos h92]at h |-
     cases t with
     |nil=>cases h
     |cons e t'=>exact one _ _ (fun z=>92::e::z) h
    rw[if_neg h92]at h |-
    by_cases h39:c=39
    ·rw[if_pos h39]at h |-
     cases hb:brk 39 t with
     |none=>grind
     |some y=>
      rw[hb]at h;simp only[Option.bind_some]at h;rw[gQ (a:=y.1) (r:=y.2) x hb];exact one _ _ (fun z=>39::(y.1++39::z)) h
    rw[if_neg h39]at h |-
    by_cases h34:c=34
    ·rw[if_pos h34]at h |-
     cases hb:aM f none t with
     |none=>grind
     |some y=>
      rw[hb]at h;simp only[Option.bind_some]at h;rw[ih _ _ y.1 y.2 hb g x (by omega)];exact one _ _ (fun z=>34::(y.1++34::z)) h
    rw[if_neg h34]at h |-
    by_cases h40:c=40
    ·rw[if_pos h40]at h |-
     exact one _ _ (fun z=>40::z) h
    rw[if_neg h40]at h |-
    by_cases h41:c=41
    ·rw[if_pos h41]at h |-
     by_cases hd:d=1
     ·grind
     ·rw[if_neg hd]at h |-
      exact one _ _ (fun z=>41::z) h
    ·rw[if_neg h41]at h |-
     exact one _ _ (fun z=>c::z) h
   |none=>
    rw[bI]at h |-
    by_cases h34:c=34
    ·grind
    rw[if_neg h34]at h |-
    by_cases h92:c=92
    ·rw[if_pos h92]at h |-
     cases t with
     |nil=>cases h
     |cons e t'=>exact one _ _ (fun z=>92::e::z) h
    rw[if_neg h92]at h |-
    by_cases h36:c=36/\t.head? =some 40
    ·rw[if_pos h36]at h
     have ht:t≠[]:=by grind
     have h36':c=36/\(t++x).head? =some 40:=by
      grind
     rw[if_pos h36'];have hdr:(t++x).drop 1=t.drop 1++x:=by
      simp_all
     rw[hdr]
     cases hb:aM f (some 1) (t.drop 1)with
     |none=>grind
     |some y=>
      rw[hb]at h;simp only[Option.bind_some]at h;rw[ih _ _ y.1 y.2 hb g x (by omega)];exact one _ _ (fun z=>36::40::(y.1++41::z)) h
    ·rw[if_neg h36]at h
     by_cases h36':c=36/\(t++x).head? =some 40
     ·exfalso
      cases t with
      |nil=>
       cases f<;>cases h
      |cons e t=>grind
     ·rw[if_neg h36']
      exact one _ _ (fun z=>c::z) h
theorem ml{s a r:ab}(x:ab)(h:dm s=some (a,r)):dm (s++x)=some (a,r++x):=
 qR _ _ _ _ _ h _ x (by simp)
theorem gv{c:UInt8}{s a r:ab}(h:brk c s=some (a,r)):r <:+ s:=by
 obtain⟨h1,_⟩:=bq h
 exact⟨a++[c],by grind⟩
theorem mm:∀(f:Nat) (m:Option Nat) (s a r:ab),aM f m s=some (a,r)->r <:+ s:=by
 intro f
 induction f with
 |zero=>intro m s a r h;cases m<;>cases h
 |succ f ih=>
  intro m s a r h
  cases s with
  |nil=>cases m<;>cases h
  |cons c t=>
   have one:∀(m':Option Nat) (t':ab) (g:ab->ab),((aM f m' t').map fun x=>(g x.1,x.2))=some (a,r)->t' <:+ t->r <:+ c::t:=by
    intro m' t' g h hl
    cases hs:aM f m' t' with
    |none=>grind
    |some y=>
     grind
   cases m with
   |some d=>
    rw[aP]at h;split at h
    ·split at h
     ·cases h
     ·rename_i e t'
      exact one _ _ (fun z=>92::e::z) h (List.suffix_cons _ _)
    ·split at h
     ·cases hb:brk 39 t with
      |none=>grind
      |some y=>
       rw[hb]at h;simp only[Option.bind_some]at h;exact one _ _ (fun z=>39::(y.1++39::z)) h (gv (a:=y.1) hb)
     ·split at h
      ·cases hb:aM f none t with
       |none=>grind
       |some y=>
        rw[hb]at h;simp only[Option.bind_some]at h;exact one _ _ (fun z=>34::(y.1++34::z)) h (ih _ _ y.1 y.2 hb)
      ·split at h
       ·exact one _ _ (fun z=>40::z) h (List.suffix_refl _)
       ·split at h
        ·split at h
         ·grind
         ·exact one _ _ (fun z=>41::z) h (List.suffix_refl _)
        ·exact one _ _ (fun z=>c::z) h (List.suffix_refl _)
   |none=>
    rw[bI]at h;split at h
    ·grind
    ·split at h
     ·split at h
      ·cases h
      ·rename_i e t'
       exact one _ _ (fun z=>92::e::z) h (List.suffix_cons _ _)
     ·split at h
      ·cases hb:aM f (some 1) (t.drop 1)with
       |none=>grind
       |some y=>
        rw[hb]at h;simp only[Option.bind_some]at h;exact one _ _ (fun z=>36::40::(y.1++41::z)) h ((ih _ _ y.1 y.2 hb).trans (List.drop_suffix _ _))
      ·exact one _ _ (fun z=>c::z) h (List.suffix_refl _)
def gap(c:UInt8):Prop:=c=10\/c=32\/c=9
theorem fT{c:UInt8}(h:gap c):de c=false/\bF c=false/\ed c=false/\ends c=true:=by
 rcases h with rfl|rfl|rfl<;>decide
theorem iI{y:UInt8}(hy:gap y)(x:ab):∀s:ab,bJ (s++y::x)=bJ s
 | []=>by
  grind[fT,bJ]
 |c::t=>by
  simp_all[bJ,iI]
theorem ol{y:UInt8}(hy:gap y)(x:ab):∀s:ab,named (s++y::x)=named s
 | []=>by
  grind[fT,named]
 |c::t=>by
  grind[named,iI]
theorem om{y:UInt8}(hy:gap y)(x s:ab):bj (s++y::x)=bj s:=by
 unfold bj
 grind[ol,named,fT]
theorem ip:∀s:ab,bJ s<=s.length
 | []=>Nat.le_refl _
 |c::t=>by
  rw[bJ];have:=ip t;grind
theorem sm:∀s:ab,named s<=s.length
 | []=>Nat.le_refl _
 |c::t=>by
  grind[named,ip]
theorem gR(s:ab):bj s<=s.length:=by
 unfold bj
 grind[sm]
theorem iJ{y:UInt8}(hy:gap y)(x:ab){ps:List Prt}{s:ab}{n:Nat}{q:Bool}{st:St}(h:au ps s n q=.ok st):au ps (s++y::x) n q=.ok (st.1,st.2.1++y::x,st.2.2):=by
 have hh:∀c:UInt8,¬gap c->((s++y::x).head? =some c↔s.head? =some c):=fun c hc=>by
  cases s with
  |nil=>grind
  |cons d t=>simp
 unfold au at h |-
 by_cases h40:s.head? =some 40
 ·rw[if_pos h40]at h
  rw[if_pos ((hh 40 (by rintro(h|h|h)<;>cases h)).2 h40)];have hd:(s++y::x).drop 1=s.drop 1++y::x:=by
   cases s with
   |nil=>grind
   |cons d t=>rfl
  rw[hd]
  cases hp:dm (s.drop 1)with
  |none=>grind
  |some z=>
   obtain⟨a,r⟩:=z;rw[hp]at h;rw[ml _ hp];grind
 rw[if_neg h40]at h
 rw[if_neg (fun e=>h40 ((hh 40 (by rintro(h|h|h)<;>cases h)).1 e))]
 by_cases h123:s.head? =some 123
 ·rw[if_pos h123]at h
  rw[if_pos ((hh 123 (by rintro(h|h|h)<;>cases h)).2 h123)];have hd:(s++y::x).drop 1=s.drop 1++y::x:=by
   cases s with
   |nil=>grind
   |cons d t=>rfl
  rw[hd]
  cases hp:brk 125 (s.drop 1)with
  |none=>grind
  |some z=>
   obtain⟨a,r⟩:=z;rw[hp]at h;rw[gQ _ hp];grind
 rw[if_neg h123]at h
 rw[if_neg (fun e=>h123 ((hh 123 (by rintro(h|h|h)<;>cases h)).1 e))]
 grind[om,gR]
theorem fJ{ps:List Prt}{s:ab}{n:Nat}{q:Bool}{st:St}(h:au ps s n q=.ok st):st.2.1 <:+ s:=by
 unfold au at h
 split at h
 ·rename_i h40
  cases hp:dm (s.drop 1)with
  |none=>grind
  |some z=>
   obtain⟨a,r⟩:=z;rw[hp]at h;injection h with h
   rw[<- h];exact(mm _ _ _ _ _ hp).trans (List.drop_suffix _ _)
 ·split at h
  ·cases hp:brk 125 (s.drop 1)with
   |none=>grind
   |some z=>
    obtain⟨a,r⟩:=z;rw[hp]at h;simp only at h;split at h
    ·cases h
    ·injection h with h
     rw[<- h];exact(gv hp).trans (List.drop_suffix _ _)
  ·split at h
   ·injection h with h;rw[<- h];exact List.drop_suffix _ _
   grind
theorem aN(f n0:Nat)(ps:List Prt)(c:UInt8)(t:ab)(n:Nat):a_ (f+1) n0 (ps,c::t,n)=
   (if c=34 then .ok (ps,t,n)
   else if c=36 then(match au ps t n true with
    |.bad m=>.bad m
    |.ok x=>a_ f n0 x)
   else if c=92 then(match t with
    |d::r=>if esc d then a_ f n0 (addT ps [d] true,r,n)else a_ f n0 (addT ps [92] true,t,n)
    | []=>a_ f n0 (addT ps [92] true,t,n))
   else a_ f n0 (addT ps [c] true,t,n+lf [c])):=rfl
theorem aT(f:Nat)(ps:List Prt)(c:UInt8)(t:ab)(n:Nat):word (f+1) (ps,c::t,n)=(if ends c then .ok (ps,c::t,n)else match aV ps c t n with
    |.bad m=>.bad m
    |.ok x=>word f x):=rfl
theorem mn{y:UInt8}(hy:gap y)(x:ab)(n0:Nat):∀(f:Nat) (ps:List Prt) (l:ab) (n:Nat) (st:St),a_ f n0 (ps,l,n)=.ok st->∀g,f<=g->a_ g n0 (ps,l++y::x,n)=.ok (st.1,st.2.1++y::x,st.2.2):=by
 intro f
 induction f with
 |zero=>intro ps l n st h;cases h
 |succ f ih=>
  intro ps l n st h g hg;obtain⟨g,rfl⟩:∃g',g=g'+1:=⟨g-1,by omega⟩
  cases l with
  |nil=>cases h
  |cons c t=>
   rw[aN]at h;rw[List.cons_append,aN];by_cases h34:c=34
   ·grind
   rw[if_neg h34]at h |-
   by_cases h36:c=36
   ·rw[if_pos h36]at h |-
    cases hd:au ps t n true with
    |bad m=>grind
    |ok z=>
     grind[iJ]
   rw[if_neg h36]at h |-
   by_cases h92:c=92
   ·rw[if_pos h92]at h |-
    cases t with
    |nil=>
     exfalso
     cases f<;>cases h
    |cons d r=>
     grind
   grind
theorem mo(n0:Nat):∀(f:Nat) (ps:List Prt) (l:ab) (n:Nat) (st:St),a_ f n0 (ps,l,n)=.ok st->st.2.1 <:+ l:=by
 intro f
 induction f with
 |zero=>intro ps l n st h;cases h
 |succ f ih=>
  intro ps l n st h
  cases l with
  |nil=>cases h
  |cons c t=>
   rw[aN]at h;split at h
   ·grind
   ·split at h
    ·cases hd:au ps t n true with
     |bad m=>grind
     |ok z=>
      rw[hd]at h;obtain⟨z1,z2,z3⟩:=z;exact((ih _ _ _ _ h).trans (fJ hd)).trans (List.suffix_cons _ _)
    ·split at h
     ·split at h
      ·split at h
       ·exact((ih _ _ _ _ h).trans (List.suffix_cons _ _)).trans (List.suffix_cons _ _)
       grind
      grind
     grind
theorem oo{y:UInt8}(hy:gap y)(x:ab){ps:List Prt}{c:UInt8}{t:ab}{n:Nat}{st:St}(h:aV ps c t n=.ok st)(he:c≠92\/t≠[]):aV ps c (t++y::x) n=.ok (st.1,st.2.1++y::x,st.2.2):=by
 unfold aV at h |-
 by_cases h39:c=39
 ·rw[if_pos h39]at h |-
  cases hb:brk 39 t with
  |none=>grind
  |some z=>
   obtain⟨a,r⟩:=z;rw[hb]at h;rw[gQ _ hb];grind
 grind[mn,iJ]
theorem eZ{ps:List Prt}{c:UInt8}{t:ab}{n:Nat}{st:St}(h:aV ps c t n=.ok st):st.2.1 <:+ t:=by
 unfold aV at h
 grind[brk,gv,mo,fJ]
theorem qS{l r:ab}(h:r <:+ l)(he:l.getLast? ≠some 92):r.getLast? ≠some 92:=by
 obtain⟨u,rfl⟩:=h
 grind
theorem zp{y:UInt8}(hy:gap y)(x:ab):∀(f:Nat) (ps:List Prt) (l:ab) (n:Nat) (st:St),word f (ps,l,n)=.ok st->l.length<f->l.getLast? ≠some 92->∀g,f<=g->word g (ps,l++y::x,n)=.ok (st.1,st.2.1++y::x,st.2.2):=by
 intro f
 induction f with
 |zero=>omega
 |succ f ih=>
  intro ps l n st h hl he g hg;obtain⟨g,rfl⟩:∃g',g=g'+1:=⟨g-1,by omega⟩
  cases l with
  |nil=>
   rw[word]at h;injection h with h
   rw[List.nil_append,aT];rw[if_pos (fT hy).2.2.2,<- h];rfl
  |cons c t=>
   rw[aT]at h;rw[List.cons_append,aT];split at h
   ·grind
   ·rename_i hc
    rw[if_neg hc]
    cases hp:aV ps c t n with
    |bad m=>grind
    |ok z=>
     rw[hp]at h;obtain⟨z1,z2,z3⟩:=z;have hlc:c≠92\/t≠[]:=by
      grind
     have hs:=eZ hp;have hsl:=hs.length_le;simp only at hs hsl;rw[oo hy x hp hlc];grind[qS]
theorem qT:∀(f:Nat) (ps:List Prt) (l:ab) (n:Nat) (st:St),word f (ps,l,n)=.ok st->st.2.1 <:+ l:=by
 intro f
 induction f with
 |zero=>intro ps l n st h;injection h with h;grind
 |succ f ih=>
  intro ps l n st h
  cases l with
  |nil=>grind[word]
  |cons c t=>
   rw[aT]at h;split at h
   ·grind
   ·cases hp:aV ps c t n with
    |bad m=>grind
    |ok z=>
     rw[hp]at h;obtain⟨z1,z2,z3⟩:=z;exact((ih _ _ _ _ h).trans (eZ hp)).trans (List.suffix_cons _ _)
def Step.more(z:ab):Step->Step
 |.skip r n=>.skip (r++z) n
 |.tok t r n=>.tok t (r++z) n
 |.bad n=>.bad n
theorem qU(p:UInt8->Bool):∀(t z:ab),(∀c∈t,p c=true)->(t++z).dropWhile p=z.dropWhile p
 | [],z,h=>rfl
 |c::t,z,h=>by
  simp_all
theorem mp(p:UInt8->Bool)(t:ab)(h:∀c∈t,p c=true):t.dropWhile p=[]:=by
 have:=qU p t [] h
 simp_all
def Step.rest:Step->ab
 |.skip r _=>r
 |.tok _ r _=>r
 |.bad _=>[]
theorem sn(l:ab)(fd:Int)(n0 n:Nat):(ioS l fd n0 n).rest <:+ l:=by
 unfold ioS
 split<;>exact List.drop_suffix _ _
inductive Fin where
 |fin (line:Nat)
 |bad (line:Nat)
def raw:Nat->ab->Nat->List Tok×Fin
 |0,_,n=>([],.fin n)
 |_+1,[],n=>([],.fin n)
 |f+1,c::t,n=>match ba c t n with
  |.bad m=>([],.bad m)
  |.skip r m=>raw f r m
  |.tok x r m=>(x::(raw f r m).1,(raw f r m).2)
theorem jw(f:Nat)(c:UInt8)(t:ab)(n:Nat):raw (f+1) (c::t) n=(match ba c t n with
  |.bad m=>([],.bad m)
  |.skip r m=>raw f r m
  |.tok x r m=>(x::(raw f r m).1,(raw f r m).2)):=rfl
theorem di(c:UInt8)(t:ab)(n:Nat):(ba c t n).rest.length<(c::t).length:=by
 have hd:∀k,(t.drop k).length<(c::t).length:=fun k=>by grind
 unfold ba
 split
 ·simp[Step.rest]
 ·split
  ·have:=(List.dropWhile_suffix (l:=t) (p:=(· != 10))).length_le
   grind[Step.rest]
  ·split
   ·simp[Step.rest]
   ·split
    ·grind[Step.rest]
    ·split
     ·simp[Step.rest]
     ·split
      ·grind[ioS,Step.rest]
      ·split
       ·exact hd 1
       ·rename_i h32 h35 h10 h124 h40 h60 h92
        cases hw:word (t.length+2) ([],c::t,n)with
        |bad m=>simp[Step.rest]
        |ok st=>
         obtain⟨ps,r,m⟩:=st
         have hr:r.length<(c::t).length:=by
          rw[aT]at hw;have he:ends c=false:=by
           grind[ends]
          rw[he]at hw;simp only[Bool.false_eq_true,if_false]at hw
          cases hp:aV [] c t n with
          |bad m=>grind
          |ok z=>
           rw[hp]at hw;obtain⟨z1,z2,z3⟩:=z;have h1:=(eZ hp).length_le;have h2:=(qT _ _ _ _ _ hw).length_le;grind
         simp only;split
         ·split
          ·grind[sn]
          ·exact hr
         ·exact hr
theorem sq:∀(f g:Nat) (l:ab) (n:Nat),l.length<f->l.length<g->raw f l n=raw g l n:=by
 intro f
 induction f with
 |zero=>omega
 |succ f ih=>
  intro g l n hf hg;obtain⟨g,rfl⟩:∃g',g=g'+1:=⟨g-1,by omega⟩
  cases l with
  |nil=>rfl
  |cons c t=>
   rw[jw,jw];have hl:=di c t n;grind[ba,Step.rest]
def cQ(l:ab)(n:Nat):List Tok×Fin:=raw (l.length+1) l n
theorem df(n:Nat):cQ [] n=([],.fin n):=rfl
theorem bO(c:UInt8)(t:ab)(n:Nat):cQ (c::t) n=(match ba c t n with
  |.bad m=>([],.bad m)
  |.skip r m=>cQ r m
  |.tok x r m=>(x::(cQ r m).1,(cQ r m).2)):=by
 have hl:=di c t n
 grind[cQ,jw,ba,Step.rest,sq]
def lim(out:List Tok)(x:List Tok×Fin):Res:=
 match x.1[2000-out.length]? with
 |some t=>.err true t.line
 |none=>match x.2 with
  |.bad m=>.err false m
  |.fin n=>.ok (out++x.1++[d9 n])
theorem vm:∀(f:Nat) (out:List Tok) (l:ab) (n:Nat),l.length<f->out.length<=2000->run f out l n=lim out (cQ l n):=by
 intro f
 induction f with
 |zero=>omega
 |succ f ih=>
  intro out l n hf ho
  cases l with
  |nil=>rw[run,df];simp[lim]
  |cons c t=>
   have hl:=di c t n;rw[bO];show(match ba c t n with
    |.bad m=>Res.err false m
    |.skip r m=>run f out r m
    |.tok x r m=>if 2000<=out.length then .err true x.line else run f (out++[x]) r m)=_
   cases hs:ba c t n with
   |bad m=>simp[lim]
   |skip r m=>
    grind[Step.rest]
   |tok x r m=>
    grind[Step.rest,lim,cQ]
theorem pH(s:ab)(h:s.length<=8000):lex s=lim [] (cQ s 1):=by
 grind[lex,vm]
def Tok.up(k:Nat)(t:Tok):Tok:={t with line:=t.line+k}
def Rup(k:Nat):R St->R St
 |.ok (ps,l,n)=>.ok (ps,l,n+k)
 |.bad n=>.bad (n+k)
def Step.up(k:Nat):Step->Step
 |.skip r n=>.skip r (n+k)
 |.tok t r n=>.tok (t.up k) r (n+k)
 |.bad n=>.bad (n+k)
def Fin.up(k:Nat):Fin->Fin
 |.fin n=>.fin (n+k)
 |.bad n=>.bad (n+k)
theorem kE(k:Nat)(ps:List Prt)(s:ab)(n:Nat)(q:Bool):au ps s (n+k) q=Rup k (au ps s n q):=by
 grind[au,Rup]
theorem qV(k:Nat):∀(f n0:Nat) (ps:List Prt) (l:ab) (n:Nat),a_ f (n0+k) (ps,l,n+k)=Rup k (a_ f n0 (ps,l,n)):=by
 intro f
 induction f with
 |zero=>intro n0 ps l n;rfl
 |succ f ih=>
  intro n0 ps l n
  cases l with
  |nil=>rfl
  |cons c t=>
   rw[aN,aN];split
   ·rfl
   ·split
    ·grind[kE,au]
    ·split
     ·split
      ·grind
      grind
     grind
theorem sr(k:Nat)(ps:List Prt)(c:UInt8)(t:ab)(n:Nat):aV ps c t (n+k)=Rup k (aV ps c t n):=by
 unfold aV
 grind[Rup,qV,kE]
theorem vn(k:Nat):∀(f:Nat) (ps:List Prt) (l:ab) (n:Nat),word f (ps,l,n+k)=Rup k (word f (ps,l,n)):=by
 intro f
 induction f with
 |zero=>intro ps l n;rfl
 |succ f ih=>
  intro ps l n
  cases l with
  |nil=>rfl
  |cons c t=>
   rw[aT,aT];split
   ·rfl
   ·rw[sr]
    cases aV ps c t n with
    |bad m=>rfl
    |ok z=>obtain⟨z1,z2,z3⟩:=z;exact ih _ _ _
theorem su(k:Nat)(l:ab)(fd:Int)(n0 n:Nat):ioS l fd (n0+k) (n+k)=(ioS l fd n0 n).up k:=by
 unfold ioS
 split<;>rfl
theorem vo(k:Nat)(c:UInt8)(t:ab)(n:Nat):ba c t (n+k)=(ba c t n).up k:=by
 unfold ba
 split
 ·rfl
 ·split
  ·rfl
  ·split
   ·grind[Step.up,Tok.up]
   ·split
    ·split<;>rfl
    ·split
     ·rfl
     ·split
      ·grind[su]
      ·split
       ·grind[Step.up]
       ·rw[vn]
        cases word (t.length+2) ([],c::t,n)with
        |bad m=>rfl
        |ok z=>
         obtain⟨ps,r,m⟩:=z;simp only[Rup];split
         ·split
          ·grind[su]
          ·rfl
         ·rfl
theorem vq(k:Nat):∀(d:Nat) (l:ab) (n:Nat),l.length<=d->cQ l (n+k)=((cQ l n).1.map (Tok.up k),(cQ l n).2.up k):=by
 intro d
 induction d with
 |zero=>
  intro l n hl;obtain rfl:=List.eq_nil_of_length_eq_zero (Nat.le_zero.1 hl);rfl
 |succ d ih=>
  intro l n hl
  cases l with
  |nil=>rfl
  |cons c t=>
   have hlt:=di c t n;rw[bO,bO,vo]
   cases hs:ba c t n with
   |bad m=>rfl
   |skip r m=>
    grind[Step.rest,Step.up]
   |tok x r m=>
    grind[Step.rest,Step.up]
def zr(c:UInt8):Prop:=c=32\/c=9
theorem mq{c:UInt8}:∀(s r:ab),c∉s->brk c (s++c::r)=some (s,r)
 | [],r,_=>by grind[brk]
 |d::s,r,h=>by
  rw[List.cons_append,brk,if_neg (fun e=>h (by grind)),mq s r (fun hm=>h (List.mem_cons_of_mem _ hm))];rfl
def e8:Option Nat->UInt8
 |some _=>41
 |none=>34
theorem qW:∀(f:Nat) (m:Option Nat) (t:ab) (e:UInt8) (x r:ab),aM f m t=some (e::x,r)->t.head? =some e:=by
 intro f m t e x r h
 cases f with
 |zero=>cases m<;>cases h
 |succ f=>
  cases t with
  |nil=>cases m<;>cases h
  |cons c t=>
   have one:∀(o:Option (ab×ab)) (g:ab->ab),(o.map fun x=>(c::g x.1,x.2))=some (e::x,r)->c=e:=by
    simp_all
   have two:∀(o o':Option (ab×ab)) (g:ab->ab->ab) (k:ab×ab->Option (ab×ab)),(o.bind fun y=>(k y).map fun x=>(c::g y.1 x.1,x.2))=some (e::x,r)->c=e:=by
    intro o o' g k h
    cases o with
    |none=>cases h
    |some y=>simp only[Option.bind_some]at h;exact one _ _ h
   show some c=some e
   congr 1
   cases m with
   |some d=>
    rw[aP]at h;split at h
    ·rename_i hc;subst hc
     split at h
     ·cases h
     ·exact one _ (fun z=>_::z) h
    ·split at h
     ·rename_i hc;subst hc;exact two _ none (fun a b=>a++39::b) _ h
     ·split at h
      ·rename_i hc;subst hc;exact two _ none (fun a b=>a++34::b) _ h
      ·split at h
       ·simp_all
       ·split at h
        ·rename_i hc;subst hc
         split at h
         ·cases h
         simp_all
        simp_all
   |none=>
    rw[bI]at h;split at h
    ·cases h
    ·split at h
     ·rename_i hc;subst hc
      split at h
      ·cases h
      ·exact one _ (fun z=>_::z) h
     ·split at h
      ·rename_i hc;obtain⟨hc,_⟩:=hc;subst hc;exact two _ none (fun a b=>40::(a++41::b)) _ h
      simp_all
theorem sv:∀(f:Nat) (m:Option Nat) (s a r:ab),aM f m s=some (a,r)->∀(g:Nat) (x:ab),f<=g->aM g m (a++e8 m::x)=some (a,x):=by
 intro f
 induction f with
 |zero=>intro m s a r h;cases m<;>cases h
 |succ f ih=>
  intro m s a r h g x hg;obtain⟨g,rfl⟩:∃g',g=g'+1:=⟨g-1,by omega⟩
  cases s with
  |nil=>cases m<;>cases h
  |cons c t=>
   have get:∀(o:Option (ab×ab)) (k:ab->ab),(o.map fun x=>(k x.1,x.2))=some (a,r)->∃y,o=some (y,r)/\a=k y:=by
    simp_all
   cases m with
   |some d=>
    rw[aP]at h;by_cases h92:c=92
    ·subst h92
     rw[if_pos rfl]at h
     cases t with
     |nil=>cases h
     |cons e t'=>
      obtain⟨y,h1,rfl⟩:=get _ (fun z=>92::e::z) h;grind[aP]
    rw[if_neg h92]at h;by_cases h39:c=39
    ·subst h39
     rw[if_pos rfl]at h
     cases hb:brk 39 t with
     |none=>grind
     |some z=>
      obtain⟨z1,z2⟩:=z;rw[hb]at h;simp only[Option.bind_some]at h;obtain⟨y,h1,rfl⟩:=get _ (fun w=>39::(z1++39::w)) h;have:=mq z1 (y++e8 (some d)::x) (bq hb).2;grind[aP]
    rw[if_neg h39]at h;by_cases h34:c=34
    ·subst h34
     rw[if_pos rfl]at h
     cases hb:aM f none t with
     |none=>grind
     |some z=>
      obtain⟨z1,z2⟩:=z;rw[hb]at h;simp only[Option.bind_some]at h;obtain⟨y,h1,rfl⟩:=get _ (fun w=>34::(z1++34::w)) h;have:=ih _ _ _ _ hb g (y++e8 (some d)::x) (by omega);rw[List.cons_append,List.append_assoc,List.cons_append,aP,if_neg (by decide),if_neg (by decide),if_pos rfl];grind[e8]
    rw[if_neg h34]at h;by_cases h40:c=40
    ·subst h40
     rw[if_pos rfl]at h;obtain⟨y,h1,rfl⟩:=get _ (fun w=>40::w) h;rw[List.cons_append,aP,if_neg (by decide),if_neg (by decide),if_neg (by decide),if_pos rfl];have:=ih _ _ _ _ h1 g x (by omega);grind[e8]
    rw[if_neg h40]at h;by_cases h41:c=41
    ·subst h41
     rw[if_pos rfl]at h;by_cases hd:d=1
     ·subst hd
      rw[if_pos rfl]at h;simp only[Option.some.injEq,Prod.mk.injEq]at h;obtain⟨rfl,rfl⟩:=h;rfl
     ·rw[if_neg hd]at h
      obtain⟨y,h1,rfl⟩:=get _ (fun w=>41::w) h;rw[List.cons_append,aP,if_neg (by decide),if_neg (by decide),if_neg (by decide),if_neg (by decide),if_pos rfl,if_neg hd];have:=ih _ _ _ _ h1 g x (by omega);grind[e8]
    ·rw[if_neg h41]at h
     obtain⟨y,h1,rfl⟩:=get _ (fun w=>c::w) h;grind[aP]
   |none=>
    rw[bI]at h;by_cases h34:c=34
    ·rw[if_pos h34]at h
     simp only[Option.some.injEq,Prod.mk.injEq]at h;obtain⟨rfl,rfl⟩:=h;rfl
    rw[if_neg h34]at h;by_cases h92:c=92
    ·subst h92
     rw[if_pos rfl]at h
     cases t with
     |nil=>cases h
     |cons e t'=>
      obtain⟨y,h1,rfl⟩:=get _ (fun z=>92::e::z) h;grind[bI]
    rw[if_neg h92]at h;by_cases h36:c=36/\t.head? =some 40
    ·rw[if_pos h36]at h
     obtain⟨rfl,_⟩:=h36
     cases hb:aM f (some 1) (t.drop 1)with
     |none=>grind
     |some z=>
      obtain⟨z1,z2⟩:=z;rw[hb]at h;simp only[Option.bind_some]at h;obtain⟨y,h1,rfl⟩:=get _ (fun w=>36::40::(z1++41::w)) h;have:=ih _ _ _ _ hb g (y++e8 none::x) (by omega);rw[List.cons_append,List.cons_append,List.append_assoc,List.cons_append,bI,if_neg (by decide),if_neg (by decide),if_pos ⟨rfl,rfl⟩];grind[e8]
    ·rw[if_neg h36]at h
     obtain⟨y,h1,rfl⟩:=get _ (fun w=>c::w) h;have hn:¬(c=36/\(y++e8 none::x).head? =some 40):=by
      rintro⟨e1,e2⟩
      cases y with
      |nil=>cases e2
      |cons e y=>
       grind[qW]
     grind[bI]
theorem fU:∀(f g:Nat) (m:Option Nat) (s:ab),s.length<f->s.length<g->aM f m s=aM g m s:=by
 intro f
 induction f with
 |zero=>omega
 |succ f ih=>
  intro g m s hf hg;obtain⟨g,rfl⟩:∃g',g=g'+1:=⟨g-1,by omega⟩
  cases s with
  |nil=>cases m<;>rfl
  |cons c t=>
   simp only[List.length_cons]at hf hg;have st:∀m',aM f m' t=aM g m' t:=fun m'=>ih g m' t (by omega) (by omega)
   cases m with
   |some d=>
    rw[aP,aP];split
    ·grind
    ·split
     ·cases hb:brk 39 t with
      |none=>rfl
      |some y=>
       obtain⟨y1,y2⟩:=y;have:=congrArg List.length (bq hb).1;grind
     ·split
      ·rw[st]
       cases hb:aM g none t with
       |none=>rfl
       |some y=>
        obtain⟨y1,y2⟩:=y;have:=mj _ _ _ _ _ hb;grind
      grind
   |none=>
    rw[bI,bI];split
    ·rfl
    ·split
     ·grind
     ·split
      ·rw[ih g (some 1) (t.drop 1) (by grind) (by grind)]
       cases hb:aM g (some 1) (t.drop 1)with
       |none=>rfl
       |some y=>
        obtain⟨y1,y2⟩:=y;have:=mj _ _ _ _ _ hb;grind
      ·rw[st]
def sx(a:ab):Prop:=dm (a++[41])=some (a,[])
theorem qX{s a r:ab}(h:dm s=some (a,r)):sx a:=by
 unfold sx dm at*
 have h1:=sv _ _ _ _ _ h (s.length+1+(a++[41]).length+1) [] (by omega)
 rw[fU _ (s.length+1+(a++[41]).length+1) _ _ (by omega) (by omega)]
 exact h1
def pI(a:ab):Prop:=a≠[]/\125∉a/\bj a=a.length
theorem iK:∀s:ab,bJ (s.take (bJ s))=bJ s/\∀c∈s.take (bJ s),c≠125
 | []=>by grind
 |c::t=>by
  rw[bJ];split
  ·rename_i h
   obtain⟨h1,h2⟩:=iK t;rw[List.take_succ_cons,bJ,if_pos h,h1];refine⟨rfl,fun d hd=>?_⟩;rcases List.mem_cons.1 hd with rfl|hd
   ·rintro rfl;revert h;decide
   grind
  ·simp[bJ]
theorem ot(s:ab):named (s.take (named s))=named s/\∀c∈s.take (named s),c≠125:=by
 cases s with
 |nil=>grind
 |cons c t=>
  rw[named];split
  ·rename_i h
   obtain⟨h1,h2⟩:=iK t;rw[List.take_succ_cons,named,if_pos h,h1];refine⟨rfl,fun d hd=>?_⟩;rcases List.mem_cons.1 hd with rfl|hd
   ·rintro rfl;revert h;decide
   grind
  ·simp[named]
theorem iL{s:ab}{n:Nat}(h:named s=n+1):bj s=n+1:=by unfold bj;rw[h]
theorem kF{c:UInt8}{t:ab}(h:named (c::t)=0):bj (c::t)=if ed c then 1 else 0:=by grind[bj]
theorem mr{s:ab}(h:0<bj s):pI (s.take (bj s)):=by
 have hle:=gR s
 have hl:(s.take (bj s)).length=bj s:=by grind
 have hne:s.take (bj s)≠[]:=fun e=>by grind
 unfold pI
 rw[hl]
 refine⟨hne,?_⟩
 cases hn:named s with
 |succ n=>
  rw[iL hn];obtain⟨h1,h2⟩:=ot s;rw[hn]at h1 h2;exact⟨fun hm=>h2 _ hm rfl,iL h1⟩
 |zero=>
  cases s with
  |nil=>cases h
  |cons c t=>
   rw[kF hn]at h |-
   by_cases hs:ed c=true
   ·rw[if_pos hs]at h |-
    have hc:de c=false:=by
     grind[named,de]
    refine⟨?_,?_⟩
    ·simp;rintro rfl;revert hs;decide
    grind[bj,named,kF]
   grind
theorem sy{s a r:ab}(h:brk 125 s=some (a,r))(h2:¬(a=[]\/bj a≠a.length)):pI a:=by
 simp only[not_or,Decidable.not_not]at h2
 exact⟨h2.1,(bq h).2,h2.2⟩
def xH(c:UInt8):Bool:=!ends c&&c != 34&&c != 39&&c != 36&&c != 92
def bare(t:ab):Prop:=t≠[]/\∀c∈t,xH c=true
def sA(p:Prt):Prop:=(p.k=0/\(p.q=false->bare p.t))\/(p.k=1/\pI p.t)\/(p.k=2/\sx p.t)
def Adj:List Prt->Prop
 | []=>True
 | [_]=>True
 |a::b::l=>¬(a.k=0/\b.k=0/\a.q=b.q)/\Adj (b::l)
def WF(ps:List Prt):Prop:=(∀p∈ps,sA p)/\Adj ps
theorem xW:WF []:=⟨by simp,trivial⟩
theorem pJ{p:Prt}{ps:List Prt}(h:WF (p::ps)):WF ps:=by
 refine⟨fun q hq=>h.1 q (List.mem_cons_of_mem _ hq),?_⟩
 cases ps with
 |nil=>trivial
 |cons a l=>exact h.2.2
theorem kG(p:Prt):∀(ps:List Prt) (s:ab) (q:Bool),∃p' l,addT (p::ps) s q=p'::l/\p'.k=p.k/\p'.q=p.q
 | [],s,q=>by
  rw[addT];split
  ·grind
  grind
 |b::l,s,q=>⟨_,_,rfl,rfl,rfl⟩
theorem eB(ps:List Prt)(s:ab)(q:Bool):addT ps s q≠[]:=by
 cases ps with
 |nil=>simp[addT]
 |cons p ps=>
  obtain⟨p',l,h,_⟩:=kG p ps s q;grind
theorem gS:∀(ps:List Prt) (s:ab) (q:Bool),WF ps->(q=true\/bare s)->WF (addT ps s q)
 | [],s,q,_,hq=>by
  refine⟨fun p hp=>?_,trivial⟩;simp only[addT,List.mem_singleton]at hp;subst hp;left
  grind
 | [p],s,q,h,hq=>by
  have hp:=h.1 p (by simp);rw[addT];split
  ·rename_i hk
   refine⟨fun x hx=>?_,trivial⟩;simp only[List.mem_singleton]at hx;subst hx;left
   refine⟨rfl,fun hf=>?_⟩;simp only at hf |-
   rcases hq with e|e
   ·grind
   ·rcases hp with⟨_,h2⟩|⟨h2,_⟩|⟨h2,_⟩
    ·obtain⟨b1,b2⟩:=h2 (by grind)
     refine⟨by simp[b1],fun c hc=>?_⟩;rcases List.mem_append.1 hc with hc|hc
     ·grind
     ·exact e.2 c hc
    ·omega
    omega
  ·rename_i hk
   refine⟨fun x hx=>?_,?_⟩
   ·rcases List.mem_cons.1 hx with rfl|hx
    ·exact hp
    ·simp only[List.mem_singleton]at hx
     subst hx;left
     grind
   ·exact⟨fun e=>hk ⟨e.1,e.2.2⟩,trivial⟩
 |p::b::l,s,q,h,hq=>by
  have ih:=gS (b::l) s q (pJ h) hq;have e:addT (p::b::l) s q=p::addT (b::l) s q:=rfl;rw[e];obtain⟨p',l',he,hk,hq'⟩:=kG b l s q;rw[he]at ih |-
  refine⟨fun x hx=>?_,?_,ih.2⟩
  ·rcases List.mem_cons.1 hx with rfl|hx
   ·exact h.1 _ (by simp)
   ·exact ih.1 x hx
  ·rw[hk,hq'];exact h.2.1
theorem jb:∀(ps:List Prt) (p:Prt),WF ps->sA p->p.k≠0->WF (ps++[p])
 | [],p,_,hp,_=>⟨fun x hx=>by grind,trivial⟩
 | [a],p,h,hp,hk=>by
  refine⟨fun x hx=>?_,fun e=>hk e.2.1,trivial⟩;simp only[List.cons_append,List.nil_append,List.mem_cons,List.not_mem_nil,or_false]at hx;rcases hx with rfl|rfl
  ·exact h.1 _ (by simp)
  omega
 |a::b::l,p,h,hp,hk=>by
  have ih:=jb (b::l) p (pJ h) hp hk;refine⟨fun x hx=>?_,h.2.1,ih.2⟩;rcases List.mem_cons.1 hx with rfl|hx
  ·exact h.1 _ (by simp)
  ·exact ih.1 x hx
def sB(n0:Nat)(st:St):Prop:=WF st.1/\st.1≠[]/\n0<=st.2.2
theorem iM{ps:List Prt}{s:ab}{n n0:Nat}{q:Bool}{st:St}(hw:WF ps)(hn:n0<=n)(h:au ps s n q=.ok st):sB n0 st:=by
 unfold au at h
 split at h
 ·cases hp:dm (s.drop 1)with
  |none=>grind
  |some z=>
   obtain⟨a,r⟩:=z;rw[hp]at h;injection h with h
   rw[<- h];exact⟨jb _ _ hw (.inr (.inr ⟨rfl,qX hp⟩)) (by simp),by simp,by grind⟩
 ·split at h
  ·cases hp:brk 125 (s.drop 1)with
   |none=>grind
   |some z=>
    obtain⟨a,r⟩:=z;rw[hp]at h;simp only at h;split at h
    ·cases h
    ·rename_i hc
     injection h with h
     rw[<- h];exact⟨jb _ _ hw (.inr (.inl ⟨rfl,sy hp hc⟩)) (by simp),by simp,hn⟩
  ·split at h
   ·rename_i hpp
    injection h with h
    rw[<- h];exact⟨jb _ _ hw (.inr (.inl ⟨rfl,mr hpp⟩)) (by simp),by simp,hn⟩
   ·injection h with h
    rw[<- h];exact⟨gS _ _ _ hw (.inl rfl),eB _ _ _,hn⟩
theorem mt{m0 n0:Nat}:∀(f:Nat) (ps:List Prt) (l:ab) (n:Nat) (st:St),WF ps->ps≠[]->n0<=n->a_ f m0 (ps,l,n)=.ok st->sB n0 st:=by
 intro f
 induction f with
 |zero=>intro ps l n st _ _ _ h;cases h
 |succ f ih=>
  intro ps l n st hw hne hn h
  cases l with
  |nil=>cases h
  |cons c t=>
   rw[aN]at h;split at h
   ·injection h with h;rw[<- h];exact⟨hw,hne,hn⟩
   ·split at h
    ·cases hd:au ps t n true with
     |bad m=>grind
     |ok z=>
      rw[hd]at h;obtain⟨z1,z2,z3⟩:=z;obtain⟨g1,g2,g3⟩:=iM hw hn hd;grind
    ·have ha:∀s,WF (addT ps s true):=fun s=>gS _ _ _ hw (.inl rfl)
     split at h
     ·grind[eB]
     ·grind[eB]
theorem jx{ps:List Prt}{c:UInt8}{t:ab}{n n0:Nat}{st:St}(hw:WF ps)(hn:n0<=n)(hc:ends c=false)(hne:ps≠[]\/¬(c=92/\t.head? =some 10))(h:aV ps c t n=.ok st):sB n0 st:=by
 have ha:∀s,WF (addT ps s true):=fun s=>gS _ _ _ hw (.inl rfl)
 unfold aV at h
 split at h
 ·cases hb:brk 39 t with
  |none=>grind
  |some z=>
   obtain⟨a,r⟩:=z;rw[hb]at h;injection h with h
   rw[<- h];exact⟨ha _,eB _ _ _,by grind⟩
 ·rename_i h39
  split at h
  ·grind[mt,eB]
  ·rename_i h34
   split at h
   ·rename_i h92
    split at h
    ·injection h with h;rw[<- h];exact⟨ha _,eB _ _ _,hn⟩
    ·split at h
     ·rename_i hd
      injection h with h;rw[<- h]
      refine⟨hw,?_,by grind⟩;grind
     ·injection h with h;rw[<- h];exact⟨ha _,eB _ _ _,hn⟩
   ·rename_i h92
    split at h
    ·grind[iM]
    ·rename_i h36
     injection h with h;rw[<- h]
     refine⟨gS _ _ _ hw (.inr ⟨by simp,fun d hd=>?_⟩),eB _ _ _,hn⟩;grind[xH]
theorem qY{n0:Nat}:∀(f:Nat) (ps:List Prt) (l:ab) (n:Nat) (st:St),WF ps->ps≠[]->n0<=n->word f (ps,l,n)=.ok st->sB n0 st:=by
 intro f
 induction f with
 |zero=>intro ps l n st hw hne hn h;injection h with h;rw[<- h];exact⟨hw,hne,hn⟩
 |succ f ih=>
  intro ps l n st hw hne hn h
  cases l with
  |nil=>rw[word]at h;injection h with h;rw[<- h];exact⟨hw,hne,hn⟩
  |cons c t=>
   rw[aT]at h;split at h
   ·injection h with h;rw[<- h];exact⟨hw,hne,hn⟩
   ·rename_i hc
    cases hp:aV ps c t n with
    |bad m=>grind
    |ok z=>
     rw[hp]at h;obtain⟨z1,z2,z3⟩:=z;obtain⟨g1,g2,g3⟩:=jx hw hn (by grind) (.inl hne) hp;grind
def xI(t:Tok):Prop:=t.kind<=3/\(t.kind=0->WF t.parts/\t.parts≠[]/\t.plain=bn t.parts)/\(t.kind≠0->t.parts=[]/\t.plain=[])/\(t.kind≠2->t.fd= -1)
def Step.good(n:Nat):Step->Prop
 |.skip _ m=>n<=m
 |.tok t _ m=>xI t/\t.line=n/\n<=m
 |.bad _=>True
theorem mu(l:ab)(fd:Int)(n m:Nat)(h:n<=m):(ioS l fd n m).good n:=by
 unfold ioS
 split<;>exact⟨⟨by simp[ioT],by simp[ioT],by simp[ioT],by simp[ioT]⟩,rfl,h⟩
theorem qZ(c:UInt8)(t:ab)(n:Nat):(ba c t n).good n:=by
 have op:∀s,xI (opT s n):=fun s=>⟨by simp[opT],by simp[opT],by simp[opT],by simp[opT]⟩
 unfold ba
 split
 ·exact Nat.le_refl _
 ·split
  ·exact Nat.le_refl _
  ·rename_i h32 h35
   split
   ·exact⟨⟨by simp,by simp,by simp,by simp⟩,rfl,by omega⟩
   ·rename_i h10
    split
    ·split
     ·exact⟨op _,rfl,Nat.le_refl _⟩
     ·exact⟨op _,rfl,Nat.le_refl _⟩
    ·rename_i h124
     split
     ·exact⟨op _,rfl,Nat.le_refl _⟩
     ·rename_i h40
      split
      ·grind[mu]
      ·rename_i h60
       split
       ·show n<=n+1;omega
       ·rename_i h92
        cases hw:word (t.length+2) ([],c::t,n)with
        |bad m=>trivial
        |ok st=>
         obtain⟨ps,r,m⟩:=st;have he:ends c=false:=by
          grind[ends]
         have hg:sB n (ps,r,m):=by
          rw[aT,he]at hw;simp only[Bool.false_eq_true,if_false]at hw
          cases hp:aV [] c t n with
          |bad m=>grind
          |ok z=>
           rw[hp]at hw;obtain⟨z1,z2,z3⟩:=z;obtain⟨g1,g2,g3⟩:=jx xW (Nat.le_refl n) he (.inr h92) hp;grind[qY]
         obtain⟨g1,g2,g3⟩:=hg;have hok:Step.good n (.tok ⟨0,[],bn ps,ps,-1,n⟩ r m):=⟨⟨by simp,fun _=>⟨g1,g2,rfl⟩,by simp,by simp⟩,rfl,g3⟩;grind[mu]
theorem iq(c:UInt8):∀l:ab,(brk c l=none/\Lib.indexByte l c= -1)\/∃a r,brk c l=some (a,r)/\Lib.indexByte l c=a.length
 | []=>.inl ⟨rfl,rfl⟩
 |d::t=>by
  rw[brk,Lib.indexByte];by_cases h:d=c
  ·grind
  ·rw[if_neg h,beq_false_of_ne h]
   rcases iq c t with⟨h1,h2⟩|⟨a,r,h1,h2⟩
   ·grind
   grind
def e_:Option Nat->UInt8
 |none=>34
 |some _=>41
theorem dL:∀(f:Nat) (m:Option Nat) (s a r:ab),aM f m s=some (a,r)->s=a++e_ m::r:=by
 intro f
 induction f with
 |zero=>intro m s a r h;cases m<;>cases h
 |succ f ih=>
  intro m s a r h
  cases s with
  |nil=>cases m<;>cases h
  |cons c t=>
   have one:∀(m':Option Nat) (t':ab) (g:ab->ab) (p:ab),((aM f m' t').map fun x=>(g x.1,x.2))=some (a,r)->e_ m'=e_ m->(∀x,g x=p++x)->c::t=p++t'->c::t=a++e_ m::r:=by
    intro m' t' g p h hc hg hp
    cases hs:aM f m' t' with
    |none=>grind
    |some y=>
     grind
   cases m with
   |some d=>
    rw[aP]at h;split at h
    ·rename_i h92
     subst h92;split at h
     ·cases h
     ·rename_i e t'
      exact one _ _ (fun z=>92::e::z) [92,e] h rfl (fun _=>rfl) rfl
    ·split at h
     ·rename_i h39
      subst h39
      cases hb:brk 39 t with
      |none=>grind
      |some y=>
       rw[hb]at h;simp only[Option.bind_some]at h;obtain⟨h1,_⟩:=bq (a:=y.1) (r:=y.2) hb;refine one _ _ (fun z=>39::(y.1++39::z)) (39::(y.1++[39])) h rfl (fun _=>by simp) ?_;grind
     ·split at h
      ·rename_i h34
       subst h34
       cases hb:aM f none t with
       |none=>grind
       |some y=>
        rw[hb]at h;simp only[Option.bind_some]at h;have h1:=ih _ _ y.1 y.2 hb;refine one _ _ (fun z=>34::(y.1++34::z)) (34::(y.1++[34])) h rfl (fun _=>by simp) ?_;grind[e_]
      ·split at h
       ·rename_i h40
        subst h40;exact one _ _ (fun z=>40::z) [40] h rfl (fun _=>rfl) rfl
       ·split at h
        ·rename_i h41
         subst h41;split at h
         ·simp only[Option.some.injEq,Prod.mk.injEq]at h
          obtain⟨rfl,rfl⟩:=h;rfl
         ·exact one _ _ (fun z=>41::z) [41] h rfl (fun _=>rfl) rfl
        ·exact one _ _ (fun z=>c::z) [c] h rfl (fun _=>rfl) rfl
   |none=>
    rw[bI]at h;split at h
    ·rename_i h34
     subst h34;simp only[Option.some.injEq,Prod.mk.injEq]at h;obtain⟨rfl,rfl⟩:=h;rfl
    ·split at h
     ·rename_i h92
      subst h92;split at h
      ·cases h
      ·rename_i e t'
       exact one _ _ (fun z=>92::e::z) [92,e] h rfl (fun _=>rfl) rfl
     ·split at h
      ·rename_i h36
       obtain⟨rfl,h40⟩:=h36
       cases hb:aM f (some 1) (t.drop 1)with
       |none=>grind
       |some y=>
        rw[hb]at h;simp only[Option.bind_some]at h;have h1:=ih _ _ y.1 y.2 hb;refine one _ _ (fun z=>36::40::(y.1++41::z)) (36::40::(y.1++[41])) h rfl (fun _=>by simp) ?_
        cases t with
        |nil=>cases h40
        |cons e t=>
         grind[e_]
      ·exact one _ _ (fun z=>c::z) [c] h rfl (fun _=>rfl) rfl
def pl(i:Nat):Option (ab×ab)->Int
 |none=> -1
 |some x=>(i:Int)+x.1.length
def cr(m:Option Nat)(i:Nat)(l:ab):Int:=pl i (aM (l.length+1) m l)
theorem iN{m:Option Nat}{i f:Nat}{l:ab}(h:l.length<f):cr m i l=pl i (aM f m l):=by
 grind[cr,fU]
theorem e'(i n:Nat)(g:ab->ab)(hg:∀x,(g x).length=x.length+n)(o:Option (ab×ab)):pl i (o.map fun x=>(g x.1,x.2))=pl (i+n) o:=by
 cases o with
 |none=>rfl
 |some x=>grind[pl]
theorem lm(m:Option Nat)(i:Nat):cr m i []= -1:=by cases m<;>rfl
theorem sE(m:Option Nat)(i:Nat):cr m i [92]= -1:=by cases m<;>rfl
theorem sF(m:Option Nat)(i:Nat)(e:UInt8)(t:ab):cr m i (92::e::t)=cr m (i+2) t:=by
 have h:cr m (i+2) t=pl (i+2) (aM (t.length+2) m t):=iN (by omega)
 rw[h]
 show pl i (aM (t.length+2+1) m (92::e::t))=_
 cases m with
 |none=>exact e' i 2 (fun x=>92::e::x) (fun _=>rfl) _
 |some d=>exact e' i 2 (fun x=>92::e::x) (fun _=>rfl) _
theorem zt(d i:Nat)(t:ab):(Lib.indexByte t 39= -1/\cr (some d) i (39::t)= -1)\/∃n:Nat,Lib.indexByte t 39=n/\n<t.length/\cr (some d) i (39::t)=cr (some d) (i+n+2) (t.drop (n+1)):=by
 rcases iq 39 t with⟨h1,h2⟩|⟨a,r,h1,h2⟩
 ·left;refine⟨h2,?_⟩
  show pl i (aM (t.length+1+1) (some d) (39::t))=_
  rw[aP,if_neg (by decide),if_pos rfl,h1];rfl
 ·right
  obtain⟨ht,_⟩:=bq h1;refine⟨a.length,h2,by grind,?_⟩;have hd:t.drop (a.length+1)=r:=by simp_all
  have hlt:r.length<t.length+1:=by grind
  rw[hd,iN hlt];show pl i (aM (t.length+1+1) (some d) (39::t))=_
  rw[aP,if_neg (by decide),if_pos rfl,h1];exact e' i (a.length+2) (fun x=>39::(a++39::x)) (fun x=>by grind) _
theorem ou{m:Option Nat}{t:ab}:(cr m 0 t= -1/\∀f,t.length<f->aM f m t=none)\/∃(n:Nat) (a r:ab),cr m 0 t=n/\n=a.length/\n<t.length/\r=t.drop (n+1)/\∀f,t.length<f->aM f m t=some (a,r):=by
 cases h:aM (t.length+1) m t with
 |none=>left;exact⟨by unfold cr;rw[h];rfl,fun f hf=>by grind[fU]⟩
 |some y=>
  obtain⟨a,r⟩:=y;right
  have ht:=dL _ _ _ _ _ h;refine⟨a.length,a,r,by grind[cr,pl],rfl,?_,?_,fun f hf=>by grind[fU]⟩
  ·grind
  simp_all
theorem zu(d i:Nat)(t:ab):(cr none 0 t= -1/\cr (some d) i (34::t)= -1)\/∃n:Nat,cr none 0 t=n/\n<t.length/\cr (some d) i (34::t)=cr (some d) (i+n+2) (t.drop (n+1)):=by
 have hs:cr (some d) i (34::t)=pl i ((aM (t.length+1) none t).bind fun y=>(aM (t.length+1) (some d) y.2).map fun x=>(34::(y.1++34::x.1),x.2)):=by
  show pl i (aM (t.length+1+1) (some d) (34::t))=_
  grind[aP]
 rcases ou (m:=none) (t:=t)with⟨h1,h2⟩|⟨n,a,r,h1,h2,h3,h4,h5⟩
 ·left;exact⟨h1,by rw[hs,h2 _ (by omega)];rfl⟩
 ·right
  refine⟨n,h1,h3,?_⟩;rw[hs,h5 _ (by omega),<- h4];have:r.length<t.length+1:=by grind
  rw[iN this];exact e' i (n+2) (fun x=>34::(a++34::x)) (fun x=>by grind) _
theorem zw(d i:Nat)(t:ab):cr (some d) i (40::t)=cr (some (d+1)) (i+1) t:=by
 show pl i (aM (t.length+1+1) (some d) (40::t))=_
 rw[aP,if_neg (by decide),if_neg (by decide),if_neg (by decide),if_pos rfl,iN (Nat.lt_succ_self _)]
 simp_all[e']
theorem zx(i:Nat)(t:ab):cr (some 1) i (41::t)=i:=by
 show pl i (aM (t.length+1+1) (some 1) (41::t))=_
 grind[aP,pl]
theorem vt(d i:Nat)(t:ab)(hd:d≠1):cr (some d) i (41::t)=cr (some (d-1)) (i+1) t:=by
 show pl i (aM (t.length+1+1) (some d) (41::t))=_
 rw[aP,if_neg (by decide),if_neg (by decide),if_neg (by decide),if_neg (by decide),if_pos rfl,if_neg hd,iN (Nat.lt_succ_self _)]
 simp_all[e']
theorem vu(d i:Nat)(c:UInt8)(t:ab)(h1:c≠92)(h2:c≠39)(h3:c≠34)(h4:c≠40)(h5:c≠41):cr (some d) i (c::t)=cr (some d) (i+1) t:=by
 show pl i (aM (t.length+1+1) (some d) (c::t))=_
 rw[aP,if_neg h1,if_neg h2,if_neg h3,if_neg h4,if_neg h5,iN (Nat.lt_succ_self _)]
 simp_all[e']
theorem xX(i:Nat)(t:ab):cr none i (34::t)=i:=by
 show pl i (aM (t.length+1+1) none (34::t))=_
 grind[bI,pl]
theorem xY(i:Nat)(t:ab):(cr (some 1) 0 t= -1/\cr none i (36::40::t)= -1)\/∃n:Nat,cr (some 1) 0 t=n/\n<t.length/\cr none i (36::40::t)=cr none (i+n+3) (t.drop (n+1)):=by
 have hs:cr none i (36::40::t)=pl i ((aM (t.length+2) (some 1) t).bind fun y=>(aM (t.length+2) none y.2).map fun x=>(36::40::(y.1++41::x.1),x.2)):=by
  show pl i (aM (t.length+2+1) none (36::40::t))=_
  grind[bI]
 rcases ou (m:=some 1) (t:=t)with⟨h1,h2⟩|⟨n,a,r,h1,h2,h3,h4,h5⟩
 ·left;exact⟨h1,by rw[hs,h2 _ (by omega)];rfl⟩
 ·right
  refine⟨n,h1,h3,?_⟩;rw[hs,h5 _ (by omega),<- h4];have:r.length<t.length+2:=by grind
  rw[iN this];exact e' i (n+3) (fun x=>36::40::(a++41::x)) (fun x=>by grind) _
theorem vv(i:Nat)(c:UInt8)(t:ab)(h1:c≠34)(h2:c≠92)(h3:¬(c=36/\t.head? =some 40)):cr none i (c::t)=cr none (i+1) t:=by
 show pl i (aM (t.length+1+1) none (c::t))=_
 rw[bI,if_neg h1,if_neg h2,if_neg h3,iN (Nat.lt_succ_self _)]
 simp_all[e']
theorem q7(t:ab):(dm t=none/\cr (some 1) 0 t= -1)\/∃(a r:ab),dm t=some (a,r)/\cr (some 1) 0 t=a.length/\a.length<t.length/\a=t.take a.length/\r=t.drop (a.length+1):=by
 rcases ou (m:=some 1) (t:=t)with⟨h1,h2⟩|⟨n,a,r,h1,h2,h3,h4,h5⟩
 ·left;exact⟨h2 _ (by omega),h1⟩
 ·right
  have h6:=h5 (t.length+1) (by omega);refine⟨a,r,h6,by omega,by omega,?_,by grind⟩;have:=dL _ _ _ _ _ h6;grind
def tot(ps:List Prt):Nat:=(ps.map (·.t.length)).sum
theorem mv(ps:List Prt)(p:Prt):tot (ps++[p])=tot ps+p.t.length:=by simp[tot]
def sz(ps:List Prt):Nat:=ps.length+tot ps
theorem lo(ps:List Prt)(p:Prt):sz (ps++[p])=sz ps+1+p.t.length:=by grind[sz,mv]
theorem dS:∀(ps:List Prt) (s:ab) (q:Bool),sz (addT ps s q)<=sz ps+1+s.length
 | [],s,q=>by simp[addT,sz,tot]
 | [p],s,q=>by
  grind[addT,sz,tot]
 |a::b::i,s,q=>by
  show sz (a::addT (b::i) s q)<=_
  have:=dS (b::i) s q;grind[sz,tot]
theorem mw(a:ab):lf a<=a.length:=List.count_le_length
theorem ei{ps:List Prt}{s:ab}{n:Nat}{q:Bool}{st:St}(h:au ps s n q=.ok st):sz st.1+st.2.1.length<=sz ps+s.length+2/\n<=st.2.2/\st.2.2+st.2.1.length<=n+s.length/\st.2.1.length<=s.length:=by
 unfold au at h
 split at h
 ·rename_i h40
  cases hp:dm (s.drop 1)with
  |none=>grind
  |some z=>
   obtain⟨a,r⟩:=z;rw[hp]at h;injection h with h
   rw[<- h];have ht:=congrArg List.length (dL _ _ _ _ _ hp);grind[mw,lo]
 ·split at h
  ·cases hp:brk 125 (s.drop 1)with
   |none=>grind
   |some z=>
    obtain⟨a,r⟩:=z;rw[hp]at h;simp only at h;split at h
    ·cases h
    ·injection h with h
     rw[<- h];have ht:=congrArg List.length (bq hp).1;grind[lo]
  grind[gR,lo,dS]
theorem my(n0:Nat):∀(f g:Nat) (ps:List Prt) (l:ab) (n:Nat),l.length<f->l.length<g->a_ f n0 (ps,l,n)=a_ g n0 (ps,l,n):=by
 intro f
 induction f with
 |zero=>omega
 |succ f ih=>
  intro g ps l n h1 h2;obtain⟨g,rfl⟩:∃g',g=g'+1:=⟨g-1,by omega⟩
  cases l with
  |nil=>rfl
  |cons c t=>
   simp only[List.length_cons]at h1 h2;rw[aN,aN];by_cases h34:c=34
   ·grind
   rw[if_neg h34,if_neg h34];by_cases h36:c=36
   ·rw[if_pos h36,if_pos h36]
    cases hd:au ps t n true with
    |bad m=>rfl
    |ok x=>
     obtain⟨ps',r,m⟩:=x;have:r.length<=t.length:=(ei hd).2.2.2;grind
   grind
def dbl(n0:Nat)(x:St):R St:=a_ (x.2.1.length+1) n0 x
theorem lp(n0 f:Nat)(ps:List Prt)(l:ab)(n:Nat)(h:l.length<f):a_ f n0 (ps,l,n)=dbl n0 (ps,l,n):=my n0 _ _ _ _ _ h (Nat.lt_succ_self _)
theorem vy(n0:Nat)(ps:List Prt)(n:Nat):dbl n0 (ps,[],n)=.bad n0:=rfl
theorem vA(n0:Nat)(ps:List Prt)(t:ab)(n:Nat):dbl n0 (ps,34::t,n)=.ok (ps,t,n):=by
 show a_ (t.length+1+1) n0 _=_
 grind[aN]
theorem ov(n0:Nat)(ps:List Prt)(t:ab)(n:Nat):dbl n0 (ps,36::t,n)=(match au ps t n true with
  |.bad m=>.bad m
  |.ok x=>dbl n0 x):=by
 show a_ (t.length+1+1) n0 _=_
 rw[aN,if_neg (by decide),if_pos rfl]
 cases hd:au ps t n true with
 |bad m=>rfl
 |ok x=>
  obtain⟨ps',r,m⟩:=x;have:r.length<=t.length:=(ei hd).2.2.2;grind[lp]
theorem vB(n0:Nat)(ps:List Prt)(d:UInt8)(r:ab)(n:Nat)(h:esc d=true):dbl n0 (ps,92::d::r,n)=dbl n0 (addT ps [d] true,r,n):=by
 show a_ (r.length+1+1+1) n0 _=_
 grind[aN,esc,lp]
theorem lq(n0:Nat)(ps:List Prt)(c:UInt8)(t:ab)(n:Nat)(h1:c≠34)(h2:c≠36)(h3:c≠92\/∀d r,t=d::r->esc d=false):dbl n0 (ps,c::t,n)=dbl n0 (addT ps [c] true,t,n+lf [c]):=by
 show a_ (t.length+1+1) n0 _=_
 rw[aN,if_neg h1,if_neg h2]
 by_cases h92:c=92
 ·subst h92
  rw[if_pos rfl]
  cases t with
  |nil=>rfl
  |cons d r=>
   have:=(h3.resolve_left (by simp)) d r rfl;show(if esc d then _ else _)=_
   rw[if_neg (by grind)];exact lp n0 _ _ _ _ (by simp)
 grind[lp]
def Sz(at_ ln:Nat)(ps:List Prt):Prop:=sz ps<=2*at_/\ln<=at_+1
end
end Go.Proofs.YtgboffbbpmileaaGreatDoor
