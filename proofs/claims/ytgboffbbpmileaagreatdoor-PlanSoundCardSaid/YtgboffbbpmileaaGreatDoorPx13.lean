/- Lemmas and walks for the law VLawPSound (part 13). -/
import Derived.Test.YtgboffbbpmileaaGreatDoorPx12
import Derived.Test.YtgboffbbpmileaaGreatDoorProg
import Derived.WalkKit
import Derived.Handy
import Derived.Deep.Light
import Derived.WalkSmall
import Derived.StillTailTactics
import Derived.Lib.Hide
import Derived.IntWalk
set_option maxRecDepth 20000
set_option maxHeartbeats 4000000
set_option linter.unusedVariables false
set_option linter.unusedSimpArgs false
namespace Go.Proofs.YtgboffbbpmileaaGreatDoor
open Go Go.RowKit
section
theorem y9:(Tryz.prog.info? 31).map (fun i=>(i.zero,i.size,i.bytes))=some (some (.agg #[.int .i64 0,.int .i64 0,.int .i64 0,.string ⟨#[]⟩,.slice none 0 0]),5,64):=by kernel_rfl
theorem kA{W:World}{t:TypeId}{v:Value}{n m c:Nat}{xs news:List Value}{ad:Addr}(hl:news.length=m*5)(hnews:∀j u,news[j]? =some u->W.cell? (ad.add j)=some u)(h1:∀u∈news,u.oneCell'=true)(hs:n+m<=1000000)(ho:W.ownsRow 0 31 5 v n xs):
  ∃v' w',(Builtin.append_ #[23,23] t #[v,.slice (some ad) m c]).run Tryz.prog W=.ok v' w'/\w'.ownsRow 0 31 5 v' (n+m) (xs++news)/\W.grownBy w' v.ownBlock/\(v'.ownBlock=v.ownBlock\/v'.ownBlock=some W.heap.size):=by
 obtain⟨i0,hi,hz0,hz1,hz2⟩:=bd y9
 have:=bi (P:=Tryz.prog) (w:=W) 0 23 t 31 i0 _ Tryz.underlying23 hi hz0 (by rw[hz1];rfl) (by rw[hz1];decide) v n xs (by rw[hz1];exact ho) ad m c news (by rw[hz1,hl]) hnews h1 (by unfold maxLen;omega) (by rw[hz2];omega) (Nat.zero_le _)
 rw[hz1]at this
 exact this
def eg(x:Ins×Value):List Value:=[.int .i64 (x.1.op:Int),.int .i64 x.1.a,.int .i64 x.1.b,bs x.1.s,x.2]
def xm(LZ LP:List (Nat×Obj))(v:Value)(n:Nat)(xs:List Value):Prop:=∃LC,LP=LC++LZ/\RowL 5 31 LC v n xs/\∀p∈LZ,∃c t,p.2=.cells c t (0,0)/\t≠118
def MkQ(W0:World)(LZ:List (Nat×Obj))(W:World)(b:Nat)(s:PS)(v:Value)(LP:List (Nat×Obj)):Prop:=
 ∃cv:List (Ins×Value),cv.map (·.1)=s.c/\xm LZ LP v cv.length (cv.flatMap eg)/\(∀x∈cv,PRow (b::keys LP) W x.2 x.1.w)/\Below W0.heap.size W0 W/\W0.heap.size<=b/\(∀p∈LP,W0.heap.size<=p.1)/\s.i<=s.n
def MkQ0(W0:World)(LZ:List (Nat×Obj))(W:World)(b:Nat)(s:PS)(v:Value)(LP:List (Nat×Obj)):Prop:=
 ∃cv:List (Ins×Value),cv.map (·.1)=s.c/\xm LZ LP v cv.length (cv.flatMap eg)/\(∀x∈cv,PRow (b::keys LP) W x.2 x.1.w)/\Below W0.heap.size W0 W/\W0.heap.size<=b/\(∀p∈LP,W0.heap.size<=p.1)/\s.i<=s.n+1
theorem MkQ.w{W0 W:World}{b:Nat}{s:PS}{v:Value}{LP LZ:List (Nat×Obj)}(h:MkQ W0 LZ W b s v LP):MkQ0 W0 LZ W b s v LP:=by
 obtain⟨cv,h1,h2,h3,h4,h5,h6,h7⟩:=h
 exact⟨cv,h1,h2,h3,h4,h5,h6,by omega⟩
theorem MkQ0.s{W0 W:World}{b:Nat}{s:PS}{v:Value}{LP LZ:List (Nat×Obj)}(h:MkQ0 W0 LZ W b s v LP)(hi:s.i<=s.n):MkQ W0 LZ W b s v LP:=by
 obtain⟨cv,h1,h2,h3,h4,h5,h6,h7⟩:=h
 exact⟨cv,h1,h2,h3,h4,h5,h6,hi⟩
theorem eT{W0 w W:World}{Y:List Nat}{L:List (Nat×Obj)}(h:Below W0.heap.size W0 w)(hk:Kn Y w W L)(hy:∀y∈Y,W0.heap.size<=y):Below W0.heap.size W0 W:=
 ⟨hk.os.trans h.os,hk.tape.trans h.tape,hk.output.trans h.output,Nat.le_trans h.size hk.size,fun k h1=>(hk.block k (Nat.lt_of_lt_of_le h1 h.size) (fun hm=>by have:=hy k hm;omega)).trans (h.block k h1)⟩
theorem MkQ.next{W0 w W:World}{b:Nat}{s:PS}{v:Value}{LP L LZ:List (Nat×Obj)}(h:MkQ W0 LZ w b s v LP)(hk:Kn (b::keys LP) w W L):MkQ W0 LZ W b s v LP:=by
 obtain⟨cv,h1,h2,h3,h4,h5,h6,h7⟩:=h
 refine⟨cv,h1,h2,fun x hx=>RowY.kn (h3 x hx) hk fun y hy=>.inl hy,eT h4 hk fun y hy=>?_,h5,h6,h7⟩
 rcases List.mem_cons.1 hy with rfl|hy
 ·exact h5
 ·obtain⟨p,hp,rfl⟩:=List.mem_map.1 hy;exact h6 p hp
theorem MkQ.snoc{W0 w W:World}{b:Nat}{s:PS}{n3 c3:Nat}{a3:Option Addr}{LP LP3 L LZ:List (Nat×Obj)}{cv:List (Ins×Value)}{x:Ins}{wv:Value}(h1:cv.map (·.1)=s.c)(h3:∀x∈cv,PRow (b::keys LP) w x.2 x.1.w)(hw:PRow (b::keys LP) w wv x.w)(h4:Below W0.heap.size W0 w)(h5:W0.heap.size<=b)(h6:∀p∈LP,W0.heap.size<=p.1)(h7:s.i<=s.n+1)
  (hr:xm LZ LP3 (.slice a3 n3 c3) (cv.length+1) (cv.flatMap eg++eg (x,wv))) (hk:Kn (b::keys LP) w W L) (hs:∀p∈LP3,p∈L):MkQ W0 LZ W b (s.add x) (.slice a3 n3 c3) LP3:=by
 have hX:∀y∈b::keys LP,W0.heap.size<=y:=fun y hy=>by
  rcases List.mem_cons.1 hy with rfl|hy
  ·exact h5
  ·obtain⟨p,hp,rfl⟩:=List.mem_map.1 hy;exact h6 p hp
 have hown:∀p∈LP3,w.heap.size<=p.1\/p.1∈b::keys LP:=fun p hp=>hk.own p (hs p hp)
 have hY:∀y∈b::keys LP3,y∈b::keys LP\/w.heap.size<=y:=fun y hy=>by
  rcases List.mem_cons.1 hy with rfl|hy
  ·exact .inl m0
  ·obtain⟨p,hp,rfl⟩:=List.mem_map.1 hy
   exact(hown p hp).symm
 refine⟨cv++[(x,wv)],by rw[List.map_append,h1];rfl,by simpa[List.flatMap_append]using hr,fun y hy=>?_,eT h4 hk hX,h5,fun p hp=>?_,by rw[bh];exact h7⟩
 ·rcases List.mem_append.1 hy with hy|hy
  ·exact RowY.kn (h3 y hy) hk hY
  ·rw[List.mem_singleton.1 hy];exact RowY.kn hw hk hY
 ·rcases hown p hp with e|e
  ·exact Nat.le_trans h4.size e
  ·exact hX _ e
theorem Kn.mz{X:List Nat}{w0 W:World}{p0:Nat×Obj}{LC LZ:List (Nat×Obj)}(h:Kn X w0 W (p0::(LC++LZ))):Kn X w0 W (p0::(LZ++LC)):=h.perml fun p=>by simp only[List.countP_cons,List.countP_append];omega
theorem fC(W0:World){LZ:List (Nat×Obj)}(b:Nat)(s:PS)(ao:Option Addr)(cap:Nat)(LP:List (Nat×Obj))(w:World)(x:Ins)(oz az bz:Int)(sz9:ByteArray)(wv:Value)(ho:oz=(x.op:Int))(ha:az=x.a)(hb:bz=x.b)(hs9:x.s=sz9.data.toList)(hw:PRow (b::keys LP) w wv x.w)(hm:s.n<900000)(hL0:Kn (b::keys LP) w w ((b,.cells #[.slice ao s.n cap,.int .i64 (s.i:Int),.int .i64 (s.e:Int)] 81 (0,0))::LP))(hM:MkQ0 W0 LZ w b s (.slice ao s.n cap) LP):
  Calls Tryz.prog 30 #[.pointer (some ⟨b,0,none⟩),.agg #[.int .i64 oz,.int .i64 az,.int .i64 bz,.string sz9,wv]] w (fun e w'=>∃(a2:Option Addr) (c2:Nat) (LP2:List (Nat×Obj)),e=.returned (.int .i64 (s.n:Int))/\Kn (b::keys LP) w w' ((b,.cells #[.slice a2 (s.add x).n c2,.int .i64 ((s.add x).i:Int),.int .i64 ((s.add x).e:Int)] 81 (0,0))::LP2)/\Hid (MkQ W0 LZ w' b ((s.add x)) (.slice a2 (s.add x).n c2) LP2)):=by
 obtain⟨ap,np,cp,rfl⟩:∃ap np cp,wv=.slice ap np cp:=by
  obtain⟨ap,cp,hv,_⟩:=id hw;exact⟨ap,_,cp,hv⟩
 obtain⟨cv,h1,⟨LC,rfl,h2,hz⟩,h3,h4,h5,h6,h7⟩:=hM
 have HF9:=yh (show ∀(LP3 L:List (Nat×Obj)) (W:World) (a3:Option Addr) (c3:Nat),xm LZ LP3 (.slice a3 (s.n+1) c3) (cv.length+1) (cv.flatMap eg++eg (x,.slice ap np cp))->Kn (b::keys (LC++LZ)) w W L->(∀p∈LP3,p∈L)->MkQ W0 LZ W b (s.add x) (.slice a3 (s.n+1) c3) LP3 from fun LP3 L W a3 c3 hr hk hsb=>MkQ.snoc h1 h3 hw h4 h5 h6 h7 hr hk hsb)
 have hins:eg (x,.slice ap np cp)=[.int .i64 oz,.int .i64 az,.int .i64 bz,.string sz9,.slice ap np cp]:=by
  simp only[eg,ho,ha,hb,hs9];exact congrArg (fun z=>[_,_,_,z,_]) (cz sz9)
 have hcl:cv.length=s.n:=by unfold PS.n;rw[<- h1,List.length_map]
 rw[bh]
 rw[hins,hcl]at HF9
 rw[hcl]at h2
 obtain⟨n,hn⟩:∃n,s.n=n:=⟨_,rfl⟩
 obtain⟨iz,hiz⟩:∃z:Int,(s.i:Int)=z:=⟨_,rfl⟩
 obtain⟨ez,hez⟩:∃z:Int,(s.e:Int)=z:=⟨_,rfl⟩
 have hiz2:((s.add x).i:Int)=iz:=hiz
 have hez2:((s.add x).e:Int)=ez:=hez
 rw[hn]at HF9 h2 hm hL0 |-
 rw[hiz,hez]at hL0
 rw[hiz2,hez2]
 have HR:=yh h2
 have HZ:=yh hz
 clear hz h1 h2 h3 h4 h5 h6 h7 hins hcl hn hiz hez hiz2 hez2 hw ho ha hb hs9
 have p1:wrap64 (((n+1:Nat):Int)-1)=(n:Int):=by rw[IntWalk.wrap64_in _ (by omega)];omega
 have p2:wrap64 ((n:Int)+1-1)=(n:Int):=by rw[IntWalk.wrap64_in _ (by omega)];omega
 obtain⟨X9,hX9⟩:∃X,b::keys (LC++LZ)=X:=⟨_,rfl⟩
 rw[hX9]at hL0 HF9 |-
 clear hX9
 have hL:=Kn.mz hL0
 clear hL0
 have hF:=hL.fx
 go_enter Tryz.func30,Tryz.ntmps30
 go_wp2_with (first|(with_reducible refine zS ?_;intro W hL hF)|((with_reducible refine ac 1 ?_);refine zX [0,1,2,3,4,5,6,7,8,9,10] [7,10] ?_ sR;clear hF hL;intro ι F hne hC hG;(repeat(first|(refine cS ?_)|((first|refine cF hC ?_|refine cP ?_);intro K hK;go_big_quiet_op;go_big_quiet_on)|(refine cN ?_;intro W hL;have hF:=hL.fx;at_builtin;(refine ah rfl _ _ 23 23 rfl (_::_::_::LZ) LC hL n 1 (cv.flatMap eg) [.int .i64 oz,.int .i64 az,.int .i64 bz,.string sz9,.slice ap np cp] _ _ HR.out rfl rfl (fun ho=>kA rfl (fun j u hu=>by rw[Go.WideShapes.add_plain,Nat.zero_add,aO hL m0];simpa using hu) (by intro u hu;simp only[List.mem_cons,List.not_mem_nil,or_false]at hu;rcases hu with rfl|rfl|rfl|rfl|rfl<;>rfl) (by omega) ho) ?_);intro LP3 a3 c3 W3 hL2 hr3;clear hL hF;have hL:=hL2;clear hL2;simp only[List.append_eq,List.cons_append,List.nil_append]at hL;have hF:=hL.fx;go_wp2;refine ai ?_;(first|(refine bH _ (by rfl) ?_;clear hL hF hC hG;intro ι F hne hC hFF;have hG:=fun n=>(hFF n).fx;clear hFF)|(refine aQ _ (by repeat' (first|(with_reducible exact List.nil_sublist _)|(with_reducible exact List.Sublist.refl _)|(with_reducible apply List.Sublist.cons_cons)|(with_reducible apply List.Sublist.cons))) ?_;clear hL)))|(refine cN ?_;intro W hL;have hF:=hL.fx;go_wp2;refine ai ?_;(first|(refine bH _ (by rfl) ?_;clear hL hF hC hG;intro ι F hne hC hFF;have hG:=fun n=>(hFF n).fx;clear hFF)|(refine aQ _ (by repeat' (first|(with_reducible exact List.nil_sublist _)|(with_reducible exact List.Sublist.refl _)|(with_reducible apply List.Sublist.cons_cons)|(with_reducible apply List.Sublist.cons))) ?_;clear hL hF)))));refine zN ?_;clear hC hG;intro W hL hF))
 refine zF ?_;intro W hL hF
 refine bodyPost_ret (by simp[results,Tryz.results30,go_sem, *];try rfl) rfl ?_
 exact⟨a3,c3,LP3++LZ,rfl,hL.pm,yh (HF9.out (LP3++LZ) _ _ a3 c3 ⟨LP3,rfl,hr3,HZ.out⟩ hL (fun p hp=>List.mem_cons_of_mem _ (List.mem_cons_of_mem _ (List.mem_cons_of_mem _ (List.mem_append.2 (List.mem_append.1 hp).symm)))))⟩
theorem c_{Y:List Nat}{w:World}:PRow Y w (.slice none 0 0) []:=RowY.nil
theorem Kn.mkr{X:List Nat}{w0 W W':World}{b:Nat}{o o2:Obj}{A LP LP2:List (Nat×Obj)}(h:Kn X w0 W (A++(b,o)::LP))(k:Kn (b::keys LP) W W' ((b,o2)::LP2)):Kn X w0 W' ((b,o2)::LP2):=
 (h.sub (List.sublist_append_right A _)).tail0 k
theorem Kn.own2{X:List Nat}{w0 W:World}{b:Nat}{o:Obj}{LP:List (Nat×Obj)}(h:Kn X w0 W ((b,o)::LP)):∀y∈b::keys LP,y∈X\/w0.heap.size<=y:=fun y hy=>by
 obtain⟨p,hp,rfl⟩:=List.mem_map.1 (show y∈keys ((b,o)::LP)from hy)
 exact(h.own p hp).symm
theorem Kn.mkr0{X:List Nat}{w0 Wb W:World}{b:Nat}{o:Obj}{LP:List (Nat×Obj)}(h:Kn X w0 Wb ((b,o)::LP))(k:Kn (b::keys LP) Wb W ((b,o)::LP)):Kn X w0 W ((b,o)::LP):=h.tail0 k
theorem NodeIs.mk2{X:List Nat}{w0 W:World}{b:Nat}{o:Obj}{LP:List (Nat×Obj)}{n:Nd}{cs:List Value}(h:NodeIs X w0 n cs)(k:Kn X w0 W ((b,o)::LP)):NodeIs (b::keys LP) W n cs:=h.kn k k.own2
theorem PRow.mk2{X:List Nat}{w0 W:World}{b:Nat}{o:Obj}{LP:List (Nat×Obj)}{v:Value}{ps:List Prt}(h:PRow X w0 v ps)(k:Kn X w0 W ((b,o)::LP)):PRow (b::keys LP) W v ps:=RowY.kn h k k.own2
theorem PRow.at_{X:List Nat}{w0 W:World}{L:List (Nat×Obj)}{v:Value}{ps:List Prt}(h:PRow X w0 v ps)(k:Kn X w0 W L):PRow X W v ps:=RowY.kn h k fun y hy=>.inl hy
theorem NodeIs.at_{X:List Nat}{w0 W:World}{L:List (Nat×Obj)}{n:Nd}{cs:List Value}(h:NodeIs X w0 n cs)(k:Kn X w0 W L):NodeIs X W n cs:=h.kn k fun y hy=>.inl hy
def CelY(Y:List Nat)(W:World)(g:Nat)(cs:List Value):Prop:=g∉Y/\g<W.heap.size/\∀(c:Nat) x,cs[c]? =some x->W.cell? ⟨g,c,none⟩=some x
theorem CelY.mk2{X:List Nat}{w0 W:World}{b:Nat}{o:Obj}{LP:List (Nat×Obj)}{g:Nat}{cs:List Value}(h:CelY X w0 g cs)(k:Kn X w0 W ((b,o)::LP)):CelY (b::keys LP) W g cs:=
 ⟨fun hm=>by rcases k.own2 g hm with e|e;exact h.1 e;have:=h.2.1;omega,Nat.lt_of_lt_of_le h.2.1 k.size,fun c x hx=>(da (k.block g h.2.1 h.1)).trans (h.2.2 c x hx)⟩
theorem dv{X:List Nat}{w0 W:World}{b g:Nat}{o:Obj}{cells:Array Value}{t:TypeId}{A LP:List (Nat×Obj)}(h:Kn X w0 W (A++(b,o)::LP))(hm:(g,.cells cells t (0,0))∈A):CelY (b::keys LP) W g cells.toList:=
 ⟨fun e=>by
  have nd:=h.nd;rw[List.map_append,List.nodup_append]at nd;obtain⟨p,hp,e2⟩:=List.mem_map.1 (show g∈keys ((b,o)::LP)from e);exact nd.2.2 _ (List.mem_map.2 ⟨_,hm,rfl⟩) _ (List.mem_map.2 ⟨p,hp,rfl⟩) e2.symm,h.lt (List.mem_append_left _ hm),fun c x hx=>by rw[aO h (List.mem_append_left _ hm)];rwa[<- Array.getElem?_toList]⟩
theorem uP{X:List Nat}{w0 W W':World}{b g:Nat}{o o2:Obj}{cells:Array Value}{t:TypeId}{A LP LP2:List (Nat×Obj)}(h:Kn X w0 W (A++(b,o)::LP))(hm:(g,.cells cells t (0,0))∈A)(k:Kn (b::keys LP) W W' ((b,o2)::LP2)):CelY (b::keys LP2) W' g cells.toList:=(dv h hm).mk2 k
theorem y_:∀(fn:Fn) (first cap:Array Value) (w:World),(Instr.makeFunc fn first cap).run Tryz.prog w=.ok (.func fn first cap) w:=fun _ _ _ _=>rfl
theorem bN(oz az:Int)(o:Nat)(ho:oz=(o:Int))(W0:World){LZ:List (Nat×Obj)}(b:Nat)(s:PS)(ao:Option Addr)(cap:Nat)(LP:List (Nat×Obj))(w:World)(hm:s.n<900000)(hL0:Kn (b::keys LP) w w ((b,.cells #[.slice ao s.n cap,.int .i64 (s.i:Int),.int .i64 (s.e:Int)] 81 (0,0))::LP))(hM:MkQ W0 LZ w b s (.slice ao s.n cap) LP):
  Calls Tryz.prog 66 #[.pointer (some ⟨b,0,none⟩),.int .i64 oz,.int .i64 az] w (fun e w'=>∃(a2:Option Addr) (c2:Nat) (LP2:List (Nat×Obj)),e=.returned (.tuple #[])/\Kn (b::keys LP) w w' ((b,.cells #[.slice a2 (s.op o az).n c2,.int .i64 ((s.op o az).i:Int),.int .i64 ((s.op o az).e:Int)] 81 (0,0))::LP2)/\Hid (MkQ W0 LZ w' b ((s.op o az)) (.slice a2 (s.op o az).n c2) LP2)):=by
 have HC:=yh (fun W hL (hM:MkQ W0 LZ W b s (.slice ao s.n cap) LP)=>fC W0 b s ao cap LP W {op:=o,a:=az} oz az 0 ⟨#[]⟩ (.slice none 0 0) ho rfl rfl rfl c_ hm hL hM.w)
 have HM:=yh hM
 have HWB:=yh hL0
 have hL:=hL0
 clear hL0 hM hm ho
 have hF:=hL.fx
 go_enter Tryz.func66,Tryz.ntmps66
 go_wp2_with (first|(with_reducible refine zS ?_;intro W hL hF)|(go_at_call 30;refine aj ?_;clear hF hL;intro W hL;have hF:=hL.fx;have hS:=Kn.selfS (A:=[]) hL;have hN:=HM.out.next hL;(with_reducible refine(HC.out _ hS hN).mono ?_);clear hN;rintro e W ⟨ao,cap,LP,rfl,hb,HM⟩;have hJ:=Kn.mkr (A:=[]) hL hb;have HWB2:=yh (Kn.tail0 HWB.out hJ);clear HWB hL;have HWB:=HWB2;clear HWB2 hS hb hJ;clear hF;have hL:=Kn.self0q HWB.out;have hF:=hL.fx))
 refine bodyPost_end (by simp[results,Tryz.results66,go_sem, *];try rfl) rfl ?_
 exact⟨ao,cap,LP,rfl,HWB.out,HM⟩
theorem gL(W0:World){LZ:List (Nat×Obj)}(b:Nat)(s:PS)(ao:Option Addr)(cap:Nat)(LP:List (Nat×Obj))(w:World)(x:Ins)(oz az bz:Int)(sz9:ByteArray)(wv:Value)(ho:oz=(x.op:Int))(ha:az=x.a)(hbz:bz=x.b)(hs9:x.s=sz9.data.toList)(hw:PRow (b::keys LP) w wv x.w)(hm:s.n<900000)(hL0:Kn (b::keys LP) w w ((b,.cells #[.slice ao s.n cap,.int .i64 (s.i:Int),.int .i64 (s.e:Int)] 81 (0,0))::LP))(hM:MkQ W0 LZ w b s (.slice ao s.n cap) LP):
  Calls Tryz.prog 91 #[.pointer (some ⟨b,0,none⟩),.agg #[.int .i64 oz,.int .i64 az,.int .i64 bz,.string sz9,wv]] w (fun e w'=>∃(a2:Option Addr) (c2:Nat) (LP2:List (Nat×Obj)) (p9 q9:Nat),e=.returned (.func (.func 106) #[] #[.pointer (some ⟨p9,0,none⟩),.pointer (some ⟨q9,0,none⟩)])/\Kn (b::keys LP) w w' ((b,.cells #[.slice a2 (s.add x).n c2,.int .i64 ((s.add x).i:Int),.int .i64 ((s.add x).e:Int)] 81 (0,0))::LP2)/\Hid (MkQ W0 LZ w' b ((s.add x)) (.slice a2 (s.add x).n c2) LP2)/\Hid (CelY (b::keys LP2) w' p9 [.pointer (some ⟨b,0,none⟩)])/\Hid (CelY (b::keys LP2) w' q9 [.int .i64 (s.n:Int)])):=by
 obtain⟨ap,np,cp,rfl⟩:∃ap np cp,wv=.slice ap np cp:=by
  obtain⟨ap,cp,hv,_⟩:=id hw;exact⟨ap,_,cp,hv⟩
 have hmf:=y_
 have HW:=yh hw
 have HC:=yh (fun W hw hL (hM:MkQ W0 LZ W b s (.slice ao s.n cap) LP)=>fC W0 b s ao cap LP W x oz az bz sz9 (.slice ap np cp) ho ha hbz hs9 hw hm hL hM.w)
 have HM:=yh hM
 have HWB:=yh hL0
 have hL:=hL0
 clear hL0 hM hm ho hw ha hbz hs9
 have hF:=hL.fx
 go_enter Tryz.func91,Tryz.ntmps91
 go_wp2_with (first|(with_reducible refine zS ?_;intro W hL hF)|(go_at_call 30;refine aj ?_;clear hF hL;intro W hL;have hF:=hL.fx;have hS:=Kn.selfS (A:=[_,_]) hL;have hN:=HM.out.next hL;(with_reducible refine(HC.out _ (HW.out.at_ hL) hS hN).mono ?_);clear hN;rintro e W ⟨ao,cap,LP,rfl,hb,HM⟩;have hJ:=Kn.mkr (A:=[_,_]) hL hb;have HP:=yh (uP (A:=[_,_]) hL m1 hb);have HWB2:=yh (Kn.tail0 HWB.out hJ);clear HWB hL;have HWB:=HWB2;clear HWB2 hS hb hJ;clear hF;have hL:=Kn.self0q HWB.out;have hF:=hL.fx))
 refine zF ?_;intro W hL hF
 refine bodyPost_ret (by simp[results,Tryz.results91,go_sem, *];try rfl) rfl ?_
 exact⟨ao,cap,LP,_,_,rfl,Kn.drop1 (HWB.out.tail0 hL),yh (HM.out.next hL),yh (HP.out.mk2 hL.drop1),yh (dv (A:=[_]) hL m0)⟩
theorem rZ(l:List (Ins×Value)):(l.flatMap eg).length=l.length*5:=by
 induction l with
 |nil=>rfl
 |cons p r ih=>rw[List.flatMap_cons,List.length_append,ih,List.length_cons];simp[eg];omega
theorem eU(x:Ins×Value):(eg x).length=5:=rfl
theorem l6:∀(l:List (Ins×Value)) (k c:Nat) (x:Ins×Value) (u:Value),l[k]? =some x->(eg x)[c]? =some u->(l.flatMap eg)[k*5+c]? =some u
 | [],k,c,x,u,h,_=>by simp at h
 |y::l,0,c,x,u,h,h2=>by
  obtain rfl:y=x:=Option.some.inj h;rw[List.flatMap_cons,Nat.zero_mul,Nat.zero_add,List.getElem?_append_left (List.getElem?_eq_some_iff.1 h2).1];exact h2
 |y::l,k+1,c,x,u,h,h2=>by
  rw[List.flatMap_cons,List.getElem?_append_right (by rw[eU];omega),eU,show(k+1)*5+c-5=k*5+c by omega];exact l6 l k c x u h h2
theorem nX(f:Ins->Ins)(c:Nat)(u:Value)(hc:c<5)(hf:∀(x:Ins) v,eg (f x,v)=(eg (x,v)).set c u):∀(l:List (Ins×Value)) (k:Nat),k<l.length->(l.flatMap eg).set (k*5+c) u=(l.modify k fun x=>(f x.1,x.2)).flatMap eg
 | [],k,h=>by simp at h
 |y::l,0,h=>by
  rw[List.flatMap_cons,Nat.zero_mul,Nat.zero_add,List.set_append_left _ _ (by rw[eU];exact hc)];show _=List.flatMap eg ((f y.1,y.2)::l)
  rw[List.flatMap_cons,hf]
 |y::l,k+1,h=>by
  rw[List.flatMap_cons,List.set_append_right _ _ (by rw[eU];omega),eU,show(k+1)*5+c-5=k*5+c by omega,nX f c u hc hf l k (by simpa using h),List.modify_succ_cons,List.flatMap_cons]
theorem qC(f:Ins->Ins):∀(l:List (Ins×Value)) (k:Nat),(l.modify k fun x=>(f x.1,x.2)).map (·.1)=(l.map (·.1)).modify k f
 | [],k=>by simp
 |y::l,0=>rfl
 |y::l,k+1=>by simp only[List.modify_succ_cons,List.map_cons,qC f l k]
theorem qD(f:Ins->Ins):∀(l:List (Ins×Value)) (k:Nat) (x:Ins×Value),x∈(l.modify k fun x=>(f x.1,x.2))->∃y∈l,x.2=y.2/\(x.1=y.1\/x.1=f y.1)
 | [],k,x,h=>by simp at h
 |y::l,0,x,h=>by
  rcases List.mem_cons.1 (show x∈(f y.1,y.2)::l from h)with rfl|h
  ·exact⟨y,m0,rfl,.inr rfl⟩
  ·exact⟨x,List.mem_cons_of_mem _ h,rfl,.inl rfl⟩
 |y::l,k+1,x,h=>by
  rw[List.modify_succ_cons]at h;rcases List.mem_cons.1 h with rfl|h
  ·exact⟨x,m0,rfl,.inl rfl⟩
  ·obtain⟨z,h1,h2,h3⟩:=qD f l k x h
   exact⟨z,List.mem_cons_of_mem _ h1,h2,h3⟩
theorem uQ(f:Ins->Ins)(c:Nat)(u:Value)(hc:c<5)(hf:∀(x:Ins) v,eg (f x,v)=(eg (x,v)).set c u)(hw:∀x,(f x).w=x.w){W0 w W:World}{b g k cap i2:Nat}{s:PS}{cur:Array Value}{cv:List (Ins×Value)}{L LZ:List (Nat×Obj)}(h1:cv.map (·.1)=s.c)(hk:k<cv.length)(hr:RowB 5 cur cap cv.length (cv.flatMap eg))(h3:∀x∈cv,PRow (b::g::keys LZ) w x.2 x.1.w)(h4:Below W0.heap.size W0 w)(h5:W0.heap.size<=b)(h6:W0.heap.size<=g)(h6z:∀p∈LZ,W0.heap.size<=p.1)(hz:∀p∈LZ,∃c t,p.2=.cells c t (0,0)/\t≠118)(h7:i2<=s.n+1)(hK:Kn (b::g::keys LZ) w W L):
  MkQ0 W0 LZ W b ⟨s.c.modify k f,i2,s.e⟩ (.slice (some ⟨g,0,none⟩) s.n cap) ((g,.cells (cur.setIfInBounds (k*5+c) u) 31 (0,0))::LZ):=by
 have hl:(cv.modify k fun x=>(f x.1,x.2)).length=cv.length:=by simp
 have hcl:cv.length=s.n:=by unfold PS.n;rw[<- h1,List.length_map]
 refine⟨cv.modify k fun x=>(f x.1,x.2),by rw[qC,h1],⟨[_],rfl,.inr ⟨g,cap,_,rfl,by rw[hl,hcl],?_⟩,hz⟩,fun x hx=>?_,eT h4 hK ?_,h5,?_,by simpa[PS.n]using h7⟩
 ·rw[hl]
  exact⟨by rw[Array.size_setIfInBounds];exact hr.size,hr.le,hr.capm,by rw[Array.toList_setIfInBounds,List.take_set,hr.take,nX f c u hc hf cv k hk],by rw[rZ,hl]⟩
 ·obtain⟨y,h8,h9,h10⟩:=qD f cv k x hx
  have:=RowY.kn (h3 y h8) hK (fun z hz=>.inl hz);show RowY 3 (b::g::keys LZ) W x.2 (x.1.w.map ptc)
  rw[h9];rcases h10 with e|e
  ·rw[e];exact this
  ·rw[e,hw];exact this
 ·intro y hy
  simp only[List.mem_cons]at hy;rcases hy with rfl|rfl|hy
  ·exact h5
  ·exact h6
  ·obtain⟨p,hp,rfl⟩:=List.mem_map.1 hy
   exact h6z p hp
 ·intro p hp
  rcases List.mem_cons.1 hp with rfl|hp
  ·exact h6
  ·exact h6z p hp
theorem dG(p9 q9 k:Nat)(W0:World){LZ:List (Nat×Obj)}(b:Nat)(s:PS)(ao:Option Addr)(cap:Nat)(LP:List (Nat×Obj))(w:World)(hk:k<s.n)(hm:s.n<900000)(hP:CelY (b::keys LP) w p9 [.pointer (some ⟨b,0,none⟩)])(hQ:CelY (b::keys LP) w q9 [.int .i64 (k:Int)])(hL0:Kn (b::keys LP) w w ((b,.cells #[.slice ao s.n cap,.int .i64 (s.i:Int),.int .i64 (s.e:Int)] 81 (0,0))::LP))(hM:MkQ W0 LZ w b s (.slice ao s.n cap) LP):
  Calls Tryz.prog 106 #[.pointer (some ⟨p9,0,none⟩),.pointer (some ⟨q9,0,none⟩)] w (fun e w'=>∃(a2:Option Addr) (c2:Nat) (LP2:List (Nat×Obj)),e=.returned (.tuple #[])/\Kn (b::keys LP) w w' ((b,.cells #[.slice a2 (s.here k).n c2,.int .i64 ((s.here k).i:Int),.int .i64 ((s.here k).e:Int)] 81 (0,0))::LP2)/\Hid (MkQ W0 LZ w' b ((s.here k)) (.slice a2 (s.here k).n c2) LP2)):=by
 obtain⟨cv,h1,⟨LC,rfl,h2,hz⟩,h3,h4,h5,h6,h7⟩:=hM
 have hcl:cv.length=s.n:=by unfold PS.n;rw[<- h1,List.length_map]
 have hp0:=hP.2.2 0 _ rfl
 have hp1:=hP.2.1
 have hp2:=hP.1
 have hq0:=hQ.2.2 0 _ rfl
 have hq1:=hQ.2.1
 have hq2:=hQ.1
 rw[cI]
 rcases h2 with⟨_,_,h0,_⟩|⟨g,cap2,cur,rfl,hv,hr⟩
 ·omega
 ·injection hv with hv1 hv2 hv3
  subst hv1 hv3;change Kn (b::g::keys LZ) w w (_::_::LZ)at hL0;change p9∉b::g::keys LZ at hp2;change q9∉b::g::keys LZ at hq2;obtain⟨x0,hx0⟩:∃x,cv[k]? =some x:=⟨_,List.getElem?_eq_getElem (by omega)⟩;have hcu:=hr.get (l6 cv k 1 x0 _ hx0 rfl);have HMS:=yh (show ∀(W:World) (L:List (Nat×Obj)),Kn (b::g::keys LZ) w W L->MkQ0 W0 LZ W b ⟨s.c.modify k (·.setA s.n),s.i,s.e⟩ (.slice (some ⟨g,0,none⟩) s.n cap) ((g,.cells (cur.setIfInBounds (k*5+1) (.int .i64 (s.n:Int))) 31 (0,0))::LZ)from fun W L hK=>uQ (·.setA s.n) 1 (.int .i64 (s.n:Int)) (by omega) (fun x v=>rfl) (fun x=>rfl) h1 (by omega) hr h3 h4 h5 (h6 _ m0) (fun p hp=>h6 p (List.mem_cons_of_mem _ hp)) hz (by omega) hK);have HI:=yh h7;simp only[List.mem_cons,not_or]at hp2 hq2;obtain⟨n,hn⟩:∃n,s.n=n:=⟨_,rfl⟩;obtain⟨iz,hiz⟩:∃z:Int,(s.i:Int)=z:=⟨_,rfl⟩;obtain⟨ez,hez⟩:∃z:Int,(s.e:Int)=z:=⟨_,rfl⟩;have hiz2:((s.here k).i:Int)=iz:=hiz;have hez2:((s.here k).e:Int)=ez:=hez;have hst:PS.mk (s.c.modify k (·.setA (s.n:Int))) s.i s.e=s.here k:=rfl;have HIN:=yh (show(s.here k).i<=(s.here k).n from by rw[cI];exact h7);rw[hst,hn]at HMS;rw[hn]at hk hm hL0 |-
  rw[hiz,hez]at hL0;rw[hiz2,hez2];have hL:=hL0;clear hL0 h1 h3 h4 h5 h6 h7 hst hcl hP hQ hr hx0 hz;have hF:=hL.fx;go_enter Tryz.func106,Tryz.ntmps106;go_wp2_with (first|(with_reducible refine zS ?_;intro W hL hF)|((with_reducible refine ac 0 ?_);refine zX [0,1,2,3,4,5,6,7,8,9,10,11,12] [12] ?_ sR;clear hF hL;intro ι F hne hC hG;(repeat(first|(refine cS ?_)|((first|refine cF hC ?_|refine cP ?_);intro K hK;go_big_quiet_op;go_big_quiet_on)|(refine cN ?_;intro W hL;have hF:=hL.fx;go_wp2;refine ai ?_;(first|(refine bH _ (by rfl) ?_;clear hL hF hC hG;intro ι F hne hC hFF;have hG:=fun n=>(hFF n).fx;clear hFF)|(refine aQ _ (by repeat' (first|(with_reducible exact List.nil_sublist _)|(with_reducible exact List.Sublist.refl _)|(with_reducible apply List.Sublist.cons_cons)|(with_reducible apply List.Sublist.cons))) ?_;clear hL)))));refine zN ?_;clear hC hG;intro W hL hF))
  refine zF ?_;intro W hL hF;refine bodyPost_end (by simp[results,Tryz.results106,go_sem, *];try rfl) rfl ?_;exact⟨_,_,_,rfl,hL,yh ((HMS.out _ _ hL).s HIN.out)⟩
theorem NodeIs.open{Y:List Nat}{w:World}{n:Nd}{cs:List Value}(h:NodeIs Y w n cs):∃(al:List ((ab×List Prt)×Value)) (ws:List (List Prt×Value)) (rs:List ((Int×Nat×List Prt)×Value)) (ks:List (Nd×List Value)) (va vw vr vk:Value),
  n=.mk n.kind n.name n.neg (al.map (·.1)) (ws.map (·.1)) (rs.map (·.1)) (ks.map (·.1))/\cs=[.int .i64 n.kind,bs n.name,.bool n.neg,va,vw,vr,vk]/\RowY 2 Y w va (al.map asc)/\(∀x∈al,PRow Y w x.2 x.1.2)/\RowY 1 Y w vw (ws.map fun x=>[x.2])/\(∀x∈ws,PRow Y w x.2 x.1)/\
  RowY 3 Y w vr (rs.map rsc)/\(∀x∈rs,PRow Y w x.2 x.1.2.2)/\RowY 7 Y w vk (ks.map (·.2))/\∀x∈ks,NodeIs Y w x.1 x.2:=by
 cases h with
 |mk kind name neg al ws rs ks va vw vr vk h1 h2 h3 h4 h5 h6 h7 h8=>exact⟨al,ws,rs,ks,va,vw,vr,vk,rfl,rfl,h1,h2,h3,h4,h5,h6,h7,h8⟩
theorem NodeIs.len{Y:List Nat}{w:World}{n:Nd}{cs:List Value}(h:NodeIs Y w n cs):cs.length=7:=by cases h;rfl
theorem dH{k:Nat}{Y:List Nat}{w:World}{v:Value}{xs:List (List Value)}(h:RowY k Y w v xs):∃a cap,v=.slice a xs.length cap:=by
 obtain⟨ao,c,hv,_⟩:=h;grind
def MkF(W0:World)(f:FuncId)(nd:Nd)(N:Nat)(G:PS->PS):Prop:=∀ ⦃LZ:List (Nat×Obj)⦄ (b:Nat) (s:PS) (ao:Option Addr) (cap:Nat) (LP:List (Nat×Obj)) (w:World) (cs:List Value),s.n+N<=900000->Kn (b::keys LP) w w ((b,.cells #[.slice ao s.n cap,.int .i64 (s.i:Int),.int .i64 (s.e:Int)] 81 (0,0))::LP)->MkQ W0 LZ w b s (.slice ao s.n cap) LP->NodeIs (b::keys LP) w nd cs->Calls Tryz.prog f #[.pointer (some ⟨b,0,none⟩),.agg cs.toArray] w (fun e w'=>∃(a2:Option Addr) (c2:Nat) (LP2:List (Nat×Obj)),e=.returned (.tuple #[])/\Kn (b::keys LP) w w' ((b,.cells #[.slice a2 (G s).n c2,.int .i64 ((G s).i:Int),.int .i64 ((G s).e:Int)] 81 (0,0))::LP2)/\Hid (MkQ W0 LZ w' b ((G s)) (.slice a2 (G s).n c2) LP2))
theorem uR{Y:List Nat}{w:World}{n:Nd}{v0 v1 v2 v3 v4 v5:Value}{ak:Option Addr}{nk ck:Nat}(h:NodeIs Y w n [v0,v1,v2,v3,v4,v5,.slice ak nk ck]){i:Nat}{y:Nd}(hy:n.kids[i]? =some y):∃g o d0 d1 d2 d3 d4 d5 d6,ak=some ⟨g,o,none⟩/\g∉Y/\g<w.heap.size/\i<nk/\nk=n.kids.length/\(∀(c:Nat) x,[d0,d1,d2,d3,d4,d5,d6][c]? =some x->w.cell? ⟨g,o+i*7+c,none⟩=some x)/\NodeIs Y w y [d0,d1,d2,d3,d4,d5,d6]:=by
 obtain⟨al,ws,rs,ks,va,vw,vr,vk,hn,hcs,h1,_,h3,_,h5,_,h7,h8⟩:=h.open
 simp only[List.cons.injEq,and_true]at hcs
 obtain⟨_,_,_,_,_,_,rfl⟩:=hcs
 have hnk:n.kids.length=nk:=by
  obtain⟨a9,c9,hv⟩:=dH h7;injection hv with _ hv _
  rw[hn];simp only[Nd.kids,List.length_map]at hv |-;exact hv.symm
 rw[hn]at hy
 simp only[Nd.kids,List.getElem?_map]at hy
 obtain⟨p,hp,rfl⟩:=Option.map_eq_some_iff.1 hy
 obtain⟨ao,c,hv,_,h9⟩:=h7
 injection hv with e1 e2 e3
 subst e1
 obtain⟨g,o,e,hgY,hl,hc⟩:=h9 i p.2 (by rw[List.getElem?_map,hp];rfl)
 have hi:=(List.getElem?_eq_some_iff.1 hp).1
 rw[List.length_map]at e2
 have hpn:=h8 p (List.mem_of_getElem? hp)
 obtain⟨d0,d1,d2,d3,d4,d5,d6,hd⟩:∃a b c d e f g,p.2=[a,b,c,d,e,f,g]:=by
  have hl7:p.2.length=7:=hpn.len
  match p.2,hl7 with
  | [a,b,c,d,e,f,g],_=>exact⟨a,b,c,d,e,f,g,rfl⟩
 rw[hd]at hc hpn
 exact⟨g,o,d0,d1,d2,d3,d4,d5,d6,e,hgY,hl,by omega,hnk.symm,hc,hpn⟩
theorem cY{Y:List Nat}{w:World}{n:Nd}{cs:List Value}(h:NodeIs Y w n cs):∃(aa:Option Addr) (ca:Nat) (aw:Option Addr) (cw9:Nat) (ar:Option Addr) (cr:Nat) (ak:Option Addr) (ck:Nat),cs=[.int .i64 (n.kind:Int),bs n.name,.bool n.neg,.slice aa n.asg.length ca,.slice aw n.ws.length cw9,.slice ar n.rs.length cr,.slice ak n.kids.length ck]:=by
 obtain⟨al,ws,rs,ks,va,vw,vr,vk,hn,rfl,h1,_,h3,_,h5,_,h7,h8⟩:=h.open
 obtain⟨a1,c1,rfl⟩:=dH h1
 obtain⟨a3,c3,rfl⟩:=dH h3
 obtain⟨a5,c5,rfl⟩:=dH h5
 obtain⟨a7,c7,rfl⟩:=dH h7
 refine⟨a1,c1,a3,c3,a5,c5,a7,c7,?_⟩
 rw[hn]
 simp only[Nd.kind,Nd.name,Nd.neg,Nd.asg,Nd.ws,Nd.rs,Nd.kids,List.length_map]
theorem pr(W0:World){LZ:List (Nat×Obj)}(b:Nat)(s:PS)(ao:Option Addr)(cap:Nat)(LP:List (Nat×Obj))(w:World)(hm:s.n<900000)(hL0:Kn (b::keys LP) w w ((b,.cells #[.slice ao s.n cap,.int .i64 (s.i:Int),.int .i64 (s.e:Int)] 81 (0,0))::LP))(hM:MkQ W0 LZ w b s (.slice ao s.n cap) LP):Calls Tryz.prog 66 #[.pointer (some ⟨b,0,none⟩),.int .i64 24,.int .i64 (-1)] w (fun e w'=>∃(a2:Option Addr) (c2:Nat) (LP2:List (Nat×Obj)),e=.returned (.tuple #[])/\Kn (b::keys LP) w w' ((b,.cells #[.slice a2 (s.op 24 (-1)).n c2,.int .i64 ((s.op 24 (-1)).i:Int),.int .i64 ((s.op 24 (-1)).e:Int)] 81 (0,0))::LP2)/\Hid (MkQ W0 LZ w' b ((s.op 24 (-1))) (.slice a2 (s.op 24 (-1)).n c2) LP2)):=bN 24 (-1) 24 rfl W0 b s ao cap LP w hm hL0 hM
theorem uS(W0:World){LZ:List (Nat×Obj)}(b:Nat)(s:PS)(ao:Option Addr)(cap:Nat)(LP:List (Nat×Obj))(w:World)(hm:s.n<900000)(hL0:Kn (b::keys LP) w w ((b,.cells #[.slice ao s.n cap,.int .i64 (s.i:Int),.int .i64 (s.e:Int)] 81 (0,0))::LP))(hM:MkQ W0 LZ w b s (.slice ao s.n cap) LP):Calls Tryz.prog 91 #[.pointer (some ⟨b,0,none⟩),.agg #[.int .i64 1,.int .i64 0,.int .i64 0,.string ⟨#[]⟩,.slice none 0 0]] w (fun e w'=>∃(a2:Option Addr) (c2:Nat) (LP2:List (Nat×Obj)) (p9 q9:Nat),e=.returned (.func (.func 106) #[] #[.pointer (some ⟨p9,0,none⟩),.pointer (some ⟨q9,0,none⟩)])/\Kn (b::keys LP) w w' ((b,.cells #[.slice a2 (s.op 1 0).n c2,.int .i64 ((s.op 1 0).i:Int),.int .i64 ((s.op 1 0).e:Int)] 81 (0,0))::LP2)/\Hid (MkQ W0 LZ w' b ((s.op 1 0)) (.slice a2 (s.op 1 0).n c2) LP2)/\Hid (CelY (b::keys LP2) w' p9 [.pointer (some ⟨b,0,none⟩)])/\Hid (CelY (b::keys LP2) w' q9 [.int .i64 (s.n:Int)])):=gL W0 b s ao cap LP w {op:=1,a:=0} 1 0 0 ⟨#[]⟩ (.slice none 0 0) rfl rfl rfl rfl c_ hm hL0 hM
theorem Ai(W0:World){LZ:List (Nat×Obj)}(b:Nat)(s:PS)(ao:Option Addr)(cap:Nat)(LP:List (Nat×Obj))(w:World)(hm:s.n<900000)(hL0:Kn (b::keys LP) w w ((b,.cells #[.slice ao s.n cap,.int .i64 (s.i:Int),.int .i64 (s.e:Int)] 81 (0,0))::LP))(hM:MkQ W0 LZ w b s (.slice ao s.n cap) LP):Calls Tryz.prog 91 #[.pointer (some ⟨b,0,none⟩),.agg #[.int .i64 2,.int .i64 0,.int .i64 0,.string ⟨#[]⟩,.slice none 0 0]] w (fun e w'=>∃(a2:Option Addr) (c2:Nat) (LP2:List (Nat×Obj)) (p9 q9:Nat),e=.returned (.func (.func 106) #[] #[.pointer (some ⟨p9,0,none⟩),.pointer (some ⟨q9,0,none⟩)])/\Kn (b::keys LP) w w' ((b,.cells #[.slice a2 (s.op 2 0).n c2,.int .i64 ((s.op 2 0).i:Int),.int .i64 ((s.op 2 0).e:Int)] 81 (0,0))::LP2)/\Hid (MkQ W0 LZ w' b ((s.op 2 0)) (.slice a2 (s.op 2 0).n c2) LP2)/\Hid (CelY (b::keys LP2) w' p9 [.pointer (some ⟨b,0,none⟩)])/\Hid (CelY (b::keys LP2) w' q9 [.int .i64 (s.n:Int)])):=gL W0 b s ao cap LP w {op:=2,a:=0} 2 0 0 ⟨#[]⟩ (.slice none 0 0) rfl rfl rfl rfl c_ hm hL0 hM
theorem xn(W0:World){LZ:List (Nat×Obj)}(b:Nat)(s:PS)(ao:Option Addr)(cap:Nat)(LP:List (Nat×Obj))(w:World)(hm:s.n<900000)(hL0:Kn (b::keys LP) w w ((b,.cells #[.slice ao s.n cap,.int .i64 (s.i:Int),.int .i64 (s.e:Int)] 81 (0,0))::LP))(hM:MkQ W0 LZ w b s (.slice ao s.n cap) LP):Calls Tryz.prog 91 #[.pointer (some ⟨b,0,none⟩),.agg #[.int .i64 3,.int .i64 0,.int .i64 0,.string ⟨#[]⟩,.slice none 0 0]] w (fun e w'=>∃(a2:Option Addr) (c2:Nat) (LP2:List (Nat×Obj)) (p9 q9:Nat),e=.returned (.func (.func 106) #[] #[.pointer (some ⟨p9,0,none⟩),.pointer (some ⟨q9,0,none⟩)])/\Kn (b::keys LP) w w' ((b,.cells #[.slice a2 (s.op 3 0).n c2,.int .i64 ((s.op 3 0).i:Int),.int .i64 ((s.op 3 0).e:Int)] 81 (0,0))::LP2)/\Hid (MkQ W0 LZ w' b ((s.op 3 0)) (.slice a2 (s.op 3 0).n c2) LP2)/\Hid (CelY (b::keys LP2) w' p9 [.pointer (some ⟨b,0,none⟩)])/\Hid (CelY (b::keys LP2) w' q9 [.int .i64 (s.n:Int)])):=gL W0 b s ao cap LP w {op:=3,a:=0} 3 0 0 ⟨#[]⟩ (.slice none 0 0) rfl rfl rfl rfl c_ hm hL0 hM
theorem Aj(W0:World){LZ:List (Nat×Obj)}(b:Nat)(s:PS)(ao:Option Addr)(cap:Nat)(LP:List (Nat×Obj))(w:World)(hm:s.n<900000)(hL0:Kn (b::keys LP) w w ((b,.cells #[.slice ao s.n cap,.int .i64 (s.i:Int),.int .i64 (s.e:Int)] 81 (0,0))::LP))(hM:MkQ W0 LZ w b s (.slice ao s.n cap) LP):Calls Tryz.prog 91 #[.pointer (some ⟨b,0,none⟩),.agg #[.int .i64 18,.int .i64 0,.int .i64 0,.string ⟨#[]⟩,.slice none 0 0]] w (fun e w'=>∃(a2:Option Addr) (c2:Nat) (LP2:List (Nat×Obj)) (p9 q9:Nat),e=.returned (.func (.func 106) #[] #[.pointer (some ⟨p9,0,none⟩),.pointer (some ⟨q9,0,none⟩)])/\Kn (b::keys LP) w w' ((b,.cells #[.slice a2 (s.op 18 0).n c2,.int .i64 ((s.op 18 0).i:Int),.int .i64 ((s.op 18 0).e:Int)] 81 (0,0))::LP2)/\Hid (MkQ W0 LZ w' b ((s.op 18 0)) (.slice a2 (s.op 18 0).n c2) LP2)/\Hid (CelY (b::keys LP2) w' p9 [.pointer (some ⟨b,0,none⟩)])/\Hid (CelY (b::keys LP2) w' q9 [.int .i64 (s.n:Int)])):=gL W0 b s ao cap LP w {op:=18,a:=0} 18 0 0 ⟨#[]⟩ (.slice none 0 0) rfl rfl rfl rfl c_ hm hL0 hM
section
variable {P:Program} {f:FuncId} {args:Array Value} {Q:Ending->World->Prop} {X:List Nat} {w Wb V W0:World} {L LZ LP:List (Nat×Obj)} {b:Nat} {o:Obj} {s s2:PS} {v:Value} {o2:Option Addr->Nat->Obj} {v2:Option Addr->Nat->Value} {R:Option Addr->Nat->List (Nat×Obj)->World->Prop}
theorem zK{r:Value}[h:Kn (b::keys LP) Wb V L](A:List (Nat×Obj))(wb:Kn X w Wb ((b,o)::LP))(hm:MkQ W0 LZ Wb b s v LP)
  (c:∀W,Kn (b::keys LP) Wb W L->Kn (b::keys LP) W W ((b,o)::LP)->MkQ W0 LZ W b s v LP->Calls P f args W fun e W2=>∃(a2:Option Addr) (c2:Nat) (LP2:List (Nat×Obj)),e=.returned r/\Kn (b::keys LP) W W2 ((b,o2 a2 c2)::LP2)/\Hid (MkQ W0 LZ W2 b s2 (v2 a2 c2) LP2))
  (k:∀W a2 c2 LP2,Hid (Kn X w W ((b,o2 a2 c2)::LP2))->Hid (MkQ W0 LZ W b s2 (v2 a2 c2) LP2)->Kn (b::keys LP) Wb W ((b,o2 a2 c2)::LP2)->Kn (b::keys LP2) W W ((b,o2 a2 c2)::LP2)->R a2 c2 LP2 W->Q (.returned r) W)
  (ha:L=A++(b,o)::LP:=by with_unfolding_all rfl) (e:∀a2 c2 LP2 W,Fz (b::keys LP2) W W ((b,o2 a2 c2)::LP2)=R a2 c2 LP2 W:=by(intro _ _ _ W;simp only[Fz];(try simp only[cf,eb,zD]);rfl)):Calls P f args V Q:=
 (c V h (Kn.selfS (A:=A) (ha▸h)) (hm.next h)).mono fun _ W ⟨a2,c2,LP2,he,hb,hM⟩=>he▸(
  have hJ:=Kn.mkr (A:=A) (ha▸h) hb;have hS:=Kn.self0q hJ
  k W a2 c2 LP2 (yh (Kn.tail0 wb hJ)) hM hJ hS (e a2 c2 LP2 W▸hS.facts))
theorem zJ{r2:Nat->Nat->Value}{cp cq:List Value}[h:Kn (b::keys LP) Wb V L](A:List (Nat×Obj))(wb:Kn X w Wb ((b,o)::LP))(hm:MkQ W0 LZ Wb b s v LP)
  (c:∀W,Kn (b::keys LP) Wb W L->Kn (b::keys LP) W W ((b,o)::LP)->MkQ W0 LZ W b s v LP->Calls P f args W fun e W2=>∃(a2:Option Addr) (c2:Nat) (LP2:List (Nat×Obj)) (p9 q9:Nat),e=.returned (r2 p9 q9)/\Kn (b::keys LP) W W2 ((b,o2 a2 c2)::LP2)/\Hid (MkQ W0 LZ W2 b s2 (v2 a2 c2) LP2)/\Hid (CelY (b::keys LP2) W2 p9 cp)/\Hid (CelY (b::keys LP2) W2 q9 cq))
  (k:∀W a2 c2 LP2 p9 q9,Hid (CelY (b::keys LP2) W p9 cp)->Hid (CelY (b::keys LP2) W q9 cq)->Hid (Kn X w W ((b,o2 a2 c2)::LP2))->Hid (MkQ W0 LZ W b s2 (v2 a2 c2) LP2)->Kn (b::keys LP) Wb W ((b,o2 a2 c2)::LP2)->Kn (b::keys LP2) W W ((b,o2 a2 c2)::LP2)->R a2 c2 LP2 W->Q (.returned (r2 p9 q9)) W)
  (ha:L=A++(b,o)::LP:=by with_unfolding_all rfl) (e:∀a2 c2 LP2 W,Fz (b::keys LP2) W W ((b,o2 a2 c2)::LP2)=R a2 c2 LP2 W:=by(intro _ _ _ W;simp only[Fz];(try simp only[cf,eb,zD]);rfl)):Calls P f args V Q:=
 (c V h (Kn.selfS (A:=A) (ha▸h)) (hm.next h)).mono fun _ W ⟨a2,c2,LP2,p9,q9,he,hb,hM,hp,hq⟩=>he▸(
  have hJ:=Kn.mkr (A:=A) (ha▸h) hb;have hS:=Kn.self0q hJ
  k W a2 c2 LP2 p9 q9 hp hq (yh (Kn.tail0 wb hJ)) hM hJ hS (e a2 c2 LP2 W▸hS.facts))
theorem zT0{d:Code}{a:Act}{Q:Exit->Act->World->Prop}{S:World->Prop}[h:Kn (b::keys LP) Wb V L](A:List (Nat×Obj))(wb:Kn X w Wb ((b,o)::LP))(hm:MkQ W0 LZ Wb b s v LP)
  (k:∀W,Hid (MkQ W0 LZ W b s v LP)->Hid (Kn X w W ((b,o)::LP))->Kn (b::keys LP) Wb W ((b,o)::LP)->Kn (b::keys LP) W W ((b,o)::LP)->S W->Kn (b::keys LP) Wb W (A++(b,o)::LP)->d.wp P Q a W)
  (ha:L=A++(b,o)::LP:=by((try simp only[kfb]);with_unfolding_all rfl)) (e:∀W,Fz (b::keys LP) W W ((b,o)::LP)=S W:=by(intro W;simp only[Fz];(try simp only[cf,eb,zD]);rfl)):d.wp P Q a V:=
 have h1:Kn (b::keys LP) Wb V (A++(b,o)::LP):=ha▸h
 have hJ:=Kn.sub h1 (List.sublist_append_right _ _)
 have hS:=Kn.self0q (Kn.tail0 wb hJ)
 k V (yh (hm.next h)) (yh (Kn.tail0 wb hJ)) hJ hS (e V▸hS.facts) h1
theorem zT1{d:Code}{a:Act}{Q:Exit->Act->World->Prop}{S:World->Prop}{g:Nat}{cs:Array Value}{t:TypeId}[h:Kn (b::keys LP) Wb V L](wb:Kn X w Wb ((b,o)::LP))(hm:MkQ W0 LZ Wb b s v LP)
  (k:∀W,Hid (CelY (b::keys LP) W g cs.toList)->Hid (MkQ W0 LZ W b s v LP)->Hid (Kn X w W ((b,o)::LP))->Kn (b::keys LP) Wb W ((b,o)::LP)->Kn (b::keys LP) W W ((b,o)::LP)->S W->d.wp P Q a W)
  (ha:L=(g,.cells cs t (0,0))::(b,o)::LP:=by((try simp only[kfb]);with_unfolding_all rfl)) (e:∀W,Fz (b::keys LP) W W ((b,o)::LP)=S W:=by(intro W;simp only[Fz];(try simp only[cf,eb,zD]);rfl)):d.wp P Q a V:=
 zT0 [_] wb hm (fun W m wb hJ hS f h=>k W (yh (dv (A:=[_]) h m0)) m wb hJ hS f) ha e
theorem zT2{d:Code}{a:Act}{Q:Exit->Act->World->Prop}{S:World->Prop}{g g2:Nat}{cs cs2:Array Value}{t t2:TypeId}[h:Kn (b::keys LP) Wb V L](wb:Kn X w Wb ((b,o)::LP))(hm:MkQ W0 LZ Wb b s v LP)
  (k:∀W,Hid (CelY (b::keys LP) W g cs.toList)->Hid (CelY (b::keys LP) W g2 cs2.toList)->Hid (MkQ W0 LZ W b s v LP)->Hid (Kn X w W ((b,o)::LP))->Kn (b::keys LP) Wb W ((b,o)::LP)->Kn (b::keys LP) W W ((b,o)::LP)->S W->d.wp P Q a W)
  (ha:L=(g,.cells cs t (0,0))::(g2,.cells cs2 t2 (0,0))::(b,o)::LP:=by((try simp only[kfb]);with_unfolding_all rfl)) (e:∀W,Fz (b::keys LP) W W ((b,o)::LP)=S W:=by(intro W;simp only[Fz];(try simp only[cf,eb,zD]);rfl)):d.wp P Q a V:=
 zT0 [_,_] wb hm (fun W m wb hJ hS f h=>k W (yh (dv (A:=[_,_]) h m0)) (yh (dv (A:=[_,_]) h m1)) m wb hJ hS f) ha e
end
theorem nO:(∀(s:PS) (o:Nat) (a:Int),(s.op o a).n=s.n+1)/\(∀(s:PS) (x:Ins),(s.add x).n=s.n+1)/\(∀(s:PS) (k:Nat),(s.here k).n=s.n)/\∀(s:PS) (k:Int) (F:PS->PS),(s.child k F).n=(F (s.add {op:=13,b:=k})).n+1:=⟨bX,bh,cI,bR⟩
class Mk2 (p:Prop) (X:outParam (List Nat)) (w0:outParam World) (W:World) (b:Nat) (LP:List (Nat×Obj)) (q:outParam Prop):Prop where
 go:∀{o:Obj},p->Kn X w0 W ((b,o)::LP)->q
instance (X:List Nat) (w0 W:World) (b:Nat) (LP:List (Nat×Obj)) (n:Nd) (cs:List Value):Mk2 (NodeIs X w0 n cs) X w0 W b LP (NodeIs (b::keys LP) W n cs):=⟨fun h k=>h.mk2 k⟩
instance (X:List Nat) (w0 W:World) (b:Nat) (LP:List (Nat×Obj)) (v:Value) (ps:List Prt):Mk2 (PRow X w0 v ps) X w0 W b LP (PRow (b::keys LP) W v ps):=⟨fun h k=>h.mk2 k⟩
instance (X:List Nat) (w0 W:World) (b:Nat) (LP:List (Nat×Obj)) (g:Nat) (cs:List Value):Mk2 (CelY X w0 g cs) X w0 W b LP (CelY (b::keys LP) W g cs):=⟨fun h k=>h.mk2 k⟩
theorem cy{p q:Prop}{X:List Nat}{w0 W:World}{b:Nat}{o:Obj}{LP:List (Nat×Obj)}(h:Hid p)(k:Kn X w0 W ((b,o)::LP))[m:Mk2 p X w0 W b LP q]:Hid q:=yh (m.go h.out k)
theorem MkF.mk{W0:World}{f:FuncId}{nd:Nd}{N:Nat}{G:PS->PS} (H:∀ ⦃LZ:List (Nat×Obj)⦄ (b:Nat) (s:PS) (ao:Option Addr) (cap:Nat) (LP:List (Nat×Obj)) (w:World) (X9:List Nat) (kz:Int) (nm:ByteArray) (ng:Bool) (na nw nr nk:Nat) (aa:Option Addr) (ca:Nat) (aw:Option Addr) (cw9:Nat) (ar:Option Addr) (cr:Nat) (ak:Option Addr) (ck:Nat),s.n+N<=900000->Hid (((nd.kind:Nat):Int)=kz)->Hid ((⟨nd.name.toArray⟩:ByteArray)=nm)->Hid (nd.neg=ng)->Hid (nd.asg.length=na)->Hid (nd.ws.length=nw)->Hid (nd.rs.length=nr)->Hid (nd.kids.length=nk)->
  Hid (NodeIs (b::keys LP) w nd [.int .i64 kz,.string nm,.bool ng,.slice aa na ca,.slice aw nw cw9,.slice ar nr cr,.slice ak nk ck])->Hid (MkQ W0 LZ w b s (.slice ao s.n cap) LP)->Hid (Kn X9 w w ((b,.cells #[.slice ao s.n cap,.int .i64 (s.i:Int),.int .i64 (s.e:Int)] 81 (0,0))::LP))->Kn (b::keys LP) w w ((b,.cells #[.slice ao s.n cap,.int .i64 (s.i:Int),.int .i64 (s.e:Int)] 81 (0,0))::LP)->
  Calls Tryz.prog f #[.pointer (some ⟨b,0,none⟩),.agg #[.int .i64 kz,.string nm,.bool ng,.slice aa na ca,.slice aw nw cw9,.slice ar nr cr,.slice ak nk ck]] w (fun e w'=>∃(a2:Option Addr) (c2:Nat) (LP2:List (Nat×Obj)),e=.returned (.tuple #[])/\Kn X9 w w' ((b,.cells #[.slice a2 (G s).n c2,.int .i64 ((G s).i:Int),.int .i64 ((G s).e:Int)] 81 (0,0))::LP2)/\Hid (MkQ W0 LZ w' b ((G s)) (.slice a2 (G s).n c2) LP2))):MkF W0 f nd N G:=by
 intro LZ b s ao cap LP w cs hm hL hM hn
 obtain⟨aa,ca,aw,cw9,ar,cr,ak,ck,rfl⟩:=cY hn
 exact H b s ao cap LP w _ _ _ _ _ _ _ _ aa ca aw cw9 ar cr ak ck hm (yh rfl) (yh rfl) (yh rfl) (yh rfl) (yh rfl) (yh rfl) (yh rfl) (yh hn) (yh hM) (yh hL) hL
section
variable {W:World} {b g:Nat} {K:List Nat} {x0 x1 x2 x3 x4 x5 x6:Value}
theorem CelY.c1(h:CelY (b::K) W g [x0]):g<W.heap.size/\(¬g=b/\¬g∈K)/\W.cell? ⟨g,0,none⟩=some x0:=⟨h.2.1,not_or.1 fun e=>h.1 (List.mem_cons.2 e),h.2.2 0 _ rfl⟩
theorem CelY.c2(h:CelY (b::K) W g [x0,x1]):g<W.heap.size/\(¬g=b/\¬g∈K)/\W.cell? ⟨g,0,none⟩=some x0/\W.cell? ⟨g,1,none⟩=some x1:=⟨h.2.1,not_or.1 fun e=>h.1 (List.mem_cons.2 e),h.2.2 0 _ rfl,h.2.2 1 _ rfl⟩
theorem CelY.c3(h:CelY (b::K) W g [x0,x1,x2]):g<W.heap.size/\(¬g=b/\¬g∈K)/\W.cell? ⟨g,0,none⟩=some x0/\W.cell? ⟨g,1,none⟩=some x1/\W.cell? ⟨g,2,none⟩=some x2:=⟨h.2.1,not_or.1 fun e=>h.1 (List.mem_cons.2 e),h.2.2 0 _ rfl,h.2.2 1 _ rfl,h.2.2 2 _ rfl⟩
theorem CelY.c7(h:CelY (b::K) W g [x0,x1,x2,x3,x4,x5,x6]):g<W.heap.size/\(¬g=b/\¬g∈K)/\W.cell? ⟨g,0,none⟩=some x0/\W.cell? ⟨g,1,none⟩=some x1/\W.cell? ⟨g,2,none⟩=some x2/\W.cell? ⟨g,3,none⟩=some x3/\W.cell? ⟨g,4,none⟩=some x4/\W.cell? ⟨g,5,none⟩=some x5/\W.cell? ⟨g,6,none⟩=some x6:=⟨h.2.1,not_or.1 fun e=>h.1 (List.mem_cons.2 e),h.2.2 0 _ rfl,h.2.2 1 _ rfl,h.2.2 2 _ rfl,h.2.2 3 _ rfl,h.2.2 4 _ rfl,h.2.2 5 _ rfl,h.2.2 6 _ rfl⟩
end
theorem bw{b:Nat}{K:List Nat}{w:World}{n:Nd}{v0 v1 v2 v3 v4 v5:Value}{ak:Option Addr}{nk ck:Nat}(h:NodeIs (b::K) w n [v0,v1,v2,v3,v4,v5,.slice ak nk ck]){i:Nat}{y:Nd}(hy:n.kids[i]? =some y):∃g o d0 d1 d2 d3 d4 d5 d6,ak=some ⟨g,o,none⟩/\(¬g=b/\¬g∈K)/\g<w.heap.size/\i<nk/\Hid (nk=n.kids.length)/\Hid (NodeIs (b::K) w y [d0,d1,d2,d3,d4,d5,d6])/\w.cell? ⟨g,o+i*7,none⟩=some d0/\w.cell? ⟨g,o+i*7+1,none⟩=some d1/\w.cell? ⟨g,o+i*7+2,none⟩=some d2/\w.cell? ⟨g,o+i*7+3,none⟩=some d3/\w.cell? ⟨g,o+i*7+4,none⟩=some d4/\w.cell? ⟨g,o+i*7+5,none⟩=some d5/\w.cell? ⟨g,o+i*7+6,none⟩=some d6:=by
 obtain⟨g,o,d0,d1,d2,d3,d4,d5,d6,e,h1,h2,h3,h4,h5,h6⟩:=uR h hy
 exact⟨g,o,d0,d1,d2,d3,d4,d5,d6,e,not_or.1 fun e=>h1 (List.mem_cons.2 e),h2,h3,yh h4,yh h6,h5 0 _ rfl,h5 1 _ rfl,h5 2 _ rfl,h5 3 _ rfl,h5 4 _ rfl,h5 5 _ rfl,h5 6 _ rfl⟩
theorem uT{W0:World}{x:Tr}{r:Ws}(hx:MkF W0 29 x.nd x.nd.co x.g):MkF W0 60 (Tr.grp x r).nd x.nd.co x.g:=by
 refine MkF.mk ?_
 intro LZ b s ao cap LP w X9 kz nm ng na nw nr nk aa ca aw cw9 ar cr ak ck hm HKZ HNM HNG HNA HNW HNR HNK HN HM HWB hL
 have hF:=hL.fx
 go_enter Tryz.func60,Tryz.ntmps60
 go_upto_region 1 with(fail)
 (with_reducible refine zT1 HWB.out HM.out ?_);clear hF;clear hL HM HWB;intro W HB HM HWB hJ hL hF;replace HN:=cy HN hJ;clear hJ
 have n0:=HB.out.c7
 obtain⟨g0,o0,d00,d01,d02,d03,d04,d05,d06,ke0,kx0,kl0,ki0,HKN0,HD0,k00,k01,k02,k03,k04,k05,k06⟩:=bw HN.out (i:=0) (y:=x.nd) (by simp only[Tr.nd];rfl)
 subst ke0
 rw[Nat.zero_mul,Nat.add_zero]at k00
 unfold MkF at hx
 have HX:=yh hx
 clear hx
 go_wp2_with (first|(with_reducible refine zS ?_;intro W hL hF)|(go_at_call 29;(with_reducible refine zK [] HWB.out HM.out (fun W hL hS hN=>HX.out b _ ao cap LP _ _ hm hS hN (HD0.out.at_ hL)) ?_);clear hF hL HWB HM;intro W ao cap LP HWB HM hJ hL hF;clear hJ))
 refine bodyPost_end (by simp[results,Tryz.results60,go_sem, *];try rfl) rfl ?_
 exact⟨ao,cap,LP,rfl,HWB.out,HM⟩
theorem eV{W0:World}{x:Tr}(hx:MkF W0 29 x.nd x.nd.co x.g)(hlx:∀s,(x.g s).n+2<=s.n+x.nd.co/\s.n<=(x.g s).n):MkF W0 90 x.nd (x.nd.co+1) (fun s=>(x.g (s.op 24 1)).op 24 (-1)):=by
 refine MkF.mk ?_
 intro LZ b s ao cap LP w X9 kz nm ng na nw nr nk aa ca aw cw9 ar cr ak ck hm HKZ HNM HNG HNA HNW HNR HNK HN HM HWB hL
 have hF:=hL.fx
 go_enter Tryz.func90,Tryz.ntmps90
 go_upto_region 1 with(fail)
 (with_reducible refine zT1 HWB.out HM.out ?_);clear hF;clear hL HM HWB;intro W HB HM HWB hJ hL hF;replace HN:=cy HN hJ;clear hJ
 have n0:=HB.out.c7
 unfold MkF at hx
 have HX:=yh hx
 have HM9:=yh hm
 have HLx:=yh hlx;clear hlx
 clear hx hm
 go_wp2_with (first|(with_reducible refine zS ?_;intro W hL hF)|((first|(go_at_call 66;(with_reducible refine zK [] HWB.out HM.out (fun W hL hS hN=>bN 24 1 24 rfl W0 b _ ao cap LP _ (by have h0:=HM9.out;simp only[nO]at *;omega) hS hN) ?_))|(go_at_call 29;(with_reducible refine zK [] HWB.out HM.out (fun W hL hS hN=>HX.out b _ ao cap LP _ _ (by have h0:=HM9.out;simp only[nO]at *;omega) hS hN (HN.out.at_ hL)) ?_))|(go_at_call 66;(with_reducible refine zK [] HWB.out HM.out (fun W hL hS hN=>pr W0 b _ ao cap LP _ (by have h0:=HM9.out;have h1:=HLx.out (s.op 24 1);simp only[nO]at *;omega) hS hN) ?_)));clear hF hL HWB HM;intro W ao cap LP HWB HM hJ hL hF;replace HB:=cy HB hJ;replace HN:=cy HN hJ;clear hJ;clear n0;have n0:=HB.out.c7))
 refine bodyPost_end (by simp[results,Tryz.results90,go_sem, *];try rfl) rfl ?_
 exact⟨ao,cap,LP,rfl,HWB.out,HM⟩
theorem nY{W0:World}{x y:Tr}(hqx:MkF W0 90 x.nd (x.nd.co+1) (fun s=>(x.g (s.op 24 1)).op 24 (-1)))(hy:MkF W0 29 y.nd y.nd.co y.g)(hlx:∀s,(x.g s).n+2<=s.n+x.nd.co/\s.n<=(x.g s).n)(hly:∀s,(y.g s).n+2<=s.n+y.nd.co/\s.n<=(y.g s).n):MkF W0 56 (Tr.ao false x y).nd (x.nd.co+y.nd.co+4) (fun s=>(y.g (((x.g (s.op 24 1)).op 24 (-1)).op 3 0)).here ((x.g (s.op 24 1)).op 24 (-1)).n):=by
 refine MkF.mk ?_
 intro LZ b s ao cap LP w X9 kz nm ng na nw nr nk aa ca aw cw9 ar cr ak ck hm HKZ HNM HNG HNA HNW HNR HNK HN HM HWB hL
 have hF:=hL.fx
 go_enter Tryz.func56,Tryz.ntmps56
 obtain rfl:kz=2:=HKZ.out.symm
 go_upto_region 1 with(fail)
 (with_reducible refine zT1 HWB.out HM.out ?_);clear hF;clear hL HM HWB;intro W HB HM HWB hJ hL hF;replace HN:=cy HN hJ;clear hJ
 have n0:=HB.out.c7;obtain⟨g0,o0,d00,d01,d02,d03,d04,d05,d06,ke0,kx0,kl0,ki0,HKN0,HD0,k00,k01,k02,k03,k04,k05,k06⟩:=bw HN.out (i:=0) (y:=x.nd) (by simp only[Tr.nd];rfl);(first|subst ke0|(injection ke0 with ke0;injection ke0 with kf0 kg0;subst kf0 kg0));simp only[Nat.zero_mul,Nat.one_mul,Nat.add_zero]at k00;obtain⟨g1,o1,d10,d11,d12,d13,d14,d15,d16,ke1,kx1,kl1,ki1,HKN1,HD1,k10,k11,k12,k13,k14,k15,k16⟩:=bw HN.out (i:=1) (y:=y.nd) (by simp only[Tr.nd];rfl);(first|subst ke1|(injection ke1 with ke1;injection ke1 with kf1 kg1;subst kf1 kg1));simp only[Nat.zero_mul,Nat.one_mul,Nat.add_zero]at k10
 unfold MkF at hqx;have HQX:=yh hqx;clear hqx;unfold MkF at hy;have HY:=yh hy;clear hy
 have HM9:=yh hm
 have HLx:=yh hlx;clear hlx
 have HLy:=yh hly;clear hly
 clear hm
 go_wp2_with (first|(with_reducible refine zS ?_;intro W hL hF)|((first|((first|((first|(go_at_call 90;(with_reducible refine zK [] HWB.out HM.out (fun W hL hS hN=>HQX.out b _ ao cap LP _ _ (by have h0:=HM9.out;simp only[nO]at *;omega) hS hN (HD0.out.at_ hL)) ?_))|(go_at_call 106;(with_reducible refine zK [] HWB.out HM.out (fun W hL hS hN=>dG _ _ _ W0 b _ ao cap LP _ (by have h0:=HLy.out (((x.g (s.op 24 1)).op 24 (-1)).op 3 0);simp only[nO]at *;omega) (by have h0:=HM9.out;have h1:=HLx.out (s.op 24 1);have h2:=HLy.out (((x.g (s.op 24 1)).op 24 (-1)).op 3 0);simp only[nO]at *;omega) (HP.out.mk2 (Kn.sub hL sR)) (HQ.out.mk2 (Kn.sub hL sR)) hS hN) ?_)));clear hF hL HWB HM;intro W ao cap LP HWB HM hJ hL hF)|(go_at_call 91;(with_reducible refine zJ [] HWB.out HM.out (fun W hL hS hN=>xn W0 b _ ao cap LP _ (by have h0:=HM9.out;have h1:=HLx.out (s.op 24 1);simp only[nO]at *;omega) hS hN) ?_);clear hF hL HWB HM;intro W ao cap LP hp9 hq9 HP HQ HWB HM hJ hL hF));replace HB:=cy HB hJ;replace HN:=cy HN hJ)|(go_at_call 29;(with_reducible refine zK [] HWB.out HM.out (fun W hL hS hN=>HY.out b _ ao cap LP _ _ (by have h0:=HM9.out;have h1:=HLx.out (s.op 24 1);simp only[nO]at *;omega) hS hN (HD1.out.at_ hL)) ?_);clear hF hL HWB HM;intro W ao cap LP HWB HM hJ hL hF;replace HB:=cy HB hJ;replace HN:=cy HN hJ;replace HP:=cy HP hJ;replace HQ:=cy HQ hJ));clear hJ;clear n0;clear k00 k01 k02 k03 k04 k05 k06 HD0 HKN0 kx0 kl0 ki0;clear k10 k11 k12 k13 k14 k15 k16 HD1 HKN1 kx1 kl1 ki1;have n0:=HB.out.c7;obtain⟨g0,o0,d00,d01,d02,d03,d04,d05,d06,ke0,kx0,kl0,ki0,HKN0,HD0,k00,k01,k02,k03,k04,k05,k06⟩:=bw HN.out (i:=0) (y:=x.nd) (by simp only[Tr.nd];rfl);(first|subst ke0|(injection ke0 with ke0;injection ke0 with kf0 kg0;subst kf0 kg0));simp only[Nat.zero_mul,Nat.one_mul,Nat.add_zero]at k00;obtain⟨g1,o1,d10,d11,d12,d13,d14,d15,d16,ke1,kx1,kl1,ki1,HKN1,HD1,k10,k11,k12,k13,k14,k15,k16⟩:=bw HN.out (i:=1) (y:=y.nd) (by simp only[Tr.nd];rfl);(first|subst ke1|(injection ke1 with ke1;injection ke1 with kf1 kg1;subst kf1 kg1));simp only[Nat.zero_mul,Nat.one_mul,Nat.add_zero]at k10))
 refine bodyPost_end (by simp[results,Tryz.results56,go_sem, *];try rfl) rfl ?_
 exact⟨ao,cap,LP,rfl,HWB.out,HM⟩
theorem pt{W0:World}{x y:Tr}(hqx:MkF W0 90 x.nd (x.nd.co+1) (fun s=>(x.g (s.op 24 1)).op 24 (-1)))(hy:MkF W0 29 y.nd y.nd.co y.g)(hlx:∀s,(x.g s).n+2<=s.n+x.nd.co/\s.n<=(x.g s).n)(hly:∀s,(y.g s).n+2<=s.n+y.nd.co/\s.n<=(y.g s).n):MkF W0 56 (Tr.ao true x y).nd (x.nd.co+y.nd.co+4) (fun s=>(y.g (((x.g (s.op 24 1)).op 24 (-1)).op 2 0)).here ((x.g (s.op 24 1)).op 24 (-1)).n):=by
 refine MkF.mk ?_
 intro LZ b s ao cap LP w X9 kz nm ng na nw nr nk aa ca aw cw9 ar cr ak ck hm HKZ HNM HNG HNA HNW HNR HNK HN HM HWB hL
 have hF:=hL.fx
 go_enter Tryz.func56,Tryz.ntmps56
 obtain rfl:kz=3:=HKZ.out.symm
 go_upto_region 1 with(fail)
 (with_reducible refine zT1 HWB.out HM.out ?_);clear hF;clear hL HM HWB;intro W HB HM HWB hJ hL hF;replace HN:=cy HN hJ;clear hJ
 have n0:=HB.out.c7;obtain⟨g0,o0,d00,d01,d02,d03,d04,d05,d06,ke0,kx0,kl0,ki0,HKN0,HD0,k00,k01,k02,k03,k04,k05,k06⟩:=bw HN.out (i:=0) (y:=x.nd) (by simp only[Tr.nd];rfl);(first|subst ke0|(injection ke0 with ke0;injection ke0 with kf0 kg0;subst kf0 kg0));simp only[Nat.zero_mul,Nat.one_mul,Nat.add_zero]at k00;obtain⟨g1,o1,d10,d11,d12,d13,d14,d15,d16,ke1,kx1,kl1,ki1,HKN1,HD1,k10,k11,k12,k13,k14,k15,k16⟩:=bw HN.out (i:=1) (y:=y.nd) (by simp only[Tr.nd];rfl);(first|subst ke1|(injection ke1 with ke1;injection ke1 with kf1 kg1;subst kf1 kg1));simp only[Nat.zero_mul,Nat.one_mul,Nat.add_zero]at k10
 unfold MkF at hqx;have HQX:=yh hqx;clear hqx;unfold MkF at hy;have HY:=yh hy;clear hy
 have HM9:=yh hm
 have HLx:=yh hlx;clear hlx
 have HLy:=yh hly;clear hly
 clear hm
 go_wp2_with (first|(with_reducible refine zS ?_;intro W hL hF)|((first|((first|((first|(go_at_call 90;(with_reducible refine zK [] HWB.out HM.out (fun W hL hS hN=>HQX.out b _ ao cap LP _ _ (by have h0:=HM9.out;simp only[nO]at *;omega) hS hN (HD0.out.at_ hL)) ?_))|(go_at_call 106;(with_reducible refine zK [] HWB.out HM.out (fun W hL hS hN=>dG _ _ _ W0 b _ ao cap LP _ (by have h0:=HLy.out (((x.g (s.op 24 1)).op 24 (-1)).op 2 0);simp only[nO]at *;omega) (by have h0:=HM9.out;have h1:=HLx.out (s.op 24 1);have h2:=HLy.out (((x.g (s.op 24 1)).op 24 (-1)).op 2 0);simp only[nO]at *;omega) (HP.out.mk2 (Kn.sub hL sR)) (HQ.out.mk2 (Kn.sub hL sR)) hS hN) ?_)));clear hF hL HWB HM;intro W ao cap LP HWB HM hJ hL hF)|(go_at_call 91;(with_reducible refine zJ [] HWB.out HM.out (fun W hL hS hN=>Ai W0 b _ ao cap LP _ (by have h0:=HM9.out;have h1:=HLx.out (s.op 24 1);simp only[nO]at *;omega) hS hN) ?_);clear hF hL HWB HM;intro W ao cap LP hp9 hq9 HP HQ HWB HM hJ hL hF));replace HB:=cy HB hJ;replace HN:=cy HN hJ)|(go_at_call 29;(with_reducible refine zK [] HWB.out HM.out (fun W hL hS hN=>HY.out b _ ao cap LP _ _ (by have h0:=HM9.out;have h1:=HLx.out (s.op 24 1);simp only[nO]at *;omega) hS hN (HD1.out.at_ hL)) ?_);clear hF hL HWB HM;intro W ao cap LP HWB HM hJ hL hF;replace HB:=cy HB hJ;replace HN:=cy HN hJ;replace HP:=cy HP hJ;replace HQ:=cy HQ hJ));clear hJ;clear n0;clear k00 k01 k02 k03 k04 k05 k06 HD0 HKN0 kx0 kl0 ki0;clear k10 k11 k12 k13 k14 k15 k16 HD1 HKN1 kx1 kl1 ki1;have n0:=HB.out.c7;obtain⟨g0,o0,d00,d01,d02,d03,d04,d05,d06,ke0,kx0,kl0,ki0,HKN0,HD0,k00,k01,k02,k03,k04,k05,k06⟩:=bw HN.out (i:=0) (y:=x.nd) (by simp only[Tr.nd];rfl);(first|subst ke0|(injection ke0 with ke0;injection ke0 with kf0 kg0;subst kf0 kg0));simp only[Nat.zero_mul,Nat.one_mul,Nat.add_zero]at k00;obtain⟨g1,o1,d10,d11,d12,d13,d14,d15,d16,ke1,kx1,kl1,ki1,HKN1,HD1,k10,k11,k12,k13,k14,k15,k16⟩:=bw HN.out (i:=1) (y:=y.nd) (by simp only[Tr.nd];rfl);(first|subst ke1|(injection ke1 with ke1;injection ke1 with kf1 kg1;subst kf1 kg1));simp only[Nat.zero_mul,Nat.one_mul,Nat.add_zero]at k10))
 refine bodyPost_end (by simp[results,Tryz.results56,go_sem, *];try rfl) rfl ?_
 exact⟨ao,cap,LP,rfl,HWB.out,HM⟩
theorem eh(fid:FuncId)(caps:Array Value)(F:PS->PS)(N:Nat)(kz:Int)(W0:World){LZ:List (Nat×Obj)}(b:Nat)(s:PS)(ao:Option Addr)(cap:Nat)(LP:List (Nat×Obj))(w:World)(hfid:∀(a:Array Value) (W:World),(callFunc fid a).run Tryz.prog W=.ok (.enter fid a) W)(hF:∀(s2:PS) (ao2:Option Addr) (cap2:Nat) (LP2:List (Nat×Obj)) (W:World),Kn (b::keys LP) w W ((b,.cells #[.slice ao2 s2.n cap2,.int .i64 (s2.i:Int),.int .i64 (s2.e:Int)] 81 (0,0))::LP2)->MkQ W0 LZ W b s2 (.slice ao2 s2.n cap2) LP2->s2.n+N<=900000->Calls Tryz.prog fid caps W (fun e w'=>∃(a2:Option Addr) (c2:Nat) (LP3:List (Nat×Obj)),e=.returned (.tuple #[])/\Kn (b::keys LP2) W w' ((b,.cells #[.slice a2 (F s2).n c2,.int .i64 ((F s2).i:Int),.int .i64 ((F s2).e:Int)] 81 (0,0))::LP3)/\Hid (MkQ W0 LZ w' b (F s2) (.slice a2 (F s2).n c2) LP3)))(hlen:∀s,(F s).n<=s.n+N/\s.n<=(F s).n)(hm:s.n+N+4<=900000)(hL0:Kn (b::keys LP) w w ((b,.cells #[.slice ao s.n cap,.int .i64 (s.i:Int),.int .i64 (s.e:Int)] 81 (0,0))::LP))(hM:MkQ W0 LZ w b s (.slice ao s.n cap) LP):
  Calls Tryz.prog 88 #[.pointer (some ⟨b,0,none⟩),.int .i64 kz,.func (.func fid) #[] caps] w (fun e w'=>∃(a2:Option Addr) (c2:Nat) (LP2:List (Nat×Obj)),e=.returned (.tuple #[])/\Kn (b::keys LP) w w' ((b,.cells #[.slice a2 (s.child kz F).n c2,.int .i64 ((s.child kz F).i:Int),.int .i64 ((s.child kz F).e:Int)] 81 (0,0))::LP2)/\Hid (MkQ W0 LZ w' b ((s.child kz F)) (.slice a2 (s.child kz F).n c2) LP2)):=by
 have HM:=yh hM
 have HWB:=yh hL0
 have HM9:=yh hm
 have HLF:=yh hlen
 have HF:=yh hF
 have hL:=hL0
 clear hL0 hM hm hlen hF
 have hF:=hL.fx
 go_enter Tryz.func88,Tryz.ntmps88
 go_wp2_with (first|(with_reducible refine zS ?_;intro W hL hF)|((with_reducible refine zK [] HWB.out HM.out (fun W hL hS hN=>HF.out _ ao cap LP _ (Kn.mkr0 HWB.out hL) hN (by have h0:=HM9.out;have h1:=HLF.out (s.add {op:=13,b:=kz});simp only[nO]at *;omega)) ?_);clear hF hL HWB HM;intro W ao cap LP HWB HM hJ hL hF;replace HP:=cy HP hJ;replace HQ:=cy HQ hJ;clear hJ)|((first|(go_at_call 91;(with_reducible refine zJ [] HWB.out HM.out (fun W hL hS hN=>gL W0 b _ ao cap LP _ {op:=13,b:=kz} 13 0 kz ⟨#[]⟩ (.slice none 0 0) rfl rfl rfl rfl c_ (by have h0:=HM9.out;omega) hS hN) ?_);clear hF hL HWB HM;intro W ao cap LP hp9 hq9 HP HQ HWB HM hJ hL hF)|((first|(go_at_call 66;(with_reducible refine zK [] HWB.out HM.out (fun W hL hS hN=>bN 16 0 16 rfl W0 b _ ao cap LP _ (by have h0:=HM9.out;have h1:=HLF.out (s.add {op:=13,b:=kz});simp only[nO]at *;omega) hS hN) ?_))|(go_at_call 106;(with_reducible refine zK [] HWB.out HM.out (fun W hL hS hN=>dG _ _ _ W0 b _ ao cap LP _ (by have h0:=HM9.out;have h1:=HLF.out (s.add {op:=13,b:=kz});simp only[nO]at *;omega) (by have h0:=HM9.out;have h1:=HLF.out (s.add {op:=13,b:=kz});simp only[nO]at *;omega) (HP.out.mk2 (Kn.sub hL sR)) (HQ.out.mk2 (Kn.sub hL sR)) hS hN) ?_)));clear hF hL HWB HM;intro W ao cap LP HWB HM hJ hL hF;replace HP:=cy HP hJ;replace HQ:=cy HQ hJ));clear hJ))
 refine bodyPost_end (by simp[results,Tryz.results88,go_sem, *];try rfl) rfl ?_
 exact⟨ao,cap,LP,rfl,HWB.out,HM⟩
theorem r6{W0:World}{LZ:List (Nat×Obj)}{nd y:Nd}{N:Nat}{G:PS->PS}(hy:nd.kids[0]? =some y)(hx:MkF W0 29 y N G)(p0 q0:Nat)(cs:List Value)(b:Nat)(s:PS)(ao:Option Addr)(cap:Nat)(LP:List (Nat×Obj))(w:World)(hP:CelY (b::keys LP) w p0 [.pointer (some ⟨b,0,none⟩)])(hB:CelY (b::keys LP) w q0 cs)(hn:NodeIs (b::keys LP) w nd cs)(hm:s.n+N<=900000)(hL0:Kn (b::keys LP) w w ((b,.cells #[.slice ao s.n cap,.int .i64 (s.i:Int),.int .i64 (s.e:Int)] 81 (0,0))::LP))(hM:MkQ W0 LZ w b s (.slice ao s.n cap) LP):
  Calls Tryz.prog 92 #[.pointer (some ⟨p0,0,none⟩),.pointer (some ⟨q0,0,none⟩)] w (fun e w'=>∃(a2:Option Addr) (c2:Nat) (LP2:List (Nat×Obj)),e=.returned (.tuple #[])/\Kn (b::keys LP) w w' ((b,.cells #[.slice a2 (G s).n c2,.int .i64 ((G s).i:Int),.int .i64 ((G s).e:Int)] 81 (0,0))::LP2)/\Hid (MkQ W0 LZ w' b ((G s)) (.slice a2 (G s).n c2) LP2)):=by
 have HN:=yh hn
 obtain⟨aa,ca,aw,cw9,ar,cr,ak,ck,rfl⟩:=cY hn
 have HM:=yh hM
 have HWB:=yh hL0
 have HB:=yh hB
 have HP:=yh hP
 have pq:=hP.2.1
 have px:=hP.1
 simp only[List.mem_cons,not_or]at px
 have p00:=hP.2.2 0 _ rfl
 have n0:=HB.out.c7;obtain⟨g0,o0,d00,d01,d02,d03,d04,d05,d06,ke0,kx0,kl0,ki0,HKN0,HD0,k00,k01,k02,k03,k04,k05,k06⟩:=bw HN.out (i:=0) (y:=y) hy;(first|subst ke0|(injection ke0 with ke0;injection ke0 with kf0 kg0;subst kf0 kg0));simp only[Nat.zero_mul,Nat.one_mul,Nat.add_zero]at k00
 have hL:=hL0
 clear hL0 hM hn hB hP hy
 unfold MkF at hx;have HX:=yh hx;clear hx
 have hF:=hL.fx
 go_enter Tryz.func92,Tryz.ntmps92
 (with_reducible refine ac 0 ?_)
 go_still_tail 5,(by kernel_rfl)
 go_wp2_with (first|(with_reducible refine zS ?_;intro W hL hF)|(go_at_call 29;(with_reducible refine zK [] HWB.out HM.out (fun W hL hS hN=>HX.out b _ ao cap LP _ _ hm hS hN (HD0.out.at_ hL)) ?_);clear hF hL HWB HM;intro W ao cap LP HWB HM hJ hL hF;clear hJ))
 refine bodyPost_end (by simp[results,Tryz.results92,go_sem, *];try rfl) rfl ?_
 exact⟨ao,cap,LP,rfl,HWB.out,HM⟩
theorem uU{W0:World}{LZ:List (Nat×Obj)}{nd y:Nd}{N:Nat}{G:PS->PS}(hy:nd.kids[0]? =some y)(hx:MkF W0 29 y N G)(p0 q0:Nat)(cs:List Value)(b:Nat)(s:PS)(ao:Option Addr)(cap:Nat)(LP:List (Nat×Obj))(w:World)(hP:CelY (b::keys LP) w p0 [.pointer (some ⟨b,0,none⟩)])(hB:CelY (b::keys LP) w q0 cs)(hn:NodeIs (b::keys LP) w nd cs)(hm:s.n+N<=900000)(hL0:Kn (b::keys LP) w w ((b,.cells #[.slice ao s.n cap,.int .i64 (s.i:Int),.int .i64 (s.e:Int)] 81 (0,0))::LP))(hM:MkQ W0 LZ w b s (.slice ao s.n cap) LP):
  Calls Tryz.prog 95 #[.pointer (some ⟨p0,0,none⟩),.pointer (some ⟨q0,0,none⟩)] w (fun e w'=>∃(a2:Option Addr) (c2:Nat) (LP2:List (Nat×Obj)),e=.returned (.tuple #[])/\Kn (b::keys LP) w w' ((b,.cells #[.slice a2 (G s).n c2,.int .i64 ((G s).i:Int),.int .i64 ((G s).e:Int)] 81 (0,0))::LP2)/\Hid (MkQ W0 LZ w' b ((G s)) (.slice a2 (G s).n c2) LP2)):=by
 have HN:=yh hn
 obtain⟨aa,ca,aw,cw9,ar,cr,ak,ck,rfl⟩:=cY hn
 have HM:=yh hM
 have HWB:=yh hL0
 have HB:=yh hB
 have HP:=yh hP
 have pq:=hP.2.1
 have px:=hP.1
 simp only[List.mem_cons,not_or]at px
 have p00:=hP.2.2 0 _ rfl
 have n0:=HB.out.c7;obtain⟨g0,o0,d00,d01,d02,d03,d04,d05,d06,ke0,kx0,kl0,ki0,HKN0,HD0,k00,k01,k02,k03,k04,k05,k06⟩:=bw HN.out (i:=0) (y:=y) hy;(first|subst ke0|(injection ke0 with ke0;injection ke0 with kf0 kg0;subst kf0 kg0));simp only[Nat.zero_mul,Nat.one_mul,Nat.add_zero]at k00
 have hL:=hL0
 clear hL0 hM hn hB hP hy
 unfold MkF at hx;have HX:=yh hx;clear hx
 have hF:=hL.fx
 go_enter Tryz.func95,Tryz.ntmps95
 (with_reducible refine ac 0 ?_)
 go_still_tail 5,(by kernel_rfl)
 go_wp2_with (first|(with_reducible refine zS ?_;intro W hL hF)|(go_at_call 29;(with_reducible refine zK [] HWB.out HM.out (fun W hL hS hN=>HX.out b _ ao cap LP _ _ hm hS hN (HD0.out.at_ hL)) ?_);clear hF hL HWB HM;intro W ao cap LP HWB HM hJ hL hF;clear hJ))
 refine bodyPost_end (by simp[results,Tryz.results95,go_sem, *];try rfl) rfl ?_
 exact⟨ao,cap,LP,rfl,HWB.out,HM⟩
theorem el{W0:World}{LZ:List (Nat×Obj)}{nd:Nd}{N:Nat}{G:PS->PS}(hx:MkF W0 29 nd N G)(p0 q0:Nat)(cs:List Value)(b:Nat)(s:PS)(ao:Option Addr)(cap:Nat)(LP:List (Nat×Obj))(w:World)(hP:CelY (b::keys LP) w p0 [.pointer (some ⟨b,0,none⟩)])(hB:CelY (b::keys LP) w q0 cs)(hn:NodeIs (b::keys LP) w nd cs)(hm:s.n+N<=900000)(hL0:Kn (b::keys LP) w w ((b,.cells #[.slice ao s.n cap,.int .i64 (s.i:Int),.int .i64 (s.e:Int)] 81 (0,0))::LP))(hM:MkQ W0 LZ w b s (.slice ao s.n cap) LP):
  Calls Tryz.prog 89 #[.pointer (some ⟨p0,0,none⟩),.pointer (some ⟨q0,0,none⟩)] w (fun e w'=>∃(a2:Option Addr) (c2:Nat) (LP2:List (Nat×Obj)),e=.returned (.tuple #[])/\Kn (b::keys LP) w w' ((b,.cells #[.slice a2 (G s).n c2,.int .i64 ((G s).i:Int),.int .i64 ((G s).e:Int)] 81 (0,0))::LP2)/\Hid (MkQ W0 LZ w' b ((G s)) (.slice a2 (G s).n c2) LP2)):=by
 have HN:=yh hn
 obtain⟨aa,ca,aw,cw9,ar,cr,ak,ck,rfl⟩:=cY hn
 have HM:=yh hM
 have HWB:=yh hL0
 have HB:=yh hB
 have HP:=yh hP
 have pq:=hP.2.1
 have px:=hP.1
 simp only[List.mem_cons,not_or]at px
 have p00:=hP.2.2 0 _ rfl
 have n0:=HB.out.c7
 have hL:=hL0
 clear hL0 hM hn hB hP
 unfold MkF at hx;have HX:=yh hx;clear hx
 have hF:=hL.fx
 go_enter Tryz.func89,Tryz.ntmps89
 go_wp2_with (first|(with_reducible refine zS ?_;intro W hL hF)|(go_at_call 29;(with_reducible refine zK [] HWB.out HM.out (fun W hL hS hN=>HX.out b _ ao cap LP _ _ hm hS hN (HN.out.at_ hL)) ?_);clear hF hL HWB HM;intro W ao cap LP HWB HM hJ hL hF;clear hJ))
 refine bodyPost_end (by simp[results,Tryz.results89,go_sem, *];try rfl) rfl ?_
 exact⟨ao,cap,LP,rfl,HWB.out,HM⟩
theorem r7{W0:World}{LZ:List (Nat×Obj)}{nd:Nd}{N:Nat}{G:PS->PS}(hx:MkF W0 29 nd N G)(p0 q0:Nat)(cs:List Value)(b:Nat)(s:PS)(ao:Option Addr)(cap:Nat)(LP:List (Nat×Obj))(w:World)(hP:CelY (b::keys LP) w p0 [.pointer (some ⟨b,0,none⟩)])(hB:CelY (b::keys LP) w q0 cs)(hn:NodeIs (b::keys LP) w nd cs)(hm:s.n+N<=900000)(hL0:Kn (b::keys LP) w w ((b,.cells #[.slice ao s.n cap,.int .i64 (s.i:Int),.int .i64 (s.e:Int)] 81 (0,0))::LP))(hM:MkQ W0 LZ w b s (.slice ao s.n cap) LP):
  Calls Tryz.prog 96 #[.pointer (some ⟨p0,0,none⟩),.pointer (some ⟨q0,0,none⟩)] w (fun e w'=>∃(a2:Option Addr) (c2:Nat) (LP2:List (Nat×Obj)),e=.returned (.tuple #[])/\Kn (b::keys LP) w w' ((b,.cells #[.slice a2 (G s).n c2,.int .i64 ((G s).i:Int),.int .i64 ((G s).e:Int)] 81 (0,0))::LP2)/\Hid (MkQ W0 LZ w' b ((G s)) (.slice a2 (G s).n c2) LP2)):=by
 have HN:=yh hn
 obtain⟨aa,ca,aw,cw9,ar,cr,ak,ck,rfl⟩:=cY hn
 have HM:=yh hM
 have HWB:=yh hL0
 have HB:=yh hB
 have HP:=yh hP
 have pq:=hP.2.1
 have px:=hP.1
 simp only[List.mem_cons,not_or]at px
 have p00:=hP.2.2 0 _ rfl
 have n0:=HB.out.c7
 have hL:=hL0
 clear hL0 hM hn hB hP
 unfold MkF at hx;have HX:=yh hx;clear hx
 have hF:=hL.fx
 go_enter Tryz.func96,Tryz.ntmps96
 go_wp2_with (first|(with_reducible refine zS ?_;intro W hL hF)|(go_at_call 29;(with_reducible refine zK [] HWB.out HM.out (fun W hL hS hN=>HX.out b _ ao cap LP _ _ hm hS hN (HN.out.at_ hL)) ?_);clear hF hL HWB HM;intro W ao cap LP HWB HM hJ hL hF;clear hJ))
 refine bodyPost_end (by simp[results,Tryz.results96,go_sem, *];try rfl) rfl ?_
 exact⟨ao,cap,LP,rfl,HWB.out,HM⟩
theorem uV:∀(a:Array Value) (W:World),(callFunc 92 a).run Tryz.prog W=.ok (.enter 92 a) W:=fun _ _=>by kernel_rfl
theorem xo:∀(a:Array Value) (W:World),(callFunc 95 a).run Tryz.prog W=.ok (.enter 95 a) W:=fun _ _=>by kernel_rfl
theorem eW:∀(a:Array Value) (W:World),(callFunc 89 a).run Tryz.prog W=.ok (.enter 89 a) W:=fun _ _=>by kernel_rfl
theorem uW:∀(a:Array Value) (W:World),(callFunc 96 a).run Tryz.prog W=.ok (.enter 96 a) W:=fun _ _=>by kernel_rfl
theorem xp{W0:World}{x:Tr}(hx:MkF W0 29 x.nd x.nd.co x.g)(hlx:∀s,(x.g s).n+2<=s.n+x.nd.co/\s.n<=(x.g s).n):MkF W0 57 (Tr.back x).nd (x.nd.co+7) (fun s=>(s.child 4 x.g).op 5 0):=by
 refine MkF.mk ?_
 intro LZ b s ao cap LP w X9 kz nm ng na nw nr nk aa ca aw cw9 ar cr ak ck hm HKZ HNM HNG HNA HNW HNR HNK HN HM HWB hL
 have hF:=hL.fx
 go_enter Tryz.func57,Tryz.ntmps57
 go_upto_region 1 with(fail)
 (with_reducible refine zT2 HWB.out HM.out ?_);clear hF;clear hL HM HWB;intro W HB HP HM HWB hJ hL hF;replace HN:=cy HN hJ;clear hJ
 have n0:=HB.out.c7
 obtain⟨pq,px,p00⟩:=HP.out.c1
 have HXX:=yh hx
 have HM9:=yh hm
 have HLL:=yh (fun s=>(⟨by have:=hlx s;omega,(hlx s).2⟩:(x.g s).n<=s.n+x.nd.co/\s.n<=(x.g s).n))
 have HLx:=yh hlx;clear hlx
 have HY:Hid ((Tr.back x).nd.kids[0]? =some x.nd):=yh (by simp only[Tr.nd];rfl)
 clear hm hx
 go_wp2_with (first|(with_reducible refine zS ?_;intro W hL hF)|(first|(go_at_call 88;(with_reducible refine zK [] HWB.out HM.out (fun W hL hS hN=>eh 92 _ x.g x.nd.co 4 W0 b _ ao cap LP _ uV (fun s2 ao2 cap2 LP2 W2 hk hM2 hn2=>r6 HY.out HXX.out _ _ _ b s2 ao2 cap2 LP2 W2 ((HP.out.mk2 hL).mk2 hk) ((HB.out.mk2 hL).mk2 hk) ((HN.out.mk2 hL).mk2 hk) hn2 (Kn.self0q hk) hM2) HLL.out (by have h0:=HM9.out;simp only[nO]at *;omega) hS hN) ?_);clear hF hL HWB HM;intro W ao cap LP HWB HM hJ hL hF;replace HB:=cy HB hJ;replace HN:=cy HN hJ;replace HP:=cy HP hJ;clear hJ;clear pq px p00;obtain⟨pq,px,p00⟩:=HP.out.c1)|(go_at_call 66;(with_reducible refine zK [] HWB.out HM.out (fun W hL hS hN=>bN 5 0 5 rfl W0 b _ ao cap LP _ (by have h0:=HM9.out;have h1:=HLx.out (s.add {op:=13,b:=4});simp only[nO]at *;omega) hS hN) ?_);clear hF hL HWB HM;intro W ao cap LP HWB HM hJ hL hF;clear hJ)))
 refine bodyPost_end (by simp[results,Tryz.results57,go_sem, *];try rfl) rfl ?_
 exact⟨ao,cap,LP,rfl,HWB.out,HM⟩
theorem y'{W0:World}{x:Tr}{r:Ws}(hx:MkF W0 29 x.nd x.nd.co x.g)(hlx:∀s,(x.g s).n+2<=s.n+x.nd.co/\s.n<=(x.g s).n):MkF W0 59 (Tr.sub x r).nd (x.nd.co+7) (fun s=>(s.child 0 x.g).op 14 0):=by
 refine MkF.mk ?_
 intro LZ b s ao cap LP w X9 kz nm ng na nw nr nk aa ca aw cw9 ar cr ak ck hm HKZ HNM HNG HNA HNW HNR HNK HN HM HWB hL
 have hF:=hL.fx
 go_enter Tryz.func59,Tryz.ntmps59
 go_upto_region 1 with(fail)
 (with_reducible refine zT2 HWB.out HM.out ?_);clear hF;clear hL HM HWB;intro W HB HP HM HWB hJ hL hF;replace HN:=cy HN hJ;clear hJ
 have n0:=HB.out.c7
 obtain⟨pq,px,p00⟩:=HP.out.c1
 have HXX:=yh hx
 have HM9:=yh hm
 have HLL:=yh (fun s=>(⟨by have:=hlx s;omega,(hlx s).2⟩:(x.g s).n<=s.n+x.nd.co/\s.n<=(x.g s).n))
 have HLx:=yh hlx;clear hlx
 have HY:Hid ((Tr.sub x r).nd.kids[0]? =some x.nd):=yh (by simp only[Tr.nd];rfl)
 clear hm hx
 go_wp2_with (first|(with_reducible refine zS ?_;intro W hL hF)|(first|(go_at_call 88;(with_reducible refine zK [] HWB.out HM.out (fun W hL hS hN=>eh 95 _ x.g x.nd.co 0 W0 b _ ao cap LP _ xo (fun s2 ao2 cap2 LP2 W2 hk hM2 hn2=>uU HY.out HXX.out _ _ _ b s2 ao2 cap2 LP2 W2 ((HP.out.mk2 hL).mk2 hk) ((HB.out.mk2 hL).mk2 hk) ((HN.out.mk2 hL).mk2 hk) hn2 (Kn.self0q hk) hM2) HLL.out (by have h0:=HM9.out;simp only[nO]at *;omega) hS hN) ?_);clear hF hL HWB HM;intro W ao cap LP HWB HM hJ hL hF;replace HB:=cy HB hJ;replace HN:=cy HN hJ;replace HP:=cy HP hJ;clear hJ;clear pq px p00;obtain⟨pq,px,p00⟩:=HP.out.c1)|(go_at_call 66;(with_reducible refine zK [] HWB.out HM.out (fun W hL hS hN=>bN 14 0 14 rfl W0 b _ ao cap LP _ (by have h0:=HM9.out;have h1:=HLx.out (s.add {op:=13,b:=0});simp only[nO]at *;omega) hS hN) ?_);clear hF hL HWB HM;intro W ao cap LP HWB HM hJ hL hF;clear hJ)))
 refine bodyPost_end (by simp[results,Tryz.results59,go_sem, *];try rfl) rfl ?_
 exact⟨ao,cap,LP,rfl,HWB.out,HM⟩
def uX:Prop:=∀(src:ByteArray) (W:World),TabP W->
 (∀l,aH src.data.toList=.ok l->Calls Tryz.prog 13 #[.string src] W fun e w'=>∃(aa:Option Addr) (ca:Nat) (aw:Option Addr) (cw:Nat) (ar:Option Addr) (cr:Nat) (ak:Option Addr) (ck:Nat),e=.returned (.tuple #[.agg #[.int .i64 4,.string ⟨#[]⟩,.bool false,.slice aa 0 ca,.slice aw 0 cw,.slice ar 0 cr,.slice ak l.length ck],.int .i64 0,.int .i64 0])/\Hid (∀Y:List Nat,(∀y∈Y,∃c t,W.heap[y]? =some (.cells c t (0,0))/\t≠118)->NodeIs Y w' (.mk 4 [] false [] [] [] l) [.int .i64 4,.string ⟨#[]⟩,.bool false,.slice aa 0 ca,.slice aw 0 cw,.slice ar 0 cr,.slice ak l.length ck])/\Below W.heap.size W w')/\
 (∀f m,aH src.data.toList=.err f m->Calls Tryz.prog 13 #[.string src] W fun e w'=>e=.returned (.tuple #[.agg #[.int .i64 0,.string ⟨#[]⟩,.bool false,.slice none 0 0,.slice none 0 0,.slice none 0 0,.slice none 0 0],.int .i64 (if f=true then 6 else 27),.int .i64 (m:Int)])/\Below W.heap.size W w')
def Wd.all(P:Tr->Prop):Wd->Prop
 |.nil=>True
 |.lit _ r=>r.all P
 |.sub _ t r=>P t/\r.all P
 |.bad _ _ r=>r.all P
def cd(W0:World)(t:Tr):Prop:=MkF W0 29 t.nd t.nd.co t.g/\∀s,(t.g s).n+2<=s.n+t.nd.co/\s.n<=(t.g s).n
def MkW(W0:World)(w9:Wd):Prop:=∀ ⦃LZ:List (Nat×Obj)⦄ (b:Nat) (s:PS) (ao:Option Addr) (cap:Nat) (LP:List (Nat×Obj)) (w:World) (v:Value),s.n+cwt w9.ps<=900000->Kn (b::keys LP) w w ((b,.cells #[.slice ao s.n cap,.int .i64 (s.i:Int),.int .i64 (s.e:Int)] 81 (0,0))::LP)->MkQ W0 LZ w b s (.slice ao s.n cap) LP->PRow (b::keys LP) w v w9.ps->Calls Tryz.prog 67 #[.pointer (some ⟨b,0,none⟩),v] w (fun e w'=>∃(a2:Option Addr) (c2:Nat) (LP2:List (Nat×Obj)),e=.returned (.tuple #[])/\Kn (b::keys LP) w w' ((b,.cells #[.slice a2 (w9.g s).n c2,.int .i64 ((w9.g s).i:Int),.int .i64 ((w9.g s).e:Int)] 81 (0,0))::LP2)/\Hid (MkQ W0 LZ w' b ((w9.g s)) (.slice a2 (w9.g s).n c2) LP2))
theorem fy{k:Nat}{Y:List Nat}{w:World}{a:Option Addr}{n cap:Nat}{xs:List (List Value)}(h:RowY k Y w (.slice a n cap) xs){j:Nat}{cs:List Value}(hj:xs[j]? =some cs):∃g o,a=some ⟨g,o,none⟩/\g∉Y/\g<w.heap.size/\∀(c:Nat) x,cs[c]? =some x->w.cell? ⟨g,o+j*k+c,none⟩=some x:=by
 obtain⟨ao,c,hv,_,h2⟩:=h
 injection hv with e1 e2 e3
 subst e1
 obtain⟨g,o,h3,h3b,h4,h5⟩:=h2 j cs hj
 exact⟨g,o,h3,h3b,h4,h5⟩
theorem jo{Y:List Nat}{w:World}{a:Option Addr}{n cap:Nat}{ps:List Prt}(h:PRow Y w (.slice a n cap) ps){j:Nat}{p:Prt}(hj:ps[j]? =some p):∃g o,a=some ⟨g,o,none⟩/\g∉Y/\g<w.heap.size/\w.cell? ⟨g,o+j*3,none⟩=some (.int .i64 (p.k:Int))/\w.cell? ⟨g,o+j*3+1,none⟩=some (bs p.t)/\w.cell? ⟨g,o+j*3+2,none⟩=some (.bool p.q):=by
 obtain⟨g,o,h1,h2,h3,h4⟩:=fy h (j:=j) (cs:=ptc p) (by rw[List.getElem?_map,hj];rfl)
 exact⟨g,o,h1,h2,h3,h4 0 _ rfl,h4 1 _ rfl,h4 2 _ rfl⟩
theorem bA{α:Type}{l:List α}{k:Nat}{x:α}{r:List α}(h:l.drop k=x::r):l[k]? =some x/\l.drop (k+1)=r/\k<l.length:=by
 have hk:k<l.length:=by
  have:=congrArg List.length h;rw[List.length_drop,List.length_cons]at this;omega
 rw[List.drop_eq_getElem_cons hk]at h
 injection h with h1 h2
 exact⟨by rw[List.getElem?_eq_getElem hk,h1],h2,hk⟩
theorem MkQ.below{W0 W:World}{b:Nat}{s:PS}{v:Value}{LP LZ:List (Nat×Obj)}(h:MkQ W0 LZ W b s v LP):Below W0.heap.size W0 W:=by
 obtain⟨cv,h1,h2,h3,h4,_⟩:=h;exact h4
theorem MkQ.e{W0 W:World}{b:Nat}{s:PS}{v:Value}{LP LZ:List (Nat×Obj)}(h:MkQ W0 LZ W b s v LP)(e:Nat):MkQ W0 LZ W b ⟨s.c,s.i,e⟩ v LP:=h
theorem MkQ.typed{X:List Nat}{w0 W W1:World}{W0:World}{b:Nat}{s:PS}{v:Value}{LP A LZ:List (Nat×Obj)}{cells:Array Value}(h:MkQ W0 LZ W1 b s v LP)(hL:Kn X w0 W (A++(b,.cells cells 81 (0,0))::LP)):∀y∈b::keys LP,∃c t,W.heap[y]? =some (.cells c t (0,0))/\t≠118:=fun y hy=>by
 rcases List.mem_cons.1 hy with rfl|hy
 ·exact⟨_,_,hL.has _ (List.mem_append_right _ m0),by decide⟩
 ·obtain⟨p,hp,rfl⟩:=List.mem_map.1 hy
  obtain⟨cv,h1,⟨LC,rfl,h2,hz⟩,_⟩:=h;obtain⟨c,t,e,ht⟩:∃c t,p.2=.cells c t (0,0)/\t≠118:=by
   rcases List.mem_append.1 hp with hp|hp
   ·rcases h2 with⟨rfl,_⟩|⟨g,cap,cur,rfl,_⟩
    ·cases hp
    ·obtain rfl:=List.mem_singleton.1 hp
     exact⟨_,_,rfl,by decide⟩
   ·exact hz p hp
  exact⟨c,t,by rw[hL.has p (List.mem_append_right _ (List.mem_cons_of_mem _ hp)),e],ht⟩
theorem qE{W0:World}(hPG:uX)(hT:TabP W0)(w9:Wd)(hok:w9.ok)(hall:w9.all (cd W0))(hsz:w9.ps.length<=100000):MkW W0 w9:=by
 intro LZ b s ao cap LP w v hm hL0 hM hv
 obtain⟨av,cv9,hv9,_⟩:=id hv
 obtain⟨n9,hn9⟩:∃n,w9.ps.length=n:=⟨_,rfl⟩
 rw[List.length_map,hn9]at hv9
 subst hv9
 have hmf:=y_
 have HPG:=yh hPG
 have HT:=yh hT
 have HM:=yh hM
 have HWB:=yh hL0
 have HW:=yh hv
 have HM9:=yh hm
 have HN9:=yh hn9
 rw[hn9]at hsz
 have HOK:=yh (⟨hok,hall,rfl⟩:w9.ok/\w9.all (cd W0)/\w9.ps=w9.ps.drop 0)
 have hL:=hL0
 clear hL0 hM hv hm hok hall hPG hT hn9
 obtain⟨X9,hX9⟩:∃X,b::keys LP=X:=⟨_,rfl⟩
 rw[hX9]at HWB |-
 clear hX9
 have hF:=hL.fx
 go_enter Tryz.func67,Tryz.ntmps67
 go_upto_region 1 with(fail)
 (with_reducible refine zT1 HWB.out HM.out ?_);clear hF;clear hL HM HWB;intro W HP HM HWB hJ hL hF;replace HW:=yh (HW.out.mk2 hJ);clear hJ
 go_wp2
 go_loopw [11] (fun z wr=>∃(k:Nat) (r:Wd) (s2:PS) (ao:Option Addr) (cap:Nat) (LP:List (Nat×Obj)),z=.int .i64 k/\k<=n9/\Hid (r.ok/\r.all (cd W0)/\r.ps=w9.ps.drop k/\w9.g s=r.g s2)/\Hid (s2.n+cwt r.ps<=s.n+cwt w9.ps)/\Kn X9 w wr ((b,.cells #[.slice ao s2.n cap,.int .i64 (s2.i:Int),.int .i64 (s2.e:Int)] 81 (0,0))::LP)/\Hid (MkQ W0 LZ wr b s2 (.slice ao s2.n cap) LP)/\Hid (CelY (b::keys LP) wr (w.heap.size) [.pointer (some ⟨b,0,none⟩)])/\Hid (PRow (b::keys LP) wr (.slice av n9 cv9) w9.ps)) (fun z _=>n9-(intOf z).toNat)
 case atStart=>exact⟨0,w9,s,ao,cap,LP,rfl,Nat.zero_le _,yh ⟨HOK.out.1,HOK.out.2.1,HOK.out.2.2,rfl⟩,yh (Nat.le_refl _),HWB.out,HM,HP,HW⟩
 case round=>
  clear HWB HM HP HW HOK;obtain⟨k,r,s2,ao,cap,LP,rfl,hk,HR,HB9,hWB,HM,HP,HW⟩:=hrel;have HWB:=yh hWB;clear hL hF hWB;have hL:=Kn.self0q HWB.out;have hF:=hL.fx;have pq:=HP.out.2.1;have px:=HP.out.1;simp only[List.mem_cons,not_or]at px;have p00:=HP.out.2.2 0 _ rfl
  cases r with
  |nil=>
   have hkn:k=n9:=by
    have h:=congrArg List.length HR.out.2.2.1;rw[List.length_drop,HN9.out]at h;simp only[Wd.ps,List.length_nil]at h;omega
   subst hkn;have he:w9.g s=s2:=by rw[HR.out.2.2.2];simp only[Wd.g]
   go_wp2;refine bodyPost_end (by simp[results,Tryz.results67,go_sem, *];try rfl) rfl ?_;rw[he];exact⟨ao,cap,LP,rfl,HWB.out,HM⟩
  |lit p r=>
   obtain⟨HD1,HD2,HD3⟩:=bA HR.out.2.2.1.symm;have HD:Hid (w9.ps[k]? =some p/\w9.ps.drop (k+1)=r.ps/\k<w9.ps.length):=yh ⟨HD1,HD2,HD3⟩;have hkn:k<n9:=by rw[<- HN9.out];exact HD3
   obtain⟨g,o,hga,gx,gl,c0,c1,c2⟩:=jo HW.out HD1;clear HD1 HD2 HD3;subst hga;simp only[List.mem_cons,not_or]at gx;obtain⟨u,hu⟩:∃u:ByteArray,(⟨p.t.toArray⟩:ByteArray)=u:=⟨_,rfl⟩;have hbs:bs p.t=.string u:=by rw[<- hu];rfl
   rw[hbs]at c1;have HU9:Hid (u.data.toList=p.t):=yh (by rw[<- hu]);clear hbs hu;have hpk:((p.k:Int) != 2)=true:=by
    have h:=HR.out.1;simp only[Wd.ok]at h;rw[bne_iff_ne];omega
   go_wp2;refine⟨⟨k+1,r,s2,ao,cap,LP,by go_num,by omega,yh ?_,yh ?_,Kn.drop1 (HWB.out.tail0 aE),yh (HM.out.next aE),yh (HP.out.mk2 (Kn.drop1 aE)),yh (HW.out.mk2 (Kn.drop1 aE))⟩,by simp[intOf];omega⟩
   ·have h:=HR.out
    simp only[Wd.ok,Wd.all,Wd.g]at h;exact⟨h.1.2,h.2.1,HD.out.2.1.symm,h.2.2.2⟩
   ·have h:=HB9.out
    simp only[Wd.ps,dF]at h;omega
  |sub p t r=>
   obtain⟨HD1,HD2,HD3⟩:=bA HR.out.2.2.1.symm;have HD:Hid (w9.ps[k]? =some p/\w9.ps.drop (k+1)=r.ps/\k<w9.ps.length):=yh ⟨HD1,HD2,HD3⟩;have hkn:k<n9:=by rw[<- HN9.out];exact HD3
   obtain⟨g,o,hga,gx,gl,c0,c1,c2⟩:=jo HW.out HD1;clear HD1 HD2 HD3;subst hga;simp only[List.mem_cons,not_or]at gx;obtain⟨u,hu⟩:∃u:ByteArray,(⟨p.t.toArray⟩:ByteArray)=u:=⟨_,rfl⟩;have hbs:bs p.t=.string u:=by rw[<- hu];rfl
   rw[hbs]at c1;have HU9:Hid (u.data.toList=p.t):=yh (by rw[<- hu]);clear hbs hu;have hpk0:p.k=2:=by
    have h:=HR.out.1;simp only[Wd.ok]at h;exact h.1
   have hpk:((p.k:Int) != 2)=false:=by rw[bne_eq_false_iff_eq];omega
   by_cases he:s2.e=0
   ·have hez:((s2.e:Int) != 0)=false:=by rw[he];rfl
    have hok2:∃l,aH p.t=.ok l/\t.nd=.mk 4 [] false [] [] [] l:=by
     have h:=HR.out.1;simp only[Wd.ok]at h;obtain⟨_,⟨l,h1,h2,_⟩,_⟩:=h;exact⟨l,h1,h2⟩
    obtain⟨l,hpl,hnd⟩:=hok2;have HSL:=yh (qB hpl hnd);have HPL:=yh (show aH u.data.toList=.ok l by rw[HU9.out];exact hpl);have HND:=yh hnd;have HXX:Hid (cd W0 t):=yh (by have h:=HR.out.2.1;simp only[Wd.all]at h;exact h.1);have HX1:=yh HXX.out.1;have HX2:=yh HXX.out.2;have HLL:=yh (fun s=>(⟨by have:=HXX.out.2 s;omega,(HXX.out.2 s).2⟩:(t.g s).n<=s.n+t.nd.co/\s.n<=(t.g s).n));have HE:=yh he;have HCW:Hid (cwt (Wd.sub p t r).ps=40*p.t.length+16+cwt r.ps):=yh (by simp only[Wd.ps,dF,if_pos hpk0]);have HPE:=yh (fun(W:World) (h:TabP W)=>(HPG.out u W h).1 l HPL.out);clear hpl hnd he;go_upto_region 6 with((go_at_call 13;refine aj ?_;clear hF hL;intro W hL;have hF:=hL.fx;(with_reducible refine(HPE.out _ (HT.out.ext (HM.out.next hL).below)).mono ?_);rintro e V ⟨aa,ca,aw,cw,ar,cr,ak,ck,rfl,HNY,hb⟩;have HNR:=yh (HNY.out _ (HM.out.typed (A:=[_]) hL));clear HNY;have hL3:=hL.below hb;have hJ:=Kn.sub hL3 (List.sublist_append_right [_] _);have hM2:=yh (HM.out.next hL3);clear HM;have HM:=hM2;clear hM2;replace HP:=cy HP hJ;replace HW:=yh (HW.out.mk2 hJ);have HWB2:=yh (Kn.tail0 HWB.out hJ);clear HWB;have HWB:=HWB2;clear HWB2;clear hJ hL hL3 hb hF;have hL:=Kn.self0q HWB.out;have hF:=hL.fx;clear pq px p00;have pq:=HP.out.2.1;have px:=HP.out.1;simp only[List.mem_cons,not_or]at px;have p00:=HP.out.2.2 0 _ rfl))
    rw[<- HND.out]at HNR;(with_reducible refine zT1 HWB.out HM.out ?_);clear hF;clear hL HM HWB;intro W HB HM HWB hJ hL hF;replace HP:=cy HP hJ;replace HNR:=yh (HNR.out.mk2 hJ);replace HW:=yh (HW.out.mk2 hJ);clear hJ
    clear pq px p00 gx gl c0 c1 c2;have pq:=HP.out.2.1;have px:=HP.out.1;simp only[List.mem_cons,not_or]at px;have p00:=HP.out.2.2 0 _ rfl;go_wp2_with (first|(with_reducible refine zS ?_;intro W hL hF)|(first|(go_at_call 88;(with_reducible refine zK [] HWB.out HM.out (fun W hL hS hN=>eh 96 _ t.g t.nd.co 8 W0 b _ ao cap LP _ uW (fun s2 ao2 cap2 LP2 W2 hk hM2 hn2=>r7 HX1.out _ _ _ b s2 ao2 cap2 LP2 W2 ((HP.out.mk2 hL).mk2 hk) ((HB.out.mk2 hL).mk2 hk) ((HNR.out.mk2 hL).mk2 hk) hn2 (Kn.self0q hk) hM2) HLL.out (by have h0:=HM9.out;have h1:=HB9.out;have h2:=HSL.out;have h3:=HCW.out;simp only[nO]at *;omega) hS hN) ?_);clear hF hL HWB HM;intro W ao cap LP HWB HM hJ hL hF;replace HB:=cy HB hJ;replace HP:=cy HP hJ;replace HNR:=yh (HNR.out.mk2 hJ);replace HW:=yh (HW.out.mk2 hJ);clear hJ;clear pq px p00;have pq:=HP.out.2.1;have px:=HP.out.1;simp only[List.mem_cons,not_or]at px;have p00:=HP.out.2.2 0 _ rfl)|(go_at_call 66;(with_reducible refine zK [] HWB.out HM.out (fun W hL hS hN=>bN 15 0 15 rfl W0 b _ ao cap LP _ (by have h0:=HM9.out;have h1:=HB9.out;have h2:=HSL.out;have h3:=HCW.out;have h4:=HX2.out (s2.add {op:=13,b:=8});simp only[nO]at *;omega) hS hN) ?_);clear hF hL HWB HM;intro W ao cap LP HWB HM hJ hL hF;replace HP:=cy HP hJ;replace HW:=yh (HW.out.mk2 hJ);clear hJ)))
    refine⟨⟨k+1,r,(s2.child 8 t.g).op 15 0,ao,cap,LP,by go_num,by omega,yh ?_,yh ?_,HWB.out,HM,HP,HW⟩,by simp[intOf];omega⟩
    ·have h:=HR.out
     have he:=HE.out;simp only[Wd.ok,Wd.all,Wd.g,he,if_true]at h;exact⟨h.1.2.2.2,h.2.1.2,HD.out.2.1.symm,h.2.2.2⟩
    ·have h:=HB9.out
     have h1:=HSL.out;have h2:=HXX.out.2 (s2.add {op:=13,b:=8});rw[HCW.out]at h;rw[bX,bR];rw[bh]at h2;omega
   ·have hez:((s2.e:Int) != 0)=true:=by rw[bne_iff_ne];omega
    go_wp2;refine⟨⟨k+1,r,s2,ao,cap,LP,by go_num,by omega,yh ?_,yh ?_,Kn.drop1 (HWB.out.tail0 aE),yh (HM.out.next aE),yh (HP.out.mk2 (Kn.drop1 aE)),yh (HW.out.mk2 (Kn.drop1 aE))⟩,by simp[intOf];omega⟩
    ·have h:=HR.out
     simp only[Wd.ok,Wd.all,Wd.g,if_neg he]at h;exact⟨h.1.2.2.2,h.2.1.2,HD.out.2.1.symm,h.2.2.2⟩
    ·have h:=HB9.out
     simp only[Wd.ps,dF]at h;omega
  |bad p f r=>
   obtain⟨HD1,HD2,HD3⟩:=bA HR.out.2.2.1.symm;have HD:Hid (w9.ps[k]? =some p/\w9.ps.drop (k+1)=r.ps/\k<w9.ps.length):=yh ⟨HD1,HD2,HD3⟩;have hkn:k<n9:=by rw[<- HN9.out];exact HD3
   obtain⟨g,o,hga,gx,gl,c0,c1,c2⟩:=jo HW.out HD1;clear HD1 HD2 HD3;subst hga;simp only[List.mem_cons,not_or]at gx;obtain⟨u,hu⟩:∃u:ByteArray,(⟨p.t.toArray⟩:ByteArray)=u:=⟨_,rfl⟩;have hbs:bs p.t=.string u:=by rw[<- hu];rfl
   rw[hbs]at c1;have HU9:Hid (u.data.toList=p.t):=yh (by rw[<- hu]);clear hbs hu;have hpk0:p.k=2:=by
    have h:=HR.out.1;simp only[Wd.ok]at h;exact h.1
   have hpk:((p.k:Int) != 2)=false:=by rw[bne_eq_false_iff_eq];omega
   by_cases he:s2.e=0
   ·have hez:((s2.e:Int) != 0)=false:=by rw[he];rfl
    obtain⟨m,hpl⟩:∃m,aH p.t=.err f m:=by
     have h:=HR.out.1;simp only[Wd.ok]at h;exact h.2.1
    have HPL:=yh (show aH u.data.toList=.err f m by rw[HU9.out];exact hpl);obtain⟨e2,he2⟩:∃z:Nat,(if f=true then 6 else 27)=z:=⟨_,rfl⟩;have hec:(if f=true then(6:Int)else 27)=(e2:Int):=by rw[<- he2];cases f<;>rfl
    have hec2:((e2:Int) != 0)=true:=by rw[<- he2];cases f<;>rfl
    have HPE:Hid (∀W:World,TabP W->Calls Tryz.prog 13 #[.string u] W fun e w'=>e=.returned (.tuple #[.agg #[.int .i64 0,.string ⟨#[]⟩,.bool false,.slice none 0 0,.slice none 0 0,.slice none 0 0,.slice none 0 0],.int .i64 (e2:Int),.int .i64 (m:Int)])/\Below W.heap.size W w'):=yh (fun W h=>by have h2:=(HPG.out u W h).2 f m HPL.out;rw[hec]at h2;exact h2);have HST:Hid (w9.g s=⟨s2.c,s2.i,e2⟩):=yh (by rw[HR.out.2.2.2,<- he2];simp only[Wd.g,he,if_true]);clear hpl hec he he2;go_wp2_with (first|(with_reducible refine zS ?_;intro W hL hF)|(go_at_call 13;refine aj ?_;clear hF hL;intro W hL;have hF:=hL.fx;(with_reducible refine(HPE.out _ (HT.out.ext (HM.out.next hL).below)).mono ?_);rintro e V ⟨rfl,hb⟩;have hL3:=hL.below hb;have hJ:=Kn.sub hL3 (List.sublist_append_right [_] _);have hM2:=yh (HM.out.next hL3);clear HM;have HM:=hM2;clear hM2;replace HP:=cy HP hJ;replace HW:=yh (HW.out.mk2 hJ);have HWB2:=yh (Kn.tail0 HWB.out hJ);clear HWB;have HWB:=HWB2;clear HWB2;clear hJ hL hL3 hb hF;have hL:=Kn.self0q HWB.out;have hF:=hL.fx;clear pq px p00;have pq:=HP.out.2.1;have px:=HP.out.1;simp only[List.mem_cons,not_or]at px;have p00:=HP.out.2.2 0 _ rfl))
    refine zF ?_;intro W hL hF;refine bodyPost_ret (by simp[results,Tryz.results67,go_sem, *];try rfl) rfl ?_;rw[HST.out];exact⟨ao,cap,LP,rfl,Kn.drop1 (HWB.out.tail0 hL),yh ((HM.out.next hL).e e2)⟩
   ·have hez:((s2.e:Int) != 0)=true:=by rw[bne_iff_ne];omega
    go_wp2;refine⟨⟨k+1,r,s2,ao,cap,LP,by go_num,by omega,yh ?_,yh ?_,Kn.drop1 (HWB.out.tail0 aE),yh (HM.out.next aE),yh (HP.out.mk2 (Kn.drop1 aE)),yh (HW.out.mk2 (Kn.drop1 aE))⟩,by simp[intOf];omega⟩
    ·have h:=HR.out
     simp only[Wd.ok,Wd.all,Wd.g,if_neg he]at h;exact⟨h.1.2.2,h.2.1,HD.out.2.1.symm,h.2.2.2⟩
    ·have h:=HB9.out
     simp only[Wd.ps,dF]at h;omega
end
end Go.Proofs.YtgboffbbpmileaaGreatDoor
