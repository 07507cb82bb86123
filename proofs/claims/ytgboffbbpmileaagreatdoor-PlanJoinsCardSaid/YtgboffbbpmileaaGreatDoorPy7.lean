/- Lemmas and walks for the law VLawPJoins (part 7). -/
import Derived.Test.YtgboffbbpmileaaGreatDoorPy6
import Derived.Test.YtgboffbbpmileaaGreatDoorProg
import Derived.WalkKit
import Derived.Handy
import Derived.Deep.Light
import Derived.WalkSmall
import Derived.StillTailTactics
import Derived.Lib.Hide
import Derived.Lib.AppendStr
set_option maxRecDepth 20000
set_option maxHeartbeats 4000000
set_option linter.unusedVariables false
set_option linter.unusedSimpArgs false
namespace Go.Proofs.YtgboffbbpmileaaGreatDoor
open Go Go.RowKit
section
theorem dq{P:Program}{fn:Func}{R:Ending->World->Prop}{x:Exit}{a:Act}{X:List Nat}{w0 Xw:World}{L:List (Nat×Obj)}[h:Kn X w0 Xw L]
  (k:∀W,Kn X w0 W L->bodyPostD P fn R x a W):bodyPostD P fn R x a Xw:=k Xw h
def PIn(w:World)(Y:List Nat)(x:Tok×Value):Prop:=(x.2=.slice none 0 0/\x.1.parts=[])\/∃g cap cur,x.2=.slice (some ⟨g,0,none⟩) x.1.parts.length cap/\w.heap[g]? =some (.cells cur 118 (0,0))/\RowB 3 cur cap x.1.parts.length (x.1.parts.flatMap ptc)/\g∉Y
theorem PIn.kn{w w':World}{Y Y':List Nat}{L:List (Nat×Obj)}{x:Tok×Value}(h:PIn w Y x)(k:Kn Y w w' L)(hy:∀y∈Y',y∈Y\/y∈keys L):PIn w' Y' x:=by
 rcases h with h|⟨g,cap,cur,h1,h2,h3,h4⟩
 ·exact .inl h
 ·have hlt:=ft h2
  refine .inr ⟨g,cap,cur,h1,?_,h3,fun hm=>?_⟩
  ·rw[k.block g hlt h4];exact h2
  ·rcases hy g hm with e|e
   ·grind
   ·obtain⟨p,hp,rfl⟩:=List.mem_map.1 e
    rcases k.own p hp with e|e
    ·omega
    grind
theorem PIn.new{w0 w:World}{b:Nat}{o:Obj}{LO2 LP R:List (Nat×Obj)}{X:List Nat}{x:Tok×Value}(hP:PtL LP x.2 x.1.parts)(k:Kn X w0 w ((b,o)::((LO2++LP)++R))):PIn w (b::keys (LO2++R)) x:=by
 rcases hP with⟨rfl,h2,h3⟩|⟨g,cap,cur,rfl,h2,h3⟩
 ·exact .inl ⟨h2,h3⟩
 ·refine .inr ⟨g,cap,cur,h2,k.has (g,_) (by simp),h3,?_⟩
  have nd:=k.nd;grind
theorem Kn.selfbR{X:List Nat}{w0 W:World}{b:Nat}{o:Obj}{LO R:List (Nat×Obj)}(h:Kn X w0 W ((b,o)::(LO++R))):Kn (b::keys LO) W W ((b,o)::LO):=Kn.self (P:=(b,o)::LO) [] R h
theorem Kn.joinbR{X:List Nat}{w0 W W':World}{b:Nat}{o:Obj}{LO R L':List (Nat×Obj)}(h:Kn X w0 W ((b,o)::(LO++R)))(k:Kn (b::keys LO) W W' L'):Kn X w0 W' (L'++R):=Kn.joinA (P:=(b,o)::LO) [] R h k
theorem gC{α:Type}{f:α->List Value}{k:Nat}(hk:∀a,(f a).length=k):∀(l:List α) (j c:Nat) (a:α) (x:Value),l[j]? =some a->(f a)[c]? =some x->(l.flatMap f)[j*k+c]? =some x
 | [],j,c,a,x,h,_=>by simp at h
 |y::l,0,c,a,x,h,hx=>by
  grind
 |y::l,j+1,c,a,x,h,hx=>by
  have:=gC hk l j c a x (by grind) hx;grind
theorem kr{α:Type}{f:α->List Value}{k:Nat}(hk:∀a,(f a).length=k){w:World}{g cap:Nat}{cur:Array Value}{e:TypeId}{l:List α}(hg:w.heap[g]? =some (.cells cur e (0,0)))(hr:RowB k cur cap l.length (l.flatMap f)):RowK k w (.slice (some ⟨g,0,none⟩) l.length cap) (l.map f):=by
 refine⟨some ⟨g,0,none⟩,cap,by simp,fun j cs hj=>⟨g,0,rfl,fun c x hx=>?_⟩⟩
 rw[List.getElem?_map]at hj
 cases hl:l[j]? with
 |none=>grind
 |some a=>
  rw[hl]at hj;simp only[Option.map_some,Option.some.injEq]at hj;subst hj;rw[Nat.zero_add,World.cell?,hg];exact hr.get (gC hk l j c a x hl hx)
theorem ry(x:Tok×Value):(tkc x).length=6:=rfl
theorem uZ(x:Prt):(ptc x).length=3:=rfl
def u4(v:Value):Prop:=∃ao n cap,v=.slice ao n cap/\n<=cap
theorem PIn.capok{w:World}{Y:List Nat}{x:Tok×Value}(h:PIn w Y x):u4 x.2:=by
 rcases h with⟨h1,h2⟩|⟨g,cap,cur,h1,h2,h3,h4⟩
 ·exact⟨_,_,_,h1,Nat.le_refl _⟩
 ·exact⟨_,_,_,h1,h3.le⟩
def TyV(w:World)(t:TypeId)(v:Value):Prop:=∀a n c,v=.slice (some a) n c->∃cells,w.heap[a.block]? =some (.cells cells t (0,0))
theorem TyV.ext{w w':World}{t:TypeId}{v:Value}(h:TyV w t v)(k:Below w.heap.size w w'):TyV w' t v:=fun a n c e=>by
 obtain⟨cells,h1⟩:=h a n c e
 exact⟨cells,by rw[k.block _ (ft h1)];exact h1⟩
theorem qr{w:World}{t:TypeId}{g o n c:Nat}{cells:Array Value}(h:w.heap[g]? =some (.cells cells t (0,0))):TyV w t (.slice (some ⟨g,o,none⟩) n c):=fun a n c e=>by
 grind
theorem PIn.tyv{w:World}{Y:List Nat}{x:Tok×Value}(h:PIn w Y x):TyV w 118 x.2:=by
 rcases h with⟨h1,h2⟩|⟨g,cap,cur,h1,h2,h3,h4⟩
 ·rw[h1];intro a n c e;cases e
 grind[qr]
theorem PIn.row{w:World}{Y:List Nat}{x:Tok×Value}(h:PIn w Y x):RowK 3 w x.2 (x.1.parts.map ptc):=by
 rcases h with⟨h1,h2⟩|⟨g,cap,cur,h1,h2,h3,h4⟩
 ·rw[h1,h2];exact⟨none,0,rfl,fun j cs h=>by simp at h⟩
 grind[kr,uZ]
def TokRow(w:World)(v:Value)(ts:List Tok):Prop:=u4 v/\TyV w 76 v/\∃tvs:List (Tok×Value),tvs.map (·.1)=ts/\RowK 6 w v (tvs.map tkc)/\∀x∈tvs,RowK 3 w x.2 (x.1.parts.map ptc)/\u4 x.2/\TyV w 118 x.2
theorem TokRow.ext{w w':World}{v:Value}{ts:List Tok}(h:TokRow w v ts)(k:Below w.heap.size w w'):TokRow w' v ts:=by
 obtain⟨hc,ht,tvs,h1,h2,h3⟩:=h
 exact⟨hc,ht.ext k,tvs,h1,h2.ext k,fun x hx=>⟨(h3 x hx).1.ext k,(h3 x hx).2.1,(h3 x hx).2.2.ext k⟩⟩
def Ch(V:Res)(e:Ending)(w':World):Prop:=match V with
 |.ok ts=>∃v,e=.returned (.tuple #[v,.int .i64 0,.int .i64 0])/\TokRow w' v ts
 |.err full m=>e=.returned (.tuple #[.slice none 0 0,.int .i64 (if full then 6 else 27),.int .i64 m])
def zZ(src:ByteArray)(w:World)(e:Ending)(w':World):Prop:=Below w.heap.size w w'/\Ch (lex src.data.toList) e w'
theorem BJ(src:ByteArray)(hs:8000<src.size)(w:World):Calls Tryz.prog 24 #[.string src] w (zZ src w):=by
 have hmf:∀(fn:Fn) (first cap:Array Value) (w:World),(Instr.makeFunc fn first cap).run Tryz.prog w=.ok (.func fn first cap) w:=fun _ _ _ _=>rfl
 have hl:lex src.data.toList=.err true 0:=by unfold lex;rw[if_pos (by rw[szl];exact hs)]
 have HLX:=yh hl
 clear hl
 have q0:(src.size:Int)>8000:=by omega
 have hL:Kn [] w w []:=Kn.refl [] w
 have hF:=hL.fx
 go_enter_defers Tryz.func24,Tryz.ntmps24
 go_wp2
 refine dq ?_;clear hF hL;intro W hL;have hF:=hL.fx
 simp[bodyPostD,Leaves,settle,results,Tryz.results24,go_sem,hF]
 exact⟨hL.below0,by rw[HLX.out];rfl⟩
theorem u5(src:ByteArray)(hs:src.size<=8000)(w:World):Calls Tryz.prog 24 #[.string src] w (zZ src w):=by
 obtain⟨i0,hi,hz0,hz1,hz2⟩:=bu zV
 have hs0:src.size<=10000:=by omega
 have hmf:∀(fn:Fn) (first cap:Array Value) (w:World),(Instr.makeFunc fn first cap).run Tryz.prog w=.ok (.func fn first cap) w:=fun _ _ _ _=>rfl
 have hsl:=szl src
 obtain⟨V,hV⟩:∃V,lex src.data.toList=V:=⟨_,rfl⟩
 have HLX:=yh hV
 have hV2:lim [] (bG src.data.toList 1)=V:=by rw[<- hV,jJ _ (by rw[szl];exact hs)]
 have HV:=yh hV2
 clear hV hV2
 have q0:¬(src.size:Int)>8000:=by omega
 have hL:Kn [] w w []:=Kn.refl [] w
 have hF:=hL.fx
 go_enter_defers Tryz.func24,Tryz.ntmps24
 go_wp2
 refine zE ?_;intro W hL hF
 clear hF
 generalize hb3:w.heap.size+1+1+1=b at hL |-
 generalize hb2:w.heap.size+1+1=bl at hL |-
 generalize hb1:w.heap.size+1=be at hL |-
 generalize hb0:w.heap.size=bo at hL |-
 clear hb0 hb1 hb2 hb3
 go_loopg [] (src.size) (fun k wr=>∃(at_ ln:Nat) (v:Value) (LO:List (Nat×Obj)) (tvs:List (Tok×Value)),Hid (k=src.size-at_)/\at_<=src.size/\Hid (ln<=at_+1)/\Hid (tvs.length<=2000)/\gS LO v tvs/\Hid (∀x∈tvs,PIn wr (b::keys (LO++[(bo,.cells #[.slice none 0 0] 66 (0,0)),(be,.cells #[.int .i64 0] 26 (0,0)),(bl,.cells #[.int .i64 0] 3 (0,0))])) x)/\Kn [] w wr ((b,.cells #[.string src,.int .i64 (at_),.int .i64 (ln),v] 111 (0,0))::(LO++[(bo,.cells #[.slice none 0 0] 66 (0,0)),(be,.cells #[.int .i64 0] 26 (0,0)),(bl,.cells #[.int .i64 0] 3 (0,0))]))/\Hid (lim (tvs.map (·.1)) (bG (src.data.toList.drop at_) ln)=V))
 case atStart=>
  change Kn [] w W [(b,.cells #[.string src,.int .i64 (((0:Nat):Int)),.int .i64 (((1:Nat):Int)),.slice none 0 0] 111 (0,0)),_,_,_]at hL;refine⟨0,1,.slice none 0 0,[],[],yh rfl,by omega,yh (by omega),yh (by simp),.inl ⟨rfl,rfl,rfl⟩,yh (by simp),hL.perm fun p=>?_,HV⟩;simp only[List.countP_cons,List.countP_append,List.countP_nil];omega
 case round=>
  clear hL HV;obtain⟨at_,ln,v,LO,tvs,HK,hle,HLN,HTV,hO,HPI,hL,HV⟩:=hrel;have hln:ln<=100000:=by have:=HLN.out;omega
  have HL0:=yh hL;replace hL:=hL.self0;have hF:=hL.fx;by_cases hlt:at_<src.size
  ·obtain⟨c0,hc0⟩:∃c,src.data.toList[at_]? =some c:=⟨_,List.getElem?_eq_getElem (by rw[szl];omega)⟩
   have eb0:=bP hc0 (by omega);have hd0:src.data.toList.drop (at_)=c0::src.data.toList.drop (at_+1):=by
    obtain⟨h1,h2⟩:=List.getElem?_eq_some_iff.1 hc0;rw[List.drop_eq_getElem_cons h1,h2]
   obtain⟨t,ht⟩:∃t,src.data.toList.drop (at_+1)=t:=⟨_,rfl⟩;rw[ht]at hd0;have htl:t.length=src.size-(at_+1):=by rw[<- ht,List.length_drop,hsl]
   rw[hd0]at HV;obtain⟨S,hS⟩:∃S,aT c0 t ln=S:=⟨_,rfl⟩;have hsl1:=lU c0 t ln;have hsl2:=du c0 t ln;have HW:Hid (∀W,Kn (b::keys LO) W W ((b,.cells #[.string src,.int .i64 (at_),.int .i64 (ln),v] 111 (0,0))::LO)->Calls Tryz.prog 48 #[.pointer (some ⟨b,0,none⟩)] W (TPost src b (b::keys LO) W v LO tvs S)):=yh fun W hK=>by
    rw[<- hS];exact uY src hs0 v b at_ ln W LO tvs hK hO hln HLN.out c0 t hd0
   rw[hS]at hsl1 hsl2
   cases S with
   |skip r m=>
    have hVV:=uW (out:=tvs.map (·.1)) hS;rw[HV.out]at hVV;have HVV:=yh hVV.symm;have HS1:=yh hsl1;have HS2:=yh hsl2;have HTL:=yh htl;clear hVV hsl1 hsl2 hS hd0 hc0 ht htl;unfold TPost at HW;go_wp2_with (first|((with_reducible refine af 5 ?_);refine zQ ?_;clear hF hL;intro ι F hne hG;(repeat go_big_quiet_step (fail));refine wpQuiet_nil ?_;clear hG;intro W hL hF)|(go_at_call 48;(with_reducible refine zM (fun W hL=>HW.out _ hL.selfbR) ?_);rintro W hL e W2 hb;obtain⟨rfl,at2,ha2,hr2,hb⟩:=hb;replace hL:=hL.joinbR hb;clear hb;have hr2:=yh hr2;simp only[kfb]at hL;have hF:=hL.fx))
    have hlen:r.length=src.size-at2:=by rw[<- hr2.out,List.length_drop,hsl]
    have h1:=HS1.out;have h2:=HS2.out;have h3:=HTL.out;have h4:=HLN.out;simp only[gY,Step.rest,List.length_cons]at h1 h2;go_roundg (src.size-at2)
    case measure=>have:=HK.out;omega
    case rel=>exact⟨at2,m,v,LO,tvs,yh rfl,ha2,yh (by omega),HTV,hO,yh fun x hx=>(HPI.out x hx).kn hL fun y hy=>.inl hy,HL0.out.tail0 hL,yh (by rw[hr2.out];exact HVV.out)⟩
   |bad m=>
    have hVV:=xQ (out:=tvs.map (·.1)) hS;rw[HV.out]at hVV;have HVV:=yh hVV;clear hVV hsl1 hsl2 hS hd0 hc0 ht htl;unfold TPost at HW;go_wp2_with (first|((with_reducible refine af 5 ?_);refine zQ ?_;clear hF hL;intro ι F hne hG;(repeat go_big_quiet_step (fail));refine wpQuiet_nil ?_;clear hG;intro W hL hF)|(go_at_call 48;(with_reducible refine zM (fun W hL=>HW.out _ hL.selfbR) ?_);rintro W hL e W2 hb;obtain⟨rfl,hb⟩:=hb;replace hL:=hL.joinbR hb;clear hb;simp only[kfb]at hL;have hF:=hL.fx))
    have hL3:Kn [] w _ [(bo,.cells #[.slice none 0 0] 66 (0,0)),(be,.cells #[.int .i64 0] 26 (0,0)),(bl,.cells #[.int .i64 0] 3 (0,0))]:=HL0.out.tail0 hL;refine leaves_cons (f:=47) (args:=#[.pointer (some ⟨bo,0,none⟩),.pointer (some ⟨be,0,none⟩),.pointer (some ⟨bl,0,none⟩)]) (by simp) (by simp[go_sem]) ?_;refine(ju bo be bl _ rfl _ _ _ _ _ _ hL3.self0).mono ?_;rintro e u' w'' ⟨rfl,rfl,hK⟩;have hL4:=hL3.tail0 hK;have hF4:=hL4.facts;simp only[bX,dP,zD]at hF4;simp[Leaves,settle,results,Tryz.results24,go_sem,hF4];exact⟨hL4.below0,by rw[HLX.out,HVV.out];rfl⟩
   |tok x r m=>
    unfold TPost at HW;by_cases hf:tvs.length<2000
    ·simp only[if_pos hf]at HW
     have hVV:=xR (out:=tvs.map (·.1)) hS (by simpa using hf);rw[HV.out]at hVV;have HVV:=yh hVV.symm;have HS1:=yh hsl1;have HS2:=yh hsl2;have HTL:=yh htl;clear hVV hsl1 hsl2 hS hd0 hc0 ht htl;go_wp2_with (first|((with_reducible refine af 5 ?_);refine zQ ?_;clear hF hL;intro ι F hne hG;(repeat go_big_quiet_step (fail));refine wpQuiet_nil ?_;clear hG;intro W hL hF)|(go_at_call 48;(with_reducible refine zM (fun W hL=>HW.out _ hL.selfbR) ?_);rintro W hL e W2 hb;obtain⟨rfl,at2,v2,LO2,pv,LP,ha2,hr2,hO2,hP,hb⟩:=hb;replace hL:=hL.joinbR hb;clear hb;have hr2:=yh hr2;simp only[kfb]at hL;have hF:=hL.fx))
     have hlen:r.length=src.size-at2:=by rw[<- hr2.out,List.length_drop,hsl]
     have h1:=HS1.out;have h2:=HS2.out;have h3:=HTL.out;have h4:=HLN.out;simp only[gY,Step.rest,List.length_cons]at h1 h2;go_roundg (src.size-at2)
     case measure=>have:=HK.out;omega
     case rel=>
      refine⟨at2,m,v2,LO2,tvs++[(x,pv)],yh rfl,ha2,yh (by omega),yh (by simp;omega),hO2,yh fun y hy=>?_,?_,yh (by rw[hr2.out,List.map_append];exact HVV.out)⟩
      ·rcases List.mem_append.1 hy with hy|hy
       ·exact(HPI.out y hy).kn hL fun z hz=>.inr (by
         simp only[List.map_cons,List.map_append,List.mem_cons,List.mem_append]at hz |-
         rcases hz with h|h|h
         ·exact .inl h
         ·exact .inr (.inl (.inl h))
         ·exact .inr (.inr h))
       ·obtain rfl:=List.mem_singleton.1 hy
        exact PIn.new hP hL
      ·have hL4:=(HL0.out.tail0 hL).perm (L':=LP++((b,.cells #[.string src,.int .i64 (at2),.int .i64 (m),v2] 111 (0,0))::(LO2++[(bo,.cells #[.slice none 0 0] 66 (0,0)),(be,.cells #[.int .i64 0] 26 (0,0)),(bl,.cells #[.int .i64 0] 3 (0,0))]))) (fun p=>by simp only[List.countP_cons,List.countP_append,List.countP_nil];omega)
       exact hL4.sub (List.sublist_append_right _ _)
    ·simp only[if_neg hf]at HW
     have hVV:=uX (out:=tvs.map (·.1)) hS (by simp;omega);rw[HV.out]at hVV;have HVV:=yh hVV;clear hVV hsl1 hsl2 hS hd0 hc0 ht htl;go_wp2_with (first|((with_reducible refine af 5 ?_);refine zQ ?_;clear hF hL;intro ι F hne hG;(repeat go_big_quiet_step (fail));refine wpQuiet_nil ?_;clear hG;intro W hL hF)|(go_at_call 48;(with_reducible refine zM (fun W hL=>HW.out _ hL.selfbR) ?_);rintro W hL e W2 hb;obtain⟨rfl,hb⟩:=hb;replace hL:=hL.joinbR hb;clear hb;simp only[kfb]at hL;have hF:=hL.fx))
     have hL3:Kn [] w _ [(bo,.cells #[.slice none 0 0] 66 (0,0)),(be,.cells #[.int .i64 0] 26 (0,0)),(bl,.cells #[.int .i64 0] 3 (0,0))]:=HL0.out.tail0 hL;refine leaves_cons (f:=47) (args:=#[.pointer (some ⟨bo,0,none⟩),.pointer (some ⟨be,0,none⟩),.pointer (some ⟨bl,0,none⟩)]) (by simp) (by simp[go_sem]) ?_;refine(ju bo be bl _ rfl _ _ _ _ _ _ hL3.self0).mono ?_;rintro e u' w'' ⟨rfl,rfl,hK⟩;have hL4:=hL3.tail0 hK;have hF4:=hL4.facts;simp only[bX,dP,zD]at hF4;simp[Leaves,settle,results,Tryz.results24,go_sem,hF4];exact⟨hL4.below0,by rw[HLX.out,HVV.out];rfl⟩
  ·have hae:¬(at_:Int)<src.size:=by omega
   have hde:src.data.toList.drop at_=[]:=List.drop_eq_nil_of_le (by omega);have hVV:V=.ok (tvs.map (·.1)++[ew ln]):=by rw[<- HV.out,hde,xS]
   have HVV:=yh hVV;have hTV:=HTV.out;clear hVV hde HV;rcases hO with⟨rfl,rfl,rfl⟩|⟨g,cap,cur,rfl,rfl,hr⟩
   ·clear hTV
    simp only[List.nil_append]at hL;have hF:=hL.fx;go_wp2_with (first|((with_reducible refine af 5 ?_);refine zQ ?_;clear hF hL;intro ι F hne hG;(repeat go_big_quiet_step (fail));refine wpQuiet_nil ?_;clear hG;intro W hL hF)|((with_reducible refine af 7 ?_);refine zX [0,1,2,3,4,5,6,7,8,9,10,11,12,13] [10,11,12,13] ?_ (sC (sD (sD (sD sR))));clear hF hL;intro ι F hne hC hG;(repeat(first|((first|refine cF hC ?_|refine cP ?_);intro K hK;go_big_quiet_op;go_big_quiet_on)|(refine cN ?_;intro W hL;(try simp only[kfb]at hL);have hF:=hL.fx;at_builtin;refine bJ rfl _ _ 66 rfl 76 i0 _ Tryz.underlying66 hi hz0 (by rw[hz1];rfl) (by rw[hz1];decide) hL rfl _ _ _ (tkc (ew ln,.slice none 0 0)) rfl (by rw[hz1];rfl) (fun j u hu=>by rw[Go.WideShapes.add_plain,Nat.zero_add,World.cell?,hL.has _ m0];simpa[tkc,bs,ew]using hu) (jI _ rfl) (by unfold maxLen;omega) (by rw[hz2];omega) (by omega) ?_;intro g2 cap2 cur2 W2 hL2 hg2 hr2;clear hL hF;have hL:=hL2;clear hL2;have hF:=hL.fx;go_wp2;refine zB2 ?_;clear hL hF hC hG;intro ι F hne hC hG)|(refine cN ?_;intro W hL;(try simp only[kfb]at hL);have hF:=hL.fx;go_wp2;refine ai ?_;(first|(refine bO _ (by rfl) ?_;clear hL hF hC hG;intro ι F hne hC hFF;have hG:=fun n=>(hFF n).fx;clear hFF)|(refine a_ _ (by repeat' (first|(with_reducible exact List.Sublist.refl _)|(with_reducible apply List.Sublist.cons_cons)|(with_reducible apply List.Sublist.cons))) ?_;clear hL hF)))));refine zN ?_;clear hC hG;intro W hL hF))
    rw[hz1]at hr2;refine leaves_cons (f:=47) (args:=#[.pointer (some ⟨bo,0,none⟩),.pointer (some ⟨be,0,none⟩),.pointer (some ⟨bl,0,none⟩)]) (by simp) (by simp[go_sem]) ?_;refine(kq bo be bl _).mono ?_;rintro e u' w'' ⟨rfl,rfl,rfl⟩;simp[Leaves,settle,results,Tryz.results24,go_sem,hF];refine⟨(HL0.out.tail0 hL).below0,?_⟩;rw[HLX.out,HVV.out];have hr3:RowB 6 cur2 cap2 ([(ew ln,Value.slice none 0 0)]).length (([(ew ln,Value.slice none 0 0)]).flatMap tkc):=by simpa using hr2
    have hrow:=kr (l:=[(ew ln,Value.slice none 0 0)]) ry (hL.has (g2,.cells cur2 76 (0,0)) (by simp)) hr3;refine⟨_,rfl,⟨_,_,_,rfl,by simpa using hr3.le⟩,qr (hL.has (g2,.cells cur2 76 (0,0)) (by simp)),[(ew ln,Value.slice none 0 0)],by simp,by simpa using hrow,?_⟩;intro x hx;obtain rfl:=List.mem_singleton.1 hx;exact⟨⟨none,0,rfl,fun j cs h=>by simp[ew]at h⟩,⟨_,_,_,rfl,Nat.le_refl _⟩,fun a n c e=>by cases e⟩
   ·simp only[List.nil_append,List.cons_append]at hL
    have hF:=hL.fx;go_wp2_with (first|((with_reducible refine af 5 ?_);refine zQ ?_;clear hF hL;intro ι F hne hG;(repeat go_big_quiet_step (fail));refine wpQuiet_nil ?_;clear hG;intro W hL hF)|((with_reducible refine af 7 ?_);refine zX [0,1,2,3,4,5,6,7,8,9,10,11,12,13] [10,11,12,13] ?_ (sC (sD (sD (sD (sD sR)))));clear hF hL;intro ι F hne hC hG;(repeat(first|((first|refine cF hC ?_|refine cP ?_);intro K hK;go_big_quiet_op;go_big_quiet_on)|(refine cN ?_;intro W hL;(try simp only[kfb]at hL);have hF:=hL.fx;at_builtin;refine bg rfl _ _ 66 rfl 76 i0 _ Tryz.underlying66 hi hz0 (by rw[hz1];rfl) (by rw[hz1];decide) hL 2 _ _ _ _ _ rfl (by rw[hz1];exact hr) rfl _ _ _ (tkc (ew ln,.slice none 0 0)) rfl (by rw[hz1];rfl) (fun j u hu=>by rw[Go.WideShapes.add_plain,Nat.zero_add,World.cell?,hL.has _ m0];simpa[tkc,bs,ew]using hu) (jI _ rfl) (by unfold maxLen;omega) (by rw[hz2];omega) (by omega) ?_;intro g2 cap2 cur2 W2 hL2 hr2;clear hL hF;have hL:=hL2;clear hL2;simp only[List.eraseIdx_cons_zero,List.eraseIdx_cons_succ]at hL;have hF:=hL.fx;go_wp2;refine zB2 ?_;clear hL hF hC hG;intro ι F hne hC hG)|(refine cN ?_;intro W hL;(try simp only[kfb]at hL);have hF:=hL.fx;go_wp2;refine ai ?_;(first|(refine bO _ (by rfl) ?_;clear hL hF hC hG;intro ι F hne hC hFF;have hG:=fun n=>(hFF n).fx;clear hFF)|(refine a_ _ (by repeat' (first|(with_reducible exact List.Sublist.refl _)|(with_reducible apply List.Sublist.cons_cons)|(with_reducible apply List.Sublist.cons))) ?_;clear hL hF)))));refine zN ?_;clear hC hG;intro W hL hF))
    rw[hz1]at hr2;refine leaves_cons (f:=47) (args:=#[.pointer (some ⟨bo,0,none⟩),.pointer (some ⟨be,0,none⟩),.pointer (some ⟨bl,0,none⟩)]) (by simp) (by simp[go_sem]) ?_;refine(kq bo be bl _).mono ?_;rintro e u' w'' ⟨rfl,rfl,rfl⟩;simp[Leaves,settle,results,Tryz.results24,go_sem,hF];refine⟨(HL0.out.tail0 hL).below0,?_⟩;rw[HLX.out,HVV.out];have hr3:RowB 6 cur2 cap2 (tvs++[(ew ln,Value.slice none 0 0)]).length ((tvs++[(ew ln,Value.slice none 0 0)]).flatMap tkc):=by simpa using hr2
    have hrow:=kr (l:=tvs++[(ew ln,Value.slice none 0 0)]) ry (hL.has (g2,.cells cur2 76 (0,0)) (by simp)) hr3;refine⟨_,rfl,⟨_,_,_,rfl,by simpa using hr3.le⟩,qr (hL.has (g2,.cells cur2 76 (0,0)) (by simp)),tvs++[(ew ln,Value.slice none 0 0)],by simp,by simpa using hrow,?_⟩;intro x hx;rcases List.mem_append.1 hx with hx|hx
    ·exact⟨((HPI.out x hx).kn hL (Y':=[]) (by simp)).row,((HPI.out x hx).kn hL (Y':=[]) (by simp)).capok,((HPI.out x hx).kn hL (Y':=[]) (by simp)).tyv⟩
    ·obtain rfl:=List.mem_singleton.1 hx;exact⟨⟨none,0,rfl,fun j cs h=>by simp[ew]at h⟩,⟨_,_,_,rfl,Nat.le_refl _⟩,fun a n c e=>by cases e⟩
def RowY(k:Nat)(Y:List Nat)(w:World)(v:Value)(xs:List (List Value)):Prop:=
 ∃ao cap,v=.slice ao xs.length cap/\xs.length<=cap/\∀(j:Nat) cs,xs[j]? =some cs->∃g o,ao=some ⟨g,o,none⟩/\g∉Y/\g<w.heap.size/\∀(c:Nat) x,cs[c]? =some x->w.cell? ⟨g,o+j*k+c,none⟩=some x
theorem RowY.nil{k:Nat}{Y:List Nat}{w:World}:RowY k Y w (.slice none 0 0) []:=⟨none,0,rfl,Nat.le_refl _,fun j cs h=>by simp at h⟩
theorem RowY.kn{k:Nat}{Y Y':List Nat}{w w':World}{L:List (Nat×Obj)}{v:Value}{xs:List (List Value)}(h:RowY k Y w v xs)(kn:Kn Y w w' L)(hy:∀y∈Y',y∈Y\/w.heap.size<=y):RowY k Y' w' v xs:=by
 obtain⟨ao,cap,h1,h2,h3⟩:=h
 refine⟨ao,cap,h1,h2,fun j cs hj=>?_⟩
 obtain⟨g,o,h4,h5,h6,h7⟩:=h3 j cs hj
 refine⟨g,o,h4,fun hm=>?_,Nat.lt_of_lt_of_le h6 kn.size,fun c x hx=>(dt (kn.block g h6 h5)).trans (h7 c x hx)⟩
 grind
theorem RowY.sub{k:Nat}{Y Y':List Nat}{w:World}{v:Value}{xs:List (List Value)}(h:RowY k Y w v xs)(hy:∀y∈Y',y∈Y\/w.heap.size<=y):RowY k Y' w v xs:=h.kn (Kn.refl Y w) hy
def PRow(Y:List Nat)(w:World)(v:Value)(ps:List Prt):Prop:=RowY 3 Y w v (ps.map ptc)
def asc(x:(ab×List Prt)×Value):List Value:=[bs x.1.1,x.2]
def rsc(x:(Int×Nat×List Prt)×Value):List Value:=[.int .i64 x.1.1,.int .i64 x.1.2.1,x.2]
def BK(v:Value):Prop:=∃ao n cap,v=.slice ao n cap/\n<=cap
inductive NodeIs (Y:List Nat) (w:World):Nd->List Value->Prop
 |mk (kind:Nat) (name:ab) (neg:Bool) (al:List ((ab×List Prt)×Value)) (ws:List (List Prt×Value)) (rs:List ((Int×Nat×List Prt)×Value)) (ks:List (Nd×List Value)) (va vw vr vk:Value)
  (h1:RowY 2 Y w va (al.map asc)) (h2:∀x∈al,PRow Y w x.2 x.1.2) (h3:RowY 1 Y w vw (ws.map fun x=>[x.2])) (h4:∀x∈ws,PRow Y w x.2 x.1)
  (h5:RowY 3 Y w vr (rs.map rsc)) (h6:∀x∈rs,PRow Y w x.2 x.1.2.2) (h7:RowY 7 Y w vk (ks.map (·.2))) (h8:∀x∈ks,NodeIs Y w x.1 x.2):
  NodeIs Y w (.mk kind name neg (al.map (·.1)) (ws.map (·.1)) (rs.map (·.1)) (ks.map (·.1))) [.int .i64 kind,bs name,.bool neg,va,vw,vr,vk]
theorem NodeIs.kn{Y Y':List Nat}{w w':World}{L:List (Nat×Obj)}{n:Nd}{cs:List Value}(h:NodeIs Y w n cs)(k:Kn Y w w' L)(hy:∀y∈Y',y∈Y\/w.heap.size<=y):NodeIs Y' w' n cs:=by
 induction h with
 |mk kind name neg al ws rs ks va vw vr vk h1 h2 h3 h4 h5 h6 h7 h8 ih=>
  exact .mk kind name neg al ws rs ks va vw vr vk (h1.kn k hy) (fun x hx=>(h2 x hx).kn k hy) (h3.kn k hy) (fun x hx=>(h4 x hx).kn k hy) (h5.kn k hy) (fun x hx=>(h6 x hx).kn k hy) (h7.kn k hy) ih
def xV(W0:World)(g:Nat):Prop:=∀c t f,W0.heap[g]? =some (.cells c t f)->t=118
def TyN(W0:World)(v:Value):Prop:=∀a n c,v=.slice (some a) n c->xV W0 a.block
structure PEnv (W0:World) (g o cap:Nat) (tvs:List (Tok×Value)):Prop where
 cells:∀(i:Nat) x,tvs[i]? =some x->∀(c:Nat) u,(tkc x)[c]? =some u->W0.cell? ⟨g,o+i*6+c,none⟩=some u
 parts:∀x∈tvs,RowK 3 W0 x.2 (x.1.parts.map ptc)/\BK x.2
 tyn:∀x∈tvs,TyN W0 x.2
 len:tvs.length<=cap
 pos:0<tvs.length
 max:tvs.length<=100000
 word:∀x∈tvs,x.1.text.length<=100000/\x.1.plain.length<=100000/\x.1.parts.length<=100000/\∀p∈x.1.parts,p.t.length<=100000
 last:∀(i:Nat) x,tvs[i]? =some x->(x.1.kind=4↔i+1=tvs.length)
 fin:∀x,tvs[tvs.length-1]? =some x->x.1.text=[]/\x.1.plain=[]
 mx:∃m:Int,W0.cell? ⟨1,0,none⟩=some (.int .i64 m)
 clo:∃cg co cc,W0.cell? ⟨0,0,none⟩=some (.slice (some ⟨cg,co,none⟩) 10 cc)/\10<=cc/\∀(j:Nat) s,closers[j]? =some s->W0.cell? ⟨cg,co+j,none⟩=some (bs s)
def TT(tvs:List (Tok×Value)):List Tok:=tvs.dropLast.map fun x=>{x.1 with line:=0}
theorem eX(tvs:List (Tok×Value)):(TT tvs).length=tvs.length-1:=by grind[TT]
def AtV(g o cap:Nat)(tvs:List (Tok×Value))(i:Nat)(v:Value):Prop:=i<tvs.length/\v=.slice (some ⟨g,o+i*6,none⟩) (tvs.length-i) (cap-i)
def fp(tvs:List (Tok×Value))(m:Nat):Nat:=(tvs[tvs.length-1-m]?.map fun x=>x.1.line).getD 0
def ku(er:Nat):Int:=if er=2 then 6 else 27
def mD(b d:Nat)(g o cap:Nat)(tvs:List (Tok×Value))(w:World){α:Type}(V:α->Value->World->Prop)(p:PR α)(e:Ending)(w':World):Prop:=match p with
 |.ok a r=>∃v j vj,e=.returned v/\V a v w'/\Hid (AtV g o cap tvs j vj/\r=(TT tvs).drop j)/\Kn [b] w w' [(b,.cells #[vj,.int .i64 (d:Int)] 73 (0,0))]
 |.bad er m=>∃vj dj,e=.panicked [{v:=.iface 70 (.agg #[.int .i64 (ku er),.int .i64 (fp tvs m)]),recovered:=false}]/\Kn [b] w w' [(b,.cells #[vj,.int .i64 dj] 73 (0,0))]
section
variable {W0:World} {g o cap:Nat} {tvs:List (Tok×Value)} (E:PEnv W0 g o cap tvs)
theorem bI(E:PEnv W0 g o cap tvs){i:Nat}{x:Tok×Value}(hx:tvs[i]? =some x):((TT tvs).drop i=[]/\x.1.kind=4/\x.1.text=[]/\x.1.plain=[])\/((TT tvs).drop i={x.1 with line:=0}::(TT tvs).drop (i+1)/\x.1.kind≠4/\i+1<tvs.length):=by
 have hi:=(List.getElem?_eq_some_iff.1 hx).1
 by_cases h:i+1=tvs.length
 ·left
  have h2:=E.fin x (by grind);exact⟨List.drop_eq_nil_of_le (by rw[eX];omega),(E.last i x hx).2 h,h2.1,h2.2⟩
 ·right
  refine⟨?_,fun e=>h ((E.last i x hx).1 e),by omega⟩;have h3:(TT tvs)[i]? =some {x.1 with line:=0}:=by
   grind[TT]
  obtain⟨h4,h5⟩:=List.getElem?_eq_some_iff.1 h3;rw[List.drop_eq_getElem_cons h4,h5]
theorem rz(E:PEnv W0 g o cap tvs){i:Nat}{x:Tok×Value}(hx:tvs[i]? =some x)(s:ab):aS s ((TT tvs).drop i)=(((x.1.kind:Int)==1)&&(x.1.text==s)):=by
 rcases bI E hx with⟨h1,h2,h3,h4⟩|⟨h1,h2,h3⟩
 ·rw[h1,h2];rfl
 ·rw[h1]
  show(x.1.kind==1&&_)=_
  grind
theorem BL(E:PEnv W0 g o cap tvs){i:Nat}{x:Tok×Value}(hx:tvs[i]? =some x)(l:List ab):bS l ((TT tvs).drop i)=(((x.1.kind:Int)==0)&&((x.1.plain != [])&&l.contains x.1.plain)):=by
 rcases bI E hx with⟨h1,h2,h3,h4⟩|⟨h1,h2,h3⟩
 ·rw[h1,h2];rfl
 ·rw[h1]
  show(x.1.kind==0&&_)=_
  grind
theorem mE(E:PEnv W0 g o cap tvs){i:Nat}{x:Tok×Value}(hx:tvs[i]? =some x)(k:Nat)(hk:k≠4):isK k ((TT tvs).drop i)=((x.1.kind:Int)==(k:Int)):=by
 rcases bI E hx with⟨h1,h2,h3,h4⟩|⟨h1,h2,h3⟩
 ·rw[h1,h2]
  exact(beq_false_of_ne (by omega)).symm
 ·rw[h1]
  show(x.1.kind==k)=_
  grind
theorem mF{i:Nat}{x:Tok×Value}(hx:tvs[i]? =some x)(m:Nat)(hm:m=((TT tvs).drop i).length):fp tvs m=x.1.line:=by
 grind[eX,fp]
end
theorem BM(s:ByteArray)(b g q n cap:Nat)(v2:Value)(w:World)(hb:w.heap[b]? =some (.cells #[.slice (some ⟨g,q,none⟩) (n) (cap),v2] 73 (0,0)))(hn:1<=n)(kd fd ln:Int)(tx pl:ByteArray)(pa:Option Addr)(pn pc:Nat)(h0:w.cell? ⟨g,q,none⟩=some (.int .i64 kd))(h1:w.cell? ⟨g,q+1,none⟩=some (.string tx))(h2:w.cell? ⟨g,q+2,none⟩=some (.string pl))(h3:w.cell? ⟨g,q+3,none⟩=some (.slice pa pn pc))(h4:w.cell? ⟨g,q+4,none⟩=some (.int .i64 fd))(h5:w.cell? ⟨g,q+5,none⟩=some (.int .i64 ln))(hgb:g≠b):
  Calls Tryz.prog 52 #[.pointer (some ⟨b,0,none⟩),.string s] w fun e w'=>e=.returned (.bool ((kd==1)&&(tx.toList==s.toList)))/\Below w.heap.size w w':=by
 have HB:=yh hb
 have hL:Kn [b] w w [(b,.cells #[.slice (some ⟨g,q,none⟩) (n) (cap),v2] 73 (0,0))]:=Kn.one hb
 have hg:=aI h0
 clear hb
 have hF:=hL.fx
 obtain⟨k1,hk1⟩:∃k:Bool,(kd==1)=k:=⟨_,rfl⟩
 obtain⟨k2,hk2⟩:∃k:Bool,(tx.toList==s.toList)=k:=⟨_,rfl⟩
 rw[hk1,hk2]
 obtain⟨f0,f1,f2,f3,f4,f5⟩:=tkF kd fd ln tx pl pa pn pc
 cases k1<;>cases k2<;>(
  go_enter Tryz.func52,Tryz.ntmps52;go_wp2_with (first|(with_reducible refine zS ?_;intro W hL hF)|(go_at_call 27;refine zC (fun W hL=>gL b g q n cap v2 _ hL.h0 (by omega) kd fd ln tx pl pa pn pc (dS hL h0 hgb) (dS hL h1 hgb) (dS hL h2 hgb) (dS hL h3 hgb) (dS hL h4 hgb) (dS hL h5 hgb) hgb) ?_;intro W hL hF))
  refine zF ?_;intro W hL hF;refine bodyPost_ret (by simp[results,Tryz.results52,go_sem, *];try rfl) rfl ?_;exact⟨rfl,ef (hL.sub (by repeat' ((exact List.Sublist.refl _)))) HB.out⟩)
theorem qt(zb zo m zc:Nat)(zs:List ByteArray)(hm:Hid (m=zs.length))(hm2:m<=100)(b g q n cap:Nat)(v2:Value)(w:World)(hb:w.heap[b]? =some (.cells #[.slice (some ⟨g,q,none⟩) (n) (cap),v2] 73 (0,0)))(hn:1<=n)(kd fd ln:Int)(tx pl:ByteArray)(pa:Option Addr)(pn pc:Nat)(h0:w.cell? ⟨g,q,none⟩=some (.int .i64 kd))(h1:w.cell? ⟨g,q+1,none⟩=some (.string tx))(h2:w.cell? ⟨g,q+2,none⟩=some (.string pl))(h3:w.cell? ⟨g,q+3,none⟩=some (.slice pa pn pc))(h4:w.cell? ⟨g,q+4,none⟩=some (.int .i64 fd))(h5:w.cell? ⟨g,q+5,none⟩=some (.int .i64 ln))(hgb:g≠b)(hz:∀j,j<zs.length->w.cell? ⟨zb,zo+j,none⟩=some (.string (zs.getD j ByteArray.empty)))(hzb:zb≠b):
    Calls Tryz.prog 86 #[.pointer (some ⟨b,0,none⟩),.slice (some ⟨zb,zo,none⟩) m zc] w fun e w'=>e=.returned (.bool ((kd==0)&&((pl.toList != [])&&Lib.containsS zs pl)))/\Below w.heap.size w w':=by
  have HB:=yh hb;have hL:Kn [b] w w [(b,.cells #[.slice (some ⟨g,q,none⟩) (n) (cap),v2] 73 (0,0))]:=Kn.one hb;have hg:=aI h0;clear hb;have hF:=hL.fx;obtain⟨k1,hk1⟩:∃k:Bool,(kd==0)=k:=⟨_,rfl⟩;obtain⟨k2,hk2⟩:∃k:Bool,(pl.toList==[])=k:=⟨_,rfl⟩;obtain⟨k3,hk3⟩:∃k:Bool,Lib.containsS zs pl=k:=⟨_,rfl⟩;rw[hk1,show(pl.toList != [])= !k2 by rw[<- hk2];rfl,hk3];have HC:=yh (fun W (hL:Kn [b] w W [(b,.cells #[.slice (some ⟨g,q,none⟩) (n) (cap),v2] 73 (0,0))])=>(Tryz.slices_Contains_string zb zo m zc zs pl W (by have:=hm.out;omega) (by omega) (fun j hj=>dS hL (hz j hj) hzb)).mono (R':=fun e w'=>e=.returned (.bool k3)/\w'=W) fun e w' h=>⟨by rw[h.1,List.take_of_length_le (by have:=hm.out;omega),hk3],h.2⟩);clear hz hk3;have f0:=BC kd fd ln tx pl pa pn pc;have f1:=BD kd fd ln tx pl pa pn pc;have f2:=BE kd fd ln tx pl pa pn pc;have f3:=sW kd fd ln tx pl pa pn pc;have f4:=BF kd fd ln tx pl pa pn pc;have f5:=Aq kd fd ln tx pl pa pn pc
  cases k1<;>cases k2<;>(
    go_enter Tryz.func86,Tryz.ntmps86;go_wp2_with (first|((with_reducible refine nD ?_);clear hL;intro W hL;have hF:=hL.facts)|(go_at_call 27;refine aj ?_;clear hF hL;intro W hL;have hF:=hL.fx;(with_reducible refine(gL b g q n cap v2 _ (by(exact hL.has _ List.mem_cons_self)) (by omega) kd fd ln tx pl pa pn pc (dS hL h0 hgb) (dS hL h1 hgb) (dS hL h2 hgb) (dS hL h3 hgb) (dS hL h4 hgb) (dS hL h5 hgb) hgb).mono ?_);rintro e W ⟨rfl,hb⟩;replace hL:=hL.below hb;clear hb hF;have hF:=hL.fx)|(go_at_call 104;refine aj ?_;clear hF hL;intro W hL;have hF:=hL.fx;(with_reducible refine(HC.out _ hL).mono ?_);rintro e w' ⟨rfl,rfl⟩))
    refine fa ?_;clear hF hL;intro W hL;have hF:=hL.fx;refine bodyPost_ret (by simp[results,Tryz.results86,go_sem, *];try rfl) rfl ?_;exact⟨rfl,ef (hL.sub (by repeat' ((exact List.Sublist.refl _)))) HB.out⟩)
theorem gn{W0:World}{g o cap:Nat}{tvs:List (Tok×Value)}(E:PEnv W0 g o cap tvs){w:World}(hB:Below W0.heap.size W0 w){i:Nat}{x:Tok×Value}(hx:tvs[i]? =some x)(pa:Option Addr)(pn pc:Nat)(hx2:x.2=.slice pa pn pc):w.cell? ⟨g,o+i*6,none⟩=some (.int .i64 (x.1.kind:Int))/\w.cell? ⟨g,o+i*6+1,none⟩=some (.string ⟨x.1.text.toArray⟩)/\w.cell? ⟨g,o+i*6+2,none⟩=some (.string ⟨x.1.plain.toArray⟩)/\w.cell? ⟨g,o+i*6+3,none⟩=some (.slice pa pn pc)/\w.cell? ⟨g,o+i*6+4,none⟩=some (.int .i64 x.1.fd)/\w.cell? ⟨g,o+i*6+5,none⟩=some (.int .i64 (x.1.line:Int)):=by
 have h:=fun c u hu=>bN (E.cells i x hx c u hu) hB
 refine⟨h 0 _ rfl,h 1 _ rfl,h 2 _ rfl,?_,h 4 _ rfl,h 5 _ rfl⟩
 rw[<- hx2];exact h 3 _ rfl
theorem aL{W0:World}{g o cap:Nat}{tvs:List (Tok×Value)}(E:PEnv W0 g o cap tvs)(b i:Nat)(v:Value)(d:Int)(w:World)(hB:Below W0.heap.size W0 w)(hbb:W0.heap.size<=b)(hv:Hid (AtV g o cap tvs i v))(hb:w.heap[b]? =some (.cells #[v,.int .i64 d] 73 (0,0))){x:Tok×Value}(hx:tvs[i]? =some x)(pa:Option Addr)(pn pc:Nat)(hx2:x.2=.slice pa pn pc):Calls Tryz.prog 27 #[.pointer (some ⟨b,0,none⟩)] w fun e w'=>e=.returned (.agg #[.int .i64 (x.1.kind:Int),.string ⟨x.1.text.toArray⟩,.string ⟨x.1.plain.toArray⟩,.slice pa pn pc,.int .i64 x.1.fd,.int .i64 (x.1.line:Int)])/\Below w.heap.size w w':=by
 obtain⟨hi,rfl⟩:=hv.out
 have hlen:=E.len
 have hc:=gn E hB hx pa pn pc hx2
 have hgb:g≠b:=by have:=aI (gn E (Below.refl _ W0) hx pa pn pc hx2).1;omega
 exact gL b g (o+i*6) (tvs.length-i) (cap-i) (.int .i64 d) w hb (by omega) x.1.kind x.1.fd x.1.line ⟨x.1.text.toArray⟩ ⟨x.1.plain.toArray⟩ pa pn pc hc.1 hc.2.1 hc.2.2.1 hc.2.2.2.1 hc.2.2.2.2.1 hc.2.2.2.2.2 hgb
theorem eE{W0:World}{g o cap:Nat}{tvs:List (Tok×Value)}(E:PEnv W0 g o cap tvs)(b i:Nat)(v:Value)(d:Int)(w:World)(hB:Below W0.heap.size W0 w)(hbb:W0.heap.size<=b)(hv:Hid (AtV g o cap tvs i v))(hb:w.heap[b]? =some (.cells #[v,.int .i64 d] 73 (0,0))){x:Tok×Value}(hx:tvs[i]? =some x)(pa:Option Addr)(pn pc:Nat)(hx2:x.2=.slice pa pn pc)(h4:x.1.kind≠4):Calls Tryz.prog 53 #[.pointer (some ⟨b,0,none⟩)] w fun e w'=>e=.returned (.agg #[.int .i64 (x.1.kind:Int),.string ⟨x.1.text.toArray⟩,.string ⟨x.1.plain.toArray⟩,.slice pa pn pc,.int .i64 x.1.fd,.int .i64 (x.1.line:Int)])/\∃vj,Hid (AtV g o cap tvs (i+1) vj)/\Kn [b] w w' [(b,.cells #[vj,.int .i64 d] 73 (0,0))]:=by
 obtain⟨hi,rfl⟩:=hv.out
 have hlen:=E.len
 have hc:=gn E hB hx pa pn pc hx2
 have hgb:g≠b:=by have:=aI (gn E (Below.refl _ W0) hx pa pn pc hx2).1;omega
 have h5:i+1<tvs.length:=by rcases bI E hx with h|h;exact absurd h.2.1 h4;omega
 refine(xL b g (o+i*6) (tvs.length-i) (cap-i) (.int .i64 d) w hb (by omega) x.1.kind x.1.fd x.1.line ⟨x.1.text.toArray⟩ ⟨x.1.plain.toArray⟩ pa pn pc hc.1 hc.2.1 hc.2.2.1 hc.2.2.2.1 hc.2.2.2.2.1 hc.2.2.2.2.2 hgb (by omega)).mono fun e w' h=>⟨h.1,_,yh ⟨h5,?_⟩,h.2⟩
 grind
theorem Az{W0:World}{g o cap:Nat}{tvs:List (Tok×Value)}(E:PEnv W0 g o cap tvs)(b i:Nat)(v:Value)(d:Int)(w:World)(hB:Below W0.heap.size W0 w)(hbb:W0.heap.size<=b)(hv:Hid (AtV g o cap tvs i v))(hb:w.heap[b]? =some (.cells #[v,.int .i64 d] 73 (0,0))){x:Tok×Value}(hx:tvs[i]? =some x)(pa:Option Addr)(pn pc:Nat)(hx2:x.2=.slice pa pn pc)(er:Nat)(k:Int)(dd:Nat)(her:Hid (ku er=(k:Int)))(m:Nat)(hm:Hid (m=((TT tvs).drop i).length)):Calls Tryz.prog 28 #[.pointer (some ⟨b,0,none⟩),.int .i64 k] w fun e w'=>mD b dd g o cap tvs w (α:=Unit) (fun _ _ _=>False) (.bad er m) e w':=by
 obtain⟨hi,rfl⟩:=hv.out
 have hlen:=E.len
 have hc:=gn E hB hx pa pn pc hx2
 have hgb:g≠b:=by have:=aI (gn E (Below.refl _ W0) hx pa pn pc hx2).1;omega
 refine(rq k b g (o+i*6) (tvs.length-i) (cap-i) (.int .i64 d) w hb (by omega) x.1.kind x.1.fd x.1.line ⟨x.1.text.toArray⟩ ⟨x.1.plain.toArray⟩ pa pn pc hc.1 hc.2.1 hc.2.2.1 hc.2.2.2.1 hc.2.2.2.2.1 hc.2.2.2.2.2 hgb).mono fun e w' h=>?_
 obtain⟨h1,h2⟩:=h
 exact⟨_,d,by rw[h1,her.out,mF hx m hm.out],(Kn.one hb).below h2⟩
theorem Ci{W0:World}{g o cap:Nat}{tvs:List (Tok×Value)}(E:PEnv W0 g o cap tvs)(b i:Nat)(v:Value)(d:Int)(w:World)(hB:Below W0.heap.size W0 w)(hbb:W0.heap.size<=b)(hv:Hid (AtV g o cap tvs i v))(hb:w.heap[b]? =some (.cells #[v,.int .i64 d] 73 (0,0))){x:Tok×Value}(hx:tvs[i]? =some x)(pa:Option Addr)(pn pc:Nat)(hx2:x.2=.slice pa pn pc)(s:ByteArray):Calls Tryz.prog 52 #[.pointer (some ⟨b,0,none⟩),.string s] w fun e w'=>e=.returned (.bool (aS s.data.toList ((TT tvs).drop i)))/\Below w.heap.size w w':=by
 obtain⟨hi,rfl⟩:=hv.out
 have hlen:=E.len
 have hc:=gn E hB hx pa pn pc hx2
 have hgb:g≠b:=by have:=aI (gn E (Below.refl _ W0) hx pa pn pc hx2).1;omega
 rw[rz E hx,show(x.1.text==s.data.toList)=((⟨x.1.text.toArray⟩:ByteArray).toList==s.toList) by rw[Lib.toList_data,Lib.toList_data]]
 exact BM s b g (o+i*6) (tvs.length-i) (cap-i) (.int .i64 d) w hb (by omega) x.1.kind x.1.fd x.1.line ⟨x.1.text.toArray⟩ ⟨x.1.plain.toArray⟩ pa pn pc hc.1 hc.2.1 hc.2.2.1 hc.2.2.2.1 hc.2.2.2.2.1 hc.2.2.2.2.2 hgb
theorem BN{W0:World}{g o cap:Nat}{tvs:List (Tok×Value)}(E:PEnv W0 g o cap tvs)(b i:Nat)(v:Value)(d:Int)(w:World)(hB:Below W0.heap.size W0 w)(hbb:W0.heap.size<=b)(hv:Hid (AtV g o cap tvs i v))(hb:w.heap[b]? =some (.cells #[v,.int .i64 d] 73 (0,0))){x:Tok×Value}(hx:tvs[i]? =some x)(pa:Option Addr)(pn pc:Nat)(hx2:x.2=.slice pa pn pc)(zb zo m zc:Nat)(zs:List ByteArray)(ks:List ab)(hks:Hid (ks=zs.map fun z=>z.data.toList))(hm:Hid (m=zs.length))(hm2:m<=100)(hz:∀j,j<zs.length->w.cell? ⟨zb,zo+j,none⟩=some (.string (zs.getD j ByteArray.empty)))(hzb:zb≠b):Calls Tryz.prog 86 #[.pointer (some ⟨b,0,none⟩),.slice (some ⟨zb,zo,none⟩) m zc] w fun e w'=>e=.returned (.bool (bS ks ((TT tvs).drop i)))/\Below w.heap.size w w':=by
 obtain⟨hi,rfl⟩:=hv.out
 have hlen:=E.len
 have hc:=gn E hB hx pa pn pc hx2
 have hgb:g≠b:=by have:=aI (gn E (Below.refl _ W0) hx pa pn pc hx2).1;omega
 rw[BL E hx,show(x.1.plain != [])=((⟨x.1.plain.toArray⟩:ByteArray).toList != []) by simp_all,show ks.contains x.1.plain=Lib.containsS zs ⟨x.1.plain.toArray⟩ by
  rw[hks.out,Bool.eq_iff_iff,Lib.containsS_iff,List.contains_iff_mem,List.mem_map];exact⟨fun⟨z,hz,e⟩=>by rw[<- e];exact hz,fun h=>⟨_,h,by simp⟩⟩]
 exact qt zb zo m zc zs hm hm2 b g (o+i*6) (tvs.length-i) (cap-i) (.int .i64 d) w hb (by omega) x.1.kind x.1.fd x.1.line ⟨x.1.text.toArray⟩ ⟨x.1.plain.toArray⟩ pa pn pc hc.1 hc.2.1 hc.2.2.1 hc.2.2.2.1 hc.2.2.2.2.1 hc.2.2.2.2.2 hgb hz hzb
theorem PEnv.tok{W0:World}{g o cap:Nat}{tvs:List (Tok×Value)}(E:PEnv W0 g o cap tvs){i:Nat}{v:Value}(hv:AtV g o cap tvs i v):∃x pa pn pc,tvs[i]? =some x/\x.2=.slice pa pn pc:=by
 obtain⟨x,hx⟩:∃x,tvs[i]? =some x:=⟨_,List.getElem?_eq_getElem hv.1⟩
 obtain⟨pa,pn,pc,h,_⟩:=(E.parts x (List.mem_of_getElem? hx)).2
 grind
theorem ag{W0 w W:World}{X:List Nat}{L:List (Nat×Obj)}(hB:Below W0.heap.size W0 w)(hL:Kn X w W L)(hX:∀x∈X,W0.heap.size<=x):Below W0.heap.size W0 W:=
 ⟨hL.os.trans hB.os,hL.tape.trans hB.tape,hL.output.trans hB.output,Nat.le_trans hB.size hL.size,fun k hk=>(hL.block k (Nat.lt_of_lt_of_le hk hB.size) (fun hm=>by grind)).trans (hB.block k hk)⟩
theorem ea{W0:World}{g o cap:Nat}{tvs:List (Tok×Value)}(E:PEnv W0 g o cap tvs)(b i:Nat)(v:Value)(d:Int)(w:World)(hB:Below W0.heap.size W0 w)(hbb:W0.heap.size<=b)(hv:Hid (AtV g o cap tvs i v))(hb:w.heap[b]? =some (.cells #[v,.int .i64 d] 73 (0,0)))(hne:(TT tvs).drop i≠[]):Calls Tryz.prog 53 #[.pointer (some ⟨b,0,none⟩)] w fun e w'=>∃x pa pn pc vj,e=.returned (.agg #[.int .i64 (x.1.kind:Int),.string ⟨x.1.text.toArray⟩,.string ⟨x.1.plain.toArray⟩,.slice pa pn pc,.int .i64 x.1.fd,.int .i64 (x.1.line:Int)])/\Hid (tvs[i]? =some x/\x.2=.slice pa pn pc)/\Hid (AtV g o cap tvs (i+1) vj)/\Kn [b] w w' [(b,.cells #[vj,.int .i64 d] 73 (0,0))]:=by
 obtain⟨x,pa,pn,pc,hx,hx2⟩:=E.tok hv.out
 have h4:x.1.kind≠4:=by grind[bI]
 exact(eE E b i v d w hB hbb hv hb hx pa pn pc hx2 h4).mono fun e w' h=>by
  obtain⟨h1,vj,h2,h3⟩:=h;exact⟨x,pa,pn,pc,vj,h1,yh ⟨hx,hx2⟩,h2,h3⟩
theorem fW{W0:World}{g o cap:Nat}{tvs:List (Tok×Value)}(E:PEnv W0 g o cap tvs)(b i:Nat)(v:Value)(d:Int)(w:World)(hB:Below W0.heap.size W0 w)(hbb:W0.heap.size<=b)(hv:Hid (AtV g o cap tvs i v))(hb:w.heap[b]? =some (.cells #[v,.int .i64 d] 73 (0,0)))(k:Int)(dd:Nat)(er:Nat)(her:Hid (ku er=(k:Int)))(m:Nat)(hm:Hid (m=((TT tvs).drop i).length)):Calls Tryz.prog 28 #[.pointer (some ⟨b,0,none⟩),.int .i64 k] w fun e w'=>mD b dd g o cap tvs w (α:=Unit) (fun _ _ _=>False) (.bad er m) e w':=by
 obtain⟨x,pa,pn,pc,hx,hx2⟩:=E.tok hv.out
 grind[Az]
theorem eC{W0:World}{g o cap:Nat}{tvs:List (Tok×Value)}(E:PEnv W0 g o cap tvs)(b i:Nat)(v:Value)(d:Int)(w:World)(hB:Below W0.heap.size W0 w)(hbb:W0.heap.size<=b)(hv:Hid (AtV g o cap tvs i v))(hb:w.heap[b]? =some (.cells #[v,.int .i64 d] 73 (0,0)))(s:ByteArray)(r:Bool)(hr:Hid (aS s.data.toList ((TT tvs).drop i)=r)):Calls Tryz.prog 52 #[.pointer (some ⟨b,0,none⟩),.string s] w fun e w'=>e=.returned (.bool r)/\Below w.heap.size w w':=by
 obtain⟨x,pa,pn,pc,hx,hx2⟩:=E.tok hv.out
 rw[<- hr.out]
 grind[Ci]
theorem cK{W0:World}{g o cap:Nat}{tvs:List (Tok×Value)}(E:PEnv W0 g o cap tvs)(b i:Nat)(v:Value)(d:Int)(w:World)(hB:Below W0.heap.size W0 w)(hbb:W0.heap.size<=b)(hv:Hid (AtV g o cap tvs i v))(hb:w.heap[b]? =some (.cells #[v,.int .i64 d] 73 (0,0)))(zb zo m zc:Nat)(zs:List ByteArray)(r:Bool)(hr:Hid (bS (zs.map fun z=>z.data.toList) ((TT tvs).drop i)=r))(hm:Hid (m=zs.length))(hm2:m<=100)(hz:∀j,j<zs.length->w.cell? ⟨zb,zo+j,none⟩=some (.string (zs.getD j ByteArray.empty)))(hzb:zb≠b):
  Calls Tryz.prog 86 #[.pointer (some ⟨b,0,none⟩),.slice (some ⟨zb,zo,none⟩) m zc] w fun e w'=>e=.returned (.bool r)/\Below w.heap.size w w':=by
 obtain⟨x,pa,pn,pc,hx,hx2⟩:=E.tok hv.out
 rw[<- hr.out]
 exact BN E b i v d w hB hbb hv hb hx pa pn pc hx2 zb zo m zc zs _ (yh rfl) hm hm2 hz hzb
theorem aK{X:List Nat}{w0 W:World}{L:List (Nat×Obj)}{g:Nat}{c:Array Value}{t:TypeId}(hL:Kn X w0 W L)(hm:(g,Obj.cells c t (0,0))∈L)(o:Nat):W.cell? ⟨g,o,none⟩=c[o]? :=by
 rw[World.cell?,hL.has _ hm]
 simp
theorem ff{X:List Nat}{w0 W:World}{L:List (Nat×Obj)}{g:Nat}{x:Value}{t:TypeId}(hL:Kn X w0 W L)(hm:(g,Obj.cells #[x] t (0,0))∈L):W.cell? ⟨g,0,none⟩=some x:=aK hL hm 0
theorem fg{X:List Nat}{w0 W:World}{L:List (Nat×Obj)}{z b:Nat}{o o':Obj}(hL:Kn X w0 W ((z,o)::L))(hm:(b,o')∈L):z≠b:=by
 have h:=hL.nd
 grind
theorem Kn.ofPerm{X:List Nat}{w0 w:World}{L L':List (Nat×Obj)}(h:Kn X w0 w L)(p:L.Perm L'):Kn X w0 w L':=
 ⟨h.os,h.tape,h.output,h.size,h.block,fun q hq=>h.own q (p.mem_iff.2 hq),fun q hq=>h.has q (p.mem_iff.2 hq),(p.map (·.1)).nodup_iff.1 h.nd⟩
theorem b8{w:World}{zb zo:Nat}{z:ByteArray}(h:w.cell? ⟨zb,zo,none⟩=some (.string z)):∀j,j<[z].length->w.cell? ⟨zb,zo+j,none⟩=some (.string ([z].getD j ByteArray.empty)):=fun j hj=>by
 grind
theorem xW(u:ByteArray)(W:World):(convert 9 119 (.string u)).run Tryz.prog W=.ok (.slice (some ⟨W.heap.size,0,none⟩) u.size (grownCap W u.size 0 5)) (Lib.bytesWorld W 5 u):=
 Lib.run_convert_string_bytes W _ _ _ u Tryz.underlying9 Tryz.underlying119 Tryz.underlying5
theorem Cj(c:UInt8):bits BinOp.or IntKind.u8 (c.toNat:Int) 32=((c ||| 32).toNat:Int):=by
 have key:∀k:_root_.Fin 256,bits BinOp.or IntKind.u8 (k.val:Int) 32=((UInt8.ofNat k.val ||| 32).toNat:Int):=by decide +kernel
 have:=key ⟨c.toNat,c.toNat_lt⟩
 simp_all
theorem xX(c:UInt8):dz c=((c.toNat==95)||(decide (97<=(c ||| 32).toNat)&&decide ((c ||| 32).toNat<=122))):=by
 have key:∀k:_root_.Fin 256,dz (UInt8.ofNat k.val)=(((UInt8.ofNat k.val).toNat==95)||(decide (97<=(UInt8.ofNat k.val ||| 32).toNat)&&decide ((UInt8.ofNat k.val ||| 32).toNat<=122))):=by decide +kernel
 have:=key ⟨c.toNat,c.toNat_lt⟩
 simp_all
def NLI(l:ab)(k:Nat):Prop:=named l=if k=0 then named l else k+bR (l.drop k)
theorem NLI.zero(l:ab):NLI l 0:=rfl
theorem jv{l:ab}{k:Nat}{c:UInt8}(h:l[k]? =some c):bR (l.drop k)=if dz c||bK c then bR (l.drop (k+1))+1 else 0:=by
 obtain⟨h1,h2⟩:=List.getElem?_eq_some_iff.1 h
 rw[List.drop_eq_getElem_cons h1,h2]
 rfl
theorem kv{l:ab}{c:UInt8}(h:l[0]? =some c):named l=if dz c then bR (l.drop 1)+1 else 0:=by
 cases l with
 |nil=>simp at h
 |cons a t=>simp at h;subst h;rfl
theorem NLI.next{l:ab}{k:Nat}{c:UInt8}(h:NLI l k)(hc:l[k]? =some c)(ha:dz c=true\/((k==0)=false/\bK c=true)):NLI l (k+1):=by
 grind[NLI,kv,jv]
theorem NLI.stop{l:ab}{k:Nat}{c:UInt8}(h:NLI l k)(hc:l[k]? =some c)(ha:dz c=false)(hd:(k==0)=true\/bK c=false):named l=k:=by
 grind[NLI,kv,dz,bK,jv]
theorem NLI.fin{s:ByteArray}(h:NLI s.data.toList s.size):named s.data.toList=s.size:=by
 unfold NLI at h
 split at h
 ·rename_i h0
  have:s.data.toList=[]:=List.eq_nil_of_length_eq_zero (by simp_all);rw[this,h0];rfl
 ·rw[h,List.drop_eq_nil_of_le (by simp_all)];rfl
theorem kA:∀t:ab,(bR t==t.length)=t.all fun c=>dz c||bK c
 | []=>rfl
 |c::t=>by
  have h:=iV t;rw[bR,List.all_cons,<- kA t];grind
theorem s0(l:ab):cT l=((l != [])&&(named l==l.length)):=by
 cases l with
 |nil=>rfl
 |cons c t=>
  show(dz c&&_)=(true&&(named (c::t)==(c::t).length))
  grind[named,kA]
theorem lz(s:ByteArray)(hs:s.size<=1000000)(w:World):Calls Tryz.prog 146 #[.string s] w fun e w'=>e=.returned (.int .i64 (named s.data.toList))/\Below w.heap.size w w':=by
  have hcv:=xW s w;obtain⟨W1,hW1⟩:∃W1,Lib.bytesWorld w 5 s=W1:=⟨_,rfl⟩;have HB1:Hid (Below w.heap.size w W1):=yh (by rw[<- hW1];exact Lib.bytesWorld_below _ _ _);have HC1:Hid (∀j,j<s.size->W1.cell? ⟨w.heap.size,j,none⟩=some (.int .u8 (s.data.toList.getD j 0).toNat)):=yh (by rw[<- hW1];exact fun j hj=>Lib.bytesWorld_cell w _ s j hj);rw[hW1]at hcv;clear hW1;have hL:Kn [] w w []:=Kn.refl [] w;have hF:=hL.fx;go_enter Tryz.func146,Tryz.ntmps146;go_wp2;clear hL hF;obtain⟨gb,hgb⟩:∃gb,w.heap.size=gb:=⟨_,rfl⟩;go_loopw [9] (fun o wr=>∃k:Nat,k<=s.size/\o=.int .i64 k/\Hid (NLI s.data.toList k)/\Kn [] W1 wr []) (fun o _=>s.size-(intOf o).toNat)
  case atStart=>exact⟨0,by omega,rfl,yh (NLI.zero _),Kn.refl [] W1⟩
  case round=>
    obtain⟨k,hk,rfl,HI,hL⟩:=hrel;have hF:=hL.fx;by_cases hlt:k<s.size
    · obtain⟨c,hc⟩:∃c,s.data.toList[k]? =some c:=⟨_,List.getElem?_eq_getElem (by rw[szl];exact hlt)⟩
      have hcell:=lQ hL (HC1.out k hlt);rw[List.getD_eq_getElem?_getD,hc,Option.getD_some]at hcell;rw[hgb]at hcell;have hgl:=aI hcell;obtain⟨v,hv⟩:∃v,(c ||| 32).toNat=v:=⟨_,rfl⟩;have h32:=Cj c;rw[hv]at h32;have hal:dz c=((c.toNat==95)||(decide (97<=v)&&decide (v<=122))):=by rw[<- hv];exact xX c
      have hdi:bK c=(decide (48<=c.toNat)&&decide (c.toNat<=57)):=rfl;obtain⟨k1,hk1⟩:∃k:Bool,(c.toNat==95)=k:=⟨_,rfl⟩;obtain⟨k2,hk2⟩:∃k:Bool,decide (97<=v)=k:=⟨_,rfl⟩;obtain⟨k3,hk3⟩:∃k:Bool,decide (v<=122)=k:=⟨_,rfl⟩;obtain⟨k4,hk4⟩:∃k:Bool,decide (c.toNat<48)=k:=⟨_,rfl⟩;obtain⟨k5,hk5⟩:∃k:Bool,decide (57<c.toNat)=k:=⟨_,rfl⟩;obtain⟨k6,hk6⟩:∃z:Bool,(k==0)=z:=⟨_,rfl⟩;have j1:((c.toNat:Int)==95)=k1:=by rw[<- hk1,Bool.eq_iff_iff,beq_iff_eq,beq_iff_eq];omega
      have j2:decide ((97:Int)<=(v:Int))=k2:=by rw[<- hk2];exact decide_eq_decide.2 (by omega)
      have j3:decide ((v:Int)<=(122:Int))=k3:=by rw[<- hk3];exact decide_eq_decide.2 (by omega)
      have j4:decide ((c.toNat:Int)<(48:Int))=k4:=by rw[<- hk4];exact decide_eq_decide.2 (by omega)
      have j5:decide ((57:Int)<(c.toNat:Int))=k5:=by rw[<- hk5];exact decide_eq_decide.2 (by omega)
      have j6:((k:Int)==0)=k6:=by rw[<- hk6,Bool.eq_iff_iff,beq_iff_eq,beq_iff_eq];omega
      have hdi2:bK c=(!k4&& !k5):=by
        rw[hdi,<- hk4,<- hk5,Bool.eq_iff_iff];simp only[Bool.and_eq_true,decide_eq_true_eq,Bool.not_eq_true',decide_eq_false_iff_not];omega
      rw[hk1,hk2,hk3]at hal;have HAL:=yh hal;have HDI:=yh hdi2;have HC:=yh hc;have HK6:=yh hk6;have HND:Hid (NLI s.data.toList k):=yh HI.out;clear hal hdi hdi2 hc hv hk1 hk6
      cases k1<;>cases k2<;>cases k3<;>cases k4<;>cases k5<;>cases k6<;>(first
        | (exfalso;have h1:=HAL.out;omega)
        | (go_wp2
           first
           |exact⟨⟨k+1,by omega,by go_num,yh (HND.out.next HC.out (by first|exact .inl HAL.out|exact .inr ⟨HK6.out,HDI.out⟩)),hL⟩,by simp[intOf];omega⟩
           | (refine bodyPost_ret (by simp[results,Tryz.results146,go_sem, *];try rfl) rfl ?_
              exact⟨by rw[HND.out.stop HC.out HAL.out (by first|exact .inl HK6.out|exact .inr HDI.out)],HB1.out.trans (hL.below0.mono HB1.out.size)⟩)))
    · obtain rfl:s.size=k:=by omega
      go_wp2;refine bodyPost_ret (by simp[results,Tryz.results146,go_sem, *];try rfl) rfl ?_;exact⟨by rw[HI.out.fin],HB1.out.trans (hL.below0.mono HB1.out.size)⟩
theorem eO(s:ByteArray)(hs:s.size<=1000000)(w:World):Calls Tryz.prog 121 #[.string s] w fun e w'=>e=.returned (.bool (cT s.data.toList))/\Below w.heap.size w w':=by
 rw[s0,szl]
 obtain⟨n,hn⟩:∃n,named s.data.toList=n:=⟨_,rfl⟩
 have HN:=yh (fun W=>lz s hs W)
 rw[hn]at HN |-
 obtain⟨k1,hk1⟩:∃k:Bool,(s.data.toList==[])=k:=⟨_,rfl⟩
 obtain⟨k2,hk2⟩:∃k:Bool,(n==s.size)=k:=⟨_,rfl⟩
 have j1:(s.toList==[])=k1:=by rw[Lib.toList_data];exact hk1
 have j2:((n:Int)==(s.size:Int))=k2:=by rw[<- hk2,Bool.eq_iff_iff,beq_iff_eq,beq_iff_eq];omega
 rw[show(s.data.toList != [])= !k1 by rw[<- hk1];rfl,hk2]
 clear hn
 cases k1<;>cases k2<;>(
  have hL:Kn [] w w []:=Kn.refl [] w;have hF:=hL.fx;go_enter Tryz.func121,Tryz.ntmps121;go_wp2_with ((go_at_call 146;refine zC (fun W hL=>HN.out _) ?_;intro W hL hF))
  refine bodyPost_ret (by simp[results,Tryz.results121,go_sem, *];try rfl) rfl ?_;exact⟨rfl,hL.below0⟩)
theorem eb{W0:World}{g o cap:Nat}{tvs:List (Tok×Value)}(E:PEnv W0 g o cap tvs)(b i:Nat)(v:Value)(d:Nat)(w:World)(hB:Below W0.heap.size W0 w)(hbb:W0.heap.size<=b)(hv:Hid (AtV g o cap tvs i v))(hb:w.heap[b]? =some (.cells #[v,.int .i64 (d:Int)] 73 (0,0)))(s:ByteArray):
    Calls Tryz.prog 144 #[.pointer (some ⟨b,0,none⟩),.string s] w fun e w'=>mD b d g o cap tvs w (fun _ v0 _=>v0=.tuple #[]) (aW s.data.toList ((TT tvs).drop i)) e w':=by
  obtain⟨k1,hk1⟩:∃k,aS s.data.toList ((TT tvs).drop i)=k:=⟨_,rfl⟩;obtain⟨k2,hk2⟩:∃k,bS [s.data.toList] ((TT tvs).drop i)=k:=⟨_,rfl⟩;have HK1:=yh hk1;have HK2:Hid (bS ([s].map fun z=>z.data.toList) ((TT tvs).drop i)=k2):=yh hk2;have hw:aW s.data.toList ((TT tvs).drop i)=if k1||k2 then .ok () ((TT tvs).drop i).tail else syn ((TT tvs).drop i):=by unfold aW;rw[hk1,hk2]
  rw[hw];have hne:Hid ((k1||k2)=true->(TT tvs).drop i≠[]):=yh fun h e=>by rw[e]at hk1 hk2;cases hk1;cases hk2;cases h
  clear hk1 hk2 hw;obtain⟨m,hm⟩:∃m,m=((TT tvs).drop i).length:=⟨_,rfl⟩;have Hm:=yh hm;clear hm;have HB0:=yh hB;have HXB:=yh (xb hbb);have hL:Kn [b] w w [(b,.cells #[v,.int .i64 (d:Int)] 73 (0,0))]:=Kn.one hb;have HBS:=yh hb;clear hB hb;have hF:=hL.fx
  cases k1<;>cases k2<;>(
    go_enter Tryz.func144,Tryz.ntmps144;go_wp2_with (first|(with_reducible refine zS ?_;intro W hL hF)|(go_at_call 52;refine zC (fun W hL=>eC E b i v d _ (ag HB0.out hL HXB.out) hbb hv hL.h0 s _ HK1) ?_;intro W hL hF)|(go_at_call 86;refine zC (fun W hL=>cK E b i v d _ (ag HB0.out hL HXB.out) hbb hv hL.h1 _ 0 1 _ [s] _ HK2 (yh rfl) (by omega) (b8 (ff hL m0)) (by(exact fg hL m0))) ?_;intro W hL hF)|(go_at_call 53;(with_reducible refine zM (fun W hL=>ea E b i v d _ (ag HB0.out hL HXB.out) hbb hv (by first|exact hL.has _ m0|exact hL.has _ m1) (hne.out rfl)) ?_);rintro W hL e W ⟨x,pa,pn,pc,vj,rfl,HTX,HVJ,hb⟩;(first|(replace hL:=hL.join1 0 rfl hb)|(replace hL:=hL.join1 1 rfl hb));clear hb;simp only[List.eraseIdx_cons_zero,List.eraseIdx_cons_succ,List.cons_append,List.nil_append]at hL;have hF:=hL.fx)|(go_at_call 28;(with_reducible refine zM (fun W hL=>fW E b i v d _ (ag HB0.out hL HXB.out) hbb hv hL.h1 27 d 1 (yh rfl) m Hm) ?_);rintro W hL e W ⟨vj,dj,rfl,hb⟩;replace hL:=hL.jn 1 hb;clear hb;have hF:=hL.fx))
    first
    | (go_end0
       exact⟨_,i+1,vj,rfl,rfl,yh ⟨HVJ.out,by(rfl)⟩,hL.sub (by repeat' (first|exact List.Sublist.refl _|apply List.Sublist.cons_cons|apply List.Sublist.cons))⟩)
    | (exact⟨rfl,_,_,by rw[Hm.out]<;>rfl,hL.sub (by repeat' (first|exact List.Sublist.refl _|apply List.Sublist.cons_cons|apply List.Sublist.cons))⟩))
theorem xY{W0:World}{g o cap:Nat}{tvs:List (Tok×Value)}(E:PEnv W0 g o cap tvs){i:Nat}{x:Tok×Value}(hx:tvs[i]? =some x):bT ((TT tvs).drop i)=if((x.1.kind:Int)==0)=true then .ok x.1.parts ((TT tvs).drop (i+1))else syn ((TT tvs).drop i):=by
 rcases bI E hx with⟨h1,h2,h3,h4⟩|⟨h1,h2,h3⟩
 ·rw[h1,h2];rfl
 ·rw[h1]
  show(if x.1.kind=0 then _ else _)=_
  by_cases h:x.1.kind=0
  ·rw[if_pos h,if_pos (by rw[h];rfl)]
  ·rw[if_neg h,if_neg (by rw[beq_iff_eq];omega)]
theorem oF{W0:World}{g o cap:Nat}{tvs:List (Tok×Value)}(E:PEnv W0 g o cap tvs){i:Nat}{x:Tok×Value}(hx:tvs[i]? =some x):au ((TT tvs).drop i)=if((x.1.kind:Int)==3)=true then au ((TT tvs).drop (i+1))else(TT tvs).drop i:=by
 rcases bI E hx with⟨h1,h2,h3,h4⟩|⟨h1,h2,h3⟩
 ·rw[h1,h2];rfl
 ·rw[h1]
  unfold au;rw[List.dropWhile_cons];by_cases h:x.1.kind=3
  ·rw[if_pos (by show(x.1.kind==3)=true;rw[h];rfl),if_pos (by rw[h];rfl)]
  ·rw[if_neg (by show ¬(x.1.kind==3)=true;rw[beq_iff_eq];exact h),if_neg (by rw[beq_iff_eq];omega)]
def BO(tvs:List (Tok×Value))(ps:List Prt)(v0:Value)(_:World):Prop:=∃x pa pn pc,x∈tvs/\x.2=.slice pa pn pc/\v0=.agg #[.int .i64 (x.1.kind:Int),.string ⟨x.1.text.toArray⟩,.string ⟨x.1.plain.toArray⟩,.slice pa pn pc,.int .i64 x.1.fd,.int .i64 (x.1.line:Int)]/\ps=x.1.parts
theorem mG{W0:World}{g o cap:Nat}{tvs:List (Tok×Value)}(E:PEnv W0 g o cap tvs)(b i:Nat)(v:Value)(d:Nat)(w:World)(hB:Below W0.heap.size W0 w)(hbb:W0.heap.size<=b)(hv:Hid (AtV g o cap tvs i v))(hb:w.heap[b]? =some (.cells #[v,.int .i64 (d:Int)] 73 (0,0))):Calls Tryz.prog 164 #[.pointer (some ⟨b,0,none⟩)] w fun e w'=>mD b d g o cap tvs w (BO tvs) (bT ((TT tvs).drop i)) e w':=by
 obtain⟨m,hm⟩:∃m,m=((TT tvs).drop i).length:=⟨_,rfl⟩
 have Hm:=yh hm
 clear hm
 obtain⟨x,pa,pn,pc,hx,hx2⟩:=E.tok hv.out
 have HX:=yh hx
 have HX2:=yh hx2
 obtain⟨f0,f1,f2,f3,f4,f5⟩:=tkF x.1.kind x.1.fd x.1.line ⟨x.1.text.toArray⟩ ⟨x.1.plain.toArray⟩ pa pn pc
 clear hx hx2
 rw[xY E HX.out]
 obtain⟨k1,hk1⟩:∃k:Bool,((x.1.kind:Int)==0)=k:=⟨_,rfl⟩
 have hk2:((x.1.kind:Int) != 0)= !k1:=by rw[<- hk1];rfl
 have hne:Hid (k1=true->(TT tvs).drop i≠[]):=yh fun h=>by
  rcases bI E HX.out with⟨h1,h2,h3,h4⟩|⟨h1,h2,h3⟩
  ·rw[h2]at hk1;rw[<- hk1]at h;cases h
  ·rw[h1];simp
 rw[hk1]
 have hkd:Hid ((x.1.kind:Int)=0\/k1=false):=yh (by cases k1;exact .inr rfl;exact .inl (beq_iff_eq.1 hk1))
 have HB0:=yh hB
 have HXB:=yh (xb hbb)
 have hL:Kn [b] w w [(b,.cells #[v,.int .i64 (d:Int)] 73 (0,0))]:=Kn.one hb
 have HBS:=yh hb
 clear hB hb
 have hF:=hL.fx
 cases k1
 ·go_enter Tryz.func164,Tryz.ntmps164
  go_wp2_with (first|(with_reducible refine zS ?_;intro W hL hF)|(go_at_call 27;refine zC (fun W hL=>aL E b i v d _ (ag HB0.out hL HXB.out) hbb hv hL.h1 HX.out pa pn pc HX2.out) ?_;intro W hL hF)|(go_at_call 28;(with_reducible refine zM (fun W hL=>fW E b i v d _ (ag HB0.out hL HXB.out) hbb hv hL.h1 27 d 1 (yh rfl) m Hm) ?_);rintro W hL e W ⟨vj,dj,rfl,hb⟩;replace hL:=hL.jn 1 hb;clear hb;have hF:=hL.fx))
  exact⟨rfl,_,_,by rw[Hm.out]<;>rfl,hL.sub (by repeat' (first|exact List.Sublist.refl _|apply List.Sublist.cons_cons|apply List.Sublist.cons))⟩
 ·have h4:Hid (x.1.kind≠4):=yh (fun e=>by have:=hkd.out;rw[e]at this;rcases this with h|h;exact absurd h (by decide);cases h)
  go_enter Tryz.func164,Tryz.ntmps164;go_wp2_with (first|(with_reducible refine zS ?_;intro W hL hF)|(go_at_call 27;refine zC (fun W hL=>aL E b i v d _ (ag HB0.out hL HXB.out) hbb hv hL.h1 HX.out pa pn pc HX2.out) ?_;intro W hL hF)|(go_at_call 53;(with_reducible refine zM (fun W hL=>eE E b i v d _ (ag HB0.out hL HXB.out) hbb hv hL.h1 HX.out pa pn pc HX2.out h4.out) ?_);rintro W hL e W ⟨rfl,vj,HVJ,hb⟩;replace hL:=hL.jn 1 hb;clear hb;have hF:=hL.fx))
  refine zF ?_;intro W hL hF;refine bodyPost_ret (by simp[results,Tryz.results164,go_sem, *];try rfl) rfl ?_;exact⟨_,i+1,vj,rfl,⟨x,pa,pn,pc,List.mem_of_getElem? HX.out,HX2.out,rfl,rfl⟩,yh ⟨HVJ.out,rfl⟩,hL.sub (by repeat' (first|exact List.Sublist.refl _|apply List.Sublist.cons_cons|apply List.Sublist.cons))⟩
theorem dT{W0:World}{g o cap:Nat}{tvs:List (Tok×Value)}(E:PEnv W0 g o cap tvs)(b i:Nat)(v:Value)(d:Nat)(w:World)(hB:Below W0.heap.size W0 w)(hbb:W0.heap.size<=b)(hv:Hid (AtV g o cap tvs i v))(hb:w.heap[b]? =some (.cells #[v,.int .i64 (d:Int)] 73 (0,0))):Calls Tryz.prog 49 #[.pointer (some ⟨b,0,none⟩)] w fun e w'=>∃j vj,e=.returned (.tuple #[])/\Hid (i<=j/\AtV g o cap tvs j vj/\au ((TT tvs).drop i)=(TT tvs).drop j)/\Kn [b] w w' [(b,.cells #[vj,.int .i64 (d:Int)] 73 (0,0))]:=by
 obtain⟨ts,hts⟩:∃ts,au ((TT tvs).drop i)=ts:=⟨_,rfl⟩
 rw[hts]
 have HTS:=yh hts
 clear hts
 have HB0:=yh hB
 have HXB:=yh (xb hbb)
 have hL:Kn [b] w w [(b,.cells #[v,.int .i64 (d:Int)] 73 (0,0))]:=Kn.one hb
 have HBS:=yh hb
 clear hB hb
 have hF:=hL.fx
 go_enter Tryz.func49,Tryz.ntmps49
 go_wp2
 go_loopg [] (tvs.length-i) (fun k wr=>∃j vj,Hid (k=tvs.length-j/\i<=j/\AtV g o cap tvs j vj/\au ((TT tvs).drop j)=ts)/\Kn [b] w wr [(b,.cells #[vj,.int .i64 (d:Int)] 73 (0,0))])
 case atStart=>exact⟨i,v,yh ⟨rfl,Nat.le_refl _,hv.out,HTS.out⟩,aV⟩
 case round=>
  clear hL;clear hF;obtain⟨j,vj,HJ,hL⟩:=hrel;have hF:=hL.fx;have Hvj:=yh HJ.out.2.2.1;obtain⟨x,pa,pn,pc,hx,hx2⟩:=E.tok Hvj.out;have HX:=yh hx;have HX2:=yh hx2;obtain⟨f0,f1,f2,f3,f4,f5⟩:=tkF x.1.kind x.1.fd x.1.line ⟨x.1.text.toArray⟩ ⟨x.1.plain.toArray⟩ pa pn pc;clear hx hx2;obtain⟨k1,hk1⟩:∃k:Bool,((x.1.kind:Int)==3)=k:=⟨_,rfl⟩;have HK1:=yh hk1;have h4:Hid (k1=true->x.1.kind≠4):=yh (fun h e4=>by have h9:=HK1.out;rw[e4,h]at h9;cases h9)
  cases k1
  ·go_wp2_with (first|(with_reducible refine zS ?_;intro W hL hF)|(go_at_call 27;refine zC (fun W hL=>aL E b j vj (d:Int) _ (ag HB0.out hL HXB.out) hbb Hvj hL.h0 HX.out pa pn pc HX2.out) ?_;intro W hL hF))
   go_end0
   refine⟨j,vj,rfl,yh ⟨HJ.out.2.1,Hvj.out,?_⟩,hL⟩;have h3:=oF E HX.out;rw[HK1.out,if_neg (by decide)]at h3;rw[<- HJ.out.2.2.2];exact h3
  ·have h5:=yh (h4.out rfl)
   clear h4;go_wp2_with (first|(with_reducible refine zS ?_;intro W hL hF)|(go_at_call 27;refine zC (fun W hL=>aL E b j vj (d:Int) _ (ag HB0.out hL HXB.out) hbb Hvj hL.h0 HX.out pa pn pc HX2.out) ?_;intro W hL hF)|(go_at_call 53;(with_reducible refine zM (fun W hL=>eE E b j vj (d:Int) _ (ag HB0.out hL HXB.out) hbb Hvj hL.h0 HX.out pa pn pc HX2.out h5.out) ?_);rintro W hL e W ⟨rfl,v2,HV2,hb⟩;replace hL:=hL.jn 0 hb;clear hb;have hF:=hL.fx))
   go_roundg (tvs.length-(j+1))
   case measure=>have:=HJ.out.1;have:=Hvj.out.1;omega
   case rel=>exact⟨j+1,v2,yh ⟨rfl,by have:=HJ.out.2.1;omega,HV2.out,by have h3:=oF E HX.out;rw[HK1.out,if_pos rfl]at h3;rw[<- h3];exact HJ.out.2.2.2⟩,hL⟩
section
variable {P:Program} {w:World} {e:TypeId} {z n:Nat} {v:Value} {xs:List Value} {X:List Nat} {w0:World} {A LP:List (Nat×Obj)}
theorem s_(hk:Kn X w0 w (A++LP))(hr:RowL z e LP v n xs):w.ownsRow 0 e z v n xs:=by
 rcases hr with⟨rfl,rfl,rfl,rfl⟩|⟨g,cap,cur,rfl,rfl,hb⟩
 ·exact⟨by simp,.inl ⟨rfl,rfl⟩⟩
 ·exact⟨hb.len,.inr ⟨g,cap,cur,rfl,Nat.zero_le _,hk.has (g,.cells cur e (0,0)) (by simp),hb.le,hb.capm,hb.size,hb.take⟩⟩
theorem ah{ops:Array Oper}{rest:List Oper}{o:Oper}{a:Act}{Q:Exit->Act->World->Prop}(hgd:o.guard=none)(s x:Operand)(t u:TypeId)
  (ho:o.op=.call {callee:=.builtin .append,args:=#[s,x],argTypes:=#[t,u]})
  (A LP:List (Nat×Obj)) (hk:Kn X w0 w (A++LP)) (n m:Nat) (xs news:List Value) (v xv:Value) (hr:RowL z e LP v n xs) (hs:a.eval s=v) (hx:a.eval x=xv)
  (hrun:w.ownsRow 0 e z v n xs->∃v' w',(Builtin.append_ #[t,u] o.type #[v,xv]).run P w=.ok v' w'/\w'.ownsRow 0 e z v' (n+m) (xs++news)/\w.grownBy w' v.ownBlock/\(v'.ownBlock=v.ownBlock\/v'.ownBlock=some w.heap.size))
  (h:∀LP' ao' c' w',Kn X w0 w' (A++LP')->RowL z e LP' (.slice ao' (n+m) c') (n+m) (xs++news)->wpList P ops Q rest (a.put o.dst (.slice ao' (n+m) c')) w'):wpList P ops Q (o::rest) a w:=by
 refine wpList_plain hgd fun K hK=>?_
 obtain⟨v',w',hrun,h2,h3,h4⟩:=hrun (s_ hk hr)
 have nd:=hk.nd
 rw[List.map_append,List.nodup_append]at nd
 obtain⟨ndA,_,hd⟩:=nd
 have hvb:∀g,v.ownBlock=some g->∃o,LP=[(g,o)]:=fun g hg=>by
  rcases hr with⟨_,rfl,_⟩|⟨g',cap,cur,rfl,rfl,_⟩
  ·cases hg
  ·obtain rfl:g'=g:=Option.some.inj hg
   grind
 have hKA:Kn X w0 w' A:=ka (hk.sub (List.sublist_append_left A LP)) h3 fun g hg=>by
  obtain⟨ob,rfl⟩:=hvb g hg;exact⟨hk.own (g,ob) (by simp),fun hm=>hd g hm g (by simp) rfl⟩
 unfold Oper.wp execOp
 simp only[ho,resolve,invoke,builtin,Sem.run_bind,Sem.run_pure,Result.andThen_ok,List.map_toArray,List.map_cons,List.map_nil,hs,hx,hrun]
 refine hK _ _ ?_
 obtain⟨hl2,⟨rfl,h0⟩|⟨g',cap',cur',rfl,_,hc,k1,k2,k3,k4⟩⟩:=h2
 ·have:=h [] none 0 w' (by grind) (.inl ⟨rfl,by rw[h0],h0,List.eq_nil_of_length_eq_zero (by grind)⟩)
  grind
 ·have hgX:(w0.heap.size<=g' \/g'∈X)/\g'∉A.map (·.1):=by
   rcases h4 with h4|h4
   ·obtain⟨ob,rfl⟩:=hvb g' h4.symm
    exact⟨hk.own (g',ob) (by simp),fun hm=>hd g' hm g' (by simp) rfl⟩
   ·obtain rfl:g'=w.heap.size:=Option.some.inj h4
    refine⟨.inl hk.size,fun hm=>?_⟩;obtain⟨q,hq,e2⟩:=List.mem_map.1 hm;have h5:=hk.lt (List.mem_append_left _ hq);omega
  refine h [(g',.cells cur' e (0,0))] _ _ w' ⟨hKA.os,hKA.tape,hKA.output,hKA.size,hKA.block,fun p hp=>?_,fun p hp=>?_,?_⟩ (.inr ⟨g',cap',cur',rfl,rfl,k3,k1,k2,k4,hl2⟩)
  ·rcases List.mem_append.1 hp with hp|hp
   ·exact hKA.own p hp
   grind
  ·rcases List.mem_append.1 hp with hp|hp
   ·exact hKA.has p hp
   grind
  grind
end
def RowM(k:Nat)(W0:World)(L:List (Nat×Obj))(v:Value)(xs:List (List Value)):Prop:=
  ∃ao cap,v=.slice ao xs.length cap/\xs.length<=cap/\∀(j:Nat) cs,xs[j]? =some cs->∃g o,ao=some ⟨g,o,none⟩/\
    ((∃cells t,(g,Obj.cells cells t (0,0))∈L/\∀(c:Nat) x,cs[c]? =some x->cells[o+j*k+c]? =some x)\/
     (g<W0.heap.size/\xV W0 g/\∀(c:Nat) x,cs[c]? =some x->W0.cell? ⟨g,o+j*k+c,none⟩=some x))
section
variable {k:Nat} {W0:World} {L L':List (Nat×Obj)} {v:Value} {xs:List (List Value)}
theorem RowM.mono(h:RowM k W0 L v xs)(hs:∀p∈L,p∈L'):RowM k W0 L' v xs:=by
 obtain⟨ao,cap,h1,h2,h3⟩:=h
 refine⟨ao,cap,h1,h2,fun j cs hj=>?_⟩
 grind
theorem RowM.nil:RowM k W0 L (.slice none 0 0) []:=⟨none,0,rfl,Nat.le_refl _,fun j cs h=>by simp at h⟩
theorem RowK.rowM(h:RowK k W0 v xs)(hc:BK v)(hty:TyN W0 v)(hne:∀cs∈xs,cs≠[]):RowM k W0 L v xs:=by
 obtain⟨ao,cap,rfl,h2⟩:=h
 obtain⟨_,_,_,e,hc⟩:=hc
 injection e with e1 e2 e3
 subst e1 e2 e3
 refine⟨ao,cap,rfl,hc,fun j cs hj=>?_⟩
 obtain⟨g,o,h3,h4⟩:=h2 j cs hj
 refine⟨g,o,h3,.inr ⟨?_,hty _ _ _ (by rw[h3]),h4⟩⟩
 cases cs with
 |nil=>grind
 |cons x r=>exact aI (h4 0 x rfl)
end
theorem RowL.rowM{α:Type}{f:α->List Value}{k:Nat}{e:TypeId}{LP L:List (Nat×Obj)}{W0:World}{v:Value}{l:List α}(hf:∀a,(f a).length=k)(h:RowL k e LP v l.length (l.flatMap f))(hs:∀p∈LP,p∈L):RowM k W0 L v (l.map f):=by
 rcases h with⟨_,rfl,h0,h1⟩|⟨g,cap,cur,rfl,rfl,hb⟩
 ·grind[RowM.nil]
 ·refine⟨some ⟨g,0,none⟩,cap,by grind,by rw[List.length_map];exact hb.le,fun j cs hj=>⟨g,0,rfl,.inl ⟨cur,e,hs _ m0,fun c x hx=>?_⟩⟩⟩
  rw[List.getElem?_map]at hj;obtain⟨a,ha,rfl⟩:=Option.map_eq_some_iff.1 hj;rw[Nat.zero_add];exact hb.get (gC hf l j c a x ha hx)
def PRm(W0:World)(L:List (Nat×Obj))(v:Value)(ps:List Prt):Prop:=RowM 3 W0 L v (ps.map ptc)
theorem PRm.mono{W0:World}{L L':List (Nat×Obj)}{v:Value}{ps:List Prt}(h:PRm W0 L v ps)(hs:∀p∈L,p∈L'):PRm W0 L' v ps:=RowM.mono h hs
theorem fh{W0:World}{g o cap:Nat}{tvs:List (Tok×Value)}(E:PEnv W0 g o cap tvs){x:Tok×Value}(hx:x∈tvs){L:List (Nat×Obj)}:PRm W0 L x.2 x.1.parts:=by
 obtain⟨h1,h2⟩:=E.parts x hx
 exact h1.rowM h2 (E.tyn x hx) (fun cs hcs=>by obtain⟨p,_,rfl⟩:=List.mem_map.1 hcs;simp[ptc])
inductive NodeL (W0:World) (L:List (Nat×Obj)):Nd->List Value->Prop
 |mk (kind:Nat) (name:ab) (neg:Bool) (al:List ((ab×List Prt)×Value)) (ws:List (List Prt×Value)) (rs:List ((Int×Nat×List Prt)×Value)) (ks:List (Nd×List Value)) (va vw vr vk:Value)
  (h1:RowM 2 W0 L va (al.map asc)) (h2:∀x∈al,PRm W0 L x.2 x.1.2) (h3:RowM 1 W0 L vw (ws.map fun x=>[x.2])) (h4:∀x∈ws,PRm W0 L x.2 x.1)
  (h5:RowM 3 W0 L vr (rs.map rsc)) (h6:∀x∈rs,PRm W0 L x.2 x.1.2.2) (h7:RowM 7 W0 L vk (ks.map (·.2))) (h8:∀x∈ks,NodeL W0 L x.1 x.2):
  NodeL W0 L (.mk kind name neg (al.map (·.1)) (ws.map (·.1)) (rs.map (·.1)) (ks.map (·.1))) [.int .i64 (kind:Int),bs name,.bool neg,va,vw,vr,vk]
theorem NodeL.mono{W0:World}{L L':List (Nat×Obj)}{n:Nd}{cs:List Value}(h:NodeL W0 L n cs)(hs:∀p∈L,p∈L'):NodeL W0 L' n cs:=by
 induction h with
 |mk kind name neg al ws rs ks va vw vr vk h1 h2 h3 h4 h5 h6 h7 h8 ih=>
  exact .mk kind name neg al ws rs ks va vw vr vk (h1.mono hs) (fun x hx=>(h2 x hx).mono hs) (h3.mono hs) (fun x hx=>(h4 x hx).mono hs) (h5.mono hs) (fun x hx=>(h6 x hx).mono hs) (h7.mono hs) ih
theorem NodeL.len{W0:World}{L:List (Nat×Obj)}{n:Nd}{cs:List Value}(h:NodeL W0 L n cs):cs.length=7:=by cases h;rfl
def db(W0:World)(b d:Nat)(g o cap:Nat)(tvs:List (Tok×Value))(w:World)(p:PR Nd)(e:Ending)(w':World):Prop:=match p with
 |.ok a r=>∃(nm:ByteArray) (aa:Option Addr) (na:Nat) (ca:Nat) (aw:Option Addr) (nw:Nat) (cw:Nat) (ar:Option Addr) (nr:Nat) (cr:Nat) (ak:Option Addr) (nk:Nat) (ck:Nat) (LN:List (Nat×Obj)) (j:Nat) (vj:Value),e=.returned (.agg #[.int .i64 (a.kind:Int),.string nm,.bool a.neg,.slice aa na ca,.slice aw nw cw,.slice ar nr cr,.slice ak nk ck])/\Hid (NodeL W0 LN a [.int .i64 (a.kind:Int),.string nm,.bool a.neg,.slice aa na ca,.slice aw nw cw,.slice ar nr cr,.slice ak nk ck])/\Hid (AtV g o cap tvs j vj/\r=(TT tvs).drop j)/\Kn [b] w w' ((b,.cells #[vj,.int .i64 (d:Int)] 73 (0,0))::LN)
 |.bad er m=>∃vj dj,e=.panicked [{v:=.iface 70 (.agg #[.int .i64 (ku er),.int .i64 (fp tvs m)]),recovered:=false}]/\Kn [b] w w' [(b,.cells #[vj,.int .i64 dj] 73 (0,0))]
theorem Kn.perml{X:List Nat}{w0 W:World}{L L':List (Nat×Obj)}(h:Kn X w0 W L)(hp:∀p:Nat×Obj->Bool,L'.countP p<=L.countP p):Kn X w0 W L':=by
 classical
 refine h.pick (fun q hq=>?_) (List.nodup_iff_count.2 fun k=>?_)
 ·have h1:=hp (fun x=>decide (x=q))
  have h2:0<L'.countP (fun x=>decide (x=q)):=List.countP_pos_iff.2 ⟨q,hq,by simp⟩;obtain⟨x,hx,e⟩:=List.countP_pos_iff.1 (Nat.lt_of_lt_of_le h2 h1);grind
 ·have h1:=hp (fun x=>x.1==k)
  have h2:∀l:List (Nat×Obj),(keys l).count k=l.countP (fun x=>x.1==k):=fun l=>by
   unfold List.count keys;rw[List.countP_map];rfl
  have h3:=List.nodup_iff_count.1 h.nd k;have h4:=h2 L;have h5:=h2 L';unfold keys at h4 h5 |-
  omega
theorem Kn.pm{X:List Nat}{w0 w:World}{L M:List (Nat×Obj)}(h:Kn X w0 w L)(e:∀p,M.countP p<=L.countP p:=by(intro p;simp only[List.countP_cons,List.countP_nil,List.countP_append,List.append_nil,List.nil_append,List.length_nil];omega)):Kn X w0 w M:=h.perml e
end
end Go.Proofs.YtgboffbbpmileaaGreatDoor
