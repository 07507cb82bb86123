/- Lemmas and walks for the law VLawPJoins (part 1). -/
import Derived.Test.YtgboffbbpmileaaGreatDoorCards
import Derived.Test.YtgboffbbpmileaaGreatDoorTie
import Derived.WalkKit
import Derived.ProofKit
import Derived.OpenShut
import Derived.ReadAgain
import Derived.ChangeSame
import Derived.Deep.DeepHandedRow
import Derived.Lib.LaidTab
import Derived.StillTail
import Derived.Deep.Quiet
import Derived.Deep.QuietTactic
import Derived.Below
import Derived.BigQuiet
import Derived.WalkSmall
import Derived.Lib.Hide
import Derived.Deep.Slices
import Derived.Deep.Strs
import Derived.Deep.Fields
import Derived.LaidMore
set_option maxRecDepth 20000
set_option maxHeartbeats 4000000
set_option linter.unusedVariables false
set_option linter.unusedSimpArgs false
namespace Go.Proofs.YtgboffbbpmileaaGreatDoor
open Go Go.ChangeAt Go.ChangeShapes Go.RowKit Go.WideShapes
section
section
variable {H:Type} {enc:TypeId×Value->H} {P:Program}
theorem gU{w w':World}{base:Nat}{sp:Nat->Bool}{held:Bool}:∀{ts:List TypeId} {vs:List Value} {ds:List (DataW H)} {ps:List MemPlace},
  DataW.TrodAll enc P w base sp held ts vs ds ps->(∀p∈ps,w.sameAt w' p)->DataW.TrodAll enc P w' base sp held ts vs ds ps
 | [],[],[],_,h,_=>h
 |_::_,_::_,_::_,_,⟨p,q,⟨n,h1⟩,h2,e⟩,hs=>
  ⟨p,q,⟨n,DataW.trod_carry n _ _ _ h1 (fun x hx=>hs x (by grind))⟩,gU h2 (fun x hx=>hs x (by grind)),e⟩
theorem uj{f:Func}{s:ChangeSpec}{W W':World}{args:Array Value}{ds gs:List (DataW H)}{before:List MemPlace}{tb:TypeId}
  (K:Kids P (· <P.types.size)) (hz:∀t e,t<P.types.size->P.underlying t=some (.slice e)->0<P.cellsOf e) (hpar:∀t∈f.params.toList,t<P.types.size)
  (hvars0:s.vars=[]) (hrt:f.resultTypes= #[tb]) (htb:P.underlying tb=some .bool)
  (hW:DataW.Whole enc P f.params.toList s.vars false W args.toList ds gs before)
  (hf1:(s.fn H (ds++gs)).results=[.lit (.bool true)]) (hf2:(s.fn H (ds++gs)).args=ds) (hf3:(s.fn H (ds++gs)).vars=[])
  (hb:Below W.heap.size W W'):s.post enc P f false true false false W args (.bool true) W':=by
 have hlt:∀p∈before,p.block<W.heap.size:=fun p hp=>hW.lt p hp
 have hold:∀p∈before,(fun b=>decide (b<W.heap.size)) p.block=true:=fun p hp=>by grind
 have hW':=hW
 obtain⟨p,q,hA,hV,hbef,hfz,hnd⟩:=hW
 rw[hvars0]at hV
 obtain⟨hg,hq⟩:=trodVars_none hV
 subst hg;subst hq
 simp only[List.append_nil]at hbef hf1 hf2 hf3 hW'
 subst hbef
 have hargs:∀sp:Nat->Bool,(∀x∈before,sp x.block=true)->DataW.TrodAll enc P W' 0 sp true f.params.toList args.toList ds before:=fun sp hsp=>
  gU (DataW.TrodAll.respare K hz hpar hA hsp) (fun x hx=>hb.same (hlt x hx))
 have hres:∀(b:Nat) (sp:Nat->Bool) (hd:Bool),DataW.TrodAll enc P W' b sp hd f.resultTypes.toList ((Value.bool true).resultList f.resultTypes.size) [.lit (.bool true)] []:=fun b sp hd=>by
  rw[hrt];exact trodAll_cons_mk (shut_bool htb _) trodAll_mk0
 have hvv:∀sp:Nat->Bool,DataW.TrodVars enc P W' sp s.vars (s.fn H (ds++[])).vars []:=fun sp=>by
  rw[hvars0,List.append_nil,hf3];rfl
 refine⟨ds,[],before,[],before,[],by exact hW',?_,?_,hvv _,World.keptBut_mono (fun x hx=>⟨hx,Or.inr (Or.inl hx)⟩) (hb.frame (· ∈before)),fun h=>(by cases h)⟩
 ·grind
 grind
end
section
variable {P:Program} {W:World} {name:String} {rest:List (String×DataW Unit)} {g:Nat} {t e:TypeId} {n:Nat} {ps:List MemPlace}
theorem j9{k:IntKind}{zs:List Int}(hg:P.globalNamed name=some g)(hty:(P.globals[g]?).map (·.type)=some t)(ht:P.underlying t=some (.array n e))(he:P.underlying e=some (.int k))(hce:P.cellsOf e=1)(hct:P.cellsOf t=n)
  (h:DataW.LaidVars P W ((name,Lib.tabData k zs)::rest) ps):Lib.TabIs P W name k zs/\∃qs,DataW.LaidVars P W rest qs:=by
 obtain⟨g',t',cs,fuel,p,q,hg',ht',hvar,hd,hr,_⟩:=h
 obtain rfl:=Option.some.inj (hg.symm.trans hg')
 obtain rfl:=Option.some.inj (hty.symm.trans ht')
 refine⟨?_,q,hr⟩
 unfold Lib.TabIs
 rw[hvar,<- Lib.cells_of_tab ht he hce hct hd]
theorem lF{d:DataW Unit}(h:DataW.LaidVars P W ((name,d)::rest) ps):∃qs,DataW.LaidVars P W rest qs:=by
 obtain⟨g',t',cs,fuel,p,q,hg',ht',hvar,hd,hr,_⟩:=h
 exact⟨q,hr⟩
theorem j_{nm:String}{d:DataW Unit}{ms:Array (String×TypeId)}(hg:P.globalNamed name=some g)(hty:(P.globals[g]?).map (·.type)=some t)(ht:P.underlying t=some (.interface ms))
  (h:DataW.LaidVars P W ((name,.iface nm d)::rest) ps):(∃u v,W.var? P name=some #[.iface u v])/\∃qs,DataW.LaidVars P W rest qs:=by
 obtain⟨g',t',cs,fuel,p,q,hg',ht',hvar,hd,hr,_⟩:=h
 obtain rfl:=Option.some.inj (hg.symm.trans hg')
 obtain rfl:=Option.some.inj (hty.symm.trans ht')
 obtain⟨_,u,v,hc,_⟩:=iface_of_trod ht hd
 refine⟨⟨u,v,?_⟩,q,hr⟩
 rw[hvar];congr 1
 rw[<- Array.toArray_toList (xs:=cs),hc]
end
end
end Go.Proofs.YtgboffbbpmileaaGreatDoor
namespace Go.Proofs.YtgboffbbpmileaaGreatDoor
open Go Go.RowKit
section
section
variable {P:Program} {ops:Array Oper} {md:Region.Mode}
def e'(P:Program)(o:Oper)(a:Act)(w:World)(v:Value):Prop:=
 match(execOp a.eval o).run P w with
 |.ok (.value u) w'=>w'=w/\u=v
 |.ok .skip w'=>w'=w/\v=undef
 |_=>False
def eD(P:Program)(o:Oper)(a:Act)(w:World)(K:Value->World->Prop)(Qp:List PanicEntry->World->Prop):Prop:=
 match(execOp a.eval o).run P w with
 |.ok (.value u) w'=>K u w'
 |.ok .skip w'=>K undef w'
 |.ok (.enter f args) w'=>Calls P f args w' fun
   |.returned v,w''=>K v w''
   |.panicked ch,w''=>Qp ch w''
   |.outgrown,_=>False
 |.halt (.panic v) w'=>Qp [{v,recovered:=false}] w'
 |_=>False
theorem ji{o:Oper}{a:Act}{w:World}{K K':Value->World->Prop}{Qp:List PanicEntry->World->Prop}(h:∀v w,K v w->K' v w)(hh:eD P o a w K Qp):eD P o a w K' Qp:=by
 unfold eD at*
 generalize (execOp a.eval o).run P w=r at*
 cases r with
 |ok n w'=>
  cases n<;>simp only at hh |-
  case value u=>grind
  case skip=>grind
  case enter f args=>exact hh.mono fun e w'' he=>by grind
  all_goals exact hh.elim
 |halt x w'=>grind
def cw(P:Program)(ops:Array Oper)(fl br pu:Nat->Bool)(Q:Act->World->Prop)(Qp:List PanicEntry->World->Prop):List Nat->Act->(World->Prop)->(World->Prop)->Prop
  | [],a,S,_=>∀w,S w->Q a w
  |i::rest,a,S,Wk=>∃o,ops[i]? =some o/\
      ((Region.wanted o (yielded ops a.tmps)=true/\fl i=true/\∃v,(∀w,pu i=true\/Wk w->e' P o a w v)/\cw P ops fl br pu Q Qp rest (a.put o.dst v) S Wk)\/
       (Region.wanted o (yielded ops a.tmps)=true/\fl i=false/\∀w,S w->eD P o a w (fun v w'=>∃S' Wk':World->Prop,S' w'/\(∀u,S' u->Wk' u)/\(br i=true\/∀u,Wk' u->Wk u)/\cw P ops fl br pu Q Qp rest (a.put o.dst v) S' Wk') Qp)\/
       (Region.wanted o (yielded ops a.tmps)=false/\cw P ops fl br pu Q Qp rest (a.put o.dst undef) S Wk))
def hU(md:Region.Mode)(ops:Array Oper)(fl br pu:Nat->Bool)(i:Nat):List Nat->List Nat->Bool
 |_,[]=>true
 |D,j::r=>
  match ops[i]?,ops[j]? with
  |some oi,some oj=>
   if oj.after.any (fun e=>Region.binds md e&&D.contains e.on)then hU md ops fl br pu i (j::D) r
   else(fl i&&(!br j||pu i)&&oi.apart ops oj)&&hU md ops fl br pu i D r
  |_,_=>false
def eS(md:Region.Mode)(ops:Array Oper)(fl br pu:Nat->Bool):List Nat->Bool
 | []=>true
 |i::r=>
  (match ops[i]? with|some o=>o.after.all (fun e=> !Region.binds md e||(decide (e.on<ops.size)&& !(i::r).contains e.on))|none=>false)&&
  !r.contains i&&hU md ops fl br pu i [i] r&&eS md ops fl br pu r
theorem nC{fl br pu:Nat->Bool}{i k:Nat}{oi ok:Oper}(hi:ops[i]? =some oi)(hk:ops[k]? =some ok){rest:List Nat}(hr:∀e∈ok.after,Region.binds md e=true->e.on∉rest):
  ∀(pre post D:List Nat),(∀d∈D,d∈rest)->(∀j∈pre,j∈rest)->hU md ops fl br pu i D (pre++k::post)=true->
  (fl i=true/\(br k=false\/pu i=true))/\oi.apart ops ok=true/\hU md ops fl br pu i D (pre++post)=true:=by
 intro pre
 induction pre with
 |nil=>
  grind[hU]
 |cons j pre ih=>
  intro post D hD hp h;simp only[List.cons_append,hU,hi]at h |-
  cases hj:ops[j]? with
  |none=>grind
  |some oj=>
   grind
theorem pW{fl br pu:Nat->Bool}{k:Nat}{ok:Oper}(hk:ops[k]? =some ok):∀(pre post rest:List Nat),(∀e∈ok.after,Region.binds md e=true->e.on∉rest)->(∀j∈pre++k::post,j∈rest)->eS md ops fl br pu (pre++k::post)=true->
  (∀i∈pre,∃oi,ops[i]? =some oi/\(fl i=true/\(br k=false\/pu i=true))/\oi.apart ops ok=true)/\eS md ops fl br pu (pre++post)=true/\k∉pre++post:=by
 intro pre
 induction pre with
 |nil=>
  grind[eS]
 |cons i pre ih=>
  intro post rest hr hm h;simp only[List.cons_append,eS,Bool.and_eq_true,Bool.not_eq_true',<- Bool.not_eq_true,List.contains_iff_mem]at h |-
  obtain⟨⟨⟨h1,h2⟩,h3⟩,h4⟩:=h;obtain⟨a1,a2,a3⟩:=ih post rest hr (fun j hj=>hm j (by grind)) h4
  cases hi:ops[i]? with
  |none=>grind
  |some oi=>
   obtain⟨b1,b2,b3⟩:=nC hi hk hr pre post [i] (fun d hd=>by grind) (fun j hj=>hm j (by simp[hj])) h3;grind
theorem eu{o:Oper}{a:Act}{dst:Option Tmp}{u v:Value}{w:World}(hs:∀cs b,o.op≠ .select cs b)(h:∀d,dst=some d->d∉o.looksAt ops):e' P o (a.put dst u) w v↔e' P o a w v:=by
 unfold e';rw[execOp_put o hs a dst u h]
theorem j'{o:Oper}{a:Act}{dst:Option Tmp}{u:Value}{w:World}{K:Value->World->Prop}{Qp:List PanicEntry->World->Prop}(hs:∀cs b,o.op≠ .select cs b)(h:∀d,dst=some d->d∉o.looksAt ops):eD P o (a.put dst u) w K Qp↔eD P o a w K Qp:=by
 unfold eD;rw[execOp_put o hs a dst u h]
def Bv(P:Program)(ops:Array Oper)(fl br pu:Nat->Bool)(Q:Act->World->Prop)(Qp:List PanicEntry->World->Prop)(k:Nat)(o:Oper)(rest:List Nat)(a:Act)(S Wk:World->Prop):Prop:=
 (Region.wanted o (yielded ops a.tmps)=true/\fl k=true/\∃v,(∀w,pu k=true\/Wk w->e' P o a w v)/\cw P ops fl br pu Q Qp rest (a.put o.dst v) S Wk)\/
 (Region.wanted o (yielded ops a.tmps)=true/\fl k=false/\∀w,S w->eD P o a w (fun v w'=>∃S' Wk':World->Prop,S' w'/\(∀u,S' u->Wk' u)/\(br k=true\/∀u,Wk' u->Wk u)/\cw P ops fl br pu Q Qp rest (a.put o.dst v) S' Wk') Qp)\/
 (Region.wanted o (yielded ops a.tmps)=false/\cw P ops fl br pu Q Qp rest (a.put o.dst undef) S Wk)
theorem uk{fl br pu:Nat->Bool}{Q:Act->World->Prop}{Qp:List PanicEntry->World->Prop}(hsel:∀(j:Nat) (o:Oper) cs b,ops[j]? =some o->o.op≠ .select cs b){k:Nat}{o:Oper}(hk:ops[k]? =some o)(post:List Nat):
  ∀(pre:List Nat) (a:Act) (S Wk:World->Prop),(∀i∈pre,∃oi,ops[i]? =some oi/\(fl i=true/\(br k=false\/pu i=true))/\oi.apart ops o=true)->cw P ops fl br pu Q Qp (pre++k::post) a S Wk->Bv P ops fl br pu Q Qp k o (pre++post) a S Wk:=by
 intro pre
 induction pre with
 |nil=>
  intro a S Wk _ h;obtain⟨o',ho',h⟩:=h;obtain rfl:o'=o:=Option.some.inj (ho'.symm.trans hk);exact h
 |cons i pre ih=>
  intro a S Wk hp h;obtain⟨oi,hoi,⟨hfl,hbr⟩,hap⟩:=hp i (by simp);obtain⟨h1,h2,h3⟩:=Oper.apart_spec hap;have hsk:∀cs b,o.op≠ .select cs b:=fun cs b=>hsel k o cs b hk
  have hsi:∀cs b,oi.op≠ .select cs b:=fun cs b=>hsel i oi cs b hoi
  have hp':∀x∈pre,∃oi,ops[x]? =some oi/\(fl x=true/\(br k=false\/pu x=true))/\oi.apart ops o=true:=fun x hx=>hp x (List.mem_cons_of_mem _ hx)
  obtain⟨oi',hoi',h⟩:=h;obtain rfl:oi'=oi:=Option.some.inj (hoi'.symm.trans hoi);rcases h with⟨hw,_,u,hu,hn⟩|⟨_,hf,_⟩|⟨hw,hn⟩
  ·have F:=ih _ _ _ hp' hn
   rcases F with⟨kw,kf,v,hv,kn⟩|⟨kw,kf,kn⟩|⟨kw,kn⟩
   ·refine .inl ⟨by rwa[wanted_put o a oi'.dst u h1]at kw,kf,v,fun w hw'=>(eu hsk h1).1 (hv w hw'),?_⟩
    exact⟨oi',hoi,.inl ⟨by rwa[wanted_put oi' a o.dst v h3],hfl,u,fun w hw'=>(eu hsi h3).2 (hu w hw'),by rw[<- Act.put_comm a u v h2];exact kn⟩⟩
   ·refine .inr (.inl ⟨by rwa[wanted_put o a oi'.dst u h1]at kw,kf,fun w hw'=>?_⟩)
    refine ji (fun v w1 hx=>?_) ((j' hsk h1).1 (kn w hw'));obtain⟨S',Wk',s1,s2,s3,s4⟩:=hx;have s3':∀u,pu i=true\/Wk' u->pu i=true\/Wk u:=fun u hu=>by
     grind
    exact⟨S',Wk',s1,s2,s3,oi',hoi,.inl ⟨by rwa[wanted_put oi' a o.dst v h3],hfl,u,fun w hw'=>(eu hsi h3).2 (hu w (s3' w hw')),by rw[<- Act.put_comm a u v h2];exact s4⟩⟩
   ·refine .inr (.inr ⟨by rwa[wanted_put o a oi'.dst u h1]at kw,?_⟩)
    exact⟨oi',hoi,.inl ⟨by rwa[wanted_put oi' a o.dst undef h3],hfl,u,fun w hw'=>(eu hsi h3).2 (hu w hw'),by rw[<- Act.put_comm a u undef h2];exact kn⟩⟩
  ·grind
  ·have F:=ih _ _ _ hp' hn
   rcases F with⟨kw,kf,v,hv,kn⟩|⟨kw,kf,kn⟩|⟨kw,kn⟩
   ·refine .inl ⟨by rwa[wanted_put o a oi'.dst undef h1]at kw,kf,v,fun w hw'=>(eu hsk h1).1 (hv w hw'),?_⟩
    exact⟨oi',hoi,.inr (.inr ⟨by rwa[wanted_put oi' a o.dst v h3],by rw[<- Act.put_comm a undef v h2];exact kn⟩)⟩
   ·refine .inr (.inl ⟨by rwa[wanted_put o a oi'.dst undef h1]at kw,kf,fun w hw'=>?_⟩)
    refine ji (fun v w1 hx=>?_) ((j' hsk h1).1 (kn w hw'));obtain⟨S',Wk',s1,s2,s3,s4⟩:=hx;exact⟨S',Wk',s1,s2,s3,oi',hoi,.inr (.inr ⟨by rwa[wanted_put oi' a o.dst v h3],by rw[<- Act.put_comm a undef v h2];exact s4⟩)⟩
   ·refine .inr (.inr ⟨by rwa[wanted_put o a oi'.dst undef h1]at kw,?_⟩)
    exact⟨oi',hoi,.inr (.inr ⟨by rwa[wanted_put oi' a o.dst undef h3],by rw[<- Act.put_comm a undef undef h2];exact kn⟩)⟩
theorem d7(a:Act)(d:Option Tmp)(v:Value):(a.put d v).defers=a.defers:=by cases d<;>rfl
theorem gu{fl br pu:Nat->Bool}{Qp:List PanicEntry->World->Prop}{Q:Exit->Act->World->Prop}{ds:List Deferred}(hsel:∀(j:Nat) (o:Oper) cs b,ops[j]? =some o->o.op≠ .select cs b)
  (hQp:∀ch a w,a.defers=ds->Qp ch w->Q (.panic ch) a w):
  ∀(f:Nat) (rest:List Nat) (listed:Array Bool) (a:Act) (w:World) (S Wk:World->Prop),rest.length=f->listed.size=ops.size->(∀j,j<ops.size->(listed.getD j false=true↔j∉rest))->(∀j∈rest,j<ops.size)->
   eS md ops fl br pu rest=true->a.defers=ds->S w->(∀u,S u->Wk u)->cw P ops fl br pu (Q .normal) Qp rest a S Wk->wpAny P md ops Q f listed a w:=by
 intro f
 induction f with
 |zero=>
  intro rest listed a w S Wk hlen hsz hl hlt hok hd hS hSW h;obtain rfl:rest=[]:=List.length_eq_zero_iff.1 hlen;refine⟨?_,h w hS⟩;apply List.eq_nil_iff_forall_not_mem.2;intro j hj;obtain⟨h0,o,ho,_⟩:=mem_ready.1 hj;grind
 |succ f ih=>
  intro rest listed a w S Wk hlen hsz hl hlt hok hd hS hSW h;refine⟨fun h0=>?_,fun k hk=>?_⟩
  ·exfalso
   cases rest with
   |nil=>grind
   |cons i r=>
    simp only[eS,Bool.and_eq_true]at hok;have hi:=hlt i (by simp);have hoi:ops[i]? =some ops[i]:=Array.getElem?_eq_getElem hi;have hready:i∈Region.ready md ops listed:=by
     refine mem_ready.2 ⟨?_,ops[i],hoi,fun e he hb=>?_⟩
     ·grind
     ·have h1:=hok.1.1.1
      simp only[hoi,Array.all_eq_true_iff_forall_mem]at h1;grind
    grind
  ·obtain⟨hun,o,ho,hall⟩:=mem_ready.1 hk
   have hlt_k:=(Array.getElem?_eq_some_iff.1 ho).1;have hmem:k∈rest:=by
    grind
   obtain⟨pre,post,rfl⟩:=List.append_of_mem hmem;have hr:∀e∈o.after,Region.binds md e=true->e.on∉pre++k::post:=fun e he hb hm=>by
    grind
   obtain⟨a1,a2,a3⟩:=pW ho pre post _ hr (fun j hj=>hj) hok;have F:=uk hsel ho post pre a S Wk a1 h;have hlen':(pre++post).length=f:=by grind
   have hsz':(listed.setIfInBounds k true).size=ops.size:=by grind
   have hl':∀j,j<ops.size->((listed.setIfInBounds k true).getD j false=true↔j∉pre++post):=fun j hj=>by
    by_cases hjk:k=j
    ·simp_all
    ·rw[getD_set_ne false hjk,hl j hj]
     grind
   have hlt':∀j∈pre++post,j<ops.size:=fun j hj=>hlt j (by grind)
   unfold wpOp;simp only[ho];rcases F with⟨kw,kf,v,hv,kn⟩|⟨kw,kf,kn⟩|⟨kw,kn⟩
   ·rw[if_pos kw]
    left
    have h3:=hv w (.inr (hSW w hS));unfold e' at h3;unfold Oper.wp;generalize (execOp a.eval o).run P w=r at*
    cases r with
    |ok n w'=>
     cases n<;>simp only at h3<;>simp only[Oper.upon]
     case value u=>
      grind[d7]
     case skip=>
      grind[d7]
    |halt x w'=>grind
   ·rw[if_pos kw]
    left
    have h3:=kn w hS;unfold eD at h3;unfold Oper.wp;generalize (execOp a.eval o).run P w=r at*
    cases r with
    |ok n w'=>
     cases n<;>simp only at h3<;>simp only[Oper.upon]
     case value u=>
      grind[d7]
     case skip=>
      grind[d7]
     case enter f' args=>
      refine h3.mono fun e w'' he=>?_
      grind[d7]
    |halt x w'=>
     cases x<;>simp only at h3<;>simp only[Oper.upon]
     grind
   ·grind[d7]
def gv(n:Nat)(l:List Nat):Bool:=decide (l.length=n)&&l.all (fun j=>decide (j<n))&&(List.range n).all (fun j=>l.contains j)
theorem iw{id:Nat}{Q:Exit->Act->World->Prop}{a:Act}{w:World}{l:List Oper}(order fls brs pus:List Nat)(Qp:List PanicEntry->World->Prop)(hm:P.follows .mixedOrders=true)
  (hB:(Region.noSelect l.toArray&&gv l.length order&&eS .any l.toArray (fun i=>fls.contains i) (fun i=>brs.contains i) (fun i=>pus.contains i) order)=true)
  (hQp:∀ch a' w',a'.defers=a.defers->Qp ch w'->Q (.panic ch) a' w')
  (S Wk:World->Prop) (hS:S w.drew) (hSW:∀u,S u->Wk u) (h:cw P l.toArray (fun i=>fls.contains i) (fun i=>brs.contains i) (fun i=>pus.contains i) (Q .normal) Qp order a S Wk):(Code.region id l.toArray true).wp P Q a w:=by
 simp only[Bool.and_eq_true]at hB
 obtain⟨⟨hsel,hp⟩,hok⟩:=hB
 simp only[gv,Bool.and_eq_true,decide_eq_true_eq,List.all_eq_true,List.mem_range,List.contains_iff_mem]at hp
 obtain⟨⟨hp1,hp2⟩,hp3⟩:=hp
 refine wp_region_any hm ?_
 refine gu (md:=.any) (Region.noSelect_spec hsel) hQp _ order _ a w.drew S Wk (by omega) (by simp) (fun j hj=>?_) (fun j hj=>by grind) hok rfl hS hSW h
 simp_all
end
theorem kfb:(∀{α:Type} (l:List α) (i:Nat) (a:α),l.toArray.setIfInBounds i a=(l.set i a).toArray)/\(∀{α:Type} (x:α) (xs:List α) (a:α),(x::xs).set 0 a=a::xs)/\(∀{α:Type} (x:α) (xs:List α) (i:Nat) (a:α),(x::xs).set (i+1) a=x::xs.set i a)/\(∀{α:Type} (a:α) (u v:List α),(a::u)++v=a::(u++v))/\(∀{α:Type} (u:List α),[]++u=u):=
 ⟨fun l i a=>List.setIfInBounds_toArray l i a,fun _ _ _=>rfl,fun _ _ _ _=>rfl,fun _ _ _=>rfl,fun _=>rfl⟩
theorem kfa:(∀{α β:Type} (f:α->β) (a:α) (l:List α),(a::l).map f=f a::l.map f)/\(∀{α β:Type} (f:α->β),List.map f []=[])/\(∀{α:Type} (p:α->Prop) (a:α) (l:List α),(∀x∈a::l,p x)↔p a/\∀x∈l,p x)/\(∀p:Prop,(False->p)=True)/\(∀{α:Type} (a b:α),(a≠b)=¬(a=b))/\((¬False)=True)/\(∀{α:Type} (a:α),¬a∈([]:List α))/\(∀p:Prop,(True->p)=p)/\(∀{α:Type} {a b:α} {l:List α},a∈b::l↔a=b\/a∈l)/\(∀p:Prop,(p\/False)=p)/\(∀p:Prop,(p/\True)=p)/\(∀p:Prop,(True/\p)=p)/\(∀n:Nat,n<=n)/\(∀{α:Type} (l:List α) (i:Nat) (a:α),l.toArray.setIfInBounds i a=(l.set i a).toArray)/\(∀{α:Type} (x:α) (xs:List α) (a:α),(x::xs).set 0 a=a::xs)/\(∀{α:Type} (x:α) (xs:List α) (i:Nat) (a:α),(x::xs).set (i+1) a=x::xs.set i a):=
 ⟨fun _ _ _=>rfl,fun _=>rfl,fun _ _ _=>List.forall_mem_cons,false_implies,fun a b=>ne_eq a b,not_false_eq_true,fun _=>List.not_mem_nil,true_implies,List.mem_cons,or_false,and_true,true_and,Nat.le_refl,fun l i a=>List.setIfInBounds_toArray l i a,fun _ _ _=>rfl,fun _ _ _ _=>rfl⟩
class Kn (X:outParam (List Nat)) (w0:outParam World) (w:World) (L:outParam (List (Nat×Obj))):Prop where
 os:w.os=w0.os
 tape:w.tape=w0.tape
 output:w.output=w0.output
 size:w0.heap.size<=w.heap.size
 block:∀b,b<w0.heap.size->b∉X->w.heap[b]? =w0.heap[b]?
 own:∀p∈L,w0.heap.size<=p.1\/p.1∈X
 has:∀p∈L,w.heap[p.1]? =some p.2
 nd:(L.map (·.1)).Nodup
theorem Kn.refl(X:List Nat)(w:World):Kn X w w []:=⟨rfl,rfl,rfl,Nat.le_refl _,fun _ _ _=>rfl,fun _ h=>(by cases h),fun _ h=>(by cases h),List.nodup_nil⟩
theorem ft{w:World}{b:Nat}{o:Obj}(h:w.heap[b]? =some o):b<w.heap.size:=(Array.getElem?_eq_some_iff.1 h).1
theorem Kn.one{w:World}{b:Nat}{o:Obj}(h:w.heap[b]? =some o):Kn [b] w w [(b,o)]:=
 ⟨rfl,rfl,rfl,Nat.le_refl _,fun _ _ _=>rfl,fun p hp=>(by grind),fun p hp=>(by grind),by simp⟩
theorem Kn.below0{w0 w:World}{L:List (Nat×Obj)}(h:Kn [] w0 w L):Below w0.heap.size w0 w:=⟨h.os,h.tape,h.output,h.size,fun b hb=>h.block b hb (by simp)⟩
theorem Kn.lt{X:List Nat}{w0 w:World}{L:List (Nat×Obj)}(h:Kn X w0 w L){p:Nat×Obj}(hp:p∈L):p.1<w.heap.size:=ft (h.has p hp)
theorem Kn.below{X:List Nat}{w0 w w':World}{L:List (Nat×Obj)}(h:Kn X w0 w L)(k:Below w.heap.size w w'):Kn X w0 w' L:=
 ⟨k.os.trans h.os,k.tape.trans h.tape,k.output.trans h.output,Nat.le_trans h.size k.size,fun b hb hx=>(k.block b (Nat.lt_of_lt_of_le hb h.size)).trans (h.block b hb hx),h.own,
  fun p hp=>(k.block p.1 (h.lt hp)).trans (h.has p hp),h.nd⟩
theorem Kn.sub{X:List Nat}{w0 w:World}{L L':List (Nat×Obj)}(h:Kn X w0 w L)(k:L'.Sublist L):Kn X w0 w L':=
 ⟨h.os,h.tape,h.output,h.size,h.block,fun p hp=>h.own p (k.subset hp),fun p hp=>h.has p (k.subset hp),h.nd.sublist (k.map _)⟩
theorem Kn.join{X:List Nat}{w0 w w':World}{L L':List (Nat×Obj)}(h:Kn X w0 w L)(k:Kn [] w w' L'):Kn X w0 w' (L'++L):=by
 have h1:=h.below k.below0
 refine⟨h1.os,h1.tape,h1.output,h1.size,h1.block,fun p hp=>?_,fun p hp=>?_,?_⟩
 ·rcases List.mem_append.1 hp with hp|hp
  ·rcases k.own p hp with e|e
   ·exact .inl (Nat.le_trans h.size e)
   grind
  ·exact h.own p hp
 ·rcases List.mem_append.1 hp with hp|hp
  ·exact k.has p hp
  ·exact h1.has p hp
 ·rw[List.map_append,List.nodup_append]
  refine⟨k.nd,h.nd,fun a ha b hb=>?_⟩;obtain⟨p,hp,rfl⟩:=List.mem_map.1 ha;obtain⟨q,hq,rfl⟩:=List.mem_map.1 hb;have:=h.lt hq;rcases k.own p hp with e|e
  ·omega
  grind
theorem Kn.join1{X:List Nat}{w0 w w':World}{L L':List (Nat×Obj)}{b:Nat}{o:Obj}(i:Nat)(h:Kn X w0 w L)(hi:L[i]? =some (b,o))(k:Kn [b] w w' L'):Kn X w0 w' (L'++L.eraseIdx i):=by
 have hb:(b,o)∈L:=List.mem_of_getElem? hi
 have hlt:=h.lt hb
 have hne:∀p∈L.eraseIdx i,p.1≠b:=by
  intro p hp e;have hn:=h.nd;obtain⟨hil,hie⟩:=List.getElem?_eq_some_iff.1 hi;obtain⟨j,hj,hje⟩:=List.mem_iff_getElem.1 hp;have hL:∃m,m≠i/\∃hm:m<L.length,L[m]=p:=by
   grind
  obtain⟨m,hmi,hm,hme⟩:=hL;have h1:(L.map (·.1))[m]'(by grind)=(L.map (·.1))[i]'(by grind):=by grind
  exact hmi ((List.getElem_inj hn).1 h1)
 have hX:b<w0.heap.size->b∈X:=fun hlt0=>by rcases h.own _ hb with e|e;exact absurd hlt0 (by omega);exact e
 refine⟨k.os.trans h.os,k.tape.trans h.tape,k.output.trans h.output,Nat.le_trans h.size k.size,fun c hc hx=>?_,fun p hp=>?_,fun p hp=>?_,?_⟩
 ·have hcb:c∉[b]:=by simp;rintro rfl;exact hx (hX hc)
  rw[k.block c (Nat.lt_of_lt_of_le hc h.size) hcb,h.block c hc hx]
 ·rcases List.mem_append.1 hp with hp|hp
  ·rcases k.own p hp with e|e
   ·left;have:=h.size;omega
   grind
  ·exact h.own p (List.mem_of_mem_eraseIdx hp)
 ·rcases List.mem_append.1 hp with hp|hp
  ·exact k.has p hp
  ·have hpl:=List.mem_of_mem_eraseIdx hp
   rw[k.block p.1 (h.lt hpl) (by grind)];exact h.has p hpl
 ·rw[List.map_append,List.nodup_append]
  refine⟨k.nd,h.nd.sublist ((List.eraseIdx_sublist L i).map _),fun x hx y hy=>?_⟩;obtain⟨p,hp,rfl⟩:=List.mem_map.1 hx;obtain⟨q,hq,rfl⟩:=List.mem_map.1 hy;have:=h.lt (List.mem_of_mem_eraseIdx hq);rcases k.own p hp with e|e
  ·omega
  grind
class SizeIs (w:World) (n:outParam Nat):Prop where
 eq:w.heap.size=n
instance (priority:=10) sizeIs_self (w:World):SizeIs w w.heap.size:=⟨rfl⟩
instance sizeIs_alloc (w:World) (o:Obj) (n:Nat) [h:SizeIs w n]:SizeIs (w.alloc o) (n+1):=⟨by simp[h.eq]⟩
instance sizeIs_setCell (w:World) (a:Addr) (v:Value) (n:Nat) [h:SizeIs w n]:SizeIs (w.setCell a v) n:=⟨by simp[h.eq]⟩
class SetIn (b o:Nat) (v:Value) (L:List (Nat×Obj)) (L':outParam (List (Nat×Obj))):Prop where
 ex:∃i c t f,L[i]? =some (b,.cells c t f)/\L'=L.set i (b,.cells (c.setIfInBounds o v) t f)
instance (priority:=2000) setIn_head (b o:Nat) (v:Value) (c:Array Value) (t:TypeId) (f:Nat×Nat) (L:List (Nat×Obj)):SetIn b o v ((b,.cells c t f)::L) ((b,.cells (c.setIfInBounds o v) t f)::L):=
 ⟨0,c,t,f,rfl,rfl⟩
instance (priority:=1000) setIn_tail (b o:Nat) (v:Value) (p:Nat×Obj) (L L':List (Nat×Obj)) [h:SetIn b o v L L']:SetIn b o v (p::L) (p::L'):=by
 obtain⟨i,c,t,f,h1,h2⟩:=h.ex
 exact⟨i+1,c,t,f,by grind,by grind⟩
instance kn_alloc (X:List Nat) (w0 w:World) (L:List (Nat×Obj)) (o:Obj) (n:Nat) [h:Kn X w0 w L] [s:SizeIs w n]:Kn X w0 (w.alloc o) ((n,o)::L):=by
 have hn:=s.eq
 have hb:Below w.heap.size w (w.alloc o):=(Below.refl _ _).alloc (Nat.le_refl _) _
 have k:=h.below hb
 refine⟨k.os,k.tape,k.output,k.size,k.block,fun p hp=>?_,fun p hp=>?_,?_⟩
 ·rcases List.mem_cons.1 hp with rfl|hp
  ·left;have:=h.size;omega
  ·exact h.own p hp
 ·rcases List.mem_cons.1 hp with rfl|hp
  ·show(w.heap.push o)[n]? =some o
   grind
  ·exact k.has p hp
 ·rw[List.map_cons,List.nodup_cons]
  refine⟨fun hm=>?_,h.nd⟩;obtain⟨q,hq,e⟩:=List.mem_map.1 hm;have:=h.lt hq;omega
theorem ul(w:World)(b o:Nat)(v:Value)(c:Array Value)(t:TypeId)(f:Nat×Nat)(h:w.heap[b]? =some (.cells c t f)):(w.setCell ⟨b,o,none⟩ v).heap[b]? =some (.cells (c.setIfInBounds o v) t f):=by
 simp only[World.setCell,Array.getElem?_modify,if_true,h];rfl
instance kn_setCell (X:List Nat) (w0 w:World) (L L':List (Nat×Obj)) (b o:Nat) (v:Value) [h:Kn X w0 w L] [s:SetIn b o v L L']:Kn X w0 (w.setCell ⟨b,o,none⟩ v) L':=by
 obtain⟨i,c,t,f,hi,rfl⟩:=s.ex
 have hm:(b,Obj.cells c t f)∈L:=List.mem_of_getElem? hi
 have hkeys:((L.set i (b,Obj.cells (c.setIfInBounds o v) t f)).map (·.1))=L.map (·.1):=by
  rw[List.map_set];apply List.ext_getElem?;grind
 have hmem:∀p∈L.set i (b,Obj.cells (c.setIfInBounds o v) t f),p=(b,Obj.cells (c.setIfInBounds o v) t f)\/(p∈L/\p.1≠b):=by
  intro p hp;obtain⟨j,hj⟩:=List.mem_iff_getElem?.1 hp;rw[List.getElem?_set]at hj;split at hj
  ·grind
  ·rename_i hij
   right
   refine⟨List.mem_of_getElem? hj,fun e=>hij ?_⟩;obtain⟨hjl,hje⟩:=List.getElem?_eq_some_iff.1 hj;obtain⟨hil,hie⟩:=List.getElem?_eq_some_iff.1 hi;have h1:(L.map (·.1))[i]'(by grind)=(L.map (·.1))[j]'(by grind):=by grind
   exact(List.getElem_inj h.nd).1 h1
 refine⟨h.os,h.tape,h.output,by simpa using h.size,fun d hd hx=>?_,fun p hp=>?_,fun p hp=>?_,by rw[hkeys];exact h.nd⟩
 ·have hdb:d≠b:=by
   rintro rfl;rcases h.own _ hm with e|e
   ·omega
   grind
  rw[Below.heap_setCell w ⟨b,o,none⟩ v d hdb];exact h.block d hd hx
 ·rcases hmem p hp with rfl|⟨hp,_⟩
  ·exact h.own (b,Obj.cells c t f) hm
  ·exact h.own p hp
 ·rcases hmem p hp with rfl|⟨hp,hne⟩
  ·exact ul w b o v c t f (h.has _ hm)
  ·rw[Below.heap_setCell w ⟨b,o,none⟩ v p.1 hne];exact h.has p hp
theorem rk{X:List Nat}{w0 w w':World}{L:List (Nat×Obj)}(h:Kn X w0 w L)(e1:w'.heap=w.heap)(e2:w'.os=w.os)(e3:w'.tape=w.tape)(e4:w'.output=w.output):Kn X w0 w' L:=
 ⟨e2.trans h.os,e3.trans h.tape,e4.trans h.output,by rw[e1];exact h.size,fun b hb hx=>by rw[e1];exact h.block b hb hx,h.own,fun p hp=>by rw[e1];exact h.has p hp,h.nd⟩
instance kn_drewN (X:List Nat) (w0 w:World) (L:List (Nat×Obj)) (n:Nat) [h:Kn X w0 w L]:Kn X w0 (w.drewN n) L:=rk h rfl rfl rfl rfl
instance kn_drew (X:List Nat) (w0 w:World) (L:List (Nat×Obj)) [h:Kn X w0 w L]:Kn X w0 w.drew L:=rk h rfl rfl rfl rfl
def bX(w:World):List (Nat×Obj)->Prop
 | []=>True
 | (b,.cells c _ (0,0))::r=>(∀o,w.cell? ⟨b,o,none⟩=c[o]?)/\(∀o,w.frozen? ⟨b,o,none⟩=false)/\b<w.heap.size/\bX w r
 | (b,_)::r=>b<w.heap.size/\bX w r
theorem ml{w:World}:∀{L:List (Nat×Obj)},(∀p∈L,w.heap[p.1]? =some p.2)->bX w L:=by
 intro L
 induction L with
 |nil=>exact fun _=>trivial
 |cons p L ih=>
  intro h;have hp:=h p (by simp);have hr:=ih (fun q hq=>h q (List.mem_cons_of_mem _ hq));obtain⟨b,ob⟩:=p;unfold bX;split
  ·grind
  ·rename_i heq;cases heq;exact⟨fun o=>by simp[World.cell?,hp],fun o=>by simp[World.frozen?,hp],ft hp,hr⟩
  grind
def dP:List Nat->Prop
 | []=>True
 |b::r=>(∀c∈r,b≠c/\c≠b)/\dP r
theorem ly:∀{l:List Nat},l.Nodup->dP l:=by
 intro l
 induction l with
 |nil=>exact fun _=>trivial
 |cons b r ih=>
  intro h;rw[List.nodup_cons]at h;exact⟨fun c hc=>⟨fun e=>h.1 (e▸hc),fun e=>h.1 (e▸hc)⟩,ih h.2⟩
theorem Kn.facts{X:List Nat}{w0 w:World}{L:List (Nat×Obj)}(h:Kn X w0 w L):bX w L/\dP (L.map (·.1))/\w0.heap.size<=w.heap.size/\(∀b o,b<w0.heap.size->b∉X->w.cell? ⟨b,o,none⟩=w0.cell? ⟨b,o,none⟩)/\(∀b o,b<w0.heap.size->b∉X->w.frozen? ⟨b,o,none⟩=w0.frozen? ⟨b,o,none⟩):=
 ⟨ml h.has,ly h.nd,h.size,fun b o hb hx=>World.cell?_of_block (w:=w0) (h.block b hb hx),fun b o hb hx=>World.frozen?_of_block (w:=w0) (h.block b hb hx)⟩
theorem aj{P:Program}{f:FuncId}{args:Array Value}{Q:Ending->World->Prop}{X:List Nat}{w0 Xw:World}{L:List (Nat×Obj)}[h:Kn X w0 Xw L]
  (k:∀W,Kn X w0 W L->Calls P f args W Q):Calls P f args Xw Q:=k Xw h
theorem jj{P:Program}{c:Code}{a:Act}{Q:Exit->Act->World->Prop}{X:List Nat}{w0 Xw:World}{L:List (Nat×Obj)}[h:Kn X w0 Xw L]
  (k:∀W,Kn X w0 W L->c.wp P Q a W):c.wp P Q a Xw:=k Xw h
theorem dQ{P:Program}{ops:Array Oper}{l:List Oper}{a:Act}{Q:Exit->Act->World->Prop}{X:List Nat}{w0 Xw:World}{L:List (Nat×Obj)}[h:Kn X w0 Xw L]
  (k:∀W,Kn X w0 W L->wpList P ops Q l a W):wpList P ops Q l a Xw:=k Xw h
theorem nD{P:Program}{ops:Array Oper}{l:List Oper}{a:Act}{Q:Exit->Act->World->Prop}{X:List Nat}{w0 w:World}{p:Addr}{v:Value}{L:List (Nat×Obj)}[h:Kn X w0 (w.setCell p v) L]
  (k:∀W,Kn X w0 W L->wpList P ops Q l a W):wpList P ops Q l a (w.setCell p v):=k _ h
theorem fa{P:Program}{fn:Func}{R:Ending->World->Prop}{x:Exit}{a:Act}{X:List Nat}{w0 Xw:World}{L:List (Nat×Obj)}[h:Kn X w0 Xw L]
  (k:∀W,Kn X w0 W L->bodyPost P fn R x a W):bodyPost P fn R x a Xw:=k Xw h
theorem aV{X:List Nat}{w0 w:World}{L:List (Nat×Obj)}[h:Kn X w0 w L]:Kn X w0 w L:=h
section
variable {P:Program} {ops:Array Oper} {fl br pu:Nat->Bool} {Q:Act->World->Prop} {Qp:List PanicEntry->World->Prop} {X:List Nat} {w0:World} {L Lw:List (Nat×Obj)} {a:Act} {rest:List Nat} {i:Nat} {o:Oper}
def cwk(P:Program)(ops:Array Oper)(fl br pu:Nat->Bool)(Q:Act->World->Prop)(Qp:List PanicEntry->World->Prop)(X:List Nat)(w0:World)(l:List Nat)(a:Act)(L Lw:List (Nat×Obj)):Prop:=
 cw P ops fl br pu Q Qp l a (fun u=>Kn X w0 u L) (fun u=>Kn X w0 u Lw)
theorem iS(X:List Nat)(w0:World)(L:List (Nat×Obj))(h:∃w,Kn X w0 w L):∃(ι:Type) (F:ι->World),Nonempty ι/\(∀w,Kn X w0 w L->∃n,w=F n)/\∀n,Kn X w0 (F n) L:=
 ⟨{w:World // Kn X w0 w L},Subtype.val,h.elim fun w hw=>⟨⟨w,hw⟩⟩,fun w hw=>⟨⟨w,hw⟩,rfl⟩,fun n=>n.2⟩
theorem Bu{id:Nat}{Q:Exit->Act->World->Prop}{w:World}{l:List Oper}[h:Kn X w0 w L](order fls brs pus:List Nat)(hm:P.follows .mixedOrders=true)
  (hB:(Region.noSelect l.toArray&&gv l.length order&&eS .any l.toArray (fun i=>fls.contains i) (fun i=>brs.contains i) (fun i=>pus.contains i) order)=true) (hs:Lw.Sublist L)
  (k:∀(ι:Type) (F:ι->World) [Nonempty ι],(∀w,Kn X w0 w Lw->∃n,w=F n)->(∀n,Kn X w0 (F n) Lw)->cwk P l.toArray (fun i=>fls.contains i) (fun i=>brs.contains i) (fun i=>pus.contains i) (Q .normal) (fun _ _=>False) X w0 order a L Lw):(Code.region id l.toArray true).wp P Q a w:=by
 obtain⟨ι,F,hne,h1,h2⟩:=iS X w0 Lw ⟨w,h.sub hs⟩
 exact iw order fls brs pus (fun _ _=>False) hm hB (fun _ _ _ _ h=>h.elim) _ _ (kn_drew X w0 w L) (fun u hu=>hu.sub hs) (k ι F h1 h2)
theorem af(n:Nat){ops:Array Oper}{d:Bool}{Q:Exit->Act->World->Prop}{w:World}(h:(Code.region n ops d).wp P Q a w):(Code.region n ops d).wp P Q a w:=h
def nth:List Oper->Nat->Option Oper
 | [],_=>none
 |o::_,0=>some o
 |_::r,n+1=>nth r n
theorem gI:∀{l:List Oper} {i:Nat} {o:Oper},nth l i=some o->l.toArray[i]? =some o:=by
 intro l
 induction l with
 |nil=>grind[nth]
 |cons x l ih=>
  intro i o h
  cases i with
  |zero=>grind[nth]
  |succ i=>grind[nth]
theorem ix(h:∀w,Kn X w0 w L->Q a w):cwk P ops fl br pu Q Qp X w0 [] a L Lw:=h
theorem um{l:List Oper}(ho:nth l i=some o)(hw:Region.wanted o (yielded l.toArray a.tmps)=false)(h:cwk P l.toArray fl br pu Q Qp X w0 rest (a.put o.dst undef) L Lw):cwk P l.toArray fl br pu Q Qp X w0 (i::rest) a L Lw:=
 ⟨o,gI ho,.inr (.inr ⟨hw,h⟩)⟩
def ee:Op->Bool
 |.nilCheck _|.move _|.assign _|.pick .. |.build .. |.load .. |.binOp .. |.unOp .. |.convert .. |.slice .. |.fieldAddr .. |.field .. |.indexAddr .. |.index .. |.extract .. |.lookup .. |.makeInterface .. =>true
 |.call {callee:=.builtin .len,..}|.call {callee:=.builtin .cap,..}|.call {callee:=.builtin .max,..}|.call {callee:=.builtin .min,..}=>true
 |_=>false
theorem jH{s:Sem Value}{w:World}:(∃v w',(Sem.run P (do pure (Next.value (<- s)):Sem Next) w)=.ok (.value v) w')\/∃h w',(Sem.run P (do pure (Next.value (<- s)):Sem Next) w)=.halt h w':=by
 rw[Sem.run_bind]
 cases s.run P w with
 |ok v w'=>simp_all
 |halt h w'=>simp_all
theorem rl(ρ:Operand->Value)(x:Operand)(dst:Option Tmp)(ty:TypeId)(pos:String)(after:Array Edge)(guard:Option (Nat×Bool))(w:World):
  (∃v w',(execOp ρ ⟨dst,.nilCheck x,ty,pos,after,guard⟩).run P w=.ok (.value v) w')\/∃h w',(execOp ρ ⟨dst,.nilCheck x,ty,pos,after,guard⟩).run P w=.halt h w':=by
 simp only[execOp]
 split
 ·exact .inr ⟨_,_,rfl⟩
 ·exact .inr ⟨_,_,rfl⟩
 ·exact .inr ⟨_,_,rfl⟩
 ·split
  ·exact .inr ⟨_,_,rfl⟩
  ·rw[Sem.run_bind]
   cases(program).run P w with
   |halt x w'=>simp_all
   |ok p w'=>
    simp only[Result.andThen_ok];rw[Sem.run_bind];generalize (nilAhead _ _ _ _).run P w'=r
    cases r with
    |halt x w'=>simp_all
    |ok b w'=>
     simp only[Result.andThen_ok];split
     ·simp_all
     simp_all
  simp_all
 simp_all
theorem jk(ρ:Operand->Value)(o:Oper)(h:ee o.op=true)(w:World):(∃v w',(execOp ρ o).run P w=.ok (.value v) w')\/∃x w',(execOp ρ o).run P w=.halt x w':=by
 obtain⟨dst,op,ty,pos,after,guard⟩:=o
 cases op
 case move x=>exact .inl ⟨ρ x,w,rfl⟩
 case assign x=>exact .inl ⟨ρ x,w,rfl⟩
 case pick c x y=>
  simp only[execOp];rw[Sem.run_bind]
  cases(asBool (ρ c)).run P w with
  |ok b w'=>simp_all
  |halt x w'=>simp_all
 case nilCheck x=>simp_all[rl]
 case call c=>
  obtain⟨callee,args,argTypes⟩:=c
  cases callee
  case builtin b=>
   simp only[execOp,resolve,pure_bind,invoke]
   cases b<;>simp only[ee,Bool.false_eq_true]at h<;>simp only[builtin]<;>exact jH
  all_goals simp only[ee,Bool.false_eq_true]at h
 all_goals first|(grind[ee])|exact jH
theorem sE{ι:Type}{F:ι->World}{l:List Oper}(ho:nth l i=some o)(hp:ee o.op=true)(hw:Region.wanted o (yielded l.toArray a.tmps)=true)(hf:fl i=true)(hu:pu i=false)(hC:∀w,Kn X w0 w Lw->∃n,w=F n)
  (h:∀K:Act->Prop,(∀a,cwk P l.toArray fl br pu Q Qp X w0 rest a L Lw->K a)->o.quiet P a (fun w'=>∃n,w'=F n) K):cwk P l.toArray fl br pu Q Qp X w0 (i::rest) a L Lw:=by
 obtain⟨v,h1,h2⟩:=h _ (fun _ h=>h)
 refine⟨o,gI ho,.inl ⟨hw,hf,v,fun w hk=>?_,h2⟩⟩
 have hk:Kn X w0 w Lw:=hk.elim (fun e=>by grind) id
 have h3:=h1 w (hC w hk)
 unfold Oper.quietAt at h3
 unfold e'
 rcases jk (P:=P) a.eval o hp w with⟨u,w',e⟩|⟨x,w',e⟩
 ·rw[e]at h3 |-;exact h3
 ·rw[e]at h3;exact h3.elim
theorem un{l:List Oper}(ho:nth l i=some o)(hp:ee o.op=true)(hw:Region.wanted o (yielded l.toArray a.tmps)=true)(hf:fl i=true)
  (h:∀K:Act->Prop,(∀a,cwk P l.toArray fl br pu Q Qp X w0 rest a L Lw->K a)->o.quiet P a (fun _=>True) K):cwk P l.toArray fl br pu Q Qp X w0 (i::rest) a L Lw:=by
 obtain⟨v,h1,h2⟩:=h _ (fun _ h=>h)
 refine⟨o,gI ho,.inl ⟨hw,hf,v,fun w _=>?_,h2⟩⟩
 have h3:=h1 w trivial
 unfold Oper.quietAt at h3
 unfold e'
 rcases jk (P:=P) a.eval o hp w with⟨u,w',e⟩|⟨x,w',e⟩
 ·rw[e]at h3 |-;exact h3
 ·rw[e]at h3;exact h3.elim
def iT(P:Program)(ops:Array Oper)(fl br pu:Nat->Bool)(Q:Act->World->Prop)(Qp:List PanicEntry->World->Prop)(X:List Nat)(w0:World)(i:Nat)(rest:List Nat)(a:Act)(Lw:List (Nat×Obj))(w':World):Prop:=
 ∃L' Lw',Kn X w0 w' L'/\Lw'.Sublist L'/\(br i=true\/Lw.Sublist Lw')/\cwk P ops fl br pu Q Qp X w0 rest a L' Lw'
theorem nE{f:FuncId}{args:Array Value}{l:List Oper}(ho:nth l i=some o)(hw:Region.wanted o (yielded l.toArray a.tmps)=true)(hf:fl i=false)(hx:∀w,(execOp a.eval o).run P w=.ok (.enter f args) w)
  (h:∀W,Kn X w0 W L->Calls P f args W fun e w'=>∃v,e=.returned v/\iT P l.toArray fl br pu Q Qp X w0 i rest (a.put o.dst v) Lw w'):cwk P l.toArray fl br pu Q Qp X w0 (i::rest) a L Lw:=by
 refine⟨o,gI ho,.inr (.inl ⟨hw,hf,fun w hk=>?_⟩)⟩
 unfold eD
 rw[hx w]
 refine(h w hk).mono fun e w' hh=>?_
 obtain⟨v,rfl,L',Lw',k1,k2,k3,k4⟩:=hh
 exact⟨_,_,k1,fun u hu=>hu.sub k2,k3.imp id fun k3 u hu=>hu.sub k3,k4⟩
def fH:Op->Bool
 |.nilCheck _|.move _|.assign _|.pick .. |.build .. |.load .. |.binOp .. |.unOp .. |.convert .. |.slice .. |.fieldAddr .. |.field .. |.indexAddr .. |.index .. |.extract .. |.lookup .. |.makeInterface .. =>true
 |.alloc _|.box .. |.buildSlice .. |.store .. |.makeFunc .. |.makeMap .. |.makeSlice .. |.mapUpdate .. |.insert .. |.mapEntry .. |.entryStore .. |.range .. |.next .. |.entry _|.typeAssert .. =>true
 |.call {callee:=.builtin .len,..}|.call {callee:=.builtin .cap,..}|.call {callee:=.builtin .max,..}|.call {callee:=.builtin .min,..}=>true
 |.call {callee:=.builtin .append,..}|.call {callee:=.builtin .copy,..}|.call {callee:=.builtin .delete,..}|.call {callee:=.builtin .clear,..}=>true
 |_=>false
theorem uo{s:Sem Unit}{w:World}:(∃w',(Sem.run P (do s;pure .skip:Sem Next) w)=.ok .skip w')\/∃h w',(Sem.run P (do s;pure .skip:Sem Next) w)=.halt h w':=by
 rw[Sem.run_bind]
 cases s.run P w with
 |ok v w'=>simp_all
 |halt h w'=>simp_all
theorem sF(ρ:Operand->Value)(o:Oper)(h:fH o.op=true)(w:World):(∃v w',(execOp ρ o).run P w=.ok (.value v) w')\/(∃w',(execOp ρ o).run P w=.ok .skip w')\/∃x w',(execOp ρ o).run P w=.halt x w':=by
 obtain⟨dst,op,ty,pos,after,guard⟩:=o
 cases op
 case move x=>exact .inl ⟨ρ x,w,rfl⟩
 case assign x=>exact .inl ⟨ρ x,w,rfl⟩
 case pick c x y=>
  simp only[execOp];rw[Sem.run_bind]
  cases(asBool (ρ c)).run P w with
  |ok b w'=>simp_all
  |halt x w'=>simp_all
 case nilCheck x=>exact(rl ρ x dst ty pos after guard w).imp id .inr
 case call c=>
  obtain⟨callee,args,argTypes⟩:=c
  cases callee
  case builtin b=>
   simp only[execOp,resolve,pure_bind,invoke]
   cases b<;>simp only[fH,Bool.false_eq_true]at h<;>simp only[builtin]<;>exact(jH).imp id .inr
  all_goals simp only[fH,Bool.false_eq_true]at h
 all_goals first|(grind[fH])|exact(jH).imp id .inr|exact .inr uo
def jl(P:Program)(ops:Array Oper)(fl br pu:Nat->Bool)(Q:Act->World->Prop)(Qp:List PanicEntry->World->Prop)(X:List Nat)(w0:World)(i:Nat)(rest:List Nat)(Lw:List (Nat×Obj)):Exit->Act->World->Prop
 |.normal,a,w=>iT P ops fl br pu Q Qp X w0 i rest a Lw w
 |.panic ch,_,w=>Qp ch w
 |_,_,_=>False
theorem nF{l:List Oper}(ho:nth l i=some o)(hp:fH o.op=true)(hw:Region.wanted o (yielded l.toArray a.tmps)=true)(hf:fl i=false)
  (h:∀W,Kn X w0 W L->wpList P l.toArray (jl P l.toArray fl br pu Q Qp X w0 i rest Lw) [o] a W):cwk P l.toArray fl br pu Q Qp X w0 (i::rest) a L Lw:=by
 refine⟨o,gI ho,.inr (.inl ⟨hw,hf,fun w hk=>?_⟩)⟩
 have h3:=h w hk
 unfold wpList at h3
 rw[if_pos hw]at h3
 have h4:o.wp P a w (wpList P l.toArray (jl P l.toArray fl br pu Q Qp X w0 i rest Lw) []) (jl P l.toArray fl br pu Q Qp X w0 i rest Lw):=by
  rcases h3 with h3|⟨_,_,_,hh⟩
  ·exact h3
  ·exact hh.elim
 unfold eD
 unfold Oper.wp at h4
 rcases sF (P:=P) a.eval o hp w with⟨v,w',e⟩|⟨w',e⟩|⟨x,w',e⟩
 ·rw[e]at h4 |-
  obtain⟨L',Lw',k1,k2,k3,k4⟩:iT P l.toArray fl br pu Q Qp X w0 i rest (a.put o.dst v) Lw w':=h4;exact⟨_,_,k1,fun u hu=>hu.sub k2,k3.imp id fun k3 u hu=>hu.sub k3,k4⟩
 ·rw[e]at h4 |-
  obtain⟨L',Lw',k1,k2,k3,k4⟩:iT P l.toArray fl br pu Q Qp X w0 i rest (a.put o.dst undef) Lw w':=h4;exact⟨_,_,k1,fun u hu=>hu.sub k2,k3.imp id fun k3 u hu=>hu.sub k3,k4⟩
 ·rw[e]at h4 |-
  cases x<;>simp only[Oper.upon]at h4 |- <;>(exact h4)
theorem ai{w:World}(h:iT P ops fl br pu Q Qp X w0 i rest a Lw w):jl P ops fl br pu Q Qp X w0 i rest Lw .normal a w:=h
theorem a_(w':World){L':List (Nat×Obj)}[k1:Kn X w0 w' L'](k2:Lw.Sublist L')(k4:cwk P ops fl br pu Q Qp X w0 rest a L' Lw):iT P ops fl br pu Q Qp X w0 i rest a Lw w':=
 ⟨L',Lw,k1,k2,.inr (List.Sublist.refl _),k4⟩
theorem bO(w':World){L':List (Nat×Obj)}[k1:Kn X w0 w' L'](hb:br i=true)(k4:∀(ι:Type) (F:ι->World) [Nonempty ι],(∀w,Kn X w0 w L'->∃n,w=F n)->(∀n,Kn X w0 (F n) L')->cwk P ops fl br pu Q Qp X w0 rest a L' L'):iT P ops fl br pu Q Qp X w0 i rest a Lw w':=by
 obtain⟨ι,F,hne,h1,h2⟩:=iS X w0 L' ⟨w',k1⟩
 exact⟨L',L',k1,List.Sublist.refl _,.inl hb,k4 ι F h1 h2⟩
theorem bM{v:Value}{w':World}{d:Option Tmp}(h:iT P ops fl br pu Q Qp X w0 i rest (a.put d v) Lw w'):∃u,Ending.returned v=.returned u/\iT P ops fl br pu Q Qp X w0 i rest (a.put d u) Lw w':=⟨v,rfl,h⟩
end
section
variable {P:Program} {ops:Array Oper} {fl br pu:Nat->Bool} {X:List Nat} {w0:World} {L Lw:List (Nat×Obj)} {a:Act} {rest:List Nat} {i:Nat} {o:Oper}
theorem b'{id:Nat}{Q:Exit->Act->World->Prop}{w:World}{l:List Oper}[h:Kn X w0 w L](order fls brs pus:List Nat)(hm:P.follows .mixedOrders=true)
  (hB:(Region.noSelect l.toArray&&gv l.length order&&eS .any l.toArray (fun i=>fls.contains i) (fun i=>brs.contains i) (fun i=>pus.contains i) order)=true) (hs:Lw.Sublist L)
  (k:∀(Qp:List PanicEntry->World->Prop),(∀ch W,(∀a':Act,a'.defers=a.defers->Q (.panic ch) a' W)->Qp ch W)->∀(ι:Type) (F:ι->World) [Nonempty ι],(∀w,Kn X w0 w Lw->∃n,w=F n)->(∀n,Kn X w0 (F n) Lw)->cwk P l.toArray (fun i=>fls.contains i) (fun i=>brs.contains i) (fun i=>pus.contains i) (Q .normal) Qp X w0 order a L Lw):(Code.region id l.toArray true).wp P Q a w:=by
 obtain⟨ι,F,hne,h1,h2⟩:=iS X w0 Lw ⟨w,h.sub hs⟩
 exact iw order fls brs pus (fun ch W=>∀a':Act,a'.defers=a.defers->Q (.panic ch) a' W) hm hB (fun ch a' w' hd h=>h a' hd) _ _ (kn_drew X w0 w L) (fun u hu=>hu.sub hs) (k _ (fun _ _ h=>h) ι F h1 h2)
theorem lG{f:FuncId}{args:Array Value}{l:List Oper}{Q:Act->World->Prop}{Qp:List PanicEntry->World->Prop}(ho:nth l i=some o)(hw:Region.wanted o (yielded l.toArray a.tmps)=true)(hf:fl i=false)(hx:∀w,(execOp a.eval o).run P w=.ok (.enter f args) w)
  (h:∀W,Kn X w0 W L->Calls P f args W fun e w'=>∃ch,e=.panicked ch/\Qp ch w'):cwk P l.toArray fl br pu Q Qp X w0 (i::rest) a L Lw:=by
 refine⟨o,gI ho,.inr (.inl ⟨hw,hf,fun w hk=>?_⟩)⟩
 unfold eD
 rw[hx w]
 refine(h w hk).mono fun e w' hh=>?_
 obtain⟨ch,rfl,hq⟩:=hh
 exact hq
end
theorem zD:((∀{α β:Type} (f:α->β) (a:α) (l:List α),(a::l).map f=f a::l.map f)/\(∀{α β:Type} (f:α->β),List.map f []=[])/\(∀{α:Type} (p:α->Prop) (a:α) (l:List α),(∀x∈a::l,p x)↔p a/\∀x∈l,p x)/\(∀p:Prop,(False->p)=True)/\(∀{α:Type} (a b:α),(a≠b)=¬(a=b))/\((¬False)=True)/\(∀{α:Type} (a:α),¬a∈([]:List α))/\(∀p:Prop,(True->p)=p)/\(∀{α:Type} {a b:α} {l:List α},a∈b::l↔a=b\/a∈l)/\(∀p:Prop,(p\/False)=p)/\(∀p:Prop,(p/\True)=p)/\(∀p:Prop,(True/\p)=p)/\(∀n:Nat,n<=n)/\(∀{α:Type} (l:List α) (i:Nat) (a:α),l.toArray.setIfInBounds i a=(l.set i a).toArray)/\(∀{α:Type} (x:α) (xs:List α) (a:α),(x::xs).set 0 a=a::xs)/\(∀{α:Type} (x:α) (xs:List α) (i:Nat) (a:α),(x::xs).set (i+1) a=x::xs.set i a))/\(∀(α:Type),(α->True)=True)/\(∀p:Prop,(p->True)=True)/\(∀{p:Prop} (α:Type) [Nonempty α],(α->p)↔p):=
  ⟨kfa,fun α=>implies_true α,fun p=>implies_true p,fun α _=>forall_const α⟩
theorem yh{p:Prop}(h:p):Hid p:=Lib.hid h
def Fz(X:List Nat)(w0 w:World)(L:List (Nat×Obj)):Prop:=bX w L/\dP (L.map (·.1))/\w0.heap.size<=w.heap.size/\(∀b o,b<w0.heap.size->b∉X->w.cell? ⟨b,o,none⟩=w0.cell? ⟨b,o,none⟩)/\(∀b o,b<w0.heap.size->b∉X->w.frozen? ⟨b,o,none⟩=w0.frozen? ⟨b,o,none⟩)
theorem Kn.fx{X:List Nat}{w0 w:World}{L:List (Nat×Obj)}{Q:Prop}(h:Kn X w0 w L)(e:Fz X w0 w L=Q:=by(simp only[Fz];(try simp only[bX,dP,zD]);rfl)):Q:=e▸h.facts
theorem zC{P:Program}{f:FuncId}{args:Array Value}{Q:Ending->World->Prop}{X:List Nat}{w0 V:World}{L:List (Nat×Obj)}{E:Ending}{R:World->Prop}[h:Kn X w0 V L](c:∀W,Kn X w0 W L->Calls P f args W fun e U=>e=E/\Below W.heap.size W U)(k:∀W,Kn X w0 W L->R W->Q E W)(e:∀W,Fz X w0 W L=R W:=by(intro W;simp only[Fz];(try simp only[bX,dP,zD]);rfl)):Calls P f args V Q:=(c V h).mono fun _ U ⟨he,hb⟩=>he▸k U (h.below hb) (e U▸(h.below hb).facts)
theorem zG{P:Program}{f:FuncId}{args:Array Value}{Q:Ending->World->Prop}{X:List Nat}{w0 V:World}{L:List (Nat×Obj)}{R:World->Prop}[h:Kn X w0 V L](k:∀W,Kn X w0 W L->R W->Calls P f args W Q)(e:∀W,Fz X w0 W L=R W:=by(intro W;simp only[Fz];(try simp only[bX,dP,zD]);rfl)):Calls P f args V Q:=k V h (e V▸h.facts)
theorem zL{P:Program}{ops:Array Oper}{l:List Oper}{a:Act}{Q:Exit->Act->World->Prop}{X:List Nat}{w0 V:World}{L:List (Nat×Obj)}{R:World->Prop}[h:Kn X w0 V L](k:∀W,Kn X w0 W L->R W->wpList P ops Q l a W)(e:∀W,Fz X w0 W L=R W:=by(intro W;simp only[Fz];(try simp only[bX,dP,zD]);rfl)):wpList P ops Q l a V:=k V h (e V▸h.facts)
theorem zS{P:Program}{ops:Array Oper}{l:List Oper}{a:Act}{Q:Exit->Act->World->Prop}{X:List Nat}{w0 w:World}{p:Addr}{v:Value}{L M:List (Nat×Obj)}{R:World->Prop}[h:Kn X w0 (w.setCell p v) L](k:∀W,Kn X w0 W M->R W->wpList P ops Q l a W)(m:L=M:=by((try simp only[kfb]);rfl))(e:∀W,Fz X w0 W M=R W:=by(intro W;simp only[Fz];(try simp only[bX,dP,zD]);rfl)):wpList P ops Q l a (w.setCell p v):=k _ (m▸h) (e _▸(m▸h:Kn X w0 _ M).facts)
section
variable {P:Program} {ops:Array Oper} {fl br pu:Nat->Bool} {Q:Act->World->Prop} {Qp:List PanicEntry->World->Prop} {X:List Nat} {w0:World} {L Lw:List (Nat×Obj)} {a:Act} {rest:List Nat} {i:Nat} {o:Oper}
theorem cS{l:List Oper}(h:cwk P l.toArray fl br pu Q Qp X w0 rest (a.put o.dst undef) L Lw)(ho:nth l i=some o:=by rfl)(hw:Region.wanted o (yielded l.toArray a.tmps)=false:=by rfl):cwk P l.toArray fl br pu Q Qp X w0 (i::rest) a L Lw:=um ho hw h
theorem cF{ι:Type}{F:ι->World}{l:List Oper}(hC:∀w,Kn X w0 w Lw->∃n,w=F n)(h:∀K:Act->Prop,(∀a,cwk P l.toArray fl br pu Q Qp X w0 rest a L Lw->K a)->o.quiet P a (fun w'=>∃n,w'=F n) K)(ho:nth l i=some o:=by rfl)(hp:ee o.op=true:=by rfl)(hw:Region.wanted o (yielded l.toArray a.tmps)=true:=by rfl)(hf:fl i=true:=by rfl)(hu:pu i=false:=by rfl):cwk P l.toArray fl br pu Q Qp X w0 (i::rest) a L Lw:=sE ho hp hw hf hu hC h
theorem cP{l:List Oper}(h:∀K:Act->Prop,(∀a,cwk P l.toArray fl br pu Q Qp X w0 rest a L Lw->K a)->o.quiet P a (fun _=>True) K)(ho:nth l i=some o:=by rfl)(hp:ee o.op=true:=by rfl)(hw:Region.wanted o (yielded l.toArray a.tmps)=true:=by rfl)(hf:fl i=true:=by rfl):cwk P l.toArray fl br pu Q Qp X w0 (i::rest) a L Lw:=un ho hp hw hf h
theorem cC{f:FuncId}{args:Array Value}{l:List Oper}(h:∀W,Kn X w0 W L->Calls P f args W fun e w'=>∃v,e=.returned v/\iT P l.toArray fl br pu Q Qp X w0 i rest (a.put o.dst v) Lw w')(ho:nth l i=some o:=by rfl)(hw:Region.wanted o (yielded l.toArray a.tmps)=true:=by rfl)(hf:fl i=false:=by rfl)(hx:∀w,(execOp a.eval o).run P w=.ok (.enter f args) w:=by exact fun _=>rfl):cwk P l.toArray fl br pu Q Qp X w0 (i::rest) a L Lw:=nE ho hw hf hx h
theorem cN{l:List Oper}(h:∀W,Kn X w0 W L->wpList P l.toArray (jl P l.toArray fl br pu Q Qp X w0 i rest Lw) [o] a W)(ho:nth l i=some o:=by rfl)(hp:fH o.op=true:=by rfl)(hw:Region.wanted o (yielded l.toArray a.tmps)=true:=by rfl)(hf:fl i=false:=by rfl):cwk P l.toArray fl br pu Q Qp X w0 (i::rest) a L Lw:=nF ho hp hw hf h
theorem zO{v:Value}{w':World}{d:Option Tmp}{M:List (Nat×Obj)}[Kn X w0 w' M](k:cwk P ops fl br pu Q Qp X w0 rest (a.put d v) M Lw)(s:Lw.Sublist M:=by(repeat' (first|(with_reducible exact List.Sublist.refl _)|(with_reducible apply List.Sublist.cons)))):∃u,Ending.returned v=.returned u/\iT P ops fl br pu Q Qp X w0 i rest (a.put d u) Lw w':=bM (a_ _ s k)
theorem zB{v:Value}{w':World}{d:Option Tmp}{M:List (Nat×Obj)}{R:World->Prop}[Kn X w0 w' M](k:∀(ι:Type) (F:ι->World) [Nonempty ι],(∀w,Kn X w0 w M->∃n,w=F n)->(∀n,R (F n))->cwk P ops fl br pu Q Qp X w0 rest (a.put d v) M M)(hb:br i=true:=by rfl)(e:∀W,Fz X w0 W M=R W:=by(intro W;simp only[Fz];(try simp only[bX,dP,zD]);rfl)):∃u,Ending.returned v=.returned u/\iT P ops fl br pu Q Qp X w0 i rest (a.put d u) Lw w':=bM (bO _ hb fun ι F _ hC hF=>k ι F hC fun n=>e _▸(hF n).facts)
theorem zO2{w:World}{M:List (Nat×Obj)}[Kn X w0 w M](k:cwk P ops fl br pu Q Qp X w0 rest a M Lw)(s:Lw.Sublist M:=by(repeat' (first|(with_reducible exact List.Sublist.refl _)|(with_reducible apply List.Sublist.cons)))):jl P ops fl br pu Q Qp X w0 i rest Lw .normal a w:=a_ _ s k
theorem zB2{w:World}{M:List (Nat×Obj)}{R:World->Prop}[Kn X w0 w M](k:∀(ι:Type) (F:ι->World) [Nonempty ι],(∀w,Kn X w0 w M->∃n,w=F n)->(∀n,R (F n))->cwk P ops fl br pu Q Qp X w0 rest a M M)(hb:br i=true:=by rfl)(e:∀W,Fz X w0 W M=R W:=by(intro W;simp only[Fz];(try simp only[bX,dP,zD]);rfl)):jl P ops fl br pu Q Qp X w0 i rest Lw .normal a w:=bO _ hb fun ι F _ hC hF=>k ι F hC fun n=>e _▸(hF n).facts
end
theorem zA:(∀{α β:Type} (f:α->β) (l:List α),l.toArray.map f=(l.map f).toArray)/\(∀{α β:Type} (f:α->β) (a:α) (l:List α),(a::l).map f=f a::l.map f)/\(∀{α β:Type} (f:α->β),List.map f []=[])/\(∀{α:Type} (l:Array α),#[]++l=l)/\(∀{α:Type} (l:Array α),l++ #[]=l)/\(∀{α:Type} (xs:Array α) (i:Nat) (d:α),xs.getD i d=xs[i]?.getD d)/\(∀{α:Type} (l:List α) (i:Nat),l.toArray[i]? =l[i]?)/\(∀{α:Type} (a:α) (l:List α),(a::l)[0]? =some a)/\(∀{α:Type} (a:α) (l:List α) (i:Nat),(a::l)[i+1]? =l[i]?)/\(∀{α:Type} (a b:α),(some a).getD b=a):=
  ⟨fun _ _=>by simp,fun _ _ _=>rfl,fun _=>rfl,fun _=>by simp,fun _=>by simp,fun _ _ _=>by simp,fun _ _=>by simp,fun _ _=>rfl,fun _ _ _=>rfl,fun _ _=>rfl⟩
theorem zT:(∀{α:Type} (l:List α) (i:Nat) (a:α),l.toArray.setIfInBounds i a=(l.set i a).toArray)/\(∀{α:Type} (x:α) (xs:List α) (a:α),(x::xs).set 0 a=a::xs)/\(∀{α:Type} (x:α) (xs:List α) (i:Nat) (a:α),(x::xs).set (i+1) a=x::xs.set i a):=⟨fun _ _ _=>List.setIfInBounds_toArray ..,fun _ _ _=>rfl,fun _ _ _ _=>rfl⟩
theorem Kn.jn{X:List Nat}{w0 w w':World}{L L' M:List (Nat×Obj)}{b:Nat}{o:Obj}(i:Nat)(h:Kn X w0 w L)(k:Kn [b] w w' L')(hi:L[i]? =some (b,o):=by rfl)(e:L'++L.eraseIdx i=M:=by(simp only[List.eraseIdx_cons_zero,List.eraseIdx_cons_succ,List.cons_append,List.nil_append];rfl)):Kn X w0 w' M:=e▸h.join1 i hi k
theorem zM{P:Program}{f:FuncId}{args:Array Value}{Q:Ending->World->Prop}{Q2:World->Ending->World->Prop}{X:List Nat}{w0 V:World}{L:List (Nat×Obj)}[h:Kn X w0 V L](c:∀W,Kn X w0 W L->Calls P f args W (Q2 W))(k:∀W,Kn X w0 W L->∀e U,Q2 W e U->Q e U):Calls P f args V Q:=(c V h).mono fun e U q=>k V h e U q
section
variable {α:Type} {a b c d e f g h i j:α} {l:List α}
theorem m0:a∈a::l:=List.mem_cons_self
theorem m1:a∈b::a::l:=.tail _ m0
theorem m2:a∈c::b::a::l:=.tail _ m1
theorem m3:a∈d::c::b::a::l:=.tail _ m2
theorem m4:a∈e::d::c::b::a::l:=.tail _ m3
theorem m5:a∈f::e::d::c::b::a::l:=.tail _ m4
theorem m6:a∈g::f::e::d::c::b::a::l:=.tail _ m5
theorem m7:a∈h::g::f::e::d::c::b::a::l:=.tail _ m6
theorem m8:a∈i::h::g::f::e::d::c::b::a::l:=.tail _ m7
theorem m9:a∈j::i::h::g::f::e::d::c::b::a::l:=.tail _ m8
theorem sR:l.Sublist l:=.refl _
theorem sN:[].Sublist l:=List.nil_sublist _
theorem sC{k:List α}(h:l.Sublist k):(a::l).Sublist (a::k):=.cons_cons _ h
theorem sD{k:List α}(h:l.Sublist k):l.Sublist (a::k):=.cons _ h
end
section
variable {X:List Nat} {w0 w:World} {L:List (Nat×Obj)} {b:Nat} {o:Obj} {p0 p1 p2 p3 p4 p5 p6 p7 p8:Nat×Obj}
theorem Kn.h0(h:Kn X w0 w ((b,o)::L)):w.heap[b]? =some o:=h.has (b,o) m0
theorem Kn.h1(h:Kn X w0 w (p0::(b,o)::L)):w.heap[b]? =some o:=h.has (b,o) m1
theorem Kn.h2(h:Kn X w0 w (p0::p1::(b,o)::L)):w.heap[b]? =some o:=h.has (b,o) m2
theorem Kn.h3(h:Kn X w0 w (p0::p1::p2::(b,o)::L)):w.heap[b]? =some o:=h.has (b,o) m3
end
section
variable {P:Program} {ops:Array Oper} {fl br pu:Nat->Bool} {Q:Act->World->Prop} {Qp:List PanicEntry->World->Prop} {X:List Nat} {w0:World} {L Lw:List (Nat×Obj)} {a:Act} {rest:List Nat} {i:Nat} {o:Oper}
theorem fI{C:World->Prop}{S T:Act->Prop}(hST:∀a,S a->T a):∀{l:List Oper} {a:Act},wpQuiet P ops C S l a->wpQuiet P ops C T l a
  | [],a,h=>hST a h
  |o::r,a,h=>by
    unfold wpQuiet at h |-
    split at h<;>rename_i hw
    · rw[if_pos hw];exact Oper.quiet_mono (fun a h=>fI hST h) h
    · rw[if_neg hw];exact fI hST h
theorem zQ{id:Nat}{Q:Exit->Act->World->Prop}{w:World}{l:List Oper}{R:World->Prop}{M:List (Nat×Obj)}[h:Kn X w0 w L]
    (k:∀(ι:Type) (F:ι->World) [Nonempty ι],(∀n,R (F n))->wpQuiet P l.toArray (fun w'=>∃n,w'=F n) (fun a'=>∀W,Kn X w0 W M->R W->Q .normal a' W) l a) (m:L=M:=by((try simp only[kfb]);rfl)) (hm:P.follows .mixedOrders=true:=by kernel_rfl) (hB:Region.lexB .any l.toArray=true:=by kernel_rfl)
    (e:∀W,Fz X w0 W M=R W:=by(intro W;simp only[Fz];(try simp only[bX,dP,zD]);rfl)):(Code.region id l.toArray true).wp P Q a w:=by
  subst m;obtain⟨ι,F,hne,h1,h2⟩:=iS X w0 L ⟨w,h⟩;refine wp_region_quiet (C:=fun w'=>∃n,w'=F n) hm hB (h1 _ (kn_drew X w0 w L)) ?_;refine fI (fun a' h3 w' hw=>?_) (k ι F fun n=>e _▸(h2 n).facts);obtain⟨n,rfl⟩:=hw;exact h3 _ (h2 n) (e _▸(h2 n).facts)
theorem zN{R:World->Prop}{M:List (Nat×Obj)}(h:∀w,Kn X w0 w M->R w->Q a w)(m:L=M:=by((try simp only[kfb]);rfl))(e:∀W,Fz X w0 W M=R W:=by(intro W;simp only[Fz];(try simp only[bX,dP,zD]);rfl)):cwk P ops fl br pu Q Qp X w0 [] a L Lw:=ix fun w k=>h w (m▸k) (e w▸(m▸k:Kn X w0 w M).facts)
def flo:Oper->Bool:=fun o=>ee o.op
def puo:Oper->Bool
  | {op:=.load ..,..}| {op:=.lookup ..,..}| {op:=.convert ..,..}| {op:=.makeInterface ..,..}=>false
  |o=>ee o.op
theorem zX0{id:Nat}{Q:Exit->Act->World->Prop}{w:World}{l:List Oper}[h:Kn X w0 w L](order brs:List Nat)(Qp:List PanicEntry->World->Prop)(hQ:∀ch a' w',a'.defers=a.defers->Qp ch w'->Q (.panic ch) a' w')(hs:Lw.Sublist L)(hm:P.follows .mixedOrders=true)
    (hB:(Region.noSelect l.toArray&&gv l.length order&&eS .any l.toArray (fun i=>(nth l i).any flo) (fun i=>brs.contains i) (fun i=>(nth l i).any puo) order)=true)
    (k:∀(ι:Type) (F:ι->World) [Nonempty ι],(∀w,Kn X w0 w Lw->∃n,w=F n)->(∀n,Kn X w0 (F n) Lw)->cwk P l.toArray (fun i=>(nth l i).any flo) (fun i=>brs.contains i) (fun i=>(nth l i).any puo) (Q .normal) Qp X w0 order a L Lw):(Code.region id l.toArray true).wp P Q a w:=by
  obtain⟨ι,F,hne,h1,h2⟩:=iS X w0 Lw ⟨w,h.sub hs⟩;simp only[Bool.and_eq_true]at hB;obtain⟨⟨hsel,hp⟩,hok⟩:=hB;simp only[gv,Bool.and_eq_true,decide_eq_true_eq,List.all_eq_true,List.mem_range,List.contains_iff_mem]at hp;obtain⟨⟨hp1,hp2⟩,hp3⟩:=hp;refine wp_region_any hm ?_;refine gu (md:=.any) (Qp:=Qp) (Region.noSelect_spec hsel) hQ _ order _ a w.drew (fun u=>Kn X w0 u L) (fun u=>Kn X w0 u Lw) (by simpa using hp1) (by simp) (fun j hj=>?_) (fun j hj=>by simpa using hp2 j hj) hok rfl (kn_drew X w0 w L) (fun u hu=>hu.sub hs) (k ι F h1 h2);have:j∈order:=hp3 j (by simpa using hj);simp only[this,not_true,iff_false,Bool.not_eq_true];exact getD_replicate_false _ _
theorem zX{id:Nat}{Q:Exit->Act->World->Prop}{w:World}{l:List Oper}{R:World->Prop}[h:Kn X w0 w L](order brs:List Nat)
    (k:∀(ι:Type) (F:ι->World) [Nonempty ι],(∀w,Kn X w0 w Lw->∃n,w=F n)->(∀n,R (F n))->cwk P l.toArray (fun i=>(nth l i).any flo) (fun i=>brs.contains i) (fun i=>(nth l i).any puo) (Q .normal) (fun _ _=>False) X w0 order a L Lw) (hs:Lw.Sublist L:=by exact .refl _) (hm:P.follows .mixedOrders=true:=by kernel_rfl)
    (hB:(Region.noSelect l.toArray&&gv l.length order&&eS .any l.toArray (fun i=>(nth l i).any flo) (fun i=>brs.contains i) (fun i=>(nth l i).any puo) order)=true:=by kernel_rfl) (e:∀W,Fz X w0 W Lw=R W:=by(intro W;simp only[Fz];(try simp only[bX,dP,zD]);rfl)):(Code.region id l.toArray true).wp P Q a w:=
  zX0 order brs _ (fun _ _ _ _ h=>h.elim) hs hm hB fun ι F _ hC hF=>k ι F hC fun n=>e _▸(hF n).facts
theorem zE{c:Code}{Q:Exit->Act->World->Prop}{V:World}{M:List (Nat×Obj)}{R:World->Prop}[h:Kn X w0 V L](k:∀W,Kn X w0 W M->R W->c.wp P Q a W)(m:L=M:=by((try simp only[kfb]);rfl))(e:∀W,Fz X w0 W M=R W:=by(intro W;simp only[Fz];(try simp only[bX,dP,zD]);rfl)):c.wp P Q a V:=k V (m▸h) (e V▸(m▸h:Kn X w0 V M).facts)
theorem zF{fn:Func}{T:Ending->World->Prop}{x:Exit}{V:World}{M:List (Nat×Obj)}{R:World->Prop}[h:Kn X w0 V L](k:∀W,Kn X w0 W M->R W->bodyPost P fn T x a W)(m:L=M:=by((try simp only[kfb]);rfl))(e:∀W,Fz X w0 W M=R W:=by(intro W;simp only[Fz];(try simp only[bX,dP,zD]);rfl)):bodyPost P fn T x a V:=k V (m▸h) (e V▸(m▸h:Kn X w0 V M).facts)
theorem cD{f:FuncId}{args brgs:Array Value}{l:List Oper}{R:World->Prop}(h:∀W,Kn X w0 W L->R W->Calls P f brgs W fun e w'=>∃v,e=.returned v/\iT P l.toArray fl br pu Q Qp X w0 i rest (a.put o.dst v) Lw w')(ho:nth l i=some o:=by rfl)(hw:Region.wanted o (yielded l.toArray a.tmps)=true:=by rfl)(hf:fl i=false:=by rfl)(hx:∀w,(execOp a.eval o).run P w=.ok (.enter f args) w:=by exact fun _=>rfl)(ha:args=brgs:=by(simp only[zA,Act.eval];rfl))(e:∀W,Fz X w0 W L=R W:=by(intro W;simp only[Fz];(try simp only[bX,dP,zD]);rfl)):cwk P l.toArray fl br pu Q Qp X w0 (i::rest) a L Lw:=nE ho hw hf hx fun W k=>ha▸h W k (e W▸k.facts)
theorem cM{l:List Oper}{R:World->Prop}(h:∀W,Kn X w0 W L->R W->wpList P l.toArray (jl P l.toArray fl br pu Q Qp X w0 i rest Lw) [o] a W)(ho:nth l i=some o:=by rfl)(hp:fH o.op=true:=by rfl)(hw:Region.wanted o (yielded l.toArray a.tmps)=true:=by rfl)(hf:fl i=false:=by rfl)(e:∀W,Fz X w0 W L=R W:=by(intro W;simp only[Fz];(try simp only[bX,dP,zD]);rfl)):cwk P l.toArray fl br pu Q Qp X w0 (i::rest) a L Lw:=nF ho hp hw hf fun W k=>h W k (e W▸k.facts)
theorem cE{f:FuncId}{args brgs:Array Value}{l:List Oper}{R:World->Prop}(h:∀W,Kn X w0 W L->R W->Calls P f brgs W fun e w'=>∃ch,e=.panicked ch/\Qp ch w')(ho:nth l i=some o:=by rfl)(hw:Region.wanted o (yielded l.toArray a.tmps)=true:=by rfl)(hf:fl i=false:=by rfl)(hx:∀w,(execOp a.eval o).run P w=.ok (.enter f args) w:=by exact fun _=>rfl)(ha:args=brgs:=by(simp only[zA,Act.eval];rfl))(e:∀W,Fz X w0 W L=R W:=by(intro W;simp only[Fz];(try simp only[bX,dP,zD]);rfl)):cwk P l.toArray fl br pu Q Qp X w0 (i::rest) a L Lw:=lG ho hw hf hx fun W k=>ha▸h W k (e W▸k.facts)
end
end
end Go.Proofs.YtgboffbbpmileaaGreatDoor
namespace Go.Proofs.YtgboffbbpmileaaGreatDoor
open Go Go.ChangeShapes Go.RowKit Go.WideShapes
section
def Row(w:World)(v:Value)(xs:List Value):Prop:=
 ∃ao cap,v=.slice ao xs.length cap/\∀(j:Nat) x,xs[j]? =some x->∃g o,ao=some ⟨g,o,none⟩/\w.cell? ⟨g,o+j,none⟩=some x
def RowK(k:Nat)(w:World)(v:Value)(xs:List (List Value)):Prop:=
 ∃ao cap,v=.slice ao xs.length cap/\∀(j:Nat) cs,xs[j]? =some cs->∃g o,ao=some ⟨g,o,none⟩/\∀(c:Nat) x,cs[c]? =some x->w.cell? ⟨g,o+j*k+c,none⟩=some x
theorem aI{w:World}{g j:Nat}{x:Value}(h:w.cell? ⟨g,j,none⟩=some x):g<w.heap.size:=by
 rcases Nat.lt_or_ge g w.heap.size with h'|h'
 ·exact h'
 ·simp[World.cell?,Array.getElem?_eq_none h']at h
theorem dt{w w':World}{g j:Nat}(h:w'.heap[g]? =w.heap[g]?):w'.cell? ⟨g,j,none⟩=w.cell? ⟨g,j,none⟩:=by
 unfold World.cell?;grind
theorem bN{w w':World}{g j:Nat}{x:Value}(h:w.cell? ⟨g,j,none⟩=some x)(k:Below w.heap.size w w'):w'.cell? ⟨g,j,none⟩=some x:=
 (dt (k.block g (aI h))).trans h
theorem Row.ext{w w':World}{v:Value}{xs:List Value}(h:Row w v xs)(k:Below w.heap.size w w'):Row w' v xs:=by
 obtain⟨ao,cap,hv,hc⟩:=h
 refine⟨ao,cap,hv,fun j x hx=>?_⟩
 grind[bN]
theorem RowK.ext{k:Nat}{w w':World}{v:Value}{xs:List (List Value)}(h:RowK k w v xs)(b:Below w.heap.size w w'):RowK k w' v xs:=by
 obtain⟨ao,cap,hv,hc⟩:=h
 refine⟨ao,cap,hv,fun j x hx=>?_⟩
 grind[bN]
theorem pX{w:World}{a:Addr}{v:Value}(h:w.cell? a=some v):a=⟨a.block,a.off,none⟩:=by
 cases a with
 |mk b o s=>
  cases s with
  |none=>rfl
  |some n=>unfold World.cell? at h;grind
section
variable {H:Type} {enc:TypeId×Value->H} {P:Program} {w:World} {base:Nat} {sp:Nat->Bool} {held:Bool}
end
end
end Go.Proofs.YtgboffbbpmileaaGreatDoor
namespace Go.Proofs.YtgboffbbpmileaaGreatDoor
open Go Go.ChangeAt Go.ChangeShapes Go.RowKit Go.WideShapes
section
section
variable {P:Program} {W:World} {name:String} {rest:List (String×DataW Unit)} {g:Nat} {t e:TypeId} {n:Nat} {ps:List MemPlace}
theorem nG{ss:List (List UInt8)}(hg:P.globalNamed name=some g)(hty:(P.globals[g]?).map (·.type)=some t)(ht:P.underlying t=some (.slice e))(he:P.underlying e=some .string)(hce:P.cellsOf e=1)(hne:ss≠[])
  (h:DataW.LaidVars P W ((name,.slice (ss.map fun s=>.lit (.string s)) [])::rest) ps):(∃cg co cc,W.cell? ⟨g,0,none⟩=some (.slice (some ⟨cg,co,none⟩) ss.length cc)/\ss.length<=cc/\∀(j:Nat) s,ss[j]? =some s->W.cell? ⟨cg,co+j,none⟩=some (.string ⟨s.toArray⟩))/\∃qs,DataW.LaidVars P W rest qs:=by
 obtain⟨g',t',cs,fuel,p,q,hg',ht',hvar,hd,hr,_⟩:=h
 obtain rfl:=Option.some.inj (hg.symm.trans hg')
 obtain rfl:=Option.some.inj (hty.symm.trans ht')
 obtain⟨a,cap,hcs,hle,hel⟩:=open_row ht hce hd
 rw[List.length_map]at hcs hle
 have key:∀(j:Nat) s,ss[j]? =some s->W.cell? (a.add j)=some (.string ⟨s.toArray⟩):=fun j s hs=>by
  obtain⟨v,m,q2,h1,h2⟩:=hel j _ (by rw[List.getElem?_map,hs];rfl);obtain⟨u,h3,h4,_⟩:=DataW.trod_string he h2;simp only[List.cons.injEq,and_true]at h3;simp only[Prod.mk.injEq,DataW.lit.injEq,Lit.string.injEq]at h4;rw[h1,h3,h4.1]
 have ha:a=⟨a.block,a.off,none⟩:=by
  obtain⟨s,hs⟩:∃s,ss[0]? =some s:=by
   cases ss with
   |nil=>exact absurd rfl hne
   |cons s r=>exact⟨s,rfl⟩
  have:=pX (key 0 s hs);simpa[Addr.add]using this
 refine⟨⟨a.block,a.off,cap,?_,hle,fun j s hs=>?_⟩,q,hr⟩
 ·rw[World.var?_cell hg hvar 0,<- ha]
  have:=congrArg (fun l=>l[0]?) hcs;simpa using this
 ·have h1:=key j s hs
  rw[ha,add_plain]at h1;exact h1
end
end
end Go.Proofs.YtgboffbbpmileaaGreatDoor
