/- Lemmas and walks for the law VLawPJoins (part 21). -/
import Derived.Test.YtgboffbbpmileaaGreatDoorPy20
import Derived.Test.YtgboffbbpmileaaGreatDoorProg
import Derived.WalkKit
import Derived.Handy
import Derived.Deep.Light
import Derived.WalkSmall
import Derived.StillTailTactics
import Derived.Lib.Hide
set_option maxRecDepth 20000
set_option maxHeartbeats 4000000
set_option linter.unusedVariables false
set_option linter.unusedSimpArgs false
namespace Go.Proofs.YtgboffbbpmileaaGreatDoor
open Go Go.RowKit
theorem rj(a b:ByteArray)(hla:a.size<=1500)(hlb:b.size<=1500)(hbs:(a.data.toList.getLast? ==some 92)=false)(ta tb:Ts)(hpa:ax a.data.toList=.ok ta.nds)(hpb:ax b.data.toList=.ok tb.nds)(hpz:ax (a++⟨#[10]⟩++b).data.toList=.ok (ta.app tb).nds)(hoa:ta.ok/\ta.tg)(hob:tb.ok/\tb.tg)(hoz:(ta.app tb).ok/\(ta.app tb).tg)(hea:(aq ta).e=0)(heb:(aq tb).e=0)(hez:(aq (ta.app tb)).e=0)(w:World)(hT:TabP w):Calls Tryz.prog 3 #[.string a,.string b] w fun e w'=>e=.returned (.bool true)/\Below w.heap.size w w':=by
 have hmax:IntKind.i64.max=9223372036854775807:=rfl
 have m1:¬IntKind.i64.max<((a.size+(⟨#[10]⟩:ByteArray).size:Nat):Int):=by rw[hmax,show(⟨#[10]⟩:ByteArray).size=1 from rfl];omega
 have m2:¬IntKind.i64.max<(((a++⟨#[10]⟩).size+b.size:Nat):Int):=by rw[hmax,ByteArray.size_append,show(⟨#[10]⟩:ByteArray).size=1 from rfl];omega
 clear hmax
 have HTA:=yh (⟨nt hpa rfl hoa.1 hea,nt hpb rfl hob.1 heb,nt hpz rfl hoz.1 hez⟩:(∀x∈(aq ta).c,x.w.length<=100000)/\(∀x∈(aq tb).c,x.w.length<=100000)/\∀x∈(aq (ta.app tb)).c,x.w.length<=100000)
 have HLN:=yh (⟨lw hpa rfl hoa.1,lw hpb rfl hob.1,lw hpz rfl hoz.1⟩:(aq ta).n<=320010/\(aq tb).n<=320010/\(aq (ta.app tb)).n<=320010)
 have HEA:=yh hea
 have HEB:=yh heb
 have HEZ:=yh hez
 have HSX:=yh (fun W h=>dJ a ta _ hpa rfl hoa.1 hoa.2 hea W h)
 have HSY:=yh (fun W h=>dJ b tb _ hpb rfl hob.1 hob.2 heb W h)
 have HSZ:=yh (fun W h=>dJ (a++⟨#[10]⟩++b) (ta.app tb) _ hpz rfl hoz.1 hoz.2 hez W h)
 obtain⟨CX,hCX⟩:∃x,(aq ta).c=x:=⟨_,rfl⟩
 obtain⟨CY,hCY⟩:∃x,(aq tb).c=x:=⟨_,rfl⟩
 obtain⟨CZ,hCZ⟩:∃x,(aq (ta.app tb)).c=x:=⟨_,rfl⟩
 obtain⟨nX,hnX⟩:∃x,(aq ta).n=x:=⟨_,rfl⟩
 obtain⟨nY,hnY⟩:∃x,(aq tb).n=x:=⟨_,rfl⟩
 obtain⟨nZ,hnZ⟩:∃x,(aq (ta.app tb)).n=x:=⟨_,rfl⟩
 have hlX:=HLN.out.1
 have hlY:=HLN.out.2.1
 have hlZ:=HLN.out.2.2
 rw[hCX,hnX]at HSX
 rw[hCY,hnY]at HSY
 rw[hCZ,hnZ]at HSZ
 rw[hnX]at hlX
 rw[hnY]at hlY
 rw[hnZ]at hlZ
 have hX0:0<nX:=by rw[<- hnX];unfold PS.n;rw[(dE hea).2.1];simp
 have hY0:0<nY:=by rw[<- hnY];unfold PS.n;rw[(dE heb).2.1];simp
 have HCX:=yh hCX
 have HCY:=yh hCY
 have HCZ:=yh hCZ
 have HNX:Hid (CX.length=nX):=yh (by rw[<- hCX,<- hnX];rfl)
 have HNY:Hid (CY.length=nY):=yh (by rw[<- hCY,<- hnY];rfl)
 have HNZ:Hid (CZ.length=nZ):=yh (by rw[<- hCZ,<- hnZ];rfl)
 have HT:=yh hT
 clear hT hCX hCY hCZ hnX hnY hnZ hpa hpb hpz hoa hob hoz hea heb hez
 have p1:decide ((1500:Int)<(a.size:Int))=false:=decide_eq_false (by omega)
 have p2:decide ((1500:Int)<(b.size:Int))=false:=decide_eq_false (by omega)
 have hL:Kn [] w w []:=Kn.refl [] w
 have hF:=hL.fx
 go_enter Tryz.func3,Tryz.ntmps3
 go_upto_region 2 with((go_at_call 9;refine aj ?_;clear hF hL;intro W hL;have hF:=hL.fx;(with_reducible refine(ed _ (HT.out.ext hL.below0)).mono ?_);rintro e W ⟨rfl,hb⟩;replace hL:=hL.below hb;clear hb hF;have hF:=hL.fx))
 go_cut [43] (fun s wc=>s=.bool false/\Kn [] w wc [])
 case first=>
  by_cases h0:a.size=0
  ·have hn:a.data.toList=[]:=List.eq_nil_of_length_eq_zero (by rw[szl,h0])
   have q3:a.toList.isEmpty=true:=by rw[Lib.toList_data,hn];rfl
   clear hn h0;go_wp2;go_meet
   case rel=>exact⟨rfl,hL⟩
  ·obtain⟨n,hn⟩:∃n,a.size=n+1:=⟨a.size-1,by omega⟩
   have hlt9:n<a.size:=by omega
   obtain⟨c0,hc0⟩:∃c,a.data.toList[n]? =some c:=⟨_,List.getElem?_eq_getElem (by rw[szl];omega)⟩;have eb0:=bP hc0 hlt9;have hd0:a.data.toList.drop (n)=c0::a.data.toList.drop (n+1):=by
    obtain⟨h1,h2⟩:=List.getElem?_eq_some_iff.1 hc0;rw[List.drop_eq_getElem_cons h1,h2]
   have hl:a.data.toList.getLast? =some c0:=by
    rw[List.getLast?_eq_getElem?,szl,hn];exact hc0
   have q3:a.toList.isEmpty=false:=by
    rw[Lib.toList_data]
    cases h:a.data.toList with
    |nil=>rw[h]at hl;cases hl
    |cons x r=>rfl
   have p3:((c0.toNat:Int)==92)=false:=by
    rw[hl]at hbs;rw[<- hbs];by_cases h:c0=92
    ·subst h;rfl
    ·have h2:(some c0==some (92:UInt8))=false:=by simpa using h
     have h3:c0.toNat≠92:=fun e=>h (UInt8.toNat_inj.1 e)
     rw[h2];exact beq_false_of_ne (by omega)
   have p4:wrap64 ((a.size:Int)-1)=(n:Int):=by rw[IntWalk.wrap64_in _ (by omega)];omega
   have p5:(n:Int)<a.size:=by omega
   have p6:0<a.size:=by omega
   have p7:IntKind.i64.wrap ((a.size:Int)-1)=(n:Int):=by rw[IntWalk.i64_in _ (by omega)];omega
   clear hl hd0 h0 hbs hn;go_wp2;go_meet
   case rel=>exact⟨rfl,hL⟩
 case rest=>
  clear hL;obtain⟨rfl,hL⟩:=hcut;have hF:=hL.fx;go_upto_region 5 with((go_at_call 10;refine aj ?_;clear hF hL;intro W hL;have hF:=hL.fx;(with_reducible refine(HSX.out _ (HT.out.ext hL.below0)).mono ?_);rintro e W ⟨aX,cX,rfl,HPX,hb⟩;replace hL:=hL.below hb;clear hb hF;have hF:=hL.fx;obtain⟨W1,rfl⟩:∃W1:World,W1=W:=⟨_,rfl⟩;have HB1:=yh (hL.sub sN);clear hL;have hL:=Kn.refl [] W1;clear hF;have hF:=hL.fx))
  go_upto_region 6 with((go_at_call 10;refine aj ?_;clear hF hL;intro W hL;have hF:=hL.fx;(with_reducible refine(HSY.out _ ((HT.out.ext HB1.out.below0).ext hL.below0)).mono ?_);rintro e W ⟨aY,cY,rfl,HPY,hb⟩;replace hL:=hL.below hb;clear hb hF;have hF:=hL.fx;obtain⟨W2,rfl⟩:∃W2:World,W2=W:=⟨_,rfl⟩;have HB2:=yh (HB1.out.tail0 (hL.sub sN));have HP2:=yh (HPX.out.kn (Y:=[]) hL (fun y hy=>absurd hy List.not_mem_nil));have ca:=aK hL m0 0;have la:=hL.lt m0;clear HB1 HPX hL;have HPX:=HP2;clear HP2;have hL:=Kn.refl [] W2;clear hF;have hF:=hL.fx))
  go_upto_region 7 with((go_at_call 10;refine aj ?_;clear hF hL;intro W hL;have hF:=hL.fx;(with_reducible refine(HSZ.out _ ((HT.out.ext HB2.out.below0).ext hL.below0)).mono ?_);rintro e W ⟨aZ,cZ,rfl,HPZ,hb⟩;replace hL:=hL.below hb;clear hb hF;have hF:=hL.fx;obtain⟨W3,rfl⟩:∃W3:World,W3=W:=⟨_,rfl⟩;have HB3:=yh (HB2.out.tail0 (hL.sub sN));have HP2:=yh (HPX.out.kn (Y:=[]) hL (fun y hy=>absurd hy List.not_mem_nil));have HP3:=yh (HPY.out.kn (Y:=[]) hL (fun y hy=>absurd hy List.not_mem_nil));have cb:=aK hL m0 0;have lb:=hL.lt m0;have ca2:=cW hL ca List.not_mem_nil;have la2:=Nat.lt_of_lt_of_le la hL.size;clear HB2 HPX HPY hL ca la;have HPX:=HP2;have HPY:=HP3;clear HP2 HP3;have hL:=Kn.refl [] W3;clear hF;have hF:=hL.fx))
  have ca:W3.cell? ⟨W1.heap.size,0,none⟩=some (.slice aX nX cX):=ca2;have cb2:W3.cell? ⟨W2.heap.size,0,none⟩=some (.slice aY nY cY):=cb;clear ca2 cb HSX HSY HSZ HT;have e9:((nX:Int)==0)=false:=by rw[beq_eq_false_iff_ne];omega
  have hcX:nX<=cX:=by obtain⟨cv,h1,⟨_,_,h2,h3,_⟩,_⟩:=HPX.out;injection h2 with _ h4 h5;rw[h5,h4];exact h3
  have HCXC:=yh hcX;obtain⟨m,hm⟩:∃m,nX=m+1:=⟨nX-1,by omega⟩;have HM1:=yh hm;have s9:nX-1=m:=by omega
  have s2:m<=cX:=by omega
  have s3:(m:Int)<=(cX:Int):=by omega
  have s4:¬(cX:Int)<(m:Int):=by omega
  have s5:decide ((cX:Int)<(m:Int))=false:=decide_eq_false (by omega);have s6:decide (cX<m)=false:=decide_eq_false (by omega);have s7:(0:Int)<=(m:Int):=by omega
  have s8:¬(m:Int)<0:=by omega
  clear hm p1 p2 hla hlb hbs m1 m2;go_upto_block 0 with(fail)
  go_cut [15] (fun s wc=>s=.int .i64 ((itm CX:Nat):Int)/\Kn [] W3 wc [(W3.heap.size,.cells #[.slice aZ nZ cZ] 25 (0,0))])
  case first=>
   go_wp2;go_loopw [15,16] (fun it i wr=>∃k:Nat,k<=nX/\i=.int .i64 k/\it=.int .i64 ((itm (CX.take k):Nat):Int)/\Kn [] W3 wr [(W3.heap.size,.cells #[.slice aZ nZ cZ] 25 (0,0))]) (fun _ i _=>nX-(intOf i).toNat)
   case atStart=>exact⟨0,Nat.zero_le _,rfl,rfl,aV⟩
   case round=>
    obtain⟨k,hk,rfl,rfl,hK⟩:=hrel;clear hL hF;have hL:=hK;clear hK;have hF:=hL.fx;obtain⟨tk,htk⟩:∃t,itm (CX.take k)=t:=⟨_,rfl⟩;have HTK:=yh htk;have htl:tk<=320010:=by rw[<- htk];exact Nat.le_trans (jF CX k) (Nat.le_trans (List.countP_le_length ..) (by rw[HNX.out];exact hlX))
    rw[htk];clear htk;by_cases hlt:k<nX
    ·obtain⟨x,hx⟩:∃x,CX[k]? =some x:=⟨_,List.getElem?_eq_getElem (by rw[HNX.out];exact hlt)⟩
     have HXT:=yh (hH hx);obtain⟨gx,ox,vx,hga,gx,glx,cx0,cx1,cx2,cx3,cx4,hpx⟩:=HPX.out.at hx;subst hga;clear gx;obtain⟨ux,hu⟩:∃u:ByteArray,bs x.s=.string u:=⟨_,rfl⟩;rw[hu]at cx3;clear hu;obtain⟨pax,pnx,pcx,hpv⟩:∃a n c,vx=.slice a n c:=by
      obtain⟨a,c,h,_⟩:=id hpx;exact⟨a,_,c,h⟩
     subst hpv;clear hx hpx;have HP9:Hid (wrap64 ((tk:Int)+1)=((tk+1:Nat):Int)):=yh (by rw[IntWalk.wrap64_in _ (by omega)];omega);by_cases h0:x.op=0
     ·have h1:((x.op:Int)==0)=true:=by rw[h0];rfl
      go_wp2;exact⟨⟨k+1,by omega,by go_num,by rw[HXT.out,HTK.out,if_pos (by simp[aD,h0])];rfl,hL⟩,by simp[intOf];omega⟩
     ·have h1:((x.op:Int)==0)=false:=by rw[beq_eq_false_iff_ne];omega
      go_wp2;exact⟨⟨k+1,by omega,by go_num,by rw[HXT.out,HTK.out,if_neg (by simpa[aD]using h0)];rfl,hL⟩,by simp[intOf];omega⟩
    ·have hkn:k=nX:=by omega
     have HIT:Hid (itm CX=tk):=yh (by rw[<- HTK.out,hkn,<- HNX.out,List.take_length]);clear HTK hk;go_wp2;go_meet
     case rel=>exact⟨by rw[HIT.out],hL⟩
  case rest=>
    clear hL hF;obtain⟨rfl,hL⟩:=hcut;obtain⟨tk,htk⟩:∃t,itm CX=t:=⟨_,rfl⟩;have HIT:=yh htk;have htl:tk<=320010:=by rw[<- htk];exact Nat.le_trans (List.countP_le_length ..) (by rw[HNX.out];exact hlX)
    rw[htk];clear htk;have hF:=hL.fx;have la3:=Nat.lt_of_lt_of_le la2 hL.size;have lb3:=Nat.lt_of_lt_of_le lb hL.size;have ca3:=cW hL ca List.not_mem_nil;have cb3:=cW hL cb2 List.not_mem_nil;obtain⟨z0,hz0⟩:∃x,CX[0]? =some x:=⟨_,List.getElem?_eq_getElem (by rw[HNX.out];omega)⟩;obtain⟨gX,oX,_,hga,_,_,_⟩:=HPX.out.at hz0;subst hga;obtain⟨cvw,hw1,hw2,hw3,hw4,hw5⟩:=HPX.out.src (m:=m) (by rw[HNX.out];have:=HM1.out;omega);have HRUN:Hid (∀(W:World) (L:List (Nat×Obj)),Kn [] W3 W L->∀(t:TypeId) (v:Value),W.ownsRow 0 31 5 v 0 []->∃v' w',(Builtin.append_ #[23,23] t #[v,.slice (some ⟨gX,oX,none⟩) m cX]).run Tryz.prog W=.ok v' w'/\w'.ownsRow 0 31 5 v' (0+m) ([]++cvw.flatMap cJ)/\W.grownBy w' v.ownBlock/\(v'.ownBlock=v.ownBlock\/v'.ownBlock=some W.heap.size)):=yh (fun W L hL t v ho=>c_ hw3 (fun j u hu=>by rw[Go.WideShapes.add_plain];exact cW hL (hw4 gX oX _ _ rfl j u hu) List.not_mem_nil) hw5 (by have:=HM1.out;omega) ho);have HWP:=yh hw2;have HCL:Hid (CX=ta.cl 0 0++[({op:=26}:Ins)]/\(ta.cl 0 0).length=m):=yh (by
     have h:=(dE HEA.out).2.1;rw[HCX.out]at h;have h2:=HNX.out;have h3:=HM1.out;rw[h,List.length_append,List.length_singleton]at h2;exact⟨h,by omega⟩)
    have HWF:Hid (cvw.map (·.1)=ta.cl 0 0):=yh (by rw[hw1,HCL.out.1,<- HCL.out.2,List.take_left]);clear hz0 hw1 hw2 hw3 hw4 hw5;go_upto_block 2 with((at_builtin;refine dQ ?_;clear hF hL;intro W hL;have hF:=hL.fx;replace hL:=Kn.swap2 hL;clear hF;simp only[kfb]at hL;have hF:=hL.fx;(refine ah rfl _ _ 23 23 rfl [_] [_] hL 0 m [] (cvw.flatMap cJ) _ _ xn rfl rfl (fun ho=>HRUN.out _ _ hL _ _ ho) ?_);intro LW aw cw W5 hL2 hr3;clear hL hF;have hL:=hL2;clear hL2;simp only[List.append_eq,List.cons_append,List.nil_append]at hL;simp only[Nat.zero_add,List.nil_append]at hr3 |-;have hF:=hL.fx))
    have HWR:=yh hr3;clear hr3 la3 lb3 ca3 cb3;go_cut [] (fun wc=>∃(cv:List (Ins×Value)) (LW:List (Nat×Obj)),Hid (cv.map (·.1)=ta.clm (!tb.nil?) 0 0)/\Hid (∀x∈cv,PRow [] W3 x.2 x.1.w)/\Hid (RowL 5 31 LW (.slice aw m cw) m (cv.flatMap cJ))/\Kn [] W3 wc ((W3.heap.size,.cells #[.slice aZ nZ cZ] 25 (0,0))::LW))
    case first=>
     go_wp2;go_loopw [18] (fun it wr=>∃(z:Nat) (cv:List (Ins×Value)) (LW:List (Nat×Obj)),it=.int .i64 (z:Int)/\z<=500/\Hid ((∃(k:Nat) (y:Nat×Nat),(ta.hd 0 0)[k]? =some y/\z=y.2/\cv.map (·.1)=ta.cl 0 0)\/(z=0/\cv.map (·.1)=ta.clm (!tb.nil?) 0 0)\/(ta.nil? =true/\z=1/\cv.map (·.1)=ta.cl 0 0))/\Hid (∀x∈cv,PRow [] W3 x.2 x.1.w)/\Hid (RowL 5 31 LW (.slice aw m cw) m (cv.flatMap cJ))/\Kn [] W3 wr ((W3.heap.size,.cells #[.slice aZ nZ cZ] 25 (0,0))::LW)) (fun it _=>(1001-(intOf it).toNat) % 1001)
     case atStart=>
      refine⟨1,cvw,LW,rfl,by omega,yh ?_,HWP,HWR,hL⟩
      cases hn:ta.nil? with
      |true=>exact .inr (.inr ⟨rfl,rfl,HWF.out⟩)
      |false=>
       obtain⟨y,h1,h2⟩:=uf hn;exact .inl ⟨0,y,h1,h2.symm,HWF.out⟩
     case round=>
      obtain⟨z,cv,LW,rfl,hz5,HZ,HWP,HWR,hK⟩:=hrel;clear hL hF;have hL:=hK;clear hK;have hF:=hL.fx;have la3:=Nat.lt_of_lt_of_le la2 hL.size;have lb3:=Nat.lt_of_lt_of_le lb hL.size;rcases HZ.out with⟨k,y,h1,h2,h3⟩|⟨h1,h3⟩|⟨h1,h2,h3⟩
      ·subst h2
       obtain⟨x,hx,hx0,hxa,hlt,hy0,huq,hxb⟩:=zU HEA.out h1;rw[HCX.out]at hx huq;have hib:=uh (a:=ta) hlt (by rw[<- HCL.out.1];exact hx) hx0;have htk0:0<tk:=by rw[<- HIT.out];have:=ri CX y.1 x hx (by simp[aD,hx0]);omega
       have HIC:=yh (fun(W:World) h=>zP CX (y.2:Int) y.1 x hx hx0 hxa huq (by rw[HNX.out];omega) (.slice (some ⟨gX,oX,none⟩) nX cX) W h);have HXB:=yh hxb;have HIB:=yh hib;have HXA:=yh hxa;have H1:=yh h1;have H3:=yh h3;have HLT:=yh hlt;have e1:((y.2:Int) != 0)=true:=by rw[bne_iff_ne];omega
       obtain⟨g9,o9,v9,hga,_,gl9,c90,c91,c92,_,_,_⟩:=HPX.out.at hx;injection hga with hga
       injection hga with hga hgb
       subst hga hgb;have hyn:y.1<nX:=by have h:=HCL.out.2;have h2:=HM1.out;omega
       clear hx hx0 hxa hlt huq hxb hib h1 h3 HZ
       cases hn:(ta.hd 0 0)[k+1]? with
       |some y2=>
        have hb2:x.b=(y2.2:Int):=by have h:=HXB.out;rw[hn]at h;exact h
        have hy2:y.2<y2.2/\y2.2<=500:=by have h:=HIB.out;have h2:=HXA.out;have h3:=(iv HEA.out).2.2;have h4:=(sl ta 0 0 y2 (List.mem_of_getElem? hn)).2;omega
        have e2:((y2.2:Int)==0)=false:=by rw[beq_eq_false_iff_ne];omega
        rw[hb2]at c92;have HN2:=yh hn;clear hn hb2;go_wp2_with (first|(with_reducible refine zS ?_;intro W hL hF)|(go_at_call 11;refine aj ?_;clear hF hL;intro W hL;have hF:=hL.fx;(with_reducible refine(HIC.out _ (HPX.out.kn hL (fun y hy=>absurd hy List.not_mem_nil))).mono ?_);rintro e W ⟨rfl,hb⟩;replace hL:=hL.below hb;clear hb hF;have hF:=hL.fx))
        exact⟨⟨y2.2,cv,LW,rfl,hy2.2,yh (.inl ⟨k+1,y2,HN2.out,rfl,H3.out⟩),HWP,HWR,hL⟩,by simp only[intOf,Int.toNat_natCast];omega⟩
       |none=>
        have hb2:x.b=0:=by have h:=HXB.out;rw[hn]at h;exact h
        rw[hb2]at c92;have HN2:=yh hn;clear hn hb2
        cases hbn:tb.nil? with
        |true=>
         have hy1:nY=1:=by have h:=(lx HEB.out).1 hbn;rw[HCY.out,HNY.out]at h;exact h
         have e2:decide ((1:Int)<(nY:Int))=false:=decide_eq_false (by omega);have e3:decide (1<nY)=false:=decide_eq_false (by omega);have HBN:=yh hbn;clear hy1 hbn;go_wp2_with (first|(with_reducible refine zS ?_;intro W hL hF)|(go_at_call 11;refine aj ?_;clear hF hL;intro W hL;have hF:=hL.fx;(with_reducible refine(HIC.out _ (HPX.out.kn hL (fun y hy=>absurd hy List.not_mem_nil))).mono ?_);rintro e W ⟨rfl,hb⟩;replace hL:=hL.below hb;clear hb hF;have hF:=hL.fx))
         exact⟨⟨0,cv,LW,rfl,Nat.zero_le _,yh (.inr (.inl ⟨rfl,by rw[H3.out];show ta.cl 0 0=ta.clm false 0 0;rw[cH]⟩)),HWP,HWR,hL⟩,by simp only[intOf,Int.toNat_natCast];omega⟩
        |false=>
         have hy1:1<nY:=by
          have h:=mt (lx HEB.out).2 (by rw[hbn];decide);rw[HCY.out,HNY.out]at h;omega
         have e2:decide ((1:Int)<(nY:Int))=true:=decide_eq_true (by omega);have hym:y.1<m:=by have h:=HCL.out.2;have h2:=HLT.out;omega
         rcases HWR.out with⟨_,_,h0,_⟩|⟨g2,cap2,cur,rfl,hv,hr⟩
         ·omega
         ·injection hv with hv1 hv2 hv3
          subst hv1 hv3;have hcl:cv.length=m:=by have h:=hr.len;rw[eQ]at h;omega
          obtain⟨x0,hx0⟩:∃x,cv[y.1]? =some x:=⟨_,List.getElem?_eq_getElem (by omega)⟩;have hcu:=hr.get (jX cv y.1 2 x0 _ hx0 rfl);have HR9:=yh hr;have HCL9:=yh hcl;have HBN:=yh hbn;have HP9:Hid (wrap64 ((tk:Int)+1)=(tk:Int)+1):=yh (IntWalk.wrap64_in _ (by omega));clear hr hcl hx0 hbn HWR;go_wp2_with (first|(with_reducible refine zS ?_;intro W hL hF)|(go_at_call 11;refine aj ?_;clear hF hL;intro W hL;have hF:=hL.fx;(with_reducible refine(HIC.out _ (HPX.out.kn hL (fun y hy=>absurd hy List.not_mem_nil))).mono ?_);rintro e W ⟨rfl,hb⟩;replace hL:=hL.below hb;clear hb hF;have hF:=hL.fx))
          have hL9:Kn [] W3 (W.setCell ⟨g2,y.1*5+2,none⟩ (.int .i64 ((tk:Int)+1))) _:=aV;refine⟨⟨0,cv.modify y.1 fun x=>(x.1.setB ((tk:Int)+1),x.2),_,rfl,Nat.zero_le _,yh (.inr (.inl ⟨rfl,?_⟩)),yh (fun x hx=>?_),yh (.inr ⟨g2,cw,cur.setIfInBounds (y.1*5+2) (.int .i64 ((tk:Int)+1)),rfl,rfl,?_⟩),hL9⟩,by simp only[intOf,Int.toNat_natCast];omega⟩
          ·show _=ta.clm true 0 0
           have hi:itm (ta.cl 0 0)=tk:=by rw[<- HIT.out,HCL.out.1,bd];rfl
           rw[nh (·.setB ((tk:Int)+1)),H3.out,ug H1.out HN2.out,hi];rfl
          ·obtain⟨z,h8,h9,h10⟩:=ni (·.setB ((tk:Int)+1)) cv y.1 x hx
           have h11:=HWP.out z h8;rw[h9];rcases h10 with e|e<;>rw[e]
           ·exact h11
           ·exact h11
          ·have hr:=HR9.out
           exact⟨by rw[Array.size_setIfInBounds];exact hr.size,hr.le,hr.capm,by rw[Array.toList_setIfInBounds,List.take_set,hr.take,lr (·.setB ((tk:Int)+1)) 2 (.int .i64 ((tk:Int)+1)) (by omega) (fun x v=>rfl) cv y.1 (by rw[HCL9.out];exact hym)],by rw[eQ,List.length_modify,HCL9.out]⟩
      ·subst h1
       have H3:=yh h3;clear HZ h3;go_wp2;go_meet
       case rel=>exact⟨cv,LW,H3,HWP,HWR,hL⟩
      ·subst h2
       have htk0:tk=0:=by
        rw[<- HIT.out,HCL.out.1,bd,pQ h1];rfl
       have H3:Hid (cv.map (·.1)=ta.clm (!tb.nil?) 0 0):=yh (by
        rw[h3]
        cases ta with
        |nil=>simp only[Ts.cl,Ts.clm]
        |cons a r=>cases h1)
       have e1:decide ((0:Int)<(tk:Int))=false:=decide_eq_false (by omega);have e2:decide (0<tk)=false:=decide_eq_false (by omega);clear HZ h3 h1 htk0;go_wp2;go_meet
       case rel=>exact⟨cv,LW,H3,HWP,HWR,hL⟩
    case rest=>
     clear hL hF HWP HWR HWF;obtain⟨cv,LW,HWF,HWP,HWR,hL⟩:=hcut;have hF:=hL.fx
     go_wp2;go_loopw [17,21] (fun wv i wr=>∃(k:Nat) (cv:List (Ins×Value)) (LW:List (Nat×Obj)) (aw:Option Addr) (cw:Nat),wv=.slice aw (m+k) cw/\i=.int .i64 k/\k<=nY/\Hid (cv.map (·.1)=ta.clm (!tb.nil?) 0 0++(CY.take k).map (Ins.up m tk))/\Hid (∀x∈cv,PRow [] W3 x.2 x.1.w)/\Hid (RowL 5 31 LW (.slice aw (m+k) cw) (m+k) (cv.flatMap cJ))/\Kn [] W3 wr ((W3.heap.size,.cells #[.slice aZ nZ cZ] 25 (0,0))::LW)) (fun _ i _=>nY-(intOf i).toNat)
     case atStart=>exact⟨0,cv,LW,aw,cw,rfl,rfl,Nat.zero_le _,yh (by rw[HWF.out];simp),HWP,HWR,hL⟩
     case round=>
      clear HWF HWP HWR;obtain⟨k,cv,LW,aw,cw,rfl,rfl,hk,HWF,HWP,HWR,hK⟩:=hrel;clear hL hF;have hL:=hK;clear hK;have hF:=hL.fx;have la3:=Nat.lt_of_lt_of_le la2 hL.size;have lb3:=Nat.lt_of_lt_of_le lb hL.size;have ca3:=cW hL ca List.not_mem_nil;have cb3:=cW hL cb2 List.not_mem_nil;by_cases hlt:k<nY
      ·obtain⟨y,hy⟩:∃x,CY[k]? =some x:=⟨_,List.getElem?_eq_getElem (by rw[HNY.out];exact hlt)⟩
       have hym:y∈(aq tb).c:=by rw[HCY.out];exact List.mem_of_getElem? hy
       obtain⟨gy,oy,vy,hga,gx,gly,cy0,cy1,cy2,cy3,cy4,hpy⟩:=HPY.out.at hy;subst hga;clear gx;obtain⟨uy,hu⟩:∃u:ByteArray,bs y.s=.string u:=⟨_,rfl⟩;rw[hu]at cy3;have HUS9:=yh hu;clear hu;obtain⟨pay,pny,pcy,hpv⟩:∃a n c,vy=.slice a n c:=by
        obtain⟨a,c,h,_⟩:=id hpy;exact⟨a,_,c,h⟩
       subst hpv;have HPY9:=yh hpy;have HY:Hid ((CY.take (k+1)).map (Ins.up m tk)=(CY.take k).map (Ins.up m tk)++[Ins.up m tk y]/\bs y.s=.string uy):=yh ⟨by rw[List.take_add_one,hy];simp,HUS9.out⟩;clear hy hpy;by_cases h0:y.op=0
       ·obtain⟨⟨ja,hja,hja5⟩,jb,hjb,hjb5⟩:=ue HEB.out hym h0
        have e1:((y.op:Int)==0)=true:=by rw[h0];rfl
        rw[hja]at cy1;rw[hjb]at cy2;have H0:=yh h0;have HJA:=yh hja;have HJB:=yh hjb;clear h0 hja hjb hym;by_cases hb0:jb=0
        ·subst hb0
         change _=some (Value.int .i64 0)at cy2;go_wp2_with (first|(with_reducible refine zS ?_;intro W hL hF)|(at_builtin;refine dQ ?_;clear hF hL;intro W hL;have hF:=hL.fx;(refine ah rfl _ _ 23 23 rfl [_,_,_] LW hL (m+k) 1 (cv.flatMap cJ) [.int .i64 (y.op:Int),.int .i64 ((ja:Int)+(tk:Int)),.int .i64 (0),.string uy,.slice pay pny pcy] _ _ HWR.out rfl rfl (fun ho=>c_ rfl (fun j u hu=>by rw[Go.WideShapes.add_plain,Nat.zero_add,aK hL m0];simpa using hu) (by intro u hu;simp only[List.mem_cons,List.not_mem_nil,or_false]at hu;rcases hu with rfl|rfl|rfl|rfl|rfl<;>rfl) (by omega) ho) ?_);intro LP3 a3 c3 W3 hL2 hr3;clear hL hF;have hL:=hL2;clear hL2;simp only[List.append_eq,List.cons_append,List.nil_append]at hL;have hF:=hL.fx))
         have hUP:Ins.up m tk y={y with a:=(ja:Int)+(tk:Int),b:=0}:=(by rw[iQ,if_pos H0.out,HJA.out,HJB.out];rfl);exact⟨⟨k+1,cv++[({y with a:=(ja:Int)+(tk:Int),b:=0},.slice pay pny pcy)],LP3,a3,c3,rfl,by go_num,by omega,yh (by rw[List.map_append,HWF.out,HY.out.1,hUP,List.append_assoc];rfl),yh (fun x hx=>by rcases List.mem_append.1 hx with hx|hx;exact HWP.out x hx;rw[List.mem_singleton.1 hx];exact HPY9.out),yh (by rw[List.flatMap_append];have h:=hr3;rw[<- HY.out.2]at h;exact h),hL.sub (sD (sD sR))⟩,by simp[intOf];omega⟩
        ·have e2:((jb:Int) != 0)=true:=by rw[bne_iff_ne];omega
         go_wp2_with (first|(with_reducible refine zS ?_;intro W hL hF)|(at_builtin;refine dQ ?_;clear hF hL;intro W hL;have hF:=hL.fx;(refine ah rfl _ _ 23 23 rfl [_,_,_] LW hL (m+k) 1 (cv.flatMap cJ) [.int .i64 (y.op:Int),.int .i64 ((ja:Int)+(tk:Int)),.int .i64 ((jb:Int)+(tk:Int)),.string uy,.slice pay pny pcy] _ _ HWR.out rfl rfl (fun ho=>c_ rfl (fun j u hu=>by rw[Go.WideShapes.add_plain,Nat.zero_add,aK hL m0];simpa using hu) (by intro u hu;simp only[List.mem_cons,List.not_mem_nil,or_false]at hu;rcases hu with rfl|rfl|rfl|rfl|rfl<;>rfl) (by omega) ho) ?_);intro LP3 a3 c3 W3 hL2 hr3;clear hL hF;have hL:=hL2;clear hL2;simp only[List.append_eq,List.cons_append,List.nil_append]at hL;have hF:=hL.fx))
         have hUP:Ins.up m tk y={y with a:=(ja:Int)+(tk:Int),b:=(jb:Int)+(tk:Int)}:=(by rw[iQ,if_pos H0.out,HJA.out,HJB.out,if_neg (by omega)]);exact⟨⟨k+1,cv++[({y with a:=(ja:Int)+(tk:Int),b:=(jb:Int)+(tk:Int)},.slice pay pny pcy)],LP3,a3,c3,rfl,by go_num,by omega,yh (by rw[List.map_append,HWF.out,HY.out.1,hUP,List.append_assoc];rfl),yh (fun x hx=>by rcases List.mem_append.1 hx with hx|hx;exact HWP.out x hx;rw[List.mem_singleton.1 hx];exact HPY9.out),yh (by rw[List.flatMap_append];have h:=hr3;rw[<- HY.out.2]at h;exact h),hL.sub (sD (sD sR))⟩,by simp[intOf];omega⟩
       ·have e1:((y.op:Int)==0)=false:=by rw[beq_eq_false_iff_ne];omega
        by_cases hp:fB y.op=true
        ·obtain⟨j,hj,hjl⟩:=zR HEB.out hym hp
         have hj3:j<=320010:=by have h:=HLN.out.2.1;unfold PS.n at h;omega
         rw[hj]at cy1;have HJA:=yh hj;have H0:=yh h0;have HPL:=yh hp;have hop:y.op=1\/y.op=2\/y.op=3\/y.op=13\/y.op=18\/y.op=20\/y.op=22:=by simpa[fB]using hp
         clear hj hjl h0 hp hym;rcases hop with h|h|h|h|h|h|h<;>(
         have o1:((y.op:Int)==1)=_:=congrArg (fun z:Nat=>((z:Int)==1)) h;have o2:((y.op:Int)==2)=_:=congrArg (fun z:Nat=>((z:Int)==2)) h;have o3:((y.op:Int)==3)=_:=congrArg (fun z:Nat=>((z:Int)==3)) h;have o4:((y.op:Int)==13)=_:=congrArg (fun z:Nat=>((z:Int)==13)) h;have o5:((y.op:Int)==18)=_:=congrArg (fun z:Nat=>((z:Int)==18)) h;have o6:((y.op:Int)==20)=_:=congrArg (fun z:Nat=>((z:Int)==20)) h;have o7:((y.op:Int)==22)=_:=congrArg (fun z:Nat=>((z:Int)==22)) h;have H:=yh h;clear h;go_wp2_with (first|(with_reducible refine zS ?_;intro W hL hF)|(at_builtin;refine dQ ?_;clear hF hL;intro W hL;have hF:=hL.fx;(refine ah rfl _ _ 23 23 rfl [_,_,_] LW hL (m+k) 1 (cv.flatMap cJ) [.int .i64 (y.op:Int),.int .i64 ((j:Int)+(nX:Int)-1),.int .i64 (y.b),.string uy,.slice pay pny pcy] _ _ HWR.out rfl rfl (fun ho=>c_ rfl (fun j u hu=>by rw[Go.WideShapes.add_plain,Nat.zero_add,aK hL m0];simpa using hu) (by intro u hu;simp only[List.mem_cons,List.not_mem_nil,or_false]at hu;rcases hu with rfl|rfl|rfl|rfl|rfl<;>rfl) (by omega) ho) ?_);intro LP3 a3 c3 W3 hL2 hr3;clear hL hF;have hL:=hL2;clear hL2;simp only[List.append_eq,List.cons_append,List.nil_append]at hL;have hF:=hL.fx))
         have hUP:Ins.up m tk y={y with a:=(j:Int)+(nX:Int)-1,b:=y.b}:=(by rw[iQ,if_neg H0.out,if_pos HPL.out,HJA.out,show(j:Int)+(m:Int)=(j:Int)+(nX:Int)-1 by have:=HM1.out;omega]);exact⟨⟨k+1,cv++[({y with a:=(j:Int)+(nX:Int)-1,b:=y.b},.slice pay pny pcy)],LP3,a3,c3,rfl,by go_num,by omega,yh (by rw[List.map_append,HWF.out,HY.out.1,hUP,List.append_assoc];rfl),yh (fun x hx=>by rcases List.mem_append.1 hx with hx|hx;exact HWP.out x hx;rw[List.mem_singleton.1 hx];exact HPY9.out),yh (by rw[List.flatMap_append];have h:=hr3;rw[<- HY.out.2]at h;exact h),hL.sub (sD (sD sR))⟩,by simp[intOf];omega⟩)
        ·have HPL:=yh hp
         have H0:=yh h0;have hop:((y.op:Int)==1)=false/\((y.op:Int)==2)=false/\((y.op:Int)==3)=false/\((y.op:Int)==13)=false/\((y.op:Int)==18)=false/\((y.op:Int)==20)=false/\((y.op:Int)==22)=false:=by
          simp only[fB,List.contains_cons,List.contains_nil,Bool.or_false,Bool.or_eq_true,beq_iff_eq,not_or]at hp;simp only[beq_eq_false_iff_ne];omega
         obtain⟨o1,o2,o3,o4,o5,o6,o7⟩:=hop;clear h0 hp hym;go_wp2_with (first|(with_reducible refine zS ?_;intro W hL hF)|(at_builtin;refine dQ ?_;clear hF hL;intro W hL;have hF:=hL.fx;(refine ah rfl _ _ 23 23 rfl [_,_,_] LW hL (m+k) 1 (cv.flatMap cJ) [.int .i64 (y.op:Int),.int .i64 (y.a),.int .i64 (y.b),.string uy,.slice pay pny pcy] _ _ HWR.out rfl rfl (fun ho=>c_ rfl (fun j u hu=>by rw[Go.WideShapes.add_plain,Nat.zero_add,aK hL m0];simpa using hu) (by intro u hu;simp only[List.mem_cons,List.not_mem_nil,or_false]at hu;rcases hu with rfl|rfl|rfl|rfl|rfl<;>rfl) (by omega) ho) ?_);intro LP3 a3 c3 W3 hL2 hr3;clear hL hF;have hL:=hL2;clear hL2;simp only[List.append_eq,List.cons_append,List.nil_append]at hL;have hF:=hL.fx))
         have hUP:Ins.up m tk y={y with a:=y.a,b:=y.b}:=(by rw[iQ,if_neg H0.out,if_neg HPL.out]);exact⟨⟨k+1,cv++[({y with a:=y.a,b:=y.b},.slice pay pny pcy)],LP3,a3,c3,rfl,by go_num,by omega,yh (by rw[List.map_append,HWF.out,HY.out.1,hUP,List.append_assoc];rfl),yh (fun x hx=>by rcases List.mem_append.1 hx with hx|hx;exact HWP.out x hx;rw[List.mem_singleton.1 hx];exact HPY9.out),yh (by rw[List.flatMap_append];have h:=hr3;rw[<- HY.out.2]at h;exact h),hL.sub (sD (sD sR))⟩,by simp[intOf];omega⟩
      ·have hkn:k=nY:=by omega
       have HZC:Hid (cv.map (·.1)=CZ):=yh (by
        rw[HWF.out,hkn,<- HNY.out,List.take_length];rcases pP HEA.out HEB.out with h|⟨_,h⟩
        ·rw[HEZ.out]at h;cases h
        ·rw[HCZ.out,HCY.out,HCL.out.2]at h
         rw[h,show itm (ta.cl 0 0)=tk by rw[<- HIT.out,HCL.out.1,bd];rfl])
       have HPW:Hid (∀W:World,Kn [] W3 W ((W3.heap.size,.cells #[.slice aZ nZ cZ] 25 (0,0))::LW)->PlanRow [] W (.slice aw (m+k) cw) CZ):=yh (fun W hk=>by
        have hl:cv.length=m+k:=by
         rcases HWR.out with⟨_,_,h0,h1⟩|⟨_,_,_,_,_,hr⟩
         ·have h2:=congrArg List.length h1
          rw[eQ]at h2;simp only[List.length_nil]at h2;omega
         ·have h:=hr.len;rw[eQ]at h;omega
        have h:=HWR.out;rw[<- hl]at h |-
        exact⟨cv,HZC.out,RowL.rowY dC h hk (fun p hp=>List.mem_cons_of_mem _ hp) (fun p _=>List.not_mem_nil),fun x hx=>(HWP.out x hx).at_ hk⟩)
       have HSM:=yh (fun(W:World) h1 h2=>ud CZ (by rw[HNZ.out];omega) (by rw[<- HCZ.out];exact HTA.out.2.2) (.slice aZ nZ cZ) (.slice aw (m+k) cw) W h1 h2);clear hkn;go_wp2_with (first|(with_reducible refine zS ?_;intro W hL hF)|(go_at_call 12;refine aj ?_;clear hF hL;intro W hL;have hF:=hL.fx;(with_reducible refine(HSM.out _ (HPZ.out.kn (Y:=[]) hL (fun y hy=>absurd hy List.not_mem_nil)) (HPW.out _ hL)).mono ?_);rintro e W ⟨rfl,hb⟩;replace hL:=hL.below hb;clear hb hF;have hF:=hL.fx))
       refine zF ?_;intro W hL hF;refine bodyPost_ret (by simp[results,Tryz.results3,go_sem, *];try rfl) rfl ?_;exact⟨rfl,(HB3.out.tail0 hL).below0⟩
theorem xo:∀a b:Ts,a.tg->b.tg->(a.app b).tg
 |.nil,b,_,h=>h
 |.cons x r,b,h,h2=>by simp only[Ts.app,Ts.tg]at h |-;exact⟨h.1,xo r b h.2 h2⟩
def SCE(s:ByteArray)(x:Int):Prop:=∀W:World,TabP W->Calls Tryz.prog 10 #[.string s] W fun e w'=>∃(ao:Option Addr) (n cap:Nat) (l:Int),e=.returned (.tuple #[.agg #[.slice ao n cap],.int .i64 x,.int .i64 l])/\Below W.heap.size W w'
theorem sB{s:ByteArray}{f:Bool}{m:Nat}(hp:ax s.data.toList=.err f m):∃x:Int,(x != 0)=true/\(f=true->x=6)/\SCE s x:=by
 refine⟨if f=true then 6 else 27,by cases f<;>rfl,fun h=>by rw[if_pos h],fun W hT=>(re s f m hp _ rfl W hT).mono ?_⟩
 rintro e w' ⟨rfl,hb⟩
 exact⟨none,0,0,_,rfl,hb⟩
theorem pS{s:ByteArray}{ts:Ts}(hp:ax s.data.toList=.ok ts.nds)(hok:ts.ok)(htg:ts.tg)(he:(aq ts).e≠0):SCE s ((aq ts).e:Int):=fun W hT=>(rf s ts _ hp rfl hok htg he W hT).mono (by
 rintro e w' ⟨rfl,hb⟩
 exact⟨none,0,0,_,rfl,hb⟩)
theorem Bs{s:ByteArray}{ts:Ts}(hp:ax s.data.toList=.ok ts.nds)(hok:ts.ok)(htg:ts.tg)(he:(aq ts).e=0):SCE s 0:=fun W hT=>(dJ s ts _ hp rfl hok htg he W hT).mono (by
 rintro e w' ⟨ao,cap,rfl,_,hb⟩
 exact⟨ao,_,cap,_,rfl,hb⟩)
theorem j8(s:ByteArray):(∃x:Int,(x != 0)=true/\SCE s x)\/∃ts:Ts,ax s.data.toList=.ok ts.nds/\ts.ok/\ts.tg/\(aq ts).e=0/\SCE s 0:=by
 cases hp:ax s.data.toList with
 |err f m=>
  obtain⟨x,h1,_,h2⟩:=sB hp;exact .inl ⟨x,h1,h2⟩
 |ok l=>
  obtain⟨ts,h1,h2⟩:=yP hp;have h3:=Ts.nz_nds ts;have h4:=Ts.nz_ok ts h2;have h5:=Ts.nz_tg ts;rw[<- h1,<- h3]at hp;by_cases h6:(aq ts.nz).e=0
  ·exact .inr ⟨ts.nz,by rw[h3,h1],h4,h5,h6,Bs hp h4 h5 h6⟩
  ·exact .inl ⟨((aq ts.nz).e:Int),by rw[bne_iff_ne];omega,pS hp h4 h5 h6⟩
theorem ny(a b:ByteArray)(hla:a.size<=1500)(hlb:b.size<=1500)(hbs:(a.data.toList.getLast? ==some 92)=false)(ex ey ez:Int)(HSX:Hid (SCE a ex))(HSY:Hid (SCE b ey))(HSZ:Hid (SCE (a++⟨#[10]⟩++b) ez))(hx:(ex != 0)=true)(w:World)(hT:TabP w):Calls Tryz.prog 3 #[.string a,.string b] w fun e w'=>e=.returned (.bool true)/\Below w.heap.size w w':=by
 have hmax:IntKind.i64.max=9223372036854775807:=rfl
 have m1:¬IntKind.i64.max<((a.size+(⟨#[10]⟩:ByteArray).size:Nat):Int):=by rw[hmax,show(⟨#[10]⟩:ByteArray).size=1 from rfl];omega
 have m2:¬IntKind.i64.max<(((a++⟨#[10]⟩).size+b.size:Nat):Int):=by rw[hmax,ByteArray.size_append,show(⟨#[10]⟩:ByteArray).size=1 from rfl];omega
 clear hmax
 have HT:=yh hT
 clear hT
 have p1:decide ((1500:Int)<(a.size:Int))=false:=decide_eq_false (by omega)
 have p2:decide ((1500:Int)<(b.size:Int))=false:=decide_eq_false (by omega)
 have hL:Kn [] w w []:=Kn.refl [] w
 have hF:=hL.fx
 go_enter Tryz.func3,Tryz.ntmps3
 go_upto_region 2 with((go_at_call 9;refine aj ?_;clear hF hL;intro W hL;have hF:=hL.fx;(with_reducible refine(ed _ (HT.out.ext hL.below0)).mono ?_);rintro e W ⟨rfl,hb⟩;replace hL:=hL.below hb;clear hb hF;have hF:=hL.fx))
 go_cut [43] (fun s wc=>s=.bool false/\Kn [] w wc [])
 case first=>
  by_cases h0:a.size=0
  ·have hn:a.data.toList=[]:=List.eq_nil_of_length_eq_zero (by rw[szl,h0])
   have q3:a.toList.isEmpty=true:=by rw[Lib.toList_data,hn];rfl
   clear hn h0;go_wp2;go_meet
   case rel=>exact⟨rfl,hL⟩
  ·obtain⟨n,hn⟩:∃n,a.size=n+1:=⟨a.size-1,by omega⟩
   have hlt9:n<a.size:=by omega
   obtain⟨c0,hc0⟩:∃c,a.data.toList[n]? =some c:=⟨_,List.getElem?_eq_getElem (by rw[szl];omega)⟩;have eb0:=bP hc0 hlt9;have hd0:a.data.toList.drop (n)=c0::a.data.toList.drop (n+1):=by
    obtain⟨h1,h2⟩:=List.getElem?_eq_some_iff.1 hc0;rw[List.drop_eq_getElem_cons h1,h2]
   have hl:a.data.toList.getLast? =some c0:=by
    rw[List.getLast?_eq_getElem?,szl,hn];exact hc0
   have q3:a.toList.isEmpty=false:=by
    rw[Lib.toList_data]
    cases h:a.data.toList with
    |nil=>rw[h]at hl;cases hl
    |cons x r=>rfl
   have p3:((c0.toNat:Int)==92)=false:=by
    rw[hl]at hbs;rw[<- hbs];by_cases h:c0=92
    ·subst h;rfl
    ·have h2:(some c0==some (92:UInt8))=false:=by simpa using h
     have h3:c0.toNat≠92:=fun e=>h (UInt8.toNat_inj.1 e)
     rw[h2];exact beq_false_of_ne (by omega)
   have p4:wrap64 ((a.size:Int)-1)=(n:Int):=by rw[IntWalk.wrap64_in _ (by omega)];omega
   have p5:(n:Int)<a.size:=by omega
   have p6:0<a.size:=by omega
   have p7:IntKind.i64.wrap ((a.size:Int)-1)=(n:Int):=by rw[IntWalk.i64_in _ (by omega)];omega
   clear hl hd0 h0 hbs hn;go_wp2;go_meet
   case rel=>exact⟨rfl,hL⟩
 case rest=>
  clear hL;obtain⟨rfl,hL⟩:=hcut;have hF:=hL.fx;unfold SCE at HSX HSY HSZ;go_upto_region 5 with((go_at_call 10;refine aj ?_;clear hF hL;intro W hL;have hF:=hL.fx;(with_reducible refine(HSX.out _ (HT.out.ext hL.below0)).mono ?_);rintro e W ⟨_,_,_,_,rfl,hb⟩;replace hL:=hL.below hb;clear hb hF;have hF:=hL.fx))
  go_upto_region 6 with((go_at_call 10;refine aj ?_;clear hF hL;intro W hL;have hF:=hL.fx;(with_reducible refine(HSY.out _ (HT.out.ext hL.below0)).mono ?_);rintro e W ⟨_,_,_,_,rfl,hb⟩;replace hL:=hL.below hb;clear hb hF;have hF:=hL.fx))
  go_upto_region 7 with((go_at_call 10;refine aj ?_;clear hF hL;intro W hL;have hF:=hL.fx;(with_reducible refine(HSZ.out _ (HT.out.ext hL.below0)).mono ?_);rintro e W ⟨_,_,_,_,rfl,hb⟩;replace hL:=hL.below hb;clear hb hF;have hF:=hL.fx))
  go_wp2;refine zF ?_;intro W hL hF;refine bodyPost_ret (by simp[results,Tryz.results3,go_sem, *];try rfl) rfl ?_;exact⟨rfl,hL.below0⟩
theorem nB(a b:ByteArray)(hla:a.size<=1500)(hlb:b.size<=1500)(hbs:(a.data.toList.getLast? ==some 92)=false)(ex ey ez:Int)(HSX:Hid (SCE a ex))(HSY:Hid (SCE b ey))(HSZ:Hid (SCE (a++⟨#[10]⟩++b) ez))(hx:ex=0)(hy:(ey != 0)=true)(w:World)(hT:TabP w):Calls Tryz.prog 3 #[.string a,.string b] w fun e w'=>e=.returned (.bool true)/\Below w.heap.size w w':=by
 subst hx
 have hmax:IntKind.i64.max=9223372036854775807:=rfl
 have m1:¬IntKind.i64.max<((a.size+(⟨#[10]⟩:ByteArray).size:Nat):Int):=by rw[hmax,show(⟨#[10]⟩:ByteArray).size=1 from rfl];omega
 have m2:¬IntKind.i64.max<(((a++⟨#[10]⟩).size+b.size:Nat):Int):=by rw[hmax,ByteArray.size_append,show(⟨#[10]⟩:ByteArray).size=1 from rfl];omega
 clear hmax
 have HT:=yh hT
 clear hT
 have p1:decide ((1500:Int)<(a.size:Int))=false:=decide_eq_false (by omega)
 have p2:decide ((1500:Int)<(b.size:Int))=false:=decide_eq_false (by omega)
 have hL:Kn [] w w []:=Kn.refl [] w
 have hF:=hL.fx
 go_enter Tryz.func3,Tryz.ntmps3
 go_upto_region 2 with((go_at_call 9;refine aj ?_;clear hF hL;intro W hL;have hF:=hL.fx;(with_reducible refine(ed _ (HT.out.ext hL.below0)).mono ?_);rintro e W ⟨rfl,hb⟩;replace hL:=hL.below hb;clear hb hF;have hF:=hL.fx))
 go_cut [43] (fun s wc=>s=.bool false/\Kn [] w wc [])
 case first=>
  by_cases h0:a.size=0
  ·have hn:a.data.toList=[]:=List.eq_nil_of_length_eq_zero (by rw[szl,h0])
   have q3:a.toList.isEmpty=true:=by rw[Lib.toList_data,hn];rfl
   clear hn h0;go_wp2;go_meet
   case rel=>exact⟨rfl,hL⟩
  ·obtain⟨n,hn⟩:∃n,a.size=n+1:=⟨a.size-1,by omega⟩
   have hlt9:n<a.size:=by omega
   obtain⟨c0,hc0⟩:∃c,a.data.toList[n]? =some c:=⟨_,List.getElem?_eq_getElem (by rw[szl];omega)⟩;have eb0:=bP hc0 hlt9;have hd0:a.data.toList.drop (n)=c0::a.data.toList.drop (n+1):=by
    obtain⟨h1,h2⟩:=List.getElem?_eq_some_iff.1 hc0;rw[List.drop_eq_getElem_cons h1,h2]
   have hl:a.data.toList.getLast? =some c0:=by
    rw[List.getLast?_eq_getElem?,szl,hn];exact hc0
   have q3:a.toList.isEmpty=false:=by
    rw[Lib.toList_data]
    cases h:a.data.toList with
    |nil=>rw[h]at hl;cases hl
    |cons x r=>rfl
   have p3:((c0.toNat:Int)==92)=false:=by
    rw[hl]at hbs;rw[<- hbs];by_cases h:c0=92
    ·subst h;rfl
    ·have h2:(some c0==some (92:UInt8))=false:=by simpa using h
     have h3:c0.toNat≠92:=fun e=>h (UInt8.toNat_inj.1 e)
     rw[h2];exact beq_false_of_ne (by omega)
   have p4:wrap64 ((a.size:Int)-1)=(n:Int):=by rw[IntWalk.wrap64_in _ (by omega)];omega
   have p5:(n:Int)<a.size:=by omega
   have p6:0<a.size:=by omega
   have p7:IntKind.i64.wrap ((a.size:Int)-1)=(n:Int):=by rw[IntWalk.i64_in _ (by omega)];omega
   clear hl hd0 h0 hbs hn;go_wp2;go_meet
   case rel=>exact⟨rfl,hL⟩
 case rest=>
  clear hL;obtain⟨rfl,hL⟩:=hcut;have hF:=hL.fx;unfold SCE at HSX HSY HSZ;go_upto_region 5 with((go_at_call 10;refine aj ?_;clear hF hL;intro W hL;have hF:=hL.fx;(with_reducible refine(HSX.out _ (HT.out.ext hL.below0)).mono ?_);rintro e W ⟨_,_,_,_,rfl,hb⟩;replace hL:=hL.below hb;clear hb hF;have hF:=hL.fx))
  go_upto_region 6 with((go_at_call 10;refine aj ?_;clear hF hL;intro W hL;have hF:=hL.fx;(with_reducible refine(HSY.out _ (HT.out.ext hL.below0)).mono ?_);rintro e W ⟨_,_,_,_,rfl,hb⟩;replace hL:=hL.below hb;clear hb hF;have hF:=hL.fx))
  go_upto_region 7 with((go_at_call 10;refine aj ?_;clear hF hL;intro W hL;have hF:=hL.fx;(with_reducible refine(HSZ.out _ (HT.out.ext hL.below0)).mono ?_);rintro e W ⟨_,_,_,_,rfl,hb⟩;replace hL:=hL.below hb;clear hb hF;have hF:=hL.fx))
  go_wp2;refine zF ?_;intro W hL hF;refine bodyPost_ret (by simp[results,Tryz.results3,go_sem, *];try rfl) rfl ?_;exact⟨rfl,hL.below0⟩
theorem iR(a b:ByteArray)(hla:a.size<=1500)(hlb:b.size<=1500)(hbs:(a.data.toList.getLast? ==some 92)=false)(ex ey ez:Int)(HSX:Hid (SCE a ex))(HSY:Hid (SCE b ey))(HSZ:Hid (SCE (a++⟨#[10]⟩++b) ez))(hx:ex=0)(hy:ey=0)(hz:ez=6)(w:World)(hT:TabP w):Calls Tryz.prog 3 #[.string a,.string b] w fun e w'=>e=.returned (.bool true)/\Below w.heap.size w w':=by
 subst hx hy hz
 have hmax:IntKind.i64.max=9223372036854775807:=rfl
 have m1:¬IntKind.i64.max<((a.size+(⟨#[10]⟩:ByteArray).size:Nat):Int):=by rw[hmax,show(⟨#[10]⟩:ByteArray).size=1 from rfl];omega
 have m2:¬IntKind.i64.max<(((a++⟨#[10]⟩).size+b.size:Nat):Int):=by rw[hmax,ByteArray.size_append,show(⟨#[10]⟩:ByteArray).size=1 from rfl];omega
 clear hmax
 have HT:=yh hT
 clear hT
 have p1:decide ((1500:Int)<(a.size:Int))=false:=decide_eq_false (by omega)
 have p2:decide ((1500:Int)<(b.size:Int))=false:=decide_eq_false (by omega)
 have hL:Kn [] w w []:=Kn.refl [] w
 have hF:=hL.fx
 go_enter Tryz.func3,Tryz.ntmps3
 go_upto_region 2 with((go_at_call 9;refine aj ?_;clear hF hL;intro W hL;have hF:=hL.fx;(with_reducible refine(ed _ (HT.out.ext hL.below0)).mono ?_);rintro e W ⟨rfl,hb⟩;replace hL:=hL.below hb;clear hb hF;have hF:=hL.fx))
 go_cut [43] (fun s wc=>s=.bool false/\Kn [] w wc [])
 case first=>
  by_cases h0:a.size=0
  ·have hn:a.data.toList=[]:=List.eq_nil_of_length_eq_zero (by rw[szl,h0])
   have q3:a.toList.isEmpty=true:=by rw[Lib.toList_data,hn];rfl
   clear hn h0;go_wp2;go_meet
   case rel=>exact⟨rfl,hL⟩
  ·obtain⟨n,hn⟩:∃n,a.size=n+1:=⟨a.size-1,by omega⟩
   have hlt9:n<a.size:=by omega
   obtain⟨c0,hc0⟩:∃c,a.data.toList[n]? =some c:=⟨_,List.getElem?_eq_getElem (by rw[szl];omega)⟩;have eb0:=bP hc0 hlt9;have hd0:a.data.toList.drop (n)=c0::a.data.toList.drop (n+1):=by
    obtain⟨h1,h2⟩:=List.getElem?_eq_some_iff.1 hc0;rw[List.drop_eq_getElem_cons h1,h2]
   have hl:a.data.toList.getLast? =some c0:=by
    rw[List.getLast?_eq_getElem?,szl,hn];exact hc0
   have q3:a.toList.isEmpty=false:=by
    rw[Lib.toList_data]
    cases h:a.data.toList with
    |nil=>rw[h]at hl;cases hl
    |cons x r=>rfl
   have p3:((c0.toNat:Int)==92)=false:=by
    rw[hl]at hbs;rw[<- hbs];by_cases h:c0=92
    ·subst h;rfl
    ·have h2:(some c0==some (92:UInt8))=false:=by simpa using h
     have h3:c0.toNat≠92:=fun e=>h (UInt8.toNat_inj.1 e)
     rw[h2];exact beq_false_of_ne (by omega)
   have p4:wrap64 ((a.size:Int)-1)=(n:Int):=by rw[IntWalk.wrap64_in _ (by omega)];omega
   have p5:(n:Int)<a.size:=by omega
   have p6:0<a.size:=by omega
   have p7:IntKind.i64.wrap ((a.size:Int)-1)=(n:Int):=by rw[IntWalk.i64_in _ (by omega)];omega
   clear hl hd0 h0 hbs hn;go_wp2;go_meet
   case rel=>exact⟨rfl,hL⟩
 case rest=>
  clear hL;obtain⟨rfl,hL⟩:=hcut;have hF:=hL.fx;unfold SCE at HSX HSY HSZ;go_upto_region 5 with((go_at_call 10;refine aj ?_;clear hF hL;intro W hL;have hF:=hL.fx;(with_reducible refine(HSX.out _ (HT.out.ext hL.below0)).mono ?_);rintro e W ⟨_,_,_,_,rfl,hb⟩;replace hL:=hL.below hb;clear hb hF;have hF:=hL.fx))
  go_upto_region 6 with((go_at_call 10;refine aj ?_;clear hF hL;intro W hL;have hF:=hL.fx;(with_reducible refine(HSY.out _ (HT.out.ext hL.below0)).mono ?_);rintro e W ⟨_,_,_,_,rfl,hb⟩;replace hL:=hL.below hb;clear hb hF;have hF:=hL.fx))
  go_upto_region 7 with((go_at_call 10;refine aj ?_;clear hF hL;intro W hL;have hF:=hL.fx;(with_reducible refine(HSZ.out _ (HT.out.ext hL.below0)).mono ?_);rintro e W ⟨_,_,_,_,rfl,hb⟩;replace hL:=hL.below hb;clear hb hF;have hF:=hL.fx))
  go_wp2;refine zF ?_;intro W hL hF;refine bodyPost_ret (by simp[results,Tryz.results3,go_sem, *];try rfl) rfl ?_;exact⟨rfl,hL.below0⟩
theorem pT(a b:ByteArray)(hla:1500<a.size)(w:World)(hT:TabP w):Calls Tryz.prog 3 #[.string a,.string b] w fun e w'=>e=.returned (.bool true)/\Below w.heap.size w w':=by
 have HT:=yh hT
 clear hT
 have p1:decide ((1500:Int)<(a.size:Int))=true:=decide_eq_true (by omega)
 have hL:Kn [] w w []:=Kn.refl [] w;have hF:=hL.fx;go_enter Tryz.func3,Tryz.ntmps3
 go_wp2_with (first|(with_reducible refine zS ?_;intro W hL hF)|(go_at_call 9;refine aj ?_;clear hF hL;intro W hL;have hF:=hL.fx;(with_reducible refine(ed _ (HT.out.ext hL.below0)).mono ?_);rintro e W ⟨rfl,hb⟩;replace hL:=hL.below hb;clear hb hF;have hF:=hL.fx))
 refine zF ?_;intro W hL hF
 refine bodyPost_ret (by simp[results,Tryz.results3,go_sem, *];try rfl) rfl ?_
 exact⟨rfl,hL.below0⟩
theorem pU(a b:ByteArray)(hla:a.size<=1500)(hlb:1500<b.size)(w:World)(hT:TabP w):Calls Tryz.prog 3 #[.string a,.string b] w fun e w'=>e=.returned (.bool true)/\Below w.heap.size w w':=by
 have HT:=yh hT
 clear hT
 have p1:decide ((1500:Int)<(a.size:Int))=false:=decide_eq_false (by omega)
 have p2:decide ((1500:Int)<(b.size:Int))=true:=decide_eq_true (by omega)
 have hL:Kn [] w w []:=Kn.refl [] w;have hF:=hL.fx;go_enter Tryz.func3,Tryz.ntmps3
 go_wp2_with (first|(with_reducible refine zS ?_;intro W hL hF)|(go_at_call 9;refine aj ?_;clear hF hL;intro W hL;have hF:=hL.fx;(with_reducible refine(ed _ (HT.out.ext hL.below0)).mono ?_);rintro e W ⟨rfl,hb⟩;replace hL:=hL.below hb;clear hb hF;have hF:=hL.fx))
 refine zF ?_;intro W hL hF
 refine bodyPost_ret (by simp[results,Tryz.results3,go_sem, *];try rfl) rfl ?_
 exact⟨rfl,hL.below0⟩
theorem pV(a b:ByteArray)(hla:a.size<=1500)(hlb:b.size<=1500)(hbs:(a.data.toList.getLast? ==some 92)=true)(w:World)(hT:TabP w):Calls Tryz.prog 3 #[.string a,.string b] w fun e w'=>e=.returned (.bool true)/\Below w.heap.size w w':=by
 have hmax:IntKind.i64.max=9223372036854775807:=rfl
 have m1:¬IntKind.i64.max<((a.size+(⟨#[10]⟩:ByteArray).size:Nat):Int):=by rw[hmax,show(⟨#[10]⟩:ByteArray).size=1 from rfl];omega
 have m2:¬IntKind.i64.max<(((a++⟨#[10]⟩).size+b.size:Nat):Int):=by rw[hmax,ByteArray.size_append,show(⟨#[10]⟩:ByteArray).size=1 from rfl];omega
 clear hmax
 have HT:=yh hT
 clear hT
 have p1:decide ((1500:Int)<(a.size:Int))=false:=decide_eq_false (by omega)
 have p2:decide ((1500:Int)<(b.size:Int))=false:=decide_eq_false (by omega)
 have hL:Kn [] w w []:=Kn.refl [] w
 have hF:=hL.fx
 go_enter Tryz.func3,Tryz.ntmps3
 go_upto_region 2 with((go_at_call 9;refine aj ?_;clear hF hL;intro W hL;have hF:=hL.fx;(with_reducible refine(ed _ (HT.out.ext hL.below0)).mono ?_);rintro e W ⟨rfl,hb⟩;replace hL:=hL.below hb;clear hb hF;have hF:=hL.fx))
 go_cut [43] (fun s wc=>s=.bool true/\Kn [] w wc [])
 case first=>
  by_cases h0:a.size=0
  ·have hn:a.data.toList=[]:=List.eq_nil_of_length_eq_zero (by rw[szl,h0])
   rw[hn]at hbs;cases hbs
  ·obtain⟨n,hn⟩:∃n,a.size=n+1:=⟨a.size-1,by omega⟩
   have hlt9:n<a.size:=by omega
   obtain⟨c0,hc0⟩:∃c,a.data.toList[n]? =some c:=⟨_,List.getElem?_eq_getElem (by rw[szl];omega)⟩;have eb0:=bP hc0 hlt9;have hd0:a.data.toList.drop (n)=c0::a.data.toList.drop (n+1):=by
    obtain⟨h1,h2⟩:=List.getElem?_eq_some_iff.1 hc0;rw[List.drop_eq_getElem_cons h1,h2]
   have hl:a.data.toList.getLast? =some c0:=by
    rw[List.getLast?_eq_getElem?,szl,hn];exact hc0
   have q3:a.toList.isEmpty=false:=by
    rw[Lib.toList_data]
    cases h:a.data.toList with
    |nil=>rw[h]at hl;cases hl
    |cons x r=>rfl
   have p3:((c0.toNat:Int)==92)=true:=by
    rw[hl]at hbs;rw[<- hbs];by_cases h:c0=92
    ·subst h;rfl
    ·have h2:(some c0==some (92:UInt8))=false:=by simpa using h
     have h3:c0.toNat≠92:=fun e=>h (UInt8.toNat_inj.1 e)
     rw[h2];exact beq_false_of_ne (by omega)
   have p4:wrap64 ((a.size:Int)-1)=(n:Int):=by rw[IntWalk.wrap64_in _ (by omega)];omega
   have p5:(n:Int)<a.size:=by omega
   have p6:0<a.size:=by omega
   have p7:IntKind.i64.wrap ((a.size:Int)-1)=(n:Int):=by rw[IntWalk.i64_in _ (by omega)];omega
   clear hl hd0 h0 hbs hn;go_wp2;go_meet
   case rel=>exact⟨rfl,hL⟩
 case rest=>
  clear hL;obtain⟨rfl,hL⟩:=hcut;have hF:=hL.fx;go_wp2;refine zF ?_;intro W hL hF;refine bodyPost_ret (by simp[results,Tryz.results3,go_sem, *];try rfl) rfl ?_;exact⟨rfl,hL.below0⟩
theorem ui(a b:ByteArray)(w:World)(hT:TabP w):Calls Tryz.prog 3 #[.string a,.string b] w fun e w'=>e=.returned (.bool true)/\Below w.heap.size w w':=by
 by_cases hla:1500<a.size
 ·exact pT a b hla w hT
 by_cases hlb:1500<b.size
 ·exact pU a b (by omega) hlb w hT
 have hla:a.size<=1500:=by omega
 have hlb:b.size<=1500:=by omega
 cases hbs:(a.data.toList.getLast? ==some 92)with
 |true=>exact pV a b hla hlb hbs w hT
 |false=>
  have hzz:∃ez,SCE (a++⟨#[10]⟩++b) ez:=by
   rcases j8 (a++⟨#[10]⟩++b)with⟨z,_,h⟩|⟨_,_,_,_,_,h⟩<;>exact⟨_,h⟩
  obtain⟨ez,hz⟩:=hzz;rcases j8 a with⟨x,hx,hX⟩|⟨ta,a1,a2,a3,a4,hX⟩
  ·have hy:∃ey,SCE b ey:=by
    rcases j8 b with⟨z,_,h⟩|⟨_,_,_,_,_,h⟩<;>exact⟨_,h⟩
   obtain⟨ey,hY⟩:=hy;exact ny a b hla hlb hbs x ey ez (yh hX) (yh hY) (yh hz) hx w hT
  ·rcases j8 b with⟨y,hy,hY⟩|⟨tb,b1,b2,b3,b4,hY⟩
   ·exact nB a b hla hlb hbs 0 y ez (yh hX) (yh hY) (yh hz) rfl hy w hT
   ·have hdz:(a++⟨#[10]⟩++b).data.toList=a.data.toList++10::b.data.toList:=by simp
    have hZ:=rg (a:=a.data.toList) (b:=b.data.toList) (by rw[szl,szl];omega) (by simpa using hbs) a1 b1;rw[<- hdz]at hZ;rcases hZ with hp|⟨m,hp⟩
    ·rw[<- sk]at hp
     have o2:=wS ta tb a2 b2;have o3:=xo ta tb a3 b3;rcases pP a4 b4 with h6|⟨h6,_⟩
     ·have h7:=pS hp o2 o3 (by rw[h6];decide)
      rw[h6]at h7;exact iR a b hla hlb hbs 0 0 6 (yh hX) (yh hY) (yh h7) rfl rfl rfl w hT
     ·exact rj a b hla hlb hbs ta tb a1 b1 hp ⟨a2,a3⟩ ⟨b2,b3⟩ ⟨o2,o3⟩ a4 b4 h6 w hT
    ·obtain⟨x,_,h1,h2⟩:=sB hp
     exact iR a b hla hlb hbs 0 0 x (yh hX) (yh hY) (yh h2) rfl rfl (h1 rfl) w hT
end Go.Proofs.YtgboffbbpmileaaGreatDoor
