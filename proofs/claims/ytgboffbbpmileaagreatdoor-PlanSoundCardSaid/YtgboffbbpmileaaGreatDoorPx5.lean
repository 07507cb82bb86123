/- Lemmas and walks for the law VLawPSound (part 5). -/
import Derived.Test.YtgboffbbpmileaaGreatDoorPx4
import Derived.Test.YtgboffbbpmileaaGreatDoorProg
import Derived.WalkKit
import Derived.Handy
import Derived.Deep.Light
import Derived.WalkSmall
import Derived.StillTailTactics
import Derived.Lib.Hide
import Derived.Deep.LoopGhost
import Derived.Deep.DeepCutAuto
import Derived.Defers
import Derived.Recover
import Derived.Laws.Pointers
set_option maxRecDepth 20000
set_option maxHeartbeats 4000000
set_option linter.unusedVariables false
set_option linter.unusedSimpArgs false
namespace Go.Proofs.YtgboffbbpmileaaGreatDoor
open Go Go.RowKit
section
theorem Kn.selfS{X:List Nat}{w0 W:World}{b:Nat}{o:Obj}{A LO:List (Nat×Obj)}(h:Kn X w0 W (A++((b,o)::LO))):Kn (b::keys LO) W W ((b,o)::LO):=(h.sub (List.sublist_append_right A _)).self0
theorem Kn.joinS{X:List Nat}{w0 W W':World}{b:Nat}{o:Obj}{A LO L':List (Nat×Obj)}(h:Kn X w0 W (A++((b,o)::LO)))(k:Kn (b::keys LO) W W' L'):Kn X w0 W' (A++L'):=by
 have:=Kn.joinA (P:=(b,o)::LO) (P':=L') A [] (by simpa using h) k
 simpa using this
theorem lD(l:ab)(fd:Int)(n0 n:Nat):∃t r m,ioS l fd n0 n=.tok t r m:=by
 unfold ioS;split<;>exact⟨_,_,_,rfl⟩
theorem mU(ps:List Prt):(bn ps).length<=tot ps:=by
 match ps with
 | []=>exact Nat.zero_le _
 | [x]=>simp only[bn];split<;>simp[tot]
 |_::_::_=>exact Nat.zero_le _
theorem TPost.lift{src:ByteArray}{b:Nat}{X:List Nat}{w W w':World}{o:Obj}{v:Value}{A LO:List (Nat×Obj)}{tvs:List (Tok×Value)}{s:Step}{e:Ending}(h:Kn X w W (A++((b,o)::LO)))(k:TPost src b (b::keys LO) W v LO tvs s e w'):TPost src b X w v LO tvs s e w':=by
 have up:∀L',Kn (b::keys LO) W w' L'->Kn X w w' L':=fun L' k=>(h.joinS k).sub (List.sublist_append_right A _)
 unfold TPost at k |-
 split at k
 ·obtain⟨h1,at2,h2,h3,h4⟩:=k
  exact⟨h1,at2,h2,h3,up _ h4⟩
 ·exact⟨k.1,up _ k.2⟩
 ·split at k
  ·rename_i hf
   rw[if_pos hf];obtain⟨h1,at2,v2,LO2,pv,LP,h2,h3,h4,h5,h6⟩:=k;exact⟨h1,at2,v2,LO2,pv,LP,h2,h3,h4,h5,up _ h6⟩
  ·rename_i hf
   rw[if_neg hf];exact⟨k.1,up _ k.2⟩
theorem vP(src:ByteArray)(hs0:src.size<=10000)(v:Value)(b:Nat)(at0 ln0:Nat)(w:World)(LO:List (Nat×Obj))(tvs:List (Tok×Value))(hL:Kn (b::keys LO) w w ((b,.cells #[.string src,.int .i64 (at0),.int .i64 (ln0),v] 111 (0,0))::LO))(hO:gf LO v tvs)(hz:ln0<=at0+1)(hat:at0<=src.size):
    Calls Tryz.prog 85 #[.pointer (some ⟨b,0,none⟩)] w (TPost src b (b::keys LO) w v LO tvs (mT ln0 (wrd ([],src.data.toList.drop at0,ln0)))):=by
  have hsl:=szl src;have hs:src.size<=100000:=by omega
  obtain⟨V,hV⟩:∃V,wrd ([],src.data.toList.drop at0,ln0)=V:=⟨_,rfl⟩;rw[hV];have HV:=yh hV;clear hV;have hF:=hL.fx;go_enter Tryz.func85,Tryz.ntmps85;go_wp2;refine zE ?_;intro W hL hF;clear hF;generalize hq:w.heap.size+1=q at hL |-
  generalize hkt:w.heap.size=kt at hL |-
  have hqk:q=kt+1:=by omega
  have HQK:=yh hqk;clear hq hkt hqk;go_loopg [] (src.size-at0) (fun k wr=>∃(at_ ln:Nat) (pv:Value) (LP:List (Nat×Obj)) (ps:List Prt),Hid (k=src.size-at_)/\at_<=src.size/\Hid (Sz at_ ln ps)/\PtL LP pv ps/\Kn (b::keys LO) w wr ((b,.cells #[.string src,.int .i64 (at_),.int .i64 (ln),v] 111 (0,0))::(q,.cells #[pv] 135 (0,0))::(LP++(kt,.cells #[.int .i64 0,.string ⟨#[]⟩,.string ⟨#[]⟩,.slice none 0 0,.int .i64 (-1),.int .i64 ln0] 76 (0,0))::LO))/\Hid (wrd (ps,src.data.toList.drop at_,ln)=V))
  case atStart=>
    refine⟨at0,ln0,.slice none 0 0,[],[],yh rfl,hat,yh ⟨by simp[sz,tot],hz⟩,.inl ⟨rfl,rfl,rfl⟩,hL.perm fun p=>?_,HV⟩;simp only[List.countP_cons,List.countP_append,List.countP_nil];omega
  case round=>
    clear hL HV;obtain⟨at_,ln,pv,LP,ps,HK,hle,HZ,hP,hL,HV⟩:=hrel;obtain⟨b1,b2,b3⟩:=HZ.out.le hle hs0;obtain⟨l,hl⟩:∃l,src.data.toList.drop at_=l:=⟨_,rfl⟩;have hll:l.length=src.size-at_:=by rw[<- hl,List.length_drop,hsl]
    obtain⟨cont,hcont⟩:∃cont:Bool,mR l=cont:=⟨_,rfl⟩;have HC:=yh hcont;have HLL:=yh hl;rw[hl]at HV;clear hcont;have hF:=hL.fx;go_upto_region 2 with fail
    go_cut [33] (fun s wc=>s=.bool cont/\Kn (b::keys LO) w wc ((b,.cells #[.string src,.int .i64 (at_),.int .i64 (ln),v] 111 (0,0))::(q,.cells #[pv] 135 (0,0))::(LP++(kt,.cells #[.int .i64 0,.string ⟨#[]⟩,.string ⟨#[]⟩,.slice none 0 0,.int .i64 (-1),.int .i64 ln0] 76 (0,0))::LO)))
    case first=>
      cases l with
      |nil=>
        have hae:¬(at_:Int)<src.size:=by simp at hll;omega
        obtain rfl:false=cont:=HC.out;go_wp2_with ((with_reducible refine ac 2 ?_);refine zX [0,1,2,3,4,5,6,7,8,9,10,11,12,13,14,15,16,17,18,19,20,21,22] [20] ?_;clear hF hL;intro ι F hne hC hG;(repeat(first|(refine cS ?_;simp only[Act.put,zT])|((first|refine cF hC ?_|refine cP ?_);intro K hK;go_big_quiet_op;go_big_quiet_on)));refine zN ?_;clear hC hG;intro W hL hF)
        go_meet
        case rel=>exact⟨rfl,hL⟩
      |cons c0 t=>
        obtain⟨d1,d2,d3⟩:=b7 hl;rw[hsl]at d3;have hlt:=d3;have eb0:=bY d1 d3;obtain⟨r,hr⟩:∃r,Lib.indexByte [32,9,10,124,38,59,40,41,60,62] c0=r:=⟨_,rfl⟩;have hI:Hid (∀W,Calls Tryz.prog 81 #[.string ⟨#[32,9,10,124,38,59,40,41,60,62]⟩,.int .u8 c0.toNat] W fun x w'=>x=.returned (.int .i64 r)/\w'=W):=yh fun W=>bZ _ c0 r hr _ rfl W
        have hsp:=vJ c0;rw[hr]at hsp;by_cases h0:r<0
        · obtain rfl:true=cont:=by rw[<- HC.out];simpa[h0,mR]using hsp.symm
          clear hsp hr d1 d2 hl hll;go_wp2_with (first|(with_reducible refine zS ?_;intro W hL hF)|((with_reducible refine ac 2 ?_);refine zX [0,1,2,3,4,5,6,7,8,9,10,11,12,13,14,15,16,17,18,19,20,21,22] [20] ?_;clear hF hL;intro ι F hne hC hG;(repeat(first|(refine cS ?_)|((first|refine cF hC ?_|refine cP ?_);intro K hK;go_big_quiet_op;go_big_quiet_on)|(refine cD ?_;intro W hL hF;go_at_call 81;(with_reducible refine(hI.out _).mono ?_);rintro e W' ⟨rfl,rfl⟩;refine zB ?_;clear hL hF hC hG;intro ι F hne hC hG;simp only[Act.put,zT])|(refine cM ?_;intro W hL hF;go_wp2;refine zB2 ?_;clear hL hC hG;intro ι F hne hC hG)));refine zN ?_;clear hC hG;intro W hL hF))
          go_meet
          case rel=>exact⟨rfl,hL⟩
        · obtain rfl:false=cont:=by rw[<- HC.out];simpa[h0,mR]using hsp.symm
          clear hsp hr d1 d2 hl hll;go_wp2_with (first|(with_reducible refine zS ?_;intro W hL hF)|((with_reducible refine ac 2 ?_);refine zX [0,1,2,3,4,5,6,7,8,9,10,11,12,13,14,15,16,17,18,19,20,21,22] [20] ?_;clear hF hL;intro ι F hne hC hG;(repeat(first|(refine cS ?_)|((first|refine cF hC ?_|refine cP ?_);intro K hK;go_big_quiet_op;go_big_quiet_on)|(refine cD ?_;intro W hL hF;go_at_call 81;(with_reducible refine(hI.out _).mono ?_);rintro e W' ⟨rfl,rfl⟩;refine zB ?_;clear hL hF hC hG;intro ι F hne hC hG;simp only[Act.put,zT])|(refine cM ?_;intro W hL hF;go_wp2;refine zB2 ?_;clear hL hC hG;intro ι F hne hC hG)));refine zN ?_;clear hC hG;intro W hL hF))
          go_meet
          case rel=>exact⟨rfl,hL⟩
    case rest=>
    clear hL;obtain⟨rfl,hL⟩:=hcut;have hF:=hL.fx
    cases cont with
    |true=>
      obtain⟨c0,t,hd0,hs1⟩:∃c0 t,l=c0::t/\ends c0=false:=by
        have:=HC.out
        cases l with
        |nil=>cases this
        |cons c0 t=>exact⟨c0,t,rfl,by simpa[mR]using this⟩
      subst hd0;have hst:=sY ps c0 t ln hs1;rw[HV.out]at hst
      cases hpc:aV ps c0 t ln with
      |bad m=>
        have HD:Hid (∀W,Kn (b::q::keys LP) W W ((b,.cells #[.string src,.int .i64 (at_),.int .i64 (ln),v] 111 (0,0))::(q,.cells #[pv] 135 (0,0))::LP)->Calls Tryz.prog 102 #[.pointer (some ⟨b,0,none⟩),.pointer (some ⟨q,0,none⟩)] W fun e w'=>e=.panicked [{v:=.iface 107 (.agg #[.int .i64 27,.int .i64 m]),recovered:=false}]/\Kn (b::q::keys LP) W w' []):=yh fun W hK=>by
          have:=mP src hs0 v b q at_ ln pv LP ps W hK hP HZ.out c0 _ hl hs1;rw[hpc]at this;exact this
        rw[hpc]at hst;have HVV:=yh hst;clear hst hpc hl;go_wp2_with ((go_at_call 102;(with_reducible refine zM (fun W hL=>HD.out _ hL.selfbqR) ?_);rintro W hL e W2 ⟨rfl,hb⟩;replace hL:=hL.joinbqR hb;clear hb hP;simp only[kfb]at hL;have hF:=hL.fx))
        rw[HVV.out];exact⟨rfl,rfl,hL.sub sN⟩
      |ok x=>
        obtain⟨ps2,r2,ln2⟩:=x;have hdz:=eO hpc;have HD:Hid (∀W,Kn (b::q::keys LP) W W ((b,.cells #[.string src,.int .i64 (at_),.int .i64 (ln),v] 111 (0,0))::(q,.cells #[pv] 135 (0,0))::LP)->Calls Tryz.prog 102 #[.pointer (some ⟨b,0,none⟩),.pointer (some ⟨q,0,none⟩)] W fun e w'=>e=.returned (.tuple #[])/\∃(at2:Nat) (pv2:Value) (LP2:List (Nat×Obj)),at2<=src.size/\Hid (src.data.toList.drop at2=r2)/\PtL LP2 pv2 ps2/\Kn (b::q::keys LP) W w' ((b,.cells #[.string src,.int .i64 (at2),.int .i64 (ln2),v] 111 (0,0))::(q,.cells #[pv2] 135 (0,0))::LP2)):=yh fun W hK=>by
          have:=mP src hs0 v b q at_ ln pv LP ps W hK hP HZ.out c0 _ hl hs1;rw[hpc]at this;exact this
        rw[hpc]at hst;have HVV:=yh hst.symm;have HDZ:=yh hdz;have HL2:=yh hll;clear hst hpc hl hdz hll;go_wp2_with ((go_at_call 102;(with_reducible refine zM (fun W hL=>HD.out _ hL.selfbqR) ?_);rintro W hL e W2 ⟨rfl,at2,pv2,LP2,ha2,hr2,hP2,hb⟩;replace hL:=hL.joinbqR hb;clear hb hP;have hP:=hP2;clear hP2;simp only[List.cons_append]at hL;have hF:=hL.fx))
        have hlen:r2.length=src.size-at2:=by rw[<- hr2.out,List.length_drop,hsl]
        have hdz:=HDZ.out;have hll:=HL2.out;simp only[List.length_cons]at hll;simp only[hlen]at hdz;go_roundg (src.size-(at2))
        case measure=>have:=HK.out;omega
        case rel=>exact⟨at2,ln2,pv2,LP2,_,yh rfl,by omega,yh (by obtain⟨h2,h3⟩:=HZ.out;exact⟨by omega,by omega⟩),hP,hL,yh (by rw[hr2.out];exact HVV.out)⟩
    |false=>
      have hVe:V=.ok (ps,l,ln):=by
        have:=HC.out
        cases l with
        |nil=>rw[<- HV.out,vK]
        |cons c0 t=>rw[<- HV.out,vL _ _ _ _ (by simpa[mR]using this)]
      have HVE:=yh hVe;clear hVe hl;replace hL:=hL.perm (L':=(kt,.cells #[.int .i64 0,.string ⟨#[]⟩,.string ⟨#[]⟩,.slice none 0 0,.int .i64 (-1),.int .i64 ln0] 76 (0,0))::(q,.cells #[pv] 135 (0,0))::(b,.cells #[.string src,.int .i64 (at_),.int .i64 (ln),v] 111 (0,0))::(LP++LO)) (fun p=>by simp only[List.countP_cons,List.countP_append,List.countP_nil];omega);go_upto_region 4 with fail
      go_cut [] (fun wc=>Kn (b::keys LO) w wc ((kt,.cells #[.int .i64 0,.string ⟨#[]⟩,.string ⟨#[]⟩,pv,.int .i64 (-1),.int .i64 ln0] 76 (0,0))::(q,.cells #[pv] 135 (0,0))::(b,.cells #[.string src,.int .i64 (at_),.int .i64 (ln),v] 111 (0,0))::(LP++LO)))
      case first=>
        rcases hP with⟨rfl,rfl,rfl⟩|⟨g,cap,cur,rfl,rfl,hr⟩
        · simp only[kfb]at hL;have hF:=hL.fx
          go_wp2;go_meet
          case rel=>exact sU rfl
        · simp only[kfb]at hL;have hF:=hL.fx
          go_wp2;go_meet
          case rel=>exact sU rfl
      case rest=>
      clear hL;have hL:=hcut;clear hcut;have hF:=hL.fx;go_upto_region 5 with fail
      obtain⟨pb,hpb⟩:∃pb,fM ps=pb:=⟨_,rfl⟩;have HPB:=yh hpb;clear hpb;go_cut [54] (fun s wc=>s=.bool pb/\Kn (b::keys LO) w wc ((kt,.cells #[.int .i64 0,.string ⟨#[]⟩,.string ⟨#[]⟩,pv,.int .i64 (-1),.int .i64 ln0] 76 (0,0))::(q,.cells #[pv] 135 (0,0))::(b,.cells #[.string src,.int .i64 (at_),.int .i64 (ln),v] 111 (0,0))::(LP++LO)))
      case first=>
        have hP1:=hP;rcases hP with⟨rfl,rfl,rfl⟩|⟨g,cap,cur,rfl,rfl,hr⟩
        · obtain rfl:false=pb:=HPB.out
          simp only[kfb]at hL;have hF:=hL.fx;go_wp2;go_meet
          case rel=>exact⟨rfl,hL⟩
        · clear hP1
          match ps,hr,hL,HPB with
          | [],hr,hL,HPB=>
            obtain rfl:false=pb:=HPB.out;simp only[kfb]at hL;have hF:=hL.fx;go_wp2;go_meet
            case rel=>exact⟨rfl,hL⟩
          | [x],hr,hL,HPB=>
            have c0:cur[0]? =some (.int .i64 x.k):=hr.get rfl;have c1:cur[1]? =some (bs x.t):=hr.get rfl;have c2:cur[2]? =some (.bool x.q):=hr.get rfl;by_cases hk:x.k=0
            · have b0:((x.k:Int)==0)=true:=by simp[hk]
              cases hq:x.q with
              |false=>
                obtain rfl:true=pb:=by rw[<- HPB.out];simp[fM,hk,hq]
                rw[hq]at c2;simp only[kfb]at hL;have hF:=hL.fx;go_wp2;go_meet
                case rel=>exact⟨rfl,hL⟩
              |true=>
                obtain rfl:false=pb:=by rw[<- HPB.out];simp[fM,hk,hq]
                rw[hq]at c2;simp only[kfb]at hL;have hF:=hL.fx;go_wp2;go_meet
                case rel=>exact⟨rfl,hL⟩
            · have b0:((x.k:Int)==0)=false:=beq_false_of_ne (by omega)
              obtain rfl:false=pb:=by rw[<- HPB.out];simp[fM,hk]
              simp only[kfb]at hL;have hF:=hL.fx;go_wp2;go_meet
              case rel=>exact⟨rfl,hL⟩
          |x::y::z,hr,hL,HPB=>
            obtain rfl:false=pb:=HPB.out;have hn2:(((x::y::z).length:Int)==1)=false:=beq_false_of_ne (by simp;omega);have hn3:((z.length:Int)+1+1==1)=false:=beq_false_of_ne (by omega);simp only[kfb]at hL;have hF:=hL.fx;go_wp2;go_meet
            case rel=>exact⟨rfl,hL⟩
      case rest=>
      clear hL;obtain⟨rfl,hL⟩:=hcut;have hF:=hL.fx;go_upto_if 54 with fail
      go_cut [] (fun wc=>∃P:ByteArray,Hid (P.data.toList=bn ps)/\Kn (b::keys LO) w wc ((kt,.cells #[.int .i64 0,.string ⟨#[]⟩,.string P,pv,.int .i64 (-1),.int .i64 ln0] 76 (0,0))::(q,.cells #[pv] 135 (0,0))::(b,.cells #[.string src,.int .i64 (at_),.int .i64 (ln),v] 111 (0,0))::(LP++LO)))
      case first=>
        cases pb with
        |false=>
          have HPL:=lC HPB.out;have HPL2:=yh HPL;clear HPL;go_wp2;go_meet
          case rel=>exact⟨⟨#[]⟩,yh HPL2.out.symm,hL⟩
        |true=>
          obtain⟨x,rfl,hk,hq,hpl⟩:=mS HPB.out;rcases hP with⟨_,_,h⟩|⟨g,cap,cur,rfl,rfl,hr⟩
          · cases h
          obtain⟨u,hu⟩:∃u:ByteArray,bs x.t=.string u:=⟨_,rfl⟩;have c1:cur[1]? =some (bs x.t):=hr.get rfl;rw[hu]at c1;have HPL:Hid (u.data.toList=bn [x]):=yh (by
            rw[hpl];simp only[bs,Value.string.injEq]at hu;rw[<- hu])
          clear hu hpl hk hq;simp only[kfb]at hL;have hF:=hL.fx;go_wp2;go_meet
          case rel=>exact⟨u,HPL,sU rfl⟩
      case rest=>
      clear hL;obtain⟨P,HPL,hL⟩:=hcut;have hPs:P.size<=1000000:=by
        have:=mU ps;rw[<- szl,HPL.out];omega
      have hln:ln<=100000:=b1;have hpv:=hP.one;have hF:=hL.fx
      cases hnum:cO P.data.toList with
      |none=>
        have hN:Hid (∀(kd:Int) (tx:ByteArray) (fd ln:Int) W,Calls Tryz.prog 103 #[.agg #[.int .i64 kd,.string tx,.string P,pv,.int .i64 fd,.int .i64 ln]] W fun e w'=>e=.returned (.tuple #[.int .i64 0,.bool false])/\Below W.heap.size W w'):=yh fun kd tx fd ln W=>by
          have:=kM kd tx P pv fd ln hPs W;rw[hnum]at this;exact this
        have hst:mT ln0 V=.tok ⟨0,[],bn ps,ps,-1,ln0⟩ l ln:=by
          rw[HVE.out];show(match cO (bn ps)with|some fd=>_|none=>_)=_
          rw[<- HPL.out,hnum]
        have HST:=yh hst;clear hst hnum;by_cases hf:tvs.length<2000
        all_goals
          go_wp2_with (first|(go_at_call 103;refine zC (fun W hL=>hN.out _ _ _ _ _) ?_;intro W hL hF)|(go_at_call 100;refine zG ?_;intro W hL hF;have hL3:=hL.perm (L':=((kt,.cells #[.int .i64 0,.string ⟨#[]⟩,.string P,pv,.int .i64 (-1),.int .i64 ln0] 76 (0,0))::(q,.cells #[pv] 135 (0,0))::LP)++((b,.cells #[.string src,.int .i64 (at_),.int .i64 (ln),v] 111 (0,0))::LO)) (fun p=>by simp only[List.countP_cons,List.countP_append,List.countP_nil];omega);(with_reducible refine(jc src hs0 v b at_ ln _ LO tvs hL3.selfS hO hln 0 ⟨#[]⟩ P pv hpv ps (-1) ln0 _ _ (by omega) (by omega) hf).mono ?_);rintro e W2 ⟨rfl,v2,LO2,hO2,hb⟩;replace hL:=hL3.joinS hb;clear hL3 hb hF;simp only[kfb]at hL;have hF:=hL.fx)|(go_at_call 100;refine zG ?_;intro W hL hF;have hL3:=hL.perm (L':=((kt,.cells #[.int .i64 0,.string ⟨#[]⟩,.string P,pv,.int .i64 (-1),.int .i64 ln0] 76 (0,0))::(q,.cells #[pv] 135 (0,0))::LP)++((b,.cells #[.string src,.int .i64 (at_),.int .i64 (ln),v] 111 (0,0))::LO)) (fun p=>by simp only[List.countP_cons,List.countP_append,List.countP_nil];omega);(with_reducible refine(jd src hs0 v b at_ ln _ LO tvs hL3.selfS hO hln 0 ⟨#[]⟩ P pv (-1) ln0 _ _ (by omega) (by omega) hf).mono ?_);rintro e W2 ⟨rfl,hb⟩;replace hL:=hL3.joinS hb;clear hL3 hb hF;simp only[kfb]at hL;have hF:=hL.fx))
          first|(go_end0)|(refine⟨rfl,?_⟩)
          rw[HST.out];unfold TPost;simp only[hf,if_true,if_false];first
          | (refine⟨trivial,at_,v2,LO2,pv,LP,hle,HLL.out,?_,hP,?_⟩
             · rw[<- HPL.out];exact hO2
             · have hL4:=hL.perm (L':=(kt,.cells #[.int .i64 0,.string ⟨#[]⟩,.string P,pv,.int .i64 (-1),.int .i64 ln0] 76 (0,0))::(q,.cells #[pv] 135 (0,0))::(b,.cells #[.string src,.int .i64 (at_),.int .i64 (ln),v2] 111 (0,0))::(LO2++LP)) (fun p=>by simp only[List.countP_cons,List.countP_append,List.countP_nil];omega)
               exact hL4.drop1.drop1)
          | (exact⟨trivial,hL.sub sN⟩)
      |some fd=>
        have hN:Hid (∀(kd:Int) (tx:ByteArray) (fd0 ln:Int) W,Calls Tryz.prog 103 #[.agg #[.int .i64 kd,.string tx,.string P,pv,.int .i64 fd0,.int .i64 ln]] W fun e w'=>e=.returned (.tuple #[.int .i64 fd,.bool true])/\Below W.heap.size W w'):=yh fun kd tx fd0 ln W=>by
          have:=kM kd tx P pv fd0 ln hPs W;rw[hnum]at this;exact this
        have hst:mT ln0 V=if l.head? =some 60\/l.head? =some 62 then ioS l fd ln0 ln else .tok ⟨0,[],bn ps,ps,-1,ln0⟩ l ln:=by
          rw[HVE.out];show(match cO (bn ps)with|some fd=>_|none=>_)=_
          rw[<- HPL.out,hnum]
        clear hnum;have hA0:Lib.hasPrefix (src.data.toList.drop at_) (⟨#[60]⟩:ByteArray).data.toList=decide (l.head? =some 60):=by rw[HLL.out];exact hp1 l 60
        have hB0:Lib.hasPrefix (src.data.toList.drop at_) (⟨#[62]⟩:ByteArray).data.toList=decide (l.head? =some 62):=by rw[HLL.out];exact hp1 l 62
        by_cases hA1:l.head? =some 60
        · rw[decide_eq_true hA1]at hA0
          have hA:=yh hA0;rw[if_pos (.inl hA1)]at hst;have HC1:Hid (l.head? =some 60\/l.head? =some 62):=yh (.inl hA1);clear hA0 hB0 hA1;obtain⟨tk,r2,m2,hio⟩:=lD l fd ln0 ln;rw[hio]at hst;have HST:=yh hst;have HIO:Hid (∀W,Kn (b::keys LO) W W ((b,.cells #[.string src,.int .i64 (at_),.int .i64 (ln),v] 111 (0,0))::LO)->Calls Tryz.prog 84 #[.pointer (some ⟨b,0,none⟩),.int .i64 fd,.int .i64 ln0] W (TPost src b (b::keys LO) W v LO tvs (.tok tk r2 m2))):=yh fun W hK=>by
            have:=sX src hs0 v b at_ ln W LO tvs hK hO hln l HLL.out HC1.out fd ln0;rw[hio]at this;exact this
          clear hst hio;by_cases hf:tvs.length<2000
          all_goals
            go_wp2_with (first|(with_reducible refine zS ?_;intro W hL hF)|(go_at_call 103;refine zC (fun W hL=>hN.out _ _ _ _ _) ?_;intro W hL hF)|(go_at_call 83;(with_reducible refine zM (fun W hL=>cx src ⟨#[60]⟩ at_ ln v b _ hL.h2 (by omega) hs true hA.out) ?_);rintro W hL e W ⟨rfl,hb⟩;replace hL:=hL.below hb;clear hb;skip;have hF:=hL.fx)|(go_at_call 84;refine zG ?_;intro W hL hF;have hL3:=hL.perm (L':=((kt,.cells #[.int .i64 0,.string ⟨#[]⟩,.string P,pv,.int .i64 (-1),.int .i64 ln0] 76 (0,0))::(q,.cells #[pv] 135 (0,0))::LP)++((b,.cells #[.string src,.int .i64 (at_),.int .i64 (ln),v] 111 (0,0))::LO)) (fun p=>by simp only[List.countP_cons,List.countP_append,List.countP_nil];omega);(with_reducible refine(HIO.out _ hL3.selfS).mono ?_);rintro e W2 hb;replace hb:=TPost.lift hL3 hb;simp only[TPost,hf,if_true,if_false]at hb;obtain⟨rfl,hb⟩:=hb;clear hF))
            first|(refine bodyPost_ret (by simp[results,Tryz.results85,go_sem, *];try rfl) rfl ?_)|(refine⟨rfl,?_⟩)
            rw[HST.out];unfold TPost;simp only[hf,if_true,if_false];exact⟨trivial,hb⟩
        rw[decide_eq_false hA1]at hA0;have hA:=yh hA0;by_cases hB1:l.head? =some 62
        · rw[decide_eq_true hB1]at hB0
          have hB:=yh hB0;rw[if_pos (.inr hB1)]at hst;have HC1:Hid (l.head? =some 60\/l.head? =some 62):=yh (.inr hB1);clear hA0 hB0 hA1 hB1;obtain⟨tk,r2,m2,hio⟩:=lD l fd ln0 ln;rw[hio]at hst;have HST:=yh hst;have HIO:Hid (∀W,Kn (b::keys LO) W W ((b,.cells #[.string src,.int .i64 (at_),.int .i64 (ln),v] 111 (0,0))::LO)->Calls Tryz.prog 84 #[.pointer (some ⟨b,0,none⟩),.int .i64 fd,.int .i64 ln0] W (TPost src b (b::keys LO) W v LO tvs (.tok tk r2 m2))):=yh fun W hK=>by
            have:=sX src hs0 v b at_ ln W LO tvs hK hO hln l HLL.out HC1.out fd ln0;rw[hio]at this;exact this
          clear hst hio;by_cases hf:tvs.length<2000
          all_goals
            go_wp2_with (first|(with_reducible refine zS ?_;intro W hL hF)|(go_at_call 103;refine zC (fun W hL=>hN.out _ _ _ _ _) ?_;intro W hL hF)|(go_at_call 83;refine zG ?_;intro W hL hF;(((first|(with_reducible refine(cx src ⟨#[60]⟩ at_ ln v b _ hL.h2 (by omega) hs false hA.out).mono ?_)|(with_reducible refine(cx src ⟨#[62]⟩ at_ ln v b _ hL.h2 (by omega) hs true hB.out).mono ?_))));rintro e W ⟨rfl,hb⟩;replace hL:=hL.below hb;clear hb hF;have hF:=hL.fx)|(go_at_call 84;refine zG ?_;intro W hL hF;have hL3:=hL.perm (L':=((kt,.cells #[.int .i64 0,.string ⟨#[]⟩,.string P,pv,.int .i64 (-1),.int .i64 ln0] 76 (0,0))::(q,.cells #[pv] 135 (0,0))::LP)++((b,.cells #[.string src,.int .i64 (at_),.int .i64 (ln),v] 111 (0,0))::LO)) (fun p=>by simp only[List.countP_cons,List.countP_append,List.countP_nil];omega);(with_reducible refine(HIO.out _ hL3.selfS).mono ?_);rintro e W2 hb;replace hb:=TPost.lift hL3 hb;simp only[TPost,hf,if_true,if_false]at hb;obtain⟨rfl,hb⟩:=hb;clear hF))
            first|(refine bodyPost_ret (by simp[results,Tryz.results85,go_sem, *];try rfl) rfl ?_)|(refine⟨rfl,?_⟩)
            rw[HST.out];unfold TPost;simp only[hf,if_true,if_false];exact⟨trivial,hb⟩
        rw[decide_eq_false hB1]at hB0;have hB:=yh hB0;rw[if_neg (fun h=>h.elim hA1 hB1)]at hst;have HST:=yh hst;clear hst hA0 hB0 hA1 hB1;by_cases hf:tvs.length<2000
        all_goals
          go_wp2_with (first|(with_reducible refine zS ?_;intro W hL hF)|(go_at_call 103;refine zC (fun W hL=>hN.out _ _ _ _ _) ?_;intro W hL hF)|(go_at_call 83;refine zG ?_;intro W hL hF;(((first|(with_reducible refine(cx src ⟨#[60]⟩ at_ ln v b _ hL.h2 (by omega) hs false hA.out).mono ?_)|(with_reducible refine(cx src ⟨#[62]⟩ at_ ln v b _ hL.h2 (by omega) hs false hB.out).mono ?_))));rintro e W ⟨rfl,hb⟩;replace hL:=hL.below hb;clear hb hF;have hF:=hL.fx)|(go_at_call 100;refine zG ?_;intro W hL hF;have hL3:=hL.perm (L':=((kt,.cells #[.int .i64 0,.string ⟨#[]⟩,.string P,pv,.int .i64 (-1),.int .i64 ln0] 76 (0,0))::(q,.cells #[pv] 135 (0,0))::LP)++((b,.cells #[.string src,.int .i64 (at_),.int .i64 (ln),v] 111 (0,0))::LO)) (fun p=>by simp only[List.countP_cons,List.countP_append,List.countP_nil];omega);(with_reducible refine(jc src hs0 v b at_ ln _ LO tvs hL3.selfS hO hln 0 ⟨#[]⟩ P pv hpv ps (-1) ln0 _ _ (by omega) (by omega) hf).mono ?_);rintro e W2 ⟨rfl,v2,LO2,hO2,hb⟩;replace hL:=hL3.joinS hb;clear hL3 hb hF;simp only[kfb]at hL;have hF:=hL.fx)|(go_at_call 100;refine zG ?_;intro W hL hF;have hL3:=hL.perm (L':=((kt,.cells #[.int .i64 0,.string ⟨#[]⟩,.string P,pv,.int .i64 (-1),.int .i64 ln0] 76 (0,0))::(q,.cells #[pv] 135 (0,0))::LP)++((b,.cells #[.string src,.int .i64 (at_),.int .i64 (ln),v] 111 (0,0))::LO)) (fun p=>by simp only[List.countP_cons,List.countP_append,List.countP_nil];omega);(with_reducible refine(jd src hs0 v b at_ ln _ LO tvs hL3.selfS hO hln 0 ⟨#[]⟩ P pv (-1) ln0 _ _ (by omega) (by omega) hf).mono ?_);rintro e W2 ⟨rfl,hb⟩;replace hL:=hL3.joinS hb;clear hL3 hb hF;simp only[kfb]at hL;have hF:=hL.fx))
          first|(go_end0)|(refine⟨rfl,?_⟩)
          rw[HST.out];unfold TPost;simp only[hf,if_true,if_false];first
          | (refine⟨trivial,at_,v2,LO2,pv,LP,hle,HLL.out,?_,hP,?_⟩
             · rw[<- HPL.out];exact hO2
             · have hL4:=hL.perm (L':=(kt,.cells #[.int .i64 0,.string ⟨#[]⟩,.string P,pv,.int .i64 (-1),.int .i64 ln0] 76 (0,0))::(q,.cells #[pv] 135 (0,0))::(b,.cells #[.string src,.int .i64 (at_),.int .i64 (ln),v2] 111 (0,0))::(LO2++LP)) (fun p=>by simp only[List.countP_cons,List.countP_append,List.countP_nil];omega)
               exact hL4.drop1.drop1)
          | (exact⟨trivial,hL.sub sN⟩)
theorem TPost.lift0{src:ByteArray}{b:Nat}{X:List Nat}{w W w':World}{o:Obj}{v:Value}{LO:List (Nat×Obj)}{tvs:List (Tok×Value)}{s:Step}{e:Ending}(h:Kn X w W ((b,o)::LO))(k:TPost src b (b::keys LO) W v LO tvs s e w'):TPost src b X w v LO tvs s e w':=
 TPost.lift (A:=[]) h k
theorem zR(c:UInt8)(W:World):(convert 119 9 (.slice (some ⟨W.heap.size,0,none⟩) 2 2)).run Tryz.prog (W.alloc (.cells #[.int .u8 c.toNat,.int .u8 c.toNat] 5))=.ok (.string ⟨#[c,c]⟩) (W.alloc (.cells #[.int .u8 c.toNat,.int .u8 c.toNat] 5)):=
 jD (BOwn.new (Kn.refl [] W) [c,c] #[.int .u8 c.toNat,.int .u8 c.toNat] rfl 2 rfl (by simp)) ⟨#[c,c]⟩ rfl
theorem oG(c:UInt8)(n:Int)(h:(c.toNat:Int)=n)(W:World):(convert 119 9 (.slice (some ⟨W.heap.size,0,none⟩) 2 2)).run Tryz.prog (W.alloc (.cells #[.int .u8 n,.int .u8 n] 5))=.ok (.string ⟨#[c,c]⟩) (W.alloc (.cells #[.int .u8 n,.int .u8 n] 5)):=by
 subst h;exact zR c W
theorem AE(c:UInt8)(t:ab):Lib.hasPrefix (c::t) [c,c]=decide (t.head? =some c):=by
 cases t with
 |nil=>simp[Lib.hasPrefix,List.isPrefixOf]
 |cons a r=>
  simp only[Lib.hasPrefix,List.isPrefixOf,List.head?_cons,Option.some.injEq,Bool.and_true,beq_self_eq_true,Bool.true_and];by_cases h:a=c
  ·subst h;simp
  ·rw[decide_eq_false h,beq_false_of_ne (Ne.symm h)]
theorem rf(src:ByteArray)(hs0:src.size<=10000)(v:Value)(b:Nat)(at_ ln:Nat)(w:World)(LO:List (Nat×Obj))(tvs:List (Tok×Value))(hL:Kn (b::keys LO) w w ((b,.cells #[.string src,.int .i64 (at_),.int .i64 (ln),v] 111 (0,0))::LO))(hO:gf LO v tvs)(hln:ln<=100000)(c0:UInt8)(t:ab)(hd:src.data.toList.drop at_=c0::t)(hc0:c0=32\/c0=9\/c0=10\/c0=40\/c0=41\/c0=124\/c0=38\/c0=59):
    Calls Tryz.prog 48 #[.pointer (some ⟨b,0,none⟩)] w (TPost src b (b::keys LO) w v LO tvs (ba c0 t ln)):=by
  have hsl:=szl src;have hs:src.size<=100000:=by omega
  obtain⟨d1,d2,d3⟩:=b7 hd;rw[hsl]at d3;have hlt:=d3;have eb0:=bY d1 d3;clear d1 d2;have hq1:=oG 124 124 rfl;have hq2:=oG 38 38 rfl;have hq3:=oG 59 59 rfl;have hA0:Lib.hasPrefix (src.data.toList.drop at_) (⟨#[c0,c0]⟩:ByteArray).data.toList=decide (t.head? =some c0):=by rw[hd];exact AE c0 t
  unfold TPost;by_cases h1:c0=32\/c0=9
  · have hst:ba c0 t ln=.skip t (ln+0):=by simp[ba,h1]
    have HX:Hid (src.data.toList.drop at_=[c0]++t):=yh hd;have HLF:Hid (lf [c0]=0):=yh (by rcases h1 with rfl|rfl<;>rfl);obtain⟨hc1,hc2,hc3⟩:=ea HX.out;have hc4:=hc3 (by simp);rw[hsl]at hc4;have HC:=yh hc2;rw[hst];clear hc1 hc2 hc3 hst hd hc0 hA0 hq1 hq2 hq3;have hF:=hL.fx;rcases h1 with rfl|rfl
    all_goals
      go_enter Tryz.func48,Tryz.ntmps48;go_wp2_with (first|(with_reducible refine zS ?_;intro W hL hF)|((with_reducible refine ac 0 ?_);refine zQ ?_;clear hF hL;intro ι F hne hG;(repeat go_big_quiet_step (fail));refine wpQuiet_nil ?_;clear hG;intro W hL hF)|(go_at_call 80;(with_reducible refine zM (fun W hL=>aZ src at_ _ _ ln v b _ hL.h0 HX.out (by simp) hs (by omega) _ (by(simp;done))) ?_);rintro W hL e W ⟨rfl,hb⟩;replace hL:=hL.jn 0 hb;clear hb;have hF:=hL.fx))
      go_end0
      rw[HLF.out]at hL;exact⟨rfl,_,hc4,HC.out,hL⟩
  · by_cases h2:c0=124\/c0=38\/c0=59
    case' pos=>
      cases hz:decide (t.head? =some c0)
      case' true=>
        have hh:=of_decide_eq_true hz;have hst:ba c0 t ln=.tok (opT [c0,c0] ln) (t.drop 1) (ln+0):=by rcases h2 with rfl|rfl|rfl<;>simp[ba,hh]
        have HX:Hid (src.data.toList.drop at_=[c0,c0]++t.drop 1):=yh (by rw[hd];cases t with|nil=>cases hh|cons a r=>simp at hh;subst hh;rfl);have HLF:Hid (lf [c0,c0]=0):=yh (by rcases h2 with rfl|rfl|rfl<;>rfl);have hA:=yh (hA0.trans hz)
      case' false=>
        have hh:=of_decide_eq_false hz;have hst:ba c0 t ln=.tok (opT [c0] ln) t (ln+0):=by rcases h2 with rfl|rfl|rfl<;>simp[ba,hh]
        have HX:Hid (src.data.toList.drop at_=[c0]++t):=yh hd;have HLF:Hid (lf [c0]=0):=yh (by rcases h2 with rfl|rfl|rfl<;>rfl);have hA:=yh (hA0.trans hz)
    case' neg=>
      have HX:Hid (src.data.toList.drop at_=[c0]++t):=yh hd;by_cases h3:c0=10
      case' pos=>
        have hst:ba c0 t ln=.tok ⟨3,[],[],[],-1,ln⟩ t (ln+1):=by subst h3;simp[ba]
        have HLF:Hid (lf [c0]=1):=yh (by subst h3;rfl)
      case' neg=>
        have h4:c0=40\/c0=41:=by simp_all
        have hst:ba c0 t ln=.tok (opT [c0] ln) t (ln+0):=by rcases h4 with rfl|rfl<;>simp[ba]
        have HLF:Hid (lf [c0]=0):=yh (by rcases h4 with rfl|rfl<;>rfl)
    all_goals
      obtain⟨hc1,hc2,hc3⟩:=ea HX.out;have hc4:=hc3 (by simp);rw[hsl]at hc4;have HC:=yh hc2;rw[hst];clear hc1 hc2 hc3 hst hd hA0;by_cases hf:tvs.length<2000<;>simp only[hf,if_true,if_false]
      all_goals
        have hF:=hL.fx;rcases hc0 with rfl|rfl|rfl|rfl|rfl|rfl|rfl|rfl
        all_goals first|(exfalso;revert h1 h2;decide)|(exfalso;simp_all;done)|(
          clear h1 h2;go_enter Tryz.func48,Tryz.ntmps48;go_wp2_with (first|(with_reducible refine zS ?_;intro W hL hF)|((with_reducible refine ac 0 ?_);refine zQ ?_;clear hF hL;intro ι F hne hG;(repeat go_big_quiet_step (fail));refine wpQuiet_nil ?_;clear hG;intro W hL hF)|(go_at_call 83;refine zC (fun W hL=>cx src _ at_ ln v b _ hL.h1 (by omega) hs _ hA.out) ?_;intro W hL hF)|(go_at_call 82;refine zG ?_;intro W hL hF;(first|(with_reducible refine(sW src hs0 v b at_ ln _ LO tvs hL.self0q hO hln _ _ HX.out (by simp) _ (by(simp;done)) (-1) ln _ (by(rfl))).mono ?_)|(with_reducible refine(dZ src hs0 v b at_ ln _ LO tvs hL.self0q hO hln 1 1 rfl (by omega) _ _ HX.out (by simp) _ (by(simp;done)) (-1) ln _ (by(rfl))).mono ?_)|(with_reducible refine(dZ src hs0 v b at_ ln _ LO tvs hL.self1q hO hln 1 1 rfl (by omega) _ _ HX.out (by simp) _ (by(simp;done)) (-1) ln _ (by(rfl))).mono ?_));rintro e W2 hb;(first|(simp only[fA,if_pos hf]at hb;obtain⟨rfl,v2,LO2,pv2,rfl,hO2,hb⟩:=hb)|(simp only[fA,if_neg hf]at hb;obtain⟨rfl,hb⟩:=hb));(first|replace hL:=hL.tail0 hb|replace hL:=hL.tail1 hb);clear hb hF;have hF:=hL.fx))
          first
          | (go_end0
             rw[HLF.out]at hL;exact⟨rfl,_,v2,LO2,.slice none 0 0,[],hc4,HC.out,hO2,.inl ⟨rfl,rfl,rfl⟩,by rw[List.append_nil];first|exact hL|exact hL.drop1⟩)
          |exact⟨rfl,rfl,hL.sub sN⟩)
theorem vQ(a r:ab)(h:(10:UInt8)∉a):(a++10::r).dropWhile (· != 10)=10::r:=by
 induction a with
 |nil=>rfl
 |cons c t ih=>
  simp only[List.mem_cons,not_or]at h;have hc:(c != 10)=true:=by rw[bne_iff_ne];exact Ne.symm h.1
  rw[List.cons_append,List.dropWhile_cons];simp only[hc,if_true];exact ih h.2
theorem pQ(a:ab)(h:(10:UInt8)∉a):lf a=0:=List.count_eq_zero.2 h
theorem g_{c:UInt8}:∀{s:ab},brk c s=none->c∉s
 | [],_=>by simp
 |d::t,h=>by
  rw[brk]at h;split at h
  ·cases h
  ·rename_i hd
   cases hb:brk c t with
   |none=>
    intro hm;rcases List.mem_cons.1 hm with e|e
    ·exact hd e.symm
    ·exact g_ hb e
   |some y=>rw[hb]at h;cases h
theorem oH(src:ByteArray)(hs0:src.size<=10000)(v:Value)(b:Nat)(at_ ln:Nat)(w:World)(LO:List (Nat×Obj))(tvs:List (Tok×Value))(hL:Kn (b::keys LO) w w ((b,.cells #[.string src,.int .i64 (at_),.int .i64 (ln),v] 111 (0,0))::LO))(hO:gf LO v tvs)(hln:ln<=100000)(hz:ln<=at_+1)(c0:UInt8)(t:ab)(hd:src.data.toList.drop at_=c0::t)(hc0:¬(c0=32\/c0=9\/c0=10\/c0=40\/c0=41\/c0=124\/c0=38\/c0=59)):
    Calls Tryz.prog 48 #[.pointer (some ⟨b,0,none⟩)] w (TPost src b (b::keys LO) w v LO tvs (ba c0 t ln)):=by
  have hsl:=szl src;have hs:src.size<=100000:=by omega
  obtain⟨d1,d2,d3⟩:=b7 hd;rw[hsl]at d3;have hlt:=d3;have eb0:=bY d1 d3;by_cases hc:c0=35
  · subst hc
    obtain⟨u,hu⟩:∃u,src.extract at_ src.size=u:=⟨_,rfl⟩;have hul:u.data.toList=35::t:=by rw[<- hu,aW,List.take_of_length_le (by omega),hd]
    rcases iq 10 (35::t)with⟨hb1,hb2⟩|⟨a,r,hb1,hb2⟩
    · have hI:Hid (∀W,Calls Tryz.prog 81 #[.string u,.int .u8 10] W fun e w'=>e=.returned (.int .i64 (-1))/\w'=W):=yh fun W=>bZ u 10 (-1) (by rw[hul];exact hb2) 10 rfl W
      have hm:=g_ hb1;have hm2:(10:UInt8)∉t:=fun h=>hm (List.mem_cons_of_mem _ h)
      have hdw:t.dropWhile (· != 10)=[]:=mp _ _ fun c hc=>by
        rw[bne_iff_ne];rintro rfl;exact hm2 hc
      have htl:t.length+1=src.size-at_:=by
        have:=congrArg List.length hd;rw[List.length_drop,hsl]at this;simp at this;omega
      have hk:(src.size:Int)-at_=t.length+1:=by omega
      have HKK:=yh hk;have w1:IntKind.i64.wrap ((src.size:Int)-(at_:Int))=(src.size:Int)-(at_:Int):=by rw[IntWalk.i64_in _ (by omega)]
      have hst:ba 35 t ln=.skip [] (ln+0):=by simp[ba,hdw]
      rw[hst];have hxx:src.data.toList.drop at_=(35::t)++[]:=by rw[hd];simp
      have HX:=yh hxx;obtain⟨hc1,hc2,hc3⟩:=ea hxx;have hc4:=hc3 (by simp);rw[hsl]at hc4;have HC:=yh hc2;have hlf:lf (35::t)=0:=pQ _ hm;have HLF:=yh hlf;clear hxx hc1 hc2 hc3 hlf hst hd d1 d2 hul hb1 hb2 hm hm2 hdw htl hk hz;unfold TPost;have hF:=hL.fx;go_enter Tryz.func48,Tryz.ntmps48;go_wp2_with (first|(with_reducible refine zS ?_;intro W hL hF)|((with_reducible refine ac 0 ?_);refine zQ ?_;clear hF hL;intro ι F hne hG;(repeat go_big_quiet_step (fail));refine wpQuiet_nil ?_;clear hG;intro W hL hF)|((with_reducible refine ac 9 ?_);refine zX [0,1,2,3,4,5,6,7,8,9,10] [9] ?_;clear hF hL;intro ι F hne hC hG;(repeat(first|(refine cS ?_)|((first|refine cF hC ?_|refine cP ?_);intro K hK;go_big_quiet_op;go_big_quiet_on)|(refine cD ?_;intro W hL hF;go_at_call 81;(with_reducible refine(hI.out _).mono ?_);rintro e W' ⟨rfl,rfl⟩;refine zB ?_;clear hL hF hC hG;intro ι F hne hC hG;simp only[Act.put,zT])|(refine cM ?_;intro W hL hF;go_wp2;refine zB2 ?_;clear hL hC hG;intro ι F hne hC hG)));refine zN ?_;clear hC hG;intro W hL hF)|((with_reducible refine ac 11 ?_);refine zQ ?_;clear hF hL;intro ι F hne hG;(repeat go_big_quiet_step (fail));refine wpQuiet_nil ?_;clear hG;intro W hL hF)|(go_at_call 80;(with_reducible refine zM (fun W hL=>aZ src at_ (35::t) [] ln v b _ hL.h0 HX.out (by simp) hs (by omega) _ (by rw[HKK.out];simp)) ?_);rintro W hL e W ⟨rfl,hb⟩;replace hL:=hL.jn 0 hb;clear hb;have hF:=hL.fx))
      go_end0
      rw[HLF.out]at hL;exact⟨rfl,_,hc4,HC.out,hL⟩
    · obtain⟨hbt,hbm⟩:=bq hb1
      cases a with
      |nil=>cases hbt
      |cons a0 a1=>
        have h0:a0=35:=by injection hbt with h1 h2;exact h1.symm
        subst h0;have ht:t=a1++10::r:=by injection hbt
        obtain⟨n,hn⟩:∃n,n=(35::a1:ab).length:=⟨_,rfl⟩;have hI:Hid (∀W,Calls Tryz.prog 81 #[.string u,.int .u8 10] W fun e w'=>e=.returned (.int .i64 (n:Int))/\w'=W):=yh fun W=>bZ u 10 n (by rw[hul,hn];exact hb2) 10 rfl W
        have hm2:(10:UInt8)∉a1:=fun h=>hbm (List.mem_cons_of_mem _ h)
        have hdw:t.dropWhile (· != 10)=10::r:=by rw[ht];exact vQ a1 r hm2
        have q0:¬(n:Int)<0:=by omega
        have HKK:Hid ((n:Int)=(35::a1:ab).length):=yh (by rw[hn]);have hst:ba 35 t ln=.skip (10::r) (ln+0):=by simp[ba,hdw]
        rw[hst];have hxx:src.data.toList.drop at_=(35::a1)++(10::r):=by rw[hd,ht];rfl
        have HX:=yh hxx;obtain⟨hc1,hc2,hc3⟩:=ea hxx;have hc4:=hc3 (by simp);rw[hsl]at hc4;have HC:=yh hc2;have hlf:lf (35::a1)=0:=pQ _ hbm;have HLF:=yh hlf;clear hxx hc1 hc2 hc3 hlf hst hd d1 d2 hul hb1 hb2 hm2 hdw hz hbt hbm hn ht;unfold TPost;have hF:=hL.fx;go_enter Tryz.func48,Tryz.ntmps48;go_wp2_with (first|(with_reducible refine zS ?_;intro W hL hF)|((with_reducible refine ac 0 ?_);refine zQ ?_;clear hF hL;intro ι F hne hG;(repeat go_big_quiet_step (fail));refine wpQuiet_nil ?_;clear hG;intro W hL hF)|((with_reducible refine ac 9 ?_);refine zX [0,1,2,3,4,5,6,7,8,9,10] [9] ?_;clear hF hL;intro ι F hne hC hG;(repeat(first|(refine cS ?_)|((first|refine cF hC ?_|refine cP ?_);intro K hK;go_big_quiet_op;go_big_quiet_on)|(refine cD ?_;intro W hL hF;go_at_call 81;(with_reducible refine(hI.out _).mono ?_);rintro e W' ⟨rfl,rfl⟩;refine zB ?_;clear hL hF hC hG;intro ι F hne hC hG;simp only[Act.put,zT])|(refine cM ?_;intro W hL hF;go_wp2;refine zB2 ?_;clear hL hC hG;intro ι F hne hC hG)));refine zN ?_;clear hC hG;intro W hL hF)|((with_reducible refine ac 11 ?_);refine zX [0,1,2,3,4,5,6,7,8,9,10] [] ?_;clear hL;intro ι F hne hC hG;(repeat((refine cS ?_)));refine gP ?_;clear hC hG;intro W hL;have hF:=hL.facts)|(go_at_call 80;(with_reducible refine zM (fun W hL=>aZ src at_ (35::a1) (10::r) ln v b _ hL.h0 HX.out (by simp) hs (by omega) _ HKK.out) ?_);rintro W hL e W ⟨rfl,hb⟩;replace hL:=hL.jn 0 hb;clear hb;have hF:=hL.fx))
        go_end0
        rw[HLF.out]at hL;exact⟨rfl,_,hc4,HC.out,hL⟩
  have f35:((c0.toNat:Int)==35)=false:=beq_false_of_ne (fun h=>hc (UInt8.toNat_inj.1 (show c0.toNat=35 by omega)));by_cases hc60:c0=60\/c0=62
  · have hst:ba c0 t ln=ioS (c0::t) (-1) ln ln:=by rcases hc60 with rfl|rfl<;>simp[ba]
    obtain⟨tk,r2,m2,hio⟩:=lD (c0::t) (-1) ln ln;rw[hst,hio];have HIO:Hid (∀W,Kn (b::keys LO) W W ((b,.cells #[.string src,.int .i64 (at_),.int .i64 (ln),v] 111 (0,0))::LO)->Calls Tryz.prog 84 #[.pointer (some ⟨b,0,none⟩),.int .i64 (-1),.int .i64 ln] W (TPost src b (b::keys LO) W v LO tvs (.tok tk r2 m2))):=yh fun W hK=>by
      have:=sX src hs0 v b at_ ln W LO tvs hK hO hln (c0::t) hd (by rcases hc60 with rfl|rfl<;>simp) (-1) ln;rw[hio]at this;exact this
    have hcv:c0=60\/c0=62:=hc60;clear hst hio hd d1 d2 hc60 hc0 hc;unfold TPost;by_cases hf:tvs.length<2000
    · simp only[if_pos hf]
      rcases hcv with rfl|rfl
      all_goals
        have hF:=hL.fx;go_enter Tryz.func48,Tryz.ntmps48;go_wp2_with (first|((with_reducible refine ac 0 ?_);refine zQ ?_;clear hF hL;intro ι F hne hG;(repeat go_big_quiet_step (fail));refine wpQuiet_nil ?_;clear hG;intro W hL hF)|(go_at_call 84;(with_reducible refine zM (fun W hL=>HIO.out _ hL.self0q) ?_);rintro W hL e W2 hb;replace hb:=TPost.lift0 hL hb;simp only[TPost,hf,if_true,if_false]at hb;obtain⟨rfl,hb⟩:=hb))
        go_end0
        exact⟨rfl,hb⟩
    · simp only[if_neg hf]
      rcases hcv with rfl|rfl
      all_goals
        have hF:=hL.fx;go_enter Tryz.func48,Tryz.ntmps48;go_wp2_with (first|((with_reducible refine ac 0 ?_);refine zQ ?_;clear hF hL;intro ι F hne hG;(repeat go_big_quiet_step (fail));refine wpQuiet_nil ?_;clear hG;intro W hL hF)|(go_at_call 84;(with_reducible refine zM (fun W hL=>HIO.out _ hL.self0q) ?_);rintro W hL e W2 hb;replace hb:=TPost.lift0 hL hb;simp only[TPost,hf,if_true,if_false]at hb;obtain⟨rfl,hb⟩:=hb))
        exact⟨rfl,rfl,hb⟩
  simp only[not_or]at hc0 hc60;obtain⟨h32,h9,h10,h40,h41,h124,h38,h59⟩:=hc0;obtain⟨h60,h62⟩:=hc60;have f32:((c0.toNat:Int)==32)=false:=beq_false_of_ne (fun h=>h32 (UInt8.toNat_inj.1 (show c0.toNat=32 by omega)));have f9:((c0.toNat:Int)==9)=false:=beq_false_of_ne (fun h=>h9 (UInt8.toNat_inj.1 (show c0.toNat=9 by omega)));have f10:((c0.toNat:Int)==10)=false:=beq_false_of_ne (fun h=>h10 (UInt8.toNat_inj.1 (show c0.toNat=10 by omega)));have f40:((c0.toNat:Int)==40)=false:=beq_false_of_ne (fun h=>h40 (UInt8.toNat_inj.1 (show c0.toNat=40 by omega)));have f41:((c0.toNat:Int)==41)=false:=beq_false_of_ne (fun h=>h41 (UInt8.toNat_inj.1 (show c0.toNat=41 by omega)));have f124:((c0.toNat:Int)==124)=false:=beq_false_of_ne (fun h=>h124 (UInt8.toNat_inj.1 (show c0.toNat=124 by omega)));have f38:((c0.toNat:Int)==38)=false:=beq_false_of_ne (fun h=>h38 (UInt8.toNat_inj.1 (show c0.toNat=38 by omega)));have f59:((c0.toNat:Int)==59)=false:=beq_false_of_ne (fun h=>h59 (UInt8.toNat_inj.1 (show c0.toNat=59 by omega)));have f60:((c0.toNat:Int)==60)=false:=beq_false_of_ne (fun h=>h60 (UInt8.toNat_inj.1 (show c0.toNat=60 by omega)));have f62:((c0.toNat:Int)==62)=false:=beq_false_of_ne (fun h=>h62 (UInt8.toNat_inj.1 (show c0.toNat=62 by omega)));by_cases hc92:c0=92/\t.head? =some 10
  · obtain⟨rfl,hh⟩:=hc92
    have hA:=yh (show Lib.hasPrefix (src.data.toList.drop at_) (⟨#[92,10]⟩:ByteArray).data.toList=true by rw[hd];cases t with|nil=>cases hh|cons a r=>simp at hh;subst hh;rfl);have hst:ba 92 t ln=.skip (t.drop 1) (ln+1):=by simp[ba,hh]
    rw[hst];have hxx:src.data.toList.drop at_=[92,10]++(t.drop 1):=by rw[hd];cases t with|nil=>cases hh|cons a r=>simp at hh;subst hh;rfl
    have HX:=yh hxx;obtain⟨hc1,hc2,hc3⟩:=ea hxx;have hc4:=hc3 (by simp);rw[hsl]at hc4;have HC:=yh hc2;have hlf:lf [92,10]=1:=by rfl
    have HLF:=yh hlf;clear hxx hc1 hc2 hc3 hlf hst hd d1 d2 hz;unfold TPost;have hF:=hL.fx;go_enter Tryz.func48,Tryz.ntmps48;go_wp2_with (first|(with_reducible refine zS ?_;intro W hL hF)|((with_reducible refine ac 0 ?_);refine zQ ?_;clear hF hL;intro ι F hne hG;(repeat go_big_quiet_step (fail));refine wpQuiet_nil ?_;clear hG;intro W hL hF)|(go_at_call 83;(with_reducible refine zM (fun W hL=>cx src ⟨#[92,10]⟩ at_ ln v b _ hL.h0 (by omega) hs true hA.out) ?_);rintro W hL e W ⟨rfl,hb⟩;replace hL:=hL.below hb;clear hb;skip;have hF:=hL.fx)|(go_at_call 80;(with_reducible refine zM (fun W hL=>aZ src at_ [92,10] (t.drop 1) ln v b _ hL.h0 HX.out (by simp) hs (by omega) _ (by(simp;done))) ?_);rintro W hL e W ⟨rfl,hb⟩;replace hL:=hL.jn 0 hb;clear hb;have hF:=hL.fx))
    refine bodyPost_ret (by simp[results,Tryz.results48,go_sem, *];try rfl) rfl ?_;rw[HLF.out]at hL;exact⟨rfl,_,hc4,HC.out,hL⟩
  · have hA0:Lib.hasPrefix (src.data.toList.drop at_) (⟨#[92,10]⟩:ByteArray).data.toList=false:=by
      rw[hd]
      cases t with
      |nil=>simp[Lib.hasPrefix,List.isPrefixOf]
      |cons a r=>
        simp[Lib.hasPrefix,List.isPrefixOf];intro h1 h2;exact hc92 ⟨h1.symm,by simp[h2]⟩
    have hA:=yh hA0;have hst:ba c0 t ln=mT ln (wrd ([],c0::t,ln)):=by
      unfold ba wrd;rw[if_neg (by simp[h32,h9]),if_neg hc,if_neg h10,if_neg (by simp[h124,h38,h59]),if_neg (by simp[h40,h41]),if_neg (by simp[h60,h62]),if_neg hc92];show(match word (t.length+2) ([],c0::t,ln)with|.bad m=>_|.ok (ps,r,m)=>_)=_
      cases word (t.length+2) ([],c0::t,ln)with
      |bad m=>rfl
      |ok x=>rfl
    obtain⟨V,hV⟩:∃V,mT ln (wrd ([],c0::t,ln))=V:=⟨_,rfl⟩;rw[hst,hV];have HW:Hid (∀W,Kn (b::keys LO) W W ((b,.cells #[.string src,.int .i64 (at_),.int .i64 (ln),v] 111 (0,0))::LO)->Calls Tryz.prog 85 #[.pointer (some ⟨b,0,none⟩)] W (TPost src b (b::keys LO) W v LO tvs V)):=yh fun W hK=>by
      have:=vP src hs0 v b at_ ln W LO tvs hK hO hz (by omega);rw[hd,hV]at this;exact this
    clear hst hV hd d1 d2 hA0 hz
    cases V with
    |skip r m=>
      unfold TPost at HW |-
      have hF:=hL.fx;go_enter Tryz.func48,Tryz.ntmps48;go_wp2_with (first|(with_reducible refine zS ?_;intro W hL hF)|((with_reducible refine ac 0 ?_);refine zQ ?_;clear hF hL;intro ι F hne hG;(repeat go_big_quiet_step (fail));refine wpQuiet_nil ?_;clear hG;intro W hL hF)|(go_at_call 83;(with_reducible refine zM (fun W hL=>cx src ⟨#[92,10]⟩ at_ ln v b _ hL.h0 (by omega) hs false hA.out) ?_);rintro W hL e W ⟨rfl,hb⟩;replace hL:=hL.below hb;clear hb;skip;have hF:=hL.fx)|(go_at_call 85;(with_reducible refine zM (fun W hL=>HW.out _ hL.self0q) ?_);rintro W hL e W2 hb;obtain⟨rfl,at2,ha2,hr2,hb⟩:=hb;replace hL:=hL.tail0 hb;clear hb;have hF:=hL.fx))
      go_end0
      exact⟨rfl,at2,ha2,hr2,hL⟩
    |bad m=>
      unfold TPost at HW |-
      have hF:=hL.fx;go_enter Tryz.func48,Tryz.ntmps48;go_wp2_with (first|(with_reducible refine zS ?_;intro W hL hF)|((with_reducible refine ac 0 ?_);refine zQ ?_;clear hF hL;intro ι F hne hG;(repeat go_big_quiet_step (fail));refine wpQuiet_nil ?_;clear hG;intro W hL hF)|(go_at_call 83;(with_reducible refine zM (fun W hL=>cx src ⟨#[92,10]⟩ at_ ln v b _ hL.h0 (by omega) hs false hA.out) ?_);rintro W hL e W ⟨rfl,hb⟩;replace hL:=hL.below hb;clear hb;skip;have hF:=hL.fx)|(go_at_call 85;(with_reducible refine zM (fun W hL=>HW.out _ hL.self0q) ?_);rintro W hL e W2 hb;obtain⟨rfl,hb⟩:=hb;replace hL:=hL.tail0 hb;clear hb;have hF:=hL.fx))
      exact⟨rfl,rfl,hL⟩
    |tok tk r m=>
      unfold TPost at HW |-
      by_cases hf:tvs.length<2000
      all_goals
        simp only[hf,if_true,if_false]at HW |-
        have hF:=hL.fx;go_enter Tryz.func48,Tryz.ntmps48;go_wp2_with (first|(with_reducible refine zS ?_;intro W hL hF)|((with_reducible refine ac 0 ?_);refine zQ ?_;clear hF hL;intro ι F hne hG;(repeat go_big_quiet_step (fail));refine wpQuiet_nil ?_;clear hG;intro W hL hF)|(go_at_call 83;(with_reducible refine zM (fun W hL=>cx src ⟨#[92,10]⟩ at_ ln v b _ hL.h0 (by omega) hs false hA.out) ?_);rintro W hL e W ⟨rfl,hb⟩;replace hL:=hL.below hb;clear hb;skip;have hF:=hL.fx)|(go_at_call 85;(with_reducible refine zM (fun W hL=>HW.out _ hL.self0q) ?_);rintro W hL e W2 hb;obtain⟨rfl,at2,v2,LO2,pv,LP,h1,h2,h3,h4,hb⟩:=hb;replace hL:=hL.tail0 hb;clear hb;have hF:=hL.fx)|(go_at_call 85;(with_reducible refine zM (fun W hL=>HW.out _ hL.self0q) ?_);rintro W hL e W2 hb;obtain⟨rfl,hb⟩:=hb;replace hL:=hL.tail0 hb;clear hb;have hF:=hL.fx))
        first
        | (go_end0
           exact⟨rfl,at2,v2,LO2,pv,LP,h1,h2,h3,h4,hL⟩)
        | (exact⟨rfl,rfl,hL⟩)
theorem s9(src:ByteArray)(hs0:src.size<=10000)(v:Value)(b:Nat)(at_ ln:Nat)(w:World)(LO:List (Nat×Obj))(tvs:List (Tok×Value))(hL:Kn (b::keys LO) w w ((b,.cells #[.string src,.int .i64 (at_),.int .i64 (ln),v] 111 (0,0))::LO))(hO:gf LO v tvs)(hln:ln<=100000)(hz:ln<=at_+1)(c0:UInt8)(t:ab)(hd:src.data.toList.drop at_=c0::t):
  Calls Tryz.prog 48 #[.pointer (some ⟨b,0,none⟩)] w (TPost src b (b::keys LO) w v LO tvs (ba c0 t ln)):=by
 by_cases hc0:c0=32\/c0=9\/c0=10\/c0=40\/c0=41\/c0=124\/c0=38\/c0=59
 ·exact rf src hs0 v b at_ ln w LO tvs hL hO hln c0 t hd hc0
 ·exact oH src hs0 v b at_ ln w LO tvs hL hO hln hz c0 t hd hc0
theorem mV(x:Value)(W:World):(Instr.typeAssert (.iface 107 x) 20 107 true).run Tryz.prog W=.ok (.tuple #[x,.bool true]) W:=by kernel_rfl
theorem iP(bo be bl:Nat)(v0:Value)(hv:v0.oneCell'=true)(e0 l0 k m:Int)(older:List PanicEntry)(w:World)(hL:Kn [bo,be,bl] w w [(bo,.cells #[v0] 66 (0,0)),(be,.cells #[.int .i64 e0] 26 (0,0)),(bl,.cells #[.int .i64 l0] 3 (0,0))]):
  CallsD Tryz.prog 47 #[.pointer (some ⟨bo,0,none⟩),.pointer (some ⟨be,0,none⟩),.pointer (some ⟨bl,0,none⟩)] (.panicking ({v:=.iface 107 (.agg #[.int .i64 k,.int .i64 m]),recovered:=false}::older)) w fun e u' w'=>
   e=.returned (.tuple #[])/\u'=.panicking ({v:=.iface 107 (.agg #[.int .i64 k,.int .i64 m]),recovered:=true}::older)/\Kn [bo,be,bl] w w' [(bo,.cells #[.slice none 0 0] 66 (0,0)),(be,.cells #[.int .i64 k] 26 (0,0)),(bl,.cells #[.int .i64 m] 3 (0,0))]:=by
 refine callsD_of_wpS Tryz.func47 rfl fun c₀ cs hu=>?_
 apply wpS_seq
 apply wpS_region
 simp[wpOpsS,go_sem,recoverD,hu,Tryz.ntmps47,Exit.thenS]
 refine wpS_of_wp ?_
 have hF:=hL.fx
 generalize hR:(fun(e:Exit) (a':Act) (w':World)=>bodyPostS _ _ _ _ _ e a' _ w')=Q2
 have key:∀(a':Act) (w':World),a'.defers=[]->Kn [bo,be,bl] w w' [(bo,.cells #[.slice none 0 0] 66 (0,0)),(be,.cells #[.int .i64 k] 26 (0,0)),(bl,.cells #[.int .i64 m] 3 (0,0))]->Q2 .normal a' w':=by
  intro a' w' h1 h2;rw[<- hR];refine⟨h1,_,rfl,.tuple #[],?_,rfl,rfl,h2⟩;simp[results,Tryz.results47,go_sem]
 have HK:=yh key
 clear hR key
 clear hu
 obtain⟨pz,hpz⟩:∃pz,Value.iface 107 (.agg #[.int .i64 k,.int .i64 m])=pz:=⟨_,rfl⟩
 rw[hpz]
 show Code.wp _ _ _ {tmps:=#[.pointer (some ⟨bo,0,none⟩),.pointer (some ⟨be,0,none⟩),.pointer (some ⟨bl,0,none⟩),pz,undef,undef,pz,undef,undef,undef,undef,undef,undef,undef,undef,undef,undef,undef,undef,undef,undef],defers:=[]} _
 subst hpz
 have hta:=mV (.agg #[.int .i64 k,.int .i64 m])
 go_wp2_with ((with_reducible refine ac 5 ?_);refine zX [0,1,2,3,4,5,6] [6] ?_ (sC (sD (sD (sD sR))));clear hF hL;intro ι F hne hC hG;(repeat(first|((first|refine cF hC ?_|refine cP ?_);intro K hK;go_big_quiet_op;go_big_quiet_on)|(refine cN ?_;intro W hL;(try simp only[kfb]at hL);have hF:=hL.fx;go_wp2;refine ai ?_;(first|(refine bH _ (by rfl) ?_;clear hL hF hC hG;intro ι F hne hC hFF;have hG:=fun n=>(hFF n).fx;clear hFF)|(refine aQ _ (by repeat' (first|(with_reducible exact List.Sublist.refl _)|(with_reducible apply List.Sublist.cons_cons)|(with_reducible apply List.Sublist.cons))) ?_;clear hL hF)))));refine zN ?_;clear hC hG;intro W hL hF)
 exact HK.out _ _ rfl hL.drop1
theorem jE(bo be bl:Nat)(w:World):
  CallsD Tryz.prog 47 #[.pointer (some ⟨bo,0,none⟩),.pointer (some ⟨be,0,none⟩),.pointer (some ⟨bl,0,none⟩)] .returning w fun e u' w'=>e=.returned (.tuple #[])/\u'=.returning/\w'=w:=by
 refine callsD_of_wpS Tryz.func47 rfl fun c₀ cs hu=>?_
 apply wpS_seq
 apply wpS_region
 simp[wpOpsS,go_sem,recoverD,hu,Tryz.ntmps47,Exit.thenS]
 refine wpS_of_wp ?_
 generalize hR:(fun(e:Exit) (a':Act) (w':World)=>bodyPostS _ _ _ _ _ e a' _ w')=Q2
 have key:∀(a':Act),a'.defers=[]->Q2 .normal a' w:=by
  intro a' h1;rw[<- hR];refine⟨h1,c₀.mode,?_,.tuple #[],?_,rfl,hu,rfl⟩
  ·cases c₀;rfl
  ·simp[results,Tryz.results47,go_sem]
 have HK:=yh key
 clear hR key hu
 show Code.wp _ _ _ {tmps:=#[.pointer (some ⟨bo,0,none⟩),.pointer (some ⟨be,0,none⟩),.pointer (some ⟨bl,0,none⟩),.nilIface,undef,undef,.nilIface,undef,undef,undef,undef,undef,undef,undef,undef,undef,undef,undef,undef,undef,undef],defers:=[]} _
 go_wp2
 exact HK.out _ rfl
theorem cZ{P:Program}{fn:Func}{R:Ending->World->Prop}{x:Exit}{a:Act}{X:List Nat}{w0 Xw:World}{L:List (Nat×Obj)}[h:Kn X w0 Xw L]
  (k:∀W,Kn X w0 W L->bodyPostD P fn R x a W):bodyPostD P fn R x a Xw:=k Xw h
def PIn(w:World)(Y:List Nat)(x:Tok×Value):Prop:=(x.2=.slice none 0 0/\x.1.parts=[])\/∃g cap cur,x.2=.slice (some ⟨g,0,none⟩) x.1.parts.length cap/\w.heap[g]? =some (.cells cur 118 (0,0))/\RowB 3 cur cap x.1.parts.length (x.1.parts.flatMap ptc)/\g∉Y
theorem PIn.kn{w w':World}{Y Y':List Nat}{L:List (Nat×Obj)}{x:Tok×Value}(h:PIn w Y x)(k:Kn Y w w' L)(hy:∀y∈Y',y∈Y\/y∈keys L):PIn w' Y' x:=by
 rcases h with h|⟨g,cap,cur,h1,h2,h3,h4⟩
 ·exact .inl h
 ·have hlt:=eN h2
  refine .inr ⟨g,cap,cur,h1,?_,h3,fun hm=>?_⟩
  ·rw[k.block g hlt h4];exact h2
  ·rcases hy g hm with e|e
   ·grind
   ·obtain⟨p,hp,rfl⟩:=List.mem_map.1 e
    rcases k.own p hp with e|e
    ·omega
    grind
theorem PIn.new{w0 w:World}{b:Nat}{o:Obj}{LO2 LP R:List (Nat×Obj)}{X:List Nat}{x:Tok×Value}(hP:PtL LP x.2 x.1.parts)(k:Kn X w0 w ((b,o)::((LO2++LP)++R))):PIn w (b::keys (LO2++R)) x:=by
 rcases hP with⟨rfl,h2,h3⟩|⟨g,cap,cur,rfl,h2,h3⟩
 ·exact .inl ⟨h2,h3⟩
 ·refine .inr ⟨g,cap,cur,h2,k.has (g,_) (by simp),h3,?_⟩
  have nd:=k.nd;grind
theorem Kn.selfbR{X:List Nat}{w0 W:World}{b:Nat}{o:Obj}{LO R:List (Nat×Obj)}(h:Kn X w0 W ((b,o)::(LO++R))):Kn (b::keys LO) W W ((b,o)::LO):=Kn.self (P:=(b,o)::LO) [] R h
theorem Kn.joinbR{X:List Nat}{w0 W W':World}{b:Nat}{o:Obj}{LO R L':List (Nat×Obj)}(h:Kn X w0 W ((b,o)::(LO++R)))(k:Kn (b::keys LO) W W' L'):Kn X w0 W' (L'++R):=Kn.joinA (P:=(b,o)::LO) [] R h k
theorem fN{α:Type}{f:α->List Value}{k:Nat}(hk:∀a,(f a).length=k):∀(l:List α) (j c:Nat) (a:α) (x:Value),l[j]? =some a->(f a)[c]? =some x->(l.flatMap f)[j*k+c]? =some x
 | [],j,c,a,x,h,_=>by simp at h
 |y::l,0,c,a,x,h,hx=>by
  grind
 |y::l,j+1,c,a,x,h,hx=>by
  have:=fN hk l j c a x (by grind) hx;grind
theorem jF{α:Type}{f:α->List Value}{k:Nat}(hk:∀a,(f a).length=k){w:World}{g cap:Nat}{cur:Array Value}{e:TypeId}{l:List α}(hg:w.heap[g]? =some (.cells cur e (0,0)))(hr:RowB k cur cap l.length (l.flatMap f)):RowK k w (.slice (some ⟨g,0,none⟩) l.length cap) (l.map f):=by
 refine⟨some ⟨g,0,none⟩,cap,by simp,fun j cs hj=>⟨g,0,rfl,fun c x hx=>?_⟩⟩
 rw[List.getElem?_map]at hj
 cases hl:l[j]? with
 |none=>grind
 |some a=>
  rw[hl]at hj;simp only[Option.map_some,Option.some.injEq]at hj;subst hj;rw[Nat.zero_add,World.cell?,hg];exact hr.get (fN hk l j c a x hl hx)
theorem pR(x:Tok×Value):(tkc x).length=6:=rfl
theorem s_(x:Prt):(ptc x).length=3:=rfl
def s'(v:Value):Prop:=∃ao n cap,v=.slice ao n cap/\n<=cap
theorem PIn.capok{w:World}{Y:List Nat}{x:Tok×Value}(h:PIn w Y x):s' x.2:=by
 rcases h with⟨h1,h2⟩|⟨g,cap,cur,h1,h2,h3,h4⟩
 ·exact⟨_,_,_,h1,Nat.le_refl _⟩
 ·exact⟨_,_,_,h1,h3.le⟩
def TyV(w:World)(t:TypeId)(v:Value):Prop:=∀a n c,v=.slice (some a) n c->∃cells,w.heap[a.block]? =some (.cells cells t (0,0))
theorem TyV.ext{w w':World}{t:TypeId}{v:Value}(h:TyV w t v)(k:Below w.heap.size w w'):TyV w' t v:=fun a n c e=>by
 obtain⟨cells,h1⟩:=h a n c e
 exact⟨cells,by rw[k.block _ (eN h1)];exact h1⟩
theorem oI{w:World}{t:TypeId}{g o n c:Nat}{cells:Array Value}(h:w.heap[g]? =some (.cells cells t (0,0))):TyV w t (.slice (some ⟨g,o,none⟩) n c):=fun a n c e=>by
 grind
theorem PIn.tyv{w:World}{Y:List Nat}{x:Tok×Value}(h:PIn w Y x):TyV w 118 x.2:=by
 rcases h with⟨h1,h2⟩|⟨g,cap,cur,h1,h2,h3,h4⟩
 ·rw[h1];intro a n c e;cases e
 grind[oI]
theorem PIn.row{w:World}{Y:List Nat}{x:Tok×Value}(h:PIn w Y x):RowK 3 w x.2 (x.1.parts.map ptc):=by
 rcases h with⟨h1,h2⟩|⟨g,cap,cur,h1,h2,h3,h4⟩
 ·rw[h1,h2];exact⟨none,0,rfl,fun j cs h=>by simp at h⟩
 grind[jF,s_]
def TokRow(w:World)(v:Value)(ts:List Tok):Prop:=s' v/\TyV w 76 v/\∃tvs:List (Tok×Value),tvs.map (·.1)=ts/\RowK 6 w v (tvs.map tkc)/\∀x∈tvs,RowK 3 w x.2 (x.1.parts.map ptc)/\s' x.2/\TyV w 118 x.2
theorem TokRow.ext{w w':World}{v:Value}{ts:List Tok}(h:TokRow w v ts)(k:Below w.heap.size w w'):TokRow w' v ts:=by
 obtain⟨hc,ht,tvs,h1,h2,h3⟩:=h
 exact⟨hc,ht.ext k,tvs,h1,h2.ext k,fun x hx=>⟨(h3 x hx).1.ext k,(h3 x hx).2.1,(h3 x hx).2.2.ext k⟩⟩
def AF(V:Res)(e:Ending)(w':World):Prop:=match V with
 |.ok ts=>∃v,e=.returned (.tuple #[v,.int .i64 0,.int .i64 0])/\TokRow w' v ts
 |.err full m=>e=.returned (.tuple #[.slice none 0 0,.int .i64 (if full then 6 else 27),.int .i64 m])
def xJ(src:ByteArray)(w:World)(e:Ending)(w':World):Prop:=Below w.heap.size w w'/\AF (lex src.data.toList) e w'
theorem zU(src:ByteArray)(hs:8000<src.size)(w:World):Calls Tryz.prog 24 #[.string src] w (xJ src w):=by
 have hmf:∀(fn:Fn) (first cap:Array Value) (w:World),(Instr.makeFunc fn first cap).run Tryz.prog w=.ok (.func fn first cap) w:=fun _ _ _ _=>rfl
 have hl:lex src.data.toList=.err true 0:=by unfold lex;rw[if_pos (by rw[szl];exact hs)]
 have HLX:=yh hl
 clear hl
 have q0:(src.size:Int)>8000:=by omega
 have hL:Kn [] w w []:=Kn.refl [] w
 have hF:=hL.fx
 go_enter_defers Tryz.func24,Tryz.ntmps24
 go_wp2
 refine cZ ?_;clear hF hL;intro W hL;have hF:=hL.fx
 simp[bodyPostD,Leaves,settle,results,Tryz.results24,go_sem,hF]
 exact⟨hL.below0,by rw[HLX.out];rfl⟩
theorem te(src:ByteArray)(hs:src.size<=8000)(w:World):Calls Tryz.prog 24 #[.string src] w (xJ src w):=by
 obtain⟨i0,hi,hz0,hz1,hz2⟩:=bd xG
 have hs0:src.size<=10000:=by omega
 have hmf:∀(fn:Fn) (first cap:Array Value) (w:World),(Instr.makeFunc fn first cap).run Tryz.prog w=.ok (.func fn first cap) w:=fun _ _ _ _=>rfl
 have hsl:=szl src
 obtain⟨V,hV⟩:∃V,lex src.data.toList=V:=⟨_,rfl⟩
 have HLX:=yh hV
 have hV2:lim [] (cQ src.data.toList 1)=V:=by rw[<- hV,pH _ (by rw[szl];exact hs)]
 have HV:=yh hV2
 clear hV hV2
 have q0:¬(src.size:Int)>8000:=by omega
 have hL:Kn [] w w []:=Kn.refl [] w
 have hF:=hL.fx
 go_enter_defers Tryz.func24,Tryz.ntmps24
 go_wp2
 refine zE ?_;intro W hL hF
 clear hF
 generalize hb3:w.heap.size+1+1+1=b at hL |-
 generalize hb2:w.heap.size+1+1=bl at hL |-
 generalize hb1:w.heap.size+1=be at hL |-
 generalize hb0:w.heap.size=bo at hL |-
 clear hb0 hb1 hb2 hb3
 go_loopg [] (src.size) (fun k wr=>∃(at_ ln:Nat) (v:Value) (LO:List (Nat×Obj)) (tvs:List (Tok×Value)),Hid (k=src.size-at_)/\at_<=src.size/\Hid (ln<=at_+1)/\Hid (tvs.length<=2000)/\gf LO v tvs/\Hid (∀x∈tvs,PIn wr (b::keys (LO++[(bo,.cells #[.slice none 0 0] 66 (0,0)),(be,.cells #[.int .i64 0] 26 (0,0)),(bl,.cells #[.int .i64 0] 3 (0,0))])) x)/\Kn [] w wr ((b,.cells #[.string src,.int .i64 (at_),.int .i64 (ln),v] 111 (0,0))::(LO++[(bo,.cells #[.slice none 0 0] 66 (0,0)),(be,.cells #[.int .i64 0] 26 (0,0)),(bl,.cells #[.int .i64 0] 3 (0,0))]))/\Hid (lim (tvs.map (·.1)) (cQ (src.data.toList.drop at_) ln)=V))
 case atStart=>
  change Kn [] w W [(b,.cells #[.string src,.int .i64 (((0:Nat):Int)),.int .i64 (((1:Nat):Int)),.slice none 0 0] 111 (0,0)),_,_,_]at hL;refine⟨0,1,.slice none 0 0,[],[],yh rfl,by omega,yh (by omega),yh (by simp),.inl ⟨rfl,rfl,rfl⟩,yh (by simp),hL.perm fun p=>?_,HV⟩;simp only[List.countP_cons,List.countP_append,List.countP_nil];omega
 case round=>
  clear hL HV;obtain⟨at_,ln,v,LO,tvs,HK,hle,HLN,HTV,hO,HPI,hL,HV⟩:=hrel;have hln:ln<=100000:=by have:=HLN.out;omega
  have HL0:=yh hL;replace hL:=hL.self0;have hF:=hL.fx;by_cases hlt:at_<src.size
  ·obtain⟨c0,hc0⟩:∃c,src.data.toList[at_]? =some c:=⟨_,List.getElem?_eq_getElem (by rw[szl];omega)⟩
   have eb0:=bY hc0 (by omega);have hd0:src.data.toList.drop (at_)=c0::src.data.toList.drop (at_+1):=by
    obtain⟨h1,h2⟩:=List.getElem?_eq_some_iff.1 hc0;rw[List.drop_eq_getElem_cons h1,h2]
   obtain⟨t,ht⟩:∃t,src.data.toList.drop (at_+1)=t:=⟨_,rfl⟩;rw[ht]at hd0;have htl:t.length=src.size-(at_+1):=by rw[<- ht,List.length_drop,hsl]
   rw[hd0]at HV;obtain⟨S,hS⟩:∃S,ba c0 t ln=S:=⟨_,rfl⟩;have hsl1:=kO c0 t ln;have hsl2:=di c0 t ln;have HW:Hid (∀W,Kn (b::keys LO) W W ((b,.cells #[.string src,.int .i64 (at_),.int .i64 (ln),v] 111 (0,0))::LO)->Calls Tryz.prog 48 #[.pointer (some ⟨b,0,none⟩)] W (TPost src b (b::keys LO) W v LO tvs S)):=yh fun W hK=>by
    rw[<- hS];exact s9 src hs0 v b at_ ln W LO tvs hK hO hln HLN.out c0 t hd0
   rw[hS]at hsl1 hsl2
   cases S with
   |skip r m=>
    have hVV:=sZ (out:=tvs.map (·.1)) hS;rw[HV.out]at hVV;have HVV:=yh hVV.symm;have HS1:=yh hsl1;have HS2:=yh hsl2;have HTL:=yh htl;clear hVV hsl1 hsl2 hS hd0 hc0 ht htl;unfold TPost at HW;go_wp2_with (first|((with_reducible refine ac 5 ?_);refine zQ ?_;clear hF hL;intro ι F hne hG;(repeat go_big_quiet_step (fail));refine wpQuiet_nil ?_;clear hG;intro W hL hF)|(go_at_call 48;(with_reducible refine zM (fun W hL=>HW.out _ hL.selfbR) ?_);rintro W hL e W2 hb;obtain⟨rfl,at2,ha2,hr2,hb⟩:=hb;replace hL:=hL.joinbR hb;clear hb;have hr2:=yh hr2;simp only[kfb]at hL;have hF:=hL.fx))
    have hlen:r.length=src.size-at2:=by rw[<- hr2.out,List.length_drop,hsl]
    have h1:=HS1.out;have h2:=HS2.out;have h3:=HTL.out;have h4:=HLN.out;simp only[gj,Step.rest,List.length_cons]at h1 h2;go_roundg (src.size-at2)
    case measure=>have:=HK.out;omega
    case rel=>exact⟨at2,m,v,LO,tvs,yh rfl,ha2,yh (by omega),HTV,hO,yh fun x hx=>(HPI.out x hx).kn hL fun y hy=>.inl hy,HL0.out.tail0 hL,yh (by rw[hr2.out];exact HVV.out)⟩
   |bad m=>
    have hVV:=vM (out:=tvs.map (·.1)) hS;rw[HV.out]at hVV;have HVV:=yh hVV;clear hVV hsl1 hsl2 hS hd0 hc0 ht htl;unfold TPost at HW;go_wp2_with (first|((with_reducible refine ac 5 ?_);refine zQ ?_;clear hF hL;intro ι F hne hG;(repeat go_big_quiet_step (fail));refine wpQuiet_nil ?_;clear hG;intro W hL hF)|(go_at_call 48;(with_reducible refine zM (fun W hL=>HW.out _ hL.selfbR) ?_);rintro W hL e W2 hb;obtain⟨rfl,hb⟩:=hb;replace hL:=hL.joinbR hb;clear hb;simp only[kfb]at hL;have hF:=hL.fx))
    have hL3:Kn [] w _ [(bo,.cells #[.slice none 0 0] 66 (0,0)),(be,.cells #[.int .i64 0] 26 (0,0)),(bl,.cells #[.int .i64 0] 3 (0,0))]:=HL0.out.tail0 hL;refine leaves_cons (f:=47) (args:=#[.pointer (some ⟨bo,0,none⟩),.pointer (some ⟨be,0,none⟩),.pointer (some ⟨bl,0,none⟩)]) (by simp) (by simp[go_sem]) ?_;refine(iP bo be bl _ rfl _ _ _ _ _ _ hL3.self0).mono ?_;rintro e u' w'' ⟨rfl,rfl,hK⟩;have hL4:=hL3.tail0 hK;have hF4:=hL4.facts;simp only[cf,eb,zD]at hF4;simp[Leaves,settle,results,Tryz.results24,go_sem,hF4];exact⟨hL4.below0,by rw[HLX.out,HVV.out];rfl⟩
   |tok x r m=>
    unfold TPost at HW;by_cases hf:tvs.length<2000
    ·simp only[if_pos hf]at HW
     have hVV:=vN (out:=tvs.map (·.1)) hS (by simpa using hf);rw[HV.out]at hVV;have HVV:=yh hVV.symm;have HS1:=yh hsl1;have HS2:=yh hsl2;have HTL:=yh htl;clear hVV hsl1 hsl2 hS hd0 hc0 ht htl;go_wp2_with (first|((with_reducible refine ac 5 ?_);refine zQ ?_;clear hF hL;intro ι F hne hG;(repeat go_big_quiet_step (fail));refine wpQuiet_nil ?_;clear hG;intro W hL hF)|(go_at_call 48;(with_reducible refine zM (fun W hL=>HW.out _ hL.selfbR) ?_);rintro W hL e W2 hb;obtain⟨rfl,at2,v2,LO2,pv,LP,ha2,hr2,hO2,hP,hb⟩:=hb;replace hL:=hL.joinbR hb;clear hb;have hr2:=yh hr2;simp only[kfb]at hL;have hF:=hL.fx))
     have hlen:r.length=src.size-at2:=by rw[<- hr2.out,List.length_drop,hsl]
     have h1:=HS1.out;have h2:=HS2.out;have h3:=HTL.out;have h4:=HLN.out;simp only[gj,Step.rest,List.length_cons]at h1 h2;go_roundg (src.size-at2)
     case measure=>have:=HK.out;omega
     case rel=>
      refine⟨at2,m,v2,LO2,tvs++[(x,pv)],yh rfl,ha2,yh (by omega),yh (by simp;omega),hO2,yh fun y hy=>?_,?_,yh (by rw[hr2.out,List.map_append];exact HVV.out)⟩
      ·rcases List.mem_append.1 hy with hy|hy
       ·exact(HPI.out y hy).kn hL fun z hz=>.inr (by
         simp only[List.map_cons,List.map_append,List.mem_cons,List.mem_append]at hz |-
         rcases hz with h|h|h
         ·exact .inl h
         ·exact .inr (.inl (.inl h))
         ·exact .inr (.inr h))
       ·obtain rfl:=List.mem_singleton.1 hy
        exact PIn.new hP hL
      ·have hL4:=(HL0.out.tail0 hL).perm (L':=LP++((b,.cells #[.string src,.int .i64 (at2),.int .i64 (m),v2] 111 (0,0))::(LO2++[(bo,.cells #[.slice none 0 0] 66 (0,0)),(be,.cells #[.int .i64 0] 26 (0,0)),(bl,.cells #[.int .i64 0] 3 (0,0))]))) (fun p=>by simp only[List.countP_cons,List.countP_append,List.countP_nil];omega)
       exact hL4.sub (List.sublist_append_right _ _)
    ·simp only[if_neg hf]at HW
     have hVV:=s0 (out:=tvs.map (·.1)) hS (by simp;omega);rw[HV.out]at hVV;have HVV:=yh hVV;clear hVV hsl1 hsl2 hS hd0 hc0 ht htl;go_wp2_with (first|((with_reducible refine ac 5 ?_);refine zQ ?_;clear hF hL;intro ι F hne hG;(repeat go_big_quiet_step (fail));refine wpQuiet_nil ?_;clear hG;intro W hL hF)|(go_at_call 48;(with_reducible refine zM (fun W hL=>HW.out _ hL.selfbR) ?_);rintro W hL e W2 hb;obtain⟨rfl,hb⟩:=hb;replace hL:=hL.joinbR hb;clear hb;simp only[kfb]at hL;have hF:=hL.fx))
     have hL3:Kn [] w _ [(bo,.cells #[.slice none 0 0] 66 (0,0)),(be,.cells #[.int .i64 0] 26 (0,0)),(bl,.cells #[.int .i64 0] 3 (0,0))]:=HL0.out.tail0 hL;refine leaves_cons (f:=47) (args:=#[.pointer (some ⟨bo,0,none⟩),.pointer (some ⟨be,0,none⟩),.pointer (some ⟨bl,0,none⟩)]) (by simp) (by simp[go_sem]) ?_;refine(iP bo be bl _ rfl _ _ _ _ _ _ hL3.self0).mono ?_;rintro e u' w'' ⟨rfl,rfl,hK⟩;have hL4:=hL3.tail0 hK;have hF4:=hL4.facts;simp only[cf,eb,zD]at hF4;simp[Leaves,settle,results,Tryz.results24,go_sem,hF4];exact⟨hL4.below0,by rw[HLX.out,HVV.out];rfl⟩
  ·have hae:¬(at_:Int)<src.size:=by omega
   have hde:src.data.toList.drop at_=[]:=List.drop_eq_nil_of_le (by omega);have hVV:V=.ok (tvs.map (·.1)++[d9 ln]):=by rw[<- HV.out,hde,vO]
   have HVV:=yh hVV;have hTV:=HTV.out;clear hVV hde HV;rcases hO with⟨rfl,rfl,rfl⟩|⟨g,cap,cur,rfl,rfl,hr⟩
   ·clear hTV
    simp only[List.nil_append]at hL;have hF:=hL.fx;go_wp2_with (first|((with_reducible refine ac 5 ?_);refine zQ ?_;clear hF hL;intro ι F hne hG;(repeat go_big_quiet_step (fail));refine wpQuiet_nil ?_;clear hG;intro W hL hF)|((with_reducible refine ac 7 ?_);refine zX [0,1,2,3,4,5,6,7,8,9,10,11,12,13] [10,11,12,13] ?_ (sC (sD (sD (sD sR))));clear hF hL;intro ι F hne hC hG;(repeat(first|((first|refine cF hC ?_|refine cP ?_);intro K hK;go_big_quiet_op;go_big_quiet_on)|(refine cN ?_;intro W hL;(try simp only[kfb]at hL);have hF:=hL.fx;at_builtin;refine bE rfl _ _ 66 rfl 76 i0 _ Tryz.underlying66 hi hz0 (by rw[hz1];rfl) (by rw[hz1];decide) hL rfl _ _ _ (tkc (d9 ln,.slice none 0 0)) rfl (by rw[hz1];rfl) (fun j u hu=>by rw[Go.WideShapes.add_plain,Nat.zero_add,World.cell?,hL.has _ m0];simpa[tkc,bs,d9]using hu) (ja _ rfl) (by unfold maxLen;omega) (by rw[hz2];omega) (by omega) ?_;intro g2 cap2 cur2 W2 hL2 hg2 hr2;clear hL hF;have hL:=hL2;clear hL2;have hF:=hL.fx;go_wp2;refine zB2 ?_;clear hL hF hC hG;intro ι F hne hC hG)|(refine cN ?_;intro W hL;(try simp only[kfb]at hL);have hF:=hL.fx;go_wp2;refine ai ?_;(first|(refine bH _ (by rfl) ?_;clear hL hF hC hG;intro ι F hne hC hFF;have hG:=fun n=>(hFF n).fx;clear hFF)|(refine aQ _ (by repeat' (first|(with_reducible exact List.Sublist.refl _)|(with_reducible apply List.Sublist.cons_cons)|(with_reducible apply List.Sublist.cons))) ?_;clear hL hF)))));refine zN ?_;clear hC hG;intro W hL hF))
    rw[hz1]at hr2;refine leaves_cons (f:=47) (args:=#[.pointer (some ⟨bo,0,none⟩),.pointer (some ⟨be,0,none⟩),.pointer (some ⟨bl,0,none⟩)]) (by simp) (by simp[go_sem]) ?_;refine(jE bo be bl _).mono ?_;rintro e u' w'' ⟨rfl,rfl,rfl⟩;simp[Leaves,settle,results,Tryz.results24,go_sem,hF];refine⟨(HL0.out.tail0 hL).below0,?_⟩;rw[HLX.out,HVV.out];have hr3:RowB 6 cur2 cap2 ([(d9 ln,Value.slice none 0 0)]).length (([(d9 ln,Value.slice none 0 0)]).flatMap tkc):=by simpa using hr2
    have hrow:=jF (l:=[(d9 ln,Value.slice none 0 0)]) pR (hL.has (g2,.cells cur2 76 (0,0)) (by simp)) hr3;refine⟨_,rfl,⟨_,_,_,rfl,by simpa using hr3.le⟩,oI (hL.has (g2,.cells cur2 76 (0,0)) (by simp)),[(d9 ln,Value.slice none 0 0)],by simp,by simpa using hrow,?_⟩;intro x hx;obtain rfl:=List.mem_singleton.1 hx;exact⟨⟨none,0,rfl,fun j cs h=>by simp[d9]at h⟩,⟨_,_,_,rfl,Nat.le_refl _⟩,fun a n c e=>by cases e⟩
   ·simp only[List.nil_append,List.cons_append]at hL
    have hF:=hL.fx;go_wp2_with (first|((with_reducible refine ac 5 ?_);refine zQ ?_;clear hF hL;intro ι F hne hG;(repeat go_big_quiet_step (fail));refine wpQuiet_nil ?_;clear hG;intro W hL hF)|((with_reducible refine ac 7 ?_);refine zX [0,1,2,3,4,5,6,7,8,9,10,11,12,13] [10,11,12,13] ?_ (sC (sD (sD (sD (sD sR)))));clear hF hL;intro ι F hne hC hG;(repeat(first|((first|refine cF hC ?_|refine cP ?_);intro K hK;go_big_quiet_op;go_big_quiet_on)|(refine cN ?_;intro W hL;(try simp only[kfb]at hL);have hF:=hL.fx;at_builtin;refine aU rfl _ _ 66 rfl 76 i0 _ Tryz.underlying66 hi hz0 (by rw[hz1];rfl) (by rw[hz1];decide) hL 2 _ _ _ _ _ rfl (by rw[hz1];exact hr) rfl _ _ _ (tkc (d9 ln,.slice none 0 0)) rfl (by rw[hz1];rfl) (fun j u hu=>by rw[Go.WideShapes.add_plain,Nat.zero_add,World.cell?,hL.has _ m0];simpa[tkc,bs,d9]using hu) (ja _ rfl) (by unfold maxLen;omega) (by rw[hz2];omega) (by omega) ?_;intro g2 cap2 cur2 W2 hL2 hr2;clear hL hF;have hL:=hL2;clear hL2;simp only[List.eraseIdx_cons_zero,List.eraseIdx_cons_succ]at hL;have hF:=hL.fx;go_wp2;refine zB2 ?_;clear hL hF hC hG;intro ι F hne hC hG)|(refine cN ?_;intro W hL;(try simp only[kfb]at hL);have hF:=hL.fx;go_wp2;refine ai ?_;(first|(refine bH _ (by rfl) ?_;clear hL hF hC hG;intro ι F hne hC hFF;have hG:=fun n=>(hFF n).fx;clear hFF)|(refine aQ _ (by repeat' (first|(with_reducible exact List.Sublist.refl _)|(with_reducible apply List.Sublist.cons_cons)|(with_reducible apply List.Sublist.cons))) ?_;clear hL hF)))));refine zN ?_;clear hC hG;intro W hL hF))
    rw[hz1]at hr2;refine leaves_cons (f:=47) (args:=#[.pointer (some ⟨bo,0,none⟩),.pointer (some ⟨be,0,none⟩),.pointer (some ⟨bl,0,none⟩)]) (by simp) (by simp[go_sem]) ?_;refine(jE bo be bl _).mono ?_;rintro e u' w'' ⟨rfl,rfl,rfl⟩;simp[Leaves,settle,results,Tryz.results24,go_sem,hF];refine⟨(HL0.out.tail0 hL).below0,?_⟩;rw[HLX.out,HVV.out];have hr3:RowB 6 cur2 cap2 (tvs++[(d9 ln,Value.slice none 0 0)]).length ((tvs++[(d9 ln,Value.slice none 0 0)]).flatMap tkc):=by simpa using hr2
    have hrow:=jF (l:=tvs++[(d9 ln,Value.slice none 0 0)]) pR (hL.has (g2,.cells cur2 76 (0,0)) (by simp)) hr3;refine⟨_,rfl,⟨_,_,_,rfl,by simpa using hr3.le⟩,oI (hL.has (g2,.cells cur2 76 (0,0)) (by simp)),tvs++[(d9 ln,Value.slice none 0 0)],by simp,by simpa using hrow,?_⟩;intro x hx;rcases List.mem_append.1 hx with hx|hx
    ·exact⟨((HPI.out x hx).kn hL (Y':=[]) (by simp)).row,((HPI.out x hx).kn hL (Y':=[]) (by simp)).capok,((HPI.out x hx).kn hL (Y':=[]) (by simp)).tyv⟩
    ·obtain rfl:=List.mem_singleton.1 hx;exact⟨⟨none,0,rfl,fun j cs h=>by simp[d9]at h⟩,⟨_,_,_,rfl,Nat.le_refl _⟩,fun a n c e=>by cases e⟩
def RowY(k:Nat)(Y:List Nat)(w:World)(v:Value)(xs:List (List Value)):Prop:=
 ∃ao cap,v=.slice ao xs.length cap/\xs.length<=cap/\∀(j:Nat) cs,xs[j]? =some cs->∃g o,ao=some ⟨g,o,none⟩/\g∉Y/\g<w.heap.size/\∀(c:Nat) x,cs[c]? =some x->w.cell? ⟨g,o+j*k+c,none⟩=some x
theorem RowY.nil{k:Nat}{Y:List Nat}{w:World}:RowY k Y w (.slice none 0 0) []:=⟨none,0,rfl,Nat.le_refl _,fun j cs h=>by simp at h⟩
theorem RowY.kn{k:Nat}{Y Y':List Nat}{w w':World}{L:List (Nat×Obj)}{v:Value}{xs:List (List Value)}(h:RowY k Y w v xs)(kn:Kn Y w w' L)(hy:∀y∈Y',y∈Y\/w.heap.size<=y):RowY k Y' w' v xs:=by
 obtain⟨ao,cap,h1,h2,h3⟩:=h
 refine⟨ao,cap,h1,h2,fun j cs hj=>?_⟩
 obtain⟨g,o,h4,h5,h6,h7⟩:=h3 j cs hj
 refine⟨g,o,h4,fun hm=>?_,Nat.lt_of_lt_of_le h6 kn.size,fun c x hx=>(da (kn.block g h6 h5)).trans (h7 c x hx)⟩
 grind
theorem RowY.sub{k:Nat}{Y Y':List Nat}{w:World}{v:Value}{xs:List (List Value)}(h:RowY k Y w v xs)(hy:∀y∈Y',y∈Y\/w.heap.size<=y):RowY k Y' w v xs:=h.kn (Kn.refl Y w) hy
def PRow(Y:List Nat)(w:World)(v:Value)(ps:List Prt):Prop:=RowY 3 Y w v (ps.map ptc)
def asc(x:(ab×List Prt)×Value):List Value:=[bs x.1.1,x.2]
def rsc(x:(Int×Nat×List Prt)×Value):List Value:=[.int .i64 x.1.1,.int .i64 x.1.2.1,x.2]
def zV(v:Value):Prop:=∃ao n cap,v=.slice ao n cap/\n<=cap
inductive NodeIs (Y:List Nat) (w:World):Nd->List Value->Prop
 |mk (kind:Nat) (name:ab) (neg:Bool) (al:List ((ab×List Prt)×Value)) (ws:List (List Prt×Value)) (rs:List ((Int×Nat×List Prt)×Value)) (ks:List (Nd×List Value)) (va vw vr vk:Value)
  (h1:RowY 2 Y w va (al.map asc)) (h2:∀x∈al,PRow Y w x.2 x.1.2) (h3:RowY 1 Y w vw (ws.map fun x=>[x.2])) (h4:∀x∈ws,PRow Y w x.2 x.1)
  (h5:RowY 3 Y w vr (rs.map rsc)) (h6:∀x∈rs,PRow Y w x.2 x.1.2.2) (h7:RowY 7 Y w vk (ks.map (·.2))) (h8:∀x∈ks,NodeIs Y w x.1 x.2):
  NodeIs Y w (.mk kind name neg (al.map (·.1)) (ws.map (·.1)) (rs.map (·.1)) (ks.map (·.1))) [.int .i64 kind,bs name,.bool neg,va,vw,vr,vk]
theorem NodeIs.kn{Y Y':List Nat}{w w':World}{L:List (Nat×Obj)}{n:Nd}{cs:List Value}(h:NodeIs Y w n cs)(k:Kn Y w w' L)(hy:∀y∈Y',y∈Y\/w.heap.size<=y):NodeIs Y' w' n cs:=by
 induction h with
 |mk kind name neg al ws rs ks va vw vr vk h1 h2 h3 h4 h5 h6 h7 h8 ih=>
  exact .mk kind name neg al ws rs ks va vw vr vk (h1.kn k hy) (fun x hx=>(h2 x hx).kn k hy) (h3.kn k hy) (fun x hx=>(h4 x hx).kn k hy) (h5.kn k hy) (fun x hx=>(h6 x hx).kn k hy) (h7.kn k hy) ih
def vR(W0:World)(g:Nat):Prop:=∀c t f,W0.heap[g]? =some (.cells c t f)->t=118
def TyN(W0:World)(v:Value):Prop:=∀a n c,v=.slice (some a) n c->vR W0 a.block
structure PEnv (W0:World) (g o cap:Nat) (tvs:List (Tok×Value)):Prop where
 cells:∀(i:Nat) x,tvs[i]? =some x->∀(c:Nat) u,(tkc x)[c]? =some u->W0.cell? ⟨g,o+i*6+c,none⟩=some u
 parts:∀x∈tvs,RowK 3 W0 x.2 (x.1.parts.map ptc)/\zV x.2
 tyn:∀x∈tvs,TyN W0 x.2
 len:tvs.length<=cap
 pos:0<tvs.length
 max:tvs.length<=100000
 word:∀x∈tvs,x.1.text.length<=100000/\x.1.plain.length<=100000/\x.1.parts.length<=100000/\∀p∈x.1.parts,p.t.length<=100000
 last:∀(i:Nat) x,tvs[i]? =some x->(x.1.kind=4↔i+1=tvs.length)
 fin:∀x,tvs[tvs.length-1]? =some x->x.1.text=[]/\x.1.plain=[]
 mx:∃m:Int,W0.cell? ⟨1,0,none⟩=some (.int .i64 m)
 clo:∃cg co cc,W0.cell? ⟨0,0,none⟩=some (.slice (some ⟨cg,co,none⟩) 10 cc)/\10<=cc/\∀(j:Nat) s,closers[j]? =some s->W0.cell? ⟨cg,co+j,none⟩=some (bs s)
def TT(tvs:List (Tok×Value)):List Tok:=tvs.dropLast.map fun x=>{x.1 with line:=0}
theorem ep(tvs:List (Tok×Value)):(TT tvs).length=tvs.length-1:=by grind[TT]
def AtV(g o cap:Nat)(tvs:List (Tok×Value))(i:Nat)(v:Value):Prop:=i<tvs.length/\v=.slice (some ⟨g,o+i*6,none⟩) (tvs.length-i) (cap-i)
def eL(tvs:List (Tok×Value))(m:Nat):Nat:=(tvs[tvs.length-1-m]?.map fun x=>x.1.line).getD 0
def jG(er:Nat):Int:=if er=2 then 6 else 27
def lE(b d:Nat)(g o cap:Nat)(tvs:List (Tok×Value))(w:World){α:Type}(V:α->Value->World->Prop)(p:PR α)(e:Ending)(w':World):Prop:=match p with
 |.ok a r=>∃v j vj,e=.returned v/\V a v w'/\Hid (AtV g o cap tvs j vj/\r=(TT tvs).drop j)/\Kn [b] w w' [(b,.cells #[vj,.int .i64 (d:Int)] 73 (0,0))]
 |.bad er m=>∃vj dj,e=.panicked [{v:=.iface 70 (.agg #[.int .i64 (jG er),.int .i64 (eL tvs m)]),recovered:=false}]/\Kn [b] w w' [(b,.cells #[vj,.int .i64 dj] 73 (0,0))]
section
variable {W0:World} {g o cap:Nat} {tvs:List (Tok×Value)} (E:PEnv W0 g o cap tvs)
theorem bD(E:PEnv W0 g o cap tvs){i:Nat}{x:Tok×Value}(hx:tvs[i]? =some x):((TT tvs).drop i=[]/\x.1.kind=4/\x.1.text=[]/\x.1.plain=[])\/((TT tvs).drop i={x.1 with line:=0}::(TT tvs).drop (i+1)/\x.1.kind≠4/\i+1<tvs.length):=by
 have hi:=(List.getElem?_eq_some_iff.1 hx).1
 by_cases h:i+1=tvs.length
 ·left
  have h2:=E.fin x (by grind);exact⟨List.drop_eq_nil_of_le (by rw[ep];omega),(E.last i x hx).2 h,h2.1,h2.2⟩
 ·right
  refine⟨?_,fun e=>h ((E.last i x hx).1 e),by omega⟩;have h3:(TT tvs)[i]? =some {x.1 with line:=0}:=by
   grind[TT]
  obtain⟨h4,h5⟩:=List.getElem?_eq_some_iff.1 h3;rw[List.drop_eq_getElem_cons h4,h5]
theorem pS(E:PEnv W0 g o cap tvs){i:Nat}{x:Tok×Value}(hx:tvs[i]? =some x)(s:ab):aR s ((TT tvs).drop i)=(((x.1.kind:Int)==1)&&(x.1.text==s)):=by
 rcases bD E hx with⟨h1,h2,h3,h4⟩|⟨h1,h2,h3⟩
 ·rw[h1,h2];rfl
 ·rw[h1]
  show(x.1.kind==1&&_)=_
  grind
theorem zW(E:PEnv W0 g o cap tvs){i:Nat}{x:Tok×Value}(hx:tvs[i]? =some x)(l:List ab):bP l ((TT tvs).drop i)=(((x.1.kind:Int)==0)&&((x.1.plain != [])&&l.contains x.1.plain)):=by
 rcases bD E hx with⟨h1,h2,h3,h4⟩|⟨h1,h2,h3⟩
 ·rw[h1,h2];rfl
 ·rw[h1]
  show(x.1.kind==0&&_)=_
  grind
theorem lF(E:PEnv W0 g o cap tvs){i:Nat}{x:Tok×Value}(hx:tvs[i]? =some x)(k:Nat)(hk:k≠4):isK k ((TT tvs).drop i)=((x.1.kind:Int)==(k:Int)):=by
 rcases bD E hx with⟨h1,h2,h3,h4⟩|⟨h1,h2,h3⟩
 ·rw[h1,h2]
  exact(beq_false_of_ne (by omega)).symm
 ·rw[h1]
  show(x.1.kind==k)=_
  grind
theorem lG{i:Nat}{x:Tok×Value}(hx:tvs[i]? =some x)(m:Nat)(hm:m=((TT tvs).drop i).length):eL tvs m=x.1.line:=by
 grind[ep,eL]
end
theorem zY(s:ByteArray)(b g q n cap:Nat)(v2:Value)(w:World)(hb:w.heap[b]? =some (.cells #[.slice (some ⟨g,q,none⟩) (n) (cap),v2] 73 (0,0)))(hn:1<=n)(kd fd ln:Int)(tx pl:ByteArray)(pa:Option Addr)(pn pc:Nat)(h0:w.cell? ⟨g,q,none⟩=some (.int .i64 kd))(h1:w.cell? ⟨g,q+1,none⟩=some (.string tx))(h2:w.cell? ⟨g,q+2,none⟩=some (.string pl))(h3:w.cell? ⟨g,q+3,none⟩=some (.slice pa pn pc))(h4:w.cell? ⟨g,q+4,none⟩=some (.int .i64 fd))(h5:w.cell? ⟨g,q+5,none⟩=some (.int .i64 ln))(hgb:g≠b):
  Calls Tryz.prog 52 #[.pointer (some ⟨b,0,none⟩),.string s] w fun e w'=>e=.returned (.bool ((kd==1)&&(tx.toList==s.toList)))/\Below w.heap.size w w':=by
 have HB:=yh hb
 have hL:Kn [b] w w [(b,.cells #[.slice (some ⟨g,q,none⟩) (n) (cap),v2] 73 (0,0))]:=Kn.one hb
 have hg:=aF h0
 clear hb
 have hF:=hL.fx
 obtain⟨k1,hk1⟩:∃k:Bool,(kd==1)=k:=⟨_,rfl⟩
 obtain⟨k2,hk2⟩:∃k:Bool,(tx.toList==s.toList)=k:=⟨_,rfl⟩
 rw[hk1,hk2]
 obtain⟨f0,f1,f2,f3,f4,f5⟩:=tkF kd fd ln tx pl pa pn pc
 cases k1<;>cases k2<;>(
  go_enter Tryz.func52,Tryz.ntmps52;go_wp2_with (first|(with_reducible refine zS ?_;intro W hL hF)|(go_at_call 27;refine zC (fun W hL=>fW b g q n cap v2 _ hL.h0 (by omega) kd fd ln tx pl pa pn pc (dz hL h0 hgb) (dz hL h1 hgb) (dz hL h2 hgb) (dz hL h3 hgb) (dz hL h4 hgb) (dz hL h5 hgb) hgb) ?_;intro W hL hF))
  refine zF ?_;intro W hL hF;refine bodyPost_ret (by simp[results,Tryz.results52,go_sem, *];try rfl) rfl ?_;exact⟨rfl,dR (hL.sub (by repeat' ((exact List.Sublist.refl _)))) HB.out⟩)
theorem oJ(zb zo m zc:Nat)(zs:List ByteArray)(hm:Hid (m=zs.length))(hm2:m<=100)(b g q n cap:Nat)(v2:Value)(w:World)(hb:w.heap[b]? =some (.cells #[.slice (some ⟨g,q,none⟩) (n) (cap),v2] 73 (0,0)))(hn:1<=n)(kd fd ln:Int)(tx pl:ByteArray)(pa:Option Addr)(pn pc:Nat)(h0:w.cell? ⟨g,q,none⟩=some (.int .i64 kd))(h1:w.cell? ⟨g,q+1,none⟩=some (.string tx))(h2:w.cell? ⟨g,q+2,none⟩=some (.string pl))(h3:w.cell? ⟨g,q+3,none⟩=some (.slice pa pn pc))(h4:w.cell? ⟨g,q+4,none⟩=some (.int .i64 fd))(h5:w.cell? ⟨g,q+5,none⟩=some (.int .i64 ln))(hgb:g≠b)(hz:∀j,j<zs.length->w.cell? ⟨zb,zo+j,none⟩=some (.string (zs.getD j ByteArray.empty)))(hzb:zb≠b):
    Calls Tryz.prog 86 #[.pointer (some ⟨b,0,none⟩),.slice (some ⟨zb,zo,none⟩) m zc] w fun e w'=>e=.returned (.bool ((kd==0)&&((pl.toList != [])&&Lib.containsS zs pl)))/\Below w.heap.size w w':=by
  have HB:=yh hb;have hL:Kn [b] w w [(b,.cells #[.slice (some ⟨g,q,none⟩) (n) (cap),v2] 73 (0,0))]:=Kn.one hb;have hg:=aF h0;clear hb;have hF:=hL.fx;obtain⟨k1,hk1⟩:∃k:Bool,(kd==0)=k:=⟨_,rfl⟩;obtain⟨k2,hk2⟩:∃k:Bool,(pl.toList==[])=k:=⟨_,rfl⟩;obtain⟨k3,hk3⟩:∃k:Bool,Lib.containsS zs pl=k:=⟨_,rfl⟩;rw[hk1,show(pl.toList != [])= !k2 by rw[<- hk2];rfl,hk3];have HC:=yh (fun W (hL:Kn [b] w W [(b,.cells #[.slice (some ⟨g,q,none⟩) (n) (cap),v2] 73 (0,0))])=>(Tryz.slices_Contains_string zb zo m zc zs pl W (by have:=hm.out;omega) (by omega) (fun j hj=>dz hL (hz j hj) hzb)).mono (R':=fun e w'=>e=.returned (.bool k3)/\w'=W) fun e w' h=>⟨by rw[h.1,List.take_of_length_le (by have:=hm.out;omega),hk3],h.2⟩);clear hz hk3;have f0:=zy kd fd ln tx pl pa pn pc;have f1:=zz kd fd ln tx pl pa pn pc;have f2:=zH kd fd ln tx pl pa pn pc;have f3:=rc kd fd ln tx pl pa pn pc;have f4:=zI kd fd ln tx pl pa pn pc;have f5:=x_ kd fd ln tx pl pa pn pc
  cases k1<;>cases k2<;>(
    go_enter Tryz.func86,Tryz.ntmps86;go_wp2_with (first|((with_reducible refine me ?_);clear hL;intro W hL;have hF:=hL.facts)|(go_at_call 27;refine aj ?_;clear hF hL;intro W hL;have hF:=hL.fx;(with_reducible refine(fW b g q n cap v2 _ (by(exact hL.has _ List.mem_cons_self)) (by omega) kd fd ln tx pl pa pn pc (dz hL h0 hgb) (dz hL h1 hgb) (dz hL h2 hgb) (dz hL h3 hgb) (dz hL h4 hgb) (dz hL h5 hgb) hgb).mono ?_);rintro e W ⟨rfl,hb⟩;replace hL:=hL.below hb;clear hb hF;have hF:=hL.fx)|(go_at_call 104;refine aj ?_;clear hF hL;intro W hL;have hF:=hL.fx;(with_reducible refine(HC.out _ hL).mono ?_);rintro e w' ⟨rfl,rfl⟩))
    refine eA ?_;clear hF hL;intro W hL;have hF:=hL.fx;refine bodyPost_ret (by simp[results,Tryz.results86,go_sem, *];try rfl) rfl ?_;exact⟨rfl,dR (hL.sub (by repeat' ((exact List.Sublist.refl _)))) HB.out⟩)
end
end Go.Proofs.YtgboffbbpmileaaGreatDoor
