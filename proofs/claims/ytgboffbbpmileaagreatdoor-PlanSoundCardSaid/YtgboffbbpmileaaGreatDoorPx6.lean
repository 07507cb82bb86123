/- Lemmas and walks for the law VLawPSound (part 6). -/
import Derived.Test.YtgboffbbpmileaaGreatDoorPx5
import Derived.Test.YtgboffbbpmileaaGreatDoorProg
import Derived.WalkKit
import Derived.Handy
import Derived.Deep.Light
import Derived.WalkSmall
import Derived.StillTailTactics
import Derived.Lib.Hide
import Derived.Lib.AppendStr
set_option maxRecDepth 20000
set_option maxHeartbeats 4000000
set_option linter.unusedVariables false
set_option linter.unusedSimpArgs false
namespace Go.Proofs.YtgboffbbpmileaaGreatDoor
open Go Go.RowKit
section
theorem fE{W0:World}{g o cap:Nat}{tvs:List (Tok×Value)}(E:PEnv W0 g o cap tvs){w:World}(hB:Below W0.heap.size W0 w){i:Nat}{x:Tok×Value}(hx:tvs[i]? =some x)(pa:Option Addr)(pn pc:Nat)(hx2:x.2=.slice pa pn pc):w.cell? ⟨g,o+i*6,none⟩=some (.int .i64 (x.1.kind:Int))/\w.cell? ⟨g,o+i*6+1,none⟩=some (.string ⟨x.1.text.toArray⟩)/\w.cell? ⟨g,o+i*6+2,none⟩=some (.string ⟨x.1.plain.toArray⟩)/\w.cell? ⟨g,o+i*6+3,none⟩=some (.slice pa pn pc)/\w.cell? ⟨g,o+i*6+4,none⟩=some (.int .i64 x.1.fd)/\w.cell? ⟨g,o+i*6+5,none⟩=some (.int .i64 (x.1.line:Int)):=by
 have h:=fun c u hu=>bL (E.cells i x hx c u hu) hB
 refine⟨h 0 _ rfl,h 1 _ rfl,h 2 _ rfl,?_,h 4 _ rfl,h 5 _ rfl⟩
 rw[<- hx2];exact h 3 _ rfl
theorem aK{W0:World}{g o cap:Nat}{tvs:List (Tok×Value)}(E:PEnv W0 g o cap tvs)(b i:Nat)(v:Value)(d:Int)(w:World)(hB:Below W0.heap.size W0 w)(hbb:W0.heap.size<=b)(hv:Hid (AtV g o cap tvs i v))(hb:w.heap[b]? =some (.cells #[v,.int .i64 d] 73 (0,0))){x:Tok×Value}(hx:tvs[i]? =some x)(pa:Option Addr)(pn pc:Nat)(hx2:x.2=.slice pa pn pc):Calls Tryz.prog 27 #[.pointer (some ⟨b,0,none⟩)] w fun e w'=>e=.returned (.agg #[.int .i64 (x.1.kind:Int),.string ⟨x.1.text.toArray⟩,.string ⟨x.1.plain.toArray⟩,.slice pa pn pc,.int .i64 x.1.fd,.int .i64 (x.1.line:Int)])/\Below w.heap.size w w':=by
 obtain⟨hi,rfl⟩:=hv.out
 have hlen:=E.len
 have hc:=fE E hB hx pa pn pc hx2
 have hgb:g≠b:=by have:=aF (fE E (Below.refl _ W0) hx pa pn pc hx2).1;omega
 exact fW b g (o+i*6) (tvs.length-i) (cap-i) (.int .i64 d) w hb (by omega) x.1.kind x.1.fd x.1.line ⟨x.1.text.toArray⟩ ⟨x.1.plain.toArray⟩ pa pn pc hc.1 hc.2.1 hc.2.2.1 hc.2.2.2.1 hc.2.2.2.2.1 hc.2.2.2.2.2 hgb
theorem d_{W0:World}{g o cap:Nat}{tvs:List (Tok×Value)}(E:PEnv W0 g o cap tvs)(b i:Nat)(v:Value)(d:Int)(w:World)(hB:Below W0.heap.size W0 w)(hbb:W0.heap.size<=b)(hv:Hid (AtV g o cap tvs i v))(hb:w.heap[b]? =some (.cells #[v,.int .i64 d] 73 (0,0))){x:Tok×Value}(hx:tvs[i]? =some x)(pa:Option Addr)(pn pc:Nat)(hx2:x.2=.slice pa pn pc)(h4:x.1.kind≠4):Calls Tryz.prog 53 #[.pointer (some ⟨b,0,none⟩)] w fun e w'=>e=.returned (.agg #[.int .i64 (x.1.kind:Int),.string ⟨x.1.text.toArray⟩,.string ⟨x.1.plain.toArray⟩,.slice pa pn pc,.int .i64 x.1.fd,.int .i64 (x.1.line:Int)])/\∃vj,Hid (AtV g o cap tvs (i+1) vj)/\Kn [b] w w' [(b,.cells #[vj,.int .i64 d] 73 (0,0))]:=by
 obtain⟨hi,rfl⟩:=hv.out
 have hlen:=E.len
 have hc:=fE E hB hx pa pn pc hx2
 have hgb:g≠b:=by have:=aF (fE E (Below.refl _ W0) hx pa pn pc hx2).1;omega
 have h5:i+1<tvs.length:=by rcases bD E hx with h|h;exact absurd h.2.1 h4;omega
 refine(vH b g (o+i*6) (tvs.length-i) (cap-i) (.int .i64 d) w hb (by omega) x.1.kind x.1.fd x.1.line ⟨x.1.text.toArray⟩ ⟨x.1.plain.toArray⟩ pa pn pc hc.1 hc.2.1 hc.2.2.1 hc.2.2.2.1 hc.2.2.2.2.1 hc.2.2.2.2.2 hgb (by omega)).mono fun e w' h=>⟨h.1,_,yh ⟨h5,?_⟩,h.2⟩
 grind
theorem ym{W0:World}{g o cap:Nat}{tvs:List (Tok×Value)}(E:PEnv W0 g o cap tvs)(b i:Nat)(v:Value)(d:Int)(w:World)(hB:Below W0.heap.size W0 w)(hbb:W0.heap.size<=b)(hv:Hid (AtV g o cap tvs i v))(hb:w.heap[b]? =some (.cells #[v,.int .i64 d] 73 (0,0))){x:Tok×Value}(hx:tvs[i]? =some x)(pa:Option Addr)(pn pc:Nat)(hx2:x.2=.slice pa pn pc)(er:Nat)(k:Int)(dd:Nat)(her:Hid (jG er=(k:Int)))(m:Nat)(hm:Hid (m=((TT tvs).drop i).length)):Calls Tryz.prog 28 #[.pointer (some ⟨b,0,none⟩),.int .i64 k] w fun e w'=>lE b dd g o cap tvs w (α:=Unit) (fun _ _ _=>False) (.bad er m) e w':=by
 obtain⟨hi,rfl⟩:=hv.out
 have hlen:=E.len
 have hc:=fE E hB hx pa pn pc hx2
 have hgb:g≠b:=by have:=aF (fE E (Below.refl _ W0) hx pa pn pc hx2).1;omega
 refine(pN k b g (o+i*6) (tvs.length-i) (cap-i) (.int .i64 d) w hb (by omega) x.1.kind x.1.fd x.1.line ⟨x.1.text.toArray⟩ ⟨x.1.plain.toArray⟩ pa pn pc hc.1 hc.2.1 hc.2.2.1 hc.2.2.2.1 hc.2.2.2.2.1 hc.2.2.2.2.2 hgb).mono fun e w' h=>?_
 obtain⟨h1,h2⟩:=h
 exact⟨_,d,by rw[h1,her.out,lG hx m hm.out],(Kn.one hb).below h2⟩
theorem AG{W0:World}{g o cap:Nat}{tvs:List (Tok×Value)}(E:PEnv W0 g o cap tvs)(b i:Nat)(v:Value)(d:Int)(w:World)(hB:Below W0.heap.size W0 w)(hbb:W0.heap.size<=b)(hv:Hid (AtV g o cap tvs i v))(hb:w.heap[b]? =some (.cells #[v,.int .i64 d] 73 (0,0))){x:Tok×Value}(hx:tvs[i]? =some x)(pa:Option Addr)(pn pc:Nat)(hx2:x.2=.slice pa pn pc)(s:ByteArray):Calls Tryz.prog 52 #[.pointer (some ⟨b,0,none⟩),.string s] w fun e w'=>e=.returned (.bool (aR s.data.toList ((TT tvs).drop i)))/\Below w.heap.size w w':=by
 obtain⟨hi,rfl⟩:=hv.out
 have hlen:=E.len
 have hc:=fE E hB hx pa pn pc hx2
 have hgb:g≠b:=by have:=aF (fE E (Below.refl _ W0) hx pa pn pc hx2).1;omega
 rw[pS E hx,show(x.1.text==s.data.toList)=((⟨x.1.text.toArray⟩:ByteArray).toList==s.toList) by rw[Lib.toList_data,Lib.toList_data]]
 exact zY s b g (o+i*6) (tvs.length-i) (cap-i) (.int .i64 d) w hb (by omega) x.1.kind x.1.fd x.1.line ⟨x.1.text.toArray⟩ ⟨x.1.plain.toArray⟩ pa pn pc hc.1 hc.2.1 hc.2.2.1 hc.2.2.2.1 hc.2.2.2.2.1 hc.2.2.2.2.2 hgb
theorem zZ{W0:World}{g o cap:Nat}{tvs:List (Tok×Value)}(E:PEnv W0 g o cap tvs)(b i:Nat)(v:Value)(d:Int)(w:World)(hB:Below W0.heap.size W0 w)(hbb:W0.heap.size<=b)(hv:Hid (AtV g o cap tvs i v))(hb:w.heap[b]? =some (.cells #[v,.int .i64 d] 73 (0,0))){x:Tok×Value}(hx:tvs[i]? =some x)(pa:Option Addr)(pn pc:Nat)(hx2:x.2=.slice pa pn pc)(zb zo m zc:Nat)(zs:List ByteArray)(ks:List ab)(hks:Hid (ks=zs.map fun z=>z.data.toList))(hm:Hid (m=zs.length))(hm2:m<=100)(hz:∀j,j<zs.length->w.cell? ⟨zb,zo+j,none⟩=some (.string (zs.getD j ByteArray.empty)))(hzb:zb≠b):Calls Tryz.prog 86 #[.pointer (some ⟨b,0,none⟩),.slice (some ⟨zb,zo,none⟩) m zc] w fun e w'=>e=.returned (.bool (bP ks ((TT tvs).drop i)))/\Below w.heap.size w w':=by
 obtain⟨hi,rfl⟩:=hv.out
 have hlen:=E.len
 have hc:=fE E hB hx pa pn pc hx2
 have hgb:g≠b:=by have:=aF (fE E (Below.refl _ W0) hx pa pn pc hx2).1;omega
 rw[zW E hx,show(x.1.plain != [])=((⟨x.1.plain.toArray⟩:ByteArray).toList != []) by simp_all,show ks.contains x.1.plain=Lib.containsS zs ⟨x.1.plain.toArray⟩ by
  rw[hks.out,Bool.eq_iff_iff,Lib.containsS_iff,List.contains_iff_mem,List.mem_map];exact⟨fun⟨z,hz,e⟩=>by rw[<- e];exact hz,fun h=>⟨_,h,by simp⟩⟩]
 exact oJ zb zo m zc zs hm hm2 b g (o+i*6) (tvs.length-i) (cap-i) (.int .i64 d) w hb (by omega) x.1.kind x.1.fd x.1.line ⟨x.1.text.toArray⟩ ⟨x.1.plain.toArray⟩ pa pn pc hc.1 hc.2.1 hc.2.2.1 hc.2.2.2.1 hc.2.2.2.2.1 hc.2.2.2.2.2 hgb hz hzb
theorem PEnv.tok{W0:World}{g o cap:Nat}{tvs:List (Tok×Value)}(E:PEnv W0 g o cap tvs){i:Nat}{v:Value}(hv:AtV g o cap tvs i v):∃x pa pn pc,tvs[i]? =some x/\x.2=.slice pa pn pc:=by
 obtain⟨x,hx⟩:∃x,tvs[i]? =some x:=⟨_,List.getElem?_eq_getElem hv.1⟩
 obtain⟨pa,pn,pc,h,_⟩:=(E.parts x (List.mem_of_getElem? hx)).2
 grind
theorem af{W0 w W:World}{X:List Nat}{L:List (Nat×Obj)}(hB:Below W0.heap.size W0 w)(hL:Kn X w W L)(hX:∀x∈X,W0.heap.size<=x):Below W0.heap.size W0 W:=
 ⟨hL.os.trans hB.os,hL.tape.trans hB.tape,hL.output.trans hB.output,Nat.le_trans hB.size hL.size,fun k hk=>(hL.block k (Nat.lt_of_lt_of_le hk hB.size) (fun hm=>by grind)).trans (hB.block k hk)⟩
theorem dO{W0:World}{g o cap:Nat}{tvs:List (Tok×Value)}(E:PEnv W0 g o cap tvs)(b i:Nat)(v:Value)(d:Int)(w:World)(hB:Below W0.heap.size W0 w)(hbb:W0.heap.size<=b)(hv:Hid (AtV g o cap tvs i v))(hb:w.heap[b]? =some (.cells #[v,.int .i64 d] 73 (0,0)))(hne:(TT tvs).drop i≠[]):Calls Tryz.prog 53 #[.pointer (some ⟨b,0,none⟩)] w fun e w'=>∃x pa pn pc vj,e=.returned (.agg #[.int .i64 (x.1.kind:Int),.string ⟨x.1.text.toArray⟩,.string ⟨x.1.plain.toArray⟩,.slice pa pn pc,.int .i64 x.1.fd,.int .i64 (x.1.line:Int)])/\Hid (tvs[i]? =some x/\x.2=.slice pa pn pc)/\Hid (AtV g o cap tvs (i+1) vj)/\Kn [b] w w' [(b,.cells #[vj,.int .i64 d] 73 (0,0))]:=by
 obtain⟨x,pa,pn,pc,hx,hx2⟩:=E.tok hv.out
 have h4:x.1.kind≠4:=by grind[bD]
 exact(d_ E b i v d w hB hbb hv hb hx pa pn pc hx2 h4).mono fun e w' h=>by
  obtain⟨h1,vj,h2,h3⟩:=h;exact⟨x,pa,pn,pc,vj,h1,yh ⟨hx,hx2⟩,h2,h3⟩
theorem fg{W0:World}{g o cap:Nat}{tvs:List (Tok×Value)}(E:PEnv W0 g o cap tvs)(b i:Nat)(v:Value)(d:Int)(w:World)(hB:Below W0.heap.size W0 w)(hbb:W0.heap.size<=b)(hv:Hid (AtV g o cap tvs i v))(hb:w.heap[b]? =some (.cells #[v,.int .i64 d] 73 (0,0)))(k:Int)(dd:Nat)(er:Nat)(her:Hid (jG er=(k:Int)))(m:Nat)(hm:Hid (m=((TT tvs).drop i).length)):Calls Tryz.prog 28 #[.pointer (some ⟨b,0,none⟩),.int .i64 k] w fun e w'=>lE b dd g o cap tvs w (α:=Unit) (fun _ _ _=>False) (.bad er m) e w':=by
 obtain⟨x,pa,pn,pc,hx,hx2⟩:=E.tok hv.out
 grind[ym]
theorem d7{W0:World}{g o cap:Nat}{tvs:List (Tok×Value)}(E:PEnv W0 g o cap tvs)(b i:Nat)(v:Value)(d:Int)(w:World)(hB:Below W0.heap.size W0 w)(hbb:W0.heap.size<=b)(hv:Hid (AtV g o cap tvs i v))(hb:w.heap[b]? =some (.cells #[v,.int .i64 d] 73 (0,0)))(s:ByteArray)(r:Bool)(hr:Hid (aR s.data.toList ((TT tvs).drop i)=r)):Calls Tryz.prog 52 #[.pointer (some ⟨b,0,none⟩),.string s] w fun e w'=>e=.returned (.bool r)/\Below w.heap.size w w':=by
 obtain⟨x,pa,pn,pc,hx,hx2⟩:=E.tok hv.out
 rw[<- hr.out]
 grind[AG]
theorem cj{W0:World}{g o cap:Nat}{tvs:List (Tok×Value)}(E:PEnv W0 g o cap tvs)(b i:Nat)(v:Value)(d:Int)(w:World)(hB:Below W0.heap.size W0 w)(hbb:W0.heap.size<=b)(hv:Hid (AtV g o cap tvs i v))(hb:w.heap[b]? =some (.cells #[v,.int .i64 d] 73 (0,0)))(zb zo m zc:Nat)(zs:List ByteArray)(r:Bool)(hr:Hid (bP (zs.map fun z=>z.data.toList) ((TT tvs).drop i)=r))(hm:Hid (m=zs.length))(hm2:m<=100)(hz:∀j,j<zs.length->w.cell? ⟨zb,zo+j,none⟩=some (.string (zs.getD j ByteArray.empty)))(hzb:zb≠b):
  Calls Tryz.prog 86 #[.pointer (some ⟨b,0,none⟩),.slice (some ⟨zb,zo,none⟩) m zc] w fun e w'=>e=.returned (.bool r)/\Below w.heap.size w w':=by
 obtain⟨x,pa,pn,pc,hx,hx2⟩:=E.tok hv.out
 rw[<- hr.out]
 exact zZ E b i v d w hB hbb hv hb hx pa pn pc hx2 zb zo m zc zs _ (yh rfl) hm hm2 hz hzb
theorem aO{X:List Nat}{w0 W:World}{L:List (Nat×Obj)}{g:Nat}{c:Array Value}{t:TypeId}(hL:Kn X w0 W L)(hm:(g,Obj.cells c t (0,0))∈L)(o:Nat):W.cell? ⟨g,o,none⟩=c[o]? :=by
 rw[World.cell?,hL.has _ hm]
 simp
theorem eF{X:List Nat}{w0 W:World}{L:List (Nat×Obj)}{g:Nat}{x:Value}{t:TypeId}(hL:Kn X w0 W L)(hm:(g,Obj.cells #[x] t (0,0))∈L):W.cell? ⟨g,0,none⟩=some x:=aO hL hm 0
theorem eG{X:List Nat}{w0 W:World}{L:List (Nat×Obj)}{z b:Nat}{o o':Obj}(hL:Kn X w0 W ((z,o)::L))(hm:(b,o')∈L):z≠b:=by
 have h:=hL.nd
 grind
theorem Kn.ofPerm{X:List Nat}{w0 w:World}{L L':List (Nat×Obj)}(h:Kn X w0 w L)(p:L.Perm L'):Kn X w0 w L':=
 ⟨h.os,h.tape,h.output,h.size,h.block,fun q hq=>h.own q (p.mem_iff.2 hq),fun q hq=>h.has q (p.mem_iff.2 hq),(p.map (·.1)).nodup_iff.1 h.nd⟩
theorem bT{w:World}{zb zo:Nat}{z:ByteArray}(h:w.cell? ⟨zb,zo,none⟩=some (.string z)):∀j,j<[z].length->w.cell? ⟨zb,zo+j,none⟩=some (.string ([z].getD j ByteArray.empty)):=fun j hj=>by
 grind
theorem vS(u:ByteArray)(W:World):(convert 9 119 (.string u)).run Tryz.prog W=.ok (.slice (some ⟨W.heap.size,0,none⟩) u.size (grownCap W u.size 0 5)) (Lib.bytesWorld W 5 u):=
 Lib.run_convert_string_bytes W _ _ _ u Tryz.underlying9 Tryz.underlying119 Tryz.underlying5
theorem AH(c:UInt8):bits BinOp.or IntKind.u8 (c.toNat:Int) 32=((c ||| 32).toNat:Int):=by
 have key:∀k:_root_.Fin 256,bits BinOp.or IntKind.u8 (k.val:Int) 32=((UInt8.ofNat k.val ||| 32).toNat:Int):=by decide +kernel
 have:=key ⟨c.toNat,c.toNat_lt⟩
 simp_all
theorem vT(c:UInt8):de c=((c.toNat==95)||(decide (97<=(c ||| 32).toNat)&&decide ((c ||| 32).toNat<=122))):=by
 have key:∀k:_root_.Fin 256,de (UInt8.ofNat k.val)=(((UInt8.ofNat k.val).toNat==95)||(decide (97<=(UInt8.ofNat k.val ||| 32).toNat)&&decide ((UInt8.ofNat k.val ||| 32).toNat<=122))):=by decide +kernel
 have:=key ⟨c.toNat,c.toNat_lt⟩
 simp_all
def NLI(l:ab)(k:Nat):Prop:=named l=if k=0 then named l else k+bJ (l.drop k)
theorem NLI.zero(l:ab):NLI l 0:=rfl
theorem iQ{l:ab}{k:Nat}{c:UInt8}(h:l[k]? =some c):bJ (l.drop k)=if de c||bF c then bJ (l.drop (k+1))+1 else 0:=by
 obtain⟨h1,h2⟩:=List.getElem?_eq_some_iff.1 h
 rw[List.drop_eq_getElem_cons h1,h2]
 rfl
theorem jH{l:ab}{c:UInt8}(h:l[0]? =some c):named l=if de c then bJ (l.drop 1)+1 else 0:=by
 cases l with
 |nil=>simp at h
 |cons a t=>simp at h;subst h;rfl
theorem NLI.next{l:ab}{k:Nat}{c:UInt8}(h:NLI l k)(hc:l[k]? =some c)(ha:de c=true\/((k==0)=false/\bF c=true)):NLI l (k+1):=by
 grind[NLI,jH,iQ]
theorem NLI.stop{l:ab}{k:Nat}{c:UInt8}(h:NLI l k)(hc:l[k]? =some c)(ha:de c=false)(hd:(k==0)=true\/bF c=false):named l=k:=by
 grind[NLI,jH,de,bF,iQ]
theorem NLI.fin{s:ByteArray}(h:NLI s.data.toList s.size):named s.data.toList=s.size:=by
 unfold NLI at h
 split at h
 ·rename_i h0
  have:s.data.toList=[]:=List.eq_nil_of_length_eq_zero (by simp_all);rw[this,h0];rfl
 ·rw[h,List.drop_eq_nil_of_le (by simp_all)];rfl
theorem jI:∀t:ab,(bJ t==t.length)=t.all fun c=>de c||bF c
 | []=>rfl
 |c::t=>by
  have h:=ip t;rw[bJ,List.all_cons,<- jI t];grind
theorem rg(l:ab):cG l=((l != [])&&(named l==l.length)):=by
 cases l with
 |nil=>rfl
 |cons c t=>
  show(de c&&_)=(true&&(named (c::t)==(c::t).length))
  grind[named,jI]
theorem kq(s:ByteArray)(hs:s.size<=1000000)(w:World):Calls Tryz.prog 146 #[.string s] w fun e w'=>e=.returned (.int .i64 (named s.data.toList))/\Below w.heap.size w w':=by
  have hcv:=vS s w;obtain⟨W1,hW1⟩:∃W1,Lib.bytesWorld w 5 s=W1:=⟨_,rfl⟩;have HB1:Hid (Below w.heap.size w W1):=yh (by rw[<- hW1];exact Lib.bytesWorld_below _ _ _);have HC1:Hid (∀j,j<s.size->W1.cell? ⟨w.heap.size,j,none⟩=some (.int .u8 (s.data.toList.getD j 0).toNat)):=yh (by rw[<- hW1];exact fun j hj=>Lib.bytesWorld_cell w _ s j hj);rw[hW1]at hcv;clear hW1;have hL:Kn [] w w []:=Kn.refl [] w;have hF:=hL.fx;go_enter Tryz.func146,Tryz.ntmps146;go_wp2;clear hL hF;obtain⟨gb,hgb⟩:∃gb,w.heap.size=gb:=⟨_,rfl⟩;go_loopw [9] (fun o wr=>∃k:Nat,k<=s.size/\o=.int .i64 k/\Hid (NLI s.data.toList k)/\Kn [] W1 wr []) (fun o _=>s.size-(intOf o).toNat)
  case atStart=>exact⟨0,by omega,rfl,yh (NLI.zero _),Kn.refl [] W1⟩
  case round=>
    obtain⟨k,hk,rfl,HI,hL⟩:=hrel;have hF:=hL.fx;by_cases hlt:k<s.size
    · obtain⟨c,hc⟩:∃c,s.data.toList[k]? =some c:=⟨_,List.getElem?_eq_getElem (by rw[szl];exact hlt)⟩
      have hcell:=kK hL (HC1.out k hlt);rw[List.getD_eq_getElem?_getD,hc,Option.getD_some]at hcell;rw[hgb]at hcell;have hgl:=aF hcell;obtain⟨v,hv⟩:∃v,(c ||| 32).toNat=v:=⟨_,rfl⟩;have h32:=AH c;rw[hv]at h32;have hal:de c=((c.toNat==95)||(decide (97<=v)&&decide (v<=122))):=by rw[<- hv];exact vT c
      have hdi:bF c=(decide (48<=c.toNat)&&decide (c.toNat<=57)):=rfl;obtain⟨k1,hk1⟩:∃k:Bool,(c.toNat==95)=k:=⟨_,rfl⟩;obtain⟨k2,hk2⟩:∃k:Bool,decide (97<=v)=k:=⟨_,rfl⟩;obtain⟨k3,hk3⟩:∃k:Bool,decide (v<=122)=k:=⟨_,rfl⟩;obtain⟨k4,hk4⟩:∃k:Bool,decide (c.toNat<48)=k:=⟨_,rfl⟩;obtain⟨k5,hk5⟩:∃k:Bool,decide (57<c.toNat)=k:=⟨_,rfl⟩;obtain⟨k6,hk6⟩:∃z:Bool,(k==0)=z:=⟨_,rfl⟩;have j1:((c.toNat:Int)==95)=k1:=by rw[<- hk1,Bool.eq_iff_iff,beq_iff_eq,beq_iff_eq];omega
      have j2:decide ((97:Int)<=(v:Int))=k2:=by rw[<- hk2];exact decide_eq_decide.2 (by omega)
      have j3:decide ((v:Int)<=(122:Int))=k3:=by rw[<- hk3];exact decide_eq_decide.2 (by omega)
      have j4:decide ((c.toNat:Int)<(48:Int))=k4:=by rw[<- hk4];exact decide_eq_decide.2 (by omega)
      have j5:decide ((57:Int)<(c.toNat:Int))=k5:=by rw[<- hk5];exact decide_eq_decide.2 (by omega)
      have j6:((k:Int)==0)=k6:=by rw[<- hk6,Bool.eq_iff_iff,beq_iff_eq,beq_iff_eq];omega
      have hdi2:bF c=(!k4&& !k5):=by
        rw[hdi,<- hk4,<- hk5,Bool.eq_iff_iff];simp only[Bool.and_eq_true,decide_eq_true_eq,Bool.not_eq_true',decide_eq_false_iff_not];omega
      rw[hk1,hk2,hk3]at hal;have HAL:=yh hal;have HDI:=yh hdi2;have HC:=yh hc;have HK6:=yh hk6;have HND:Hid (NLI s.data.toList k):=yh HI.out;clear hal hdi hdi2 hc hv hk1 hk6
      cases k1<;>cases k2<;>cases k3<;>cases k4<;>cases k5<;>cases k6<;>(first
        | (exfalso;have h1:=HAL.out;omega)
        | (go_wp2
           first
           |exact⟨⟨k+1,by omega,by go_num,yh (HND.out.next HC.out (by first|exact .inl HAL.out|exact .inr ⟨HK6.out,HDI.out⟩)),hL⟩,by simp[intOf];omega⟩
           | (refine bodyPost_ret (by simp[results,Tryz.results146,go_sem, *];try rfl) rfl ?_
              exact⟨by rw[HND.out.stop HC.out HAL.out (by first|exact .inl HK6.out|exact .inr HDI.out)],HB1.out.trans (hL.below0.mono HB1.out.size)⟩)))
    · obtain rfl:s.size=k:=by omega
      go_wp2;refine bodyPost_ret (by simp[results,Tryz.results146,go_sem, *];try rfl) rfl ?_;exact⟨by rw[HI.out.fin],HB1.out.trans (hL.below0.mono HB1.out.size)⟩
theorem ej(s:ByteArray)(hs:s.size<=1000000)(w:World):Calls Tryz.prog 121 #[.string s] w fun e w'=>e=.returned (.bool (cG s.data.toList))/\Below w.heap.size w w':=by
 rw[rg,szl]
 obtain⟨n,hn⟩:∃n,named s.data.toList=n:=⟨_,rfl⟩
 have HN:=yh (fun W=>kq s hs W)
 rw[hn]at HN |-
 obtain⟨k1,hk1⟩:∃k:Bool,(s.data.toList==[])=k:=⟨_,rfl⟩
 obtain⟨k2,hk2⟩:∃k:Bool,(n==s.size)=k:=⟨_,rfl⟩
 have j1:(s.toList==[])=k1:=by rw[Lib.toList_data];exact hk1
 have j2:((n:Int)==(s.size:Int))=k2:=by rw[<- hk2,Bool.eq_iff_iff,beq_iff_eq,beq_iff_eq];omega
 rw[show(s.data.toList != [])= !k1 by rw[<- hk1];rfl,hk2]
 clear hn
 cases k1<;>cases k2<;>(
  have hL:Kn [] w w []:=Kn.refl [] w;have hF:=hL.fx;go_enter Tryz.func121,Tryz.ntmps121;go_wp2_with ((go_at_call 146;refine zC (fun W hL=>HN.out _) ?_;intro W hL hF))
  refine bodyPost_ret (by simp[results,Tryz.results121,go_sem, *];try rfl) rfl ?_;exact⟨rfl,hL.below0⟩)
theorem dP{W0:World}{g o cap:Nat}{tvs:List (Tok×Value)}(E:PEnv W0 g o cap tvs)(b i:Nat)(v:Value)(d:Nat)(w:World)(hB:Below W0.heap.size W0 w)(hbb:W0.heap.size<=b)(hv:Hid (AtV g o cap tvs i v))(hb:w.heap[b]? =some (.cells #[v,.int .i64 (d:Int)] 73 (0,0)))(s:ByteArray):
    Calls Tryz.prog 144 #[.pointer (some ⟨b,0,none⟩),.string s] w fun e w'=>lE b d g o cap tvs w (fun _ v0 _=>v0=.tuple #[]) (aX s.data.toList ((TT tvs).drop i)) e w':=by
  obtain⟨k1,hk1⟩:∃k,aR s.data.toList ((TT tvs).drop i)=k:=⟨_,rfl⟩;obtain⟨k2,hk2⟩:∃k,bP [s.data.toList] ((TT tvs).drop i)=k:=⟨_,rfl⟩;have HK1:=yh hk1;have HK2:Hid (bP ([s].map fun z=>z.data.toList) ((TT tvs).drop i)=k2):=yh hk2;have hw:aX s.data.toList ((TT tvs).drop i)=if k1||k2 then .ok () ((TT tvs).drop i).tail else syn ((TT tvs).drop i):=by unfold aX;rw[hk1,hk2]
  rw[hw];have hne:Hid ((k1||k2)=true->(TT tvs).drop i≠[]):=yh fun h e=>by rw[e]at hk1 hk2;cases hk1;cases hk2;cases h
  clear hk1 hk2 hw;obtain⟨m,hm⟩:∃m,m=((TT tvs).drop i).length:=⟨_,rfl⟩;have Hm:=yh hm;clear hm;have HB0:=yh hB;have HXB:=yh (xb hbb);have hL:Kn [b] w w [(b,.cells #[v,.int .i64 (d:Int)] 73 (0,0))]:=Kn.one hb;have HBS:=yh hb;clear hB hb;have hF:=hL.fx
  cases k1<;>cases k2<;>(
    go_enter Tryz.func144,Tryz.ntmps144;go_wp2_with (first|(with_reducible refine zS ?_;intro W hL hF)|(go_at_call 52;refine zC (fun W hL=>d7 E b i v d _ (af HB0.out hL HXB.out) hbb hv hL.h0 s _ HK1) ?_;intro W hL hF)|(go_at_call 86;refine zC (fun W hL=>cj E b i v d _ (af HB0.out hL HXB.out) hbb hv hL.h1 _ 0 1 _ [s] _ HK2 (yh rfl) (by omega) (bT (eF hL m0)) (by(exact eG hL m0))) ?_;intro W hL hF)|(go_at_call 53;(with_reducible refine zM (fun W hL=>dO E b i v d _ (af HB0.out hL HXB.out) hbb hv (by first|exact hL.has _ m0|exact hL.has _ m1) (hne.out rfl)) ?_);rintro W hL e W ⟨x,pa,pn,pc,vj,rfl,HTX,HVJ,hb⟩;(first|(replace hL:=hL.join1 0 rfl hb)|(replace hL:=hL.join1 1 rfl hb));clear hb;simp only[List.eraseIdx_cons_zero,List.eraseIdx_cons_succ,List.cons_append,List.nil_append]at hL;have hF:=hL.fx)|(go_at_call 28;(with_reducible refine zM (fun W hL=>fg E b i v d _ (af HB0.out hL HXB.out) hbb hv hL.h1 27 d 1 (yh rfl) m Hm) ?_);rintro W hL e W ⟨vj,dj,rfl,hb⟩;replace hL:=hL.jn 1 hb;clear hb;have hF:=hL.fx))
    first
    | (go_end0
       exact⟨_,i+1,vj,rfl,rfl,yh ⟨HVJ.out,by(rfl)⟩,hL.sub (by repeat' (first|exact List.Sublist.refl _|apply List.Sublist.cons_cons|apply List.Sublist.cons))⟩)
    | (exact⟨rfl,_,_,by rw[Hm.out]<;>rfl,hL.sub (by repeat' (first|exact List.Sublist.refl _|apply List.Sublist.cons_cons|apply List.Sublist.cons))⟩))
theorem vU{W0:World}{g o cap:Nat}{tvs:List (Tok×Value)}(E:PEnv W0 g o cap tvs){i:Nat}{x:Tok×Value}(hx:tvs[i]? =some x):bS ((TT tvs).drop i)=if((x.1.kind:Int)==0)=true then .ok x.1.parts ((TT tvs).drop (i+1))else syn ((TT tvs).drop i):=by
 rcases bD E hx with⟨h1,h2,h3,h4⟩|⟨h1,h2,h3⟩
 ·rw[h1,h2];rfl
 ·rw[h1]
  show(if x.1.kind=0 then _ else _)=_
  by_cases h:x.1.kind=0
  ·rw[if_pos h,if_pos (by rw[h];rfl)]
  ·rw[if_neg h,if_neg (by rw[beq_iff_eq];omega)]
theorem mW{W0:World}{g o cap:Nat}{tvs:List (Tok×Value)}(E:PEnv W0 g o cap tvs){i:Nat}{x:Tok×Value}(hx:tvs[i]? =some x):ay ((TT tvs).drop i)=if((x.1.kind:Int)==3)=true then ay ((TT tvs).drop (i+1))else(TT tvs).drop i:=by
 rcases bD E hx with⟨h1,h2,h3,h4⟩|⟨h1,h2,h3⟩
 ·rw[h1,h2];rfl
 ·rw[h1]
  unfold ay;rw[List.dropWhile_cons];by_cases h:x.1.kind=3
  ·rw[if_pos (by show(x.1.kind==3)=true;rw[h];rfl),if_pos (by rw[h];rfl)]
  ·rw[if_neg (by show ¬(x.1.kind==3)=true;rw[beq_iff_eq];exact h),if_neg (by rw[beq_iff_eq];omega)]
def z7(tvs:List (Tok×Value))(ps:List Prt)(v0:Value)(_:World):Prop:=∃x pa pn pc,x∈tvs/\x.2=.slice pa pn pc/\v0=.agg #[.int .i64 (x.1.kind:Int),.string ⟨x.1.text.toArray⟩,.string ⟨x.1.plain.toArray⟩,.slice pa pn pc,.int .i64 x.1.fd,.int .i64 (x.1.line:Int)]/\ps=x.1.parts
theorem lH{W0:World}{g o cap:Nat}{tvs:List (Tok×Value)}(E:PEnv W0 g o cap tvs)(b i:Nat)(v:Value)(d:Nat)(w:World)(hB:Below W0.heap.size W0 w)(hbb:W0.heap.size<=b)(hv:Hid (AtV g o cap tvs i v))(hb:w.heap[b]? =some (.cells #[v,.int .i64 (d:Int)] 73 (0,0))):Calls Tryz.prog 164 #[.pointer (some ⟨b,0,none⟩)] w fun e w'=>lE b d g o cap tvs w (z7 tvs) (bS ((TT tvs).drop i)) e w':=by
 obtain⟨m,hm⟩:∃m,m=((TT tvs).drop i).length:=⟨_,rfl⟩
 have Hm:=yh hm
 clear hm
 obtain⟨x,pa,pn,pc,hx,hx2⟩:=E.tok hv.out
 have HX:=yh hx
 have HX2:=yh hx2
 obtain⟨f0,f1,f2,f3,f4,f5⟩:=tkF x.1.kind x.1.fd x.1.line ⟨x.1.text.toArray⟩ ⟨x.1.plain.toArray⟩ pa pn pc
 clear hx hx2
 rw[vU E HX.out]
 obtain⟨k1,hk1⟩:∃k:Bool,((x.1.kind:Int)==0)=k:=⟨_,rfl⟩
 have hk2:((x.1.kind:Int) != 0)= !k1:=by rw[<- hk1];rfl
 have hne:Hid (k1=true->(TT tvs).drop i≠[]):=yh fun h=>by
  rcases bD E HX.out with⟨h1,h2,h3,h4⟩|⟨h1,h2,h3⟩
  ·rw[h2]at hk1;rw[<- hk1]at h;cases h
  ·rw[h1];simp
 rw[hk1]
 have hkd:Hid ((x.1.kind:Int)=0\/k1=false):=yh (by cases k1;exact .inr rfl;exact .inl (beq_iff_eq.1 hk1))
 have HB0:=yh hB
 have HXB:=yh (xb hbb)
 have hL:Kn [b] w w [(b,.cells #[v,.int .i64 (d:Int)] 73 (0,0))]:=Kn.one hb
 have HBS:=yh hb
 clear hB hb
 have hF:=hL.fx
 cases k1
 ·go_enter Tryz.func164,Tryz.ntmps164
  go_wp2_with (first|(with_reducible refine zS ?_;intro W hL hF)|(go_at_call 27;refine zC (fun W hL=>aK E b i v d _ (af HB0.out hL HXB.out) hbb hv hL.h1 HX.out pa pn pc HX2.out) ?_;intro W hL hF)|(go_at_call 28;(with_reducible refine zM (fun W hL=>fg E b i v d _ (af HB0.out hL HXB.out) hbb hv hL.h1 27 d 1 (yh rfl) m Hm) ?_);rintro W hL e W ⟨vj,dj,rfl,hb⟩;replace hL:=hL.jn 1 hb;clear hb;have hF:=hL.fx))
  exact⟨rfl,_,_,by rw[Hm.out]<;>rfl,hL.sub (by repeat' (first|exact List.Sublist.refl _|apply List.Sublist.cons_cons|apply List.Sublist.cons))⟩
 ·have h4:Hid (x.1.kind≠4):=yh (fun e=>by have:=hkd.out;rw[e]at this;rcases this with h|h;exact absurd h (by decide);cases h)
  go_enter Tryz.func164,Tryz.ntmps164;go_wp2_with (first|(with_reducible refine zS ?_;intro W hL hF)|(go_at_call 27;refine zC (fun W hL=>aK E b i v d _ (af HB0.out hL HXB.out) hbb hv hL.h1 HX.out pa pn pc HX2.out) ?_;intro W hL hF)|(go_at_call 53;(with_reducible refine zM (fun W hL=>d_ E b i v d _ (af HB0.out hL HXB.out) hbb hv hL.h1 HX.out pa pn pc HX2.out h4.out) ?_);rintro W hL e W ⟨rfl,vj,HVJ,hb⟩;replace hL:=hL.jn 1 hb;clear hb;have hF:=hL.fx))
  refine zF ?_;intro W hL hF;refine bodyPost_ret (by simp[results,Tryz.results164,go_sem, *];try rfl) rfl ?_;exact⟨_,i+1,vj,rfl,⟨x,pa,pn,pc,List.mem_of_getElem? HX.out,HX2.out,rfl,rfl⟩,yh ⟨HVJ.out,rfl⟩,hL.sub (by repeat' (first|exact List.Sublist.refl _|apply List.Sublist.cons_cons|apply List.Sublist.cons))⟩
theorem dB{W0:World}{g o cap:Nat}{tvs:List (Tok×Value)}(E:PEnv W0 g o cap tvs)(b i:Nat)(v:Value)(d:Nat)(w:World)(hB:Below W0.heap.size W0 w)(hbb:W0.heap.size<=b)(hv:Hid (AtV g o cap tvs i v))(hb:w.heap[b]? =some (.cells #[v,.int .i64 (d:Int)] 73 (0,0))):Calls Tryz.prog 49 #[.pointer (some ⟨b,0,none⟩)] w fun e w'=>∃j vj,e=.returned (.tuple #[])/\Hid (i<=j/\AtV g o cap tvs j vj/\ay ((TT tvs).drop i)=(TT tvs).drop j)/\Kn [b] w w' [(b,.cells #[vj,.int .i64 (d:Int)] 73 (0,0))]:=by
 obtain⟨ts,hts⟩:∃ts,ay ((TT tvs).drop i)=ts:=⟨_,rfl⟩
 rw[hts]
 have HTS:=yh hts
 clear hts
 have HB0:=yh hB
 have HXB:=yh (xb hbb)
 have hL:Kn [b] w w [(b,.cells #[v,.int .i64 (d:Int)] 73 (0,0))]:=Kn.one hb
 have HBS:=yh hb
 clear hB hb
 have hF:=hL.fx
 go_enter Tryz.func49,Tryz.ntmps49
 go_wp2
 go_loopg [] (tvs.length-i) (fun k wr=>∃j vj,Hid (k=tvs.length-j/\i<=j/\AtV g o cap tvs j vj/\ay ((TT tvs).drop j)=ts)/\Kn [b] w wr [(b,.cells #[vj,.int .i64 (d:Int)] 73 (0,0))])
 case atStart=>exact⟨i,v,yh ⟨rfl,Nat.le_refl _,hv.out,HTS.out⟩,aE⟩
 case round=>
  clear hL;clear hF;obtain⟨j,vj,HJ,hL⟩:=hrel;have hF:=hL.fx;have Hvj:=yh HJ.out.2.2.1;obtain⟨x,pa,pn,pc,hx,hx2⟩:=E.tok Hvj.out;have HX:=yh hx;have HX2:=yh hx2;obtain⟨f0,f1,f2,f3,f4,f5⟩:=tkF x.1.kind x.1.fd x.1.line ⟨x.1.text.toArray⟩ ⟨x.1.plain.toArray⟩ pa pn pc;clear hx hx2;obtain⟨k1,hk1⟩:∃k:Bool,((x.1.kind:Int)==3)=k:=⟨_,rfl⟩;have HK1:=yh hk1;have h4:Hid (k1=true->x.1.kind≠4):=yh (fun h e4=>by have h9:=HK1.out;rw[e4,h]at h9;cases h9)
  cases k1
  ·go_wp2_with (first|(with_reducible refine zS ?_;intro W hL hF)|(go_at_call 27;refine zC (fun W hL=>aK E b j vj (d:Int) _ (af HB0.out hL HXB.out) hbb Hvj hL.h0 HX.out pa pn pc HX2.out) ?_;intro W hL hF))
   go_end0
   refine⟨j,vj,rfl,yh ⟨HJ.out.2.1,Hvj.out,?_⟩,hL⟩;have h3:=mW E HX.out;rw[HK1.out,if_neg (by decide)]at h3;rw[<- HJ.out.2.2.2];exact h3
  ·have h5:=yh (h4.out rfl)
   clear h4;go_wp2_with (first|(with_reducible refine zS ?_;intro W hL hF)|(go_at_call 27;refine zC (fun W hL=>aK E b j vj (d:Int) _ (af HB0.out hL HXB.out) hbb Hvj hL.h0 HX.out pa pn pc HX2.out) ?_;intro W hL hF)|(go_at_call 53;(with_reducible refine zM (fun W hL=>d_ E b j vj (d:Int) _ (af HB0.out hL HXB.out) hbb Hvj hL.h0 HX.out pa pn pc HX2.out h5.out) ?_);rintro W hL e W ⟨rfl,v2,HV2,hb⟩;replace hL:=hL.jn 0 hb;clear hb;have hF:=hL.fx))
   go_roundg (tvs.length-(j+1))
   case measure=>have:=HJ.out.1;have:=Hvj.out.1;omega
   case rel=>exact⟨j+1,v2,yh ⟨rfl,by have:=HJ.out.2.1;omega,HV2.out,by have h3:=mW E HX.out;rw[HK1.out,if_pos rfl]at h3;rw[<- h3];exact HJ.out.2.2.2⟩,hL⟩
section
variable {P:Program} {w:World} {e:TypeId} {z n:Nat} {v:Value} {xs:List Value} {X:List Nat} {w0:World} {A LP:List (Nat×Obj)}
theorem rh(hk:Kn X w0 w (A++LP))(hr:RowL z e LP v n xs):w.ownsRow 0 e z v n xs:=by
 rcases hr with⟨rfl,rfl,rfl,rfl⟩|⟨g,cap,cur,rfl,rfl,hb⟩
 ·exact⟨by simp,.inl ⟨rfl,rfl⟩⟩
 ·exact⟨hb.len,.inr ⟨g,cap,cur,rfl,Nat.zero_le _,hk.has (g,.cells cur e (0,0)) (by simp),hb.le,hb.capm,hb.size,hb.take⟩⟩
theorem ah{ops:Array Oper}{rest:List Oper}{o:Oper}{a:Act}{Q:Exit->Act->World->Prop}(hgd:o.guard=none)(s x:Operand)(t u:TypeId)
  (ho:o.op=.call {callee:=.builtin .append,args:=#[s,x],argTypes:=#[t,u]})
  (A LP:List (Nat×Obj)) (hk:Kn X w0 w (A++LP)) (n m:Nat) (xs news:List Value) (v xv:Value) (hr:RowL z e LP v n xs) (hs:a.eval s=v) (hx:a.eval x=xv)
  (hrun:w.ownsRow 0 e z v n xs->∃v' w',(Builtin.append_ #[t,u] o.type #[v,xv]).run P w=.ok v' w'/\w'.ownsRow 0 e z v' (n+m) (xs++news)/\w.grownBy w' v.ownBlock/\(v'.ownBlock=v.ownBlock\/v'.ownBlock=some w.heap.size))
  (h:∀LP' ao' c' w',Kn X w0 w' (A++LP')->RowL z e LP' (.slice ao' (n+m) c') (n+m) (xs++news)->wpList P ops Q rest (a.put o.dst (.slice ao' (n+m) c')) w'):wpList P ops Q (o::rest) a w:=by
 refine wpList_plain hgd fun K hK=>?_
 obtain⟨v',w',hrun,h2,h3,h4⟩:=hrun (rh hk hr)
 have nd:=hk.nd
 rw[List.map_append,List.nodup_append]at nd
 obtain⟨ndA,_,hd⟩:=nd
 have hvb:∀g,v.ownBlock=some g->∃o,LP=[(g,o)]:=fun g hg=>by
  rcases hr with⟨_,rfl,_⟩|⟨g',cap,cur,rfl,rfl,_⟩
  ·cases hg
  ·obtain rfl:g'=g:=Option.some.inj hg
   grind
 have hKA:Kn X w0 w' A:=ju (hk.sub (List.sublist_append_left A LP)) h3 fun g hg=>by
  obtain⟨ob,rfl⟩:=hvb g hg;exact⟨hk.own (g,ob) (by simp),fun hm=>hd g hm g (by simp) rfl⟩
 unfold Oper.wp execOp
 simp only[ho,resolve,invoke,builtin,Sem.run_bind,Sem.run_pure,Result.andThen_ok,List.map_toArray,List.map_cons,List.map_nil,hs,hx,hrun]
 refine hK _ _ ?_
 obtain⟨hl2,⟨rfl,h0⟩|⟨g',cap',cur',rfl,_,hc,k1,k2,k3,k4⟩⟩:=h2
 ·have:=h [] none 0 w' (by grind) (.inl ⟨rfl,by rw[h0],h0,List.eq_nil_of_length_eq_zero (by grind)⟩)
  grind
 ·have hgX:(w0.heap.size<=g' \/g'∈X)/\g'∉A.map (·.1):=by
   rcases h4 with h4|h4
   ·obtain⟨ob,rfl⟩:=hvb g' h4.symm
    exact⟨hk.own (g',ob) (by simp),fun hm=>hd g' hm g' (by simp) rfl⟩
   ·obtain rfl:g'=w.heap.size:=Option.some.inj h4
    refine⟨.inl hk.size,fun hm=>?_⟩;obtain⟨q,hq,e2⟩:=List.mem_map.1 hm;have h5:=hk.lt (List.mem_append_left _ hq);omega
  refine h [(g',.cells cur' e (0,0))] _ _ w' ⟨hKA.os,hKA.tape,hKA.output,hKA.size,hKA.block,fun p hp=>?_,fun p hp=>?_,?_⟩ (.inr ⟨g',cap',cur',rfl,rfl,k3,k1,k2,k4,hl2⟩)
  ·rcases List.mem_append.1 hp with hp|hp
   ·exact hKA.own p hp
   grind
  ·rcases List.mem_append.1 hp with hp|hp
   ·exact hKA.has p hp
   grind
  grind
end
def RowM(k:Nat)(W0:World)(L:List (Nat×Obj))(v:Value)(xs:List (List Value)):Prop:=
  ∃ao cap,v=.slice ao xs.length cap/\xs.length<=cap/\∀(j:Nat) cs,xs[j]? =some cs->∃g o,ao=some ⟨g,o,none⟩/\
    ((∃cells t,(g,Obj.cells cells t (0,0))∈L/\∀(c:Nat) x,cs[c]? =some x->cells[o+j*k+c]? =some x)\/
     (g<W0.heap.size/\vR W0 g/\∀(c:Nat) x,cs[c]? =some x->W0.cell? ⟨g,o+j*k+c,none⟩=some x))
section
variable {k:Nat} {W0:World} {L L':List (Nat×Obj)} {v:Value} {xs:List (List Value)}
theorem RowM.mono(h:RowM k W0 L v xs)(hs:∀p∈L,p∈L'):RowM k W0 L' v xs:=by
 obtain⟨ao,cap,h1,h2,h3⟩:=h
 refine⟨ao,cap,h1,h2,fun j cs hj=>?_⟩
 grind
theorem RowM.nil:RowM k W0 L (.slice none 0 0) []:=⟨none,0,rfl,Nat.le_refl _,fun j cs h=>by simp at h⟩
theorem RowK.rowM(h:RowK k W0 v xs)(hc:zV v)(hty:TyN W0 v)(hne:∀cs∈xs,cs≠[]):RowM k W0 L v xs:=by
 obtain⟨ao,cap,rfl,h2⟩:=h
 obtain⟨_,_,_,e,hc⟩:=hc
 injection e with e1 e2 e3
 subst e1 e2 e3
 refine⟨ao,cap,rfl,hc,fun j cs hj=>?_⟩
 obtain⟨g,o,h3,h4⟩:=h2 j cs hj
 refine⟨g,o,h3,.inr ⟨?_,hty _ _ _ (by rw[h3]),h4⟩⟩
 cases cs with
 |nil=>grind
 |cons x r=>exact aF (h4 0 x rfl)
end
theorem RowL.rowM{α:Type}{f:α->List Value}{k:Nat}{e:TypeId}{LP L:List (Nat×Obj)}{W0:World}{v:Value}{l:List α}(hf:∀a,(f a).length=k)(h:RowL k e LP v l.length (l.flatMap f))(hs:∀p∈LP,p∈L):RowM k W0 L v (l.map f):=by
 rcases h with⟨_,rfl,h0,h1⟩|⟨g,cap,cur,rfl,rfl,hb⟩
 ·grind[RowM.nil]
 ·refine⟨some ⟨g,0,none⟩,cap,by grind,by rw[List.length_map];exact hb.le,fun j cs hj=>⟨g,0,rfl,.inl ⟨cur,e,hs _ m0,fun c x hx=>?_⟩⟩⟩
  rw[List.getElem?_map]at hj;obtain⟨a,ha,rfl⟩:=Option.map_eq_some_iff.1 hj;rw[Nat.zero_add];exact hb.get (fN hf l j c a x ha hx)
def PRm(W0:World)(L:List (Nat×Obj))(v:Value)(ps:List Prt):Prop:=RowM 3 W0 L v (ps.map ptc)
theorem PRm.mono{W0:World}{L L':List (Nat×Obj)}{v:Value}{ps:List Prt}(h:PRm W0 L v ps)(hs:∀p∈L,p∈L'):PRm W0 L' v ps:=RowM.mono h hs
theorem eH{W0:World}{g o cap:Nat}{tvs:List (Tok×Value)}(E:PEnv W0 g o cap tvs){x:Tok×Value}(hx:x∈tvs){L:List (Nat×Obj)}:PRm W0 L x.2 x.1.parts:=by
 obtain⟨h1,h2⟩:=E.parts x hx
 exact h1.rowM h2 (E.tyn x hx) (fun cs hcs=>by obtain⟨p,_,rfl⟩:=List.mem_map.1 hcs;simp[ptc])
inductive NodeL (W0:World) (L:List (Nat×Obj)):Nd->List Value->Prop
 |mk (kind:Nat) (name:ab) (neg:Bool) (al:List ((ab×List Prt)×Value)) (ws:List (List Prt×Value)) (rs:List ((Int×Nat×List Prt)×Value)) (ks:List (Nd×List Value)) (va vw vr vk:Value)
  (h1:RowM 2 W0 L va (al.map asc)) (h2:∀x∈al,PRm W0 L x.2 x.1.2) (h3:RowM 1 W0 L vw (ws.map fun x=>[x.2])) (h4:∀x∈ws,PRm W0 L x.2 x.1)
  (h5:RowM 3 W0 L vr (rs.map rsc)) (h6:∀x∈rs,PRm W0 L x.2 x.1.2.2) (h7:RowM 7 W0 L vk (ks.map (·.2))) (h8:∀x∈ks,NodeL W0 L x.1 x.2):
  NodeL W0 L (.mk kind name neg (al.map (·.1)) (ws.map (·.1)) (rs.map (·.1)) (ks.map (·.1))) [.int .i64 (kind:Int),bs name,.bool neg,va,vw,vr,vk]
theorem NodeL.mono{W0:World}{L L':List (Nat×Obj)}{n:Nd}{cs:List Value}(h:NodeL W0 L n cs)(hs:∀p∈L,p∈L'):NodeL W0 L' n cs:=by
 induction h with
 |mk kind name neg al ws rs ks va vw vr vk h1 h2 h3 h4 h5 h6 h7 h8 ih=>
  exact .mk kind name neg al ws rs ks va vw vr vk (h1.mono hs) (fun x hx=>(h2 x hx).mono hs) (h3.mono hs) (fun x hx=>(h4 x hx).mono hs) (h5.mono hs) (fun x hx=>(h6 x hx).mono hs) (h7.mono hs) ih
theorem NodeL.len{W0:World}{L:List (Nat×Obj)}{n:Nd}{cs:List Value}(h:NodeL W0 L n cs):cs.length=7:=by cases h;rfl
def cR(W0:World)(b d:Nat)(g o cap:Nat)(tvs:List (Tok×Value))(w:World)(p:PR Nd)(e:Ending)(w':World):Prop:=match p with
 |.ok a r=>∃(nm:ByteArray) (aa:Option Addr) (na:Nat) (ca:Nat) (aw:Option Addr) (nw:Nat) (cw:Nat) (ar:Option Addr) (nr:Nat) (cr:Nat) (ak:Option Addr) (nk:Nat) (ck:Nat) (LN:List (Nat×Obj)) (j:Nat) (vj:Value),e=.returned (.agg #[.int .i64 (a.kind:Int),.string nm,.bool a.neg,.slice aa na ca,.slice aw nw cw,.slice ar nr cr,.slice ak nk ck])/\Hid (NodeL W0 LN a [.int .i64 (a.kind:Int),.string nm,.bool a.neg,.slice aa na ca,.slice aw nw cw,.slice ar nr cr,.slice ak nk ck])/\Hid (AtV g o cap tvs j vj/\r=(TT tvs).drop j)/\Kn [b] w w' ((b,.cells #[vj,.int .i64 (d:Int)] 73 (0,0))::LN)
 |.bad er m=>∃vj dj,e=.panicked [{v:=.iface 70 (.agg #[.int .i64 (jG er),.int .i64 (eL tvs m)]),recovered:=false}]/\Kn [b] w w' [(b,.cells #[vj,.int .i64 dj] 73 (0,0))]
theorem Kn.perml{X:List Nat}{w0 W:World}{L L':List (Nat×Obj)}(h:Kn X w0 W L)(hp:∀p:Nat×Obj->Bool,L'.countP p<=L.countP p):Kn X w0 W L':=by
 classical
 refine h.pick (fun q hq=>?_) (List.nodup_iff_count.2 fun k=>?_)
 ·have h1:=hp (fun x=>decide (x=q))
  have h2:0<L'.countP (fun x=>decide (x=q)):=List.countP_pos_iff.2 ⟨q,hq,by simp⟩;obtain⟨x,hx,e⟩:=List.countP_pos_iff.1 (Nat.lt_of_lt_of_le h2 h1);grind
 ·have h1:=hp (fun x=>x.1==k)
  have h2:∀l:List (Nat×Obj),(keys l).count k=l.countP (fun x=>x.1==k):=fun l=>by
   unfold List.count keys;rw[List.countP_map];rfl
  have h3:=List.nodup_iff_count.1 h.nd k;have h4:=h2 L;have h5:=h2 L';unfold keys at h4 h5 |-
  omega
theorem Kn.pm{X:List Nat}{w0 w:World}{L M:List (Nat×Obj)}(h:Kn X w0 w L)(e:∀p,M.countP p<=L.countP p:=by(intro p;simp only[List.countP_cons,List.countP_nil,List.countP_append,List.append_nil,List.nil_append,List.length_nil];omega)):Kn X w0 w M:=h.perml e
theorem iw:∀l:ab,kH l=brk 61 l
 | []=>rfl
 |c::t=>by rw[kH,brk,iw t]
theorem yn(l:ab):Lib.cut l [61]=match kH l with
 |some (n,v)=>(n,v,true)
 |none=>(l,[],false):=by
 rw[iw]
 unfold Lib.cut
 rw[Lib.index_one]
 rcases iq 61 l with⟨h1,h2⟩|⟨a,r,h1,h2⟩
 ·grind
 ·rw[h1,h2,if_pos (by omega)]
  have h3:=(bq h1).1;simp_all
theorem RowL.rowY{α:Type}{f:α->List Value}{k:Nat}{e:TypeId}{LP K:List (Nat×Obj)}{X Y:List Nat}{w0 w:World}{v:Value}{l:List α}(hf:∀a,(f a).length=k)(h:RowL k e LP v l.length (l.flatMap f))(hk:Kn X w0 w K)(hs:∀p∈LP,p∈K)(hY:∀p∈LP,p.1∉Y):RowY k Y w v (l.map f):=by
 rcases h with⟨_,rfl,h0,h1⟩|⟨g,cap,cur,rfl,rfl,hb⟩
 ·grind[RowY.nil]
 ·refine⟨some ⟨g,0,none⟩,cap,by grind,by rw[List.length_map];exact hb.le,fun j cs hj=>⟨g,0,rfl,hY _ m0,hk.lt (hs _ m0),fun c x hx=>?_⟩⟩
  rw[List.getElem?_map]at hj;obtain⟨a,ha,rfl⟩:=Option.map_eq_some_iff.1 hj;rw[Nat.zero_add,aO hk (hs _ m0)];exact hb.get (fN hf l j c a x ha hx)
theorem dh{W:World}{t:TypeId}{v:Value}{n m c:Nat}{xs news:List Value}{ad:Addr}(hl:news.length=m*3)(hnews:∀j u,news[j]? =some u->W.cell? (ad.add j)=some u)(h1:∀u∈news,u.oneCell'=true)(hs:n+m<=1000000)(ho:W.ownsRow 0 118 3 v n xs):
  ∃v' w',(Builtin.append_ #[29,29] t #[v,.slice (some ad) m c]).run Tryz.prog W=.ok v' w'/\w'.ownsRow 0 118 3 v' (n+m) (xs++news)/\W.grownBy w' v.ownBlock/\(v'.ownBlock=v.ownBlock\/v'.ownBlock=some W.heap.size):=by
 obtain⟨i0,hi,hz0,hz1,hz2⟩:=bd ir
 have:=bi (P:=Tryz.prog) (w:=W) 0 29 t 118 i0 _ Tryz.underlying29 hi hz0 (by rw[hz1];rfl) (by omega) v n xs (by grind) ad m c news (by grind) hnews h1 (by unfold maxLen;omega) (by grind) (Nat.zero_le _)
 grind
def AsgR(W0:World)(r:Option (ab×List Prt))(w:World)(e:Ending)(w':World):Prop:=match r with
 |some (n,p)=>∃LP v,e=.returned (.tuple #[.agg #[bs n,v],.bool true])/\Hid (PRm W0 LP v p)/\Kn [] w w' LP
 |none=>e=.returned (.tuple #[.agg #[.string ⟨#[]⟩,.slice none 0 0],.bool false])/\Below w.heap.size w w'
theorem ix(ao:Option Addr)(cap:Nat)(w:World):Calls Tryz.prog 147 #[.slice ao 0 cap] w fun e w'=>e=.returned (.tuple #[.agg #[.string ⟨#[]⟩,.slice none 0 0],.bool false])/\Below w.heap.size w w':=by
 have hL:Kn [] w w []:=Kn.refl [] w;have hF:=hL.fx;go_enter Tryz.func147,Tryz.ntmps147
 go_wp2
 refine zF ?_;intro W hL hF
 refine bodyPost_ret (by simp[results,Tryz.results147,go_sem, *];try rfl) rfl ?_
 exact⟨rfl,hL.below0⟩
theorem iy(g o n cap:Nat)(hn:0<n)(k:Int)(s:ByteArray)(q:Bool)(w:World)(h0:w.cell? ⟨g,o,none⟩=some (.int .i64 k))(h2:w.cell? ⟨g,o+2,none⟩=some (.bool q))(hk:(k != 0)=true\/q=true):Calls Tryz.prog 147 #[.slice (some ⟨g,o,none⟩) n cap] w fun e w'=>e=.returned (.tuple #[.agg #[.string ⟨#[]⟩,.slice none 0 0],.bool false])/\Below w.heap.size w w':=by
 have hg:=aF h0
 have q0:((n:Int)==0)=false:=beq_false_of_ne (by omega)
 have q1:(n==0)=false:=beq_false_of_ne (by omega)
 obtain⟨k1,hk1⟩:∃z:Bool,(k != 0)=z:=⟨_,rfl⟩
 rw[hk1]at hk
 cases k1<;>cases q<;>(first|(exfalso;revert hk;decide)|(
  clear hk;have hL:Kn [] w w []:=Kn.refl [] w;have hF:=hL.fx;go_enter Tryz.func147,Tryz.ntmps147;go_wp2;refine zF ?_;intro W hL hF;refine bodyPost_ret (by simp[results,Tryz.results147,go_sem, *];try rfl) rfl ?_;exact⟨rfl,hL.below0⟩))
theorem oK(s:ByteArray)(hs:s.size<=1000000)(m:Int)(nm va:ByteArray)(ok:Bool)(h:Hid (Lib.cut s.data.toList [61]=(nm.data.toList,va.data.toList,ok)))(W:World)(hm:W.cell? ⟨1,0,none⟩=some (.int .i64 m)):
  Calls Tryz.prog 167 #[.string s,.string ⟨#[61]⟩] W fun e w'=>e=.returned (.tuple #[.string nm,.string va,.bool ok])/\Below W.heap.size W w':=
 (Tryz.strings_Cut s ⟨#[61]⟩ m W (by omega) hm).mono fun e w' hh=>by
  obtain⟨h1,n,rfl⟩:=hh;rw[h.out]at h1;haveI:=Kn.refl [] W;exact⟨by rw[h1],(kn_drewN [] W W [] n).below0⟩
theorem eP(g o n cap:Nat)(hn:0<n)(s:ByteArray)(hs:s.size<=1000000)(m:Int)(w:World)(h0:w.cell? ⟨g,o,none⟩=some (.int .i64 0))(h1:w.cell? ⟨g,o+1,none⟩=some (.string s))(h2:w.cell? ⟨g,o+2,none⟩=some (.bool false))(hm:w.cell? ⟨1,0,none⟩=some (.int .i64 m))
  (nm va:ByteArray) (ok:Bool) (hc:Hid (Lib.cut s.data.toList [61]=(nm.data.toList,va.data.toList,ok))) (hnm:nm.size<=1000000) (hno:ok=false\/cG nm.data.toList=false):Calls Tryz.prog 147 #[.slice (some ⟨g,o,none⟩) n cap] w fun e w'=>e=.returned (.tuple #[.agg #[.string ⟨#[]⟩,.slice none 0 0],.bool false])/\Below w.heap.size w w':=by
 have hg:=aF h0
 have q0:((n:Int)==0)=false:=beq_false_of_ne (by omega)
 have q1:(n==0)=false:=beq_false_of_ne (by omega)
 have HIN:=yh (fun W=>ej nm hnm W)
 obtain⟨k1,hk1⟩:∃z:Bool,cG nm.data.toList=z:=⟨_,rfl⟩
 rw[hk1]at HIN hno
 have HM:=yh hm
 clear hk1 hm
 cases ok<;>cases k1<;>(first|(exfalso;revert hno;decide)|(
  clear hno;have hL:Kn [] w w []:=Kn.refl [] w;have hF:=hL.fx;go_enter Tryz.func147,Tryz.ntmps147;go_wp2_with (first|(go_at_call 167;refine zC (fun W hL=>oK s hs m nm va _ hc _ (kK hL HM.out)) ?_;intro W hL hF)|(go_at_call 121;refine zC (fun W hL=>HIN.out _) ?_;intro W hL hF))
  refine zF ?_;intro W hL hF;refine bodyPost_ret (by simp[results,Tryz.results147,go_sem, *];try rfl) rfl ?_;exact⟨rfl,hL.below0⟩))
theorem i7(g o n cap:Nat)(hn:0<n)(hnc:n<=cap)(hn2:n<=100000)(s:ByteArray)(hs:s.size<=1000000)(m:Int)(w:World)(h0:w.cell? ⟨g,o,none⟩=some (.int .i64 0))(h1:w.cell? ⟨g,o+1,none⟩=some (.string s))(h2:w.cell? ⟨g,o+2,none⟩=some (.bool false))(hm:w.cell? ⟨1,0,none⟩=some (.int .i64 m))
  (nm va:ByteArray) (hc:Hid (Lib.cut s.data.toList [61]=(nm.data.toList,va.data.toList,true))) (hnm:nm.size<=1000000) (hyes:cG nm.data.toList=true) (ps rs:List Prt) (hrs:Hid (rs=if va.data.toList.isEmpty then ps else⟨0,va.data.toList,false⟩::ps)) (hps:Hid (ps.length+1=n)) (hrest:Hid (∀j u,(ps.flatMap ptc)[j]? =some u->w.cell? ⟨g,o+3+j,none⟩=some u)):
  Calls Tryz.prog 147 #[.slice (some ⟨g,o,none⟩) n cap] w fun e w'=>∃LP v,e=.returned (.tuple #[.agg #[.string nm,v],.bool true])/\Hid (RowL 3 118 LP v rs.length (rs.flatMap ptc))/\Kn [] w w' LP:=by
 have hg:=aF h0
 have q0:((n:Int)==0)=false:=beq_false_of_ne (by omega)
 have q1:(n==0)=false:=beq_false_of_ne (by omega)
 have HIN:=yh (fun W=>ej nm hnm W)
 rw[hyes]at HIN
 have HM:=yh hm
 clear hm hyes
 obtain⟨k1,hk1⟩:∃z:Bool,va.data.toList.isEmpty=z:=⟨_,rfl⟩
 have HK1:=yh hk1
 have j1:(va.toList==[])=k1:=by rw[Lib.toList_data,<- hk1];cases va.data.toList<;>rfl
 clear hk1
 cases k1
 ·have HPV:=yh (show ptc ⟨0,va.data.toList,false⟩=[.int .i64 0,.string va,.bool false]from by simp[ptc,bs])
  have hL:Kn [] w w []:=Kn.refl [] w;have hF:=hL.fx;go_enter Tryz.func147,Tryz.ntmps147;go_wp2_with (first|(go_at_call 167;refine zC (fun W hL=>oK s hs m nm va _ hc _ (kK hL HM.out)) ?_;intro W hL hF)|(go_at_call 121;refine zC (fun W hL=>HIN.out _) ?_;intro W hL hF)|(at_builtin;refine zL ?_;intro W hL hF;(refine ah rfl _ _ 29 29 rfl [_,_,_] [] hL 0 1 [] [.int .i64 0,.string va,.bool false] _ _ RowL.nil rfl rfl (fun ho=>dh rfl (fun j u hu=>by rw[Go.WideShapes.add_plain,Nat.zero_add,aO hL m0];simpa using hu) (by intro u hu;simp only[List.mem_cons,List.not_mem_nil,or_false]at hu;rcases hu with rfl|rfl|rfl<;>rfl) (by omega) ho) ?_);intro LP2 a2 c2 W3 hL2 hr2;clear hL hF;have hL:=hL2.sub (List.sublist_cons_self _ _);clear hL2;simp only[List.append_eq,List.cons_append,List.nil_append]at hL;have hF:=hL.fx))
  have hn9:=hps.out;obtain rfl:n=ps.length+1:=hn9.symm;by_cases hc1:cap=1
  ·have HP0:Hid (ps=[]):=yh (List.eq_nil_of_length_eq_zero (by omega))
   go_wp2_with ((with_reducible refine ac 9 ?_);refine zX [0,1,2,3,4,5,6] [4,6] ?_ (sC (sC sN));clear hF hL;intro ι F hne hC hG;(repeat(first|((first|refine cF hC ?_|refine cP ?_);intro K hK;go_big_quiet_op;go_big_quiet_on)|(refine cM ?_;intro W hL hF;at_builtin;(refine ah rfl _ _ 29 29 rfl [_,_] LP2 hL 1 ps.length [.int .i64 0,.string va,.bool false] (ps.flatMap ptc) _ _ hr2 rfl rfl (fun ho=>dh (by rw[ee];omega) (fun j u hu=>by rw[HP0.out]at hu;simp at hu) (fun u hu=>by obtain⟨p,_,hp⟩:=List.mem_flatMap.1 hu;exact cU p u hp) (by omega) ho) ?_);intro LP3 a3 c3 W3 hL2 hr3;clear hL hF;have hL:=hL2;clear hL2;simp only[List.append_eq,List.cons_append,List.nil_append]at hL;have hF:=hL.fx;go_wp2;refine zB2 ?_;clear hL hF hC hG;intro ι F hne hC hG)|(refine cM ?_;intro W hL hF;go_wp2;refine zB2 ?_;clear hL hF hC hG;intro ι F hne hC hG)));refine zN ?_;clear hC hG;intro W hL hF)
   refine zF ?_;intro W hL hF;refine bodyPost_ret (by simp[results,Tryz.results147,go_sem, *];try rfl) rfl ?_;have hrs2:=hrs.out;rw[HK1.out]at hrs2;rw[if_neg (by decide)]at hrs2;refine⟨LP3,_,rfl,yh ?_,(hL.sub (List.sublist_cons_self _ _)).sub (List.sublist_cons_self _ _)⟩;have hln:rs.length=1+ps.length:=by rw[hrs2];simp[Nat.add_comm]
   rw[hln];have hfl:rs.flatMap ptc=[.int .i64 0,.string va,.bool false]++ps.flatMap ptc:=by rw[hrs2];simp[ptc,bs]
   rw[hfl];simpa using hr3
  ·go_wp2_with ((with_reducible refine ac 9 ?_);refine zX [0,1,2,3,4,5,6] [4,6] ?_ (sC (sC sN));clear hF hL;intro ι F hne hC hG;(repeat(first|((first|refine cF hC ?_|refine cP ?_);intro K hK;go_big_quiet_op;go_big_quiet_on)|(refine cM ?_;intro W hL hF;at_builtin;(refine ah rfl _ _ 29 29 rfl [_,_] LP2 hL 1 ps.length [.int .i64 0,.string va,.bool false] (ps.flatMap ptc) _ _ hr2 rfl rfl (fun ho=>dh (by rw[ee];omega) (fun j u hu=>by rw[Go.WideShapes.add_plain];exact kK hL (hrest.out j u hu)) (fun u hu=>by obtain⟨p,_,hp⟩:=List.mem_flatMap.1 hu;exact cU p u hp) (by omega) ho) ?_);intro LP3 a3 c3 W3 hL2 hr3;clear hL hF;have hL:=hL2;clear hL2;simp only[List.append_eq,List.cons_append,List.nil_append]at hL;have hF:=hL.fx;go_wp2;refine zB2 ?_;clear hL hF hC hG;intro ι F hne hC hG)|(refine cM ?_;intro W hL hF;go_wp2;refine zB2 ?_;clear hL hF hC hG;intro ι F hne hC hG)));refine zN ?_;clear hC hG;intro W hL hF)
   refine zF ?_;intro W hL hF;refine bodyPost_ret (by simp[results,Tryz.results147,go_sem, *];try rfl) rfl ?_;have hrs2:=hrs.out;rw[HK1.out]at hrs2;rw[if_neg (by decide)]at hrs2;refine⟨LP3,_,rfl,yh ?_,(hL.sub (List.sublist_cons_self _ _)).sub (List.sublist_cons_self _ _)⟩;have hln:rs.length=1+ps.length:=by rw[hrs2];simp[Nat.add_comm]
   rw[hln];have hfl:rs.flatMap ptc=[.int .i64 0,.string va,.bool false]++ps.flatMap ptc:=by rw[hrs2];simp[ptc,bs]
   rw[hfl];simpa using hr3
 ·have hL:Kn [] w w []:=Kn.refl [] w;have hF:=hL.fx;go_enter Tryz.func147,Tryz.ntmps147
  go_wp2_with (first|(go_at_call 167;refine zC (fun W hL=>oK s hs m nm va _ hc _ (kK hL HM.out)) ?_;intro W hL hF)|(go_at_call 121;refine zC (fun W hL=>HIN.out _) ?_;intro W hL hF))
  have hn9:=hps.out;obtain rfl:n=ps.length+1:=hn9.symm;by_cases hc1:cap=1
  ·have HP0:Hid (ps=[]):=yh (List.eq_nil_of_length_eq_zero (by omega))
   go_wp2_with ((with_reducible refine ac 9 ?_);refine zX [0,1,2,3,4,5,6] [4,6] ?_;clear hF hL;intro ι F hne hC hG;(repeat(first|((first|refine cF hC ?_|refine cP ?_);intro K hK;go_big_quiet_op;go_big_quiet_on)|(refine cM ?_;intro W hL hF;at_builtin;(refine ah rfl _ _ 29 29 rfl [_,_] [] hL 0 ps.length [] (ps.flatMap ptc) _ _ RowL.nil rfl rfl (fun ho=>dh (by rw[ee];omega) (fun j u hu=>by rw[HP0.out]at hu;simp at hu) (fun u hu=>by obtain⟨p,_,hp⟩:=List.mem_flatMap.1 hu;exact cU p u hp) (by omega) ho) ?_);intro LP3 a3 c3 W3 hL2 hr3;clear hL hF;have hL:=hL2;clear hL2;simp only[List.append_eq,List.cons_append,List.nil_append]at hL;have hF:=hL.fx;go_wp2;refine zB2 ?_;clear hL hF hC hG;intro ι F hne hC hG)|(refine cM ?_;intro W hL hF;go_wp2;refine zB2 ?_;clear hL hF hC hG;intro ι F hne hC hG)));refine zN ?_;clear hC hG;intro W hL hF)
   refine zF ?_;intro W hL hF;refine bodyPost_ret (by simp[results,Tryz.results147,go_sem, *];try rfl) rfl ?_;have hrs2:=hrs.out;rw[HK1.out]at hrs2;rw[if_pos rfl]at hrs2;refine⟨LP3,_,rfl,yh ?_,(hL.sub (List.sublist_cons_self _ _)).sub (List.sublist_cons_self _ _)⟩;have hln:rs.length=ps.length:=by rw[hrs2]
   rw[hln];have hfl:rs.flatMap ptc=ps.flatMap ptc:=by rw[hrs2]
   rw[hfl];simpa using hr3
  ·go_wp2_with ((with_reducible refine ac 9 ?_);refine zX [0,1,2,3,4,5,6] [4,6] ?_;clear hF hL;intro ι F hne hC hG;(repeat(first|((first|refine cF hC ?_|refine cP ?_);intro K hK;go_big_quiet_op;go_big_quiet_on)|(refine cM ?_;intro W hL hF;at_builtin;(refine ah rfl _ _ 29 29 rfl [_,_] [] hL 0 ps.length [] (ps.flatMap ptc) _ _ RowL.nil rfl rfl (fun ho=>dh (by rw[ee];omega) (fun j u hu=>by rw[Go.WideShapes.add_plain];exact kK hL (hrest.out j u hu)) (fun u hu=>by obtain⟨p,_,hp⟩:=List.mem_flatMap.1 hu;exact cU p u hp) (by omega) ho) ?_);intro LP3 a3 c3 W3 hL2 hr3;clear hL hF;have hL:=hL2;clear hL2;simp only[List.append_eq,List.cons_append,List.nil_append]at hL;have hF:=hL.fx;go_wp2;refine zB2 ?_;clear hL hF hC hG;intro ι F hne hC hG)|(refine cM ?_;intro W hL hF;go_wp2;refine zB2 ?_;clear hL hF hC hG;intro ι F hne hC hG)));refine zN ?_;clear hC hG;intro W hL hF)
   refine zF ?_;intro W hL hF;refine bodyPost_ret (by simp[results,Tryz.results147,go_sem, *];try rfl) rfl ?_;have hrs2:=hrs.out;rw[HK1.out]at hrs2;rw[if_pos rfl]at hrs2;refine⟨LP3,_,rfl,yh ?_,(hL.sub (List.sublist_cons_self _ _)).sub (List.sublist_cons_self _ _)⟩;have hln:rs.length=ps.length:=by rw[hrs2]
   rw[hln];have hfl:rs.flatMap ptc=ps.flatMap ptc:=by rw[hrs2]
   rw[hfl];simpa using hr3
theorem lI{W0:World}{g o cap:Nat}{tvs:List (Tok×Value)}(E:PEnv W0 g o cap tvs){x:Tok×Value}(hx:x∈tvs)(pa:Option Addr)(pn pc:Nat)(hx2:x.2=.slice pa pn pc)(w:World)(hB:Below W0.heap.size W0 w):
  Calls Tryz.prog 147 #[.slice pa pn pc] w (AsgR W0 (aG x.1.parts) w):=by
 obtain⟨hr,ao,n,cap,hv,hnc⟩:=E.parts x hx
 obtain⟨_,_,_,hw⟩:=E.word x hx
 rw[hx2]at hv
 injection hv with v1 v2 v3
 subst v1 v2 v3
 obtain⟨ao,cap,hv2,hr⟩:=hr
 rw[hx2]at hv2
 injection hv2 with e1 e2 e3
 subst e1 e3
 rw[List.length_map]at e2
 obtain⟨m,hm⟩:=E.mx
 have hm:=bL hm hB
 have hlen:=(E.word x hx).2.2.1
 cases hps:x.1.parts with
 |nil=>
  rw[hps]at e2;rw[show pn=0 from e2];exact(ix pa pc w).mono fun e w' h=>h
 |cons p ps=>
  rw[hps]at e2 hr hw hlen;obtain⟨g2,o2,epa,hc⟩:=hr 0 (ptc p) rfl;simp only[Nat.zero_mul,Nat.add_zero]at hc;have h0:=bL (hc 0 _ rfl) hB;have h1:=bL (hc 1 _ rfl) hB;have h2:=bL (hc 2 _ rfl) hB;rw[Nat.add_zero]at h0;have hpt:=hw p (by simp);rw[e2]at hnc |-
  rw[epa]at hr |-
  have hn0:0<(p::ps).length:=by simp
  by_cases hk:p.k=0/\p.q=false
  ·obtain⟨hk0,hq⟩:=hk
   have h0':w.cell? ⟨g2,o2,none⟩=some (.int .i64 0):=by grind
   rw[hq]at h2;obtain⟨s,hs⟩:∃s:ByteArray,s.data.toList=p.t:=⟨⟨p.t.toArray⟩,by simp⟩;have hss:s.size<=1000000:=by rw[<- szl,hs];omega
   have h1':w.cell? ⟨g2,o2+1,none⟩=some (.string s):=by rw[h1,<- hs];simp[bs]
   have hcq:=yn s.data.toList
   cases hce:kH s.data.toList with
   |none=>
    rw[hce]at hcq;have ha:aG (p::ps)=none:=by grind[aG]
    rw[ha];exact eP g2 o2 _ pc hn0 s hss m w h0' h1' h2 hm s ⟨#[]⟩ false (yh hcq) hss (.inl rfl)
   |some z=>
    obtain⟨n,v⟩:=z;rw[hce]at hcq;obtain⟨nm,hnm⟩:∃s:ByteArray,s.data.toList=n:=⟨⟨n.toArray⟩,by simp⟩;obtain⟨va,hva⟩:∃s:ByteArray,s.data.toList=v:=⟨⟨v.toArray⟩,by simp⟩;have hnl:nm.size<=1000000:=by
     have h9:=(bq ((iw _).symm.trans hce)).1;rw[<- szl,hnm];grind
    rw[<- hnm,<- hva]at hcq;by_cases hi:cG n=true
    ·have ha:aG (p::ps)=some (n,if v.isEmpty then ps else⟨0,v,false⟩::ps):=by simp only[aG];rw[if_pos ⟨hk0,hq⟩,<- hs,hce];simp only[hi,if_true]
     rw[ha];refine(i7 g2 o2 _ pc hn0 hnc hlen s hss m w h0' h1' h2 hm nm va (yh hcq) hnl (by rw[hnm];exact hi) ps _ (yh rfl) (yh rfl) (yh fun j u hu=>?_)).mono fun e w' h=>?_
     ·obtain⟨i,c,hi,hc2,rfl⟩:∃i c,i<ps.length/\c<3/\j=i*3+c:=⟨j/3,j % 3,by have:=(List.getElem?_eq_some_iff.1 hu).1;rw[ee]at this;omega,Nat.mod_lt _ (by omega),by omega⟩
      obtain⟨q,hq2⟩:∃q,ps[i]? =some q:=⟨_,List.getElem?_eq_getElem hi⟩;obtain⟨y,hy⟩:∃y,(ptc q)[c]? =some y:=⟨_,List.getElem?_eq_getElem hc2⟩;rw[fN (f:=ptc) (k:=3) (fun _=>rfl) ps i c q y hq2 hy]at hu
      cases hu
      obtain⟨g3,o3,e3,hc3⟩:=hr (i+1) (ptc q) (by grind)
      cases e3
      have:=bL (hc3 c _ hy) hB;rw[show o2+(i+1)*3+c=o2+3+(i*3+c) by omega]at this;exact this
     ·obtain⟨LP,v2,h5,h6,h7⟩:=h
      refine⟨LP,v2,by rw[h5,<- hnm,cz],yh ?_,h7⟩;rw[<- hva];exact RowL.rowM (fun _=>rfl) h6.out (fun _ h=>h)
    ·have ha:aG (p::ps)=none:=by simp only[aG];rw[if_pos ⟨hk0,hq⟩,<- hs,hce];simp[hi]
     rw[ha];exact eP g2 o2 _ pc hn0 s hss m w h0' h1' h2 hm nm va true (yh hcq) hnl (.inr (by rw[hnm];simpa using hi))
  ·have ha:aG (p::ps)=none:=by simp only[aG];rw[if_neg hk]
   rw[ha];refine iy g2 o2 _ pc hn0 p.k ⟨#[]⟩ p.q w h0 h2 ?_;by_cases hq:p.q=true
   ·exact .inr hq
   ·refine .inl (bne_iff_ne.2 fun e=>hk ⟨by omega,by simpa using hq⟩)
theorem yo:(Tryz.prog.info? 94).map (fun i=>(i.zero,i.size,i.bytes))=some (some (.agg #[.int .i64 0,.int .i64 0,.slice none 0 0]),3,40):=by kernel_rfl
theorem eM{W:World}{t:TypeId}{v:Value}{n m c:Nat}{xs news:List Value}{ad:Addr}(hl:news.length=m*3)(hnews:∀j u,news[j]? =some u->W.cell? (ad.add j)=some u)(h1:∀u∈news,u.oneCell'=true)(hs:n+m<=1000000)(ho:W.ownsRow 0 94 3 v n xs):
  ∃v' w',(Builtin.append_ #[38,38] t #[v,.slice (some ad) m c]).run Tryz.prog W=.ok v' w'/\w'.ownsRow 0 94 3 v' (n+m) (xs++news)/\W.grownBy w' v.ownBlock/\(v'.ownBlock=v.ownBlock\/v'.ownBlock=some W.heap.size):=by
 obtain⟨i0,hi,hz0,hz1,hz2⟩:=bd yo
 have:=bi (P:=Tryz.prog) (w:=W) 0 38 t 94 i0 _ Tryz.underlying38 hi hz0 (by rw[hz1];rfl) (by omega) v n xs (by grind) ad m c news (by grind) hnews h1 (by unfold maxLen;omega) (by grind) (Nat.zero_le _)
 grind
theorem yp:(Tryz.prog.info? 91).map (fun i=>(i.zero,i.size,i.bytes))=some (some (.agg #[.string ⟨#[]⟩,.slice none 0 0]),2,40):=by kernel_rfl
theorem kr{W:World}{t:TypeId}{v:Value}{n m c:Nat}{xs news:List Value}{ad:Addr}(hl:news.length=m*2)(hnews:∀j u,news[j]? =some u->W.cell? (ad.add j)=some u)(h1:∀u∈news,u.oneCell'=true)(hs:n+m<=1000000)(ho:W.ownsRow 0 91 2 v n xs):
  ∃v' w',(Builtin.append_ #[36,36] t #[v,.slice (some ad) m c]).run Tryz.prog W=.ok v' w'/\w'.ownsRow 0 91 2 v' (n+m) (xs++news)/\W.grownBy w' v.ownBlock/\(v'.ownBlock=v.ownBlock\/v'.ownBlock=some W.heap.size):=by
 obtain⟨i0,hi,hz0,hz1,hz2⟩:=bd yp
 have:=bi (P:=Tryz.prog) (w:=W) 0 36 t 91 i0 _ Tryz.underlying36 hi hz0 (by rw[hz1];rfl) (by omega) v n xs (by grind) ad m c news (by grind) hnews h1 (by unfold maxLen;omega) (by grind) (Nat.zero_le _)
 grind
theorem yq:(Tryz.prog.info? 29).map (fun i=>(i.zero,i.size,i.bytes))=some (some (.slice none 0 0),1,24):=by kernel_rfl
theorem dU{W:World}{t:TypeId}{v:Value}{n m c:Nat}{xs news:List Value}{ad:Addr}(hl:news.length=m*1)(hnews:∀j u,news[j]? =some u->W.cell? (ad.add j)=some u)(h1:∀u∈news,u.oneCell'=true)(hs:n+m<=1000000)(ho:W.ownsRow 0 29 1 v n xs):
  ∃v' w',(Builtin.append_ #[37,37] t #[v,.slice (some ad) m c]).run Tryz.prog W=.ok v' w'/\w'.ownsRow 0 29 1 v' (n+m) (xs++news)/\W.grownBy w' v.ownBlock/\(v'.ownBlock=v.ownBlock\/v'.ownBlock=some W.heap.size):=by
 obtain⟨i0,hi,hz0,hz1,hz2⟩:=bd yq
 have:=bi (P:=Tryz.prog) (w:=W) 0 37 t 29 i0 _ Tryz.underlying37 hi hz0 (by rw[hz1];rfl) (by omega) v n xs (by grind) ad m c news (by grind) hnews h1 (by unfold maxLen;omega) (by grind) (Nat.zero_le _)
 grind
theorem ys:(Tryz.prog.info? 41).map (fun i=>(i.zero,i.size,i.bytes))=some (some (.agg #[.int .i64 0,.string ⟨#[]⟩,.bool false,.slice none 0 0,.slice none 0 0,.slice none 0 0,.slice none 0 0]),7,128):=by kernel_rfl
theorem bM{W:World}{t:TypeId}{v:Value}{n m c:Nat}{xs news:List Value}{ad:Addr}(hl:news.length=m*7)(hnews:∀j u,news[j]? =some u->W.cell? (ad.add j)=some u)(h1:∀u∈news,u.oneCell'=true)(hs:n+m<=1000000)(ho:W.ownsRow 0 41 7 v n xs):
  ∃v' w',(Builtin.append_ #[39,39] t #[v,.slice (some ad) m c]).run Tryz.prog W=.ok v' w'/\w'.ownsRow 0 41 7 v' (n+m) (xs++news)/\W.grownBy w' v.ownBlock/\(v'.ownBlock=v.ownBlock\/v'.ownBlock=some W.heap.size):=by
 obtain⟨i0,hi,hz0,hz1,hz2⟩:=bd ys
 have:=bi (P:=Tryz.prog) (w:=W) 0 39 t 41 i0 _ Tryz.underlying39 hi hz0 (by rw[hz1];rfl) (by omega) v n xs (by grind) ad m c news (by grind) hnews h1 (by unfold maxLen;omega) (by grind) (Nat.zero_le _)
 grind
def ct(W0:World)(g o cap:Nat)(tvs:List (Tok×Value))(f:FuncId)(d:Nat)(p:Pa Nd):Prop:=
 ∀(b i:Nat) (v:Value) (w:World),Below W0.heap.size W0 w->W0.heap.size<=b->Hid (AtV g o cap tvs i v)->w.heap[b]? =some (.cells #[v,.int .i64 (d:Nat)] 73 (0,0))->
  Calls Tryz.prog f #[.pointer (some ⟨b,0,none⟩)] w (cR W0 b d g o cap tvs w (p ((TT tvs).drop i)))
theorem RowM.one{k:Nat}{W0:World}{L:List (Nat×Obj)}{g c:Nat}{cs:List Value}{t:TypeId}(hm:(g,Obj.cells cs.toArray t (0,0))∈L)(hc:1<=c):RowM k W0 L (.slice (some ⟨g,0,none⟩) 1 c) [cs]:=
 ⟨_,c,rfl,hc,fun j ds hj=>by
  grind⟩
theorem RowM.two{k:Nat}{W0:World}{L:List (Nat×Obj)}{g c:Nat}{cs ds:List Value}{t:TypeId}(hk:cs.length=k)(hm:(g,Obj.cells (cs++ds).toArray t (0,0))∈L)(hc:2<=c):RowM k W0 L (.slice (some ⟨g,0,none⟩) 2 c) [cs,ds]:=
 ⟨_,c,rfl,hc,fun j es hj=>by
  grind⟩
theorem NodeL.of{W0:World}{L:List (Nat×Obj)}{kind:Nat}{name:ab}{neg:Bool}{ws:List (List Prt×Value)}{ks:List (Nd×List Value)}{vw vk:Value}(h3:RowM 1 W0 L vw (ws.map fun x=>[x.2]))(h4:∀x∈ws,PRm W0 L x.2 x.1)(h7:RowM 7 W0 L vk (ks.map (·.2)))(h8:∀x∈ks,NodeL W0 L x.1 x.2):
  NodeL W0 L (.mk kind name neg [] (ws.map (·.1)) [] (ks.map (·.1))) [.int .i64 kind,bs name,.bool neg,.slice none 0 0,vw,.slice none 0 0,vk]:=
 NodeL.mk kind name neg [] ws [] ks _ _ _ _ RowM.nil (fun x hx=>by cases hx) h3 h4 RowM.nil (fun x hx=>by cases hx) h7 h8
theorem NodeL.one{W0:World}{L:List (Nat×Obj)}{kind:Nat}{name:ab}{neg:Bool}{x:Nd}{cs:List Value}{g c:Nat}(h:NodeL W0 L x cs)(hm:(g,Obj.cells cs.toArray 41 (0,0))∈L)(hc:1<=c):
  NodeL W0 L (.mk kind name neg [] [] [] [x]) [.int .i64 kind,bs name,.bool neg,.slice none 0 0,.slice none 0 0,.slice none 0 0,.slice (some ⟨g,0,none⟩) 1 c]:=
 NodeL.of (ws:=[]) (ks:=[(x,cs)]) RowM.nil (fun x hx=>by cases hx) (RowM.one hm hc) (fun y hy=>by grind)
theorem NodeL.two{W0:World}{L:List (Nat×Obj)}{kind:Nat}{name:ab}{neg:Bool}{x y:Nd}{cs ds:List Value}{g c:Nat}(h:NodeL W0 L x cs)(h2:NodeL W0 L y ds)(hm:(g,Obj.cells (cs++ds).toArray 41 (0,0))∈L)(hc:2<=c):
  NodeL W0 L (.mk kind name neg [] [] [] [x,y]) [.int .i64 kind,bs name,.bool neg,.slice none 0 0,.slice none 0 0,.slice none 0 0,.slice (some ⟨g,0,none⟩) 2 c]:=
 NodeL.of (ws:=[]) (ks:=[(x,cs),(y,ds)]) RowM.nil (fun x hx=>by cases hx) (RowM.two h.len hm hc) (fun z hz=>by
  grind)
theorem iA{W0:World}{L:List (Nat×Obj)}{ks:List (Nd×List Value)}(h:∀x∈ks,NodeL W0 L x.1 x.2){e:TypeId}{LP L':List (Nat×Obj)}{v:Value}(hr:RowL 7 e LP v ks.length (ks.flatMap (·.2)))(hs:∀p∈LP,p∈L'):RowM 7 W0 L' v (ks.map (·.2)):=by
 have hl:∀x∈ks,x.2.length=7:=fun x hx=>(h x hx).len
 rcases hr with⟨_,rfl,h0,h1⟩|⟨g,cap,cur,rfl,rfl,hb⟩
 ·grind[RowM.nil]
 ·refine⟨some ⟨g,0,none⟩,cap,by grind,by rw[List.length_map];exact hb.le,fun j cs hj=>⟨g,0,rfl,.inl ⟨cur,e,hs _ m0,fun c x hx=>?_⟩⟩⟩
  rw[Nat.zero_add];refine hb.get ?_;clear hb h;induction ks generalizing j with
  |nil=>grind
  |cons y r ih=>
   grind
theorem Kn.in1{X:List Nat}{w0 W:World}{p0 p1 p2:Nat×Obj}{LP LC R:List (Nat×Obj)}(h:Kn X w0 W (p0::(LP++(p1::p2::(LC++R))))):Kn X w0 W (p0::p1::p2::((LP++LC)++R)):=h.perm fun p=>by grind
theorem NodeL.r{W0:World}{A B:List (Nat×Obj)}{n:Nd}{cs:List Value}(h:NodeL W0 B n cs):NodeL W0 (A++B) n cs:=h.mono fun p hp=>List.mem_append_right _ hp
theorem NodeL.l{W0:World}{A B:List (Nat×Obj)}{n:Nd}{cs:List Value}(h:NodeL W0 A n cs):NodeL W0 (A++B) n cs:=h.mono fun p hp=>List.mem_append_left _ hp
theorem bx{l:List Tok}{i:Nat}:(l.drop i).tail=l.drop (i+1):=List.tail_drop
def dp:List Oper->Nat->Nat->List Oper
 | [],_,_=>[]
 |o::l,0,p=>{o with after:=o.after.push ⟨p,.data⟩}::l
 |o::l,q+1,p=>o::dp l q p
def ri(p:Nat)(o:Oper):Oper:={o with after:=o.after.push ⟨p,.data⟩}
theorem hH:∀(l:List Oper) (q p:Nat),(dp l q p).length=l.length
 | [],_,_=>rfl
 |o::l,0,p=>rfl
 |o::l,q+1,p=>by rw[dp,List.length_cons,List.length_cons,hH l q p]
theorem hU:∀(l:List Oper) (q p i:Nat),(dp l q p)[i]? =if i=q then(l[i]?).map (ri p)else l[i]?
 | [],q,p,i=>by simp[dp]
 |o::l,0,p,0=>by simp[dp,ri]
 |o::l,0,p,i+1=>by simp[dp]
 |o::l,q+1,p,0=>by simp[dp]
 |o::l,q+1,p,i+1=>by
  rw[dp,List.getElem?_cons_succ,hU l q p i,List.getElem?_cons_succ];grind
section
variable {P:Program} {l:List Oper} {Q:Exit->Act->World->Prop} {md:Region.Mode}
theorem dq(q p i:Nat)(listed:Array Bool):i∈Region.ready md (dp l q p).toArray listed↔(i∈Region.ready md l.toArray listed/\(i=q->listed.getD p false=true)):=by
 unfold Region.ready
 simp only[List.mem_filter,List.mem_range,List.size_toArray,hH,List.getElem?_toArray,hU,Bool.and_eq_true]
 by_cases h:i=q
 ·subst h
  simp only[if_true,true_implies]
  cases l[i]? with
  |none=>simp
  |some o=>
   simp only[Option.map_some,ri,Option.getD_some,Array.all_push,Bool.and_eq_true];simp only[show Region.binds md ⟨p,.data⟩=true from rfl,Bool.not_true,Bool.false_or];grind
 grind
theorem mX(p:Nat)(ρ:Operand->Value)(o:Oper):execOp ρ (ri p o)=execOp ρ o:=by
 obtain⟨dst,op,type,pos,after,guard⟩:=o
 cases op<;>rfl
theorem yt(p:Nat)(o:Oper)(a:Act)(w:World)(K:Act->World->Prop):(ri p o).wp P a w K Q=o.wp P a w K Q:=by
 unfold Oper.wp
 rw[mX]
 generalize (execOp a.eval o).run P w=r
 cases r with
 |ok n w'=>cases n<;>rfl
 |halt x w'=>cases x<;>rfl
theorem tf(p:Nat)(o:Oper)(a:Act)(w:World):(ri p o).asks P a w=o.asks P a w:=by
 unfold Oper.asks
 rw[mX]
theorem lJ(q p:Nat)(t:Array Value):yielded (dp l q p).toArray t=yielded l.toArray t:=by
 funext g
 have e:((dp l q p).toArray[g]?).bind (·.dst)=(l.toArray[g]?).bind (·.dst):=by
  rw[List.getElem?_toArray,List.getElem?_toArray,hU];split
  ·cases l[g]? <;>rfl
  ·rfl
 unfold yielded
 rw[e]
theorem gC(q p:Nat):∀(ord:List Nat) (a:Act) (w:World),wpOps P (dp l q p).toArray Q ord a w↔wpOps P l.toArray Q ord a w
 | [],a,w=>Iff.rfl
 |i::rest,a,w=>by
  have ih:wpOps P (dp l q p).toArray Q rest=wpOps P l.toArray Q rest:=by
   funext a w;exact propext (gC q p rest a w)
  unfold wpOps;rw[List.getElem?_toArray,List.getElem?_toArray,hU,lJ,ih];by_cases h:i=q
  ·rw[if_pos h]
   cases l[i]? with
   |none=>grind
   |some o=>
    simp only[Option.map_some,yt,tf];exact Iff.rfl
  grind
def VF(md:Region.Mode)(ops:Array Oper):Nat->Array Bool->List Nat->Prop
 |0,_,ord=>ord=[]
 |f+1,listed,ord=>(Region.ready md ops listed=[]/\ord=[])\/∃i r,ord=i::r/\i∈Region.ready md ops listed/\VF md ops f (listed.setIfInBounds i true) r
theorem th:∀(f:Nat) (listed:Array Bool) (ord:List Nat) (a:Act) (w:World),wpAny P md l.toArray Q f listed a w->VF md l.toArray f listed ord->wpOps P l.toArray Q ord a w
 |0,listed,ord,a,w,h,hv=>by
  have hv:ord=[]:=hv;subst hv;exact h.2
 |f+1,listed,ord,a,w,h,hv=>by
  rcases hv with⟨h1,rfl⟩|⟨i,r,rfl,h1,h2⟩
  ·exact h.1 h1
  ·rw[wpOps_cons]
   exact wpOp_mono (fun a w hh=>th f _ r a w hh h2) (h.2 i h1)
theorem ti(ops:Array Oper):∀(f t:Nat) (listed:Array Bool),VF md ops f listed (Region.linearise.go md ops f t listed [])
 |0,t,listed=>rfl
 |f+1,t,listed=>by
  simp only[Region.linearise.go];change VF md ops (f+1) listed (match(Region.ready md ops listed)[t % (Region.ready md ops listed).length]? with
   |some i=>Region.linearise.go md ops f (t/(Region.ready md ops listed).length) (listed.setIfInBounds i true) [i]
   |none=>[].reverse)
  cases hi:(Region.ready md ops listed)[t % (Region.ready md ops listed).length]? with
  |none=>
   left
   refine⟨?_,rfl⟩
   cases hr:Region.ready md ops listed with
   |nil=>rfl
   |cons x xs=>
    rw[hr]at hi;have hlt:t % (x::xs).length<(x::xs).length:=Nat.mod_lt _ (by simp);grind
  |some i=>
   right
   refine⟨i,Region.linearise.go md ops f (t/(Region.ready md ops listed).length) (listed.setIfInBounds i true) [],?_,List.mem_of_getElem? hi,ti ops f _ _⟩;show Region.linearise.go md ops f _ _ [i]=_
   rw[linearise_go_acc];rfl
theorem lK(q p:Nat):∀(f:Nat) (listed:Array Bool) (ord:List Nat),listed.getD p false=true->VF md l.toArray f listed ord->VF md (dp l q p).toArray f listed ord
 |0,listed,ord,hp,h=>h
 |f+1,listed,ord,hp,h=>by
  rcases h with⟨h1,rfl⟩|⟨i,r,rfl,h1,h2⟩
  ·left
   refine⟨List.eq_nil_iff_forall_not_mem.2 fun i hi=>?_,rfl⟩;grind[dq]
  ·right
   refine⟨i,r,rfl,(dq q p i listed).2 ⟨h1,fun _=>hp⟩,lK q p f _ r ?_ h2⟩;rw[Array.getD_eq_getD_getElem?]at hp |-
   grind
theorem mY(p q:Nat)(hpq:p≠q)(hpl:p<l.length)(hql:q<l.length):∀(f:Nat) (listed:Array Bool) (ord:List Nat),listed.size=l.length->VF md l.toArray f listed ord->VF md (dp l q p).toArray f listed ord\/VF md (dp l p q).toArray f listed ord
 |0,listed,ord,hs,h=>.inl h
 |f+1,listed,ord,hs,h=>by
  rcases h with⟨h1,rfl⟩|⟨i,r,rfl,h1,h2⟩
  ·left;left
   refine⟨List.eq_nil_iff_forall_not_mem.2 fun i hi=>?_,rfl⟩;grind[dq]
  ·by_cases hip:i=p
   ·left;right
    refine⟨i,r,rfl,(dq q p i listed).2 ⟨h1,fun e=>absurd (hip.symm.trans e) hpq⟩,lK q p f _ r ?_ h2⟩;simp_all
   ·by_cases hiq:i=q
    ·right;right
     refine⟨i,r,rfl,(dq p q i listed).2 ⟨h1,fun e=>absurd e hip⟩,lK p q f _ r ?_ h2⟩;simp_all
    ·rcases mY p q hpq hpl hql f _ r (by grind) h2 with h3|h3
     ·exact .inl (.inr ⟨i,r,rfl,(dq q p i listed).2 ⟨h1,fun e=>absurd e hiq⟩,h3⟩)
     ·exact .inr (.inr ⟨i,r,rfl,(dq p q i listed).2 ⟨h1,fun e=>absurd e hip⟩,h3⟩)
def fO(P:Program)(l:List Oper)(Q:Exit->Act->World->Prop)(a:Act)(w:World):Prop:=∀ord,VF .any l.toArray l.length (Array.replicate l.length false) ord->wpOps P l.toArray Q ord a w.drew
theorem lL{id:Nat}{a:Act}{w:World}(hm:P.follows .mixedOrders=true)(h:fO P l Q a w):(Code.region id l.toArray true).wp P Q a w:=
 wp_region_draw fun t=>by
  simp only[Region.schedule,hm,Bool.true_or,if_true];have:=h _ (ti (md:=.any) l.toArray l.length t (Array.replicate l.length false));unfold Region.linearise;simp_all
theorem dr{a:Act}{w:World}(p q:Nat)(hpq:p≠q)(hp:p<l.length)(hq:q<l.length)(h1:fO P (dp l q p) Q a w)(h2:fO P (dp l p q) Q a w):fO P l Q a w:=fun ord hv=>by
 rcases mY p q hpq hp hq _ _ _ (by simp) hv with h|h
 ·have:=h1 ord (by grind[hH])
  grind[gC]
 ·have:=h2 ord (by grind[hH])
  grind[gC]
theorem vV{a:Act}{w:World}(h:wpAny P .any l.toArray Q l.length (Array.replicate l.length false) a w.drew):fO P l Q a w:=fun ord hv=>th _ _ _ _ _ h hv
end
section
variable {P:Program} {X:List Nat} {w0:World} {L Lw:List (Nat×Obj)} {a:Act}
theorem kP{Q:Exit->Act->World->Prop}{w:World}{l:List Oper}[h:Kn X w0 w L](order fls brs pus:List Nat)
  (hB:(Region.noSelect l.toArray&&fI l.length order&&en .any l.toArray (fun i=>fls.contains i) (fun i=>brs.contains i) (fun i=>pus.contains i) order)=true) (hs:Lw.Sublist L)
  (Qp:List PanicEntry->World->Prop) (hQp:∀ch a' w',a'.defers=a.defers->Qp ch w'->Q (.panic ch) a' w')
  (k:∀(ι:Type) (F:ι->World) [Nonempty ι],(∀w,Kn X w0 w Lw->∃n,w=F n)->(∀n,Kn X w0 (F n) Lw)->cwk P l.toArray (fun i=>fls.contains i) (fun i=>brs.contains i) (fun i=>pus.contains i) (Q .normal) Qp X w0 order a L Lw):fO P l Q a w:=by
 obtain⟨ι,F,hne,h1,h2⟩:=ik X w0 Lw ⟨w,h.sub hs⟩
 refine vV ?_
 have hk:=k ι F h1 h2
 simp only[Bool.and_eq_true]at hB
 obtain⟨⟨hsel,hp⟩,hok⟩:=hB
 simp only[fI,Bool.and_eq_true,decide_eq_true_eq,List.all_eq_true,List.mem_range,List.contains_iff_mem]at hp
 obtain⟨⟨hp1,hp2⟩,hp3⟩:=hp
 refine fH (md:=.any) (Region.noSelect_spec hsel) hQp _ order _ a w.drew _ _ (by omega) (by simp) (fun j hj=>?_) (fun j hj=>by grind) hok rfl (kn_drew X w0 w L) (fun u hu=>hu.sub hs) hk
 simp_all
theorem cH{Q:Exit->Act->World->Prop}{w:World}{l:List Oper}[h:Kn X w0 w L](order fls brs pus:List Nat)
  (hB:(Region.noSelect l.toArray&&fI l.length order&&en .any l.toArray (fun i=>fls.contains i) (fun i=>brs.contains i) (fun i=>pus.contains i) order)=true) (hs:Lw.Sublist L)
  (k:∀(ι:Type) (F:ι->World) [Nonempty ι],(∀w,Kn X w0 w Lw->∃n,w=F n)->(∀n,Kn X w0 (F n) Lw)->cwk P l.toArray (fun i=>fls.contains i) (fun i=>brs.contains i) (fun i=>pus.contains i) (Q .normal) (fun _ _=>False) X w0 order a L Lw):fO P l Q a w:=
 kP order fls brs pus hB hs (fun _ _=>False) (fun _ _ _ _ h=>h.elim) k
theorem gD{Q:Exit->Act->World->Prop}{w:World}{l:List Oper}[h:Kn X w0 w L](order fls brs pus:List Nat)
  (hB:(Region.noSelect l.toArray&&fI l.length order&&en .any l.toArray (fun i=>fls.contains i) (fun i=>brs.contains i) (fun i=>pus.contains i) order)=true) (hs:Lw.Sublist L)
  (k:∀(Qp:List PanicEntry->World->Prop),(∀ch W,(∀a':Act,a'.defers=a.defers->Q (.panic ch) a' W)->Qp ch W)->∀(ι:Type) (F:ι->World) [Nonempty ι],(∀w,Kn X w0 w Lw->∃n,w=F n)->(∀n,Kn X w0 (F n) Lw)->cwk P l.toArray (fun i=>fls.contains i) (fun i=>brs.contains i) (fun i=>pus.contains i) (Q .normal) Qp X w0 order a L Lw):fO P l Q a w:=
 kP order fls brs pus hB hs (fun ch W=>∀a':Act,a'.defers=a.defers->Q (.panic ch) a' W) (fun ch a' w' hd h=>h a' hd) (k _ (fun _ _ h=>h))
end
def rxL:List ByteArray:=[⟨#[60]⟩,⟨#[62]⟩,⟨#[62,62]⟩]
theorem dt{X:List Nat}{w0 W:World}{L:List (Nat×Obj)}{g:Nat}{t:TypeId}(hL:Kn X w0 W L)(hm:(g,Obj.cells #[.string ⟨#[60]⟩,.string ⟨#[62]⟩,.string ⟨#[62,62]⟩] t (0,0))∈L):∀j,j<rxL.length->W.cell? ⟨g,0+j,none⟩=some (.string (rxL.getD j ByteArray.empty)):=fun j hj=>by
 rw[Nat.zero_add,aO hL hm]
 have:j=0\/j=1\/j=2:=by have:rxL.length=3:=rfl;omega
 rcases this with rfl|rfl|rfl<;>rfl
theorem hZ(x:ByteArray):∀(zs:List ByteArray) (i:Nat),Lib.idxFromS zs x i= -1\/0<=Lib.idxFromS zs x i
 | [],i=>.inl rfl
 |z::zs,i=>by
  unfold Lib.idxFromS;split
  ·right;omega
  ·exact hZ x zs (i+1)
theorem yv(s:ByteArray):(jy s.data.toList:Int)=if decide (Lib.idxOfS rxL s<0)=true then 3 else Lib.idxOfS rxL s:=by
 have ne:∀l:ab,s.data.toList=l↔s=⟨l.toArray⟩:=fun l=>⟨fun h=>by rw[<- h],fun h=>by rw[h]⟩
 by_cases h0:s=⟨#[60]⟩
 ·subst h0;rfl
 ·by_cases h1:s=⟨#[62]⟩
  ·subst h1;rfl
  ·by_cases h2:s=⟨#[62,62]⟩
   ·subst h2;rfl
   ·have e:Lib.idxOfS rxL s= -1:=by
     have h3:Lib.containsS rxL s=false:=by
      rw[Bool.eq_false_iff];intro hh;have:=(Lib.containsS_iff rxL s).1 hh;unfold rxL at this;simp only[List.mem_cons,List.not_mem_nil,or_false]at this;rcases this with h|h|h
      ·exact h0 h
      ·exact h1 h
      ·exact h2 h
     unfold Lib.containsS at h3;have h4:=of_decide_eq_false h3;rcases hZ s rxL 0 with h5|h5
     ·exact h5
     ·exact absurd h5 h4
    rw[e];unfold jy;rw[if_neg (fun h=>h0 ((ne _).1 h)),if_neg (fun h=>h1 ((ne _).1 h)),if_neg (fun h=>h2 ((ne _).1 h))];rfl
theorem vW(t:Tok)(ps:List Prt)(kx:Int)(k1 k2:Bool)(h:(jy t.text:Int)=if decide (kx<0)=true then 3 else kx)(h1:decide (kx<0)=k1)(h2:decide (t.fd<0)=k2):((fa t ps).1,((fa t ps).2.1:Int))=(if k2=true then min 1 (if k1=true then 3 else kx)else t.fd,if k1=true then 3 else kx):=by
 rw[h1]at h
 unfold fa
 rw[<- h]
 cases k2 with
 |true=>rw[if_pos (of_decide_eq_true h2),if_pos rfl];simp only[Prod.mk.injEq,and_true];omega
 |false=>rw[if_neg (of_decide_eq_false h2),if_neg (by decide)]
def AJ(tvs:List (Tok×Value))(r:Int×Nat×List Prt)(v0:Value)(_:World):Prop:=∃x pa pn pc,x∈tvs/\x.2=.slice pa pn pc/\v0=.agg #[.int .i64 r.1,.int .i64 (r.2.1:Int),.slice pa pn pc]/\r.2.2=x.1.parts
theorem lM{W0:World}{g o cap:Nat}{tvs:List (Tok×Value)}(E:PEnv W0 g o cap tvs)(b i:Nat)(v:Value)(d:Nat)(w:World)(hB:Below W0.heap.size W0 w)(hbb:W0.heap.size<=b)(hv:Hid (AtV g o cap tvs i v))(hb:w.heap[b]? =some (.cells #[v,.int .i64 (d:Int)] 73 (0,0)))(hne:(TT tvs).drop i≠[]):Calls Tryz.prog 145 #[.pointer (some ⟨b,0,none⟩)] w fun e w'=>lE b d g o cap tvs w (AJ tvs) (dJ ((TT tvs).drop i)) e w':=by
 obtain⟨x,pa,pn,pc,hx,hx2⟩:=E.tok hv.out
 have HX:=yh hx
 have HX2:=yh hx2
 obtain⟨f0,f1,f2,f3,f4,f5⟩:=tkF x.1.kind x.1.fd x.1.line ⟨x.1.text.toArray⟩ ⟨x.1.plain.toArray⟩ pa pn pc
 clear hx hx2
 have h4:x.1.kind≠4:=by rcases bD E HX.out with h|h;exact absurd h.1 hne;exact h.2.1
 have hd:dJ ((TT tvs).drop i)=(bS ((TT tvs).drop (i+1))).bind fun w r=>.ok (fa x.1 w) r:=by
  rcases bD E HX.out with h|h
  ·exact absurd h.1 hne
  ·rw[h.1];rfl
 rw[hd]
 obtain⟨kx,hkx⟩:∃k,Lib.idxOfS rxL ⟨x.1.text.toArray⟩=k:=⟨_,rfl⟩
 have hrx:=yv ⟨x.1.text.toArray⟩
 rw[hkx]at hrx
 have HRX:=yh hrx
 have HIX:=yh (fun(zb:Nat) (W:World) (h:∀j,j<rxL.length->W.cell? ⟨zb,0+j,none⟩=some (.string (rxL.getD j ByteArray.empty)))=>(Tryz.slices_Index_string zb 0 3 3 rxL ⟨x.1.text.toArray⟩ W (by decide) (by decide) h).mono (R':=fun e w'=>e=.returned (.int .i64 kx)/\w'=W) fun e w' h=>⟨by rw[h.1];exact congrArg _ (congrArg _ hkx),h.2⟩)
 obtain⟨k1,hk1⟩:∃k:Bool,(decide (kx<0))=k:=⟨_,rfl⟩
 obtain⟨k2,hk2⟩:∃k:Bool,(decide (x.1.fd<0))=k:=⟨_,rfl⟩
 have HK1:=yh hk1
 have HK2:=yh hk2
 have H4:=yh h4
 clear hne h4 hd hkx hrx
 have HB0:=yh hB
 have HXB:=yh (xb hbb)
 have hL:Kn [b] w w [(b,.cells #[v,.int .i64 (d:Int)] 73 (0,0))]:=Kn.one hb
 have HBS:=yh hb
 clear hB hb
 have hF:=hL.fx
 have HW:=yh (fun vj (hvj:Hid (AtV g o cap tvs (i+1) vj)) W hB hb=>lH E b (i+1) vj d W hB hbb hvj hb)
 cases hw:bS ((TT tvs).drop (i+1))with
 |bad er m=>
  rw[hw]at HW;clear hw
  cases k1<;>cases k2<;>(
   go_enter Tryz.func145,Tryz.ntmps145;go_wp2_with (first|(with_reducible refine zS ?_;intro W hL hF)|(go_at_call 53;(with_reducible refine zM (fun W hL=>d_ E b i v (d:Int) _ (af HB0.out hL HXB.out) hbb hv hL.h1 HX.out pa pn pc HX2.out H4.out) ?_);rintro W hL e W ⟨rfl,vj,HVJ,hb⟩;replace hL:=hL.jn 1 hb;clear hb;have hF:=hL.fx)|((with_reducible refine ac 2 ?_);refine zE ?_;intro W hL hF;refine lL (by kernel_rfl) ?_;refine dr 7 2 (by decide) (by decide) (by decide) ?_ ?_;(focus (dsimp only[dp];refine cH [0,1,3,4,7,2,5,6,8] [0,1,3,4,6] [8] [0,3,6] (by kernel_rfl) sR ?_;clear hF hL;intro ι F hne hC hFF;have hG:=fun n=>(hFF n).fx;clear hFF;(repeat(first|(refine cS ?_)|((first|refine cF hC ?_|refine cP ?_);intro K hK;go_big_quiet_op;go_big_quiet_on)|(refine cD ?_;intro W hL hF;go_at_call 118;(with_reducible refine(HIX.out _ _ (dt hL m0)).mono ?_);rintro e W' ⟨rfl,rfl⟩;refine zO ?_;clear hL hF;simp only[Act.put,zT])|(refine cM ?_;intro W hL hF;go_wp2;(first|(refine zB2 ?_;clear hL hF hC hG;intro ι F hne hC hG)|(refine zO2 ?_;clear hL hF)))));refine zN ?_;clear hC hG;intro W hL hF));rotate_left;(focus (refine dr 7 5 (by decide) (by decide) (by decide) ?_ ?_;(focus (dsimp only[dp];refine cH [0,1,3,4,2,7,5,6,8] [0,1,3,4,6] [8] [0,3,6] (by kernel_rfl) sR ?_;clear hF hL;intro ι F hne hC hFF;have hG:=fun n=>(hFF n).fx;clear hFF;(repeat(first|(refine cS ?_)|((first|refine cF hC ?_|refine cP ?_);intro K hK;go_big_quiet_op;go_big_quiet_on)|(refine cD ?_;intro W hL hF;go_at_call 118;(with_reducible refine(HIX.out _ _ (dt hL m1)).mono ?_);rintro e W' ⟨rfl,rfl⟩;refine zO ?_;clear hL hF;simp only[Act.put,zT])|(refine cM ?_;intro W hL hF;go_wp2;(first|(refine zB2 ?_;clear hL hF hC hG;intro ι F hne hC hG)|(refine zO2 ?_;clear hL hF)))));refine zN ?_;clear hC hG;intro W hL hF));rotate_left;(focus ((dsimp only[dp];refine cH [0,1,3,4,2,5,6,7,8] [0,1,3,4,6] [8] [0,3,6] (by kernel_rfl) sR ?_;clear hF hL;intro ι F hne hC hFF;have hG:=fun n=>(hFF n).fx;clear hFF;(repeat(first|(refine cS ?_)|((first|refine cF hC ?_|refine cP ?_);intro K hK;go_big_quiet_op;go_big_quiet_on)|(refine cD ?_;intro W hL hF;go_at_call 118;(with_reducible refine(HIX.out _ _ (dt hL m0)).mono ?_);rintro e W' ⟨rfl,rfl⟩;refine zO ?_;clear hL hF;simp only[Act.put,zT])|(refine cM ?_;intro W hL hF;go_wp2;(first|(refine zB2 ?_;clear hL hF hC hG;intro ι F hne hC hG)|(refine zO2 ?_;clear hL hF)))));refine zN ?_;clear hC hG;intro W hL hF))))))|(go_at_call 164;(with_reducible refine zM (fun W hL=>HW.out _ HVJ _ (af HB0.out hL HXB.out) hL.h3) ?_);rintro W hL e W ⟨vj2,dj,rfl,hb⟩;replace hL:=hL.jn 3 hb;clear hb;have hF:=hL.fx))
   all_goals exact⟨rfl,_,_,rfl,hL.sub (by repeat' (first|exact List.Sublist.refl _|apply List.Sublist.cons_cons|apply List.Sublist.cons))⟩)
 |ok ps r=>
  rw[hw]at HW;clear hw
  cases k1<;>cases k2<;>(
   go_enter Tryz.func145,Tryz.ntmps145;go_wp2_with (first|(with_reducible refine zS ?_;intro W hL hF)|(go_at_call 53;(with_reducible refine zM (fun W hL=>d_ E b i v (d:Int) _ (af HB0.out hL HXB.out) hbb hv hL.h1 HX.out pa pn pc HX2.out H4.out) ?_);rintro W hL e W ⟨rfl,vj,HVJ,hb⟩;replace hL:=hL.jn 1 hb;clear hb;have hF:=hL.fx)|((with_reducible refine ac 2 ?_);refine zE ?_;intro W hL hF;refine lL (by kernel_rfl) ?_;refine dr 7 2 (by decide) (by decide) (by decide) ?_ ?_;(focus (dsimp only[dp];refine cH [0,1,3,4,7,2,5,6,8] [0,1,3,4,6] [8] [0,3,6] (by kernel_rfl) sR ?_;clear hF hL;intro ι F hne hC hFF;have hG:=fun n=>(hFF n).fx;clear hFF;(repeat(first|(refine cS ?_)|((first|refine cF hC ?_|refine cP ?_);intro K hK;go_big_quiet_op;go_big_quiet_on)|(refine cD ?_;intro W hL hF;go_at_call 118;(with_reducible refine(HIX.out _ _ (dt hL m0)).mono ?_);rintro e W' ⟨rfl,rfl⟩;refine zO ?_;clear hL hF;simp only[Act.put,zT])|(refine cM ?_;intro W hL hF;go_wp2;(first|(refine zB2 ?_;clear hL hF hC hG;intro ι F hne hC hG)|(refine zO2 ?_;clear hL hF)))));refine zN ?_;clear hC hG;intro W hL hF));rotate_left;(focus (refine dr 7 5 (by decide) (by decide) (by decide) ?_ ?_;(focus (dsimp only[dp];refine cH [0,1,3,4,2,7,5,6,8] [0,1,3,4,6] [8] [0,3,6] (by kernel_rfl) sR ?_;clear hF hL;intro ι F hne hC hFF;have hG:=fun n=>(hFF n).fx;clear hFF;(repeat(first|(refine cS ?_)|((first|refine cF hC ?_|refine cP ?_);intro K hK;go_big_quiet_op;go_big_quiet_on)|(refine cD ?_;intro W hL hF;go_at_call 118;(with_reducible refine(HIX.out _ _ (dt hL m1)).mono ?_);rintro e W' ⟨rfl,rfl⟩;refine zO ?_;clear hL hF;simp only[Act.put,zT])|(refine cM ?_;intro W hL hF;go_wp2;(first|(refine zB2 ?_;clear hL hF hC hG;intro ι F hne hC hG)|(refine zO2 ?_;clear hL hF)))));refine zN ?_;clear hC hG;intro W hL hF));rotate_left;(focus ((dsimp only[dp];refine cH [0,1,3,4,2,5,6,7,8] [0,1,3,4,6] [8] [0,3,6] (by kernel_rfl) sR ?_;clear hF hL;intro ι F hne hC hFF;have hG:=fun n=>(hFF n).fx;clear hFF;(repeat(first|(refine cS ?_)|((first|refine cF hC ?_|refine cP ?_);intro K hK;go_big_quiet_op;go_big_quiet_on)|(refine cD ?_;intro W hL hF;go_at_call 118;(with_reducible refine(HIX.out _ _ (dt hL m0)).mono ?_);rintro e W' ⟨rfl,rfl⟩;refine zO ?_;clear hL hF;simp only[Act.put,zT])|(refine cM ?_;intro W hL hF;go_wp2;(first|(refine zB2 ?_;clear hL hF hC hG;intro ι F hne hC hG)|(refine zO2 ?_;clear hL hF)))));refine zN ?_;clear hC hG;intro W hL hF))))))|(go_at_call 164;(with_reducible refine zM (fun W hL=>HW.out _ HVJ _ (af HB0.out hL HXB.out) hL.h3) ?_);rintro W hL e W ⟨_,j2,v2,rfl,⟨x2,pa2,pn2,pc2,hm2,hq2,rfl,hps⟩,HV2,hb⟩;replace hL:=hL.jn 3 hb;clear hb;have hF:=hL.fx;have g3:=rc x2.1.kind x2.1.fd x2.1.line ⟨x2.1.text.toArray⟩ ⟨x2.1.plain.toArray⟩ pa2 pn2 pc2))
   all_goals (
    refine zF ?_;intro W hL hF;refine bodyPost_ret (by simp[results,Tryz.results145,go_sem, *];try rfl) rfl ?_;exact⟨_,j2,v2,rfl,⟨x2,pa2,pn2,pc2,hm2,hq2,by have hv9:=vW x.1 ps kx _ _ HRX.out HK1.out HK2.out;rw[(Prod.mk.inj hv9).1,(Prod.mk.inj hv9).2];rfl,hps⟩,HV2,hL.sub (by repeat' (first|exact List.Sublist.refl _|apply List.Sublist.cons_cons|apply List.Sublist.cons))⟩))
end
end Go.Proofs.YtgboffbbpmileaaGreatDoor
