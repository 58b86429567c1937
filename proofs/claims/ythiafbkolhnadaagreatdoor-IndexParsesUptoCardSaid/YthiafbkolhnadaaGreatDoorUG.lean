/-
  Several texts in one: If, Gj, Gk, Gl, Rs, Rt, Rz, Ij, JB, S0, JC, Rd, Tb, Te, Qe
-/
import Derived.Test.YthiafbkolhnadaaGreatDoorUF
import Derived.ProofKit
import Derived.Test.YthiafbkolhnadaaGreatDoorRows
import Derived.Lib.LaidU8
import Derived.MakeChecks
import Derived.KernelRfl
import Derived.Test.YthiafbkolhnadaaGreatDoorCards
import Derived.Test.YthiafbkolhnadaaGreatDoorTie
import Derived.WalkKit
import Derived.OpenShut
import Derived.JoinedCond
import Derived.Deep.DeepHandedRow
import Derived.Lay
import Derived.SevenTiedAt
import Derived.Shelf.Vars
set_option linter.unusedSimpArgs false
set_option linter.unusedVariables false
set_option maxHeartbeats 4000000
set_option maxRecDepth 10000
section
namespace Go.Proofs.YthiafbkolhnadaaGreatDoor
open Go Go.Dk Go.RowKit Go.Lib
attribute [local irreducible] Go.wpList Go.Code.wp Go.bodyPost Go.wpStill Go.wpQuiet
theorem hdr_cuts (x:Idx)(h1:0≤x.size)(h2:0≤x.depth):Lib.cut (hdrT x) [32]=([105,110,100,101,120],nameT x.fmt++32::(itoa x.size++32::itoa x.depth),true)∧Lib.cut (nameT x.fmt++32::(itoa x.size++32::itoa x.depth)) [32]=(nameT x.fmt,itoa x.size++32::itoa x.depth,true)∧Lib.cut (itoa x.size++32::itoa x.depth) [32]=(itoa x.size,itoa x.depth,true):=by
 refine ⟨?_,cut1_hit _ _ _ ?_,cut1_hit _ _ _ (itoa_32 h1)⟩
 · have e:hdrT x=[105,110,100,101,120]++32::(nameT x.fmt++32::(itoa x.size++32::itoa x.depth)):=by
     unfold hdrT;simp
   rw [e]
   exact cut1_hit _ _ _ (by decide)
 · unfold nameT;split <;> decide
theorem col_cut (c:ByteArray):Lib.cut (colT c) [32]=([99,111,108,117,109,110],cqt c,true):=by
 have e:colT c=[99,111,108,117,109,110]++32::cqt c:=by unfold colT;simp
 rw [e]
 exact cut1_hit _ _ _ (by decide)
theorem ent_word {e:Ent}(h:0≤e.fr):(Lib.cut (entT e) [32]).1≠[99,111,108,117,109,110]:=by
 rw [ent_cut h]
 intro h2
 have h3:=itoa_dgc h
 simp only at h2
 rw [h2] at h3
 have:=h3 99 (by simp)
 unfold dgc at this
 revert this;decide
theorem cut_le (s:List UInt8):(Lib.cut s [32]).1.length≤s.length∧(Lib.cut s [32]).2.1.length≤s.length:=by
 unfold Lib.cut
 split
 · simp only [List.length_take,List.length_drop];omega
 · simp
theorem one5 {a b c:Int}{ve vc:Value}(h1:ve.oneCell'=true)(h2:vc.oneCell'=true):([.int .i64 a,.int .i64 b,.int .i64 c,ve,vc]:List Value).all (·.oneCell')=true:=by
 rw [List.all_eq_true]
 intro v hv
 simp only [List.mem_cons,List.not_mem_nil,or_false] at hv
 rcases hv with rfl | rfl | rfl | rfl | rfl <;> first | rfl | assumption
theorem c59h (f0 f1 f2:Int)(ve vc:Value)(s:List UInt8)(w0:World)(h1:ve.oneCell'=true)(h2:vc.oneCell'=true)(hs:s.length≤1000):Fc Tryz.prog 59 [.agg ([.int .i64 f0,.int .i64 f1,.int .i64 f2,ve,vc]:List Value).toArray,.string (bs s),.bool true] w0 (fun v _=>∃ m0 m1 m2:Int,v=.agg ([.int .i64 m0,.int .i64 m1,.int .i64 m2,ve,vc]:List Value).toArray∧∀ x0:Idx,chkX x0=0→s=hdrT x0→m0=x0.fmt∧m1=x0.size∧m2=x0.depth):=by
 refine Kbv ?_
 have cx:=Ctx.start w0
 refine K0 ?_
 refine Hc ?_;intro b3 w cx hb3 hw3
 refine H2c ?_;intro b6 w cx hb6 hw6
 refine K2 ?_
 refine H2d ?_;intro q23 w cx hw23 hp23
 subst hp23
 refine Ka ?_
 refine K3x ?_
 refine H2e ?_;intro q29 w cx hw29 hp29
 subst hp29
 refine K7 ?_
 refine s_fn cx (c109 (Lib.cut (Lib.cut s [32]).2.1 [32]).2.1 _ pdq) Tryz.func109 rfl rfl rfl rfl rfl rfl ?_;intro q34 w cx hw34 hp34
 subst hp34
 refine K7 ?_
 refine s_fn cx (c110 (Lib.cut (Lib.cut s [32]).2.1 [32]).1 _) Tryz.func110 rfl rfl rfl rfl rfl rfl ?_;intro q39 w cx hw39 hp39
 obtain ⟨m0,b0,rfl,hm0⟩:=hp39
 refine K7 ?_
 refine K2m ?_
 refine s_store1 (v:=.int .i64 m0) cx 1 rfl rfl rfl rfl rfl rfl rfl rfl sz3 ?_;intro w cx hwS6_2
 refine K2 ?_
 refine s_fn cx (c111 (Lib.cut (Lib.cut (Lib.cut s [32]).2.1 [32]).2.1 [32]).1 _ p2eq) Tryz.func111 rfl rfl rfl rfl rfl rfl ?_;intro q45 w cx hw45 hp45
 subst hp45
 refine s_val rfl rfl (v_fa fa35_1 rfl rfl) ?_
 refine s_store1 (v:=.int .i64 (numR (Lib.cut (Lib.cut (Lib.cut s [32]).2.1 [32]).2.1 [32]).1)) cx 1 rfl rfl rfl rfl rfl rfl rfl rfl sz3 ?_;intro w cx hwS7_3
 refine K2 ?_
 refine s_fn cx (c111 (Lib.cut (Lib.cut (Lib.cut s [32]).2.1 [32]).2.1 [32]).2.1 _ p2eq) Tryz.func111 rfl rfl rfl rfl rfl rfl ?_;intro q48 w cx hw48 hp48
 subst hp48
 refine s_val rfl rfl (v_fa fa35_2 rfl rfl) ?_
 refine s_store1 (v:=.int .i64 (numR (Lib.cut (Lib.cut (Lib.cut s [32]).2.1 [32]).2.1 [32]).2.1)) cx 1 rfl rfl rfl rfl rfl rfl rfl rfl sz3 ?_;intro w cx hwS8_3
 refine K1 ?_
 refine Kfc ?_
 refine s_storeAll cx 0 rfl rfl rfl rfl rfl rfl sz35 rfl (one5 h1 h2) ?_;intro w cx hwS9
 refine K0 ?_
 refine Kfd ?_
 refine ⟨cx.ext,m0,_,_,rfl,fun x0 hx0 h=>?_⟩
 obtain ⟨h3,h4,h5,h6,h7⟩:=chk_hdr hx0
 obtain ⟨e1,e2,e3⟩:=hdr_cuts x0 h4 (by omega)
 rw [h,e1] at hm0 ⊢
 simp only at hm0 ⊢
 rw [e2] at hm0 ⊢
 simp only at hm0 ⊢
 rw [e3]
 simp only
 refine ⟨?_,numR_itoa h4 h5,numR_itoa (by omega) (by omega)⟩
 rcases h3 with h3 | h3
 · rw [h3] at hm0 ⊢;exact hm0 1 (by omega) (by omega) rfl
 · rw [h3] at hm0 ⊢;exact hm0 4 (by omega) (by omega) rfl
theorem c59c (wb w0:World)(f0 f1 f2:Int)(ve vc:Value)(s:List UInt8)(n:Nat)(xs:List Value)(L:List (Nat×Obj))(R:List Row)(cx0:Cxr wb w0 L (⟨9,1,vc,n,xs⟩::R))(h1:ve.oneCell'=true)(hn:n≤1048576)(hs:s.length≤1000)(hw:(Lib.cut s [32]).1=[99,111,108,117,109,110]):Ret Tryz.prog 59 [.agg ([.int .i64 f0,.int .i64 f1,.int .i64 f2,ve,vc]:List Value).toArray,.string (bs s),.bool false] w0 (fun v w'=>∃ (vc':Value) (c:ByteArray),v=.agg ([.int .i64 f0,.int .i64 f1,.int .i64 f2,ve,vc']:List Value).toArray∧Cxr wb w' L (⟨9,1,vc',n+1,xs++[.string c]⟩::R)∧c.size≤1000∧∀ c0:ByteArray,validD c0.data.toList=true→c0.size≤1024→s=colT c0→c=c0):=by
 refine Kbv ?_
 have cx:=cx0
 have h2:=cx0.oneS
 refine K0 ?_
 refine Hc ?_;intro b3 w cx hb3 hw3
 refine H2c ?_;intro b6 w cx hb6 hw6
 refine K2 ?_
 refine H2d ?_;intro q23 w cx hw23 hp23
 subst hp23
 refine Ka ?_
 refine K3u ?_
 refine Kfe ?_
 refine SS ?_
 refine c_split rfl (fun hc52=>?_) (fun hc52=>?_)
 ·
  try simp only [bsl] at hc52
  refine K1 ?_
  refine s_fn cx (c112 (Lib.cut s [32]).2.1 _ (by have:=cut_le s;omega)) Tryz.func112 rfl rfl rfl rfl rfl rfl ?_;intro q55 w cx hw55 hp55
  obtain ⟨cells,e55,c,rfl,⟨i1,b1,b2,s1,i2,i3,i4,i5,i6,bb,ll,ff,rfl,ho1,ho2,ho3⟩,hcl,hcx⟩:=hp55
  refine K1 ?_
  refine Hx ?_;intro b15 w cx hb15 hw15
  refine H2f ?_;intro w cx hwS11
  refine K2 ?_
  refine K5k ?_
  refine s_val rfl rfl (v_load1 rfl rfl Tryz.underlying33 rfl (cx.cell 2 rfl rfl)) ?_
  refine K5u ?_
  refine Ha ?_;intro b62 w cx hb62 hw62
  refine Hb ?_;intro v63 w cx hgr63
  replace cx:=cx.drop 1
  refine K5k ?_
  refine s_store1 (v:=v63) cx 2 rfl rfl rfl rfl rfl cx.oneS rfl rfl sz33 ?_;intro w cx hwS12
  refine K1 ?_
  refine s_val rfl rfl (v_load rfl rfl Tryz.underlying35 rfl sz35 (cx.row 2 rfl) rfl) ?_
  refine s_storeAll cx 1 rfl rfl rfl rfl rfl rfl sz35 rfl (one5 h1 cx.oneS) ?_;intro w cx hwS13
  refine K0 ?_
  refine ret_cell Tryz.results59 rfl (cx.at 1 rfl) Tryz.underlying35 rfl sz35 ?_
  refine ⟨v63,c,rfl,cx.drop 3,hcl,fun c0 hv0 hc0 h=>?_⟩
  exact hcx c0 hv0 hc0 (by rw [h,col_cut])
 exact absurd hc52 (by simp [hw])
theorem c59e (wb w0:World)(f0 f1 f2:Int)(ve vc:Value)(s:List UInt8)(n:Nat)(xs:List Value)(L:List (Nat×Obj))(R:List Row)(cx0:Cxr wb w0 L (⟨52,3,ve,n,xs⟩::R))(h2:vc.oneCell'=true)(hn:n≤1048576)(hs:s.length≤1000)(hw:(Lib.cut s [32]).1≠[99,111,108,117,109,110]):Ret Tryz.prog 59 [.agg ([.int .i64 f0,.int .i64 f1,.int .i64 f2,ve,vc]:List Value).toArray,.string (bs s),.bool false] w0 (fun v w'=>∃ (ve' p:Value) (e:Ent),v=.agg ([.int .i64 f0,.int .i64 f1,.int .i64 f2,ve',vc]:List Value).toArray∧Cxr wb w' L (⟨52,3,ve',n+1,xs++erow p e⟩::prow 107 p e::R)∧e.path.length≤48∧∀ e0:Ent,GdP e0.path→0<e0.path.length→0≤e0.fr→e0.fr≤1048576→0≤e0.to→e0.to≤1048576→s=entT e0→e=e0):=by
 refine Kbv ?_
 have cx:=cx0
 refine K0 ?_
 refine Hc ?_;intro b3 w cx hb3 hw3
 refine H2c ?_;intro b6 w cx hb6 hw6
 refine K2 ?_
 refine H2d ?_;intro q23 w cx hw23 hp23
 subst hp23
 refine Ka ?_
 refine K3u ?_
 refine Kfe ?_
 refine SS ?_
 refine c_split rfl (fun hc52=>?_) (fun hc52=>?_)
 ·
  exact absurd hc52 (by simp [hw])
 try simp only [bsl] at hc52
 refine K2 ?_
 refine H2e ?_;intro q68 w cx hw68 hp68
 subst hp68
 refine K7 ?_
 have cxB:=cx
 refine s_fn cx (c113 (Lib.cut (Lib.cut s [32]).2.1 [32]).2.1 _ pdq) Tryz.func113 rfl rfl rfl rfl rfl rfl ?_;intro q73 w cx hw73 hp73
 obtain ⟨pv,l,e73,rfl,hrow,hl48,hkey,hlx⟩:=hp73
 replace cx:=cxB.callRow hw73 hrow
 obtain ⟨a73,c73,rfl⟩:=cx.rowSl
 replace cx:=cx.swapR
 refine K5 ?_
 refine w_ord cx (cx.noR.pick1 1 rfl) mixed [(0,76),(1,77),(2,78),(3,79),(5,81)] #[true,true,true,true,false,true,false,false,false,false,false,false,false] p1q p1q p1q p1q ?_
 refine pu_one rfl (wnt_none rfl) (fun w cx=>v_fa fa35_3 rfl rfl) ?_
 refine pu_one rfl (wnt_none rfl) (fun w cx=>v_load1 rfl rfl Tryz.underlying32 rfl (cx.cell 0 rfl rfl)) ?_
 refine Kz ?_
 refine Kz ?_
 refine Kz ?_
 refine Hv ?_;intro w cx hwD16
 refine K7l ?_
 refine s_fn cx (c111 (Lib.cut s [32]).1 _ (by have:=cut_le s;omega)) Tryz.func111 rfl rfl rfl rfl rfl rfl ?_;intro q80 w cx hw80 hp80
 subst hp80
 refine x_next ⟨.inl p17q,?_⟩
 refine K32 ?_
 refine s_fn cx (c111 (Lib.cut (Lib.cut s [32]).2.1 [32]).1 _ pdq) Tryz.func111 rfl rfl rfl rfl rfl rfl ?_;intro q82 w cx hw82 hp82
 subst hp82
 refine x_next ⟨.inl p17q,?_⟩
 refine K1s ?_
 refine s_val rfl rfl (v_build (qs:=[(0,.int .i64 (numR (Lib.cut s [32]).1)),(1,.int .i64 (numR (Lib.cut (Lib.cut s [32]).2.1 [32]).1))]) (bdS48 _ _) rfl rfl) ?_
 refine x_next ⟨.inl p17q,?_⟩
 refine K1h ?_
 refine s_val rfl rfl (v_build (qs:=[(0,.slice a73 l.length c73),(1,.agg #[.int .i64 (numR (Lib.cut s [32]).1),.int .i64 (numR (Lib.cut (Lib.cut s [32]).2.1 [32]).1)])]) (bdE52 a73 l.length c73 _ _) rfl rfl) ?_
 refine x_next ⟨.inl p17q,?_⟩
 refine K1c ?_
 refine H2a ?_;intro b85 w cx hb85 hw85
 refine x_next ⟨.inl p17q,?_⟩
 refine K1r ?_
 refine H2b ?_;intro v86 w cx hgr86
 replace cx:=cx.drop 1
 refine K6u ?_
 refine K5l ?_
 refine Kg ?_
 refine K3d ?_
 refine s_store1 (v:=v86) cx 1 rfl rfl rfl rfl rfl cx.oneS rfl rfl sz32 ?_;intro w cx hwS16
 refine K5t ?_
 refine K0 ?_
 refine Kfc ?_
 refine s_storeAll cx 0 rfl rfl rfl rfl rfl rfl sz35 rfl (one5 cx.oneS h2) ?_;intro w cx hwS17
 refine K0 ?_
 refine Kfd ?_
 refine ⟨v86,.slice a73 l.length c73,⟨l,numR (Lib.cut s [32]).1,numR (Lib.cut (Lib.cut s [32]).2.1 [32]).1⟩,rfl,cx.drop 2,hl48,fun e0 g1 g2 g3 g4 g5 g6 h=>?_⟩
 have hc1:=ent_cut (e:=e0) g3
 have hc2:=cut1_hit (itoa e0.to) (pathT e0.path) 32 (itoa_32 g5)
 obtain ⟨pp,ff,tt⟩:=e0
 simp only at hc1 hc2 g1 g2 g3 g4 g5 g6
 rw [h,hc1] at hlx ⊢
 simp only at hlx ⊢
 rw [hc2] at hlx ⊢
 simp only at hlx ⊢
 obtain ⟨rfl,_⟩:=hlx pp g1 g2 rfl
 rw [numR_itoa g3 g4,numR_itoa g5 g6]
end Go.Proofs.YthiafbkolhnadaaGreatDoor
end
section
namespace Go.Proofs.YthiafbkolhnadaaGreatDoor
open Go Go.Dk Go.RowKit Go.Lib
attribute [local irreducible] Go.wpList Go.Code.wp Go.bodyPost Go.wpStill
theorem c39 (v:Value)(l:List ByteArray)(w0:World)(hv:Cls w0 v l)(ht:Tabs w0)(hl:l.length≤140737488355328)(hsz:∀ c∈l,c.size≤1073741824):Fc Tryz.prog 39 [v] w0 (IsI fun m=>m=colsE l):=by
 obtain ⟨a,c,b,o,rfl,ha,hr⟩:=hv.form
 refine ret_enter Tryz.func39 rfl Tryz.ntmps39 rfl ?_
 have cx:=Ctx.start w0
 refine Ko ?_
 refine w_loop (fun k f w1=>∃ i:Nat,k+i=l.length∧f 0=.slice a l.length c∧f 8=.slice a l.length c∧f 9=.int .i64 l.length∧f 10=.int .i64 i∧(∀ x∈l.take i,¬ colBad x)∧Ctx w0 w1 []) (l.length) ?_ ?_
 ·
  exact ⟨0,by omega,rfl,rfl,rfl,rfl,by simp,cx⟩
 intro gk2 f w hJ
 obtain ⟨i,hk,hs0,hs8,hs9,hs10,hall,cx⟩:=hJ
 refine K0 ?_
 refine Kap ?_
 refine K0 ?_
 refine cSp rfl (fun hc11=>?_) (fun hc11=>?_)
 ·
  obtain ⟨x,hx⟩:∃ x,l[i]?=some x:=⟨l[i]'(by omega),List.getElem?_eq_getElem _⟩
  have hrw:=hr i x hx
  obtain rfl:=ha (by omega)
  refine K3 ?_
  refine s_val rfl rfl (v_ia Tryz.underlying33 sz9 rfl hs8 hs10 (by omega) (by omega)) ?_
  refine K4d ?_
  refine K3 ?_
  refine s_fnB cx (c91 x _ (ht.up cx.ext) (by have:=hsz x (List.mem_of_getElem? hx);omega)) Tryz.func91 rfl rfl rfl rfl rfl rfl ?_;intro q15 w cx hw15 hp15
  refine K1 ?_
  refine K65 ?_
  refine cSp rfl (fun hc21=>?_) (fun hc21=>?_)
  ·
   have hb:colBad x:=by
    unfold colBad
    rcases hc21 with h | h
    · left;rw [← hp15];exact h
    · right;omega
   refine K3 ?_
   refine ret_tmp Tryz.results39 rfl ?_
   refine Kq ?_
   exact (colsE_1 hx hb).symm
  have hcB:validD x.data.toList=true∧x.size≤1024:=by
   refine ⟨?_,by omega⟩
   rw [← hp15]
   exact hc21.1
  refine K0 ?_
  refine K8h ?_
  refine K0 ?_
  refine ⟨gk2-1,_,by omega,rfl,i+1,by omega,hs0,hs8,hs9,rfl,fun y hy=>?_,cx⟩
  exact Bz131
 have hi0:i=l.length:=by omega
 subst hi0
 rw [List.take_length] at hall
 refine K1 ?_
 refine s_makeMap cx rfl rfl rfl ?_;intro b23 w cx hb23 hw23
 refine K19 ?_
 refine K2 ?_
 refine w_loop (fun k f w1=>∃ (i b23:Nat),k+i=l.length∧f 5=.map (some b23)∧f 24=.slice a l.length c∧f 25=.int .i64 l.length∧f 26=.int .i64 i∧(l.take i).Nodup∧Ctx w0 w1 [(b23,.map (ents (l.take i) tt 0).toArray (l.take i).length)]) (l.length) ?_ ?_
 ·
  exact ⟨0,b23,by omega,rfl,rfl,rfl,rfl,by simp,cx⟩
 intro gk9 f w hJ
 obtain ⟨i,b23,hk,hs5,hs24,hs25,hs26,hnod,cx⟩:=hJ
 refine K0 ?_
 refine s_val rfl rfl (v_cmp rfl hs26 hs25 rfl) ?_
 refine K0 ?_
 refine cSp rfl (fun hc27=>?_) (fun hc27=>?_)
 ·
  obtain ⟨x,hx⟩:∃ x,l[i]?=some x:=⟨l[i]'(by omega),List.getElem?_eq_getElem _⟩
  have hrw:=hr i x hx
  obtain rfl:=ha (by omega)
  refine K3 ?_
  refine s_val rfl rfl (v_ia Tryz.underlying33 sz9 rfl hs24 hs26 (by omega) (by omega)) ?_
  refine K4d ?_
  refine K3 ?_
  refine K3a ?_
  refine s_val rfl rfl (v_lookupT rfl rfl rfl Tryz.underlying102 Tryz.underlying9 (Tryz.zeroValue4 _) (cx.at 0 rfl)) ?_
  refine SS ?_
  refine cSp rfl (fun hc32=>?_) (fun hc32=>?_)
  ·
   refine K3 ?_
   refine ret_tmp Tryz.results39 rfl ?_
   refine Kq ?_
   exact (colsE_8 hall hx (hasK_iff.1 hc32)).symm
  refine K37 ?_
  refine SS ?_
  refine s_mapSetT cx 0 rfl rfl rfl rfl rfl rfl Tryz.underlying102 Tryz.underlying9 hnod rfl hc32 ?_;intro w cx hgr13
  refine K0 ?_
  refine s_val rfl rfl (v_add rfl hs26 rfl (by omega) (by omega)) ?_
  refine K0 ?_
  have hnm:=hasK_F hc32
  refine ⟨gk9-1,_,by omega,rfl,i+1,b23,by omega,hs5,hs24,hs25,rfl,nodup_snoc hnod hx hnm,?_⟩
  rw [take_snoc hx]
  exact cx
 refine K4 ?_
 refine ret_tmp Tryz.results39 rfl ?_
 exact Bz135
theorem c42 (v:Value)(l:List ByteArray)(w0:World)(hv:Cls w0 v l)(hl:l.length≤140737488355328)(hsz:∀ c∈l,c.size≤1073741824):Fc Tryz.prog 42 [v] w0 (IsI fun m=>m=colsE l):=by
 obtain ⟨a,c,b,o,rfl,ha,hr⟩:=hv.form
 refine ret_enter Tryz.func42 rfl Tryz.ntmps42 rfl ?_
 have cx:=Ctx.start w0
 refine K8 ?_
 refine w_loop (fun k f w1=>∃ i:Nat,k+i=l.length∧f 0=.slice a l.length c∧f 3=.int .i64 i∧(∀ x∈l.take i,¬ colBad x)∧Ctx w0 w1 []) (l.length) ?_ ?_
 ·
  exact Ez8
 intro gk2 f w hJ
 obtain ⟨i,hk,hs0,hs3,hall,cx⟩:=hJ
 refine K10 ?_
 refine K1n ?_
 refine cSp rfl (fun hc9=>?_) (fun hc9=>?_)
 ·
  obtain ⟨x,hx⟩:∃ x,l[i]?=some x:=⟨l[i]'(by omega),List.getElem?_eq_getElem _⟩
  have hrw:=hr i x hx
  obtain rfl:=ha (by omega)
  refine K19 ?_
  refine Kr ?_
  refine K5m ?_
  refine K4d ?_
  refine s_fnB cx (c44 x _ (by have:=hsz x (List.mem_of_getElem? hx);omega)) Tryz.func44 rfl rfl rfl rfl rfl rfl ?_;intro q16 w cx hw16 hp16
  refine K0 ?_
  refine K28 ?_
  refine s_gval rfl rfl rfl wF (fun hc=>v_ia Tryz.underlying33 sz9 rfl gX gX p0q p0q) ?_
  refine s_gval rfl rfl rfl wF (fun hc=>v_load1 rfl gX Tryz.underlying9 rfl ((hrw.up cx.ext).cell 0 rfl)) ?_
  refine K65 ?_
  refine cSp rfl (fun hc25=>?_) (fun hc25=>?_)
  ·
   have hb:colBad x:=by
    unfold colBad
    rcases hc25 with h | h
    · left;rw [← hp16];exact h
    · right;omega
   refine K3 ?_
   refine ret_tmp Tryz.results42 rfl ?_
   refine Kq ?_
   exact (colsE_1 hx hb).symm
  have hcB:validD x.data.toList=true∧x.size≤1024:=by
   refine ⟨?_,by omega⟩
   rw [← hp16]
   exact hc25.1
  refine K68 ?_
  refine ⟨gk2-1,_,by omega,rfl,i+1,by omega,hs0,rfl,fun y hy=>?_,cx⟩
  exact Bz131
 have hi0:i=l.length:=by omega
 subst hi0
 rw [List.take_length] at hall
 refine K5 ?_
 refine w_loop (fun k f w1=>∃ i:Nat,k+i=l.length∧f 0=.slice a l.length c∧f 4=.int .i64 i∧(l.take i).Nodup∧Ctx w0 w1 []) (l.length) ?_ ?_
 ·
  exact ⟨0,by omega,hs0,rfl,by simp,cx⟩
 intro gk7 f w hJ
 obtain ⟨i,hk,hs0,hs4,hnod,cx⟩:=hJ
 refine K4n ?_
 refine cSp rfl (fun hc29=>?_) (fun hc29=>?_)
 ·
  obtain ⟨x,hx⟩:∃ x,l[i]?=some x:=⟨l[i]'(by omega),List.getElem?_eq_getElem _⟩
  have hrw:=hr i x hx
  obtain rfl:=ha (by omega)
  refine K6 ?_
  refine w_loop (fun k f w1=>∃ j:Nat,k+j=i∧f 0=.slice (some ⟨b,o,none⟩) l.length c∧f 4=.int .i64 i∧f 5=.int .i64 j∧(∀ (n:Nat) y,n<j→l[n]?=some y→x≠y)∧Ctx w0 w1 []) (i) ?_ ?_
  ·
   exact ⟨0,by omega,hs0,hs4,rfl,fun n y h=>by omega,cx⟩
  intro gk10 f w hJ
  obtain ⟨j,hkj,hs0,hs4,hs5,hne,cx⟩:=hJ
  refine Kf ?_
  refine K6d ?_
  refine cSp rfl (fun hc34=>?_) (fun hc34=>?_)
  ·
   obtain ⟨y,hy⟩:∃ y,l[j]?=some y:=⟨l[j]'(by omega),List.getElem?_eq_getElem _⟩
   have hrw2:=hr j y hy
   refine K2 ?_
   refine w_still cx mixed p1q ?_;intro w cx hwD12
   refine K6y ?_
   refine t_val rfl rfl (v_move rfl hs4) ?_
   refine Kff ?_
   refine Kdp ?_
   refine K6y ?_
   refine K83 ?_
   refine Kff ?_
   refine t_val rfl rfl (v_load1 rfl rfl Tryz.underlying9 rfl ((hrw2.up cx.ext).cell 0 rfl)) ?_
   refine t_val rfl rfl (v_strEq rfl rfl rfl) ?_
   refine t_nil ?_
   refine cSp rfl (fun hc45=>?_) (fun hc45=>?_)
   ·
    refine K3 ?_
    refine ret_tmp Tryz.results42 rfl ?_
    refine Kq ?_
    refine (colsE_8 hall hx ?_).symm
    rw [hc45]
    exact List.mem_of_getElem? (i:=j) (by rw [List.getElem?_take,if_pos (by omega)];exact hy)
   refine K60 ?_
   refine ⟨gk10-1,_,by omega,rfl,j+1,by omega,hs0,hs4,rfl,fun n z hn hz=>?_,cx⟩
   rcases Nat.lt_or_ge n j with h | h
   · exact hne n z h hz
   · obtain rfl:n=j:=by omega
     rw [hy] at hz;cases hz
     exact hc45
  refine K26 ?_
  have hnm:x∉l.take i:=fun hm=>by
   obtain ⟨n,hn⟩:=List.getElem?_of_mem hm
   rw [List.getElem?_take] at hn
   split at hn
   · exact hne n x (by omega) hn rfl
   · cases hn
  refine ⟨gk7-1,_,by omega,rfl,i+1,by omega,hs0,rfl,nodup_snoc hnod hx hnm,cx⟩
 refine K4 ?_
 refine ret_tmp Tryz.results42 rfl ?_
 exact Bz135
end Go.Proofs.YthiafbkolhnadaaGreatDoor
end
section
namespace Go.Proofs.YthiafbkolhnadaaGreatDoor
open Go Go.Dk Go.RowKit Go.Lib
attribute [local irreducible] Go.wpList Go.Code.wp Go.bodyPost Go.wpStill Go.wpQuiet
structure Szd (x:Idx):Prop where
 el:x.ents.length≤1048576
 cl:x.cols.length≤1048576
 csz:∀ c∈x.cols,c.size≤1073741824
 pl:∀ e∈x.ents,e.path.length≤1048576
noncomputable def keysT (l:List Ent):List ByteArray:=l.map fun y=>bs (pathT y.path)
theorem keysT_snoc {l:List Ent}{i:Nat}{e:Ent}(h:l[i]?=some e):keysT (l.take (i+1))=keysT (l.take i)++[bs (pathT e.path)]:=by
 unfold keysT
 rw [take_snoc h,List.map_append]
 rfl
theorem nodup_keys {l:List ByteArray}{k:ByteArray}(hn:l.Nodup)(h:k∉l):(l++[k]).Nodup:=by
 refine List.nodup_append.2 ⟨hn,by simp,?_⟩
 intro a ha b hb hab
 obtain rfl:=List.mem_singleton.1 hb
 exact h (hab▸ha)
theorem c13 (r:List Value)(x:Idx)(w0:World)(hx:IdxV w0 x r)(ht:Tabs w0)(hs:Szd x):Fc Tryz.prog 13 [.agg r.toArray] w0 (IsI fun m=>m=chkX x):=by
 obtain ⟨ve,vc,rfl,hE,hC⟩:=hx
 obtain ⟨a,c,b,o,rfl,ha,hr⟩:=hE.form
 obtain ⟨a2,c2,b2,o2,rfl,_,_⟩:=hC.form
 refine ret_enter Tryz.func13 rfl Tryz.ntmps13 rfl ?_
 have cx:=Ctx.start w0
 refine K0 ?_
 refine Hc ?_;intro b1 w cx hb1 hw1
 refine K3 ?_
 refine K2m ?_
 refine K2a ?_
 refine s_gval rfl rfl rfl wT (fun hc=>v_fa fa35_0 rfl gX) ?_
 refine K23 ?_
 refine K1 ?_
 refine K5n ?_
 refine Ki ?_
 refine K5n ?_
 refine Ki ?_
 refine K5o ?_
 refine Ki ?_
 refine K5o ?_
 refine Ki ?_
 refine s_gval rfl rfl rfl wF (fun hc=>v_fa fa35_0 rfl gX) ?_
 refine K6m ?_
 refine s_gval rfl rfl rfl wT (fun hc=>v_fa fa35_4 rfl gX) ?_
 refine Kfg ?_
 refine Kfh ?_
 refine K2 ?_
 refine cSp rfl (fun hc47=>?_) (fun hc47=>?_)
 ·
  have hh:hdrBad x:=by unfold hdrBad;omega
  refine K3 ?_
  refine K5p ?_
  refine Kq ?_
  exact (chkX_1 hh).symm
 have hh:¬ hdrBad x:=by unfold hdrBad;omega
 refine K2 ?_
 refine K5k ?_
 refine Ka5 ?_
 refine s_fnI cx (c39 _ _ _ (hC.up cx.ext) (ht.up cx.ext) (by have:=hs.cl;omega) hs.csz) Tryz.func39 rfl rfl rfl rfl rfl rfl ?_;intro q50 w cx hw50 hp50
 subst hp50
 refine K5 ?_
 refine cSp rfl (fun hc52=>?_) (fun hc52=>?_)
 ·
  refine K4 ?_
  refine K5p ?_
  refine Kq ?_
  exact (chkX_c hh hc52).symm
 have hce:=hc52
 refine K1 ?_
 refine s_makeMap cx rfl rfl rfl ?_;intro b54 w cx hb54 hw54
 refine K7 ?_
 refine K5l ?_
 refine Kbw ?_
 refine K7t ?_
 refine K1 ?_
 have hel:=hs.el
 refine w_loop (fun k f w1=>∃ (i b54 b1:Nat),k+i=x.ents.length∧f 1=.pointer (some ⟨b1,0,none⟩)∧f 4=.map (some b54)∧f 5=.int .i64 (lastF (x.ents.take i))∧f 56=.slice a x.ents.length c∧f 57=.int .i64 x.ents.length∧f 58=.int .i64 i∧Past x x.ents i∧(keysT (x.ents.take i)).Nodup∧Ctx w0 w1 [(b54,.map (ents (keysT (x.ents.take i)) tt 0).toArray (keysT (x.ents.take i)).length),(b1,.cells ([.int .i64 x.fmt,.int .i64 x.size,.int .i64 x.depth,.slice a x.ents.length c,.slice a2 x.cols.length c2]:List Value).toArray 35)]) (x.ents.length) ?_ ?_
 ·
  exact ⟨0,b54,b1,by omega,rfl,rfl,rfl,rfl,rfl,rfl,Past.zero _ _,by simp [keysT],cx⟩
 intro gk9 f w hJ
 obtain ⟨i,b54,b1,hk,hs1,hs4,hs5,hs56,hs57,hs58,hpast,hnod,cx⟩:=hJ
 refine K0 ?_
 refine s_val rfl rfl (v_cmp rfl hs58 hs57 rfl) ?_
 refine K0 ?_
 refine cSp rfl (fun hc59=>?_) (fun hc59=>?_)
 ·
  obtain ⟨e,he⟩:∃ e,x.ents[i]?=some e:=⟨x.ents[i]'(by omega),List.getElem?_eq_getElem _⟩
  obtain ⟨p,hrw,hp⟩:=hr i e he
  obtain ⟨pa,pc,rfl,hpc⟩:=hp.sl
  obtain rfl:=ha (by omega)
  have hpl:=hs.pl e (List.mem_of_getElem? he)
  refine K3 ?_
  refine s_val rfl rfl (v_ia Tryz.underlying32 sz52 rfl hs56 hs58 (by omega) (by omega)) ?_
  refine Kbx ?_
  refine s_alloc cx z52 rfl rfl rfl ?_;intro b7 w cx hb7 hw7
  refine H2g ?_;intro w cx hwS10
  refine K2 ?_
  refine Ka6 ?_
  refine Kfi ?_
  refine s_fnB cx (c40 _ _ _ (hp.up cx.ext) (by omega)) Tryz.func40 rfl rfl rfl rfl rfl rfl ?_;intro q64 w cx hw64 hp64
  refine K0 ?_
  refine s_gval rfl rfl rfl wF (fun hc=>v_fa fa52_0 rfl gX) ?_
  refine Kfj ?_
  refine K7b ?_
  refine K1 ?_
  refine s_gval rfl rfl rfl wF (fun hc=>v_fa fa52_0 rfl gX) ?_
  refine Kfj ?_
  refine K7b ?_
  refine s_gval rfl rfl rfl wF (fun hc=>v_fa fa35_2 rfl hs1) ?_
  refine Kby ?_
  refine K1 ?_
  refine s_gval rfl rfl rfl wF (fun hc=>v_fa fa35_0 rfl hs1) ?_
  refine Kby ?_
  refine K0 ?_
  refine s_gval rfl rfl rfl wT (fun hc=>v_fa fa52_0 rfl gX) ?_
  refine s_gval rfl rfl rfl wT (fun hc=>v_load1 rfl gX Tryz.underlying28 rfl (cx.cell 0 rfl rfl)) ?_
  refine K8j ?_
  refine K2 ?_
  refine cSp rfl (fun hc90=>?_) (fun hc90=>?_)
  ·
   have hbd:pthBad x e:=by
    unfold pthBad
    rcases hc90 with ((h | h) | h) | h
    · exact .inl fun hg=>by rw [hp64.2 hg] at h;cases h
    · exact .inr (.inl (by omega))
    · exact .inr (.inr (.inl (by omega)))
    · exact .inr (.inr (.inr (by omega)))
   refine K3 ?_
   refine K5p ?_
   exact Bz140
  have hgd:GdP e.path:=hp64.1 hc90.1.1.1
  have hnb:¬ pthBad x e:=by
   unfold pthBad
   rintro (h | h)
   · exact h hgd
   · omega
  refine K2 ?_
  refine Kg9 ?_
  refine K12 ?_
  refine K63 ?_
  refine Kbz ?_
  refine s_gval rfl rfl rfl wF (fun hc=>v_fa fa48_0 rfl gX) ?_
  refine K54 ?_
  refine Kbz ?_
  refine s_gval rfl rfl rfl wF (fun hc=>v_fa fa48_1 rfl gX) ?_
  refine Ki ?_
  refine Kbz ?_
  refine s_gval rfl rfl rfl wF (fun hc=>v_fa fa48_1 rfl gX) ?_
  refine K54 ?_
  refine s_gval rfl rfl rfl wF (fun hc=>v_fa fa35_1 rfl hs1) ?_
  refine Kby ?_
  refine K1 ?_
  refine cSp rfl (fun hc112=>?_) (fun hc112=>?_)
  ·
   have hbr:rngBad x (x.ents.take i) e:=by unfold rngBad;omega
   refine K3 ?_
   refine K5p ?_
   exact Bz138
  have hnr:¬ rngBad x (x.ents.take i) e:=by unfold rngBad;omega
  refine K1 ?_
  refine Kg9 ?_
  refine K12 ?_
  refine K2 ?_
  refine Ka6 ?_
  refine Kfi ?_
  refine H6 ?_;intro q118 w cx hw118 hp118
  subst hp118
  refine K3 ?_
  refine K22 ?_
  refine Kf0 ?_
  refine SS ?_
  refine cSp rfl (fun hc121=>?_) (fun hc121=>?_)
  ·
   refine K3 ?_
   refine K5p ?_
   refine Kq ?_
   show (8:Int)=chkX x
   rw [chkX_e hh hce]
   exact (entsE_at he hpast (entE_8 hnb hnr ((seen_iff hpast hgd).1 (hasK_iff.1 hc121))) (by decide)).symm
  have hnk:=hasK_F hc121
  have h0:entE x (x.ents.take i) e=0:=entE_0 hnb hnr fun h=>hnk ((seen_iff hpast hgd).2 h)
  refine K1i ?_
  refine SS ?_
  refine s_mapSetT cx 1 rfl rfl rfl rfl rfl rfl Tryz.underlying102 Tryz.underlying9 hnod rfl hc121 ?_;intro w cx hgr19
  refine K0 ?_
  refine s_val rfl rfl (v_add rfl hs58 rfl (by omega) (by omega)) ?_
  refine K0 ?_
  refine ⟨gk9-1,_,by omega,rfl,i+1,b54,b1,by omega,hs1,hs4,congrArg (Value.int .i64) (lastF_take he).symm,hs56,hs57,rfl,hpast.succ he h0,?_,?_⟩
  · rw [keysT_snoc he];exact nodup_keys hnod hnk
  · rw [keysT_snoc he];exact cx.drop 1
 refine K4 ?_
 refine K5p ?_
 exact Bz136
def spanB (a b n:Int):Bool:=decide (0≤a)&&decide (a≤b)&&decide (b≤n)
theorem spanB_T {a b n:Int}:spanB a b n=true↔0≤a∧a≤b∧b≤n:=by unfold spanB;simp [and_assoc]
theorem spanB_F {a b n:Int}:spanB a b n=false↔¬ (0≤a∧a≤b∧b≤n):=by rw [← spanB_T];simp
theorem c43e (a b n:Int)(w0:World):Fc Tryz.prog 43 [.agg #[.int .i64 a,.int .i64 b],.int .i64 n] w0 (fun v _=>v=.bool (spanB a b n)) :=
 (c43 a b n w0).mono fun v w' _ ⟨r,hv,hr⟩=>by
   rw [hv]
   congr 1
   rw [Bool.eq_iff_iff];exact hr.trans spanB_T.symm
theorem mem_take {α:Type}{l:List α}{i j:Nat}{y:α}(h:j<i)(hy:l[j]?=some y):y∈l.take i:=List.mem_of_getElem? (i:=j) (by rw [List.getElem?_take,if_pos h];exact hy)
theorem c14 (r:List Value)(x:Idx)(w0:World)(hx:IdxV w0 x r)(hs:Szd x):Fc Tryz.prog 14 [.agg r.toArray] w0 (IsI fun m=>m=chkX x):=by
 obtain ⟨ve,vc,rfl,hE,hC⟩:=hx
 obtain ⟨a,c,b,o,rfl,ha,hr⟩:=hE.form
 obtain ⟨a2,c2,b2,o2,rfl,_,_⟩:=hC.form
 refine ret_enter Tryz.func14 rfl Tryz.ntmps14 rfl ?_
 have cx:=Ctx.start w0
 refine K0 ?_
 refine Hc ?_;intro b1 w cx hb1 hw1
 refine K3 ?_
 refine K2m ?_
 refine K2a ?_
 refine s_gval rfl rfl rfl wT (fun hc=>v_fa fa35_0 rfl gX) ?_
 refine K23 ?_
 refine K1 ?_
 refine K5n ?_
 refine Ki ?_
 refine K5n ?_
 refine Ki ?_
 refine K5o ?_
 refine Ki ?_
 refine K5o ?_
 refine Ki ?_
 refine s_gval rfl rfl rfl wF (fun hc=>v_fa fa35_0 rfl gX) ?_
 refine K6m ?_
 refine s_gval rfl rfl rfl wT (fun hc=>v_fa fa35_4 rfl gX) ?_
 refine Kfg ?_
 refine Kfh ?_
 refine K2 ?_
 refine cSp rfl (fun hc45=>?_) (fun hc45=>?_)
 ·
  have hh:hdrBad x:=by unfold hdrBad;omega
  refine K3 ?_
  refine K5q ?_
  refine Kq ?_
  exact (chkX_1 hh).symm
 have hh:¬ hdrBad x:=by unfold hdrBad;omega
 refine K2 ?_
 refine K5k ?_
 refine Ka5 ?_
 refine s_fnI cx (c42 _ _ _ (hC.up cx.ext) (by have:=hs.cl;omega) hs.csz) Tryz.func42 rfl rfl rfl rfl rfl rfl ?_;intro q48 w cx hw48 hp48
 subst hp48
 refine K5 ?_
 refine cSp rfl (fun hc50=>?_) (fun hc50=>?_)
 ·
  refine K4 ?_
  refine K5q ?_
  refine Kq ?_
  exact (chkX_c hh hc50).symm
 have hce:=hc50
 refine K5 ?_
 have hel:=hs.el
 refine w_loop (fun k f w1=>∃ (i b1:Nat),k+i=x.ents.length∧f 1=.pointer (some ⟨b1,0,none⟩)∧f 4=.int .i64 i∧Past x x.ents i∧Ctx w0 w1 [(b1,.cells ([.int .i64 x.fmt,.int .i64 x.size,.int .i64 x.depth,.slice a x.ents.length c,.slice a2 x.cols.length c2]:List Value).toArray 35)]) (x.ents.length) ?_ ?_
 ·
  exact ⟨0,b1,by omega,rfl,rfl,Past.zero _ _,cx⟩
 intro gk7 f w hJ
 obtain ⟨i,b1,hk,hs1,hs4,hpast,cx⟩:=hJ
 refine Kl ?_
 refine K5r ?_
 refine K7u ?_
 refine K7t ?_
 refine K0 ?_
 refine cSp rfl (fun hc56=>?_) (fun hc56=>?_)
 ·
  obtain ⟨e,he⟩:∃ e,x.ents[i]?=some e:=⟨x.ents[i]'(by omega),List.getElem?_eq_getElem _⟩
  obtain ⟨p,hrw,hp⟩:=hr i e he
  obtain ⟨pa,pc,rfl,hpc⟩:=hp.sl
  obtain rfl:=ha (by omega)
  have hpl:=hs.pl e (List.mem_of_getElem? he)
  refine K3 ?_
  refine K5r ?_
  refine K7u ?_
  refine Ke ?_
  refine Kc0 ?_
  refine Ka6 ?_
  refine s_val rfl rfl (v_load1 rfl rfl Tryz.underlying28 rfl ((hrw.up cx.ext).cell 0 rfl)) ?_
  refine K4 ?_
  refine s_fnB cx (c15 _ _ _ (hp.up cx.ext) (by omega)) Tryz.func15 rfl rfl rfl rfl rfl rfl ?_;intro q66 w cx hw66 hp66
  refine K1 ?_
  refine K7b ?_
  refine K2 ?_
  refine K7b ?_
  refine s_gval rfl rfl rfl wF (fun hc=>v_fa fa35_2 rfl hs1) ?_
  refine Ki ?_
  refine s_gval rfl rfl rfl wF (fun hc=>v_fa fa35_0 rfl hs1) ?_
  refine Ki ?_
  refine K8j ?_
  refine K2 ?_
  refine cSp rfl (fun hc89=>?_) (fun hc89=>?_)
  ·
   have hbd:pthBad x e:=by
    unfold pthBad
    rcases hc89 with ((h | h) | h) | h
    · exact .inl fun hg=>by rw [hp66.2 hg] at h;cases h
    · exact .inr (.inl (by omega))
    · exact .inr (.inr (.inl (by omega)))
    · exact .inr (.inr (.inr (by omega)))
   refine K3 ?_
   refine K5q ?_
   exact Bz140
  have hgd:GdP e.path:=hp66.1 hc89.1.1.1
  have hnb:¬ pthBad x e:=by
   unfold pthBad
   rintro (h | h)
   · exact h hgd
   · omega
  obtain ⟨pv,hpv⟩:∃ pv:Ent,0<i→x.ents[i-1]?=some pv∧lastF (x.ents.take i)=pv.fr:=by
   rcases Nat.eq_zero_or_pos i with h | h
   · exact ⟨e,fun h'=>by omega⟩
   · have h1:x.ents[i-1]?=some (x.ents[i-1]'(by omega)):=List.getElem?_eq_getElem _
     refine ⟨_,fun _=>⟨h1,?_⟩⟩
     have:=lastF_take h1
     rwa [show i-1+1=i by omega] at this
  obtain ⟨pp,hrpv⟩:∃ pp,0<i→RowAt w0 b (o+((i:Int)-1).toNat*3) [pp,.int .i64 pv.fr,.int .i64 pv.to]:=by
   rcases Nat.eq_zero_or_pos i with h | h
   · exact ⟨undef,fun h'=>by omega⟩
   · obtain ⟨q,hq,_⟩:=hr (i-1) pv (hpv h).1
     refine ⟨q,fun _=>?_⟩
     rw [show ((i:Int)-1).toNat=i-1 by omega]
     exact hq
  have hl0:=hpast.last (by omega)
  have hlz:i=0→lastF (x.ents.take i)=0:=by rintro rfl;rfl
  refine K1 ?_
  refine K1l ?_
  refine q_val rfl rfl (fun w cx hwQ=>v_fa fa35_3 rfl hs1) ?_
  refine Kfk ?_
  refine K45 ?_
  refine Kc1 ?_
  refine K7v ?_
  refine Kfl ?_
  refine q_val rfl rfl (fun w cx hwQ=>v_fa fa35_1 rfl hs1) ?_
  refine K5s ?_
  refine q_call (v:=.bool (spanB _ _ _)) rfl rfl (runs_fn Tryz.func43 rfl rfl rfl (cons_eq rfl (cons_eq rfl rfl))) (fun w cx hwQ=>c43e _ _ _ _) ?_
  refine Kbu ?_
  refine Kj ?_
  refine q_gval rfl rfl rfl wF (fun hc w cx hwQ=>v_move rfl hs4) ?_
  refine Kb0 ?_
  refine K2z ?_
  refine q_gval rfl rfl rfl wT (fun hc w cx hwQ=>v_fa fa35_3 rfl hs1) ?_
  refine Kfm ?_
  refine q_gval rfl rfl rfl wT (fun hc w cx hwQ=>v_move rfl hs4) ?_
  refine Kfn ?_
  refine Kg2 ?_
  refine q_gval rfl rfl rfl wT (fun hc w cx hwQ=>v_load1 rfl gX Tryz.underlying3 rfl ((hrw.up cx.ext).cell 1 rfl)) ?_
  refine q_gval rfl rfl rfl wT (fun hc w cx hwQ=>v_fa fa35_3 rfl hs1) ?_
  refine Kfm ?_
  refine q_gval rfl rfl rfl wT (fun hc w cx hwQ=>v_move rfl hs4) ?_
  refine q_gval rfl rfl rfl wT (fun hc w cx hwQ=>v_sub rfl gX rfl p0q p0q) ?_
  refine Kfn ?_
  refine Kg2 ?_
  refine q_gval rfl rfl rfl wT (fun hc w cx hwQ=>v_load1 rfl gX Tryz.underlying3 rfl (((hrpv (by simp only [bsl] at hc;omega)).up cx.ext).cell 1 rfl)) ?_
  refine K8w ?_
  refine Kdb ?_
  refine K30 ?_
  refine q_nil ?_;rintro w ⟨cx,hwQ12⟩
  refine cSp rfl (fun hc121=>?_) (fun hc121=>?_)
  ·
   simp only [spanB_F,spanB_T] at hc121
   have hbr:rngBad x (x.ents.take i) e:=by
    exact Bz158
   refine K3 ?_
   refine K5q ?_
   exact Bz138
  simp only [spanB_F,spanB_T] at hc121
  have hnr:¬ rngBad x (x.ents.take i) e:=by
   exact Bz158
  refine K4 ?_
  refine w_loop (fun k f w1=>∃ (j b1:Nat),k+j=i∧f 1=.pointer (some ⟨b1,0,none⟩)∧f 4=.int .i64 i∧f 5=.slice pa e.path.length pc∧f 6=.int .i64 j∧(∀ (n:Nat) y,n<j→x.ents[n]?=some y→y.path≠e.path)∧Ctx w0 w1 [(b1,.cells ([.int .i64 x.fmt,.int .i64 x.size,.int .i64 x.depth,.slice (some ⟨b,o,none⟩) x.ents.length c,.slice a2 x.cols.length c2]:List Value).toArray 35)]) (i) ?_ ?_
  ·
   exact ⟨0,b1,by omega,hs1,hs4,rfl,rfl,fun n y h=>by omega,cx⟩
  intro gk15 f w hJ
  obtain ⟨j,b1,hkj,hs1,hs4,hs5,hs6,hne,cx⟩:=hJ
  refine K11 ?_
  refine K6d ?_
  refine cSp rfl (fun hc124=>?_) (fun hc124=>?_)
  ·
   obtain ⟨y,hy⟩:∃ y,x.ents[j]?=some y:=⟨x.ents[j]'(by omega),List.getElem?_eq_getElem _⟩
   obtain ⟨p2,hrw2,hp2⟩:=hr j y hy
   have hpl2:=hs.pl y (List.mem_of_getElem? hy)
   refine K3 ?_
   refine K5r ?_
   refine K7u ?_
   refine Kc ?_
   refine Kc0 ?_
   refine Ka6 ?_
   refine s_val rfl rfl (v_load1 rfl rfl Tryz.underlying28 rfl ((hrw2.up cx.ext).cell 0 rfl)) ?_
   refine Kh ?_
   refine s_fnB cx (c20 _ _ _ _ _ (hp2.up cx.ext) (hp.up cx.ext) (by omega) (by omega)) Tryz.func20 rfl rfl rfl rfl rfl rfl ?_;intro q134 w cx hw134 hp134
   refine SS ?_
   refine cSp rfl (fun hc134=>?_) (fun hc134=>?_)
   ·
    refine K3 ?_
    refine K5q ?_
    refine Kq ?_
    show (8:Int)=chkX x
    rw [chkX_e hh hce]
    exact (entsE_at he hpast (entE_8 hnb hnr ⟨y,mem_take (by omega) hy,hp134.1 hc134⟩) (by decide)).symm
   refine K6b ?_
   refine ⟨gk15-1,_,by omega,rfl,j+1,b1,by omega,hs1,hs4,hs5,rfl,fun n z hn hz hq=>?_,cx⟩
   rcases Nat.lt_or_ge n j with h | h
   · exact hne n z h hz hq
   · obtain rfl:n=j:=by omega
     rw [hy] at hz;cases hz
     rw [hp134.2 hq] at hc134;cases hc134
  refine K26 ?_
  have h0:entE x (x.ents.take i) e=0:=entE_0 hnb hnr (by
   rintro ⟨y,hm,hy⟩
   obtain ⟨n,hn⟩:=List.getElem?_of_mem hm
   rw [List.getElem?_take] at hn
   split at hn
   · exact hne n y (by omega) hn hy
   · cases hn)
  refine ⟨gk7-1,_,by omega,rfl,i+1,b1,by omega,hs1,rfl,hpast.succ he h0,cx⟩
 refine K4 ?_
 refine K5q ?_
 exact Bz136
theorem c49 (m:Int)(w:World)(h:m=1∨m=4):Fc Tryz.prog 49 [.int .i64 m] w fun v _=>v=.string (bs (nameT m)):=by
 rcases h with rfl | rfl
 · exact call_of nm1_k w
 · exact call_of nm4_k w
noncomputable def txtO (x:Idx):List UInt8:=if chkX x=0 then textX x else []
theorem txtO_0 {x:Idx}(h:chkX x=0):txtO x=textX x:=by unfold txtO;rw [if_pos h]
theorem txtO_n {x:Idx}(h:¬ chkX x=0):txtO x=[]:=by unfold txtO;rw [if_neg h]
theorem c22 (r:List Value)(x:Idx)(w0:World)(hx:IdxV w0 x r)(hs:Szd x):Fc Tryz.prog 22 [.agg r.toArray] w0 (fun v _=>v=.tuple #[.string (bs (txtO x)),.int .i64 (chkX x)]):=by
 have hX:=hx
 obtain ⟨ve,vc,rfl,hE,hC⟩:=hx
 obtain ⟨a,c,b,o,rfl,ha,hr⟩:=hE.form
 obtain ⟨a2,c2,b2,o2,rfl,ha2,hr2⟩:=hC.form
 have hel:=hs.el
 have hcl:=hs.cl
 refine ret_enter Tryz.func22 rfl Tryz.ntmps22 rfl ?_
 have cx:=Ctx.start w0
 refine K0 ?_
 refine Hc ?_;intro b1 w cx hb1 hw1
 refine K4 ?_
 refine Kc2 ?_
 refine s_fnI cx (c14 _ x _ (hX.up cx.ext) hs) Tryz.func14 rfl rfl rfl rfl rfl rfl ?_;intro q12 w cx hw12 hp12
 subst hp12
 refine K5 ?_
 refine cSp rfl (fun hc14=>?_) (fun hc14=>?_)
 ·
  refine K5 ?_
  refine ret_tmp2 Tryz.results22 rfl rfl ?_
  refine Kfo ?_
  exact (txtO_n hc14).symm
 have hchk:=hc14
 obtain ⟨hfm,hsz0,hsz1,hdp0,hdp1⟩:=chk_hdr hchk
 have hil1:=itoa_le hsz0 hsz1
 have hil2:=itoa_le (n:=x.depth) (by omega) (by omega)
 have hnl:(nameT x.fmt).length≤5:=by unfold nameT;split <;> simp
 have hhl:=hdrT_len hchk
 refine K2d ?_
 refine q_val rfl rfl (fun w cx hwQ=>v_fa fa35_0 rfl rfl) ?_
 refine K5s ?_
 refine q_call (v:=.string (bs (nameT x.fmt))) rfl rfl (runs_fn Tryz.func49 rfl rfl rfl (cons_eq rfl rfl)) (fun w cx hwQ=>c49 _ _ hfm) ?_
 refine q_val rfl rfl (fun w cx hwQ=>v_strAddB (a:=[105,110,100,101,120,32]) (b:=nameT x.fmt) rfl rfl rfl p3q) ?_
 refine q_val rfl rfl (fun w cx hwQ=>v_strAddB (a:=([105,110,100,101,120,32]++nameT x.fmt)) (b:=[32]) rfl rfl rfl p3q) ?_
 refine q_val rfl rfl (fun w cx hwQ=>v_fa fa35_1 rfl rfl) ?_
 refine K5s ?_
 refine Ka7 ?_
 refine q_val rfl rfl (fun w cx hwQ=>v_strAddB (a:=(([105,110,100,101,120,32]++nameT x.fmt)++[32])) (b:=itoa x.size) rfl rfl rfl p3q) ?_
 refine q_val rfl rfl (fun w cx hwQ=>v_strAddB (a:=((([105,110,100,101,120,32]++nameT x.fmt)++[32])++itoa x.size)) (b:=[32]) rfl rfl rfl p3q) ?_
 refine q_val rfl rfl (fun w cx hwQ=>v_fa fa35_2 rfl rfl) ?_
 refine K5s ?_
 refine Ka7 ?_
 refine q_val rfl rfl (fun w cx hwQ=>v_strAddB (a:=(((([105,110,100,101,120,32]++nameT x.fmt)++[32])++itoa x.size)++[32])) (b:=itoa x.depth) rfl rfl rfl p3q) ?_
 refine q_val rfl rfl (fun w cx hwQ=>v_strAddB (a:=((((([105,110,100,101,120,32]++nameT x.fmt)++[32])++itoa x.size)++[32])++itoa x.depth)) (b:=[10]) rfl rfl rfl p3q) ?_
 refine K2x ?_
 refine q_nil ?_;rintro w ⟨cx,hwQ4⟩
 refine K4 ?_
 refine w_loop (fun k f w1=>∃ (i b1:Nat),k+i=x.cols.length∧f 1=.pointer (some ⟨b1,0,none⟩)∧f 5=.string (bs (textC x i))∧f 6=.int .i64 i∧Ctx w0 w1 [(b1,.cells ([.int .i64 x.fmt,.int .i64 x.size,.int .i64 x.depth,.slice a x.ents.length c,.slice a2 x.cols.length c2]:List Value).toArray 35)]) (x.cols.length) ?_ ?_
 ·
  exact ⟨0,_,by omega,rfl,congrArg (fun l=>Value.string (bs l)) (textC_zero x).symm,rfl,cx⟩
 intro gk6 f w hJ
 obtain ⟨i,b1,hk,hs1,hs5,hs6,cx⟩:=hJ
 refine K11 ?_
 refine s_val rfl rfl (v_fa fa35_4 rfl hs1) ?_
 refine Ka5 ?_
 refine K1 ?_
 refine cSp rfl (fun hc35=>?_) (fun hc35=>?_)
 ·
  obtain ⟨y,hy⟩:∃ y,x.cols[i]?=some y:=⟨x.cols[i]'(by omega),List.getElem?_eq_getElem _⟩
  have hrw:=hr2 i y hy
  obtain rfl:=ha2 (by omega)
  obtain ⟨hyv,hyc⟩:=chk_cols hchk y (List.mem_of_getElem? hy)
  have hyl:=cqt_len hyc
  have htl:=textC_len hchk i (by omega)
  refine K3 ?_
  refine s_val rfl rfl (v_fa fa35_4 rfl hs1) ?_
  refine Ka5 ?_
  refine Kc ?_
  refine K5m ?_
  refine K4d ?_
  refine s_fn cx (c52 _ _) Tryz.func52 rfl rfl rfl rfl rfl rfl ?_;intro q44 w cx hw44 hp44
  subst hp44
  refine s_fn cx (c51 y _ hyv hyc) Tryz.func51 rfl rfl rfl rfl rfl rfl ?_;intro q45 w cx hw45 hp45
  subst hp45
  refine K5 ?_
  refine Kh ?_
  refine s_val rfl rfl (v_strAddB (a:=(textC x i)) (b:=[99,111,108,117,109,110,32]) rfl rfl rfl p3q) ?_
  refine SS ?_
  refine s_val rfl rfl (v_strAddB (a:=((textC x i)++[99,111,108,117,109,110,32])) (b:=cqt y) rfl rfl rfl p3q) ?_
  refine s_val rfl rfl (v_strAddB (a:=(((textC x i)++[99,111,108,117,109,110,32])++cqt y)) (b:=[10]) rfl rfl rfl p3q) ?_
  refine K6f ?_
  exact ⟨gk6-1,_,by omega,rfl,i+1,b1,by omega,hs1,congrArg (fun l=>Value.string (bs l)) (textC_succ hy).symm,rfl,cx⟩
 refine K5 ?_
 refine w_loop (fun k f w1=>∃ (i b1:Nat),k+i=x.ents.length∧f 1=.pointer (some ⟨b1,0,none⟩)∧f 5=.string (bs (textE x i))∧f 9=.int .i64 i∧Ctx w0 w1 [(b1,.cells ([.int .i64 x.fmt,.int .i64 x.size,.int .i64 x.depth,.slice a x.ents.length c,.slice a2 x.cols.length c2]:List Value).toArray 35)]) (x.ents.length) ?_ ?_
 ·
  have hi0:i=x.cols.length:=by omega
  subst hi0
  exact ⟨0,_,by omega,hs1,hs5.trans (congrArg (fun l=>Value.string (bs l)) (textE_zero x).symm),rfl,cx⟩
 intro gk11 f w hJ
 obtain ⟨i,b1,hk,hs1,hs5,hs9,cx⟩:=hJ
 refine K5w ?_
 refine K5r ?_
 refine K7u ?_
 refine K7t ?_
 refine K0 ?_
 refine cSp rfl (fun hc57=>?_) (fun hc57=>?_)
 ·
  obtain ⟨e,he⟩:∃ e,x.ents[i]?=some e:=⟨x.ents[i]'(by omega),List.getElem?_eq_getElem _⟩
  obtain ⟨p,hrw,hp⟩:=hr i e he
  obtain ⟨pa,pc,rfl,hpc⟩:=hp.sl
  obtain rfl:=ha (by omega)
  have hem:=List.mem_of_getElem? he
  obtain ⟨hgd,hgl⟩:=chk_good hchk e hem
  obtain ⟨hr0,hr1,hr3⟩:=chk_rng hchk e hem
  have hi1:=itoa_le (n:=e.fr) hr0 (by omega)
  have hi2:=itoa_le (n:=e.to) (by omega) (by omega)
  have hpl:=pathT_len' hgd
  have htl:=textE_len hchk i (by omega)
  refine K3 ?_
  refine K5r ?_
  refine K7u ?_
  refine K1v ?_
  refine Kc0 ?_
  refine Kbx ?_
  refine s_alloc cx z52 rfl rfl rfl ?_;intro b10 w cx hb10 hw10
  refine H2g ?_;intro w cx hwS13
  refine SS ?_
  refine K1l ?_
  refine K8u ?_
  refine K7v ?_
  refine q_val rfl rfl (fun w cx hwQ=>v_fa fa48_0 rfl rfl) ?_
  refine K5s ?_
  refine Ka7 ?_
  refine q_val rfl rfl (fun w cx hwQ=>v_strAddB (a:=(textE x i)) (b:=itoa e.fr) rfl rfl rfl p3q) ?_
  refine q_val rfl rfl (fun w cx hwQ=>v_strAddB (a:=((textE x i)++itoa e.fr)) (b:=[32]) rfl rfl rfl p3q) ?_
  refine K7v ?_
  refine q_val rfl rfl (fun w cx hwQ=>v_fa fa48_1 rfl rfl) ?_
  refine K5s ?_
  refine Ka7 ?_
  refine q_val rfl rfl (fun w cx hwQ=>v_strAddB (a:=(((textE x i)++itoa e.fr)++[32])) (b:=itoa e.to) rfl rfl rfl p3q) ?_
  refine q_val rfl rfl (fun w cx hwQ=>v_strAddB (a:=((((textE x i)++itoa e.fr)++[32])++itoa e.to)) (b:=[32]) rfl rfl rfl p3q) ?_
  refine q_val rfl rfl (fun w cx hwQ=>v_fa fa52_0 rfl rfl) ?_
  refine q_val rfl rfl (fun w cx hwQ=>v_load1 rfl rfl Tryz.underlying28 rfl (cx.cell 0 rfl rfl)) ?_
  refine q_call (v:=.string (bs (pathT e.path))) rfl rfl (runs_fn Tryz.func53 rfl rfl rfl (cons_eq rfl rfl)) (fun w cx hwQ=>c53 _ _ _ (hp.up cx.ext) (fun s hs=>(hgd.2 s hs).gds) hgd.1) ?_
  refine q_val rfl rfl (fun w cx hwQ=>v_strAddB (a:=(((((textE x i)++itoa e.fr)++[32])++itoa e.to)++[32])) (b:=pathT e.path) rfl rfl rfl p3q) ?_
  refine q_val rfl rfl (fun w cx hwQ=>v_strAddB (a:=((((((textE x i)++itoa e.fr)++[32])++itoa e.to)++[32])++pathT e.path)) (b:=[10]) rfl rfl rfl p3q) ?_
  refine K2x ?_
  refine q_nil ?_;rintro w ⟨cx,hwQ14⟩
  refine SS ?_
  refine K2o ?_
  exact ⟨gk11-1,_,by omega,rfl,i+1,b1,by omega,hs1,congrArg (fun l=>Value.string (bs l)) (textE_succ he).symm,rfl,cx.drop 1⟩
 refine Kf ?_
 refine K2 ?_
 refine ret_tmp2 Tryz.results22 rfl rfl ?_
 have hi:i=x.ents.length:=by omega
 subst hi
 refine K1x ?_
 rw [txtO_0 hchk,hchk]
 rfl
theorem c21 (r:List Value)(x:Idx)(w0:World)(hx:IdxV w0 x r)(ht:Tabs w0)(hs:Szd x):Fc Tryz.prog 21 [.agg r.toArray] w0 (fun v _=>v=.tuple #[.string (bs (txtO x)),.int .i64 (chkX x)]):=by
 have hX:=hx
 obtain ⟨ve,vc,rfl,hE,hC⟩:=hx
 obtain ⟨a,c,b,o,rfl,ha,hr⟩:=hE.form
 obtain ⟨a2,c2,b2,o2,rfl,ha2,hr2⟩:=hC.form
 have hel:=hs.el
 have hcl:=hs.cl
 refine ret_enter Tryz.func21 rfl Tryz.ntmps21 rfl ?_
 have cx:=Ctx.start w0
 refine K0 ?_
 refine Hc ?_;intro b1 w cx hb1 hw1
 refine K4 ?_
 refine Kc2 ?_
 refine s_fnI cx (c13 _ x _ (hX.up cx.ext) (ht.up cx.ext) hs) Tryz.func13 rfl rfl rfl rfl rfl rfl ?_;intro q14 w cx hw14 hp14
 subst hp14
 refine K5 ?_
 refine cSp rfl (fun hc16=>?_) (fun hc16=>?_)
 ·
  refine K5 ?_
  refine ret_tmp2 Tryz.results21 rfl rfl ?_
  refine Kfo ?_
  exact (txtO_n hc16).symm
 have hchk:=hc16
 obtain ⟨hfm,hsz0,hsz1,hdp0,hdp1⟩:=chk_hdr hchk
 have hil1:=itoa_le hsz0 hsz1
 have hil2:=itoa_le (n:=x.depth) (by omega) (by omega)
 have hnl:(nameT x.fmt).length≤5:=by unfold nameT;split <;> simp
 have hhl:=hdrT_len hchk
 refine K3 ?_
 refine w_cut (fun f w1=>∃ b1:Nat,f 1=.pointer (some ⟨b1,0,none⟩)∧f 5=.string (bs (nameT x.fmt))∧Ctx w0 w1 [(b1,.cells ([.int .i64 x.fmt,.int .i64 x.size,.int .i64 x.depth,.slice a x.ents.length c,.slice a2 x.cols.length c2]:List Value).toArray 35)]) ?_ ?_
 ·
  refine K0 ?_
  refine K2m ?_
  refine K2a ?_
  refine cSp rfl (fun hc20=>?_) (fun hc20=>?_)
  ·
   refine K1 ?_
   exact Bz71
  refine SS ?_
  exact Bz71
 intro f w hJ
 obtain ⟨b1,hs1,hs5,cx⟩:=hJ
 refine w_cut (fun f w1=>∃ (b1 g cap n:Nat) (cur:Array Value) (fz:Nat×Nat),f 1=.pointer (some ⟨b1,0,none⟩)∧f 6=.slice (some ⟨g,0,none⟩) n cap∧Ctx w0 w1 [(g,.cells cur 5 fz),(b1,.cells ([.int .i64 x.fmt,.int .i64 x.size,.int .i64 x.depth,.slice a x.ents.length c,.slice a2 x.cols.length c2]:List Value).toArray 35)]∧Outs cur fz n cap (hdrT x++[10])) ?_ ?_
 ·
  refine w_ord cx (cx.pick1 0 rfl) mixed [(0,21),(1,22),(2,23),(3,24),(4,25),(8,29),(9,30)] #[true,true,true,true,true,false,false,false,true,true,false,false,false,false,false] p1q p1q p1q p1q ?_
  refine Kc3 ?_
  refine pu_one rfl (wnt_none rfl) (fun w cx=>v_strAddB (a:=[105,110,100,101,120,32]) (b:=nameT x.fmt) rfl rfl rfl p3q) ?_
  refine pu_one rfl (wnt_none rfl) (fun w cx=>v_strAddB (a:=([105,110,100,101,120,32]++nameT x.fmt)) (b:=[32]) rfl rfl rfl p3q) ?_
  refine pu_one rfl (wnt_none rfl) (fun w cx=>v_fa fa35_1 rfl hs1) ?_
  refine K1z ?_
  refine pu_one rfl (wnt_none rfl) (fun w cx=>v_fa fa35_2 rfl hs1) ?_
  refine K1z ?_
  refine Hv ?_;intro w cx hwD7
  refine K31 ?_
  refine Hj ?_;intro q26 w cx hw26 hp26
  subst hp26
  refine Kd ?_
  refine x_two (i:=6) (j:=10) p1q rfl rfl ?_ ?_
  ·
   refine Kfp ?_
   refine Kd ?_
   refine x_two (i:=7) (j:=10) p1q rfl rfl ?_ ?_
   ·
    refine Kck ?_
    refine Kd ?_
    refine K1r ?_
    refine Hj ?_;intro q31 w cx hw31 hp31
    subst hp31
    exact Bz9
   refine Hj ?_;intro q31 w cx hw31 hp31
   subst hp31
   exact Bz174
  refine Hj ?_;intro q31 w cx hw31 hp31
  subst hp31
  refine Kd ?_
  refine K32 ?_
  refine Kfp ?_
  exact Bz174
 intro f w hJ
 obtain ⟨b1,g,cap,n,cur,fz,hs1,hs6,cx,hO⟩:=hJ
 refine K1 ?_
 refine s_val rfl rfl (v_fa fa35_4 rfl hs1) ?_
 refine Kfq ?_
 refine K2 ?_
 refine w_loop (fun k f w1=>∃ (i b1 g cap n:Nat) (cur:Array Value) (fz:Nat×Nat),k+i=x.cols.length∧f 1=.pointer (some ⟨b1,0,none⟩)∧f 6=.slice (some ⟨g,0,none⟩) n cap∧f 36=.slice a2 x.cols.length c2∧f 37=.int .i64 x.cols.length∧f 38=.int .i64 i∧Ctx w0 w1 [(g,.cells cur 5 fz),(b1,.cells ([.int .i64 x.fmt,.int .i64 x.size,.int .i64 x.depth,.slice a x.ents.length c,.slice a2 x.cols.length c2]:List Value).toArray 35)]∧Outs cur fz n cap (textC x i)) (x.cols.length) ?_ ?_
 ·
  exact ⟨0,b1,g,cap,n,cur,fz,by omega,hs1,hs6,rfl,rfl,rfl,cx,by rw [textC_zero];exact hO⟩
 intro gk9 f w hJ
 obtain ⟨i,b1,g,cap,n,cur,fz,hk,hs1,hs6,hs36,hs37,hs38,cx,hO⟩:=hJ
 have hOn:=hO.2.1
 refine K0 ?_
 refine Kbe ?_
 refine K0 ?_
 refine cSp rfl (fun hc39=>?_) (fun hc39=>?_)
 ·
  obtain ⟨y,hy⟩:∃ y,x.cols[i]?=some y:=⟨x.cols[i]'(by omega),List.getElem?_eq_getElem _⟩
  have hrw:=hr2 i y hy
  obtain rfl:=ha2 (by omega)
  obtain ⟨hyv,hyc⟩:=chk_cols hchk y (List.mem_of_getElem? hy)
  have hyl:=cqt_len hyc
  have htl:=textC_len hchk i (by omega)
  refine K3 ?_
  refine s_val rfl rfl (v_ia Tryz.underlying33 sz9 rfl hs36 hs38 (by omega) (by omega)) ?_
  refine K4d ?_
  refine K3 ?_
  refine s_val rfl rfl (v_build (qs:=[(0,.int .i64 4),(4,.string y)]) (bd83 y) rfl rfl) ?_
  refine s_fn cx (c48 y _ hyv hyc) Tryz.func48 rfl rfl rfl rfl rfl rfl ?_;intro q45 w cx hw45 hp45
  subst hp45
  refine K5 ?_
  refine Kc ?_
  refine SS ?_
  refine s_val rfl rfl (v_strAddB (a:=[99,111,108,117,109,110,32]) (b:=cqt y) rfl rfl rfl p3q) ?_
  refine s_val rfl rfl (v_strAddB (a:=([99,111,108,117,109,110,32]++cqt y)) (b:=[10]) rfl rfl rfl p3q) ?_
  refine H4 ?_;intro g52 cur52 fz52 cap52 w cx hO
  refine K1 ?_
  refine s_val rfl rfl (v_add rfl hs38 rfl (by omega) (by omega)) ?_
  refine K0 ?_
  exact ⟨gk9-1,_,by omega,rfl,i+1,b1,_,_,_,_,_,by omega,hs1,rfl,hs36,hs37,rfl,cx,by rw [textC_succ' hy];exact hO⟩
 refine K2 ?_
 refine K5r ?_
 refine Kbw ?_
 refine K7t ?_
 refine K1 ?_
 refine w_loop (fun k f w1=>∃ (i b1 g cap n:Nat) (cur:Array Value) (fz:Nat×Nat),k+i=x.ents.length∧f 1=.pointer (some ⟨b1,0,none⟩)∧f 6=.slice (some ⟨g,0,none⟩) n cap∧f 55=.slice a x.ents.length c∧f 56=.int .i64 x.ents.length∧f 57=.int .i64 i∧Ctx w0 w1 [(g,.cells cur 5 fz),(b1,.cells ([.int .i64 x.fmt,.int .i64 x.size,.int .i64 x.depth,.slice a x.ents.length c,.slice a2 x.cols.length c2]:List Value).toArray 35)]∧Outs cur fz n cap (textE x i)) (x.ents.length) ?_ ?_
 ·
  have hi0:i=x.cols.length:=by omega
  subst hi0
  exact ⟨0,b1,g,cap,n,cur,fz,by omega,hs1,hs6,rfl,rfl,rfl,cx,by rw [textE_zero];exact hO⟩
 intro gk15 f w hJ
 obtain ⟨i,b1,g,cap,n,cur,fz,hk,hs1,hs6,hs55,hs56,hs57,cx,hO⟩:=hJ
 have hOn:=hO.2.1
 refine K0 ?_
 refine s_val rfl rfl (v_cmp rfl hs57 hs56 rfl) ?_
 refine K0 ?_
 refine cSp rfl (fun hc58=>?_) (fun hc58=>?_)
 ·
  obtain ⟨e,he⟩:∃ e,x.ents[i]?=some e:=⟨x.ents[i]'(by omega),List.getElem?_eq_getElem _⟩
  obtain ⟨p,hrw,hp⟩:=hr i e he
  obtain ⟨pa,pc,rfl,hpc⟩:=hp.sl
  obtain rfl:=ha (by omega)
  have hem:=List.mem_of_getElem? he
  obtain ⟨hgd,hgl⟩:=chk_good hchk e hem
  obtain ⟨hr0,hr1,hr3⟩:=chk_rng hchk e hem
  have hi1:=itoa_le (n:=e.fr) hr0 (by omega)
  have hi2:=itoa_le (n:=e.to) (by omega) (by omega)
  have hpl:=pathT_len' hgd
  have htl:=textE_len hchk i (by omega)
  refine SS ?_
  refine w_cut (fun f w1=>∃ (b1 g cap n:Nat) (cur:Array Value) (fz:Nat×Nat),f 1=.pointer (some ⟨b1,0,none⟩)∧f 6=.slice (some ⟨g,0,none⟩) n cap∧f 55=.slice (some ⟨b,o,none⟩) x.ents.length c∧f 56=.int .i64 x.ents.length∧f 57=.int .i64 i∧Ctx w0 w1 [(g,.cells cur 5 fz),(b1,.cells ([.int .i64 x.fmt,.int .i64 x.size,.int .i64 x.depth,.slice (some ⟨b,o,none⟩) x.ents.length c,.slice a2 x.cols.length c2]:List Value).toArray 35)]∧Outs cur fz n cap (textE x (i+1))) ?_ ?_
  ·
   refine K1 ?_
   refine s_val rfl rfl (v_ia Tryz.underlying32 sz52 rfl hs55 hs57 (by omega) (by omega)) ?_
   refine Kbx ?_
   refine s_alloc cx z52 rfl rfl rfl ?_;intro b12 w cx hb12 hw12
   refine H2g ?_;intro w cx hwS16
   refine SS ?_
   refine w_ord cx (cx.pick1 0 rfl) mixed [(0,61),(1,62),(2,63),(3,64),(6,67),(7,68),(8,69),(12,73),(13,74)] #[true,true,true,true,false,false,true,true,true,false,false,false,true,true,false,false,false,false,false] p1q p1q p1q p1q ?_
   refine Ka8 ?_
   refine pu_one rfl (wnt_none rfl) (fun w cx=>v_fa fa52_1 rfl rfl) ?_
   refine pu_one rfl (wnt_none rfl) (fun w cx=>v_fa fa48_0 rfl rfl) ?_
   refine K1z ?_
   refine pu_one rfl (wnt_none rfl) (fun w cx=>v_fa fa52_1 rfl rfl) ?_
   refine pu_one rfl (wnt_none rfl) (fun w cx=>v_fa fa48_1 rfl rfl) ?_
   refine K1z ?_
   refine pu_one rfl (wnt_none rfl) (fun w cx=>v_fa fa52_0 rfl rfl) ?_
   refine pu_one rfl (wnt_none rfl) (fun w cx=>v_load1 rfl rfl Tryz.underlying28 rfl (cx.cell 0 rfl rfl)) ?_
   refine Hv ?_;intro w cx hwD17
   refine K7l ?_
   refine Hj ?_;intro q65 w cx hw65 hp65
   subst hp65
   refine Kd ?_
   refine x_two (i:=5) (j:=9) p1q rfl rfl ?_ ?_
   ·
    refine Kc4 ?_
    refine Kd ?_
    refine K1c ?_
    refine Hj ?_;intro q70 w cx hw70 hp70
    subst hp70
    exact Bz164
   refine Hj ?_;intro q70 w cx hw70 hp70
   subst hp70
   refine Kd ?_
   refine x_two (i:=5) (j:=14) p1q rfl rfl ?_ ?_
   ·
    refine Kc4 ?_
    exact Bz164
   refine H6 ?_;intro q75 w cx hw75 hp75
   subst hp75
   refine Kd ?_
   refine K31 ?_
   refine Kc4 ?_
   exact Bz200
  intro f w hJ
  obtain ⟨b1,g,cap,n,cur,fz,hs1,hs6,hs55,hs56,hs57,cx,hO⟩:=hJ
  refine SS ?_
  refine s_val rfl rfl (v_add rfl hs57 rfl (by omega) (by omega)) ?_
  refine K0 ?_
  exact ⟨gk15-1,_,by omega,rfl,i+1,b1,_,_,_,_,_,by omega,hs1,hs6,hs55,hs56,rfl,cx,hO⟩
 refine K11 ?_
 have hi:i=x.ents.length:=by omega
 subst hi
 refine s_val rfl rfl (v_b2s rfl Tryz.underlying79 Tryz.underlying5 Tryz.underlying9 (ns:=(textX x).map fun x:UInt8=>(x.toNat:Int)) (by rw [List.map_map];exact Outs.row cx hO) (by rw [List.length_map];exact hO.2.1.symm) rfl) ?_
 refine K2 ?_
 refine ret_tmp2 Tryz.results21 rfl rfl ?_
 refine K1x ?_
 rw [txtO_0 hchk,hchk]
 exact congrArg (fun s=>Value.tuple #[Value.string s,Value.int .i64 0]) (strOf_bs (textX x))
noncomputable def lrow (x:Idx)(g:Nat):Row:=⟨9,1,.slice (some ⟨g,0,none⟩) ((linesX x).length+1) ((linesX x).length+1),(linesX x).length+1,((linesX x).map bs++[bs []]).map Value.string⟩
def PSt (x:Idx)(b5 b2 g:Nat)(w0 w:World)(i:Nat):Prop:=∃ (ve vc:Value) (ps:List Value) (rs:List Row),
 Cxr w0 w [(b5,.cells ([.int .i64 x.fmt,.int .i64 x.size,.int .i64 x.depth,ve,vc]:List Value).toArray 35),(b2,.cells ([.int .i64 0,.int .i64 0,.int .i64 0,.slice none 0 0,.slice none 0 0]:List Value).toArray 35)] (⟨52,3,ve,i-x.cols.length,ecells ps (x.ents.take (i-x.cols.length))⟩::⟨9,1,vc,min i x.cols.length,(x.cols.take (min i x.cols.length)).map Value.string⟩::rs) ∧
 ps.length=(x.ents.take (i-x.cols.length)).length∧(∀ q∈prows 107 ps (x.ents.take (i-x.cols.length)),q∈rs)∧lrow x g∈rs
theorem row_cell {w0 w:World}{L:List (Nat×Obj)}{R:List Row}{g n c:Nat}{xs:List Value}(cx:Cxr w0 w L R)(hm:(⟨9,1,.slice (some ⟨g,0,none⟩) n c,n,xs⟩:Row)∈R){i j:Nat}{v:Value}(hi:xs[i]?=some v)(hj:j=i):w.cell? ⟨g,j,none⟩=some v:=by
 subst hj
 obtain ⟨g',c',he,_,_,hr⟩:=(cx.oneR hm).rowS (List.length_pos_iff.2 fun e=>by rw [e] at hi;simp at hi)
 cases he
 have:=hr j v hi
 rwa [Nat.zero_add] at this
theorem lrow_at {x:Idx}{i:Nat}{l:List UInt8}(h:(linesX x)[i]?=some l):(((linesX x).map bs++[bs []]).map Value.string)[i]?=some (.string (bs l)):=by
 have hlt:=(List.getElem?_eq_some_iff.1 h).1
 rw [List.getElem?_map,List.getElem?_append_left (by simpa using hlt),List.getElem?_map,h]
 rfl
theorem PSt.cell {x:Idx}{b5 b2 g:Nat}{w0 w:World}{i k j:Nat}{l:List UInt8}(h:PSt x b5 b2 g w0 w i)(hi:(linesX x)[k]?=some l)(hj:j=k):w.cell? ⟨g,j,none⟩=some (.string (bs l)):=by
 obtain ⟨ve,vc,ps,rs,cx,_,_,hm⟩:=h
 exact row_cell cx (List.mem_cons_of_mem _ (List.mem_cons_of_mem _ hm)) (lrow_at hi) hj
theorem PSt.step {x:Idx}{b5 b2 g:Nat}{w0 w:World}{i:Nat}{l:List UInt8}(h:PSt x b5 b2 g w0 w i)(hi:(linesX x)[i+1]?=some l)(hx:chkX x=0)(hne:x.ents.length≤1000)(hnc:x.cols.length≤1000)(hcn:Cnt w0)(ht:Tabs w0) :
  Ret Tryz.prog 57 [.pointer (some ⟨b5,0,none⟩),.string (bs l)] w (fun v w'=>v=.bool true∧PSt x b5 b2 g w0 w' (i+1)):=by
 obtain ⟨ve,vc,ps,rs,cx,hl,hm,hlr⟩:=h
 have hlt:=(List.getElem?_eq_some_iff.1 hi).1
 rw [linesX_len] at hlt
 obtain ⟨_,hs0,hs1,_⟩:=chk_hdr hx
 rcases line_cases (x:=x) (i:=i) (by omega) with ⟨c,h1,h2,h3⟩ | ⟨e,h1,h2,h3⟩
 · obtain rfl:l=colT c:=Option.some.inj (hi.symm.trans h3)
   obtain ⟨hv,hc⟩:=chk_cols hx c (List.mem_of_getElem? h2)
   refine Calls.mono (c57c w0 w b5 (min i x.cols.length) x.fmt x.size x.depth ve vc c _ _ _ cx.swapR (by omega) hv hc) ?_
   rintro e' w' ⟨v,rfl,rfl,vc',cx'⟩
   refine ⟨_,rfl,rfl,ve,vc',ps,rs,?_,?_,?_,hlr⟩
   · have e1:i+1-x.cols.length=i-x.cols.length:=by omega
     have e2:min (i+1) x.cols.length=min i x.cols.length+1:=by omega
     have e3:min i x.cols.length=i:=by omega
     rw [e1,e2]
     rw [e3] at cx' ⊢
     rw [take_str h2] at cx'
     exact cx'.swapR
   · rw [show i+1-x.cols.length=i-x.cols.length by omega];exact hl
   · rw [show i+1-x.cols.length=i-x.cols.length by omega];exact hm
 · obtain rfl:l=entT e:=Option.some.inj (hi.symm.trans h3)
   have he:=List.mem_of_getElem? h2
   obtain ⟨r1,r2,r3⟩:=chk_rng hx e he
   obtain ⟨g1,g2⟩:=chk_good hx e he
   refine Calls.mono (c57e w0 w b5 (i-x.cols.length) x.fmt x.size x.depth ve vc e _ _ _ cx (by omega) g1 g2 r1 (by omega) (by omega) (by omega) hcn ht) ?_
   rintro e' w' ⟨v,rfl,rfl,ve',p,cx'⟩
   have e1:i+1-x.cols.length=i-x.cols.length+1:=by omega
   have e2:min (i+1) x.cols.length=min i x.cols.length:=by omega
   have e3:=take_snoc h2
   refine ⟨_,rfl,rfl,ve',vc,ps++[p],prow 107 p e::rs,?_,?_,?_,List.mem_cons_of_mem _ hlr⟩
   · rw [e1,e2,e3,ecells_snoc ps _ p e hl]
     exact cx'.permR ((List.Perm.refl _).cons _ |>.trans (List.Perm.cons _ (List.Perm.swap _ _ _)))
   · rw [e1,e3];simp [hl]
   · rw [e1,e3,prows_snoc 107 ps _ p e hl]
     exact Bz110
theorem PSt.idx {x:Idx}{b5 b2 g:Nat}{w0 w:World}{i:Nat}(h:PSt x b5 b2 g w0 w i)(hi:i=x.cols.length+x.ents.length)(hx:chkX x=0) :
  ∃ ve vc R,Cxr w0 w [(b5,.cells ([.int .i64 x.fmt,.int .i64 x.size,.int .i64 x.depth,ve,vc]:List Value).toArray 35),(b2,.cells ([.int .i64 0,.int .i64 0,.int .i64 0,.slice none 0 0,.slice none 0 0]:List Value).toArray 35)] R∧(∀ w' L',Cxr w0 w' L' R→IdxV w' x [.int .i64 x.fmt,.int .i64 x.size,.int .i64 x.depth,ve,vc])∧ve.oneCell'=true∧vc.oneCell'=true:=by
 obtain ⟨ve,vc,ps,rs,cx,hl,hm,_⟩:=h
 have e1:i-x.cols.length=x.ents.length:=by omega
 have e2:min i x.cols.length=x.cols.length:=by omega
 rw [e1,e2,List.take_length,List.take_length] at cx
 rw [e1,List.take_length] at hl hm
 exact ⟨ve,vc,_,cx,fun w' L' cx=>⟨ve,vc,rfl,ens_of cx rfl hl (fun q hq=>List.mem_cons_of_mem _ (hm q hq)) fun e he=>(chk_good hx e he).2,cls_of cx.swapR rfl⟩,cx.oneS,cx.swapR.oneS⟩
theorem PSt.zero {x:Idx}{b5 b2 g:Nat}{w0 w:World}(cx:Cxr w0 w [(b5,.cells ([.int .i64 x.fmt,.int .i64 x.size,.int .i64 x.depth,.slice none 0 0,.slice none 0 0]:List Value).toArray 35),(b2,.cells ([.int .i64 0,.int .i64 0,.int .i64 0,.slice none 0 0,.slice none 0 0]:List Value).toArray 35)] [lrow x g]):PSt x b5 b2 g w0 w 0:=by
 refine ⟨.slice none 0 0,.slice none 0 0,[],[lrow x g],?_,by simp,by simp [prows],List.mem_cons_self ..⟩
 rw [Nat.zero_sub,Nat.zero_min]
 exact (cx.nilRow 9 1).nilRow 52 3
theorem sl63 (g n:Nat):Value.slice (some ⟨g,0+Int.toNat 1*1,none⟩) (Int.toNat (((n+1:Nat):Int)-1)-Int.toNat 1) (n+1-Int.toNat 1)=.slice (some ⟨g,1,none⟩) (n-1) n:=by
 have h1:Int.toNat (((n+1:Nat):Int)-1)=n:=by omega
 rw [h1]
 rfl
theorem c23 (x:Idx)(w0:World)(hx:chkX x=0)(hne:x.ents.length≤1000)(hnc:x.cols.length≤1000)(hs:Szd x)(hcn:Cnt w0)(ht:Tabs w0):Fc Tryz.prog 23 [.string (bs (textX x))] w0 (fun v w'=>∃ r,v=.tuple #[.agg r.toArray,.int .i64 0]∧IdxV w' x r):=by
 obtain ⟨hd0,hd1,hd2,hd3',hd4'⟩:=chk_hdr hx
 have hd3:0≤x.depth:=by omega
 have hd4:x.depth≤1048576:=by omega
 have hi1:=itoa_le hd1 hd2
 have hi2:=itoa_le hd3 hd4
 have hn:=linesX_len x
 have hl0:(linesX x)[0]?=some (hdrT x):=rfl
 have htl:=textE_len hx x.ents.length (Nat.le_refl _)
 have htl2:(textX x).length≤41+6154*x.cols.length+297618*x.ents.length:=htl
 refine ret_enter Tryz.func23 rfl Tryz.ntmps23 rfl ?_
 have cx:=Ctx.start w0
 refine K0 ?_
 refine H2c ?_;intro b2 w cx hb2 hw2
 refine K3 ?_
 have cxB:=cx
 refine s_fn cx (c54 (textX x) [10] _ (hcn.up cx.ext) (by omega) (by simp)) Tryz.func54 rfl rfl rfl rfl rfl rfl ?_;intro q17 w cx hw17 hp17
 obtain ⟨g,kk,rfl,hkk,hrow⟩:=hp17
 rw [textX_lines,countB_lines _ (linesX_10 hx)] at hkk hrow
 rw [splitB_lines _ (linesX_10 hx)] at hrow
 subst hkk
 replace cx:Cxr w0 w _ [lrow x g]:=cxB.callRow hw17 hrow
 refine K2 ?_
 refine H2c ?_;intro b5 w cx hb5 hw5
 refine K2 ?_
 refine K5m ?_
 refine Kfr ?_
 refine s_fn cx (c55 (hdrT x) [105,110,100,101,120,32,98,114,97,99,101,32] _) Tryz.func55 rfl rfl rfl rfl rfl rfl ?_;intro q22 w cx hw22 hp22
 subst hp22
 refine K6 ?_
 refine K2m ?_
 refine H2h ?_;intro w cx hwS4_1
 refine SS ?_
 refine w_cut (fun f w1=>∃ b5 b2:Nat,f 0=.string (bs (textX x))∧f 2=.pointer (some ⟨b2,0,none⟩)∧f 4=.slice (some ⟨g,0,none⟩) ((linesX x).length+1) ((linesX x).length+1)∧f 5=.pointer (some ⟨b5,0,none⟩)∧f 6=.string (bs (itoa x.size++32::itoa x.depth))∧f 7=.bool true∧Cxr w0 w1 [(b5,.cells ([.int .i64 x.fmt,.int .i64 0,.int .i64 0,.slice none 0 0,.slice none 0 0]:List Value).toArray 35),(b2,.cells ([.int .i64 0,.int .i64 0,.int .i64 0,.slice none 0 0,.slice none 0 0]:List Value).toArray 35)] [lrow x g]) ?_ ?_
 ·
  refine K3 ?_
  refine cSp rfl (fun hc27=>?_) (fun hc27=>?_)
  ·
   have hf4:x.fmt=4:=by
    rcases hd0 with h | h
    · exfalso
      rw [(pre_hdr1 h).1] at hc27
      revert hc27;decide
    · exact h
   refine K1 ?_
   refine K5m ?_
   refine Kfr ?_
   refine s_fn cx (c55 (hdrT x) [105,110,100,101,120,32,100,101,108,105,109,32] _) Tryz.func55 rfl rfl rfl rfl rfl rfl ?_;intro q32 w cx hw32 hp32
   simp only [(pre_hdr4 hf4).2.1,(pre_hdr4 hf4).2.2] at hp32
   subst hp32
   refine K5 ?_
   refine K2m ?_
   refine H2 ?_;intro w cx hwS7_1
   refine SS ?_
   exact Bz75
  have hf1:x.fmt=1:=by
   rcases hd0 with h | h
   · exact h
   · exfalso
     rw [(pre_hdr4 h).1] at hc27
     revert hc27;decide
  refine SS ?_
  exact Bz75
 intro f w hJ
 obtain ⟨b5,b2,hs0,hs2,hs4,hs5,hs6,hs7,cx⟩:=hJ
 refine K2n ?_
 refine s_fn cx (c56 (itoa x.size++32::itoa x.depth) (itoa x.depth) [] x.size x.depth true false (cut1_hit _ _ _ (itoa_32 hd1)) (cut1_miss _ _ (itoa_32 hd3)) hd1 hd2 hd3 hd4 (by simp only [List.length_append,List.length_cons];omega) (by omega) _ (hcn.up cx.ext)) Tryz.func56 rfl rfl rfl rfl rfl rfl ?_;intro q38 w cx hw38 hp38
 subst hp38
 refine K13 ?_
 refine s_val rfl rfl (v_fa fa35_1 rfl hs5) ?_
 refine s_store1 (v:=.int .i64 x.size) cx 0 rfl rfl rfl rfl rfl rfl rfl rfl sz3 ?_;intro w cx hwS9_3
 refine s_val rfl rfl (v_fa fa35_2 rfl hs5) ?_
 refine s_store1 (v:=.int .i64 x.depth) cx 0 rfl rfl rfl rfl rfl rfl rfl rfl sz3 ?_;intro w cx hwS9_5
 refine K2 ?_
 refine Kk ?_
 refine K4 ?_
 refine K2j ?_
 refine Ka9 ?_
 refine K1 ?_
 refine c_split rfl (fun hc57=>?_) (fun hc57=>?_)
 ·
  exfalso
  simp at hc57
  omega
 try simp only [bsl] at hc57
 refine K3w ?_
 refine K6d ?_
 refine s_val rfl rfl ((show (execOp _ _).run _ _=.ok (.value (.slice (some ⟨g,1,none⟩) ((linesX x).length-1) ((linesX x).length))) _ from (v_slMid rfl rfl rfl rfl Tryz.underlying33 sz9 (by omega) (by omega) (by omega) (by omega)).trans (by rw [sl63]))) ?_
 refine K2 ?_
 refine w_loop (fun k f w1=>∃ i:Nat,k+i=(linesX x).length-1∧f 0=.string (bs (textX x))∧f 2=.pointer (some ⟨b2,0,none⟩)∧f 5=.pointer (some ⟨b5,0,none⟩)∧f 63=.slice (some ⟨g,1,none⟩) ((linesX x).length-1) ((linesX x).length)∧f 64=.int .i64 ((linesX x).length-1:Nat)∧f 65=.int .i64 i∧PSt x b5 b2 g w0 w1 i) ((linesX x).length-1) ?_ ?_
 ·
  exact ⟨0,by omega,hs0,hs2,hs5,rfl,rfl,rfl,PSt.zero cx⟩
 intro gk13 f w hJ
 obtain ⟨i,hgi,hs0,hs2,hs5,hs63,hs64,hs65,hP⟩:=hJ
 refine K0 ?_
 refine s_val rfl rfl (v_cmp rfl hs65 hs64 rfl) ?_
 refine K0 ?_
 refine cSp rfl (fun hc66=>?_) (fun hc66=>?_)
 ·
  obtain ⟨l,hli⟩:∃ l,(linesX x)[i+1]?=some l:=⟨_,List.getElem?_eq_getElem (by omega)⟩
  refine K3 ?_
  refine Kfs ?_
  refine s_val rfl rfl (v_load1 rfl rfl Tryz.underlying9 rfl (hP.cell hli (by omega))) ?_
  refine K3 ?_
  refine s_call (hP.step hli hx hne hnc hcn ht) Tryz.func57 rfl rfl rfl rfl rfl (cons_eq hs5 (cons_eq rfl rfl)) ?_;rintro v70 w ⟨hv70,hP2⟩;subst hv70
  refine K0 ?_
  refine K1d ?_
  exact Bz72
 obtain ⟨ve,vc,R,cx,hX,hv1,hv2⟩:=hP.idx (by omega) hx
 refine K2 ?_
 refine Kaa ?_
 refine s_fn cx (c21 _ x _ (hX _ _ cx) (ht.up cx.ext) hs) Tryz.func21 rfl rfl rfl rfl rfl rfl ?_;intro q76 w cx hw76 hp76
 rw [txtO_0 hx,hx] at hp76
 subst hp76
 refine Ko ?_
 refine Kx ?_
 refine K9d ?_
 refine K0 ?_
 refine c_split rfl (fun hc85=>?_) (fun hc85=>?_)
 ·
  exact absurd hc85 (by simp)
 try simp only [bsl] at hc85
 refine K1 ?_
 refine Kaa ?_
 refine s_storeAll cx 1 rfl rfl rfl hs2 rfl rfl sz35 rfl (by rw [List.all_eq_true];intro v hv;simp only [List.mem_cons,List.not_mem_nil,or_false] at hv;rcases hv with rfl | rfl | rfl | rfl | rfl <;> first | rfl | assumption) ?_;intro w cx hwS21
 refine K1 ?_
 refine Kae ?_
 exact ⟨cx.ext,_,rfl,hX _ _ cx⟩
theorem bd35 (w:World):(Instr.build 35 ([]:List (Nat×Value)).toArray).run Tryz.prog w=.ok (.agg #[.int .i64 0,.int .i64 0,.int .i64 0,.slice none 0 0,.slice none 0 0]) w:=by
 go_simp
 try rfl
theorem joinL_inj {a b:List (List UInt8)}(ha:∀ l∈a,∀ x∈l,x≠10)(hb:∀ l∈b,∀ x∈l,x≠10)(h:joinL a=joinL b):a=b:=by
 have h1:=countB_lines a ha
 rw [h,countB_lines b hb] at h1
 have h2:=splitB_lines a ha
 rw [h,← h1,splitB_lines b hb] at h2
 have h3:=List.append_cancel_right h2
 exact ((List.map_inj_right fun x y e=>bs_inj e).1 h3).symm
structure RF (ls:List (List UInt8)) (i:Nat) (f0 f1 f2:Int) (ps:List Value) (rs:List Row) (es:List Ent) (cs:List ByteArray):Prop where
 hl:ps.length=es.length
 hm:∀ q∈prows 107 ps es,q∈rs
 hn:es.length+cs.length≤i
 hp:∀ e∈es,e.path.length≤48
 hc:∀ c∈cs,c.size≤1000
 hx:∀ x0,chkX x0=0→ls=linesX x0→(0<i→f0=x0.fmt∧f1=x0.size∧f2=x0.depth)∧cs=x0.cols.take (i-1)∧es=x0.ents.take (i-1-x0.cols.length)
theorem RF.start (ls:List (List UInt8))(rs:List Row):RF ls 0 0 0 0 [] rs [] [] :=
 ⟨rfl,by simp [prows],by simp,by simp,by simp,fun x0 _ _=>⟨fun h=>by omega,by simp,by simp⟩⟩
theorem rstep {ls:List (List UInt8)}{i:Nat}{f0 f1 f2:Int}{ve vc:Value}{ps:List Value}{rs:List Row}{es:List Ent}{cs:List ByteArray}{w0 w:World}{L:List (Nat×Obj)}{l:List UInt8}
  (cx:Cxr w0 w L (⟨52,3,ve,es.length,ecells ps es⟩::⟨9,1,vc,cs.length,cs.map Value.string⟩::rs)) (rf:RF ls i f0 f1 f2 ps rs es cs) (hl:ls[i]?=some l) (hll:l.length≤1000) (hi:i≤1000) :
  Ret Tryz.prog 59 [.agg ([.int .i64 f0,.int .i64 f1,.int .i64 f2,ve,vc]:List Value).toArray,.string (bs l),.bool (decide ((i:Int)=0))] w (fun v w'=>∃ (f0' f1' f2':Int) (ve' vc':Value) (ps':List Value) (rs':List Row) (es':List Ent) (cs':List ByteArray),v=.agg ([.int .i64 f0',.int .i64 f1',.int .i64 f2',ve',vc']:List Value).toArray∧RF ls (i+1) f0' f1' f2' ps' rs' es' cs'∧(∀ q∈rs,q∈rs')∧Cxr w0 w' L (⟨52,3,ve',es'.length,ecells ps' es'⟩::⟨9,1,vc',cs'.length,cs'.map Value.string⟩::rs')):=by
 have hlt:=(List.getElem?_eq_some_iff.1 hl).1
 by_cases h0:i=0
 · subst h0
   refine Calls.mono (c59h f0 f1 f2 ve vc l w cx.oneS cx.swapR.oneS hll) ?_
   rintro e w' ⟨v,rfl,hB,m0,m1,m2,rfl,hm⟩
   refine ⟨_,rfl,m0,m1,m2,ve,vc,ps,rs,es,cs,rfl,⟨rf.hl,rf.hm,by have:=rf.hn;omega,rf.hp,rf.hc,fun x0 h1 h2=>?_⟩,fun q h=>h,cx.call hB⟩
   obtain ⟨_,h4,h5⟩:=rf.hx x0 h1 h2
   refine ⟨fun _=>hm x0 h1 ?_,by simpa using h4,by simpa using h5⟩
   rw [h2] at hl
   exact (Option.some.inj hl).symm
 have hd:decide ((i:Int)=0)=false:=by simp;omega
 rw [hd]
 have hcase:∀ x0,ls=linesX x0→(∃ c,i-1<x0.cols.length∧x0.cols[i-1]?=some c∧l=colT c)∨∃ e,x0.cols.length≤i-1∧x0.ents[i-1-x0.cols.length]?=some e∧l=entT e:=by
  intro x0 h2
  have h3:=linesX_len x0
  rw [h2] at hl hlt
  rcases line_cases (x:=x0) (i:=i-1) (by omega) with ⟨c,h4,h5,h6⟩ | ⟨e,h4,h5,h6⟩
  · rw [show i-1+1=i by omega,hl] at h6
    exact .inl ⟨c,h4,h5,Option.some.inj h6⟩
  · rw [show i-1+1=i by omega,hl] at h6
    exact .inr ⟨e,h4,h5,Option.some.inj h6⟩
 by_cases hw:(Lib.cut l [32]).1=[99,111,108,117,109,110]
 · refine Calls.mono (c59c w0 w f0 f1 f2 ve vc l cs.length _ L _ cx.swapR cx.oneS (by have:=rf.hn;omega) hll hw) ?_
   rintro e w' ⟨v,rfl,vc',c,rfl,cx',hcs,hcx⟩
   refine ⟨_,rfl,f0,f1,f2,ve,vc',ps,rs,es,cs++[c],rfl,⟨rf.hl,rf.hm,by have:=rf.hn;simp only [List.length_append,List.length_cons,List.length_nil];omega,rf.hp,?_,fun x0 h1 h2=>?_⟩,fun q h=>h,?_⟩
   · intro q hq
     rcases List.mem_append.1 hq with hq | hq
     · exact rf.hc q hq
     · obtain rfl:=List.mem_singleton.1 hq;exact hcs
   · obtain ⟨h3,h4,h5⟩:=rf.hx x0 h1 h2
     rcases hcase x0 h2 with ⟨c0,h6,h7,h8⟩ | ⟨e0,h6,h7,h8⟩
     · obtain ⟨g1,g2⟩:=chk_cols h1 c0 (List.mem_of_getElem? h7)
       obtain rfl:=hcx c0 g1 g2 h8
       refine ⟨fun _=>h3 (by omega),?_,?_⟩
       · rw [h4,← take_snoc h7,show i-1+1=i+1-1 by omega]
       · rw [h5,show i-1-x0.cols.length=i+1-1-x0.cols.length by omega]
     · exfalso
       rw [h8] at hw
       exact ent_word (chk_rng h1 e0 (List.mem_of_getElem? h7)).1 hw
   · have h:=cx'.swapR
     exact Bz190
 · refine Calls.mono (c59e w0 w f0 f1 f2 ve vc l es.length _ L _ cx cx.swapR.oneS (by have:=rf.hn;omega) hll hw) ?_
   rintro e w' ⟨v,rfl,ve',p,en,rfl,cx',hpl,hex⟩
   refine ⟨_,rfl,f0,f1,f2,ve',vc,ps++[p],prow 107 p en::rs,es++[en],cs,rfl,⟨by simp [rf.hl],?_,by have:=rf.hn;simp only [List.length_append,List.length_cons,List.length_nil];omega,?_,rf.hc,fun x0 h1 h2=>?_⟩,fun q h=>List.mem_cons_of_mem _ h,?_⟩
   · rw [prows_snoc 107 ps es p en rf.hl]
     intro q hq
     rcases List.mem_append.1 hq with hq | hq
     · exact List.mem_cons_of_mem _ (rf.hm q hq)
     · obtain rfl:=List.mem_singleton.1 hq;exact List.mem_cons_self ..
   · intro q hq
     rcases List.mem_append.1 hq with hq | hq
     · exact rf.hp q hq
     · obtain rfl:=List.mem_singleton.1 hq;exact hpl
   · obtain ⟨h3,h4,h5⟩:=rf.hx x0 h1 h2
     rcases hcase x0 h2 with ⟨c0,h6,h7,h8⟩ | ⟨e0,h6,h7,h8⟩
     · exfalso
       apply hw
       rw [h8,col_cut]
     · have hem:=List.mem_of_getElem? h7
       obtain ⟨r1,r2,r3⟩:=chk_rng h1 e0 hem
       obtain ⟨g1,g2⟩:=chk_good h1 e0 hem
       obtain ⟨_,s1,s2,_⟩:=chk_hdr h1
       obtain rfl:=hex e0 g1 g2 r1 (by omega) (by omega) (by omega) h8
       refine ⟨fun _=>h3 (by omega),?_,?_⟩
       · rw [h4,List.take_of_length_le (by omega),List.take_of_length_le (by omega)]
       · rw [h5,← take_snoc h7,show i-1-x0.cols.length+1=i+1-1-x0.cols.length by omega]
   · rw [ecells_snoc ps es p en rf.hl]
     exact Bz188
theorem RF.szd {ls:List (List UInt8)}{i:Nat}{f0 f1 f2:Int}{ps:List Value}{rs:List Row}{es:List Ent}{cs:List ByteArray}(rf:RF ls i f0 f1 f2 ps rs es cs)(hi:i≤1000):Szd ⟨f0,f1,f2,es,cs⟩ :=
 ⟨by have:=rf.hn;show es.length≤_;omega,by have:=rf.hn;show cs.length≤_;omega,fun c hc=>by have:=rf.hc c hc;omega,fun e he=>by have:=rf.hp e he;omega⟩
theorem cutLast (l:List UInt8):(l++[10]).take (Int.toNat (((l++[10]).length:Int)-1))=l:=by
 have:Int.toNat (((l++[10]).length:Int)-1)=l.length:=by simp only [List.length_append,List.length_cons,List.length_nil];omega
 rw [this,List.take_left]
theorem idx_nil (w:World):IdxV w ⟨0,0,0,[],[]⟩ [.int .i64 0,.int .i64 0,.int .i64 0,.slice none 0 0,.slice none 0 0] :=
 ⟨_,_,rfl,⟨0,0,.inl ⟨rfl,rfl⟩,fun i x h=>by simp at h⟩,⟨0,0,.inl ⟨rfl,rfl⟩,fun i x h=>by simp at h⟩⟩
theorem szd_nil:Szd ⟨0,0,0,[],[]⟩:=⟨by decide,by decide,by simp,by simp⟩
theorem c24 (ls:List (List UInt8))(w0:World)(hn:∀ l∈ls,∀ x∈l,x≠10)(hs:(joinL ls).length≤1000):Fc Tryz.prog 24 [.string (bs (joinL ls))] w0 (fun v w'=>∃ (r:List Value) (x:Idx) (e:Int),v=.tuple #[.agg r.toArray,.int .i64 e]∧IdxV w' x r∧((e=0∧chkX x=0∧textX x=joinL ls)∨(e=3∧x=⟨0,0,0,[],[]⟩))∧Szd x∧∀ x0,chkX x0=0→joinL ls=textX x0→x=x0∧e=0):=by
 have hlc:=joinL_count ls hn
 have hll2:=List.count_le_length (a:=(10:UInt8)) (l:=joinL ls)
 refine ret_enter Tryz.func24 rfl Tryz.ntmps24 rfl ?_
 have cx:=Ctx.start w0
 refine K0 ?_
 refine H2c ?_;intro b2 w cx hb2 hw2
 refine K2 ?_
 refine s_val rfl rfl (v_build bd35 rfl rfl) ?_
 refine H2c ?_;intro b4 w cx hb4 hw4
 refine H2i ?_;intro w cx hwS1
 refine K2 ?_
 have cxB:=cx
 refine s_fn cx (c58 ls _ hn (by omega)) Tryz.func58 rfl rfl rfl rfl rfl rfl ?_;intro q11 w cx hw11 hp11
 replace cx:=cxB.callRow hw11 hp11
 obtain ⟨a5,c5,rfl⟩:=cx.rowSl
 refine K6 ?_
 refine w_loop (fun k f w1=>∃ (i:Nat) (f0 f1 f2:Int) (ve vc:Value) (ps:List Value) (rs:List Row) (es:List Ent) (cs:List ByteArray) (b4 b2:Nat),k+i=ls.length∧f 0=.string (bs (joinL ls))∧f 2=.pointer (some ⟨b2,0,none⟩)∧f 4=.pointer (some ⟨b4,0,none⟩)∧f 5=.slice a5 ls.length c5∧f 6=.int .i64 i∧RF ls i f0 f1 f2 ps rs es cs∧(⟨9,1,.slice a5 ls.length c5,ls.length,ls.map fun l=>Value.string (bs (l++[10]))⟩:Row)∈rs∧Cxr w0 w1 [(b4,.cells ([.int .i64 f0,.int .i64 f1,.int .i64 f2,ve,vc]:List Value).toArray 35),(b2,.cells ([.int .i64 0,.int .i64 0,.int .i64 0,.slice none 0 0,.slice none 0 0]:List Value).toArray 35)] (⟨52,3,ve,es.length,ecells ps es⟩::⟨9,1,vc,cs.length,cs.map Value.string⟩::rs)) (ls.length) ?_ ?_
 ·
  exact ⟨0,0,0,0,.slice none 0 0,.slice none 0 0,[],[_],[],[],_,_,by omega,rfl,rfl,rfl,rfl,rfl,RF.start ls _,List.mem_cons_self ..,(cx.nilRow 9 1).nilRow 52 3⟩
 intro gk4 f w hJ
 obtain ⟨i,f0,f1,f2,ve,vc,ps,rs,es,cs,b4,b2,hk,hs0,hs2,hs4,hs5,hs6,rf,hlr,cx⟩:=hJ
 have hlc:=joinL_count ls hn
 have hll2:=List.count_le_length (a:=(10:UInt8)) (l:=joinL ls)
 refine K11 ?_
 refine Kh ?_
 refine K1 ?_
 refine cSp rfl (fun hc15=>?_) (fun hc15=>?_)
 ·
  obtain ⟨l,hl⟩:∃ l,ls[i]?=some l:=⟨_,List.getElem?_eq_getElem (by omega)⟩
  have hli:(ls.map fun l=>Value.string (bs (l++[10])))[i]?=some (.string (bs (l++[10]))):=by rw [List.getElem?_map,hl];rfl
  obtain ⟨g5,c6,he5,_,_,_⟩:=(cx.oneR (List.mem_cons_of_mem _ (List.mem_cons_of_mem _ hlr))).rowS (by simp only [List.length_map];omega)
  have ha5:a5=some ⟨g5,0,none⟩:=by cases he5;rfl
  have hs5o:=hs5
  have hlro:=hlr
  rw [ha5] at hs5 hlr
  have hl10:(l++[(10:UInt8)]).length=l.length+1:=by simp
  have hll:l.length≤1000:=by
   have h1:=congrArg List.length (joinL_take ls i)
   rw [joinL_drop hl] at h1
   simp only [List.length_append,List.length_cons] at h1
   omega
  refine K1 ?_
  refine w_ordF cx mixed [(0,18),(1,19),(2,20),(3,21),(4,22),(5,23),(6,24),(7,25),(8,26),(9,27),(10,28),(12,30),(13,31)] #[true,true,true,true,true,true,true,true,true,true,true,false,true,true,false,false] p1q p1q p1q p1q ?_
  refine pu_one rfl (wnt_none rfl) (fun w cx=>v_load rfl hs4 Tryz.underlying35 rfl sz35 (cx.row 0 rfl) rfl) ?_
  refine Kc3 ?_
  refine Ka8 ?_
  refine Kft ?_
  refine Kfu ?_
  refine Kc3 ?_
  refine Ka8 ?_
  refine Kft ?_
  refine Kfu ?_
  refine pu_one rfl (wnt_none rfl) (fun w cx=>v_lenB rfl rfl Tryz.underlying9) ?_
  refine K5i ?_
  refine Ka8 ?_
  refine pu_one rfl (wnt_none rfl) (fun w cx=>v_cmp rfl rfl rfl rfl) ?_
  refine Hv ?_;intro w cx hwD6
  refine K2t ?_
  refine s_val rfl rfl ((v_cutTo (s:=l++[10]) rfl rfl rfl Tryz.underlying9 p5q (by omega)).trans (by rw [cutLast])) ?_
  refine K44 ?_
  refine K2u ?_
  refine s_call (rstep cx rf hl hll (by omega)) Tryz.func59 rfl rfl rfl rfl rfl rfl ?_;rintro v32 w ⟨f0',f1',f2',ve',vc',ps',rs',es',cs',rfl,rf',hrs,cx⟩
  refine Kg ?_
  refine K43 ?_
  refine s_storeAll cx 0 rfl rfl rfl hs4 rfl rfl sz35 rfl (one5 cx.oneS cx.swapR.oneS) ?_;intro w cx hwS6
  refine K41 ?_
  refine Kc ?_
  refine K1 ?_
  exact ⟨gk4-1,_,by omega,rfl,i+1,f0',f1',f2',ve',vc',ps',rs',es',cs',b4,b2,by omega,hs0,hs2,hs4,hs5o,rfl,rf',hrs _ hlro,cx⟩
 have hil:i=ls.length:=by omega
 have hls:∀ x0,chkX x0=0→joinL ls=textX x0→(⟨f0,f1,f2,es,cs⟩:Idx)=x0:=by
  intro x0 h1 h2
  rw [textX_lines] at h2
  have h3:=joinL_inj hn (linesX_10 h1) h2
  obtain ⟨h4,h5,h6⟩:=rf.hx x0 h1 h3
  have h7:=linesX_len x0
  rw [← h3] at h7
  obtain ⟨rfl,rfl,rfl⟩:=h4 (by omega)
  rw [List.take_of_length_le (by omega)] at h5 h6
  rw [h5,h6]
 refine K1 ?_
 refine Kfv ?_
 refine s_fn cx (c22 _ ⟨f0,f1,f2,es,cs⟩ _ ⟨ve,vc,rfl,ens_any cx rfl rf.hl (fun q h=>List.mem_cons_of_mem _ (rf.hm q h)),cls_of cx.swapR rfl⟩ (rf.szd (by omega))) Tryz.func22 rfl rfl rfl rfl rfl rfl ?_;intro q35 w cx hw35 hp35
 subst hp35
 refine K14 ?_
 refine Kx ?_
 refine K9d ?_
 refine K0 ?_
 refine cSp rfl (fun hc44=>?_) (fun hc44=>?_)
 ·
  refine K0 ?_
  refine s_val rfl rfl (v_build bd35 rfl rfl) ?_
  refine H2j ?_;intro w cx hwS9
  refine K1 ?_
  refine Kfw ?_
  refine ⟨cx.ext,[.int .i64 0,.int .i64 0,.int .i64 0,.slice none 0 0,.slice none 0 0],⟨0,0,0,[],[]⟩,3,rfl,idx_nil _,.inr ⟨rfl,rfl⟩,szd_nil,fun x0 h1 h2=>?_⟩
  exfalso
  have h3:=hls x0 h1 h2
  rw [h3,txtO_0 h1,h1] at hc44
  rcases hc44 with h | h
  · exact h rfl
  · exact h h2.symm
 refine K1 ?_
 refine Kfv ?_
 refine H2k ?_;intro w cx hwS10
 refine K1 ?_
 refine Kfw ?_
 have hck:chkX ⟨f0,f1,f2,es,cs⟩=0:=hc44.1
 have htx:txtO ⟨f0,f1,f2,es,cs⟩=joinL ls:=hc44.2
 rw [txtO_0 hck] at htx
 exact ⟨cx.ext,_,⟨f0,f1,f2,es,cs⟩,0,rfl,⟨ve,vc,rfl,ens_any cx rfl rf.hl (fun q h=>List.mem_cons_of_mem _ (rf.hm q h)),cls_of cx.swapR rfl⟩,.inl ⟨rfl,hck,htx⟩,rf.szd (by omega),fun x0 h1 h2=>⟨hls x0 h1 h2,rfl⟩⟩
theorem splitB_sz (sep:ByteArray):∀ (k:Nat) (s:ByteArray),∀ x∈Lib.splitB sep 0 k s,x.size≤s.size
 | 0,s,x,h=>by
  rw [Lib.splitB_zero,List.mem_singleton] at h
  rw [h];exact Nat.le_refl _
 | k+1,s,x,h=>by
  unfold Lib.splitB at h
  split at h
  · rw [List.mem_singleton] at h
    rw [h];exact Nat.le_refl _
  · rcases List.mem_cons.1 h with rfl | h
    · rw [ByteArray.size_extract];omega
    · have:=splitB_sz sep k _ x h
      rw [ByteArray.size_extract] at this
      omega
theorem c56w (s:List UInt8)(w0:World)(hs:s.length≤1073741824)(hcn:Cnt w0)(hE:Errs w0):Fc Tryz.prog 56 [.string (bs s)] w0 (fun v _=>∃ (m n:Int) (r:List UInt8) (b:Bool),v=.tuple #[.int .i64 m,.int .i64 n,.string (bs r),.bool b]∧r.length≤s.length):=by
 have hl1:=cut_le s
 have hl2:=cut_le (Lib.cut s [32]).2.1
 refine ret_enter Tryz.func56 rfl Tryz.ntmps56 rfl ?_
 have cx:=Ctx.start w0
 refine K8 ?_
 refine H29 ?_;intro q14 w cx hw14 hp14
 subst hp14
 refine Ka ?_
 refine s_fn cx (c105 (Lib.cut s [32]).2.1 [32] _ (hcn.up cx.ext) (by omega)) Tryz.func105 rfl rfl rfl rfl rfl rfl ?_;intro q20 w cx hw20 hp20
 subst hp20
 refine Ka ?_
 refine s_fn cx (c106w (Lib.cut s [32]).1 _ (by omega) (hE.up cx.ext)) Tryz.func106 rfl rfl rfl rfl rfl rfl ?_;intro q26 w cx hw26 hp26
 obtain ⟨n26,u26,rfl,hu26⟩:=hp26
 refine K7 ?_
 refine s_fn cx (c106w (Lib.cut (Lib.cut s [32]).2.1 [32]).1 _ (by omega) (hE.up cx.ext)) Tryz.func106 rfl rfl rfl rfl rfl rfl ?_;intro q31 w cx hw31 hp31
 obtain ⟨n31,u31,rfl,hu31⟩:=hp31
 refine K5 ?_
 refine K1l ?_
 refine Kj ?_
 refine Kj ?_
 refine Kj ?_
 refine Kj ?_
 refine q_val rfl rfl (fun w cx hwQ=>v_isNil Tryz.underlying184 rfl rfl rfl hu26) ?_
 refine Kj ?_
 refine K7e ?_
 refine q_gval rfl rfl rfl wT (fun hc w cx hwQ=>v_isNil Tryz.underlying184 rfl p4q rfl hu31) ?_
 refine K3h ?_
 refine K5z ?_
 refine K5z ?_
 refine q_nil ?_;rintro w ⟨cx,hwQ5⟩
 refine SS ?_
 refine ret_tmp4 Tryz.results56 rfl rfl rfl rfl ?_
 exact ⟨cx.ext,n26,n31,_,_,rfl,by omega⟩
theorem c57cw (wb w0:World)(b n:Nat)(f0 f1 f2:Int)(ve vc:Value)(s:List UInt8)(xs:List Value)(L:List (Nat×Obj))(R:List Row)(cx0:Cxr wb w0 ((b,.cells ([.int .i64 f0,.int .i64 f1,.int .i64 f2,ve,vc]:List Value).toArray 35)::L) (⟨9,1,vc,n,xs⟩::R))(hn:n≤1048576)(hs:s.length≤1048576)(hpre:Lib.hasPrefix s [99,111,108,117,109,110,32]=true):Ret Tryz.prog 57 [.pointer (some ⟨b,0,none⟩),.string (bs s)] w0 (fun v w'=>∃ (q:Bool) (vc':Value) (c:ByteArray),v=.bool q∧c.size≤10000000∧Cxr wb w' ((b,.cells ([.int .i64 f0,.int .i64 f1,.int .i64 f2,ve,vc']:List Value).toArray 35)::L) (⟨9,1,vc',n+1,xs++[.string c]⟩::R)):=by
 refine Ka3 ?_
 have cx:=cx0
 refine K6 ?_
 refine H2l ?_;intro q17 w cx hw17 hp17
 simp only [hpre] at hp17
 subst hp17
 refine K8 ?_
 refine K3x ?_
 refine s_fn cx (c107w (Lib.trimPrefix s [99,111,108,117,109,110,32]) _ (by have:=Lib.trimPrefix_le s [99,111,108,117,109,110,32];omega)) Tryz.func107 rfl rfl rfl rfl rfl rfl ?_;intro q23 w cx hw23 hp23
 obtain ⟨cells,e23,c,rfl,⟨i1,b1,b2,s1,i2,i3,i4,i5,i6,bb,ll,ff,rfl,ho1,ho2,ho3⟩,hcl⟩:=hp23
 refine K1 ?_
 refine Hx ?_;intro b7 w cx hb7 hw7
 refine H2f ?_;intro w cx hwS3
 refine K1 ?_
 refine Kf9 ?_
 refine Kz ?_
 refine Kz ?_
 refine K9u ?_
 refine pu_one rfl (wnt_none rfl) (fun w cx=>v_fa fa35_4 rfl rfl) ?_
 refine Kfa ?_
 refine pu_one rfl (wnt_none rfl) (fun w cx=>v_fa fa83_4 rfl rfl) ?_
 refine K97 ?_
 refine Hv ?_;intro w cx hwD4
 refine K1s ?_
 refine Ha ?_;intro b33 w cx hb33 hw33
 refine x_next ⟨.inl p18q,?_⟩
 refine K1h ?_
 refine Hb ?_;intro v34 w cx hgr34
 replace cx:=cx.drop 1
 refine x_next ⟨.inl p18q,?_⟩
 refine K1c ?_
 refine K17 ?_
 refine K1r ?_
 refine K5k ?_
 refine K6u ?_
 refine s_store1 (v:=v34) cx 1 rfl rfl rfl rfl rfl cx.oneS rfl rfl sz33 ?_;intro w cx hwS4
 refine K5t ?_
 refine K5 ?_
 refine Ka4 ?_
 exact ⟨_,v34,c,rfl,hcl,cx.drop 1⟩
theorem c57ew (wb w0:World)(b n:Nat)(f0 f1 f2:Int)(ve vc:Value)(s:List UInt8)(xs:List Value)(L:List (Nat×Obj))(R:List Row)(cx0:Cxr wb w0 ((b,.cells ([.int .i64 f0,.int .i64 f1,.int .i64 f2,ve,vc]:List Value).toArray 35)::L) (⟨52,3,ve,n,xs⟩::R))(hn:n≤1048576)(hs:s.length≤1048576)(hpre:Lib.hasPrefix s [99,111,108,117,109,110,32]=false)(hcn:Cnt wb)(ht:Tabs wb)(hE:Errs wb):Ret Tryz.prog 57 [.pointer (some ⟨b,0,none⟩),.string (bs s)] w0 (fun v w'=>∃ (q:Bool) (ve' p:Value) (e:Ent),v=.bool q∧e.path.length≤48∧Cxr wb w' ((b,.cells ([.int .i64 f0,.int .i64 f1,.int .i64 f2,ve',vc]:List Value).toArray 35)::L) (⟨52,3,ve',n+1,xs++erow p e⟩::prow 107 p e::R)):=by
 refine Ka3 ?_
 have cx:=cx0
 refine K6 ?_
 refine H2l ?_;intro q17 w cx hw17 hp17
 simp only [hpre] at hp17
 subst hp17
 refine K8 ?_
 refine K1a ?_
 refine s_fn cx (c56w s _ (by omega) (hcn.up cx.ext) (hE.up cx.ext)) Tryz.func56 rfl rfl rfl rfl rfl rfl ?_;intro q41 w cx hw41 hp41
 obtain ⟨m,nn,r,bq,rfl,hrl⟩:=hp41
 refine K14 ?_
 have cxB:=cx
 refine s_fn cx (c108w r _ (by omega) (hE.up cx.ext) (ht.up cx.ext)) Tryz.func108 rfl rfl rfl rfl rfl rfl ?_;intro q48 w cx hw48 hp48
 obtain ⟨pv,l,e48,rfl,hrow,hl48⟩:=hp48
 replace cx:=cxB.callRow hw48 hrow
 obtain ⟨a48,c48,rfl⟩:=cx.rowSl
 replace cx:=cx.swapR
 refine Ka ?_
 refine K5l ?_
 refine Kfb ?_
 refine K1 ?_
 refine s_val rfl rfl (v_build (qs:=[(0,.int .i64 m),(1,.int .i64 nn)]) (bdS48 m nn) rfl rfl) ?_
 refine s_val rfl rfl (v_build (qs:=[(0,.slice a48 l.length c48),(1,.agg #[.int .i64 m,.int .i64 nn])]) (bdE52 a48 l.length c48 m nn) rfl rfl) ?_
 refine H2a ?_;intro b61 w cx hb61 hw61
 refine H2b ?_;intro v62 w cx hgr62
 replace cx:=cx.drop 1
 refine SS ?_
 refine K5l ?_
 refine s_store1 (v:=v62) cx 0 rfl rfl rfl rfl rfl cx.oneS rfl rfl sz32 ?_;intro w cx hwS8
 refine Ka ?_
 refine Ka4 ?_
 exact ⟨_,v62,.slice a48 l.length c48,⟨l,m,nn⟩,rfl,hl48,cx⟩
def PQ (b5 b2:Nat)(f0 f1 f2:Int)(lr:Row)(w0 w:World)(i:Nat):Prop:=∃ (ve vc:Value) (ps:List Value) (rs:List Row) (es:List Ent) (cs:List ByteArray),
 Cxr w0 w [(b5,.cells ([.int .i64 f0,.int .i64 f1,.int .i64 f2,ve,vc]:List Value).toArray 35),(b2,.cells ([.int .i64 0,.int .i64 0,.int .i64 0,.slice none 0 0,.slice none 0 0]:List Value).toArray 35)] (⟨52,3,ve,es.length,ecells ps es⟩::⟨9,1,vc,cs.length,cs.map Value.string⟩::rs)∧ps.length=es.length∧(∀ q∈prows 107 ps es,q∈rs)∧es.length+cs.length≤i∧(∀ e∈es,e.path.length≤48)∧(∀ c∈cs,c.size≤10000000)∧lr∈rs
theorem PQ.step {b5 b2:Nat}{f0 f1 f2:Int}{lr:Row}{w0 w:World}{i:Nat}(h:PQ b5 b2 f0 f1 f2 lr w0 w i)(x:ByteArray)(hx:x.size≤1048576)(hi:i≤1048576)(hcn:Cnt w0)(ht:Tabs w0)(hE:Errs w0) :
  Ret Tryz.prog 57 [.pointer (some ⟨b5,0,none⟩),.string x] w (fun v w'=>∃ q:Bool,v=.bool q∧PQ b5 b2 f0 f1 f2 lr w0 w' (i+1)):=by
 obtain ⟨ve,vc,ps,rs,es,cs,cx,hl,hm,hn,hp,hc,hlr⟩:=h
 obtain ⟨s,rfl⟩:∃ s,x=bs s:=⟨_,(bs_of x).symm⟩
 rw [bs_size] at hx
 cases hpre:Lib.hasPrefix s [99,111,108,117,109,110,32] with
 | true =>
  refine Calls.mono (c57cw w0 w b5 cs.length f0 f1 f2 ve vc s _ _ _ cx.swapR (by omega) hx hpre) ?_
  rintro e' w' ⟨v,rfl,q,vc',c,rfl,hcs,cx'⟩
  refine ⟨_,rfl,q,rfl,ve,vc',ps,rs,es,cs++[c],?_,hl,hm,by simp only [List.length_append,List.length_cons,List.length_nil];omega,hp,?_,hlr⟩
  · have h:=cx'.swapR
    exact Bz190
  · intro q hq
    rcases List.mem_append.1 hq with hq | hq
    · exact hc q hq
    · obtain rfl:=List.mem_singleton.1 hq;exact hcs
 | false =>
  refine Calls.mono (c57ew w0 w b5 es.length f0 f1 f2 ve vc s _ _ _ cx (by omega) hx hpre hcn ht hE) ?_
  rintro e' w' ⟨v,rfl,q,ve',p,en,rfl,hpl,cx'⟩
  refine ⟨_,rfl,q,rfl,ve',vc,ps++[p],prow 107 p en::rs,es++[en],cs,?_,by simp [hl],?_,by simp only [List.length_append,List.length_cons,List.length_nil];omega,?_,hc,List.mem_cons_of_mem _ hlr⟩
  · rw [ecells_snoc ps es p en hl]
    exact Bz188
  · rw [prows_snoc 107 ps es p en hl]
    exact Bz110
  · intro q hq
    rcases List.mem_append.1 hq with hq | hq
    · exact hp q hq
    · obtain rfl:=List.mem_singleton.1 hq;exact hpl
theorem PQ.zero {b5 b2:Nat}{f0 f1 f2:Int}{lr:Row}{w0 w:World}(cx:Cxr w0 w [(b5,.cells ([.int .i64 f0,.int .i64 f1,.int .i64 f2,.slice none 0 0,.slice none 0 0]:List Value).toArray 35),(b2,.cells ([.int .i64 0,.int .i64 0,.int .i64 0,.slice none 0 0,.slice none 0 0]:List Value).toArray 35)] [lr]):PQ b5 b2 f0 f1 f2 lr w0 w 0 :=
 ⟨.slice none 0 0,.slice none 0 0,[],[lr],[],[],(cx.nilRow 9 1).nilRow 52 3,rfl,by simp [prows],by simp,by simp,by simp,List.mem_cons_self ..⟩
theorem PQ.cell {b5 b2 g n c:Nat}{f0 f1 f2:Int}{xs:List Value}{w0 w:World}{i j k:Nat}{v:Value}(h:PQ b5 b2 f0 f1 f2 ⟨9,1,.slice (some ⟨g,0,none⟩) n c,n,xs⟩ w0 w i)(hi:xs[k]?=some v)(hj:j=k):w.cell? ⟨g,j,none⟩=some v:=by
 obtain ⟨ve,vc,ps,rs,es,cs,cx,_,_,_,_,_,hlr⟩:=h
 exact row_cell cx (List.mem_cons_of_mem _ (List.mem_cons_of_mem _ hlr)) hi hj
theorem c23w (s:List UInt8)(w0:World)(hs:s.length≤1048576)(hcn:Cnt w0)(ht:Tabs w0)(hE:Errs w0):Fc Tryz.prog 23 [.string (bs s)] w0 (fun v w'=>∃ (r:List Value) (x:Idx) (e:Int),v=.tuple #[.agg r.toArray,.int .i64 e]∧IdxV w' x r∧Szd x∧((e=0∧chkX x=0∧textX x=s)∨(e=3∧x=⟨0,0,0,[],[]⟩))):=by
 refine ret_enter Tryz.func23 rfl Tryz.ntmps23 rfl ?_
 have cx:=Ctx.start w0
 refine K0 ?_
 refine H2c ?_;intro b2 w cx hb2 hw2
 refine K3 ?_
 have cxB:=cx
 refine s_fn cx (c54 s [10] _ (hcn.up cx.ext) (by omega) (by simp)) Tryz.func54 rfl rfl rfl rfl rfl rfl ?_;intro q17 w cx hw17 hp17
 obtain ⟨g,kk,rfl,hkk,hrow⟩:=hp17
 have hls1:=Lib.splitB_all (bs [10]) (by rw [bs_size];decide) 0 (Lib.countB (bs s) (bs [10])) (bs s) rfl
 have hcl:=Lib.countB_le (bs [10]) (by rw [bs_size];decide) _ (bs s) (Nat.le_refl _)
 have hsz:=splitB_sz (bs [10]) (Lib.countB (bs s) (bs [10])) (bs s)
 generalize Lib.splitB (bs [10]) 0 (Lib.countB (bs s) (bs [10])) (bs s)=ls at hrow hls1 hsz
 generalize Lib.countB (bs s) (bs [10])=n0 at hkk hls1 hcl
 rw [bs_size] at hcl hsz
 subst hkk
 replace cx:Cxr w0 w _ [⟨9,1,.slice (some ⟨g,0,none⟩) (n0+1) (n0+1),n0+1,ls.map Value.string⟩]:=cxB.callRow hw17 hrow
 obtain ⟨x0,hx0⟩:∃ x0,ls[0]?=some x0:=⟨_,List.getElem?_eq_getElem (by omega)⟩
 have hx0s:=hsz x0 (List.mem_of_getElem? hx0)
 obtain ⟨a0,rfl⟩:∃ a,x0=bs a:=⟨_,(bs_of x0).symm⟩
 rw [bs_size] at hx0s
 have hl0:(ls.map Value.string)[0]?=some (.string (bs a0)):=by rw [List.getElem?_map,hx0];rfl
 refine K2 ?_
 refine H2c ?_;intro b5 w cx hb5 hw5
 refine K2 ?_
 refine K5m ?_
 refine Kfx ?_
 refine s_fn cx (c55 a0 [105,110,100,101,120,32,98,114,97,99,101,32] _) Tryz.func55 rfl rfl rfl rfl rfl rfl ?_;intro q22 w cx hw22 hp22
 subst hp22
 refine K6 ?_
 refine K2m ?_
 refine H2h ?_;intro w cx hwS4_1
 refine SS ?_
 refine w_cut (fun f w1=>∃ (b5 b2:Nat) (fm:Int) (first:List UInt8) (ok:Bool),first.length≤1048576∧f 0=.string (bs s)∧f 2=.pointer (some ⟨b2,0,none⟩)∧f 4=.slice (some ⟨g,0,none⟩) (n0+1) (n0+1)∧f 5=.pointer (some ⟨b5,0,none⟩)∧f 6=.string (bs first)∧f 7=.bool ok∧Cxr w0 w1 [(b5,.cells ([.int .i64 fm,.int .i64 0,.int .i64 0,.slice none 0 0,.slice none 0 0]:List Value).toArray 35),(b2,.cells ([.int .i64 0,.int .i64 0,.int .i64 0,.slice none 0 0,.slice none 0 0]:List Value).toArray 35)] [⟨9,1,.slice (some ⟨g,0,none⟩) (n0+1) (n0+1),n0+1,ls.map Value.string⟩]) ?_ ?_
 ·
  refine K3 ?_
  refine cSp rfl (fun hc27=>?_) (fun hc27=>?_)
  ·
   refine K1 ?_
   refine K5m ?_
   refine Kfx ?_
   refine s_fn cx (c55 a0 [105,110,100,101,120,32,100,101,108,105,109,32] _) Tryz.func55 rfl rfl rfl rfl rfl rfl ?_;intro q32 w cx hw32 hp32
   subst hp32
   refine K5 ?_
   refine K2m ?_
   refine H2 ?_;intro w cx hwS7_1
   refine SS ?_
   exact Bz36
  refine SS ?_
  exact Bz36
 intro f w hJ
 obtain ⟨b5,b2,fm,first,ok,hfl,hs0,hs2,hs4,hs5,hs6,hs7,cx⟩:=hJ
 refine K2n ?_
 refine s_fn cx (c56w first _ (by omega) (hcn.up cx.ext) (hE.up cx.ext)) Tryz.func56 rfl rfl rfl rfl rfl rfl ?_;intro q38 w cx hw38 hp38
 obtain ⟨m,n,r,bq,rfl,hrl⟩:=hp38
 refine K13 ?_
 refine s_val rfl rfl (v_fa fa35_1 rfl hs5) ?_
 refine s_store1 (v:=.int .i64 m) cx 0 rfl rfl rfl rfl rfl rfl rfl rfl sz3 ?_;intro w cx hwS9_3
 refine s_val rfl rfl (v_fa fa35_2 rfl hs5) ?_
 refine s_store1 (v:=.int .i64 n) cx 0 rfl rfl rfl rfl rfl rfl rfl rfl sz3 ?_;intro w cx hwS9_5
 refine K2 ?_
 refine Kk ?_
 refine K4 ?_
 refine K2j ?_
 refine Ka9 ?_
 refine K1 ?_
 refine cSp rfl (fun hc57=>?_) (fun hc57=>?_)
 ·
  refine K0 ?_
  refine Kc5 ?_
  refine H2j ?_;intro w cx hwS11
  exact Bz37
 refine K3w ?_
 refine K6d ?_
 refine s_val rfl rfl ((show (execOp _ _).run _ _=.ok (.value (.slice (some ⟨g,1,none⟩) (n0-1) n0)) _ from (v_slMid rfl rfl rfl rfl Tryz.underlying33 sz9 (by omega) (by omega) (by omega) (by omega)).trans (by rw [sl63]))) ?_
 refine K2 ?_
 refine w_loop (fun k f w1=>∃ i:Nat,k+i=n0-1∧f 0=.string (bs s)∧f 2=.pointer (some ⟨b2,0,none⟩)∧f 5=.pointer (some ⟨b5,0,none⟩)∧f 63=.slice (some ⟨g,1,none⟩) (n0-1) n0∧f 64=.int .i64 (n0-1:Nat)∧f 65=.int .i64 i∧PQ b5 b2 fm m n ⟨9,1,.slice (some ⟨g,0,none⟩) (n0+1) (n0+1),n0+1,ls.map Value.string⟩ w0 w1 i) (n0-1) ?_ ?_
 ·
  exact ⟨0,by omega,hs0,hs2,hs5,rfl,rfl,rfl,PQ.zero cx⟩
 intro gk13 f w hJ
 obtain ⟨i,hgi,hs0,hs2,hs5,hs63,hs64,hs65,hP⟩:=hJ
 refine K0 ?_
 refine s_val rfl rfl (v_cmp rfl hs65 hs64 rfl) ?_
 refine K0 ?_
 refine cSp rfl (fun hc66=>?_) (fun hc66=>?_)
 ·
  obtain ⟨x,hx⟩:∃ x,ls[i+1]?=some x:=⟨_,List.getElem?_eq_getElem (by omega)⟩
  have hxs:=hsz x (List.mem_of_getElem? hx)
  have hli:(ls.map Value.string)[i+1]?=some (.string x):=by rw [List.getElem?_map,hx];rfl
  refine K3 ?_
  refine Kfs ?_
  refine s_val rfl rfl (v_load1 rfl rfl Tryz.underlying9 rfl (hP.cell (k:=i+1) hli (by omega))) ?_
  refine K3 ?_
  refine s_call (hP.step x (by omega) (by omega) hcn ht hE) Tryz.func57 rfl rfl rfl rfl rfl (cons_eq hs5 (cons_eq rfl rfl)) ?_;rintro v70 w ⟨q70,rfl,hP2⟩
  refine K0 ?_
  refine cSp rfl (fun hc71=>?_) (fun hc71=>?_)
  ·
   refine K0 ?_
   obtain ⟨ve,vc,ps,rs,es,cs,cx,hl,hm,hn,hp,hc,hlr⟩:=hP2
   refine Kc5 ?_
   refine H2j ?_;intro w cx hwS16
   exact Bz37
  exact Bz72
 obtain ⟨ve,vc,ps,rs,es,cs,cx,hl,hm,hn,hp,hc,hlr⟩:=hP
 have hX:IdxV w ⟨fm,m,n,es,cs⟩ [.int .i64 fm,.int .i64 m,.int .i64 n,ve,vc]:=⟨ve,vc,rfl,ens_any cx rfl hl (fun q h=>List.mem_cons_of_mem _ (hm q h)),cls_of cx.swapR rfl⟩
 have hszd:Szd ⟨fm,m,n,es,cs⟩:=⟨by show es.length≤_;omega,by show cs.length≤_;omega,fun c h=>by have:=hc c h;omega,fun e h=>by have:=hp e h;omega⟩
 refine K2 ?_
 refine Kaa ?_
 refine s_fn cx (c21 _ ⟨fm,m,n,es,cs⟩ _ hX (ht.up cx.ext) hszd) Tryz.func21 rfl rfl rfl rfl rfl rfl ?_;intro q76 w cx hw76 hp76
 subst hp76
 refine Ko ?_
 refine Kx ?_
 refine K9d ?_
 refine K0 ?_
 refine cSp rfl (fun hc85=>?_) (fun hc85=>?_)
 ·
  refine K0 ?_
  refine Kc5 ?_
  refine H2j ?_;intro w cx hwS20
  exact Bz37
 refine K1 ?_
 refine Kaa ?_
 refine H2k ?_;intro w cx hwS21
 refine K1 ?_
 refine Kae ?_
 have hck:chkX ⟨fm,m,n,es,cs⟩=0:=hc85.1
 have htx:txtO ⟨fm,m,n,es,cs⟩=s:=hc85.2
 rw [txtO_0 hck] at htx
 exact ⟨cx.ext,_,⟨fm,m,n,es,cs⟩,0,rfl,⟨ve,vc,rfl,ens_any cx rfl hl (fun q h=>List.mem_cons_of_mem _ (hm q h)),cls_of cx.swapR rfl⟩,hszd,.inl ⟨rfl,hck,htx⟩⟩
theorem ne48 (a1 b1 a2 b2:Int)(w:World) :
  (binOp .neq 48 (.agg #[.int .i64 a1,.int .i64 a2]) (.agg #[.int .i64 b1,.int .i64 b2])).run Tryz.prog w=.ok (.bool (!(a1==b1&&a2==b2))) w:=by
 go_simp
 by_cases h1:a1=b1 <;> by_cases h2:a2=b2 <;> simp [h1,h2]
theorem c20t (v u:Value)(l:List Stp)(w0:World)(hv:Pth w0 v l)(hu:Pth w0 u l)(hl:l.length≤140737488355328):Fc Tryz.prog 20 [v,u] w0 (fun v _=>v=.bool true) :=
 (c20 v u l l w0 hv hu hl hl).mono fun v w' _ ⟨r,hv,hr⟩=>by rw [hv,hr.2 rfl]
theorem c11 (r1 r2:List Value)(x:Idx)(w0:World)(h1:IdxV w0 x r1)(h2:IdxV w0 x r2)(hs:Szd x):Fc Tryz.prog 11 [.agg r1.toArray,.agg r2.toArray] w0 (IsB fun b=>b=true):=by
 obtain ⟨ve,vc,rfl,hE,hC⟩:=h1
 obtain ⟨a,c,b,o,rfl,ha,hr⟩:=hE.form
 obtain ⟨a2,c2,b2,o2,rfl,ha2,hr2⟩:=hC.form
 obtain ⟨ue,uc,rfl,hE2,hC2⟩:=h2
 obtain ⟨d,k,bb,oo,rfl,hd,hq⟩:=hE2.form
 obtain ⟨d2,k2,bb2,oo2,rfl,hd2,hq2⟩:=hC2.form
 have hel:=hs.el
 have hcl:=hs.cl
 refine ret_enter Tryz.func11 rfl Tryz.ntmps11 rfl ?_
 have cx:=Ctx.start w0
 refine K0 ?_
 refine Hc ?_;intro b2 w cx hb2 hw2
 refine Hc ?_;intro b3 w cx hb3 hw3
 refine K3 ?_
 refine K2m ?_
 refine K1m ?_
 refine K2m ?_
 refine K2a ?_
 refine K5n ?_
 refine K5h ?_
 refine K5n ?_
 refine Ki ?_
 refine K5o ?_
 refine K5h ?_
 refine K5o ?_
 refine Ki ?_
 refine s_gval rfl rfl rfl wF (fun hc=>v_fa fa35_4 rfl gX) ?_
 refine s_gval rfl rfl rfl wF (fun hc=>v_load1 rfl gX Tryz.underlying33 rfl (cx.cell 1 rfl rfl)) ?_
 refine Ka9 ?_
 refine s_gval rfl rfl rfl wF (fun hc=>v_fa fa35_4 rfl gX) ?_
 refine s_gval rfl rfl rfl wF (fun hc=>v_load1 rfl gX Tryz.underlying33 rfl (cx.cell 0 rfl rfl)) ?_
 refine Ka9 ?_
 refine K1 ?_
 refine s_gval rfl rfl rfl wF (fun hc=>v_fa fa35_3 rfl gX) ?_
 refine s_gval rfl rfl rfl wF (fun hc=>v_load1 rfl gX Tryz.underlying32 rfl (cx.cell 1 rfl rfl)) ?_
 refine Kfy ?_
 refine s_gval rfl rfl rfl wF (fun hc=>v_fa fa35_3 rfl gX) ?_
 refine s_gval rfl rfl rfl wF (fun hc=>v_load1 rfl gX Tryz.underlying32 rfl (cx.cell 0 rfl rfl)) ?_
 refine Kfy ?_
 refine K1 ?_
 refine c_split rfl (fun hc43=>?_) (fun hc43=>?_)
 ·
  exact absurd hc43 (by simp)
 try simp only [bsl] at hc43
 refine K5 ?_
 refine w_loop (fun g f w1=>∃ i b1 b3:Nat,g+i=x.cols.length∧f 2=.pointer (some ⟨b1,0,none⟩)∧f 3=.pointer (some ⟨b3,0,none⟩)∧f 5=.int .i64 i∧Ctx w0 w1 [(b3,.cells ([.int .i64 x.fmt,.int .i64 x.size,.int .i64 x.depth,.slice d x.ents.length k,.slice d2 x.cols.length k2]:List Value).toArray 35),(b1,.cells ([.int .i64 x.fmt,.int .i64 x.size,.int .i64 x.depth,.slice a x.ents.length c,.slice a2 x.cols.length c2]:List Value).toArray 35)]) (x.cols.length) ?_ ?_
 ·
  exact ⟨0,_,_,by omega,rfl,rfl,rfl,cx⟩
 intro gk4 f w hJ
 obtain ⟨i,b1,b3,hgi,hs2,hs3,hs5,cx⟩:=hJ
 refine Kf ?_
 refine s_val rfl rfl (v_fa fa35_4 rfl hs2) ?_
 refine Kfq ?_
 refine K1 ?_
 refine cSp rfl (fun hc48=>?_) (fun hc48=>?_)
 ·
  obtain ⟨y,hy⟩:∃ y,x.cols[i]?=some y:=⟨x.cols[i]'(by omega),List.getElem?_eq_getElem _⟩
  have hrw:=hr2 i y hy
  have hrx:=hq2 i y hy
  obtain rfl:=ha2 (by omega)
  obtain rfl:=hd2 (by omega)
  refine K6a ?_
  refine q_val rfl rfl (fun w cx hwQ=>v_fa fa35_4 rfl hs2) ?_
  refine q_val rfl rfl (fun w cx hwQ=>v_load1 rfl rfl Tryz.underlying33 rfl (cx.cell 1 rfl rfl)) ?_
  refine K8u ?_
  refine Kfz ?_
  refine q_val rfl rfl (fun w cx hwQ=>v_load1 rfl rfl Tryz.underlying9 rfl ((hrw.up cx.ext).cell 0 rfl)) ?_
  refine q_val rfl rfl (fun w cx hwQ=>v_fa fa35_4 rfl hs3) ?_
  refine q_val rfl rfl (fun w cx hwQ=>v_load1 rfl rfl Tryz.underlying33 rfl (cx.cell 0 rfl rfl)) ?_
  refine K8u ?_
  refine Kfz ?_
  refine q_val rfl rfl (fun w cx hwQ=>v_load1 rfl rfl Tryz.underlying9 rfl ((hrx.up cx.ext).cell 0 rfl)) ?_
  refine q_val rfl rfl (fun w cx hwQ=>v_strNe rfl rfl rfl) ?_
  refine q_nil ?_;rintro w ⟨cx,hwQ6⟩
  refine c_split rfl (fun hc61=>?_) (fun hc61=>?_)
  ·
   exact absurd hc61 (by simp)
  try simp only [bsl] at hc61
  refine K60 ?_
  exact ⟨gk4-1,_,by omega,rfl,i+1,b1,b3,by omega,hs2,hs3,rfl,cx⟩
 refine K5 ?_
 refine w_loop (fun g f w1=>∃ i b1 b3:Nat,g+i=x.ents.length∧f 2=.pointer (some ⟨b1,0,none⟩)∧f 3=.pointer (some ⟨b3,0,none⟩)∧f 6=.int .i64 i∧Ctx w0 w1 [(b3,.cells ([.int .i64 x.fmt,.int .i64 x.size,.int .i64 x.depth,.slice d x.ents.length k,.slice d2 x.cols.length k2]:List Value).toArray 35),(b1,.cells ([.int .i64 x.fmt,.int .i64 x.size,.int .i64 x.depth,.slice a x.ents.length c,.slice a2 x.cols.length c2]:List Value).toArray 35)]) (x.ents.length) ?_ ?_
 ·
  exact ⟨0,b1,b3,by omega,hs2,hs3,rfl,cx⟩
 intro gk9 f w hJ
 obtain ⟨i,b1,b3,hgi,hs2,hs3,hs6,cx⟩:=hJ
 refine K11 ?_
 refine s_val rfl rfl (v_fa fa35_3 rfl hs2) ?_
 refine Kbw ?_
 refine K7t ?_
 refine K0 ?_
 refine cSp rfl (fun hc66=>?_) (fun hc66=>?_)
 ·
  obtain ⟨e,he⟩:∃ e,x.ents[i]?=some e:=⟨x.ents[i]'(by omega),List.getElem?_eq_getElem _⟩
  obtain ⟨p,hrw,hp⟩:=hr i e he
  obtain ⟨p2,hrx,hp2⟩:=hq i e he
  obtain rfl:=ha (by omega)
  obtain rfl:=hd (by omega)
  have hpl:=hs.pl e (List.mem_of_getElem? he)
  refine K6a ?_
  refine q_val rfl rfl (fun w cx hwQ=>v_fa fa35_3 rfl hs2) ?_
  refine q_val rfl rfl (fun w cx hwQ=>v_load1 rfl rfl Tryz.underlying32 rfl (cx.cell 1 rfl rfl)) ?_
  refine K7c ?_
  refine Kc1 ?_
  refine K7v ?_
  refine Kfl ?_
  refine q_val rfl rfl (fun w cx hwQ=>v_fa fa35_3 rfl hs3) ?_
  refine Kfk ?_
  refine K7c ?_
  refine Kc1 ?_
  refine K7v ?_
  refine q_val rfl rfl (fun w cx hwQ=>v_load rfl rfl Tryz.underlying48 rfl sz48 (l:=[.int .i64 e.fr,.int .i64 e.to]) ((hrx.up cx.ext).sub 1 rfl) rfl) ?_
  refine q_val rfl rfl (fun w cx hwQ=>v_agg eqg48 (ne48 _ _ _ _) rfl rfl rfl) ?_
  refine Kj ?_
  refine q_gval rfl rfl rfl wF (fun hc w cx hwQ=>v_fa fa35_3 rfl hs2) ?_
  refine q_gval rfl rfl rfl wF (fun hc w cx hwQ=>v_load1 rfl gX Tryz.underlying32 rfl (cx.cell 1 rfl rfl)) ?_
  refine q_gval rfl rfl rfl wF (fun hc w cx hwQ=>v_move rfl hs6) ?_
  refine Kg0 ?_
  refine q_gval rfl rfl rfl wF (fun hc w cx hwQ=>v_fa fa52_0 rfl gX) ?_
  refine q_gval rfl rfl rfl wF (fun hc w cx hwQ=>v_load1 rfl gX Tryz.underlying28 rfl ((hrw.up cx.ext).cell 0 rfl)) ?_
  refine q_gval rfl rfl rfl wF (fun hc w cx hwQ=>v_fa fa35_3 rfl hs3) ?_
  refine q_gval rfl rfl rfl wF (fun hc w cx hwQ=>v_load1 rfl gX Tryz.underlying32 rfl (cx.cell 0 rfl rfl)) ?_
  refine q_gval rfl rfl rfl wF (fun hc w cx hwQ=>v_move rfl hs6) ?_
  refine Kg0 ?_
  refine q_gval rfl rfl rfl wF (fun hc w cx hwQ=>v_fa fa52_0 rfl gX) ?_
  refine q_gval rfl rfl rfl wF (fun hc w cx hwQ=>v_load1 rfl gX Tryz.underlying28 rfl ((hrx.up cx.ext).cell 0 rfl)) ?_
  refine q_gcall (v:=.bool true) rfl rfl rfl wF (fun hc=>runs_fn Tryz.func20 rfl rfl rfl (cons_eq p1fq (cons_eq p1fq rfl))) (fun hc w cx hwQ=>c20t _ _ e.path _ (hp.up cx.ext) (hp2.up cx.ext) (by omega)) ?_
  refine q_gval rfl rfl rfl wF (fun hc w cx hwQ=>v_not rfl gX) ?_
  refine K30 ?_
  refine q_nil ?_;rintro w ⟨cx,hwQ11⟩
  refine c_split rfl (fun hc97=>?_) (fun hc97=>?_)
  ·
   exact absurd hc97 (by simp)
  try simp only [bsl] at hc97
  refine K6b ?_
  exact ⟨gk9-1,_,by omega,rfl,i+1,b1,b3,by omega,hs2,hs3,rfl,cx⟩
 refine K4 ?_
 refine ret_tmp Tryz.results11 rfl ?_
 exact ⟨cx.ext,true,rfl,rfl⟩
theorem joinL_ge:∀ ls:List (List UInt8),ls.length≤(joinL ls).length
 | []=>Nat.le_refl _
 | l::ls=>by
  have:=joinL_ge ls
  rw [joinL_cons]
  simp only [List.length_append,List.length_cons]
  omega
theorem joinL_last (ls:List (List UInt8))(h:ls≠[]):(joinL ls).getLast?=some 10:=by
 rw [← List.dropLast_concat_getLast h,joinL_append]
 simp [joinL]
theorem last_byte {s:List UInt8}(hne:0<s.length):(byteAt (bs s) (((bs s).size:Nat)-1:Int)=10↔s.getLast?=some 10):=by
 rw [byteAt_bs,bs_size,show ((s.length:Int)-1).toNat=s.length-1 by omega,List.getLast?_eq_getElem?,List.getD_eq_getElem?_getD]
 obtain ⟨c,hc⟩:∃ c,s[s.length-1]?=some c:=⟨_,List.getElem?_eq_getElem (by omega)⟩
 rw [hc]
 simp only [Option.getD_some,Option.some.injEq]
 constructor
 · intro h
   exact UInt8.toNat_inj.1 (by show c.toNat=10;omega)
 · rintro rfl;rfl
theorem c23x (s:List UInt8)(w0:World)(hs:s.length≤1000)(hcn:Cnt w0)(ht:Tabs w0)(hE:Errs w0):Fc Tryz.prog 23 [.string (bs s)] w0 (fun v w'=>∃ (r:List Value) (x:Idx) (e:Int),v=.tuple #[.agg r.toArray,.int .i64 e]∧IdxV w' x r∧Szd x∧((e=0∧chkX x=0∧textX x=s)∨(e=3∧x=⟨0,0,0,[],[]⟩∧∀ y,Szd y→chkX y=0→textX y≠s))):=by
 by_cases h:∃ y,Szd y∧chkX y=0∧textX y=s
 · obtain ⟨y,h1,h2,rfl⟩:=h
   have h3:(linesX y).length≤(textX y).length:=by
    rw [textX_lines];exact joinL_ge _
   rw [linesX_len] at h3
   refine (c23 y w0 h2 (by omega) (by omega) h1 hcn ht).mono fun v w' _ ⟨r,hv,hr⟩=>?_
   exact ⟨r,y,0,hv,hr,h1,.inl ⟨rfl,h2,rfl⟩⟩
 · refine (c23w s w0 (by omega) hcn ht hE).mono fun v w' _ ⟨r,x,e,hv,hr,hz,hd⟩=>?_
   refine ⟨r,x,e,hv,hr,hz,?_⟩
   rcases hd with ⟨h1,h2,h3⟩ | ⟨h1,h2⟩
   · exact absurd ⟨x,hz,h2,h3⟩ h
   · exact .inr ⟨h1,h2,fun y a b c=>h ⟨y,a,b,c⟩⟩
theorem same_idx {s:List UInt8}{x y:Idx}{e f:Int}(hx:(e=0∧chkX x=0∧textX x=s)∨(e=3∧x=⟨0,0,0,[],[]⟩∧∀ y,Szd y→chkX y=0→textX y≠s))
  (hy:(f=0∧chkX y=0∧textX y=s)∨(f=3∧y=⟨0,0,0,[],[]⟩)) (hz:Szd y) (hu:∀ x0,chkX x0=0→s=textX x0→y=x0∧f=0):y=x∧f=e:=by
 rcases hx with ⟨rfl,h1,h2⟩ | ⟨rfl,rfl,h3⟩
 · exact hu x h1 h2.symm
 · rcases hy with ⟨rfl,h1,h2⟩ | ⟨rfl,rfl⟩
   · exact absurd h2 (h3 y hz h1)
   · exact ⟨rfl,rfl⟩
theorem bad_end {s:List UInt8}{x:Idx}{e:Int}(h:(e=0∧chkX x=0∧textX x=s)∨(e=3∧x=⟨0,0,0,[],[]⟩))(hs:s.getLast?≠some 10):e=3:=by
 rcases h with ⟨rfl,h1,h2⟩ | ⟨rfl,_⟩
 · exact absurd (by rw [← h2,textX_lines];exact joinL_last _ (by intro h;have:=congrArg List.length h;rw [linesX_len] at this;simp at this)) hs
 · rfl
theorem lawP (s:List UInt8)(w0:World)(hs:s.length≤1048576)(ht:Tabs w0)(hcn:Cnt w0)(hE:Errs w0):Fc Tryz.prog 6 [.string (bs s)] w0 (IsB fun b=>b=true):=by
 refine ret_enter Tryz.func6 rfl Tryz.ntmps6 rfl ?_
 have cx:=Ctx.start w0
 refine K6 ?_
 refine K51 ?_
 refine K1 ?_
 refine Kam ?_
 refine K2 ?_
 refine s_gval rfl rfl rfl wT (fun hc=>v_lenString rfl gX Tryz.underlying9) ?_
 refine K8r ?_
 refine K52 ?_
 refine K2 ?_
 refine cSp rfl (fun hc24=>?_) (fun hc24=>?_)
 ·
  refine K1 ?_
  refine s_fn cx (c23w s _ hs (hcn.up cx.ext) (ht.up cx.ext) (hE.up cx.ext)) Tryz.func23 rfl rfl rfl rfl rfl rfl ?_;intro q27 w cx hw27 hp27
  obtain ⟨r27,x27,e27,rfl,hX27,hz27,hd27⟩:=hp27
  obtain ⟨ve27,vc27,rfl,hE27,hC27⟩:=id hX27
  obtain ⟨a27,n27,_,_,rfl,_,_⟩:=hE27.form
  obtain ⟨d27,m27,_,_,rfl,_,_⟩:=hC27.form
  refine K1 ?_
  refine H2c ?_;intro b3 w cx hb3 hw3
  refine H2i ?_;intro w cx _
  refine K3 ?_
  refine K51 ?_
  refine K4 ?_
  refine H2m ?_;intro q38 w cx hw38 hp38
  refine K2 ?_
  refine ret_tmp Tryz.results6 rfl ?_
  have hcd:(decide (600<((bs s).size:Int))||e27==3)=true:=by
   simp only [Bool.or_eq_true,decide_eq_true_eq,beq_iff_eq]
   rcases hc24 with h | ⟨h1,h2⟩
   · exact .inl h
   · right
     rw [bs_size] at h1
     exact bad_end hd27 fun h=>h2 ((last_byte (by omega)).2 h)
  refine Kq ?_
  simp only [Bool.and_eq_true]
  exact ⟨hcd,hp38 hcd⟩
 rw [bs_size] at hc24
 have hsl:s.length≤1000:=by omega
 obtain ⟨ls,rfl,hln⟩:∃ ls,s=joinL ls∧∀ l∈ls,∀ x∈l,x≠10:=lines_all s (by
  rcases hc24.2 with h | h
  · exact .inl (List.eq_nil_of_length_eq_zero (by omega))
  · by_cases hne:0<s.length
    · exact .inr ((last_byte hne).1 (by rw [bs_size];exact h))
    · exact .inl (List.eq_nil_of_length_eq_zero (by omega)))
 refine K2 ?_
 refine s_fn cx (c23x (joinL ls) _ hsl (hcn.up cx.ext) (ht.up cx.ext) (hE.up cx.ext)) Tryz.func23 rfl rfl rfl rfl rfl rfl ?_;intro q42 w cx hw42 hp42
 obtain ⟨r42,x42,e42,rfl,hX42,hz42,hd42⟩:=hp42
 obtain ⟨ve42,vc42,rfl,hE42,hC42⟩:=id hX42
 obtain ⟨a42,n42,_,_,rfl,_,_⟩:=hE42.form
 obtain ⟨d42,m42,_,_,rfl,_,_⟩:=hC42.form
 have hB1:=cx.ext
 replace cx:=Ctx.start w
 refine K1 ?_
 refine H2c ?_;intro b5 w cx hb5 hw5
 refine H2i ?_;intro w cx _
 refine K3 ?_
 refine s_fn cx (c24 ls _ hln hsl) Tryz.func24 rfl rfl rfl rfl rfl rfl ?_;intro q47 w cx hw47 hp47
 obtain ⟨r47,x47,e47,rfl,hX47,hd47,hz47,hu47⟩:=hp47
 obtain ⟨ve47,vc47,rfl,hE47,hC47⟩:=id hX47
 obtain ⟨a47,n47,_,_,rfl,_,_⟩:=hE47.form
 obtain ⟨d47,m47,_,_,rfl,_,_⟩:=hC47.form
 obtain ⟨rfl,rfl⟩:=same_idx hd42 hd47 hz47 hu47
 have hrow5:=cx.row 0 rfl
 have hB2:=hB1.trans (cx.ext.mono hB1.size)
 replace hX42:=hX42.up cx.ext
 replace cx:=Ctx.start w
 refine K1 ?_
 refine H2c ?_;intro b7 w cx hb7 hw7
 refine H2i ?_;intro w cx _
 refine K2 ?_
 refine s_val rfl rfl (v_load rfl rfl Tryz.underlying35 rfl sz35 (hrow5.up cx.ext) rfl) ?_
 refine Kc2 ?_
 refine s_fn cx (c11 _ _ x47 _ (hX42.up cx.ext) (hX47.up cx.ext) hz42) Tryz.func11 rfl rfl rfl rfl rfl rfl ?_;intro q52 w cx hw52 hp52
 obtain ⟨q52b,rfl,rfl⟩:=hp52
 refine K4 ?_
 refine H2m ?_;intro q59 w cx hw59 hp59
 refine K2 ?_
 refine ret_tmp Tryz.results6 rfl ?_
 refine ⟨hB2.trans (cx.ext.mono hB2.size),_,rfl,?_⟩
 have h59:q59=true:=hp59 (by simp)
 simp [h59]
end Go.Proofs.YthiafbkolhnadaaGreatDoor
end
section
namespace Go.Proofs.YthiafbkolhnadaaGreatDoor
open Go Go.Dk Go.RowKit
open Rows (uptoBulk uptoBulkAll)
section
variable {H:Type}
variable {enc:TypeId×Value→H} {w:World} {base:Nat} {spare:Nat→Bool} {held:Bool}
theorem rd_string {t n:Nat}{cs:List Value}{x:DataW H×List MemPlace}(ht:Tryz.prog.underlying t=some .string)(h:DataW.trod enc Tryz.prog w base spare held n t cs=some x):∃ s:ByteArray,cs=[.string s]∧s.size+1≤uptoBulk x.1:=by
 obtain ⟨s,h1,rfl,_⟩:=DataW.trod_string ht h
 refine ⟨s,h1,?_⟩
 simp only [uptoBulk,Array.length_toList]
 exact Nat.le_refl _
end
end Go.Proofs.YthiafbkolhnadaaGreatDoor
end
section
namespace Go.Proofs.YthiafbkolhnadaaGreatDoor
open Go Go.Dk Go.RowKit Go.Lib
set_option maxRecDepth 100000
theorem tab_reads {P:Program}{W:World}{name:String}{k:IntKind}{zs:List Int}{g:Nat}{t e:TypeId}{n:Nat}
  (hg:P.globalNamed name=some g) (hty:(P.globals[g]?).map (·.type)=some t) (ht:P.underlying t=some (.array n e)) (he:P.underlying e=some (.int k)) (hce:P.cellsOf e=1) (hct:P.cellsOf t=n)
  (h:VarReads P W name (tabData k zs)):TabIs P W name k zs:=by
 obtain ⟨g',t',cs,fuel,p,hg',ht',hvar,hd⟩:=h
 obtain rfl:=Option.some.inj (hg.symm.trans hg')
 obtain rfl:=Option.some.inj (hty.symm.trans ht')
 unfold TabIs
 rw [hvar,← cells_of_tab ht he hce hct hd]
theorem pow_eq:(Rows.laid_internal_strconv_uint64pow10:DataW Unit)=tabData .u64 pow10Tab:=by kernel_rfl
theorem bit_eq:(Rows.laid_math_bits_deBruijn64tab:DataW Unit)=tabData .u8 (deBruijn64tab.map fun n:Nat=>(n:Int)):=by kernel_rfl
theorem first_eq:(Rows.laid_unicode_utf8_first:DataW Unit)=firstData:=by kernel_rfl
theorem acc_eq:(Rows.laid_unicode_utf8_acceptRanges:DataW Unit)=acceptData:=by kernel_rfl
theorem ce5:Tryz.prog.cellsOf 5=1:=by kernel_rfl
theorem tabs_of {W : World} (h2 : VarReads Tryz.prog W "math/bits.deBruijn64tab" Rows.laid_math_bits_deBruijn64tab) (h3 : VarReads Tryz.prog W "internal/strconv.uint64pow10" Rows.laid_internal_strconv_uint64pow10)
  (h4 : VarReads Tryz.prog W "unicode/utf8.acceptRanges" Rows.laid_unicode_utf8_acceptRanges) (h5 : VarReads Tryz.prog W "unicode/utf8.first" Rows.laid_unicode_utf8_first) : Tabs W := by
 rw [pow_eq] at h3
 rw [bit_eq] at h2
 rw [first_eq] at h5
 rw [acc_eq] at h4
 have g5 : Tryz.prog.globalNamed "unicode/utf8.first" = some 0 := by kernel_rfl
 have g4 : Tryz.prog.globalNamed "unicode/utf8.acceptRanges" = some 1 := by kernel_rfl
 have g2 : Tryz.prog.globalNamed "math/bits.deBruijn64tab" = some 7 := by kernel_rfl
 have e2:=tab_reads g2 (t:=406) p1q Tryz.underlying406 Tryz.underlying5 ce5 p1q h2
 have e5:=tab_reads g5 (t:=233) p1q Tryz.underlying233 Tryz.underlying5 ce5 p1q h5
 refine ⟨tab_reads (g:=2) (t:=358) p1q p1q Tryz.underlying358 Tryz.underlying299 p1q p1q h3,fun j hj=>?_,fun c hc=>?_,fun i hi=>?_⟩
 · have h:=e2.cell g2 j (by rw [List.length_map];exact hj)
   rw [h]
   congr 2
   have hj':j<deBruijn64tab.length:=hj
   simp [List.getD,List.getElem?_map,List.getElem?_eq_getElem hj']
 · have hc':c<firstTab.length:=by unfold firstTab;simpa using hc
   have h:=e5.cell g5 c hc'
   rw [h]
   congr 2
   unfold firstTab
   simp [List.getD,hc]
 · obtain ⟨g,t,cs,fuel,p,hg,hty,hvar,hd⟩:=h4
   obtain rfl:=Option.some.inj (g4.symm.trans hg)
   obtain rfl:236=t:=Option.some.inj ((show (Tryz.prog.globals[1]?).map (·.type)=some 236 by kernel_rfl).symm.trans hty)
   obtain ⟨fuel',d,q,hdi,he⟩:=array_elem Tryz.underlying236 hd i hi
   simp only [List.getElem?_map,List.getElem?_range hi,Option.map_some,Option.some.injEq] at hdi
   subst hdi
   have c235:Tryz.prog.cellsOf 235=2:=by kernel_rfl
   rw [c235] at he
   have hcs:=ints_of_struct Tryz.underlying235 (fun j f hj=>by
    match j,hj with
    | 0,hj=>simp at hj;subst hj;exact ⟨Tryz.underlying5,rfl,ce5⟩
    | 1,hj=>simp at hj;subst hj;exact ⟨Tryz.underlying5,rfl,ce5⟩
    | j+2,hj=>simp at hj) (by rw [c235];rfl) he
   have e0:=congrArg (·[0]?) hcs
   have e1:=congrArg (·[1]?) hcs
   simp only [List.getElem?_take,List.getElem?_drop] at e0 e1
   constructor
   · rw [World.var?_cell hg hvar (2*i),← Array.getElem?_toList]
     simpa [Nat.mul_comm] using e0
   · rw [World.var?_cell hg hvar (2*i+1),← Array.getElem?_toList]
     simpa [Nat.mul_comm] using e1
set_option maxRecDepth 100000
theorem rd_iface {H:Type}{enc:TypeId×Value→H}{P:Program}{w:World}{base:Nat}{spare:Nat→Bool}{held:Bool}{t n:Nat}{ms:Array (String×TypeId)}{cs:List Value}{x:DataW H×List MemPlace}(ht:P.underlying t=some (.interface ms))(h:DataW.trod enc P w base spare held n t cs=some x):∃ u,cs=[u]∧IsE u:=by
 cases n with
 | zero=>cases h
 | succ n =>
  unfold DataW.trod at h
  rw [ht] at h
  split at h <;> first | (rename_i e;cases e) | skip
  all_goals first | cases h | skip
  all_goals first | exact ⟨_,rfl,.inl rfl⟩ | exact ⟨_,rfl,.inr ⟨_,_,rfl⟩⟩ | skip
theorem err_reads {P:Program}{W:World}{name:String}{d:DataW Unit}{g t:Nat}{ms:Array (String×TypeId)}(hg:P.globalNamed name=some g)(hty:(P.globals[g]?).map (·.type)=some t)(ht:P.underlying t=some (.interface ms))(h:VarReads P W name d):∃ ev,W.cell? ⟨g,0,none⟩=some ev∧IsE ev:=by
 obtain ⟨g',t',cs,fuel,p,hg',ht',hvar,hd⟩:=h
 obtain rfl:=Option.some.inj (hg.symm.trans hg')
 obtain rfl:=Option.some.inj (hty.symm.trans ht')
 obtain ⟨u,hu,he⟩:=rd_iface ht hd
 refine ⟨u,?_,he⟩
 rw [World.var?_cell hg hvar 0,← Array.getElem?_toList,hu]
 rfl
theorem errs_of {W : World} (h1 : VarReads Tryz.prog W "strconv.ErrRange" Rows.laid_strconv_ErrRange) (h2 : VarReads Tryz.prog W "strconv.ErrSyntax" Rows.laid_strconv_ErrSyntax) : Errs W :=
 ⟨err_reads (g:=4) (t:=184) p1q p1q Tryz.underlying184 h2,err_reads (g:=5) (t:=184) p1q p1q Tryz.underlying184 h1⟩
end Go.Proofs.YthiafbkolhnadaaGreatDoor
end
section
namespace Go.Proofs.YthiafbkolhnadaaGreatDoor.indexParses
open Go Go.Dk Go.ChangeShapes Go.WideShapes Go.ChangeAt Go.RowKit
theorem own:ownKnob Tryz.prog.godebug=none:=by kernel_rfl
theorem laidOut:laidOutB Tryz.prog=true:=by kernel_rfl
theorem laid_met (os:Os):laidMet Tryz.prog Rows.indexParsesUptoRow.laid ((World.laidAll Tryz.prog os Rows.indexParsesUptoRow.laid).forCall (fun _ _=>0) ⟨#[],#[.string ⟨#[]⟩],[]⟩).memory :=
 laidMet_laidAll _ p1q p1q
theorem reads (os:Os){H:Type}(enc:TypeId×Value→H):∃ places,DataW.whole enc Tryz.prog ((World.laidAll Tryz.prog os Rows.indexParsesUptoRow.laid).forCall (fun _ _=>0) ⟨#[],#[.string ⟨#[]⟩],[]⟩).memory Tryz.f6.params.toList Rows.indexParsesSpec.vars false (#[.string ⟨#[]⟩]:Array Value).toList 8=some ([.lit (.string [])],[],places) :=
 ⟨[],by kernel_rfl⟩
theorem tabs {W:World}(h:laidMetH Tryz.prog Rows.indexParsesUptoRow.laid W):Tabs W:=by
 rw [MakeChecks.laidMetH_plain _ _ _ p1q] at h
 exact tabs_of (Go.Lib.laidMet.reads h (List.mem_cons_of_mem _ (List.mem_cons_self ..))) (Go.Lib.laidMet.reads h (List.mem_cons_of_mem _ (List.mem_cons_of_mem _ (List.mem_cons_self ..)))) (Go.Lib.laidMet.reads h (List.mem_cons_of_mem _ (List.mem_cons_of_mem _ (List.mem_cons_of_mem _ (List.mem_cons_self ..))))) (Go.Lib.laidMet.reads h (List.mem_cons_of_mem _ (List.mem_cons_of_mem _ (List.mem_cons_of_mem _ (List.mem_cons_of_mem _ (List.mem_cons_of_mem _ (List.mem_cons_of_mem _ (List.mem_cons_self ..))))))))
theorem errs {W:World}(h:laidMetH Tryz.prog Rows.indexParsesUptoRow.laid W):Errs W:=by
 rw [MakeChecks.laidMetH_plain _ _ _ p1q] at h
 exact errs_of (Go.Lib.laidMet.reads h (List.mem_cons_of_mem _ (List.mem_cons_of_mem _ (List.mem_cons_of_mem _ (List.mem_cons_of_mem _ (List.mem_cons_self ..)))))) (Go.Lib.laidMet.reads h (List.mem_cons_of_mem _ (List.mem_cons_of_mem _ (List.mem_cons_of_mem _ (List.mem_cons_of_mem _ (List.mem_cons_of_mem _ (List.mem_cons_self ..)))))))
theorem lifted (os:Os)(started:os.Started)(H:Type)(enc:TypeId×Value→H)(F:Stop.Interp) :
  ReturnsInHanded {} Tryz.checked os 6 .any ((Rows.OpenSpec.upto Rows.indexParsesSpec).preRow enc Tryz.prog Tryz.f6 Rows.indexParsesUptoRow.domain false Rows.indexParsesUptoRow.laid) (((Rows.OpenSpec.upto Rows.indexParsesSpec).at F).post enc Tryz.prog Tryz.f6 false true false false):=by
 obtain ⟨places,hx⟩:=reads os enc
 refine returnsInHanded_of_row (C:=Tryz.checked) (s:=Rows.OpenSpec.upto Rows.indexParsesSpec) own started p1q Tryz.func6
  (witness_row_at (enc:=enc) (C:=Tryz.checked) false (World.laidAll Tryz.prog os Rows.indexParsesUptoRow.laid) #[.string ⟨#[]⟩] (World.laidAll_os _ _ _) p1q p1q p1q
    (OpenSpec.preRow_of_cond 8 hx p1q (fun k hk=>by cases hk;kernel_rfl) p1q (laid_met os))) ?_
 intro W base args ds gs before hval hW _ hcond _ hL hsh _
 have hk:=hcond _ rfl
 have ht:=tabs hL
 have hE:=errs hL
 have hcn:Cnt W:=Go.Proofs.cell_of_shapedOpen_int (P:=Tryz.prog) (g:=3) (t:=3) (zero:=#[.int .i64 0]) hsh (of_decide_eq_true p1q) p1q rfl p1q p1q Tryz.underlying3
 have hW':=hW
 obtain ⟨p,q,hA0,hV,rfl,hfz,hnd⟩:=hW
 have hA:DataW.TrodAll enc Tryz.prog W 0 (fun _=>true) true Tryz.f6.params.toList args.toList ds p:=hA0
 rw [Tryz.params6] at hA hval
 obtain ⟨v0,vs0,d0,ds0,p0,q0,hargs,rfl,rfl,h0,r0⟩:=trodAll_cons hA
 obtain ⟨rfl,rfl,rfl⟩:=trodAll_nil r0
 obtain rfl:args=#[v0]:=by cases args;simp_all
 obtain ⟨rfl,rfl⟩:=trodVars_none hV
 have k0:=h0
 have lt0:∀ x∈p0,x.block<W.heap.size:=by obtain ⟨m,hm⟩:=k0;exact DataW.trod_lt m _ _ _ hm
 obtain ⟨m0,t0⟩:=h0
 have hbulk:Rows.uptoBulk d0≤1048576:=by
  have:=of_decide_eq_true hk
  simp only [List.append_nil,Rows.uptoBulkAll] at this
  omega
 obtain ⟨s0,e0,hs0⟩:=rd_string Tryz.underlying9 t0
 have hs0b:s0.size≤1048576:=by have:s0.size+1≤Rows.uptoBulk d0:=hs0;omega
 obtain ⟨z0,rfl⟩:=okWide_string Tryz.underlying9 (hval 0 9 v0 rfl rfl)
 obtain rfl:z0=s0:=by simpa [Value.cells] using e0
 obtain ⟨b0,rfl⟩:∃ b,z0=bs b:=⟨_,(bs_of z0).symm⟩
 rw [bs_size] at hs0b
 clear hA0
 refine Calls.mono (lawP b0 W hs0b ht hcn hE) fun e W' ⟨r,he,bel,b,hr,hb⟩=>?_
 subst hr hb he
 exact ⟨_,rfl,_,_,_,[],_,[],hW',trodAll_mk1 (shut_bool Tryz.underlying4 _),(trodAll_cons_mk (Below.trod laidOut p1q (of_decide_eq_true p1q) k0 bel lt0) trodAll_mk0),rfl,bel.frame _,fun h=>by cases h⟩
end Go.Proofs.YthiafbkolhnadaaGreatDoor.indexParses
end
