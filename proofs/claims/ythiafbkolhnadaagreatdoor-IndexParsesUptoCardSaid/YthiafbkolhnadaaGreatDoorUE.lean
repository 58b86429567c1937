/-
  Several texts in one: Iu, Iv, Iw, Iy, Ix, Iz, Rc, J0, Ih, Rq, Rp, Rr, Rw, Rx, J1, J2, Js, J3, Jp
-/
import Derived.Test.YthiafbkolhnadaaGreatDoorUD
set_option linter.unusedSimpArgs false
set_option linter.unusedVariables false
set_option maxHeartbeats 4000000
set_option maxRecDepth 10000
section
namespace Go.Proofs.YthiafbkolhnadaaGreatDoor
open Go Go.Dk Go.RowKit Go.Lib
attribute [local irreducible] Go.wpList Go.Code.wp Go.bodyPost Go.wpStill Go.wpQuiet
theorem bd133z (w:World):(Instr.build 133 ([]:List (Nat×Value)).toArray).run Tryz.prog w=.ok (.agg (.string ByteArray.empty::(vrow sc0 (.slice none 0 0) (.slice none 0 0) (.slice none 0 0))).toArray) w:=by
 unfold vrow sc0
 go_simp
 try rfl
theorem bd133k (k:ByteArray)(sc:Sc)(a1:Option Addr)(n1 c1:Nat)(a2:Option Addr)(n2 c2:Nat)(a3:Option Addr)(n3 c3:Nat)(w:World):(Instr.build 133 ([(0,.string k),(1,.agg (vrow sc (.slice a1 n1 c1) (.slice a2 n2 c2) (.slice a3 n3 c3)).toArray)]:List (Nat×Value)).toArray).run Tryz.prog w=.ok (.agg (.string k::vrow sc (.slice a1 n1 c1) (.slice a2 n2 c2) (.slice a3 n3 c3)).toArray) w:=by
 unfold vrow
 go_simp
 try rfl
theorem bd836 (w:World):(Instr.build 83 ([(0,.int .i64 6)]:List (Nat×Value)).toArray).run Tryz.prog w=.ok (.agg (vrow ⟨6,false,false,ByteArray.empty,0,0,0,0,0,ByteArray.empty⟩ (.slice none 0 0) (.slice none 0 0) (.slice none 0 0)).toArray) w:=by
 unfold vrow
 go_simp
 try rfl
theorem bd837 (w:World):(Instr.build 83 ([(0,.int .i64 7)]:List (Nat×Value)).toArray).run Tryz.prog w=.ok (.agg (vrow ⟨7,false,false,ByteArray.empty,0,0,0,0,0,ByteArray.empty⟩ (.slice none 0 0) (.slice none 0 0) (.slice none 0 0)).toArray) w:=by
 unfold vrow
 go_simp
 try rfl
def VC (D dd:Nat):Prop:=∀ (s:List UInt8) (w:World),s.length≤1000→Ret Tryz.prog 178 [.string (bs s),.int .i64 (dd:Nat)] w (PV 83 133 D s w)
theorem fone {k:ByteArray}{cs:List Value}(h:cs.all (·.oneCell')=true):((.string k::cs:List Value)).all (·.oneCell')=true:=by
 simp only [List.all_cons,h,Bool.and_true]
 rfl
theorem c256 (D dd:Nat)(hV:VC D dd)(s:List UInt8)(w0:World)(hs:s.length≤1000):Ret Tryz.prog 256 [.string (bs s),.int .i64 (dd:Nat)] w0 (fun u w1=>∃ (k:ByteArray) (v:V) (cells:List Value) (n:Nat) (rs:List Row),u=.tuple #[.agg (.string k::cells).toArray,.int .i64 n]∧Cxr w0 w1 [] rs∧RR 83 133 rs v cells∧n≤s.length∧(n=0∨(Dp D v∧k.size+vs D v≤2*n))):=by
 refine ret_enter Tryz.func256 rfl Tryz.ntmps256 rfl ?_
 have cx:=Ctx.start w0
 refine K0 ?_
 refine H11 ?_;intro b4 w cx hb4 hw4
 refine K3 ?_
 refine s_fn cx (c324 s _ peq) Tryz.func324 rfl rfl rfl rfl rfl rfl ?_;intro q12 w cx hw12 hp12
 obtain ⟨k,n,rfl,hn,hk,hkx⟩:=hp12
 have hkl:k.length≤n:=by
  rcases hk with ⟨_,h⟩ | h
  · rw [h];simp
  · omega
 refine K6 ?_
 refine Ko ?_
 refine K2c ?_
 refine cSp rfl (fun hc28=>?_) (fun hc28=>?_)
 ·
  refine K0 ?_
  refine s_val rfl rfl (v_build (qs:=[]) bd133z rfl rfl) ?_
  refine H12 ?_;intro w cx hwS3
  refine K1 ?_
  refine ret_cell2 Tryz.results256 rfl rfl (cx.at 0 rfl) Tryz.underlying133 rfl sz133 ?_
  exact Ezi
 refine K6 ?_
 have cxB:=cx
 refine s_call (hV (s.drop (Int.toNat ((n:Int)+1))) _ p15q) Tryz.func178 rfl rfl rfl rfl rfl rfl ?_;rintro v36 w ⟨v,cells,n2,rs2,rfl,cxr,hrr,hn2,_,hsz,_⟩
 obtain ⟨a1,n1,c1,a2,n2s,c2,a3,n3,c3,rfl⟩:=hrr.form2 cxr
 rw [List.length_drop] at hn2
 replace cx:=cxB.callRows cxr
 refine K1 ?_
 refine Hx ?_;intro b8 w cx hb8 hw8
 refine H13 ?_;intro w cx hwS4
 refine K6 ?_
 refine cSp rfl (fun hc40=>?_) (fun hc40=>?_)
 ·
  refine K0 ?_
  refine s_val rfl rfl (v_build (qs:=[]) bd133z rfl rfl) ?_
  refine H14 ?_;intro w cx hwS6
  refine K1 ?_
  refine Kdf ?_
  exact Ezi
 refine K2 ?_
 refine K16 ?_
 refine s_val rfl rfl (v_build (qs:=[(0,.string (bs k)),(1,.agg (vrow v.sc (.slice a1 n1 c1) (.slice a2 n2s c2) (.slice a3 n3 c3)).toArray)]) (bd133k _ _ _ _ _ _ _ _ _ _ _) rfl rfl) ?_
 refine K2 ?_
 refine H14 ?_;intro w cx hwS7
 refine K1 ?_
 refine Kdf ?_
 refine ⟨bs k,v,_,n+1+n2,_,rfl,cx.noL,hrr.mono fun r hr=>List.mem_append_left _ hr,by omega,.inr ?_⟩
 rcases hsz with h | ⟨h1,h2⟩
 · omega
 · refine ⟨h1,?_⟩
   rw [bs_size]
   omega
theorem c178s (D dd:Nat)(hd:dd≤48)(hV:VC D (dd+1))(s:List UInt8)(w0:World)(hs:s.length≤1000):Ret Tryz.prog 178 [.string (bs s),.int .i64 (dd:Nat)] w0 (PV 83 133 (D+1) s w0):=by
 refine ret_enter Tryz.func178 rfl Tryz.ntmps178 rfl ?_
 have cx:=Ctx.start w0
 refine K0 ?_
 refine Hx ?_;intro b4 w cx hb4 hw4
 refine K14 ?_
 refine cSp rfl (fun hc20=>?_) (fun hc20=>?_)
 ·
  refine K1u ?_
  refine H13 ?_;intro w cx hwS2
  refine K1 ?_
  refine Kdg ?_
  refine ⟨.mk sc0 [] [] [],_,0,[],rfl,cx.noL.noR,RR.leafS 83 133 [] sc0,by omega,Nat.zero_le _,.inl rfl,fun c hD hc=>?_⟩
  exfalso
  rcases hc20 with h | h
  · omega
  · rw [hc,cqt_cons] at h;simp at h;omega
 have hne:0<s.length:=by have h:=hc20.2;omega
 refine K1 ?_
 refine s_val rfl rfl (v_build (qs:=[(0,.int .i64 6)]) bd836 rfl rfl) ?_
 refine Hx ?_;intro b6 w cx hb6 hw6
 refine H13 ?_;intro w cx hwS3
 refine K0 ?_
 refine w_cut (fun f1 w1=>∃ (b4 b6:Nat) (kd e:Int),f1 0=.string (bs s)∧f1 1=.int .i64 (dd:Nat)∧f1 4=.pointer (some ⟨b4,0,none⟩)∧f1 6=.pointer (some ⟨b6,0,none⟩)∧f1 7=.int .u8 e∧(kd=6∨kd=7)∧s.getD 0 0≠34∧Ctx w0 w1 [(b6,.cells (vrow ⟨kd,false,false,ByteArray.empty,0,0,0,0,0,ByteArray.empty⟩ (.slice none 0 0) (.slice none 0 0) (.slice none 0 0)).toArray 83),(b4,.cells (vrow sc0 (.slice none 0 0) (.slice none 0 0) (.slice none 0 0)).toArray 83)]) ?_ ?_
 ·
  refine K4 ?_
  refine cSp rfl (fun hc25=>?_) (fun hc25=>?_)
  ·
   have h0:s.getD 0 0≠34:=fun e=>by rw [show Int.toNat 0=0 from rfl,e] at hc25;exact absurd hc25 (by decide)
   refine SS ?_
   refine s_val rfl rfl (v_build (qs:=[(0,.int .i64 7)]) bd837 rfl rfl) ?_
   refine H13 ?_;intro w cx hwS5
   refine K0 ?_
   exact Bz126
  refine K4 ?_
  refine cSp rfl (fun hc29=>?_) (fun hc29=>?_)
  ·
   refine K1 ?_
   have cxB:=cx
   refine s_call (c255 s _ hs) Tryz.func255 rfl rfl rfl rfl rfl rfl ?_;rintro v31 w ⟨sc,bytes,bv0,n,rs,rfl,cxr,hlr,hn,hgs,htx,hsz,hex⟩
   replace cx:=cxB.callRows cxr
   obtain ⟨a1,c1,rfl⟩:=hlr.sl cxr
   refine K0 ?_
   refine H15 ?_;intro w cx hwS7
   refine K1 ?_
   refine ret_cell2 Tryz.results178 rfl rfl (cx.at 1 rfl) Tryz.underlying83 rfl sz83 ?_
   refine ⟨.mk sc bytes [] [],_,n,_,rfl,cx.noL,.mk sc bytes [] [] _ _ _ [] [] (hlr.mono fun r hr=>List.mem_append_left _ hr) (.inl ⟨rfl,rfl⟩) rfl (fun i v cs h=>by simp at h) (.inl ⟨rfl,rfl⟩) rfl (fun i kv cs h=>by simp at h),hn,htx,hsz.imp id fun h=>⟨Dp_leaf D sc bytes hgs,by rw [vs_leaf];exact h⟩,fun c hD hc=>?_⟩
   obtain ⟨h1,h2,h3⟩:=hex c hc
   rw [h1,h2]
   exact ⟨rfl,h3⟩
  have h0:s.getD 0 0≠34:=fun e=>by rw [show Int.toNat 0=0 from rfl,e] at hc29;exact absurd hc29 (by decide)
  refine SS ?_
  exact Bz126
 intro f w hJ
 obtain ⟨b4,b6,kd,e,hs0,hs1,hs4,hs6,hs7,hkd,h34,cx⟩:=hJ
 have hns:∀ c,s≠cqt c:=fun c hc=>by rw [hc,cqt_cons] at h34;exact h34 rfl
 refine K6e ?_
 refine K2w ?_
 refine K8z ?_
 refine K1 ?_
 refine cSp rfl (fun hc42=>?_) (fun hc42=>?_)
 ·
  refine K0 ?_
  refine Kdh ?_
  refine H16 ?_;intro w cx hwS9
  refine K1 ?_
  refine Kb2 ?_
  refine ⟨.mk ⟨kd,false,false,ByteArray.empty,0,0,0,0,0,ByteArray.empty⟩ [] [] [],_,2,[],rfl,cx.noL.noR,RR.leafS 83 133 [] ⟨kd,false,false,ByteArray.empty,0,0,0,0,0,ByteArray.empty⟩,by omega,Nat.zero_le _,.inr ⟨Dp_leaf D _ [] (gs0 rfl),by rw [vs_leaf];show 1+0+0+0≤2*2;omega⟩,fun c hD hc=>?_⟩
  exact Ezh
 refine K4 ?_
 refine w_loop (fun g f1 w1=>∃ (a b4 b6:Nat) (kd:Int) (l:List V) (f:List (ByteArray×V)) (css fss:List (List Value)) (lv fv:Value) (rs:List Row),g+a=s.length+1∧1≤a∧a≤s.length∧f1 0=.string (bs s)∧f1 1=.int .i64 (dd:Nat)∧f1 4=.pointer (some ⟨b4,0,none⟩)∧f1 6=.pointer (some ⟨b6,0,none⟩)∧f1 7=.int .u8 e∧f1 8=.int .i64 a∧(kd=6∨kd=7)∧LF 83 133 rs l f css fss a∧GF D l f a∧Cxr w0 w1 [(b6,.cells (vrow ⟨kd,false,false,ByteArray.empty,0,0,0,0,0,ByteArray.empty⟩ (.slice none 0 0) lv fv).toArray 83),(b4,.cells (vrow sc0 (.slice none 0 0) (.slice none 0 0) (.slice none 0 0)).toArray 83)] (⟨83,13,lv,l.length,css.flatten⟩::⟨133,14,fv,f.length,fcells (f.map (·.1)) fss⟩::rs)) (s.length) ?_ ?_
 ·
  exact ⟨1,b4,b6,kd,[],[],[],[],_,_,[],by omega,by omega,by omega,hs0,hs1,hs4,hs6,hs7,rfl,hkd,LF.start 83 133 [],GF.start D,(cx.nilRow 133 14).nilRow 83 13⟩
 intro gk11 f w hJ
 obtain ⟨a,b4,b6,kd,l,f0,css,fss,lv,fv,rs,hg,ha1,hal,hs0,hs1,hs4,hs6,hs7,hs8,hkd,lf,gf,cx⟩:=hJ
 have hcnt:=lf.hcnt
 refine K3 ?_
 refine w_cut (fun f1 w1=>∃ (n:Nat) (l:List V) (f:List (ByteArray×V)) (css fss:List (List Value)) (lv fv:Value) (rs:List Row),a+n≤s.length∧f1 0=.string (bs s)∧f1 1=.int .i64 (dd:Nat)∧f1 4=.pointer (some ⟨b4,0,none⟩)∧f1 6=.pointer (some ⟨b6,0,none⟩)∧f1 7=.int .u8 e∧f1 8=.int .i64 a∧f1 9=.int .i64 n∧LF 83 133 rs l f css fss (a+1)∧(n=0∨GF D l f (a+n))∧Cxr w0 w1 [(b6,.cells (vrow ⟨kd,false,false,ByteArray.empty,0,0,0,0,0,ByteArray.empty⟩ (.slice none 0 0) lv fv).toArray 83),(b4,.cells (vrow sc0 (.slice none 0 0) (.slice none 0 0) (.slice none 0 0)).toArray 83)] (⟨83,13,lv,l.length,css.flatten⟩::⟨133,14,fv,f.length,fcells (f.map (·.1)) fss⟩::rs)) ?_ ?_
 ·
  refine K0 ?_
  refine s_val rfl rfl (v_fa fa83_0 rfl hs6) ?_
  refine K2a ?_
  refine cSp rfl (fun hc46=>?_) (fun hc46=>?_)
  ·
   refine Km ?_
   refine Kv ?_
   refine SS ?_
   refine K3b ?_
   have cxB:=cx
   refine s_call (hV (s.drop (Int.toNat (a:Int))) _ p15q) Tryz.func178 rfl rfl rfl rfl rfl rfl ?_;rintro v53 w ⟨v,cells,n2,rs2,rfl,cxr,hrr,hn2,_,hsz,_⟩
   obtain ⟨a1,n1,c1,a2,n2s,c2,a3,n3,c3,rfl⟩:=hrr.form2 cxr
   rw [List.length_drop,Int.toNat_natCast] at hn2
   replace cx:=(cxB.callRows cxr).permR (perm2 _ _ _ _)
   refine K1 ?_
   refine Hx ?_;intro b10 w cx hb10 hw10
   refine H13 ?_;intro w cx hwS13
   refine K6 ?_
   refine s_val rfl rfl (v_fa fa83_6 rfl hs6) ?_
   refine K7g ?_
   refine K16 ?_
   refine H17 ?_;intro b60 w cx hb60 hw60
   refine H18 ?_;intro v61 w cx hgr61
   replace cx:=cx.drop 1
   refine s_val rfl rfl (v_fa fa83_6 rfl hs6) ?_
   refine s_store1 (v:=v61) cx 1 rfl rfl rfl rfl rfl cx.oneS rfl rfl sz80 ?_;intro w cx hwS15
   exact Bz42
  refine Km ?_
  refine Kv ?_
  refine SS ?_
  refine K3b ?_
  have cxB:=cx
  refine s_call (c256 D (dd+1) hV (s.drop (Int.toNat (a:Int))) _ p15q) Tryz.func256 rfl rfl rfl rfl rfl rfl ?_;rintro v69 w ⟨k,v,cells,n2,rs2,rfl,cxr,hrr,hn2,hsz⟩
  obtain ⟨a1,n1,c1,a2,n2s,c2,a3,n3,c3,rfl⟩:=hrr.form2 cxr
  rw [List.length_drop,Int.toNat_natCast] at hn2
  replace cx:=((cxB.callRows cxr).permR (perm2 _ _ _ _)).swapR
  refine K1 ?_
  refine H11 ?_;intro b12 w cx hb12 hw12
  refine H12 ?_;intro w cx hwS16
  refine K6 ?_
  refine s_val rfl rfl (v_fa fa83_7 rfl hs6) ?_
  refine K7h ?_
  refine s_val rfl rfl (v_load rfl rfl Tryz.underlying133 rfl sz133 (cx.row 0 rfl) rfl) ?_
  refine H19 ?_;intro b76 w cx hb76 hw76
  refine H1a ?_;intro v77 w cx hgr77
  replace cx:=cx.drop 1
  refine s_val rfl rfl (v_fa fa83_7 rfl hs6) ?_
  refine s_store1 (v:=v77) cx 1 rfl rfl rfl rfl rfl cx.oneS rfl rfl sz81 ?_;intro w cx hwS18
  exact Bz42
 intro f w hJ
 obtain ⟨n,l,f0,css,fss,lv,fv,rs,han,hs0,hs1,hs4,hs6,hs7,hs8,hs9,lf,hgf,cx⟩:=hJ
 refine K0 ?_
 refine Kv ?_
 refine K1v ?_
 refine K4 ?_
 refine K2o ?_
 refine Kx ?_
 refine K2 ?_
 refine Kx ?_
 refine SS ?_
 refine K6x ?_
 refine K2p ?_
 refine SS ?_
 refine K2h ?_
 refine K8z ?_
 refine K2 ?_
 refine cSp rfl (fun hc102=>?_) (fun hc102=>?_)
 ·
  refine K1u ?_
  refine H16 ?_;intro w cx hwS21
  refine K1 ?_
  refine Kb2 ?_
  refine ⟨.mk sc0 [] [] [],_,0,[],rfl,cx.noL.noR,RR.leafS 83 133 [] sc0,by omega,Nat.zero_le _,.inl rfl,fun c hD hc=>?_⟩
  exact Ezh
 have hn0:0<n:=by omega
 have hle:a+n<s.length:=by omega
 have gf2:=hgf.resolve_left (by omega)
 refine K7 ?_
 refine K1n ?_
 refine K66 ?_
 refine cSp rfl (fun hc111=>?_) (fun hc111=>?_)
 ·
  refine K0 ?_
  refine Kdh ?_
  refine SS ?_
  refine s_storeAll cx 1 rfl rfl rfl hs4 rfl rfl sz83 rfl (vrow_one rfl cx.oneS cx.swapR.oneS) ?_;intro w cx hwS24
  refine K1 ?_
  refine Kb2 ?_
  obtain ⟨g1,g2⟩:=(gf2.upA (Nat.le_succ _)).fin kd
  refine ⟨.mk ⟨kd,false,false,ByteArray.empty,0,0,0,0,0,ByteArray.empty⟩ [] l f0,_,a+n+1,_,rfl,cx.noL,.mk ⟨kd,false,false,ByteArray.empty,0,0,0,0,0,ByteArray.empty⟩ [] l f0 _ _ _ css fss (.inl ⟨rfl,rfl⟩) (.inr (List.mem_cons_self ..)) lf.hlc (fun i v cs h h2=>(lf.hlv i v cs h h2).mono fun r hr=>List.mem_cons_of_mem _ (List.mem_cons_of_mem _ hr)) (.inr (List.mem_cons_of_mem _ (List.mem_cons_self ..))) lf.hfc (fun i kv cs h h2=>(lf.hfv i kv cs h h2).mono fun r hr=>List.mem_cons_of_mem _ (List.mem_cons_of_mem _ hr)),by omega,Nat.zero_le _,.inr ⟨g1,g2⟩,fun c hD hc=>?_⟩
  exact Ezh
 refine SS ?_
 exact ⟨gk11-(n+1),_,by omega,rfl,a+n+1,b4,b6,kd,l,f0,css,fss,lv,fv,rs,by omega,by omega,by omega,hs0,hs1,hs4,hs6,hs7,rfl,hkd,lf.upA (by omega),gf2.upA (by omega),cx⟩
theorem c1780 (s:List UInt8)(w0:World)(hs:s.length≤1000):Ret Tryz.prog 178 [.string (bs s),.int .i64 (49:Nat)] w0 (PV 83 133 0 s w0):=by
 refine ret_enter Tryz.func178 rfl Tryz.ntmps178 rfl ?_
 have cx:=Ctx.start w0
 refine K0 ?_
 refine Hx ?_;intro b4 w cx hb4 hw4
 refine K14 ?_
 refine c_split rfl (fun hc20=>?_) (fun hc20=>?_)
 ·
  try simp only [bsl] at hc20
  refine K1u ?_
  refine H13 ?_;intro w cx hwS2
  refine K1 ?_
  refine Kdg ?_
  refine ⟨.mk sc0 [] [] [],_,0,[],rfl,cx.noL.noR,RR.leafS 83 133 [] sc0,by omega,Nat.zero_le _,.inl rfl,fun c hD=>by omega⟩
 exfalso
 rw [Bool.or_eq_false_iff,decide_eq_false_iff_not] at hc20
 omega
theorem c178d:∀ (D dd:Nat),D+dd=49→VC D dd
 | 0,dd,h=>by
  obtain rfl:dd=49:=by omega
  exact fun s w hs=>c1780 s w hs
 | D+1,dd,h=>fun s w hs=>c178s D dd (by omega) (c178d D (dd+1) (by omega)) s w hs
theorem c178 (s:List UInt8)(w0:World)(hs:s.length≤1000):Ret Tryz.prog 178 [.string (bs s),.int .i64 1] w0 (PV 83 133 48 s w0):=c178d 48 1 (by decide) s w0 hs
end Go.Proofs.YthiafbkolhnadaaGreatDoor
end
section
namespace Go.Dk
open Go Go.RowKit Go.Lib
def Bw (w:World)(u:Value)(l:List UInt8):Prop:=∃ (a:Option Addr) (c b:Nat),u=.slice a l.length c∧(0<l.length→a=some ⟨b,0,none⟩)∧∀ i,i<l.length→RowAt w b (0+i*1) [bv (l.getD i 0)]
def Lw (w:World)(u:Value)(l:List V):Prop:=∃ (a:Option Addr) (c b:Nat),u=.slice a l.length c∧l.length≤c∧(0<l.length→a=some ⟨b,0,none⟩)∧∀ i x,l[i]?=some x→∃ cs,RowAt w b (0+i*13) cs∧Vw w x cs
def Fw (w:World)(u:Value)(f:List (ByteArray×V)):Prop:=∃ (a:Option Addr) (c b:Nat),u=.slice a f.length c∧f.length≤c∧(0<f.length→a=some ⟨b,0,none⟩)∧∀ i kv,f[i]?=some kv→∃ cs,RowAt w b (0+i*14) (.string kv.1::cs)∧Vw w kv.2 cs
theorem Lw.up {w w':World}(h:Below w.heap.size w w'){u:Value}{l:List V}:Lw w u l→Lw w' u l :=
 fun ⟨a,c,b,h1,h2,h3,h4⟩=>⟨a,c,b,h1,h2,h3,fun i x hi=>by
  obtain ⟨cs,h5,h6⟩:=h4 i x hi
  exact ⟨cs,h5.up h,h6.up h⟩⟩
theorem Fw.up {w w':World}(h:Below w.heap.size w w'){u:Value}{f:List (ByteArray×V)}:Fw w u f→Fw w' u f :=
 fun ⟨a,c,b,h1,h2,h3,h4⟩=>⟨a,c,b,h1,h2,h3,fun i x hi=>by
  obtain ⟨cs,h5,h6⟩:=h4 i x hi
  exact ⟨cs,h5.up h,h6.up h⟩⟩
theorem flat_row {w:World}{b i:Nat}{css:List (List Value)}{cs:List Value}(h:RowAt w b 0 css.flatten)(hl:∀ c∈css,c.length=13)(hi:css[i]?=some cs):RowAt w b (0+i*13) cs:=by
 intro j x hx
 have:=h (i*13+j) x (flat_at css i j cs x hl hi hx)
 rwa [show 0+i*13+j=0+(i*13+j) by omega]
theorem fc_row {w:World}{b i:Nat}{ks:List ByteArray}{css:List (List Value)}{k:ByteArray}{cs:List Value}(h:RowAt w b 0 (fcells ks css))(hl:∀ c∈css,c.length=13)(hk:ks[i]?=some k)(hi:css[i]?=some cs):RowAt w b (0+i*14) (.string k::cs):=by
 intro j x hx
 have:=h (i*14+j) x (fcells_at ks css i k cs hl hk hi j x hx)
 rwa [show 0+i*14+j=0+(i*14+j) by omega]
theorem Vw.lensF {w:World}{f:List (ByteArray×V)}{fss:List (List Value)}(hfc:fss.length=f.length)(hfv:∀ (i:Nat) (kv:ByteArray×V) (cs:List Value),f[i]?=some kv→fss[i]?=some cs→Vw w kv.2 cs):∀ c∈fss,c.length=13:=by
 intro c hc
 obtain ⟨i,hi⟩:=List.getElem?_of_mem hc
 have hlt:=(List.getElem?_eq_some_iff.1 hi).1
 exact (hfv i f[i] c (List.getElem?_eq_getElem (by omega)) hi).len
theorem SlR.form2 {w:World}{v:Value}{n:Nat}{xs:List Value}(h:SlR w v n xs):∃ a c b,v=.slice a n c∧n≤c∧(0<n→a=some ⟨b,0,none⟩∧RowAt w b 0 xs):=by
 obtain ⟨b,hs,hr⟩:=h
 rcases hs with ⟨rfl,rfl⟩ | ⟨ad,c,h1,h2,h3⟩
 · exact ⟨none,0,b,rfl,Nat.le_refl _,fun h=>by omega⟩
 · exact ⟨some ad,c,b,h1,h2,fun h0=>⟨congrArg some (h3 h0).1,hr h0⟩⟩
theorem Lw.of {w:World}{u:Value}{l:List V}{css:List (List Value)}(hl:SlR w u l.length css.flatten)(hlc:css.length=l.length)(hlv:∀ (i:Nat) (v:V) (cs:List Value),l[i]?=some v→css[i]?=some cs→Vw w v cs):Lw w u l:=by
 obtain ⟨a,c,b,rfl,hc,ha⟩:=hl.form2
 refine ⟨a,c,b,rfl,hc,fun h0=>(ha h0).1,fun i x hx=>?_⟩
 have hlt:=(List.getElem?_eq_some_iff.1 hx).1
 have hi:css[i]?=some (css[i]'(by omega)):=List.getElem?_eq_getElem (by omega)
 exact ⟨_,flat_row (ha (by omega)).2 (Vw.lens hlc hlv) hi,hlv i x _ hx hi⟩
theorem Fw.of {w:World}{u:Value}{f:List (ByteArray×V)}{fss:List (List Value)}(hf:SlR w u f.length (fcells (f.map (·.1)) fss))(hfc:fss.length=f.length)(hfv:∀ (i:Nat) (kv:ByteArray×V) (cs:List Value),f[i]?=some kv→fss[i]?=some cs→Vw w kv.2 cs):Fw w u f:=by
 obtain ⟨a,c,b,rfl,hc,ha⟩:=hf.form2
 refine ⟨a,c,b,rfl,hc,fun h0=>(ha h0).1,fun i x hx=>?_⟩
 have hlt:=(List.getElem?_eq_some_iff.1 hx).1
 have hi:fss[i]?=some (fss[i]'(by omega)):=List.getElem?_eq_getElem (by omega)
 exact ⟨_,fc_row (ha (by omega)).2 (Vw.lensF hfc hfv) (by rw [List.getElem?_map,hx];rfl) hi,hfv i x _ hx hi⟩
theorem Vw.form {w:World}{v:V}{cs:List Value}(h:Vw w v cs):∃ ub ul uf,cs=vrow v.sc ub ul uf∧Bw w ub v.bytes∧Lw w ul v.list∧Fw w uf v.fields:=by
 cases h with
 | mk s bytes list fields bs ls fs css fss hb hl hlc hlv hf hfc hfv =>
  refine ⟨bs,ls,fs,rfl,?_,Lw.of hl hlc hlv,Fw.of hf hfc hfv⟩
  obtain ⟨a,c,b,rfl,ha⟩:=hb.form
  refine ⟨a,c,b,rfl,fun h0=>(ha h0).1,fun i hi=>?_⟩
  have hi':i<bytes.length:=hi
  exact (ha (by omega)).2.one (x:=bv (bytes.getD i 0)) (by rw [List.getElem?_map,getD_some hi'];rfl)
theorem RowAt.tail {w:World}{b o:Nat}{x:Value}{xs:List Value}(h:RowAt w b o (x::xs)):RowAt w b (o+1) xs:=by
 intro j y hy
 have:=h (j+1) y hy
 rwa [show o+1+j=o+(j+1) by omega]
theorem Vw.one {w:World}{v:V}{cs:List Value}(h:Vw w v cs):cs.all (·.oneCell')=true:=by
 obtain ⟨ub,ul,uf,rfl,⟨_,_,_,rfl,_⟩,⟨_,_,_,rfl,_⟩,⟨_,_,_,rfl,_⟩⟩:=h.form
 exact vrow_one rfl rfl rfl
theorem Vw.slB {w:World}{v:V}{a b c:Value}(h:Vw w v (vrow v.sc a b c))(_:True=True):SlR w a v.bytes.length (v.bytes.map bv):=by
 generalize hcs:vrow v.sc a b c=cs at h
 cases h with
 | mk s bytes list fields bs ls fs css fss hb hl hlc hlv hf hfc hfv =>
  simp only [vrow,List.cons.injEq,and_true] at hcs
  obtain ⟨_,_,_,_,_,_,_,_,_,_,rfl,_,_⟩:=hcs
  exact hb
theorem le_sumN {l:List Nat}{x:Nat}(h:x∈l):x≤l.sum:=by
 induction l with
 | nil=>simp at h
 | cons a l ih =>
  rw [List.sum_cons]
  rcases List.mem_cons.1 h with rfl | h
  · omega
  · have:=ih h;omega
theorem len_sumN {α:Type}(l:List α)(f:α→Nat)(h:∀ x∈l,1≤f x):l.length≤(l.map f).sum:=by
 induction l with
 | nil=>simp
 | cons a l ih =>
  rw [List.map_cons,List.sum_cons,List.length_cons]
  have h1:=h a (by simp)
  have h2:=ih fun x hx=>h x (by simp [hx])
  omega
theorem vs_own {D:Nat}{v:V}(h:Dp D v):1+v.sc.text.size+v.sc.dig.size+v.bytes.length≤vs D v:=by
 cases D with
 | zero=>exact h.elim
 | succ D=>cases v with | mk s b l f=>simp only [vs,V.sc,V.bytes];omega
theorem vs_pos {D:Nat}{v:V}(h:Dp D v):1≤vs D v:=by have:=vs_own h;omega
theorem vs_list {D:Nat}{v x:V}(h:Dp (D+1) v)(hx:x∈v.list):Dp D x∧vs D x+1≤vs (D+1) v:=by
 cases v with
 | mk s b l f =>
  simp only [Dp] at h
  refine ⟨h.2.1 x hx,?_⟩
  have:=le_sumN (List.mem_map_of_mem (f:=vs D) hx)
  simp only [V.list] at this
  simp only [vs]
  omega
theorem vs_field {D:Nat}{v:V}{kv:ByteArray×V}(h:Dp (D+1) v)(hx:kv∈v.fields):Dp D kv.2∧kv.1.size+vs D kv.2+1≤vs (D+1) v:=by
 cases v with
 | mk s b l f =>
  simp only [Dp] at h
  refine ⟨h.2.2 kv hx,?_⟩
  have:=le_sumN (List.mem_map_of_mem (f:=fun kv:ByteArray×V=>kv.1.size+vs D kv.2) hx)
  simp only [V.fields] at this
  simp only [vs]
  omega
theorem vs_lens {D:Nat}{v:V}(h:Dp (D+1) v):v.list.length+v.fields.length+1≤vs (D+1) v:=by
 cases v with
 | mk s b l f =>
  simp only [Dp] at h
  have h1:=len_sumN l (vs D) fun x hx=>vs_pos (h.2.1 x hx)
  have h2:=len_sumN f (fun kv=>kv.1.size+vs D kv.2) fun x hx=>by have:=vs_pos (h.2.2 x hx);omega
  simp only [vs,V.list,V.fields]
  omega
theorem Dp_gs {D:Nat}{v:V}(h:Dp D v):GS v.sc:=by
 cases D with
 | zero=>exact h.elim
 | succ D=>cases v with | mk s b l f=>exact h.1
end Go.Dk
end
section
namespace Go.Proofs.YthiafbkolhnadaaGreatDoor
open Go Go.Dk Go.RowKit Go.Lib
attribute [local irreducible] Go.wpList Go.Code.wp Go.bodyPost Go.wpStill Go.wpQuiet
theorem ne76 (b:Bool)(d:ByteArray)(x:Int)(w:World):(binOp .neq 76 (.agg #[.bool b,.string d,.int .i64 x]) (.agg #[.bool false,.string ByteArray.empty,.int .i64 0])).run Tryz.prog w=.ok (.bool (!(b==false&&(decide (d=ByteArray.empty)&&x==0)))) w:=by
 go_simp
 exact Bz64
theorem ne78 (a b c d:Int)(w:World):(binOp .neq 78 (.agg #[.int .i64 a,.int .i64 b,.int .i64 c,.int .i64 d]) (.agg #[.int .i64 0,.int .i64 0,.int .i64 0,.int .i64 0])).run Tryz.prog w=.ok (.bool (!(a==0&&(b==0&&(c==0&&d==0))))) w:=by
 go_simp
 by_cases h1:a=0 <;> by_cases h2:b=0 <;> by_cases h3:c=0 <;> by_cases h4:d=0 <;> simp [h1,h2,h3,h4]
theorem c354I (s:List UInt8)(w0:World)(hs:s.length≤1073741824):Fc Tryz.prog 354 [.string (bs s)] w0 (IsI fun _=>True) :=
 (c354 s w0 hs).mono fun v w' _ ⟨i,h,_⟩=>⟨i,h,trivial⟩
theorem c306l (b:Bool)(s:List UInt8)(x:Int)(w0:World)(hs:s.length≤1000000):Fc Tryz.prog 306 [.agg #[.bool b,.string (bs s),.int .i64 x]] w0 (IsB fun _=>True):=by
 refine ret_enter Tryz.func306 rfl Tryz.ntmps306 rfl ?_
 have cx:=Ctx.start w0
 refine K0 ?_
 refine Hc ?_;intro b1 w cx hb1 hw1
 refine K3 ?_
 refine K6j ?_
 refine K2e ?_
 refine cSp rfl (fun hc5=>?_) (fun hc5=>?_)
 ·
  refine Kcb ?_
  refine K4v ?_
  exact Bz40
 refine K1 ?_
 refine K6j ?_
 refine K1 ?_
 refine K91 ?_
 refine K2k ?_
 refine s_gfnB cx rfl rfl rfl wT (fun hc=>(c370 s _ (by omega))) Tryz.func370 rfl rfl rfl (fun hc=>(cons_eq gX rfl)) ?_;intro q21 w cx hw21 hp21
 refine K0 ?_
 refine K91 ?_
 refine K2k ?_
 refine s_gfnI cx rfl rfl rfl wT (fun hc=>(c354I s _ (by omega))) Tryz.func354 rfl rfl rfl (fun hc=>(cons_eq gX rfl)) ?_;intro q26 w cx hw26 hp26
 refine K1 ?_
 refine K80 ?_
 refine K23 ?_
 refine K0 ?_
 exact Bz40
theorem c306w (b:Bool)(s:ByteArray)(x:Int)(w0:World)(hs:s.size≤1000000):Fc Tryz.prog 306 [.agg #[.bool b,.string s,.int .i64 x]] w0 (IsB fun _=>True):=by
 have h:=c306l b s.data.toList x w0 p21q
 rwa [bs_of] at h
theorem c308 (x:Int)(w0:World):Fc Tryz.prog 308 [.int .i64 x] w0 (IsB fun _=>True):=by
 refine ret_enter Tryz.func308 rfl Tryz.ntmps308 rfl ?_
 have cx:=Ctx.start w0
 refine K6 ?_
 refine Ka ?_
 refine ret_tmp Tryz.results308 rfl ?_
 exact Ezj
theorem c309 (x:Int)(w0:World):Fc Tryz.prog 309 [.int .i64 x] w0 (IsB fun _=>True):=by
 refine ret_enter Tryz.func309 rfl Tryz.ntmps309 rfl ?_
 have cx:=Ctx.start w0
 refine K6 ?_
 refine Ka ?_
 refine ret_tmp Tryz.results309 rfl ?_
 exact Ezj
theorem c233w (k d n z:Int)(w0:World):Fc Tryz.prog 233 [.agg #[.int .i64 k,.int .i64 d,.int .i64 n,.int .i64 z]] w0 (IsB fun b=>b=true→0≤d∧d≤3652058∧0≤n∧n≤86399999999999∧-1439≤z∧z≤1439):=by
 refine ret_enter Tryz.func233 rfl Tryz.ntmps233 rfl ?_
 have cx:=Ctx.start w0
 refine K0 ?_
 refine Hc ?_;intro b1 w cx hb1 hw1
 refine K3 ?_
 refine K42 ?_
 refine K2a ?_
 refine s_gval rfl rfl rfl wF (fun hc=>v_fa fa78_0 rfl gX) ?_
 refine Ki ?_
 refine K7i ?_
 refine Ki ?_
 refine K7i ?_
 refine Ki ?_
 refine K7j ?_
 refine Ki ?_
 refine K7j ?_
 refine Ki ?_
 refine K7k ?_
 refine Ki ?_
 refine K7k ?_
 refine Ki ?_
 refine cSp rfl (fun hc40=>?_) (fun hc40=>?_)
 ·
  refine K3 ?_
  refine ret_tmp Tryz.results233 rfl ?_
  exact Eze
 refine K1 ?_
 refine K42 ?_
 refine K12 ?_
 refine s_fnB cx ((c308 _ _)) Tryz.func308 rfl rfl rfl rfl rfl rfl ?_;intro q43 w cx hw43 hp43
 refine SS ?_
 refine K7i ?_
 refine Ki ?_
 refine s_gval rfl rfl rfl wT (fun hc=>v_fa fa78_0 rfl gX) ?_
 refine K23 ?_
 refine s_gfnB cx rfl rfl rfl wT (fun hc=>(c309 _ _)) Tryz.func309 rfl rfl rfl (fun hc=>(cons_eq gX rfl)) ?_;intro q52 w cx hw52 hp52
 refine SS ?_
 refine K7j ?_
 refine K54 ?_
 refine K2 ?_
 refine s_gval rfl rfl rfl wT (fun hc=>v_fa fa78_0 rfl gX) ?_
 refine K23 ?_
 refine K0 ?_
 refine K7k ?_
 refine K54 ?_
 refine K4 ?_
 refine ret_tmp Tryz.results233 rfl ?_
 exact ⟨cx.ext,_,rfl,fun _=>by omega⟩
theorem c44w (s:ByteArray)(w0:World)(hs:s.size≤1000000):Fc Tryz.prog 44 [.string s] w0 (IsB fun _=>True) :=
 (c44 s w0 (by omega)).mono fun v w' _ ⟨b,h,_⟩=>⟨b,h,trivial⟩
theorem c305w (v:V)(cells:List Value)(w0:World)(hv:Vw w0 v cells):Fc Tryz.prog 305 [.agg cells.toArray] w0 (IsB fun _=>True):=by
 obtain ⟨ub,ul,uf,rfl,hb,hl,hf⟩:=hv.form
 obtain ⟨ba,bc,bb,rfl,hb1,hb2⟩:=hb
 obtain ⟨la,lc,lb,rfl,hlc,hl1,hl2⟩:=hl
 obtain ⟨fa,fc,fb,rfl,hfc,hf1,hf2⟩:=hf
 refine ret_enter Tryz.func305 rfl Tryz.ntmps305 rfl ?_
 have cx:=Ctx.start w0
 refine K0 ?_
 refine Hc ?_;intro b1 w cx hb1 hw1
 refine K2 ?_
 refine K92 ?_
 refine K12 ?_
 refine K21 ?_
 refine K93 ?_
 refine K94 ?_
 refine K4 ?_
 refine K57 ?_
 refine Kb3 ?_
 refine s_gval rfl rfl rfl wT (fun hc=>v_build (qs:=[]) bd76 rfl rfl) ?_
 refine Kdi ?_
 refine K4 ?_
 refine K3l ?_
 refine Kb4 ?_
 refine s_gval rfl rfl rfl wT (fun hc=>v_build (qs:=[]) bd78 rfl rfl) ?_
 refine Kdj ?_
 refine K1 ?_
 refine cSp rfl (fun hc39=>?_) (fun hc39=>?_)
 ·
  refine K0 ?_
  exact Bz124
 refine K4 ?_
 refine s_gval rfl rfl rfl wF (fun hc=>v_fa fa83_4 rfl gX) ?_
 refine K8i ?_
 refine s_gval rfl rfl rfl wF (fun hc=>v_strEq rfl gX rfl) ?_
 refine K3 ?_
 refine K6k ?_
 refine K5 ?_
 refine s_gval rfl rfl rfl wF (fun hc=>v_fa fa83_6 rfl gX) ?_
 refine Kdk ?_
 refine Kdl ?_
 refine K5 ?_
 refine s_gval rfl rfl rfl wF (fun hc=>v_fa fa83_7 rfl gX) ?_
 refine Kdm ?_
 refine Kdn ?_
 refine K1 ?_
 exact Bz124
theorem c307w (u:Value)(fl:List (ByteArray×V))(w0:World)(hu:Fw w0 u fl)(hn:fl.length≤1000000)(hk:∀ kv∈fl,kv.1.size≤1000000):Fc Tryz.prog 307 [u] w0 (IsI fun _=>True):=by
 obtain ⟨fa,fc,fb,rfl,hfc,hf1,hf2⟩:=hu
 refine ret_enter Tryz.func307 rfl Tryz.ntmps307 rfl ?_
 have cx:=Ctx.start w0
 refine K8 ?_
 refine w_loop (fun g f1 w1=>∃ i:Nat,g+i=fl.length∧f1 0=.slice fa fl.length fc∧f1 3=.int .i64 i∧Ctx w0 w1 []) (fl.length) ?_ ?_
 ·
  exact Ezc
 intro gk2 f w hJ
 obtain ⟨i,hg,hs0,hs3,cx⟩:=hJ
 refine K10 ?_
 refine K1n ?_
 refine cSp rfl (fun hc8=>?_) (fun hc8=>?_)
 ·
  have hfa:=hf1 (by omega)
  subst hfa
  obtain ⟨kv,hkv⟩:∃ kv,fl[i]?=some kv:=⟨fl[i]'(by omega),List.getElem?_eq_getElem _⟩
  obtain ⟨kcs,hrw,hvw⟩:=hf2 i kv hkv
  have hks:=hk kv (List.mem_of_getElem? hkv)
  refine K4 ?_
  refine Kb ?_
  refine Kr ?_
  refine K1k ?_
  refine K3m ?_
  refine K4d ?_
  refine H1b ?_;intro q16 w cx hw16 hp16
  refine K0 ?_
  refine cSp rfl (fun hc17=>?_) (fun hc17=>?_)
  ·
   exact Bz34
  refine K1p ?_
  refine Kr ?_
  refine K1k ?_
  refine K3m ?_
  refine K4d ?_
  refine K1t ?_
  refine cSp rfl (fun hc24=>?_) (fun hc24=>?_)
  ·
   exact Bz34
  refine K4 ?_
  refine w_loop (fun g f1 w1=>∃ j:Nat,g+j=i∧f1 0=.slice (some ⟨fb,0,none⟩) fl.length fc∧f1 3=.int .i64 i∧f1 4=.int .i64 j∧Ctx w0 w1 []) (i) ?_ ?_
  ·
   exact ⟨0,by omega,hs0,hs3,rfl,cx⟩
  intro gk9 f w hJ
  obtain ⟨j,hgj,hs0,hs3,hs4,cx⟩:=hJ
  refine Kl ?_
  refine K6l ?_
  refine cSp rfl (fun hc27=>?_) (fun hc27=>?_)
  ·
   obtain ⟨kj,hkj⟩:∃ kv,fl[j]?=some kv:=⟨fl[j]'(by omega),List.getElem?_eq_getElem _⟩
   obtain ⟨jcs,hrj,hvj⟩:=hf2 j kj hkj
   refine K2 ?_
   refine w_still cx mixed p1q ?_;intro w cx hwD11
   refine K6y ?_
   refine t_val rfl rfl (v_move rfl hs4) ?_
   refine Kdo ?_
   refine t_val rfl rfl (v_fa fa133_0 rfl rfl) ?_
   refine t_val rfl rfl (v_load1 rfl rfl Tryz.underlying9 rfl ((hrj.up cx.ext).cell 0 rfl)) ?_
   refine K6y ?_
   refine t_val rfl rfl (v_move rfl hs3) ?_
   refine Kdo ?_
   refine t_val rfl rfl (v_fa fa133_0 rfl rfl) ?_
   refine Kdp ?_
   refine t_val rfl rfl (v_strEq rfl rfl rfl) ?_
   refine t_nil ?_
   refine cSp rfl (fun hc40=>?_) (fun hc40=>?_)
   ·
    exact Bz34
   refine K26 ?_
   exact ⟨gk9-1,_,by omega,rfl,j+1,by omega,hs0,hs3,rfl,cx⟩
  refine SS ?_
  exact Bz22
 refine SS ?_
 exact Bz34
theorem c228w (v:V)(cells:List Value)(w0:World)(hv:Vw w0 v cells)(D:Nat)(hD:Dp (D+1) v)(hz:vs (D+1) v≤1000000):Fc Tryz.prog 228 [.agg cells.toArray] w0 (IsI fun _=>True):=by
 have hown:=vs_own hD
 have hlen:=vs_lens hD
 have hfk:∀ kv∈v.fields,kv.1.size≤1000000:=fun kv h=>by have:=(vs_field hD h).2;omega
 obtain ⟨ub,ul,uf,rfl,hb,hl,hf⟩:=hv.form
 obtain ⟨ba,bc,bb,rfl,hb1,hb2⟩:=hb
 have hl':=hl
 obtain ⟨la,lc,lb,rfl,hlc,hl1,hl2⟩:=hl'
 have hf':=hf
 obtain ⟨fa,fc,fb,rfl,hfc,hf1,hf2⟩:=hf'
 refine ret_enter Tryz.func228 rfl Tryz.ntmps228 rfl ?_
 have cx:=Ctx.start w0
 refine K0 ?_
 refine Hc ?_;intro b1 w cx hb1 hw1
 refine K3 ?_
 refine K16 ?_
 refine s_fnB cx ((c305w v _ _ (hv.up cx.ext))) Tryz.func305 rfl rfl rfl rfl rfl rfl ?_;intro q4 w cx hw4 hp4
 refine K0 ?_
 refine cSp rfl (fun hc5=>?_) (fun hc5=>?_)
 ·
  refine K0 ?_
  exact Bz32
 refine K2 ?_
 refine K95 ?_
 refine Kb5 ?_
 refine s_fnB cx ((c306w _ _ _ _ (by omega))) Tryz.func306 rfl rfl rfl rfl rfl rfl ?_;intro q8 w cx hw8 hp8
 refine K0 ?_
 refine K58 ?_
 refine K6m ?_
 refine K3l ?_
 refine Kb4 ?_
 refine s_gfnB cx rfl rfl rfl wT (fun hc=>(c233w _ _ _ _ _)) Tryz.func233 rfl rfl rfl (fun hc=>(cons_eq gX rfl)) ?_;intro q17 w cx hw17 hp17
 refine K2 ?_
 refine cSp rfl (fun hc20=>?_) (fun hc20=>?_)
 ·
  refine K0 ?_
  exact Bz32
 refine K2 ?_
 refine K5u ?_
 refine H1b ?_;intro q23 w cx hw23 hp23
 refine K0 ?_
 refine cSp rfl (fun hc24=>?_) (fun hc24=>?_)
 ·
  refine K0 ?_
  exact Bz32
 refine K2 ?_
 refine K5u ?_
 refine K1t ?_
 refine K6k ?_
 refine K1 ?_
 refine cSp rfl (fun hc34=>?_) (fun hc34=>?_)
 ·
  refine K0 ?_
  exact Bz32
 refine K1 ?_
 refine Kc7 ?_
 refine s_fnI cx ((c307w _ v.fields _ (hf.up cx.ext) (by omega) hfk)) Tryz.func307 rfl rfl rfl rfl rfl rfl ?_;intro q37 w cx hw37 hp37
 exact Bz32
theorem c229w (v:V)(cells:List Value)(w0:World)(hv:Vw w0 v cells)(hn:v.fields.length≤1000000):Fc Tryz.prog 229 [.agg cells.toArray] w0 (fun u w1=>∃ l,Lw w1 u l∧(l=v.list∨l=v.fields.map (·.2))):=by
 obtain ⟨ub,ul,uf,rfl,hb,hl,hf⟩:=hv.form
 obtain ⟨ba,bc,bb,rfl,hb1,hb2⟩:=hb
 have hl':=hl
 obtain ⟨la,lc,lb,rfl,hlc,hl1,hl2⟩:=hl'
 have hf':=hf
 obtain ⟨fa,fc,fb,rfl,hfc,hf1,hf2⟩:=hf'
 refine ret_enter Tryz.func229 rfl Tryz.ntmps229 rfl ?_
 have cx:=Ctx.start w0
 refine K0 ?_
 refine Hc ?_;intro b1 w cx hb1 hw1
 refine K3 ?_
 refine Kc8 ?_
 refine cSp rfl (fun hc7=>?_) (fun hc7=>?_)
 ·
  refine K0 ?_
  refine K33 ?_
  refine K3n ?_
  refine K1 ?_
  refine ret_tmp Tryz.results229 rfl ?_
  exact ⟨cx.ext,_,hl.up cx.ext,.inl rfl⟩
 refine K1 ?_
 replace cx:=cx.nilRow 83 13
 refine K6 ?_
 refine w_loop (fun g f1 w1=>∃ (css:List (List Value)) (kv3:Value) (b1:Nat),g+css.length=v.fields.length∧(∀ c∈css,c.length=13)∧(∀ (i:Nat) (kv:ByteArray×V) (cs:List Value),v.fields[i]?=some kv→css[i]?=some cs→Vw w0 kv.2 cs)∧f1 1=.pointer (some ⟨b1,0,none⟩)∧f1 3=kv3∧f1 4=.int .i64 css.length∧Cxr w0 w1 [(b1,.cells (vrow v.sc (.slice ba v.bytes.length bc) (.slice la v.list.length lc) (.slice fa v.fields.length fc)).toArray 83)] [⟨83,13,kv3,css.length,css.flatten⟩]) (v.fields.length) ?_ ?_
 ·
  exact ⟨[],_,_,by simp,by simp,fun i kv cs h h2=>by simp at h2,rfl,rfl,rfl,cx⟩
 intro gk5 f w hJ
 obtain ⟨css,kv3,b1,hg,hc13,hcv,hs1,hs3,hs4,cx⟩:=hJ
 refine Kl ?_
 refine K5a ?_
 refine K59 ?_
 refine K1 ?_
 refine cSp rfl (fun hc14=>?_) (fun hc14=>?_)
 ·
  have hfa:=hf1 (by omega)
  subst hfa
  obtain ⟨kv,hkv⟩:∃ kv,v.fields[css.length]?=some kv:=⟨v.fields[css.length]'(by omega),List.getElem?_eq_getElem _⟩
  obtain ⟨kcs,hrw,hvw⟩:=hf2 _ kv hkv
  obtain ⟨kb,kl,kf,rfl,_,_,_⟩:=hvw.form
  refine K20 ?_
  refine K5a ?_
  refine K59 ?_
  refine Ke ?_
  refine K1k ?_
  refine K96 ?_
  refine s_val rfl rfl (v_load rfl rfl Tryz.underlying83 rfl sz83 ((hrw.up cx.ext).tail) (hvw.len)) ?_
  refine H17 ?_;intro b24 w cx hb24 hw24
  refine s_append cx ei83 Tryz.underlying80 rfl rfl rfl rfl rfl (cx.row 0 rfl) hvw.len (hvw.one) (by omega) ?_;intro v25 w cx hgr25
  replace cx:=cx.drop 1
  refine Kl ?_
  refine K1 ?_
  refine ⟨gk5-1,_,by omega,rfl,css++[vrow kv.2.sc kb kl kf],_,b1,by simp only [List.length_append,List.length_cons,List.length_nil];omega,?_,?_,hs1,rfl,congrArg (Value.int .i64) (by simp),cx.row_eq (by simp) (by simp)⟩
  · intro c hc
    rcases List.mem_append.1 hc with hc | hc
    · exact hc13 c hc
    · rw [List.mem_singleton.1 hc];exact hvw.len
  · intro i kv' cs h1 h2
    rcases snoc_at h2 with ⟨h3,h4⟩ | ⟨h3,h4⟩
    · exact hcv i kv' cs h1 h4
    · rw [h3,hkv] at h1
      cases h1
      rw [h4];exact hvw
 refine K1f ?_
 refine ret_tmp Tryz.results229 rfl ?_
 refine ⟨cx.ext,v.fields.map (·.2),?_,.inr rfl⟩
 have hi:css.length=v.fields.length:=by omega
 refine Lw.of (css:=css) ?_ (by rw [List.length_map];exact hi) fun i x cs h1 h2=>?_
 · rw [List.length_map,← hi]
   obtain ⟨b,h3,h4⟩:=cx.rowA
   exact ⟨b,h3,fun h5=>h4 (by show 0<css.flatten.length;rw [flat13_len _ hc13];omega)⟩
 · rw [List.getElem?_map] at h1
   cases h5:v.fields[i]? with
   | none=>rw [h5] at h1;cases h1
   | some kv=>rw [h5] at h1;cases h1;exact (hcv i kv cs h5 h2).up cx.ext
def LK (D:Nat):Prop:=∀ (v:V) (cells:List Value) (w0:World) (d n:Nat),Vw w0 v cells→Dp D v→vs D v≤1000000→d≤1000→n≤65536→Fc Tryz.prog 158 [.agg cells.toArray,.int .i64 d,.int .i64 n] w0 (fun u _=>∃ (m:Nat) (e:Int),u=.tuple #[.int .i64 m,.int .i64 e]∧m≤65536)
theorem c158s (D:Nat)(ih:LK D)(v:V)(cells:List Value)(w0:World)(hv:Vw w0 v cells)(hD:Dp (D+1) v)(hz:vs (D+1) v≤1000000)(d n:Nat)(hd:d≤1000)(hn:n≤65536):Fc Tryz.prog 158 [.agg cells.toArray,.int .i64 d,.int .i64 n] w0 (fun u _=>∃ (m:Nat) (e:Int),u=.tuple #[.int .i64 m,.int .i64 e]∧m≤65536):=by
 have hlen:=vs_lens hD
 obtain ⟨ub,ul,uf,rfl,hb,hl,hf⟩:=hv.form
 refine ret_enter Tryz.func158 rfl Tryz.ntmps158 rfl ?_
 have cx:=Ctx.start w0
 refine K0 ?_
 refine Hc ?_;intro b3 w cx hb3 hw3
 refine K7 ?_
 refine cSp rfl (fun hc13=>?_) (fun hc13=>?_)
 ·
  refine K0 ?_
  exact Bz38
 have hd48:d≤48:=by omega
 refine K5 ?_
 refine cSp rfl (fun hc16=>?_) (fun hc16=>?_)
 ·
  refine K0 ?_
  exact Bz38
 refine K2 ?_
 refine K16 ?_
 refine s_fnI cx ((c228w v _ _ (hv.up cx.ext) D hD hz)) Tryz.func228 rfl rfl rfl rfl rfl rfl ?_;intro q19 w cx hw19 hp19
 refine K5 ?_
 refine cSp rfl (fun hc21=>?_) (fun hc21=>?_)
 ·
  refine K1 ?_
  exact Bz38
 refine K7 ?_
 refine K16 ?_
 refine s_fn cx ((c229w v _ _ (hv.up cx.ext) (by omega))) Tryz.func229 rfl rfl rfl rfl rfl rfl ?_;intro q27 w cx hw27 hp27
 obtain ⟨l,hL,hor⟩:=hp27
 have hll:l.length≤1000000:=by
  rcases hor with h | h
  · rw [h];omega
  · rw [h,List.length_map];omega
 have hch:∀ x∈l,Dp D x∧vs D x≤1000000:=by
  intro x hx
  rcases hor with h | h
  · rw [h] at hx;have:=vs_list hD hx;exact ⟨this.1,by omega⟩
  · rw [h] at hx
    obtain ⟨kv,h1,rfl⟩:=List.mem_map.1 hx
    have:=vs_field hD h1
    exact ⟨this.1,by omega⟩
 refine K6 ?_
 refine w_loop (fun g f1 w1=>∃ (i n2:Nat) (u9:Value),g+i=l.length∧n2≤65536∧f1 1=.int .i64 d∧f1 2=.int .i64 n2∧f1 9=u9∧f1 10=.int .i64 i∧Lw w1 u9 l∧Ctx w0 w1 []) (l.length) ?_ ?_
 ·
  exact ⟨0,n+1,_,by omega,by omega,rfl,rfl,rfl,rfl,hL,Ctx.sub0 cx⟩
 intro gk11 f w hJ
 obtain ⟨i,n2,u9,hg,hn2,hs1,hs2,hs9,hs10,hL,cx⟩:=hJ
 have hL2:=hL
 obtain ⟨ka,kc,kb,rfl,hkc,hk1,hk2⟩:=hL2
 refine K4s ?_
 refine K2o ?_
 refine cSp rfl (fun hc31=>?_) (fun hc31=>?_)
 ·
  obtain ⟨x,hx⟩:∃ x,l[i]?=some x:=⟨l[i]'(by omega),List.getElem?_eq_getElem _⟩
  have hmx:=List.mem_of_getElem? hx
  obtain ⟨xcs,hrx,hvx⟩:=hk2 i x hx
  have hka:=hk1 (by omega)
  subst hka
  refine K7 ?_
  refine K1v ?_
  refine Kw ?_
  refine Kb6 ?_
  refine s_val rfl rfl (v_load rfl rfl Tryz.underlying83 rfl sz83 hrx hvx.len) ?_
  refine K3b ?_
  refine Kp ?_
  refine s_fn cx (ih x xcs w (d+1) n2 hvx (hch x hmx).1 (hch x hmx).2 (by omega) hn2) Tryz.func158 rfl rfl rfl rfl rfl rfl ?_;intro q42 w cx hw42 hp42
  obtain ⟨m,e,rfl,hm⟩:=hp42
  refine Ka ?_
  refine cSp rfl (fun hc46=>?_) (fun hc46=>?_)
  ·
   refine K6 ?_
   refine K7z ?_
   exact ⟨cx.ext,_,_,rfl,hm⟩
  refine K0 ?_
  refine Kw ?_
  refine K1 ?_
  exact ⟨gk11-1,_,by omega,rfl,i+1,m,_,by omega,hm,hs1,rfl,hs9,rfl,hL.up hw42,cx⟩
 refine K1 ?_
 refine Kp ?_
 refine K2 ?_
 refine K7z ?_
 exact ⟨cx.ext,_,_,rfl,hn2⟩
theorem c158w:∀ D,LK D
 | 0=>fun v cells w0 d n _ h=>h.elim
 | D+1=>fun v cells w0 d n hv hD hz hd hn=>c158s D (c158w D) v cells w0 hv hD hz d n hd hn
theorem c100w (D:Nat)(v:V)(cells:List Value)(w0:World)(hv:Vw w0 v cells)(hD:Dp D v)(hz:vs D v≤1000000):Fc Tryz.prog 100 [.agg cells.toArray] w0 (IsI fun _=>True):=by
 refine ret_enter Tryz.func100 rfl Tryz.ntmps100 rfl ?_
 have cx:=Ctx.start w0
 refine K0 ?_
 refine Hc ?_;intro b1 w cx hb1 hw1
 refine K2 ?_
 refine Kb7 ?_
 refine s_fn cx ((c158w D v cells _ 1 0 (hv.up cx.ext) hD hz (by omega) (by omega))) Tryz.func158 rfl rfl rfl rfl rfl rfl ?_;intro q7 w cx hw7 hp7
 obtain ⟨m,e,rfl,hm⟩:=hp7
 refine Ko ?_
 refine ret_tmp Tryz.results100 rfl ?_
 exact Ezj
end Go.Proofs.YthiafbkolhnadaaGreatDoor
end
section
namespace Go.Dk
open Go Go.RowKit Go.Lib
theorem lenF_val {y:Nat}(h0:1≤y)(h1:y≤9999):lenF y=365+(if leapF y then 1 else 0):=by
 have e:¬ (y<1∨9999<y):=by omega
 unfold lenF
 simp only [moF,monF,if_neg e]
 cases leapF y <;> rfl
def YS:Nat→Nat
 | 0=>0
 | k+1=>YS k+lenF (k+1)
theorem YS_val:∀ k,k≤9999→YS k=365*k+k / 4-k / 100+k / 400
 | 0,_=>rfl
 | k+1,h=>by
  have ih:=YS_val k (by omega)
  have hl:=lenF_val (y:=k+1) (by omega) (by omega)
  have hb:leapF (k+1)=true↔((k+1)%4=0∧(k+1)%100≠0)∨(k+1)%400=0:=by
   unfold leapF
   simp only [Bool.or_eq_true,Bool.and_eq_true,beq_iff_eq,bne_iff_ne,ne_eq]
  simp only [YS]
  rw [ih,hl]
  by_cases hc:leapF (k+1)=true
  · rw [if_pos hc]
    have:=hb.1 hc
    omega
  · rw [if_neg hc]
    have:¬ (((k+1)%4=0∧(k+1)%100≠0)∨(k+1)%400=0):=fun h=>hc (hb.2 h)
    omega
theorem YS_all:YS 9999=3652059:=YS_val 9999 (by omega)
theorem bvOf {m:Nat}(h:m<256):(Value.int .u8 (IntKind.u8.wrap (m:Int)))=bv (UInt8.ofNat m):=by
 rw [u8_in h]
 unfold bv
 rw [show (UInt8.ofNat m).toNat=m by simp [UInt8.toNat_ofNat'];omega]
end Go.Dk
end
section
namespace Go.Proofs.YthiafbkolhnadaaGreatDoor
open Go Go.Dk Go.RowKit Go.Lib
attribute [local irreducible] Go.wpList Go.Code.wp Go.bodyPost Go.wpStill Go.wpQuiet
theorem c230 (n:Nat)(w0:World)(hn:n≤1000000):Fc Tryz.prog 230 [.int .i64 n] w0 (fun u _=>∃ t:List UInt8,u=.string (bs t)∧t.length≤n):=by
 refine ret_enter Tryz.func230 rfl Tryz.ntmps230 rfl ?_
 have cx:=Ctx.start w0
 refine K5 ?_
 refine s_make (nn:=n) cx Tryz.underlying79 mk5 rfl rfl rfl rfl rfl (by omega) p2bq ?_;intro v6 w cx hgr6 hv6
 obtain ⟨g0,rfl⟩:=hv6
 refine K6 ?_
 refine w_loop (fun g f w1=>∃ (i:Nat) (l:List UInt8),g+i=n∧l.length=n∧f 0=.int .i64 n∧f 3=.slice (some ⟨g0,0,none⟩) n n∧f 4=.int .i64 i∧Cxr w0 w1 [] [⟨5,1,.slice (some ⟨g0,0,none⟩) n n,n,l.map bv⟩]) (n) ?_ ?_
 ·
  exact ⟨0,List.replicate n 0,by omega,by simp,rfl,rfl,rfl,cx.row_eq rfl (by rw [List.map_replicate];rfl)⟩
 intro gk3 f w hJ
 obtain ⟨i,l,hg,hln,hs0,hs3,hs4,cx⟩:=hJ
 refine Kl ?_
 refine K69 ?_
 refine cSp rfl (fun hc9=>?_) (fun hc9=>?_)
 ·
  refine K20 ?_
  refine Ke ?_
  refine K3f ?_
  refine s_cell (v:=bv 48) cx rfl rfl rfl rfl rfl rfl p1dq sz5 ?_;intro w cx hgrS
  rw [show 0+Int.toNat (i:Int)*1=i by omega,← List.map_set] at cx
  refine K26 ?_
  exact ⟨gk3-1,_,by omega,rfl,i+1,l.set i 48,by omega,by rw [List.length_set,hln],hs0,hs3,rfl,cx⟩
 refine K10 ?_
 refine K6g ?_
 refine ret_tmp Tryz.results230 rfl ?_
 exact ⟨cx.ext,l,rfl,by omega⟩
theorem c231 (x:Int)(w0:World)(h0:-1000000000≤x)(h1:x≤1000000000):Fc Tryz.prog 231 [.int .i64 x] w0 (fun u _=>∃ t:List UInt8,u=.string (bs t)∧t.length≤30):=by
 refine ret_enter Tryz.func231 rfl Tryz.ntmps231 rfl ?_
 have cx:=Ctx.start w0
 refine K8 ?_
 refine cSp rfl (fun hc4=>?_) (fun hc4=>?_)
 ·
  refine K1 ?_
  refine K3k ?_
  refine s_fn cx (c99 (-x).toNat _ (by omega)) Tryz.func99 rfl rfl rfl rfl rfl (by rw [show (((-x).toNat:Nat):Int)=-x by omega];rfl) ?_;intro q7 w cx hw7 hp7
  subst hp7
  have hdl:=dgs_le (-x).toNat (by omega)
  refine s_val rfl rfl (v_strAddB (a:=[45]) rfl rfl rfl p1bq) ?_
  exact Bz184
 refine K5 ?_
 refine cSp rfl (fun hc10=>?_) (fun hc10=>?_)
 ·
  refine K3 ?_
  refine ret_tmp Tryz.results231 rfl ?_
  exact ⟨cx.ext,[48],rfl,by decide⟩
 refine K2 ?_
 refine s_fn cx (c99 x.toNat _ (by omega)) Tryz.func99 rfl rfl rfl rfl rfl (by rw [show ((x.toNat:Nat):Int)=x by omega];rfl) ?_;intro q12 w cx hw12 hp12
 subst hp12
 have hdl:=dgs_le x.toNat (by omega)
 exact Bz184
theorem c159l (b:Bool)(s:List UInt8)(x:Int)(w0:World)(hs:s.length≤1000000)(h0:-400≤x)(h1:x≤400):Fc Tryz.prog 159 [.agg #[.bool b,.string (bs s),.int .i64 x]] w0 (fun u _=>∃ t:List UInt8,u=.string (bs t)∧t.length≤s.length+60):=by
 refine ret_enter Tryz.func159 rfl Tryz.ntmps159 rfl ?_
 have cx:=Ctx.start w0
 refine K0 ?_
 refine Hc ?_;intro b1 w cx hb1 hw1
 refine K3 ?_
 refine K6j ?_
 refine K2e ?_
 refine cSp rfl (fun hc7=>?_) (fun hc7=>?_)
 ·
  refine K3 ?_
  refine ret_tmp Tryz.results159 rfl ?_
  exact ⟨cx.ext,[48],rfl,by simp⟩
 have hne:0<s.length:=List.length_pos_iff.2 hc7
 refine K3 ?_
 refine w_cut (fun f w1=>∃ (b1:Nat) (p:List UInt8),f 1=.pointer (some ⟨b1,0,none⟩)∧f 3=.string (bs p)∧p.length≤1∧Ctx w0 w1 [(b1,.cells ([.bool b,.string (bs s),.int .i64 x]:List Value).toArray 76)]) ?_ ?_
 ·
  refine Kcb ?_
  refine K4v ?_
  refine cSp rfl (fun hc9=>?_) (fun hc9=>?_)
  ·
   refine K1 ?_
   exact Bz62
  refine SS ?_
  exact Bz62
 intro f w hJ
 obtain ⟨b1,p,hs1,hs3,hp1,cx⟩:=hJ
 refine K0 ?_
 refine K4t ?_
 refine SS ?_
 refine K5b ?_
 refine K12 ?_
 refine K4 ?_
 refine K5b ?_
 refine K12 ?_
 refine K4 ?_
 refine cSp rfl (fun hc22=>?_) (fun hc22=>?_)
 ·
  refine SS ?_
  refine w_ord cx (cx.pick1 0 rfl) mixed [(0,23),(1,24),(2,25),(3,26),(4,27),(5,28)] #[true,true,true,true,true,true,false,false,false] p1q p1q p1q p1q ?_
  refine K34 ?_
  refine K40 ?_
  refine K5c ?_
  refine pu_one rfl (wnt_none rfl) (fun w cx=>v_fa fa76_2 rfl hs1) ?_
  refine K1z ?_
  refine Hv ?_;intro w cx hwD8
  refine K32 ?_
  refine s_fn cx (c230 x.toNat _ (by omega)) Tryz.func230 rfl rfl rfl rfl rfl (by rw [show ((x.toNat:Nat):Int)=x by omega];rfl) ?_;intro q29 w cx hw29 hp29
  obtain ⟨t29,rfl,ht29⟩:=hp29
  refine Kd ?_
  refine K1s ?_
  refine K4m ?_
  refine K1h ?_
  exact Bz198
 refine K2 ?_
 refine K5b ?_
 refine K12 ?_
 refine K8 ?_
 refine cSp rfl (fun hc41=>?_) (fun hc41=>?_)
 ·
  refine SS ?_
  refine w_ord cx (cx.pick1 0 rfl) mixed [(0,42),(1,43),(2,44),(3,45),(4,46),(5,47),(6,48),(7,49),(8,50),(9,51),(10,52),(11,53),(12,2)] #[true,true,true,true,true,true,true,true,true,true,true,true,true] p1q p1q p1q p1q ?_
  refine K34 ?_
  refine K40 ?_
  refine Kz ?_
  refine K8y ?_
  refine K5c ?_
  refine Kdq ?_
  refine K40 ?_
  refine Kz ?_
  refine Kdr ?_
  refine K5c ?_
  refine pu_one rfl (wnt_none rfl) (fun w cx=>v_assign rfl rfl) ?_
  refine Hv ?_;intro w cx hwD10
  refine K7y ?_
  exact Bz179
 refine Ka ?_
 refine cSp rfl (fun hc59=>?_) (fun hc59=>?_)
 ·
  refine SS ?_
  refine w_ord cx (cx.pick1 0 rfl) mixed [(0,60),(1,61),(2,62),(3,63),(6,66),(7,67)] #[true,true,true,true,false,false,true,true,false,false] p1q p1q p1q p1q ?_
  refine K34 ?_
  refine Kds ?_
  refine Kz ?_
  refine Kdt ?_
  refine K40 ?_
  refine Hv ?_;intro w cx hwD12
  refine K7l ?_
  refine s_fn cx (c230 (-((s.length:Int)+x)).toNat _ (by omega)) Tryz.func230 rfl rfl rfl rfl rfl (by rw [show (((-((s.length:Int)+x)).toNat:Nat):Int)=-((s.length:Int)+x) by omega];rfl) ?_;intro q64 w cx hw64 hp64
  obtain ⟨t64,rfl,ht64⟩:=hp64
  refine Kd ?_
  refine K31 ?_
  refine Kt ?_
  refine Kd ?_
  refine K1h ?_
  refine K4m ?_
  refine K1c ?_
  exact Bz198
 refine K10 ?_
 refine K4t ?_
 refine K29 ?_
 refine K5y ?_
 refine w_cut (fun f w1=>∃ (b1:Nat) (p:List UInt8),f 1=.pointer (some ⟨b1,0,none⟩)∧f 3=.string (bs p)∧f 4=.int .i64 ((s.length:Int)+x)∧p.length≤s.length+10∧Ctx w0 w1 [(b1,.cells ([.bool b,.string (bs s),.int .i64 x]:List Value).toArray 76)]) ?_ ?_
 ·
  refine K0 ?_
  refine K4t ?_
  refine K1 ?_
  refine cSp rfl (fun hc77=>?_) (fun hc77=>?_)
  ·
   refine K0 ?_
   refine Kb8 ?_
   refine K4t ?_
   refine SS ?_
   refine K5y ?_
   exact Bz120
  refine SS ?_
  exact Bz120
 intro f w hJ
 obtain ⟨b1,p,hs1,hs3,hs4,hp2,cx⟩:=hJ
 refine K36 ?_
 refine s_val rfl rfl (v_strAddB (b:=[101]) rfl rfl rfl p2q) ?_
 refine K22 ?_
 refine s_fn cx (c231 ((s.length:Int)+x-1) _ (by omega) (by omega)) Tryz.func231 rfl rfl rfl rfl rfl rfl ?_;intro q88 w cx hw88 hp88
 obtain ⟨t88,rfl,ht88⟩:=hp88
 refine K5y ?_
 exact Bz179
theorem c159w (b:Bool)(s:ByteArray)(x:Int)(w0:World)(hs:s.size≤1000000)(h0:-400≤x)(h1:x≤400):Fc Tryz.prog 159 [.agg #[.bool b,.string s,.int .i64 x]] w0 (fun u _=>∃ t:List UInt8,u=.string (bs t)∧t.length≤s.size+60):=by
 have h:=c159l b s.data.toList x w0 p21q h0 h1
 rw [bs_of] at h
 exact Ezk
theorem c235 (x k:Nat)(w0:World)(hx:x≤1000000000000000000)(hk:k≤1000):Fc Tryz.prog 235 [.int .i64 x,.int .i64 k] w0 (fun u _=>∃ t:List UInt8,u=.string (bs t)∧t.length=k):=by
 refine ret_enter Tryz.func235 rfl Tryz.ntmps235 rfl ?_
 have cx:=Ctx.start w0
 refine K13 ?_
 refine w_loop (fun g f w1=>∃ (i n:Nat) (t:List UInt8),g+i=k∧n≤1000000000000000000∧t.length=i∧f 0=.int .i64 n∧f 1=.int .i64 k∧f 5=.string (bs t)∧f 6=.int .i64 i∧Ctx w0 w1 []) (k) ?_ ?_
 ·
  exact ⟨0,x,[],by omega,hx,rfl,rfl,rfl,rfl,rfl,cx⟩
 intro gk3 f w hJ
 obtain ⟨i,n,t,hg,hn,ht,hs0,hs1,hs5,hs6,cx⟩:=hJ
 refine K11 ?_
 refine K2q ?_
 refine cSp rfl (fun hc9=>?_) (fun hc9=>?_)
 ·
  refine K19 ?_
  refine K8k ?_
  refine SS ?_
  refine Kdu ?_
  refine He ?_;intro b16 w cx hb16 hw16
  replace cx:=Cxr.toRow (size:=1) (k:=1) cx rfl (by decide)
  refine s_val rfl rfl (v_rowStr (l:=[UInt8.ofNat (48+n%10)]) cx rfl Tryz.underlying79 Tryz.underlying5 Tryz.underlying9 rfl) ?_
  refine Kh ?_
  refine Kt ?_
  refine K9 ?_
  refine K8l ?_
  refine K6f ?_
  exact ⟨gk3-1,_,by omega,rfl,i+1,n / 10,_,by omega,by omega,by simp only [List.length_append,List.length_cons,List.length_nil];omega,rfl,hs1,rfl,rfl,cx.noR⟩
 refine K3z ?_
 refine ret_tmp Tryz.results235 rfl ?_
 exact ⟨cx.ext,t,rfl,by omega⟩
theorem c236 (n:Nat)(w0:World)(hn:n≤86399999999999):Fc Tryz.prog 236 [.int .i64 n] w0 (fun u _=>∃ t:List UInt8,u=.string (bs t)∧t.length≤18):=by
 refine ret_enter Tryz.func236 rfl Tryz.ntmps236 rfl ?_
 have cx:=Ctx.start w0
 refine K5 ?_
 refine Kdv ?_
 refine K3 ?_
 refine Kdw ?_
 refine s_fn cx (c235 (n / 1000000000 / 3600) 2 _ (by omega) (by omega)) Tryz.func235 rfl rfl rfl rfl rfl rfl ?_;intro q10 w cx hw10 hp10
 obtain ⟨t10,rfl,ht10⟩:=hp10
 refine K4e ?_
 refine SS ?_
 refine Kb9 ?_
 refine K7m ?_
 refine s_fn cx (c235 (n / 1000000000 / 60%60) 2 _ (by omega) (by omega)) Tryz.func235 rfl rfl rfl rfl rfl rfl ?_;intro q15 w cx hw15 hp15
 obtain ⟨t15,rfl,ht15⟩:=hp15
 refine Kt ?_
 refine K4e ?_
 refine SS ?_
 refine K7m ?_
 refine s_fn cx (c235 (n / 1000000000%60) 2 _ (by omega) (by omega)) Tryz.func235 rfl rfl rfl rfl rfl rfl ?_;intro q20 w cx hw20 hp20
 obtain ⟨t20,rfl,ht20⟩:=hp20
 refine Kt ?_
 refine K3 ?_
 refine s_val rfl rfl (v_rem (q:=1000000000) rfl rfl rfl (by decide)) ?_
 refine s_fn cx (c235 (n%1000000000) 9 _ (by omega) (by omega)) Tryz.func235 rfl rfl rfl rfl rfl rfl ?_;intro q24 w cx hw24 hp24
 obtain ⟨t24,rfl,ht24⟩:=hp24
 refine K2 ?_
 refine w_loop (fun g f w1=>∃ p t:List UInt8,g=t.length∧t.length≤9∧p.length=8∧f 4=.string (bs p)∧f 5=.string (bs t)∧Ctx w0 w1 []) (t24.length) ?_ ?_
 ·
  exact ⟨_,t24,rfl,by omega,by simp only [List.length_append,List.length_cons,List.length_nil];omega,rfl,rfl,cx⟩
 intro gk4 f w hJ
 obtain ⟨p,t,hg,ht9,hp8,hs4,hs5,cx⟩:=hJ
 refine K3z ?_
 refine K8o ?_
 refine K8o ?_
 refine SS ?_
 refine K8r ?_
 refine K1o ?_
 refine cSp rfl (fun hc35=>?_) (fun hc35=>?_)
 ·
  refine Kf ?_
  refine K63 ?_
  refine K29 ?_
  refine K0 ?_
  exact ⟨(t.take (Int.toNat ((t.length:Int)-1))).length,_,by rw [List.length_take];omega,rfl,p,_,rfl,by rw [List.length_take];omega,hp8,hs4,rfl,cx⟩
 refine K4p ?_
 refine K2e ?_
 refine cSp rfl (fun hc42=>?_) (fun hc42=>?_)
 ·
  refine K1i ?_
  exact Bz185
 refine Kl ?_
 refine Kb8 ?_
 refine Kh ?_
 refine Kt ?_
 exact Bz185
theorem c237 (z:Int)(w0:World)(h0:-1439≤z)(h1:z≤1439):Fc Tryz.prog 237 [.int .i64 z] w0 (fun u _=>∃ t:List UInt8,u=.string (bs t)∧t.length≤6):=by
 refine ret_enter Tryz.func237 rfl Tryz.ntmps237 rfl ?_
 have cx:=Ctx.start w0
 refine Ko ?_
 refine cSp rfl (fun hc3=>?_) (fun hc3=>?_)
 ·
  refine K3 ?_
  refine ret_tmp Tryz.results237 rfl ?_
  exact ⟨cx.ext,[90],rfl,by decide⟩
 refine K4 ?_
 refine cSp rfl (fun hc6=>?_) (fun hc6=>?_)
 ·
  refine K1 ?_
  refine K3k ?_
  refine s_val rfl rfl (v_quo (p:=(-z).toNat) (q:=60) rfl (show _=Value.int .i64 (((-z).toNat:Nat):Int) by rw [show (((-z).toNat:Nat):Int)=-z by omega];rfl) rfl (by omega) (by decide)) ?_
  refine s_fn cx (c235 ((-z).toNat / 60) 2 _ (by omega) (by omega)) Tryz.func235 rfl rfl rfl rfl rfl rfl ?_;intro q12 w cx hw12 hp12
  obtain ⟨t12,rfl,ht12⟩:=hp12
  refine s_val rfl rfl (v_strAddB (a:=[45]) rfl rfl rfl p2q) ?_
  refine K4e ?_
  refine SS ?_
  refine K3k ?_
  refine s_val rfl rfl (v_rem (p:=(-z).toNat) (q:=60) rfl (show _=Value.int .i64 (((-z).toNat:Nat):Int) by rw [show (((-z).toNat:Nat):Int)=-z by omega];rfl) rfl (by decide)) ?_
  refine s_fn cx (c235 ((-z).toNat%60) 2 _ (by omega) (by omega)) Tryz.func235 rfl rfl rfl rfl rfl rfl ?_;intro q18 w cx hw18 hp18
  obtain ⟨t18,rfl,ht18⟩:=hp18
  exact Bz177
 refine K2 ?_
 refine s_val rfl rfl (v_quo (p:=z.toNat) (q:=60) rfl (show _=Value.int .i64 ((z.toNat:Nat):Int) by rw [show ((z.toNat:Nat):Int)=z by omega];rfl) rfl (by omega) (by decide)) ?_
 refine s_fn cx (c235 (z.toNat / 60) 2 _ (by omega) (by omega)) Tryz.func235 rfl rfl rfl rfl rfl rfl ?_;intro q22 w cx hw22 hp22
 obtain ⟨t22,rfl,ht22⟩:=hp22
 refine s_val rfl rfl (v_strAddB (a:=[43]) rfl rfl rfl p2q) ?_
 refine K4e ?_
 refine SS ?_
 refine s_val rfl rfl (v_rem (p:=z.toNat) (q:=60) rfl (show _=Value.int .i64 ((z.toNat:Nat):Int) by rw [show ((z.toNat:Nat):Int)=z by omega];rfl) rfl (by decide)) ?_
 refine s_fn cx (c235 (z.toNat%60) 2 _ (by omega) (by omega)) Tryz.func235 rfl rfl rfl rfl rfl rfl ?_;intro q27 w cx hw27 hp27
 obtain ⟨t27,rfl,ht27⟩:=hp27
 exact Bz177
theorem c310 (n:Nat)(w0:World)(hn:n≤3652058):Fc Tryz.prog 310 [.int .i64 n] w0 (IsB fun b=>b=true):=by
 refine ret_enter Tryz.func310 rfl Tryz.ntmps310 rfl ?_
 have cx:=Ctx.start w0
 refine K21 ?_
 refine ret_tmp Tryz.results310 rfl ?_
 exact Ezl
theorem c234 (n0:Nat)(w0:World)(hn0:n0≤3652058):Fc Tryz.prog 234 [.int .i64 n0] w0 (fun u _=>∃ (y m d:Nat) (e:Int),u=.tuple #[.int .i64 y,.int .i64 m,.int .i64 d,.int .i64 e]∧y≤1000000∧m≤1000000∧d≤4000000):=by
 refine ret_enter Tryz.func234 rfl Tryz.ntmps234 rfl ?_
 have cx:=Ctx.start w0
 refine Ka ?_
 refine s_fnB cx (c310 n0 _ hn0) Tryz.func310 rfl rfl rfl rfl rfl rfl ?_;intro q9 w cx hw9 hp9
 refine K0 ?_
 refine cSp rfl (fun hc10=>?_) (fun hc10=>?_)
 ·
  refine K6 ?_
  refine ret_tmp4 Tryz.results234 rfl rfl rfl rfl ?_
  exact ⟨cx.ext,0,0,0,_,rfl,by omega,by omega,by omega⟩
 refine K6 ?_
 refine w_loop (fun g f w1=>∃ y n:Nat,g+y=10000∧1≤y∧y≤9999∧n+YS (y-1)=n0∧f 0=.int .i64 n∧f 6=.int .i64 y∧f 7=.int .i64 1∧Ctx w0 w1 []) (9999) ?_ ?_
 ·
  exact ⟨1,n0,by omega,by omega,by omega,rfl,rfl,rfl,rfl,cx⟩
 intro gk4 f w hJ
 obtain ⟨y,n,hg,hy1,hy2,hyn,hs0,hs6,hs7,cx⟩:=hJ
 refine K9 ?_
 refine Kc ?_
 refine Hu ?_;intro q13 w cx hw13 hp13
 subst hp13
 have hll:=lenF_le y
 refine K0 ?_
 refine cSp rfl (fun hc14=>?_) (fun hc14=>?_)
 ·
  refine K1p ?_
  refine Kc ?_
  refine Hu ?_;intro q17 w cx hw17 hp17
  subst hp17
  have hll:=lenF_le y
  refine K38 ?_
  refine K1 ?_
  have hYs:YS y=YS (y-1)+lenF y:=by
   obtain ⟨k,rfl⟩:∃ k,y=k+1:=⟨y-1,by omega⟩
   rfl
  have hy3:y≤9998:=by
   rcases Nat.lt_or_ge y 9999 with h | h
   · omega
   · have h2:=YS_all
     have h4:YS y=3652059:=by rw [show y=9999 by omega];exact h2
     omega
  refine ⟨gk4-1,_,by omega,rfl,y+1,n-lenF y,by omega,by omega,by omega,?_,congrArg (Value.int .i64) (by omega),rfl,hs7,cx⟩
  rw [show y+1-1=y by omega]
  omega
 have hly:n<lenF y:=by omega
 refine K1 ?_
 refine w_loop (fun g f w1=>∃ m n:Nat,g+m=13∧1≤m∧m≤12∧n+moF y (m-1)<lenF y∧f 0=.int .i64 n∧f 6=.int .i64 y∧f 7=.int .i64 m∧Ctx w0 w1 []) (12) ?_ ?_
 ·
  exact ⟨1,n,by omega,by omega,by omega,hly,hs0,hs6,hs7,cx⟩
 intro gk7 f w hJ
 obtain ⟨m,n,hg,hm1,hm2,hmn,hs0,hs6,hs7,cx⟩:=hJ
 have hll0:=lenF_le y
 refine K9 ?_
 refine Kc ?_
 refine Kk ?_
 refine Ht ?_;intro q24 w cx hw24 hp24
 subst hp24
 have hml:=monF_le y m
 refine K0 ?_
 refine cSp rfl (fun hc25=>?_) (fun hc25=>?_)
 ·
  refine K1p ?_
  refine Kc ?_
  refine Kk ?_
  refine Ht ?_;intro q29 w cx hw29 hp29
  subst hp29
  have hml:=monF_le y m
  refine K2 ?_
  refine Kk ?_
  refine K1 ?_
  have hMs:moF y m=moF y (m-1)+monF y m:=by
   obtain ⟨k,rfl⟩:∃ k,m=k+1:=⟨m-1,by omega⟩
   rfl
  have hm3:m≤11:=by
   exact Bz146
  refine ⟨gk7-1,_,by omega,rfl,m+1,n-monF y m,by omega,by omega,by omega,?_,congrArg (Value.int .i64) (by omega),hs6,rfl,cx⟩
  rw [show m+1-1=m by omega]
  omega
 refine K11 ?_
 refine Kk ?_
 refine Kb ?_
 refine K5 ?_
 refine ret_tmp4 Tryz.results234 rfl rfl rfl rfl ?_
 exact ⟨cx.ext,y,m,n+1,_,rfl,by omega,by omega,by omega⟩
theorem c161 (k d n z:Int)(w0:World):Fc Tryz.prog 161 [.agg #[.int .i64 k,.int .i64 d,.int .i64 n,.int .i64 z]] w0 (fun u _=>∃ t:List UInt8,u=.string (bs t)∧t.length≤60):=by
 refine ret_enter Tryz.func161 rfl Tryz.ntmps161 rfl ?_
 have cx:=Ctx.start w0
 refine K0 ?_
 refine Hc ?_;intro b1 w cx hb1 hw1
 refine K3 ?_
 refine K90 ?_
 refine s_fnB cx (c233w _ _ _ _ _) Tryz.func233 rfl rfl rfl rfl rfl rfl ?_;intro q9 w cx hw9 hp9
 refine K0 ?_
 refine cSp rfl (fun hc10=>?_) (fun hc10=>?_)
 ·
  refine K3 ?_
  refine ret_tmp Tryz.results161 rfl ?_
  exact ⟨cx.ext,[],rfl,by simp⟩
 have hb:=hp9 hc10
 obtain ⟨hd0,hd1,hn0,hn1,hz0,hz1⟩:=hb
 refine K1 ?_
 refine K98 ?_
 refine K12 ?_
 refine s_fn cx (c234 d.toNat _ (by omega)) Tryz.func234 rfl rfl rfl rfl rfl p22q ?_;intro q14 w cx hw14 hp14
 obtain ⟨y,m,dd,e,rfl,hy,hm,hdd⟩:=hp14
 refine K14 ?_
 refine s_fn cx (c235 (y) 4 _ (by omega) (by omega)) Tryz.func235 rfl rfl rfl rfl rfl rfl ?_;intro q20 w cx hw20 hp20
 obtain ⟨t20,rfl,ht20⟩:=hp20
 refine K99 ?_
 refine SS ?_
 refine s_fn cx (c235 (m) 2 _ (by omega) (by omega)) Tryz.func235 rfl rfl rfl rfl rfl rfl ?_;intro q23 w cx hw23 hp23
 obtain ⟨t23,rfl,ht23⟩:=hp23
 refine Kt ?_
 refine K99 ?_
 refine SS ?_
 refine s_fn cx (c235 (dd) 2 _ (by omega) (by omega)) Tryz.func235 rfl rfl rfl rfl rfl rfl ?_;intro q27 w cx hw27 hp27
 obtain ⟨t27,rfl,ht27⟩:=hp27
 refine Kt ?_
 refine K3 ?_
 refine K42 ?_
 refine K5v ?_
 refine cSp rfl (fun hc31=>?_) (fun hc31=>?_)
 ·
  refine K1 ?_
  exact Bz172
 refine K3 ?_
 refine cSp rfl (fun hc34=>?_) (fun hc34=>?_)
 ·
  refine K0 ?_
  refine K9a ?_
  refine K12 ?_
  refine H1c ?_;intro q38 w cx hw38 hp38
  obtain ⟨tc,rfl,htc⟩:=hp38
  exact Bz172
 refine K3 ?_
 refine cSp rfl (fun hc39=>?_) (fun hc39=>?_)
 ·
  refine K1 ?_
  refine K5d ?_
  refine K9a ?_
  refine K12 ?_
  refine H1c ?_;intro q45 w cx hw45 hp45
  obtain ⟨tc,rfl,htc⟩:=hp45
  refine Kt ?_
  exact Bz172
 refine K0 ?_
 refine w_ord cx (cx.pick1 0 rfl) mixed [(0,47),(1,48),(2,49),(3,50),(6,53),(7,54)] #[true,true,true,true,false,false,true,true,false,false,false] p1q p1q p1q p1q ?_
 refine Kz ?_
 refine pu_one rfl (wnt_none rfl) (fun w cx=>v_strAddB (b:=[84]) rfl rfl rfl p2q) ?_
 refine Kba ?_
 refine K1z ?_
 refine pu_one rfl (wnt_none rfl) (fun w cx=>v_fa fa78_3 rfl rfl) ?_
 refine K1z ?_
 refine Hv ?_;intro w cx hwD12
 refine K7l ?_
 refine H1c ?_;intro q51 w cx hw51 hp51
 obtain ⟨tc,rfl,htc⟩:=hp51
 refine Kd ?_
 refine x_two (i:=5) (j:=8) p1q rfl rfl ?_ ?_
 ·
  refine Kt ?_
  refine Kd ?_
  refine K1h ?_
  refine H1d ?_;intro q55 w cx hw55 hp55
  obtain ⟨tz,rfl,htz⟩:=hp55
  exact Bz168
 refine H1d ?_;intro q55 w cx hw55 hp55
 obtain ⟨tz,rfl,htz⟩:=hp55
 refine Kd ?_
 refine K31 ?_
 refine Kt ?_
 exact Bz168
end Go.Proofs.YthiafbkolhnadaaGreatDoor
end
section
namespace Go.Dk
open Go Go.RowKit Go.Lib
def leS (s u:ByteArray):Bool:=Op.bytesLess s.toList u.toList||s.toList==u.toList
section
variable {P:Program} {ops:Array Oper} {Q:Exit→Act→World→Prop} {o:Oper} {rest:List Oper} {n:Nat} {f:Nat→Value} {w0 w:World} {L:List (Nat×Obj)} {R:List Row} {ρ:Operand→Value}
theorem v_strLe {t t':TypeId}{x y:Operand}{s u:ByteArray}(ho:o.op=.binOp .leq t x y t')(hx:ρ x=.string s)(hy:ρ y=.string u) :
  (execOp ρ o).run P w=.ok (.value (.bool (leS s u))) w:=by
 unfold execOp;rw [ho]
 simp [hx,hy,eqGuard,binOp,Op.stringOp,leS]
theorem v_slFrom {t e s len cap:Nat}{a:Option Addr}{x y:Operand}{kd:IntKind}{l:Int}(ho:o.op=.slice t x (some y) none none)(hx:ρ x=.slice a len cap)(hy:ρ y=.int kd l)(hu:P.underlying t=some (.slice e))(hs:(P.info? e).map (·.size)=some s)(h0:0≤l)(h1:l≤len)(h2:len≤cap) :
  (execOp ρ o).run P w=.ok (.value (.slice (if cap=l.toNat then a else a.map (·.add (l.toNat*s))) (len-l.toNat) (cap-l.toNat))) w:=by
 unfold execOp;rw [ho]
 simp [hx,hy,Instr.sliceAt,Instr.slice,Instr.sliceBounds,Instr.sliceBound,asIntOf,run_underlying hu,h0,h1,h2,run_size (w:=w) hs,add_addr]
theorem s_appendA {s x:Operand}{t e size bytes:Nat}{v:Value}{k m c d:Nat}{a:Option Addr}{xs news:List Value}(cx:Cxr w0 w L (⟨e,size,v,k,xs⟩::R))(ei:EI P e size bytes)(ht:P.underlying t=some (.slice e))
  (hg:o.guard=none) (hd:o.dst=some d) (ho:o.op=.call { callee:=.builtin .append,args:=#[s,x],argTypes:=#[t,t]}) (hs:ev n f s=v) (hx:ev n f x=.slice a m c) (hc:a=none→c=0)
  (hr:0<m→∃ b off,a=some ⟨b,off,none⟩∧RowAt w b off news) (hl:news.length=m*size) (h1:news.all (·.oneCell')=true) (hb:(k+m)*bytes≤140737488355328)
  (h:∀ v' w',Cxr w0 w' L (⟨e,size,v',k+m,xs++news⟩::R)→wpList P ops Q rest (St n (upd f d v')) w'):wpList P ops Q (o::rest) (St n f) w:=by
 cases a with
 | none =>
  have hm:m=0:=by
   rcases Nat.eq_zero_or_pos m with h2 | h2
   · exact h2
   · obtain ⟨b,off,h3,_⟩:=hr h2;cases h3
  subst hm
  obtain rfl:=hc rfl
  have hn:news=[]:=List.eq_nil_of_length_eq_zero (by simpa using hl)
  subst hn
  refine s_append0 cx ei ht hg hd ho hs hx (h v w (cx.row_eq rfl (by simp)))
 | some ad =>
  refine s_append' cx ei ht hg hd ho hs hx (fun j u hj=>?_) hl h1 hb fun v' w' hcx _=>h v' w' hcx
  rcases Nat.eq_zero_or_pos m with h2 | h2
  · subst h2
    have hn:news=[]:=List.eq_nil_of_length_eq_zero (by simpa using hl)
    rw [hn] at hj;simp at hj
  · obtain ⟨b,off,h3,h4⟩:=hr h2
    cases h3
    rw [add_addr]
    exact h4 j u hj
end
theorem Cxr.rowF {w0 w:World}{L:List (Nat×Obj)}{R:List Row}{e k n c:Nat}{a:Option Addr}{xs:List Value}(h:Cxr w0 w L (⟨e,k,.slice a n c,n,xs⟩::R)):∃ b,n≤c∧(a=none→c=0)∧(0<n→a=some ⟨b,0,none⟩)∧(0<xs.length→RowAt w b 0 xs):=by
 obtain ⟨b,hs,hr⟩:=h.rowA
 rcases hs with ⟨h1,h2⟩ | ⟨ad,c2,h1,h2,h3⟩
 · cases h2
   exact ⟨b,Nat.le_refl _,fun _=>rfl,fun h=>by omega,hr⟩
 · cases h1
   exact ⟨b,h2,fun h=>by (first | cases h),fun h0=>congrArg some (h3 h0).1,hr⟩
theorem take_sum {α:Type}{l:List α}{f:α→Nat}{i:Nat}{x:α}(h:l[i]?=some x):((l.take (i+1)).map f).sum=((l.take i).map f).sum+f x:=by
 have hi:=(List.getElem?_eq_some_iff.1 h).1
 rw [List.take_succ_eq_append_getElem hi,(List.getElem?_eq_some_iff.1 h).2]
 simp
theorem take_sum_le {α:Type}(l:List α)(f:α→Nat)(i:Nat):((l.take i).map f).sum≤(l.map f).sum:=by
 conv=>rhs;rw [← List.take_append_drop i l,List.map_append,List.sum_append]
 omega
theorem vs_sums {D:Nat}(v:V):1+v.sc.text.size+v.sc.dig.size+v.bytes.length+(v.list.map (vs D)).sum+(v.fields.map fun kv=>kv.1.size+vs D kv.2).sum=vs (D+1) v:=by
 cases v;rfl
theorem cqt_le (s:ByteArray):(cqt s).length≤6*s.size+2:=by
 have h:=qtq_len s.data.toList
 have h2:s.data.toList.length=s.size:=by simp
 rw [cqt_cons]
 simp only [List.length_cons,List.length_append,List.length_nil]
 omega
theorem RowAt.left {w:World}{b o:Nat}{xs ys:List Value}(h:RowAt w b o (xs++ys)):RowAt w b o xs:=fun j x hx=>h j x (by rw [List.getElem?_append_left (List.getElem?_eq_some_iff.1 hx).1];exact hx)
theorem RowAt.right {w:World}{b o:Nat}{xs ys:List Value}(h:RowAt w b o (xs++ys)):RowAt w b (o+xs.length) ys:=fun j x hx=>by
 have:=h (xs.length+j) x (by rw [List.getElem?_append_right (by omega),show xs.length+j-xs.length=j by omega];exact hx)
 rwa [show o+xs.length+j=o+(xs.length+j) by omega]
abbrev FC:=(ByteArray×V)×List Value
def rc (p:FC):List Value:=.string p.1.1::p.2
def GR (w:World)(z:List FC):Prop:=∀ p∈z,Vw w p.1.2 p.2
theorem rc_len {w:World}{z:List FC}(h:GR w z):(z.flatMap rc).length=z.length*14:=by
 induction z with
 | nil=>rfl
 | cons p z ih =>
  rw [List.flatMap_cons,List.length_append,ih fun q hq=>h q (by simp [hq]),List.length_cons]
  have:=(h p (by simp)).len
  simp only [rc,List.length_cons]
  omega
theorem rc_one {w:World}{z:List FC}(h:GR w z):(z.flatMap rc).all (·.oneCell')=true:=by
 rw [List.all_flatMap,List.all_eq_true]
 intro p hp
 have:=(h p hp).one
 unfold rc
 simp only [List.all_cons,this,Bool.and_true]
 rfl
theorem GR.take {w:World}{z:List FC}(h:GR w z)(j:Nat):GR w (z.take j):=fun p hp=>h p (List.mem_of_mem_take hp)
theorem GR.drop {w:World}{z:List FC}(h:GR w z)(j:Nat):GR w (z.drop j):=fun p hp=>h p (List.mem_of_mem_drop hp)
theorem rc_take {w w1:World}{b:Nat}{z:List FC}(h:RowAt w b 0 (z.flatMap rc))(j:Nat):RowAt w b 0 ((z.take j).flatMap rc):=by
 rw [← List.take_append_drop j z,List.flatMap_append] at h
 exact h.left
theorem rc_drop {w w1:World}{b:Nat}{z:List FC}(hg:GR w1 z)(h:RowAt w b 0 (z.flatMap rc)){j:Nat}(hj:j≤z.length):RowAt w b (0+j*14) ((z.drop j).flatMap rc):=by
 rw [← List.take_append_drop j z,List.flatMap_append] at h
 have:=h.right
 rwa [rc_len (hg.take j),List.length_take,Nat.min_eq_left hj] at this
theorem rc_at {w w1:World}{b:Nat}{z:List FC}(hg:GR w1 z)(h:RowAt w b 0 (z.flatMap rc)){j:Nat}{p:FC}(hp:z[j]?=some p):RowAt w b (0+j*14) (rc p):=by
 have hj:=(List.getElem?_eq_some_iff.1 hp).1
 have h2:=rc_drop hg h (Nat.le_of_lt hj)
 rw [List.drop_eq_getElem_cons hj,List.flatMap_cons] at h2
 rw [(List.getElem?_eq_some_iff.1 hp).2] at h2
 exact h2.left
theorem rc_row {w0 w:World}{L:List (Nat×Obj)}{R:List Row}{e c b i:Nat}{z:List FC}{r:Row}{p:FC}(cx:Cxr w0 w L (r::⟨e,14,.slice (some ⟨b,0,none⟩) z.length c,z.length,z.flatMap rc⟩::R))(hg:GR w0 z)(hp:z[i]?=some p):RowAt w b (0+i*14) (rc p):=by
 obtain ⟨b',_,_,h1,h2⟩:=cx.swapR.rowF
 have hlt:=(List.getElem?_eq_some_iff.1 hp).1
 cases h1 (by omega)
 exact rc_at hg (h2 (by rw [rc_len hg];omega)) hp
theorem rc_some {w0 w:World}{L:List (Nat×Obj)}{R:List Row}{a:Option Addr}{e c:Nat}{z:List FC}{r:Row}(cx:Cxr w0 w L (r::⟨e,14,.slice a z.length c,z.length,z.flatMap rc⟩::R))(h0:0<z.length):∃ b,a=some ⟨b,0,none⟩:=by
 obtain ⟨b',_,_,h1,h2⟩:=cx.swapR.rowF
 exact ⟨b',h1 h0⟩
theorem perm_sumN {a b:List Nat}(h:a.Perm b):a.sum=b.sum:=by
 induction h with
 | nil=>rfl
 | cons x _ ih=>simp [ih]
 | swap x y l=>simp only [List.sum_cons];omega
 | trans _ _ h1 h2=>exact h1.trans h2
theorem Cxr.swap3 {w0 w:World}{L:List (Nat×Obj)}{R:List Row}{a b c:Nat×Obj}(h:Cxr w0 w (a::b::c::L) R):Cxr w0 w (c::a::b::L) R:=h.permL (((List.Perm.swap c b L).cons a).trans (List.Perm.swap c a _))
theorem Cxr.swap3b {w0 w:World}{L:List (Nat×Obj)}{R:List Row}{a b c:Nat×Obj}(h:Cxr w0 w (c::a::b::L) R):Cxr w0 w (a::b::c::L) R:=h.permL ((List.Perm.swap a c _).trans ((List.Perm.swap b c L).cons a))
end Go.Dk
end
section
namespace Go.Proofs.YthiafbkolhnadaaGreatDoor
open Go Go.Dk Go.RowKit Go.Lib
attribute [local irreducible] Go.wpList Go.Code.wp Go.bodyPost Go.wpStill Go.wpQuiet
theorem dvl_k:Go.Ev.evalE Tryz.prog env0 8 306 [.agg #[.bool false,.string ByteArray.empty,.int .i64 0]]=some (.bool true):=by kernel_rfl
theorem tvl_k:Go.Ev.evalE Tryz.prog env0 8 233 [.agg #[.int .i64 0,.int .i64 0,.int .i64 0,.int .i64 0]]=some (.bool false):=by kernel_rfl
theorem c233 (w:World):Fc Tryz.prog 233 [.agg #[.int .i64 0,.int .i64 0,.int .i64 0,.int .i64 0]] w (IsB fun b=>b=false):=(call_of tvl_k w).mono fun v w' _ h=>⟨_,h,rfl⟩
theorem kys_k:Go.Ev.evalE Tryz.prog env0 8 307 [.slice none 0 0]=some (.int .i64 0):=by kernel_rfl
theorem c232 (m:Int)(w:World)(h0:0≤m)(h1:m<256):Fc Tryz.prog 232 [.int .u8 m] w fun v _=>v=.string (bs (sgq (UInt8.ofNat m.toNat))):=of_allB sgq_k m h0 h1 w
theorem c305 (c:ByteArray)(w0:World):Fc Tryz.prog 305 [.agg (leaf c).toArray] w0 (fun v _=>v=.bool true):=by
 refine ret_enter Tryz.func305 rfl Tryz.ntmps305 rfl ?_
 have cx:=Ctx.start w0
 refine K0 ?_
 refine Hc ?_;intro b1 w cx hb1 hw1
 refine K2 ?_
 refine K92 ?_
 refine K12 ?_
 refine K21 ?_
 refine K93 ?_
 refine K94 ?_
 refine K4 ?_
 refine K57 ?_
 refine Kbb ?_
 refine Kg3 ?_
 refine K4 ?_
 refine K3l ?_
 refine K9b ?_
 refine Kg4 ?_
 refine K1 ?_
 refine K1d ?_
 refine K4 ?_
 refine s_gval rfl rfl rfl wF (fun hc=>v_fa fa83_4 rfl gX) ?_
 refine K8i ?_
 refine s_gval rfl rfl rfl wF (fun hc=>v_strEq rfl gX rfl) ?_
 refine K3 ?_
 refine K6k ?_
 refine K5 ?_
 refine s_gval rfl rfl rfl wF (fun hc=>v_fa fa83_6 rfl gX) ?_
 refine Kdk ?_
 refine Kdl ?_
 refine K5 ?_
 refine s_gval rfl rfl rfl wF (fun hc=>v_fa fa83_7 rfl gX) ?_
 refine Kdm ?_
 refine Kdn ?_
 refine K4 ?_
 refine ret_tmp Tryz.results305 rfl ?_
 exact Ez2
theorem c229 (c:ByteArray)(w0:World):Fc Tryz.prog 229 [.agg (leaf c).toArray] w0 (fun v _=>v=.slice none 0 0):=by
 refine ret_enter Tryz.func229 rfl Tryz.ntmps229 rfl ?_
 have cx:=Ctx.start w0
 refine K0 ?_
 refine Hc ?_;intro b1 w cx hb1 hw1
 refine K3 ?_
 refine Kc8 ?_
 refine K46 ?_
 refine K0 ?_
 refine K33 ?_
 refine K3n ?_
 refine K1 ?_
 refine ret_tmp Tryz.results229 rfl ?_
 exact Ez2
theorem c52 (c:ByteArray)(w0:World):Fc Tryz.prog 52 [.string c] w0 (fun v _=>v=.agg (leaf c).toArray):=by
 refine ret_enter Tryz.func52 rfl Tryz.ntmps52 rfl ?_
 have cx:=Ctx.start w0
 refine K0 ?_
 refine Hx ?_;intro b2 w cx hb2 hw2
 refine K2 ?_
 refine s_val rfl rfl (v_build (qs:=[(0,.int .i64 4),(4,.string c)]) (bd83 c) rfl rfl) ?_
 refine Hy ?_;intro w cx hwS1
 refine K0 ?_
 refine ret_cell Tryz.results52 rfl (cx.at 0 rfl) Tryz.underlying83 rfl sz83 ?_
 exact Ez2
theorem c228 (c:ByteArray)(w0:World)(hv:validD c.data.toList=true)(hc:c.size≤1024):Fc Tryz.prog 228 [.agg (leaf c).toArray] w0 (fun v _=>v=.int .i64 0):=by
 refine ret_enter Tryz.func228 rfl Tryz.ntmps228 rfl ?_
 have cx:=Ctx.start w0
 refine K0 ?_
 refine Hc ?_;intro b1 w cx hb1 hw1
 refine K3 ?_
 refine K16 ?_
 refine s_fn cx (c305 c _) Tryz.func305 rfl rfl rfl rfl rfl rfl ?_;intro q4 w cx hw4 hp4
 subst hp4
 refine K0 ?_
 refine K1a ?_
 refine K95 ?_
 refine s_val rfl rfl (v_load rfl rfl Tryz.underlying76 rfl sz76 (l:=[.bool false,.string ByteArray.empty,.int .i64 0]) ((cx.row 0 rfl).sub 2 rfl) rfl) ?_
 refine s_fn cx (call_of dvl_k _) Tryz.func306 rfl rfl rfl rfl rfl rfl ?_;intro q8 w cx hw8 hp8
 subst hp8
 refine K0 ?_
 refine K58 ?_
 refine K6m ?_
 refine K3l ?_
 refine K9b ?_
 refine s_gfnB cx rfl rfl rfl wT (fun hc=>c233 _) Tryz.func233 rfl rfl rfl (fun hc=>(cons_eq gX rfl)) ?_;intro q17 w cx hw17 hp17
 refine K2 ?_
 refine K1a ?_
 refine K5u ?_
 refine s_fnB cx (c44 c _ (by omega)) Tryz.func44 rfl rfl rfl rfl rfl rfl ?_;intro q23 w cx hw23 hp23
 obtain rfl:q23=true:=hp23.trans hv
 refine K0 ?_
 refine K1a ?_
 refine K5u ?_
 refine K1t ?_
 refine K6k ?_
 refine K1 ?_
 refine c_split rfl (fun hc34=>?_) (fun hc34=>?_)
 ·
  simp only [Bool.or_eq_true,decide_eq_true_eq] at hc34
  exfalso
  omega
 try simp only [bsl] at hc34
 refine K1 ?_
 refine Kc7 ?_
 refine s_fn cx (call_of kys_k _) Tryz.func307 rfl rfl rfl rfl rfl rfl ?_;intro q37 w cx hw37 hp37
 subst hp37
 refine K1 ?_
 refine ret_tmp Tryz.results228 rfl ?_
 exact Ez2
theorem c158 (c:ByteArray)(w0:World)(hv:validD c.data.toList=true)(hc:c.size≤1024):Fc Tryz.prog 158 [.agg (leaf c).toArray,.int .i64 1,.int .i64 0] w0 (fun v _=>v=.tuple #[.int .i64 1,.int .i64 0]):=by
 refine ret_enter Tryz.func158 rfl Tryz.ntmps158 rfl ?_
 have cx:=Ctx.start w0
 refine K0 ?_
 refine Hc ?_;intro b3 w cx hb3 hw3
 refine K7 ?_
 refine K1d ?_
 refine K5 ?_
 refine K1a ?_
 refine K16 ?_
 refine s_fn cx (c228 c _ hv hc) Tryz.func228 rfl rfl rfl rfl rfl rfl ?_;intro q19 w cx hw19 hp19
 subst hp19
 refine K5 ?_
 refine K1d ?_
 refine K7 ?_
 refine K16 ?_
 refine s_fn cx (c229 c _) Tryz.func229 rfl rfl rfl rfl rfl rfl ?_;intro q27 w cx hw27 hp27
 subst hp27
 refine K6 ?_
 refine w_loop (fun k f w1=>f 2=.int .i64 1∧f 9=.slice none 0 0∧f 10=.int .i64 0∧Ctx w0 w1 []) (0) ?_ ?_
 ·
  exact ⟨rfl,rfl,rfl,Ctx.sub0 cx⟩
 intro gk11 f w hJ
 obtain ⟨hs2,hs9,hs10,cx⟩:=hJ
 refine K4s ?_
 refine K2o ?_
 refine K4q ?_
 refine Kp ?_
 refine K2 ?_
 refine K7z ?_
 exact Ez2
theorem c100 (c:ByteArray)(w0:World)(hv:validD c.data.toList=true)(hc:c.size≤1024):Fc Tryz.prog 100 [.agg (leaf c).toArray] w0 (fun v _=>v=.int .i64 0):=by
 refine ret_enter Tryz.func100 rfl Tryz.ntmps100 rfl ?_
 have cx:=Ctx.start w0
 refine K0 ?_
 refine Hc ?_;intro b1 w cx hb1 hw1
 refine K2 ?_
 refine K16 ?_
 refine s_fn cx (c158 c _ hv hc) Tryz.func158 rfl rfl rfl rfl rfl rfl ?_;intro q7 w cx hw7 hp7
 subst hp7
 refine Ko ?_
 refine ret_tmp Tryz.results100 rfl ?_
 exact Ez2
theorem c160 (s:ByteArray)(w0:World)(hs:s.size≤1073741824):Fc Tryz.prog 160 [.string s] w0 (fun v _=>v=.string (bs (cqt s))):=by
 refine ret_enter Tryz.func160 rfl Tryz.ntmps160 rfl ?_
 have cx:=Ctx.start w0
 refine K4 ?_
 refine He ?_;intro b5 w cx hb5 hw5
 replace cx:=Cxr.toRow (size:=1) (k:=1) cx rfl (by decide)
 refine K6 ?_
 refine w_loop (fun k f w1=>∃ (i:Nat) (v:Value),k+i=s.size∧f 0=.string s∧f 4=.int .i64 i∧f 3=v∧Cxr w0 w1 [] [⟨5,1,v,1+(qtq (s.data.toList.take i)).length,(34::qtq (s.data.toList.take i)).map bv⟩]) (s.size) ?_ ?_
 ·
  exact ⟨0,_,by omega,rfl,rfl,rfl,cx.row_eq rfl rfl⟩
 intro gk3 f w hJ
 obtain ⟨i,v,hk,hs0,hs4,hs3,cx⟩:=hJ
 have hlq:=qtq_len (s.data.toList.take i)
 have hlt:=List.length_take_le i s.data.toList
 have hls:s.data.toList.length=s.size:=by simp
 have hlx:=sgq_len (UInt8.ofNat (byteAt s (i:Int)).toNat)
 refine Kl ?_
 refine Kb ?_
 refine K1t ?_
 refine cSp rfl (fun hc9=>?_) (fun hc9=>?_)
 ·
  refine K20 ?_
  refine Kb ?_
  refine Ke ?_
  refine K2y ?_
  refine s_fn cx (c232 _ _ (byteAt_lo _ _) (byteAt_hi _ _)) Tryz.func232 rfl rfl rfl rfl rfl rfl ?_;intro q16 w cx hw16 hp16
  subst hp16
  refine H1e ?_;intro v17 w cx hgr17
  refine Kl ?_
  refine K1 ?_
  have hq:=qtq_take s i (by omega)
  have hb:UInt8.ofNat (byteAt s i).toNat=s.data.toList.getD i 0:=by unfold byteAt;rw [Int.toNat_natCast,Int.toNat_natCast];exact UInt8.ofNat_toNat
  rw [← hb] at hq
  exact ⟨gk3-1,_,by omega,rfl,i+1,_,by omega,hs0,rfl,rfl,row_next cx hq rfl rfl⟩
 refine K10 ?_
 refine He ?_;intro b19 w cx hb19 hw19
 refine Hf ?_;intro v20 w cx hgr20
 replace cx:=cx.drop 1
 have hq1:i=s.size:=by omega
 subst hq1
 rw [show s.data.toList.take s.size=s.data.toList from List.take_of_length_le (by simp)] at cx
 replace cx:=row_next (q':=qtq s.data.toList++[34]) (sg:=[34]) cx rfl (by simp only [List.length_cons,List.length_nil] <;> omega) rfl
 obtain ⟨g20,c20,rfl,hrow20⟩:=cx.bytes (l:=34::(qtq s.data.toList++[34])) (by simp only [List.length_append,List.length_cons,List.length_nil] <;> omega) rfl (by omega)
 refine K3 ?_
 refine s_val rfl rfl (v_b2s rfl Tryz.underlying79 Tryz.underlying5 Tryz.underlying9 (ns:=(34::(qtq s.data.toList++[34])).map fun x:UInt8=>(x.toNat:Int)) (by rw [List.map_map];exact hrow20) (by simp only [List.length_map,List.length_append,List.length_cons,List.length_nil] <;> omega) rfl) ?_
 refine K1 ?_
 refine ret_tmp Tryz.results160 rfl ?_
 refine K1x ?_
 exact congrArg Value.string (strOf_bs (34::(qtq s.data.toList++[34])))
theorem c101 (c:ByteArray)(w0:World)(hc:c.size≤1024):Fc Tryz.prog 101 [.agg (leaf c).toArray] w0 (fun v _=>v=.string (bs (cqt c))):=by
 refine ret_enter Tryz.func101 rfl Tryz.ntmps101 rfl ?_
 have cx:=Ctx.start w0
 refine K0 ?_
 refine Hc ?_;intro b1 w cx hb1 hw1
 refine K3 ?_
 refine K6n ?_
 refine K3y ?_
 refine K3y ?_
 refine K46 ?_
 refine K6o ?_
 refine s_fn cx (c160 c _ (by omega)) Tryz.func160 rfl rfl rfl rfl rfl rfl ?_;intro q32 w cx hw32 hp32
 subst hp32
 refine K1 ?_
 refine ret_tmp Tryz.results101 rfl ?_
 exact Ez2
theorem c51 (c:ByteArray)(w0:World)(hv:validD c.data.toList=true)(hc:c.size≤1024):Fc Tryz.prog 51 [.agg (leaf c).toArray] w0 (fun v _=>v=.tuple #[.string (bs (cqt c)),.int .i64 0]):=by
 refine ret_enter Tryz.func51 rfl Tryz.ntmps51 rfl ?_
 have cx:=Ctx.start w0
 refine K0 ?_
 refine Hc ?_;intro b1 w cx hb1 hw1
 refine K4 ?_
 refine K16 ?_
 refine s_fn cx (c100 c _ hv hc) Tryz.func100 rfl rfl rfl rfl rfl rfl ?_;intro q6 w cx hw6 hp6
 subst hp6
 refine K5 ?_
 refine K4q ?_
 refine K16 ?_
 refine s_fn cx (c101 c _ hc) Tryz.func101 rfl rfl rfl rfl rfl rfl ?_;intro q11 w cx hw11 hp11
 subst hp11
 refine K2 ?_
 refine ret_tmp2 Tryz.results51 rfl rfl ?_
 exact Ez2
theorem c163w (u:Value)(fl:List (ByteArray×V))(wB w0:World)(hu:Fw wB u fl)(hB:Below wB.heap.size wB w0)(hn:fl.length≤1000000):Fc Tryz.prog 163 [u] w0 (fun v w1=>∃ z:List FC,w1.ownsRow w0.heap.size 133 14 v z.length (z.flatMap rc)∧GR wB z∧(z.map (·.1)).Perm fl):=by
 obtain ⟨fa,fc,fb,rfl,hfc,hf1,hf2⟩:=hu
 refine ret_enter Tryz.func163 rfl Tryz.ntmps163 rfl ?_
 have cx:=Ctx.start w0
 refine K13 ?_
 refine w_loop (fun g f1 w1=>∃ (i:Nat) (z:List FC) (v3:Value),g+i=fl.length∧(z.map (·.1)).Perm (fl.take i)∧GR wB z∧f1 0=.slice fa fl.length fc∧f1 3=v3∧f1 4=.int .i64 i∧Cxr w0 w1 [] [⟨133,14,v3,z.length,z.flatMap rc⟩]) (fl.length) ?_ ?_
 ·
  exact ⟨0,[],_,by omega,List.Perm.refl _,fun p hp=>by simp at hp,rfl,rfl,rfl,cx.nilRow 133 14⟩
 intro gk3 f w hJ
 obtain ⟨i,z,v3,hg,hpm,hgz,hs0,hs3,hs4,cx⟩:=hJ
 refine K4n ?_
 refine cSp rfl (fun hc10=>?_) (fun hc10=>?_)
 ·
  have hfa:=hf1 (by omega)
  subst hfa
  obtain ⟨kv,hkv⟩:∃ kv,fl[i]?=some kv:=⟨fl[i]'(by omega),List.getElem?_eq_getElem _⟩
  obtain ⟨kcs,hrw,hvw⟩:=hf2 i kv hkv
  obtain ⟨kb,kl,kf,rfl,_,_,_⟩:=hvw.form
  replace hrw:=hrw.up hB
  have hzl:=hpm.length_eq
  rw [List.length_map,List.length_take] at hzl
  obtain ⟨a,c,rfl⟩:=cx.rowSl
  refine K7 ?_
  refine w_loop (fun g f1 w1=>∃ j:Nat,g+j=z.length∧f1 0=.slice (some ⟨fb,0,none⟩) fl.length fc∧f1 3=.slice a z.length c∧f1 4=.int .i64 i∧f1 5=.int .i64 j∧Cxr w0 w1 [] [⟨133,14,.slice a z.length c,z.length,z.flatMap rc⟩]) (z.length) ?_ ?_
  ·
   exact ⟨0,by omega,hs0,hs3,hs4,rfl,cx⟩
  intro gk6 f w hJ
  obtain ⟨j,hgj,hs0,hs3,hs4,hs5,cx⟩:=hJ
  obtain ⟨b,hzc,hnone,hsome0,hrwz0⟩:=cx.rowF
  have hjz:j≤z.length:=by omega
  have hsome:(j:Int)<(z.length:Int)→Value.slice a z.length c=.slice (some ⟨b,0,none⟩) z.length c:=fun h=>by rw [hsome0 (by omega)]
  obtain ⟨zj,hzj⟩:∃ p:FC,j<z.length→z[j]?=some p:=by
   by_cases h:j<z.length
   · exact ⟨z[j],fun _=>List.getElem?_eq_getElem h⟩
   · exact ⟨((ByteArray.empty,.mk sc0 [] [] []),[]),fun h2=>absurd h2 h⟩
  have hnone2:(if c=Int.toNat (j:Int) then a else a.map (·.add (Int.toNat (j:Int)*14)))=none→c-Int.toNat (j:Int)=0:=by
   intro h
   split at h
   · omega
   · rw [Option.map_eq_none_iff] at h
     have:=hnone h;omega
  have hsome2:0<z.length-j→(if c=Int.toNat (j:Int) then a else a.map (·.add (Int.toNat (j:Int)*14)))=some ⟨b,0+j*14,none⟩:=by
   intro h
   rw [if_neg (by omega),hsome0 (by omega)]
   show some ((⟨b,0,none⟩:Addr).add (Int.toNat (j:Int)*14))=_
   rw [add_addr,Int.toNat_natCast]
  have hrwz:∀ {w':World} {R:List Row},Cxr w0 w' [] (⟨133,14,.slice a z.length c,z.length,z.flatMap rc⟩::R)→0<z.length→RowAt w' b 0 (z.flatMap rc):=by
   intro w' R h h0
   obtain ⟨b',_,_,h1,h2⟩:=h.rowF
   have h3:=h1 h0
   rw [hsome0 h0] at h3
   cases h3
   exact h2 (by rw [rc_len hgz];omega)
  have hzr:∀ {w':World} {R:List Row},Cxr w0 w' [] (⟨133,14,.slice a z.length c,z.length,z.flatMap rc⟩::R)→(j:Int)<(z.length:Int)→RowAt w' b (0+j*14) (rc zj):=fun h h0=>rc_at hgz (hrwz h (by omega)) (hzj (by omega))
  refine K0 ?_
  refine w_still cx mixed p1q ?_;intro w cx hwD6
  refine K83 ?_
  refine t_val rfl rfl (v_move rfl hs3) ?_
  refine t_val rfl rfl (v_lenSlice rfl rfl Tryz.underlying81) ?_
  refine t_val rfl rfl (v_cmp rfl rfl rfl rfl) ?_
  refine t_val rfl rfl (v_move rfl rfl) ?_
  refine t_gval rfl rfl rfl wT (fun hc=>v_move rfl hs3) ?_
  refine t_gval rfl rfl rfl wT (fun hc=>v_move rfl hs5) ?_
  refine t_gval rfl rfl rfl wT (fun hc=>v_ia Tryz.underlying81 sz133 rfl ((gve hc rfl).trans (hsome (by simpa using hc))) (gve hc rfl) (by omega) (by simp only [decide_eq_true_eq] at hc;omega)) ?_
  refine t_gval rfl rfl rfl wT (fun hc=>v_fa fa133_0 rfl gX) ?_
  refine t_gval rfl rfl rfl wT (fun hc=>v_load1 rfl gX Tryz.underlying9 rfl (((hzr cx (by simpa using hc))).cell 0 rfl)) ?_
  refine t_gval rfl rfl rfl wT (fun hc=>v_move rfl hs0) ?_
  refine t_gval rfl rfl rfl wT (fun hc=>v_move rfl hs4) ?_
  refine t_gval rfl rfl rfl wT (fun hc=>v_ia Tryz.underlying81 sz133 rfl (gve hc rfl) (gve hc rfl) (by omega) (by omega)) ?_
  refine t_gval rfl rfl rfl wT (fun hc=>v_fa fa133_0 rfl gX) ?_
  refine t_gval rfl rfl rfl wT (fun hc=>v_load1 rfl gX Tryz.underlying9 rfl (((hrw.up cx.ext)).cell 0 rfl)) ?_
  refine t_gval rfl rfl rfl wT (fun hc=>v_strLe rfl (gve hc rfl) (gve hc rfl)) ?_
  refine t_val rfl rfl (v_and rfl rfl rfl rfl) ?_
  refine t_nil ?_
  refine cSp rfl (fun hc29=>?_) (fun hc29=>?_)
  ·
   refine K3z ?_
   exact ⟨gk6-1,_,by omega,rfl,j+1,by omega,hs0,hs3,hs4,rfl,cx⟩
  refine K1 ?_
  refine s_bsl0 cx Tryz.underlying81 sz133 rfl rfl rfl ?_;intro b32 w cx hb32 hw32
  replace cx:=Cxr.toRow (size:=14) (k:=0) cx rfl (by decide)
  refine Kr ?_
  refine Kh ?_
  refine s_val rfl rfl (v_preSl rfl rfl rfl Tryz.underlying81 sz133 (by omega) (by omega)) ?_
  refine s_appendA (news:=(z.take j).flatMap rc) cx ei133 Tryz.underlying81 rfl rfl rfl rfl rfl hnone (fun h0=>⟨b,0,hsome0 (by omega),rc_take (w1:=wB) (hrwz cx.swapR (by omega)) j⟩) (by rw [rc_len (hgz.take j),List.length_take];omega) (rc_one (hgz.take j)) (by omega) ?_;intro v36 w cx
  refine K19 ?_
  refine Ke ?_
  refine K1k ?_
  refine Kdx ?_
  refine H19 ?_;intro b42 w cx hb42 hw42
  refine s_append cx ei133 Tryz.underlying81 rfl rfl rfl rfl rfl (cx.row 0 rfl) rfl (fone hvw.one) (by omega) ?_;intro v43 w cx hgr43
  replace cx:=cx.drop 1
  refine K3 ?_
  refine Kr ?_
  refine Kh ?_
  refine s_val rfl rfl (v_slFrom rfl rfl rfl Tryz.underlying81 sz133 (by omega) (by omega) (by omega)) ?_
  refine s_appendA (news:=(z.drop j).flatMap rc) cx ei133 Tryz.underlying81 rfl rfl rfl rfl rfl hnone2 (fun h0=>⟨b,0+j*14,hsome2 (by omega),rc_drop hgz (hrwz cx.swapR (by omega)) hjz⟩) (by rw [rc_len (hgz.drop j),List.length_drop];rfl) (rc_one (hgz.drop j)) (by omega) ?_;intro v48 w cx
  refine K5 ?_
  refine K27 ?_
  refine ⟨gk3-1,_,by omega,rfl,i+1,z.take j++(kv,vrow kv.2.sc kb kl kf)::z.drop j,_,by omega,?_,?_,hs0,rfl,rfl,(cx.oneR (List.mem_cons_self ..)).row_eq ?_ ?_⟩
  · have h1:((z.take j++(kv,vrow kv.2.sc kb kl kf)::z.drop j).map (·.1)).Perm (kv::z.map (·.1)):=by
      rw [show kv::z.map (·.1)=((kv,vrow kv.2.sc kb kl kf)::z).map (·.1) from rfl]
      refine List.Perm.map _ ?_
      have h2:=List.perm_middle (a:=(kv,vrow kv.2.sc kb kl kf)) (l₁:=z.take j) (l₂:=z.drop j)
      rwa [List.take_append_drop] at h2
    refine h1.trans ?_
    rw [List.take_succ_eq_append_getElem (by omega),(List.getElem?_eq_some_iff.1 hkv).2]
    exact (List.Perm.cons _ hpm).trans (List.perm_append_singleton _ _).symm
  · intro p hp
    rcases List.mem_append.1 hp with hp | hp
    · exact hgz p (List.mem_of_mem_take hp)
    · rcases List.mem_cons.1 hp with rfl | hp
      · exact hvw
      · exact hgz p (List.mem_of_mem_drop hp)
  · simp only [List.length_append,List.length_cons,List.length_take,List.length_drop];omega
  · rw [List.flatMap_append,List.flatMap_cons];simp [rc]
 refine K1f ?_
 refine ret_tmp Tryz.results163 rfl ?_
 refine ⟨cx.ext,z,cx.rows _ (List.mem_cons_self ..),hgz,?_⟩
 rwa [List.take_of_length_le (by omega)] at hpm
def CN (D:Nat):Prop:=∀ (v:V) (cells:List Value) (w0:World),Vw w0 v cells→Dp D v→vs D v≤1000000→Fc Tryz.prog 101 [.agg cells.toArray] w0 (fun u _=>∃ t:List UInt8,u=.string (bs t)∧t.length+8≤400*vs D v)
theorem c101s (D:Nat)(ih:CN D)(v:V)(cells:List Value)(w0:World)(hv:Vw w0 v cells)(hD:Dp (D+1) v)(hz:vs (D+1) v≤1000000):Fc Tryz.prog 101 [.agg cells.toArray] w0 (fun u _=>∃ t:List UInt8,u=.string (bs t)∧t.length+8≤400*vs (D+1) v):=by
 have hown:=vs_own hD
 have hlen:=vs_lens hD
 have hsum:=vs_sums (D:=D) v
 have hgs:=Dp_gs hD
 obtain ⟨ub,ul,uf,rfl,hb,hl,hf⟩:=hv.form
 have hbs:SlR w0 ub v.bytes.length (v.bytes.map bv):=hv.slB rfl
 obtain ⟨ba,bc,bb,rfl,hb1,hb2⟩:=hb
 obtain ⟨la,lc,lb,rfl,hlc,hl1,hl2⟩:=hl
 have hfu:=hf
 obtain ⟨fa,fc,fb,rfl,hfc,hf1,hf2⟩:=hf
 refine ret_enter Tryz.func101 rfl Tryz.ntmps101 rfl ?_
 have cx:=Ctx.start w0
 refine K0 ?_
 refine Hc ?_;intro b1 w cx hb1 hw1
 refine K3 ?_
 refine K6n ?_
 refine cSp rfl (fun hc10=>?_) (fun hc10=>?_)
 ·
  refine K0 ?_
  exact Bz10
 refine K3 ?_
 refine cSp rfl (fun hc12=>?_) (fun hc12=>?_)
 ·
  refine K1 ?_
  refine s_val rfl rfl (v_fa fa83_1 rfl rfl) ?_
  refine K4v ?_
  refine cSp rfl (fun hc15=>?_) (fun hc15=>?_)
  ·
   refine K0 ?_
   exact Bz10
  refine K1 ?_
  exact Bz10
 refine K3 ?_
 refine cSp rfl (fun hc16=>?_) (fun hc16=>?_)
 ·
  refine K0 ?_
  refine K95 ?_
  refine Kb5 ?_
  refine s_fn cx (c159w v.sc.neg v.sc.dig v.sc.exp _ (by omega) hgs.1 hgs.2) Tryz.func159 rfl rfl rfl rfl rfl rfl ?_;intro q20 w cx hw20 hp20
  obtain ⟨t20,rfl,ht20⟩:=hp20
  exact Bz10
 refine K3 ?_
 refine cSp rfl (fun hc21=>?_) (fun hc21=>?_)
 ·
  refine K0 ?_
  refine s_val rfl rfl (v_fa fa83_3 rfl rfl) ?_
  refine Kdy ?_
  refine s_fn cx (c161 _ _ _ _ _) Tryz.func161 rfl rfl rfl rfl rfl rfl ?_;intro q25 w cx hw25 hp25
  obtain ⟨t25,rfl,ht25⟩:=hp25
  refine s_fn cx (c160 (bs t25) _ (by (try rw [bs_size]);omega)) Tryz.func160 rfl rfl rfl rfl rfl rfl ?_;intro q26 w cx hw26 hp26
  subst hp26
  have hcq26:=cqt_le (bs t25)
  rw [bs_size] at hcq26
  refine s_val rfl rfl (v_strAddB (a:=[116]) rfl rfl rfl p2q) ?_
  exact Bz10
 refine K3 ?_
 refine cSp rfl (fun hc28=>?_) (fun hc28=>?_)
 ·
  refine K6o ?_
  refine s_fn cx (c160 v.sc.text _ (by (try rw [bs_size]);omega)) Tryz.func160 rfl rfl rfl rfl rfl rfl ?_;intro q32 w cx hw32 hp32
  subst hp32
  have hcq32:=cqt_le v.sc.text
  exact Bz10
 refine K3 ?_
 refine cSp rfl (fun hc33=>?_) (fun hc33=>?_)
 ·
  refine K0 ?_
  refine K5e ?_
  refine K9c ?_
  refine s_fn cx (c162 _ v.bytes true _ (hbs.up cx.ext) (by omega)) Tryz.func162 rfl rfl rfl rfl rfl rfl ?_;intro q37 w cx hw37 hp37
  obtain ⟨t37,rfl,ht37⟩:=hp37
  refine s_fn cx (c160 (bs t37) _ (by (try rw [bs_size]);omega)) Tryz.func160 rfl rfl rfl rfl rfl rfl ?_;intro q38 w cx hw38 hp38
  subst hp38
  have hcq38:=cqt_le (bs t37)
  rw [bs_size] at hcq38
  refine s_val rfl rfl (v_strAddB (a:=[98]) rfl rfl rfl p2q) ?_
  exact Bz10
 refine K3 ?_
 refine cSp rfl (fun hc40=>?_) (fun hc40=>?_)
 ·
  refine K0 ?_
  refine He ?_;intro b42 w cx hb42 hw42
  replace cx:=Cxr.toRow (size:=1) (k:=1) cx rfl (by decide)
  refine K6 ?_
  refine w_loop (fun g f1 w1=>∃ (i:Nat) (t:List UInt8) (v3:Value) (b1:Nat),g+i=v.list.length∧t.length≤1+400*((v.list.take i).map (vs D)).sum∧f1 1=.pointer (some ⟨b1,0,none⟩)∧f1 3=v3∧f1 4=.int .i64 i∧Cxr w0 w1 [(b1,.cells (vrow v.sc (.slice ba v.bytes.length bc) (.slice la v.list.length lc) (.slice fa v.fields.length fc)).toArray 83)] [⟨5,1,v3,t.length,t.map bv⟩]) (v.list.length) ?_ ?_
  ·
   exact ⟨0,[91],_,_,by omega,by simp,rfl,rfl,rfl,cx.row_eq rfl rfl⟩
  intro gk19 f w hJ
  obtain ⟨i,t,v3,b1,hg,htb,hs1,hs3,hs4,cx⟩:=hJ
  have htl0:=take_sum_le v.list (vs D) i
  refine Kl ?_
  refine s_val rfl rfl (v_fa fa83_6 rfl hs1) ?_
  refine K3n ?_
  refine K1 ?_
  refine cSp rfl (fun hc47=>?_) (fun hc47=>?_)
  ·
   obtain ⟨x,hx⟩:∃ x,v.list[i]?=some x:=⟨v.list[i]'(by omega),List.getElem?_eq_getElem _⟩
   have hmx:=List.mem_of_getElem? hx
   obtain ⟨xcs,hrx,hvx⟩:=hl2 i x hx
   have hla:=hl1 (by omega)
   subst hla
   have hdx:=vs_list hD hmx
   have hts:=take_sum (f:=vs D) hx
   have htl:=take_sum_le v.list (vs D) (i+1)
   refine K1 ?_
   refine w_cut (fun f1 w1=>∃ (t:List UInt8) (v3:Value) (b1:Nat),t.length≤2+400*((v.list.take i).map (vs D)).sum∧f1 1=.pointer (some ⟨b1,0,none⟩)∧f1 3=v3∧f1 4=.int .i64 i∧Cxr w0 w1 [(b1,.cells (vrow v.sc (.slice ba v.bytes.length bc) (.slice (some ⟨lb,0,none⟩) v.list.length lc) (.slice fa v.fields.length fc)).toArray 83)] [⟨5,1,v3,t.length,t.map bv⟩]) ?_ ?_
   ·
    refine K1i ?_
    refine K0 ?_
    refine cSp rfl (fun hc51=>?_) (fun hc51=>?_)
    ·
     refine K1b ?_
     refine He ?_;intro b53 w cx hb53 hw53
     refine Hf ?_;intro v54 w cx hgr54
     replace cx:=cx.drop 1
     refine K0 ?_
     exact Bz82
    refine SS ?_
    exact Bz82
   intro f w hJ
   obtain ⟨t,v3,b1,htb,hs1,hs3,hs4,cx⟩:=hJ
   refine K1b ?_
   refine s_val rfl rfl (v_fa fa83_6 rfl hs1) ?_
   refine K3n ?_
   refine Ke ?_
   refine Kb6 ?_
   refine s_val rfl rfl (v_load rfl rfl Tryz.underlying83 rfl sz83 (hrx.up cx.ext) hvx.len) ?_
   refine s_fn cx (ih x xcs w (hvx.up cx.ext) hdx.1 (by omega)) Tryz.func101 rfl rfl rfl rfl rfl rfl ?_;intro q61 w cx hw61 hp61
   obtain ⟨tx,rfl,htx⟩:=hp61
   refine H1f ?_;intro v62 w cx hgr62
   refine Kl ?_
   refine K1 ?_
   exact ⟨gk19-1,_,by omega,rfl,i+1,t++tx,_,b1,by omega,by simp only [List.length_append];omega,hs1,rfl,rfl,cx.row_eq (by simp) (by simp)⟩
  refine K10 ?_
  refine He ?_;intro b64 w cx hb64 hw64
  refine Hf ?_;intro v65 w cx hgr65
  replace cx:=cx.drop 1
  replace cx:Cxr _ _ _ (⟨5,1,v65,(t++[93]).length,(t++[93]).map bv⟩::_):=cx.row_eq (by simp) paq
  refine K3 ?_
  refine s_val rfl rfl (v_rowStr (l:=t++[93]) cx rfl Tryz.underlying79 Tryz.underlying5 Tryz.underlying9 rfl) ?_
  exact Bz10
 refine K1 ?_
 refine He ?_;intro b68 w cx hb68 hw68
 replace cx:=Cxr.toRow (size:=1) (k:=1) cx rfl (by decide)
 refine K6p ?_
 have cxB:=cx
 refine s_fn cx (c163w _ v.fields w0 _ hfu cx.ext (by omega)) Tryz.func163 rfl rfl rfl rfl rfl rfl ?_;intro q71 w cx hw71 hp71
 obtain ⟨z,hrow71,hgz,hpm⟩:=hp71
 replace cx:=(cxB.callRow hw71 hrow71).swapR
 have hzl:z.length=v.fields.length:=by simpa using hpm.length_eq
 have hzs:(z.map fun p:FC=>p.1.1.size+vs D p.1.2).sum=(v.fields.map fun kv=>kv.1.size+vs D kv.2).sum:=by
  have h:=perm_sumN (hpm.map fun kv:ByteArray×V=>kv.1.size+vs D kv.2)
  rwa [List.map_map] at h
 refine K6 ?_
 refine w_loop (fun g f1 w1=>∃ (i:Nat) (t:List UInt8) (v5 v6:Value),g+i=z.length∧t.length≤1+400*((z.take i).map fun p:FC=>p.1.1.size+vs D p.1.2).sum∧f1 5=v5∧f1 6=v6∧f1 7=.int .i64 i∧Cxr w0 w1 [] [⟨5,1,v5,t.length,t.map bv⟩,⟨133,14,v6,z.length,z.flatMap rc⟩]) (z.length) ?_ ?_
 ·
  exact ⟨0,[123],_,_,by omega,by simp,rfl,rfl,rfl,(cx.noL).row_eq rfl rfl⟩
 intro gk29 f w hJ
 obtain ⟨i,t,v5,v6,hg,htb,hs5,hs6,hs7,cx⟩:=hJ
 have htl0:=take_sum_le z (fun p:FC=>p.1.1.size+vs D p.1.2) i
 obtain ⟨ga,gc,rfl⟩:=cx.swapR.rowSl
 refine K4r ?_
 refine Kc ?_
 refine K1 ?_
 refine cSp rfl (fun hc75=>?_) (fun hc75=>?_)
 ·
  obtain ⟨p,hp⟩:∃ p:FC,z[i]?=some p:=⟨z[i]'(by omega),List.getElem?_eq_getElem _⟩
  have hvx:=hgz p (List.mem_of_getElem? hp)
  obtain ⟨gb,rfl⟩:=rc_some cx (by omega)
  have hdp:=vs_field hD (hpm.mem_iff.1 (List.mem_map_of_mem (f:=fun p:FC=>p.1) (List.mem_of_getElem? hp)))
  have hts:=take_sum (f:=fun p:FC=>p.1.1.size+vs D p.1.2) hp
  have htl:=take_sum_le z (fun p:FC=>p.1.1.size+vs D p.1.2) (i+1)
  refine K1 ?_
  refine w_cut (fun f1 w1=>∃ (t:List UInt8) (v5:Value),t.length≤2+400*((z.take i).map fun p:FC=>p.1.1.size+vs D p.1.2).sum∧f1 5=v5∧f1 6=.slice (some ⟨gb,0,none⟩) z.length gc∧f1 7=.int .i64 i∧Cxr w0 w1 [] [⟨5,1,v5,t.length,t.map bv⟩,⟨133,14,.slice (some ⟨gb,0,none⟩) z.length gc,z.length,z.flatMap rc⟩]) ?_ ?_
  ·
   refine K0 ?_
   refine K66 ?_
   refine cSp rfl (fun hc79=>?_) (fun hc79=>?_)
   ·
    refine SS ?_
    refine Kh ?_
    refine He ?_;intro b81 w cx hb81 hw81
    refine Hf ?_;intro v82 w cx hgr82
    replace cx:=cx.drop 1
    refine K0 ?_
    exact Bz87
   refine SS ?_
   exact Bz87
  intro f w hJ
  obtain ⟨t,v5,htb,hs5,hs6,hs7,cx⟩:=hJ
  refine K37 ?_
  refine Kc ?_
  refine Kk ?_
  refine K1k ?_
  refine K3m ?_
  refine s_val rfl rfl (v_load1 rfl rfl Tryz.underlying9 rfl (((rc_row cx hgz hp)).cell 0 rfl)) ?_
  refine s_fn cx (c160 p.1.1 _ (by (try rw [bs_size]);omega)) Tryz.func160 rfl rfl rfl rfl rfl rfl ?_;intro q89 w cx hw89 hp89
  subst hp89
  have hcq89:=cqt_le p.1.1
  refine s_appendB (l:=cqt p.1.1) cx ei8 Tryz.underlying79 Tryz.underlying9 rfl rfl rfl rfl rfl (by omega) ?_;intro v90 w cx hgr90
  refine K3 ?_
  refine He ?_;intro b92 w cx hb92 hw92
  refine Hf ?_;intro v93 w cx hgr93
  replace cx:=cx.drop 1
  refine K38 ?_
  refine Kk ?_
  refine K1k ?_
  refine K96 ?_
  refine s_val rfl rfl (v_load rfl rfl Tryz.underlying83 rfl sz83 (rc_row cx hgz hp).tail hvx.len) ?_
  refine s_fn cx (ih p.1.2 p.2 w (hvx.up cx.ext) hdp.1 (by omega)) Tryz.func101 rfl rfl rfl rfl rfl rfl ?_;intro q100 w cx hw100 hp100
  obtain ⟨tx,rfl,htx⟩:=hp100
  refine H1f ?_;intro v101 w cx hgr101
  refine K4r ?_
  refine K1 ?_
  exact ⟨gk29-1,_,by omega,rfl,i+1,t++cqt p.1.1++[58]++tx,_,_,by omega,by simp only [List.length_append,List.length_cons,List.length_nil];omega,rfl,hs6,rfl,cx.row_eq (by simp only [List.length_append,List.length_cons,List.length_nil];try omega) (by simp only [List.map_append];rfl)⟩
 refine Kf ?_
 refine He ?_;intro b103 w cx hb103 hw103
 refine Hf ?_;intro v104 w cx hgr104
 replace cx:=cx.drop 1
 replace cx:Cxr _ _ _ (⟨5,1,v104,(t++[125]).length,(t++[125]).map bv⟩::_):=cx.row_eq (by simp) paq
 refine K3 ?_
 refine s_val rfl rfl (v_rowStr (l:=t++[125]) cx rfl Tryz.underlying79 Tryz.underlying5 Tryz.underlying9 rfl) ?_
 exact Bz10
theorem c101w:∀ D,CN D
 | 0=>fun v cells w0 _ h=>h.elim
 | D+1=>fun v cells w0 hv hD hz=>c101s D (c101w D) v cells w0 hv hD hz
theorem one13 {i1 i2 i3 i4 i5 i6:Int}{b1 b2:Bool}{s1 s2:ByteArray}{bb ll ff:Value}(h1:bb.oneCell'=true)(h2:ll.oneCell'=true)(h3:ff.oneCell'=true) :
  ([.int .i64 i1,.bool b1,.bool b2,.string s1,.int .i64 i2,.int .i64 i3,.int .i64 i4,.int .i64 i5,.int .i64 i6,.string s2,bb,ll,ff]:List Value).all (·.oneCell')=true:=by
 rw [List.all_eq_true]
 intro v hv
 simp only [List.mem_cons,List.not_mem_nil,or_false] at hv
 exact Bz145
theorem vw_leaf (w:World)(c:ByteArray):Vw w (.mk (scT c) [] [] []) (leaf c) :=
 .mk (scT c) [] [] [] _ _ _ [] [] ⟨0,.inl ⟨rfl,rfl⟩,fun h=>by simp at h⟩ ⟨0,.inl ⟨rfl,rfl⟩,fun h=>by simp at h⟩ rfl (fun i v cs h=>by simp at h) ⟨0,.inl ⟨rfl,rfl⟩,fun h=>by simp at h⟩ rfl (fun i kv cs h=>by simp at h)
theorem c100x (s:List UInt8)(w0:World)(hs:s.length≤1000):Fc Tryz.prog 100 [.agg (leaf (bs s)).toArray] w0 (fun u _=>∃ e:Int,u=.int .i64 e∧(validD s=true→e=0)):=by
 by_cases hv:validD s=true
 · exact (c100 (bs s) w0 hv p14q).mono fun u w' _ h=>⟨0,h,fun _=>rfl⟩
 · refine (c100w 1 (.mk (scT (bs s)) [] [] []) (leaf (bs s)) w0 (vw_leaf _ _) (Dp_leaf 0 _ _ (gs0 rfl)) ?_).mono fun u w' _ ⟨e,h,_⟩=>⟨e,h,fun h=>absurd h hv⟩
   rw [vs_leaf]
   show 1+(bs s).size+0+0≤_
   rw [bs_size];omega
theorem c51w (D:Nat)(v:V)(cells:List Value)(w0:World)(hv:Vw w0 v cells)(hD:Dp D v)(hz:vs D v≤1000000):Fc Tryz.prog 51 [.agg cells.toArray] w0 (fun u _=>∃ (t:List UInt8) (e:Int),u=.tuple #[.string (bs t),.int .i64 e]):=by
 refine ret_enter Tryz.func51 rfl Tryz.ntmps51 rfl ?_
 have cx:=Ctx.start w0
 refine K0 ?_
 refine Hc ?_;intro b1 w cx hb1 hw1
 refine K4 ?_
 refine Kb7 ?_
 refine s_fn cx (c100w D v cells _ (hv.up cx.ext) hD hz) Tryz.func100 rfl rfl rfl rfl rfl rfl ?_;intro q6 w cx hw6 hp6
 obtain ⟨e,rfl,_⟩:=hp6
 refine K5 ?_
 refine cSp rfl (fun hc8=>?_) (fun hc8=>?_)
 ·
  refine K5 ?_
  refine ret_tmp2 Tryz.results51 rfl rfl ?_
  exact ⟨cx.ext,[],_,rfl⟩
 refine K1 ?_
 refine Kb7 ?_
 refine s_fn cx (c101w D v cells _ (hv.up cx.ext) hD hz) Tryz.func101 rfl rfl rfl rfl rfl rfl ?_;intro q11 w cx hw11 hp11
 obtain ⟨t,rfl,htl⟩:=hp11
 refine K2 ?_
 refine ret_tmp2 Tryz.results51 rfl rfl ?_
 exact ⟨cx.ext,t,0,rfl⟩
theorem c51x (D:Nat)(v:V)(cells:List Value)(w0:World)(hv:Vw w0 v cells)(hD:Dp D v)(hz:vs D v≤1000000):Fc Tryz.prog 51 [.agg cells.toArray] w0 (fun u _=>∃ (t:List UInt8) (e:Int),u=.tuple #[.string (bs t),.int .i64 e]∧∀ c:ByteArray,validD c.data.toList=true→c.size≤1024→cells=leaf c→t=cqt c∧e=0):=by
 by_cases h:∃ c:ByteArray,validD c.data.toList=true∧c.size≤1024∧cells=leaf c
 · obtain ⟨c,h1,h2,rfl⟩:=h
   refine (c51 c w0 h1 h2).mono fun u w' _ h=>⟨cqt c,0,h,fun c' _ _ h3=>?_⟩
   have h4:(leaf c)[9]?=(leaf c')[9]?:=by rw [h3]
   simp only [leaf,List.getElem?_cons_succ,List.getElem?_cons_zero,Option.some.injEq,Value.string.injEq] at h4
   rw [h4]
   exact Ez5
 · exact (c51w D v cells w0 hv hD hz).mono fun u w' _ ⟨t,e,h1⟩=>⟨t,e,h1,fun c h2 h3 h4=>absurd ⟨c,h2,h3,h4⟩ h⟩
theorem c112r (s:List UInt8)(w0:World)(hs:s.length≤1000):Ret Tryz.prog 112 [.string (bs s)] w0 (fun v w'=>Below w0.heap.size w0 w'∧∃ (cells:List Value) (e:Int) (c:ByteArray),v=.tuple #[.agg cells.toArray,.int .i64 e] ∧
  (∃ (i1:Int) (b1 b2:Bool) (s1:ByteArray) (i2 i3 i4 i5 i6:Int) (bb ll ff:Value),cells=[.int .i64 i1,.bool b1,.bool b2,.string s1,.int .i64 i2,.int .i64 i3,.int .i64 i4,.int .i64 i5,.int .i64 i6,.string c,bb,ll,ff]∧bb.oneCell'=true∧ll.oneCell'=true∧ff.oneCell'=true)∧c.size≤1000∧∀ c0:ByteArray,validD c0.data.toList=true→c0.size≤1024→s=cqt c0→c=c0):=by
 refine ret_enter Tryz.func112 rfl Tryz.ntmps112 rfl ?_
 have cx:=Ctx.start w0
 refine K0 ?_
 refine Hx ?_;intro b2 w cx hb2 hw2
 refine K7 ?_
 refine cSp rfl (fun hc10=>?_) (fun hc10=>?_)
 ·
  refine K1u ?_
  refine H13 ?_;intro w cx hwS2
  refine K1 ?_
  refine Kdz ?_
  refine ⟨cx.ext,_,_,ByteArray.empty,rfl,⟨0,false,false,ByteArray.empty,0,0,0,0,0,_,_,_,rfl,rfl,rfl,rfl⟩,by decide,fun c0 hv0 hc0 h0=>?_⟩
  exfalso
  omega
 refine K3 ?_
 refine s_val rfl rfl (v_build (qs:=[(0,.int .i64 4),(4,.string (bs s))]) (bd83 (bs s)) rfl rfl) ?_
 refine s_fn cx (c100x s _ hs) Tryz.func100 rfl rfl rfl rfl rfl rfl ?_;intro q14 w cx hw14 hp14
 obtain ⟨e14,rfl,he14⟩:=hp14
 refine K0 ?_
 refine cSp rfl (fun hc15=>?_) (fun hc15=>?_)
 ·
  refine K1u ?_
  refine H13 ?_;intro w cx hwS4
  refine K1 ?_
  refine Kdz ?_
  refine ⟨cx.ext,_,_,ByteArray.empty,rfl,⟨0,false,false,ByteArray.empty,0,0,0,0,0,_,_,_,rfl,rfl,rfl,rfl⟩,by decide,fun c0 hv0 hc0 h0=>?_⟩
  exfalso
  have:=he14 (by rw [h0];exact valid_cqt c0 hv0)
  omega
 refine K2 ?_
 have cxB:=cx
 refine s_call (c178 s _ hs) Tryz.func178 rfl rfl rfl rfl rfl rfl ?_;rintro v19 w ⟨v,cells,n,rs,rfl,cxr,hrr,hn,htx,hsz,hex⟩
 have hvw:=hrr.vw cxr
 obtain ⟨a1,n1,c1,a2,n2,c2,a3,n3,c3,rfl⟩:=hrr.form2 cxr
 replace cx:=cxB.callRows cxr
 refine K1 ?_
 refine Hx ?_;intro b4 w cx hb4 hw4
 refine H13 ?_;intro w cx hwS5
 refine K13 ?_
 refine cSp rfl (fun hc29=>?_) (fun hc29=>?_)
 ·
  refine K1u ?_
  refine H15 ?_;intro w cx hwS7
  refine K1 ?_
  refine Kbc ?_
  refine ⟨cx.ext,_,_,ByteArray.empty,rfl,⟨0,false,false,ByteArray.empty,0,0,0,0,0,_,_,_,rfl,rfl,rfl,rfl⟩,by decide,fun c0 hv0 hc0 h0=>?_⟩
  exfalso
  have h1:=(hex c0 (by decide) h0).2
  have h2:2≤s.length:=by rw [h0,cqt_cons];simp only [List.length_cons,List.length_append,List.length_nil];omega
  rcases hc29 with h | h <;> omega
 refine K2 ?_
 refine K16 ?_
 refine s_fn cx (c51x 48 v _ _ ((hrr.mono fun r hr=>List.mem_append_left _ hr).vw cx) (hsz.resolve_left (by omega)).1 (by have:=(hsz.resolve_left (by omega)).2;omega)) Tryz.func51 rfl rfl rfl rfl rfl rfl ?_;intro q33 w cx hw33 hp33
 obtain ⟨t,e33,rfl,hex33⟩:=hp33
 refine K14 ?_
 refine K9d ?_
 refine K0 ?_
 refine cSp rfl (fun hc42=>?_) (fun hc42=>?_)
 ·
  refine K1u ?_
  refine H15 ?_;intro w cx hwS10
  refine K1 ?_
  refine Kbc ?_
  refine ⟨cx.ext,_,_,ByteArray.empty,rfl,⟨0,false,false,ByteArray.empty,0,0,0,0,0,_,_,_,rfl,rfl,rfl,rfl⟩,by decide,fun c0 hv0 hc0 h0=>?_⟩
  exfalso
  obtain ⟨h1,h2⟩:=hex33 c0 hv0 hc0 (hex c0 (by decide) h0).1
  rcases hc42 with h | h
  · exact h h2
  · exact h (h1.trans h0.symm)
 refine K1 ?_
 refine K16 ?_
 refine H15 ?_;intro w cx hwS11
 refine K1 ?_
 refine Kbc ?_
 refine ⟨cx.ext,_,_,v.sc.text,rfl,⟨_,_,_,_,_,_,_,_,_,_,_,_,rfl,rfl,rfl,rfl⟩,by omega,fun c0 hv0 hc0 h0=>?_⟩
 have h1:=(hex c0 (by decide) h0).1
 simp only [vrow,List.cons.injEq,Value.string.injEq] at h1
 exact h1.2.2.2.2.2.2.2.2.2.1
theorem c112 (s:List UInt8)(w0:World)(hs:s.length≤1000):Fc Tryz.prog 112 [.string (bs s)] w0 (fun v _=>∃ (cells:List Value) (e:Int) (c:ByteArray),v=.tuple #[.agg cells.toArray,.int .i64 e] ∧
  (∃ (i1:Int) (b1 b2:Bool) (s1:ByteArray) (i2 i3 i4 i5 i6:Int) (bb ll ff:Value),cells=[.int .i64 i1,.bool b1,.bool b2,.string s1,.int .i64 i2,.int .i64 i3,.int .i64 i4,.int .i64 i5,.int .i64 i6,.string c,bb,ll,ff]∧bb.oneCell'=true∧ll.oneCell'=true∧ff.oneCell'=true)∧c.size≤1000∧∀ c0:ByteArray,validD c0.data.toList=true→c0.size≤1024→s=cqt c0→c=c0):=c112r s w0 hs
theorem sz245:(Tryz.prog.info? 245).map (·.size)=some 2:=by kernel_rfl
theorem sz243:(Tryz.prog.info? 243).map (·.size)=some 1:=by kernel_rfl
theorem fa245_0:FA Tryz.prog 245 0 0:=fa_of (tt:=243) Tryz.underlying245 rfl sz243 rfl
theorem fa245_1:FA Tryz.prog 245 1 1:=fa_of (tt:=79) Tryz.underlying245 rfl sz79 rfl
theorem z245:Zero Tryz.prog 245 [.pointer none,.slice none 0 0]:=zero_of (v:=.agg #[.pointer none,.slice none 0 0]) p1q rfl
theorem ex348n:Extern.findNext Tryz.f348=none:=by kernel_rfl
theorem ex348:Extern.find Tryz.f348=some Extern.AbiNoEscape.same:=by kernel_rfl
theorem run348 (x:Value)(w:World):(callFunc 348 #[x]).run Tryz.prog w=.ok (.value x) w:=by
 have hf:Tryz.prog.funcs[348]?=some Tryz.f348:=Tryz.func348
 have hn : (Tryz.f348.name == "runtime.NumGoroutine") = false := by kernel_rfl
 have hb:Tryz.f348.body.isNone=true:=by kernel_rfl
 have hr:(Extern.AbiNoEscape.same #[x]).run Tryz.prog w=.ok x w:=rfl
 simp [callFunc,hf,hn,hb,ex348n,ex348]
 rw [if_neg (by simpa using hn),if_pos (by simpa using hb)]
 simp [hr]
theorem pnil (a:Option Addr)(w:World):(binOp .eql 243 (.pointer a) (.pointer none)).run Tryz.prog w=.ok (.bool a.isNone) w:=by
 cases a <;> go_simp
theorem ofs {l:List UInt8}{m:Int}(h0:0≤m)(h1:m<256):l.map bv++[Value.int .u8 m]=(l++[UInt8.ofNat m.toNat]).map bv:=by
 rw [List.map_append]
 congr 1
 show _=[bv _]
 unfold bv
 rw [u8t (by omega),Int.toNat_of_nonneg h0]
theorem infoB:Tryz.prog.info? 245=some ((Tryz.prog.info? 245).getD default):=by kernel_rfl
theorem infoBn:((Tryz.prog.info? 245).getD default).size≠0:=by
 have h:=sz245
 rw [infoB] at h
 intro e
 simp only [Option.map_some,Option.some.injEq] at h
 omega
theorem liesB:liesAt Tryz.prog Tryz.prog.depth 245 (2 / Tryz.prog.cellsOf 245) 0 245 1=true:=by kernel_rfl
theorem _root_.Go.Dk.Cxr.shape {w0 w:World}{L:List (Nat×Obj)}{R:List Row}(h:Cxr w0 w L R)(i:Nat){b t:Nat}{l:List Value}(hi:L[i]?=some (b,.cells l.toArray t)):w.shape? b=some (t,l.length):=by
 have:=h.at i hi
 simp [World.shape?,this]
theorem c271n (wb w0:World)(b:Nat)(v:Value)(L:List (Nat×Obj))(R:List Row)(cx0:Cxr wb w0 ((b,.cells ([.pointer none,v]:List Value).toArray 245)::L) R):Ret Tryz.prog 271 [.pointer (some ⟨b,0,none⟩)] w0 (fun u w'=>u=.tuple #[]∧Cxr wb w' ((b,.cells ([.pointer (some ⟨b,0,none⟩),v]:List Value).toArray 245)::L) R):=by
 refine ret_enter Tryz.func271 rfl Tryz.ntmps271 rfl ?_
 have cx:=cx0
 refine K2 ?_
 refine K9e ?_
 refine Kbd ?_
 refine s_val rfl rfl (v_ptrNil Tryz.underlying243 (pnil _) rfl rfl rfl) ?_
 refine SS ?_
 refine K3x ?_
 refine s_val rfl rfl (v_cvt (Lib.run_to_unsafe _ ⟨b,0,none⟩ Tryz.underlying243 Tryz.underlying380 infoB infoBn (cx.shape 0 rfl) (by show 0<2;omega)) rfl rfl) ?_
 refine s_val rfl rfl (v_ext (run348 _) rfl rfl rfl) ?_
 refine s_val rfl rfl (v_cvt (Lib.run_from_unsafe _ ⟨b,0,none⟩ Tryz.underlying380 Tryz.underlying243 infoB (cx.shape 0 rfl) liesB) rfl rfl) ?_
 refine SS ?_
 refine K9e ?_
 refine s_store1 (v:=.pointer (some ⟨b,0,none⟩)) cx 0 rfl rfl rfl rfl rfl rfl rfl rfl sz243 ?_;intro w cx hwS1
 refine SS ?_
 refine ret_no (.inr rfl) Tryz.results271 ?_
 exact ⟨rfl,cx⟩
theorem c271s (wb w0:World)(b:Nat)(v:Value)(L:List (Nat×Obj))(R:List Row)(cx0:Cxr wb w0 ((b,.cells ([.pointer (some ⟨b,0,none⟩),v]:List Value).toArray 245)::L) R):Ret Tryz.prog 271 [.pointer (some ⟨b,0,none⟩)] w0 (fun u w'=>u=.tuple #[]∧Cxr wb w' ((b,.cells ([.pointer (some ⟨b,0,none⟩),v]:List Value).toArray 245)::L) R):=by
 refine ret_enter Tryz.func271 rfl Tryz.ntmps271 rfl ?_
 have cx:=cx0
 refine K2 ?_
 refine K9e ?_
 refine Kbd ?_
 refine s_val rfl rfl (v_ptrNil Tryz.underlying243 (pnil _) rfl rfl rfl) ?_
 refine SS ?_
 refine K1a ?_
 refine K9e ?_
 refine Kbd ?_
 refine SS ?_
 refine s_val rfl rfl (v_ptrNe Tryz.underlying243 (j:=_) (infoB) rfl rfl rfl) ?_
 refine SS ?_
 refine K1d ?_
 refine SS ?_
 refine ret_no (.inr rfl) Tryz.results271 ?_
 exact ⟨rfl,cx⟩
theorem c271 (wb w0:World)(b:Nat)(L:List (Nat×Obj))(R:List Row)(l:List UInt8)(h:BCx 245 wb w0 b L R l):Ret Tryz.prog 271 [.pointer (some ⟨b,0,none⟩)] w0 (fun u w'=>u=.tuple #[]∧∃ v,Cxr wb w' ((b,.cells ([.pointer (some ⟨b,0,none⟩),v]:List Value).toArray 245)::L) (⟨5,1,v,l.length,l.map bv⟩::R)):=by
 obtain ⟨a,v,cx0,ha⟩:=h
 rcases ha with rfl | rfl
 · exact (c271n wb w0 b v L _ cx0).mono fun u w' ⟨h1,h2⟩=>⟨h1,v,h2⟩
 · exact (c271s wb w0 b v L _ cx0).mono fun u w' ⟨h1,h2⟩=>⟨h1,v,h2⟩
theorem c225 (wb w0:World)(b:Nat)(L:List (Nat×Obj))(R:List Row)(l:List UInt8)(m:Int)(h:BCx 245 wb w0 b L R l)(h0:0≤m)(h1:m<256)(hl:l.length+1≤140737488355328):Ret Tryz.prog 225 [.pointer (some ⟨b,0,none⟩),.int .u8 m] w0 (fun u w'=>u=.nilIface∧BCx 245 wb w' b L R (l++[UInt8.ofNat m.toNat])):=by
 refine ret_enter Tryz.func225 rfl Tryz.ntmps225 rfl ?_
 refine K5 ?_
 refine s_call (c271 wb _ b L R l h) Tryz.func271 rfl rfl rfl rfl rfl rfl ?_;rintro q6 w ⟨rfl,v,cx⟩
 refine K4 ?_
 refine K9f ?_
 refine K9c ?_
 refine SS ?_
 refine He ?_;intro b13 w cx hb13 hw13
 refine Hf ?_;intro v14 w cx hgr14
 replace cx:=cx.drop 1
 refine SS ?_
 refine K9f ?_
 refine s_store1 (v:=v14) cx 0 rfl rfl rfl rfl rfl cx.oneS rfl rfl sz79 ?_;intro w cx hwS2
 refine K4 ?_
 refine ret_tmp Tryz.results225 rfl ?_
 exact ⟨rfl,_,_,cx.row_eq (by simp) (ofs h0 h1),.inr rfl⟩
theorem c197 (wb w0:World)(b:Nat)(L:List (Nat×Obj))(R:List Row)(l a:List UInt8)(h:BCx 245 wb w0 b L R l)(hl:l.length+a.length≤140737488355328):Ret Tryz.prog 197 [.pointer (some ⟨b,0,none⟩),.string (bs a)] w0 (fun u w'=>(∃ n,u=.tuple #[.int .i64 n,.nilIface])∧BCx 245 wb w' b L R (l++a)):=by
 refine ret_enter Tryz.func197 rfl Tryz.ntmps197 rfl ?_
 refine K6 ?_
 refine s_call (c271 wb _ b L R l h) Tryz.func271 rfl rfl rfl rfl rfl rfl ?_;rintro q7 w ⟨rfl,v,cx⟩
 refine K4 ?_
 refine K9f ?_
 refine K9c ?_
 refine SS ?_
 refine H1e ?_;intro v14 w cx hgr14
 refine SS ?_
 refine K9f ?_
 refine s_store1 (v:=v14) cx 0 rfl rfl rfl rfl rfl cx.oneS rfl rfl sz79 ?_;intro w cx hwS2
 refine K2 ?_
 refine K51 ?_
 refine K2 ?_
 refine ret_tmp2 Tryz.results197 rfl rfl ?_
 exact ⟨⟨_,rfl⟩,_,_,cx.row_eq (by simp) (by rw [List.map_append]),.inr rfl⟩
theorem pkys_k:Go.Ev.evalE Tryz.prog env0 8 220 [.slice none 0 0]=some (.int .i64 0):=by kernel_rfl
theorem clb_k:Go.Ev.evalE Tryz.prog env0 8 369 [.slice none 0 0]=some (.slice none 0 0):=by kernel_rfl
theorem clf_k:Go.Ev.evalE Tryz.prog env0 8 365 [.slice none 0 0]=some (.slice none 0 0):=by kernel_rfl
theorem srt_k:Go.Ev.evalE Tryz.prog env0 8 366 [.slice none 0 0,.func (.func 367) #[] #[]]=some (.tuple #[]):=by kernel_rfl
theorem c217 (c:ByteArray)(w0:World):Fc Tryz.prog 217 [.agg (leaf c).toArray] w0 (IsB fun b=>b=false):=by
 refine ret_enter Tryz.func217 rfl Tryz.ntmps217 rfl ?_
 have cx:=Ctx.start w0
 refine K0 ?_
 refine Hc ?_;intro b1 w cx hb1 hw1
 refine K2 ?_
 refine K6n ?_
 refine K93 ?_
 refine K94 ?_
 refine K3 ?_
 refine K57 ?_
 refine Kbb ?_
 refine Kg3 ?_
 refine K4 ?_
 refine K3l ?_
 refine K9b ?_
 refine Kg4 ?_
 refine K4 ?_
 refine K9g ?_
 refine K2k ?_
 refine Kao ?_
 refine K4 ?_
 refine s_gval rfl rfl rfl wT (fun hc=>v_fa fa83_5 rfl gX) ?_
 refine Ke0 ?_
 refine Kax ?_
 refine K5 ?_
 refine s_gval rfl rfl rfl wT (fun hc=>v_fa fa83_6 rfl gX) ?_
 refine Ke1 ?_
 refine Ke2 ?_
 refine K5 ?_
 refine s_gval rfl rfl rfl wT (fun hc=>v_fa fa83_7 rfl gX) ?_
 refine Ke3 ?_
 refine Ke4 ?_
 refine K4 ?_
 refine ret_tmp Tryz.results217 rfl ?_
 exact ⟨cx.ext,_,rfl,rfl⟩
theorem c154 (c:ByteArray)(wb w0:World)(b:Nat)(L:List (Nat×Obj))(cx0:Cxr wb w0 ((b,.cells ([.int .i64 0]:List Value).toArray 3)::L) [])(hv:validD c.data.toList=true)(hc:c.size≤1024):Ret Tryz.prog 154 [.agg (leaf c).toArray,.int .i64 1,.pointer (some ⟨b,0,none⟩)] w0 (fun v w'=>v=.int .i64 0∧Cxr wb w' ((b,.cells ([.int .i64 1]:List Value).toArray 3)::L) []):=by
 refine ret_enter Tryz.func154 rfl Tryz.ntmps154 rfl ?_
 have cx:=cx0
 refine K0 ?_
 refine Hc ?_;intro b3 w cx hb3 hw3
 refine K4 ?_
 refine K1m ?_
 refine K0 ?_
 refine s_store1 (v:=.int .i64 1) cx 1 rfl rfl rfl rfl rfl rfl rfl rfl sz3 ?_;intro w cx hwS1
 refine K7 ?_
 refine K1a ?_
 refine K1m ?_
 refine K1 ?_
 refine K1d ?_
 refine K6q ?_
 refine K58 ?_
 refine Ki ?_
 refine K5f ?_
 refine s_gfnB cx rfl rfl rfl wF (fun hc=>c217 c _) Tryz.func217 rfl rfl rfl (fun hc=>(cons_eq gX rfl)) ?_;intro q38 w cx hw38 hp38
 obtain rfl:q38=false:=hp38 (by first | rfl | decide | simp)
 refine K1 ?_
 refine K1d ?_
 refine K6q ?_
 refine K57 ?_
 refine Kbb ?_
 refine s_gfnB cx rfl rfl rfl wT (fun hc=>(absurd hc (by simp):Fc _ _ _ _ (IsB fun _=>True))) Tryz.func218 rfl rfl rfl (fun hc=>(cons_eq gX rfl)) ?_;intro q47 w cx hw47 hp47
 refine K1 ?_
 refine K58 ?_
 refine K6m ?_
 refine K3l ?_
 refine K9b ?_
 refine s_gfnB cx rfl rfl rfl wT (fun hc=>(absurd hc (by simp):Fc _ _ _ _ (IsB fun _=>True))) Tryz.func219 rfl rfl rfl (fun hc=>(cons_eq gX rfl)) ?_;intro q57 w cx hw57 hp57
 refine K3 ?_
 refine K1d ?_
 refine K6q ?_
 refine K9g ?_
 refine K2k ?_
 refine s_gfnB cx rfl rfl rfl wT (fun hc=>c92 c _ (by omega)) Tryz.func92 rfl rfl rfl (fun hc=>(cons_eq gX rfl)) ?_;intro q68 w cx hw68 hp68
 obtain rfl:q68=true:=(hp68 (by first | rfl | decide | simp)).trans hv
 refine K2 ?_
 refine K1d ?_
 refine K6o ?_
 refine K1t ?_
 refine K6k ?_
 refine K2 ?_
 refine c_split rfl (fun hc71=>?_) (fun hc71=>?_)
 ·
  simp only [Bool.or_eq_true,decide_eq_true_eq] at hc71
  exfalso
  omega
 try simp only [bsl] at hc71
 refine K6p ?_
 refine s_fn cx (call_of pkys_k _) Tryz.func220 rfl rfl rfl rfl rfl rfl ?_;intro q84 w cx hw84 hp84
 subst hp84
 refine K5 ?_
 refine K1a ?_
 refine K33 ?_
 refine K3n ?_
 refine K2 ?_
 refine w_loop (fun k f w1=>∃ b3,f 3=.pointer (some ⟨b3,0,none⟩)∧f 90=.int .i64 0∧f 91=.int .i64 0∧Cxr wb w1 ((b3,.cells (leaf c).toArray 83)::(b,.cells ([.int .i64 1]:List Value).toArray 3)::L) []) (0) ?_ ?_
 ·
  exact ⟨_,rfl,rfl,rfl,cx⟩
 intro gk18 f w hJ
 obtain ⟨b3,hs3,hs90,hs91,cx⟩:=hJ
 refine K0 ?_
 refine s_val rfl rfl (v_cmp rfl hs91 hs90 rfl) ?_
 refine K0 ?_
 refine K1a ?_
 refine s_val rfl rfl (v_fa fa83_7 rfl hs3) ?_
 refine K59 ?_
 refine K2 ?_
 refine w_loop (fun k f w1=>∃ b3,f 3=.pointer (some ⟨b3,0,none⟩)∧f 106=.int .i64 0∧f 107=.int .i64 0∧Cxr wb w1 ((b3,.cells (leaf c).toArray 83)::(b,.cells ([.int .i64 1]:List Value).toArray 3)::L) []) (0) ?_ ?_
 ·
  exact ⟨_,hs3,rfl,rfl,cx⟩
 intro gk25 f w hJ
 obtain ⟨b3,hs3,hs106,hs107,cx⟩:=hJ
 refine K0 ?_
 refine s_val rfl rfl (v_cmp rfl hs107 hs106 rfl) ?_
 refine K0 ?_
 refine K1d ?_
 refine K4 ?_
 refine ret_tmp Tryz.results154 rfl ?_
 exact ⟨rfl,cx.drop 1⟩
theorem c97 (c:ByteArray)(w0:World)(hv:validD c.data.toList=true)(hc:c.size≤1024):Fc Tryz.prog 97 [.agg (leaf c).toArray] w0 (IsI fun m=>m=0):=by
 refine ret_enter Tryz.func97 rfl Tryz.ntmps97 rfl ?_
 have cx:=Ctx.start w0
 refine K0 ?_
 refine Hc ?_;intro b1 w cx hb1 hw1
 refine K2 ?_
 refine s_alloc cx z3 rfl rfl rfl ?_;intro b3 w cx hb3 hw3
 refine s_store1 (v:=.int .i64 0) cx 0 rfl rfl rfl rfl rfl rfl rfl rfl sz3 ?_;intro w cx hwS1
 refine K1 ?_
 refine K9h ?_
 refine s_call (c154 c _ _ _ _ cx hv hc) Tryz.func154 rfl rfl rfl rfl rfl rfl ?_;rintro v5 w ⟨rfl,cx⟩
 refine K1 ?_
 refine ret_tmp Tryz.results97 rfl ?_
 exact ⟨cx.ext,_,rfl,rfl⟩
theorem c304 (c:ByteArray)(w0:World):Fc Tryz.prog 304 [.agg (leaf c).toArray,.int .i64 65536] w0 (fun v _=>v=.agg (leaf c).toArray):=by
 refine ret_enter Tryz.func304 rfl Tryz.ntmps304 rfl ?_
 have cx:=Ctx.start w0
 refine K0 ?_
 refine Hc ?_;intro b2 w cx hb2 hw2
 refine Hx ?_;intro b4 w cx hb4 hw4
 refine K1 ?_
 refine K5e ?_
 refine Ke5 ?_
 refine s_fn cx (call_of clb_k _) Tryz.func369 rfl rfl rfl rfl rfl rfl ?_;intro q13 w cx hw13 hp13
 subst hp13
 refine K5e ?_
 refine s_store1 (v:=.slice none 0 0) cx 1 rfl rfl rfl rfl rfl rfl rfl rfl sz79 ?_;intro w cx hwS1
 refine K5 ?_
 refine K1d ?_
 refine K6 ?_
 refine K33 ?_
 refine K7g ?_
 refine K2 ?_
 refine w_loop (fun k f w1=>∃ b2 b4:Nat,f 2=.pointer (some ⟨b2,0,none⟩)∧f 4=.pointer (some ⟨b4,0,none⟩)∧f 5=.slice none 0 0∧f 22=.int .i64 0∧f 23=.int .i64 0∧Ctx w0 w1 [(b4,.cells ([.int .i64 0,.bool false,.bool false,.string ByteArray.empty,.int .i64 0,.int .i64 0,.int .i64 0,.int .i64 0,.int .i64 0,.string ByteArray.empty,.slice none 0 0,.slice none 0 0,.slice none 0 0]:List Value).toArray 83),(b2,.cells (leaf c).toArray 83)]) (0) ?_ ?_
 ·
  exact ⟨_,_,rfl,rfl,rfl,rfl,rfl,cx⟩
 intro gk7 f w hJ
 obtain ⟨b2,b4,hs2,hs4,hs5,hs22,hs23,cx⟩:=hJ
 refine K0 ?_
 refine s_val rfl rfl (v_cmp rfl hs23 hs22 rfl) ?_
 refine K0 ?_
 refine K1d ?_
 refine K6 ?_
 refine K9i ?_
 refine K7h ?_
 refine K2 ?_
 refine w_loop (fun k f w1=>∃ b2 b4:Nat,f 2=.pointer (some ⟨b2,0,none⟩)∧f 4=.pointer (some ⟨b4,0,none⟩)∧f 5=.slice none 0 0∧f 8=.slice none 0 0∧f 37=.int .i64 0∧f 38=.int .i64 0∧Ctx w0 w1 [(b4,.cells ([.int .i64 0,.bool false,.bool false,.string ByteArray.empty,.int .i64 0,.int .i64 0,.int .i64 0,.int .i64 0,.int .i64 0,.string ByteArray.empty,.slice none 0 0,.slice none 0 0,.slice none 0 0]:List Value).toArray 83),(b2,.cells (leaf c).toArray 83)]) (0) ?_ ?_
 ·
  exact ⟨_,_,hs2,hs4,hs5,rfl,rfl,rfl,cx⟩
 intro gk13 f w hJ
 obtain ⟨b2,b4,hs2,hs4,hs5,hs8,hs37,hs38,cx⟩:=hJ
 refine K0 ?_
 refine Kbe ?_
 refine K0 ?_
 refine K1d ?_
 refine Kf ?_
 refine Kv ?_
 refine s_val rfl rfl (v_fa fa83_6 rfl hs2) ?_
 refine s_store1 (v:=.slice none 0 0) cx 1 rfl rfl rfl rfl rfl rfl rfl rfl sz80 ?_;intro w cx hwS17
 refine K9i ?_
 refine H1g ?_;intro w cx hwS17
 refine K1 ?_
 refine Ke6 ?_
 refine s_storeAll cx 0 rfl rfl rfl hs4 rfl rfl sz83 rfl rfl ?_;intro w cx hwS18
 refine K0 ?_
 refine Ke7 ?_
 exact Ez2
theorem c227 (c:ByteArray)(w0:World):Fc Tryz.prog 227 [.agg (leaf c).toArray] w0 (fun v _=>v=.agg (leaf c).toArray):=by
 refine ret_enter Tryz.func227 rfl Tryz.ntmps227 rfl ?_
 have cx:=Ctx.start w0
 refine K0 ?_
 refine Hc ?_;intro b1 w cx hb1 hw1
 refine Hx ?_;intro b2 w cx hb2 hw2
 refine K1 ?_
 refine K9h ?_
 refine s_fn cx (c304 c _) Tryz.func304 rfl rfl rfl rfl rfl rfl ?_;intro q4 w cx hw4 hp4
 subst hp4
 refine Hy ?_;intro w cx hwS1
 refine K0 ?_
 refine Ke8 ?_
 exact Ez2
theorem c303 (c:ByteArray)(w0:World):Fc Tryz.prog 303 [.agg (leaf c).toArray] w0 (fun v _=>v=.slice none 0 0):=by
 refine ret_enter Tryz.func303 rfl Tryz.ntmps303 rfl ?_
 have cx:=Ctx.start w0
 refine K0 ?_
 refine Hc ?_;intro b1 w cx hb1 hw1
 refine K6p ?_
 refine s_fn cx (call_of clf_k _) Tryz.func365 rfl rfl rfl rfl rfl rfl ?_;intro q6 w cx hw6 hp6
 subst hp6
 refine K3 ?_
 refine s_fn cx (call_of srt_k _) Tryz.func366 rfl rfl rfl rfl rfl rfl ?_;intro q8 w cx hw8 hp8
 subst hp8
 refine K5 ?_
 refine ret_tmp Tryz.results303 rfl ?_
 exact Ez2
theorem c226 (c:ByteArray)(w0:World):Fc Tryz.prog 226 [.agg (leaf c).toArray] w0 (fun v _=>v=.agg (leaf c).toArray):=by
 refine ret_enter Tryz.func226 rfl Tryz.ntmps226 rfl ?_
 have cx:=Ctx.start w0
 refine K0 ?_
 refine Hc ?_;intro b1 w cx hb1 hw1
 refine Hx ?_;intro b2 w cx hb2 hw2
 refine K2 ?_
 refine K33 ?_
 refine K7g ?_
 refine K2 ?_
 refine w_loop (fun k f w1=>∃ b1 b2:Nat,f 1=.pointer (some ⟨b1,0,none⟩)∧f 2=.pointer (some ⟨b2,0,none⟩)∧f 7=.int .i64 0∧f 8=.int .i64 0∧Ctx w0 w1 [(b2,.cells ([.int .i64 0,.bool false,.bool false,.string ByteArray.empty,.int .i64 0,.int .i64 0,.int .i64 0,.int .i64 0,.int .i64 0,.string ByteArray.empty,.slice none 0 0,.slice none 0 0,.slice none 0 0]:List Value).toArray 83),(b1,.cells (leaf c).toArray 83)]) (0) ?_ ?_
 ·
  exact ⟨_,_,rfl,rfl,rfl,rfl,cx⟩
 intro gk2 f w hJ
 obtain ⟨b1,b2,hs1,hs2,hs7,hs8,cx⟩:=hJ
 refine K0 ?_
 refine s_val rfl rfl (v_cmp rfl hs8 hs7 rfl) ?_
 refine K0 ?_
 refine K4q ?_
 refine K9j ?_
 refine s_fn cx (c303 c _) Tryz.func303 rfl rfl rfl rfl rfl rfl ?_;intro q23 w cx hw23 hp23
 subst hp23
 refine K5a ?_
 refine H1g ?_;intro w cx hwS6
 refine K2 ?_
 refine K5a ?_
 refine K7h ?_
 refine K2 ?_
 refine w_loop (fun k f w1=>∃ b1 b2:Nat,f 1=.pointer (some ⟨b1,0,none⟩)∧f 2=.pointer (some ⟨b2,0,none⟩)∧f 27=.int .i64 0∧f 28=.int .i64 0∧Ctx w0 w1 [(b2,.cells ([.int .i64 0,.bool false,.bool false,.string ByteArray.empty,.int .i64 0,.int .i64 0,.int .i64 0,.int .i64 0,.int .i64 0,.string ByteArray.empty,.slice none 0 0,.slice none 0 0,.slice none 0 0]:List Value).toArray 83),(b1,.cells (leaf c).toArray 83)]) (0) ?_ ?_
 ·
  exact ⟨_,_,hs1,hs2,rfl,rfl,cx⟩
 intro gk8 f w hJ
 obtain ⟨b1,b2,hs1,hs2,hs27,hs28,cx⟩:=hJ
 refine K0 ?_
 refine s_val rfl rfl (v_cmp rfl hs28 hs27 rfl) ?_
 refine K0 ?_
 refine K4q ?_
 refine K9j ?_
 refine s_storeAll cx 0 rfl rfl rfl hs2 rfl rfl sz83 rfl rfl ?_;intro w cx hwS12
 refine K0 ?_
 refine Ke9 ?_
 exact Ez2
theorem c156 (c:ByteArray)(w0:World):Fc Tryz.prog 156 [.agg (leaf c).toArray] w0 (fun v _=>v=.agg (leaf c).toArray):=by
 refine ret_enter Tryz.func156 rfl Tryz.ntmps156 rfl ?_
 have cx:=Ctx.start w0
 refine K0 ?_
 refine Hc ?_;intro b1 w cx hb1 hw1
 refine Hx ?_;intro b2 w cx hb2 hw2
 refine K1 ?_
 refine K9h ?_
 refine s_fn cx (c227 c _) Tryz.func227 rfl rfl rfl rfl rfl rfl ?_;intro q4 w cx hw4 hp4
 subst hp4
 refine s_fn cx (c226 c _) Tryz.func226 rfl rfl rfl rfl rfl rfl ?_;intro q5 w cx hw5 hp5
 subst hp5
 refine Hy ?_;intro w cx hwS1
 refine K0 ?_
 refine Kea ?_
 exact Ez2
def hxb:ByteArray:=⟨#[48,49,50,51,52,53,54,55,56,57,97,98,99,100,101,102]⟩
theorem hx_hi {m:Int}(h0:0≤m)(h1:m<256):0≤shr .u8 m (Int.toNat 4)∧shr .u8 m (Int.toNat 4)<(16:Int)∧UInt8.ofNat (byteAt hxb (shr .u8 m (Int.toNat 4))).toNat=hexd (m.toNat / 16):=by
 obtain ⟨n,rfl⟩:=Int.eq_ofNat_of_zero_le h0
 have:∀ b:Fin 256,0≤shr .u8 (b.val:Int) (Int.toNat 4)∧shr .u8 (b.val:Int) (Int.toNat 4)<(16:Int)∧UInt8.ofNat (byteAt hxb (shr .u8 (b.val:Int) (Int.toNat 4))).toNat=hexd (b.val / 16):=by decide +kernel
 exact this ⟨n,by omega⟩
theorem hx_lo {m:Int}(h0:0≤m)(h1:m<256):0≤bitOp .and .u8 m 15∧bitOp .and .u8 m 15<(16:Int)∧UInt8.ofNat (byteAt hxb (bitOp .and .u8 m 15)).toNat=hexd (m.toNat%16):=by
 obtain ⟨n,rfl⟩:=Int.eq_ofNat_of_zero_le h0
 have:∀ b:Fin 256,0≤bitOp .and .u8 (b.val:Int) 15∧bitOp .and .u8 (b.val:Int) 15<(16:Int)∧UInt8.ofNat (byteAt hxb (bitOp .and .u8 (b.val:Int) 15)).toNat=hexd (b.val%16):=by decide +kernel
 exact this ⟨n,by omega⟩
theorem c302 (m:Int)(w:World)(h0:0≤m)(h1:m<256):Fc Tryz.prog 302 [.int .u8 m] w fun v _=>v=.int .u8 ((shq (UInt8.ofNat m.toNat)).toNat:Int):=of_allB shq_k m h0 h1 w
theorem shq_ne {c:UInt8}(h:¬ (c.toNat:Int)=0):c≠0:=fun e=>h (by rw [e];rfl)
theorem shq_e {c:UInt8}(h:(c.toNat:Int)=0):c=0:=by
 have h1:c.toNat=0:=by omega
 exact UInt8.toNat_inj.1 (by rw [h1];rfl)
theorem str_any {wb w:World}{b:Nat}{L:List (Nat×Obj)}{R:List Row}{l:List UInt8}{a v:Value}(cx:Cxr wb w ((b,.cells ([a,v]:List Value).toArray 245)::L) (⟨5,1,v,l.length,l.map bv⟩::R))(ha:a=.pointer none∨a=.pointer (some ⟨b,0,none⟩)):Ret Tryz.prog 157 [.pointer (some ⟨b,0,none⟩)] w (fun u w'=>u=.string (bs l)∧Below wb.heap.size wb w'):=by
 have hrow:=cx.rows _ (List.mem_cons_self ..)
 have hoff:=cx.off _ (List.mem_cons_self ..)
 simp only at hrow hoff
 have hat:Lib.BuilderAtF 245 5 wb.heap.size b a (Lib.byteCells l) w:=by
  refine ⟨cx.lo _ (List.mem_cons_self ..),v,cx.at 0 rfl,?_,fun e=>hoff b e (by simp)⟩
  have h1:=World.ownsRowF_of hrow
  have e:(Lib.byteCells l).length=l.length:=Lib.byteCells_length l
  rw [e]
  exact h1
 have hb:Lib.IsBuilderF 245 5 wb.heap.size b (Lib.byteCells l) w:=by
  rcases ha with rfl | rfl
  · exact .inl hat
  · exact .inr hat
 exact Calls.mono (Go.Proofs.Tryz.Builder_String_any_k wb.heap.size b l w hb cx.ext.size) fun e w' ⟨he,_,hb,_⟩=>⟨_,he,rfl,cx.ext.trans hb⟩
theorem c223 (wb w0:World)(b:Nat)(L:List (Nat×Obj))(R:List Row)(l:List UInt8)(s:ByteArray)(h:BCx 245 wb w0 b L R l)(hl:l.length≤1073741824)(hs:s.size≤3000000):Ret Tryz.prog 223 [.pointer (some ⟨b,0,none⟩),.string s] w0 (fun u w'=>u=.tuple #[]∧BCx 245 wb w' b L R (l++cqt s)):=by
 refine ret_enter Tryz.func223 rfl Tryz.ntmps223 rfl ?_
 refine K1 ?_
 refine H1h ?_;rintro q8 w ⟨rfl,h⟩
 refine K5 ?_
 refine w_loop (fun k f w1=>∃ i:Nat,k+i=s.size∧f 0=.pointer (some ⟨b,0,none⟩)∧f 1=.string s∧f 4=.int .i64 i∧BCx 245 wb w1 b L R (l++(34::qtq (s.data.toList.take i)))) (s.size) ?_ ?_
 ·
  exact ⟨0,by omega,rfl,rfl,rfl,h.eq (by simp [qtq])⟩
 intro gk2 f w hJ
 obtain ⟨i,hk,hs0,hs1,hs4,h⟩:=hJ
 have hlq:=qtq_len (s.data.toList.take i)
 have hlt:=List.length_take_le i s.data.toList
 have hls:s.data.toList.length=s.size:=by simp
 have hhi:=hx_hi (byteAt_lo s i) (byteAt_hi s i)
 have hlo2:=hx_lo (byteAt_lo s i) (byteAt_hi s i)
 refine Kl ?_
 refine Ky ?_
 refine K1t ?_
 refine cSp rfl (fun hc12=>?_) (fun hc12=>?_)
 ·
  refine K3 ?_
  refine Ky ?_
  refine Ke ?_
  refine K2y ?_
  refine K3 ?_
  refine s_call (c302 _ _ (byteAt_lo _ _) (byteAt_hi _ _)) Tryz.func302 rfl rfl rfl rfl rfl rfl ?_;rintro q19 w ⟨hb19,rfl⟩;replace h:=h.call hb19
  refine K7 ?_
  refine cSp rfl (fun hc23=>?_) (fun hc23=>?_)
  ·
   have hne:=shq_ne hc23
   refine Km ?_
   refine H1h ?_;rintro q27 w ⟨rfl,h⟩
   refine K2f ?_
   refine s_call (c225 wb _ b L R _ _ h (by omega) (by have:=(shq (UInt8.ofNat (byteAt s (i:Int)).toNat)).toNat_lt;omega) p3q) Tryz.func225 rfl rfl rfl rfl rfl rfl ?_;rintro q30 w ⟨rfl,h⟩
   refine K26 ?_
   have hq:=qtq_take s i (by omega)
   have hb:s.data.toList.getD i 0=UInt8.ofNat (byteAt s i).toNat:=by unfold byteAt;rw [Int.toNat_natCast,Int.toNat_natCast];exact UInt8.ofNat_toNat.symm
   refine Kbf ?_
   rw [hq,hb]
   unfold sgq
   rw [if_pos hne]
   simp only [Int.toNat_natCast,UInt8.ofNat_toNat,List.append_assoc,List.cons_append,List.nil_append]
   rfl
  have he0:=shq_e hc23
  refine K4 ?_
  refine cSp rfl (fun hc31=>?_) (fun hc31=>?_)
  ·
   refine Km ?_
   refine s_call (c197 wb _ b L R _ [92,117,48,48] h p3q) Tryz.func197 rfl rfl rfl rfl rfl rfl ?_;rintro q35 w ⟨⟨n35,rfl⟩,h⟩
   refine K9 ?_
   refine SS ?_
   refine K3g ?_
   refine s_val rfl rfl (v_idxStr (s:=hxb) rfl rfl rfl Tryz.underlying9 hhi.1 hhi.2.1) ?_
   refine H1i ?_;rintro q40 w ⟨rfl,h⟩
   refine K2f ?_
   refine K1w ?_
   refine s_val rfl rfl (v_idxStr (s:=hxb) rfl rfl rfl Tryz.underlying9 hlo2.1 hlo2.2.1) ?_
   refine H1i ?_;rintro q45 w ⟨rfl,h⟩
   refine K26 ?_
   have hq:=qtq_take s i (by omega)
   have hb:s.data.toList.getD i 0=UInt8.ofNat (byteAt s i).toNat:=by unfold byteAt;rw [Int.toNat_natCast,Int.toNat_natCast];exact UInt8.ofNat_toNat.symm
   refine Kbf ?_
   have hlo:=byteAt_lo s i
   have hhi':=byteAt_hi s i
   have h32:UInt8.ofNat (byteAt s i).toNat<32:=by
    rw [UInt8.lt_iff_toNat_lt,u8t (by omega)]
    show (byteAt s i).toNat<32
    omega
   rw [hq,hb]
   unfold sgq
   rw [if_neg (by rw [he0];simp),if_pos h32,u8t (by omega),hhi.2.2,hlo2.2.2]
   exact Bz149
  refine K1g ?_
  refine SS ?_
  refine H1i ?_;rintro q22 w ⟨rfl,h⟩
  refine K26 ?_
  have hq:=qtq_take s i (by omega)
  have hb:s.data.toList.getD i 0=UInt8.ofNat (byteAt s i).toNat:=by unfold byteAt;rw [Int.toNat_natCast,Int.toNat_natCast];exact UInt8.ofNat_toNat.symm
  refine Kbf ?_
  have hlo:=byteAt_lo s i
  have hhi':=byteAt_hi s i
  have h32:¬ UInt8.ofNat (byteAt s i).toNat<32:=by
   rw [UInt8.lt_iff_toNat_lt,u8t (by omega)]
   show ¬ (byteAt s i).toNat<32
   omega
  rw [hq,hb]
  unfold sgq
  rw [if_neg (by rw [he0];simp),if_neg h32]
  exact Bz149
 refine Km ?_
 refine H1h ?_;rintro q47 w ⟨rfl,h⟩
 refine SS ?_
 refine ret_no (.inr rfl) Tryz.results223 ?_
 have hi:i=s.size:=by omega
 subst hi
 rw [show s.data.toList.take s.size=s.data.toList from List.take_of_length_le (by simp)] at h
 refine ⟨rfl,h.eq ?_⟩
 unfold cqt
 simp
theorem c155 (wb w0:World)(b:Nat)(L:List (Nat×Obj))(R:List Row)(l:List UInt8)(c:ByteArray)(h:BCx 245 wb w0 b L R l)(hl:l.length≤1073741824)(hc:c.size≤1024):Ret Tryz.prog 155 [.pointer (some ⟨b,0,none⟩),.agg (leaf c).toArray] w0 (fun u w'=>u=.tuple #[]∧BCx 245 wb w' b L R (l++cqt c)):=by
 refine ret_enter Tryz.func155 rfl Tryz.ntmps155 rfl ?_
 obtain ⟨a,v,cx,ha⟩:=id h
 refine K0 ?_
 refine Hc ?_;intro b3 w cx hb3 hw3;replace h:=h.call hw3
 refine K1 ?_
 refine K6n ?_
 refine K3y ?_
 refine K3y ?_
 refine K46 ?_
 refine K6o ?_
 refine s_call (c223 wb _ b L R l c h hl (by omega)) Tryz.func223 rfl rfl rfl rfl rfl rfl ?_;rintro q43 w ⟨rfl,h⟩
 refine K2g ?_
 exact ⟨rfl,h⟩
theorem c98 (c:ByteArray)(w0:World)(hc:c.size≤1024):Fc Tryz.prog 98 [.agg (leaf c).toArray] w0 (fun v _=>v=.string (bs (cqt c))):=by
 refine ret_enter Tryz.func98 rfl Tryz.ntmps98 rfl ?_
 have cx:=Ctx.start w0
 refine K0 ?_
 refine Hc ?_;intro b1 w cx hb1 hw1
 refine K2 ?_
 refine s_alloc cx z245 rfl rfl rfl ?_;intro b3 w cx hb3 hw3
 refine K1 ?_
 refine K9h ?_
 refine s_fn cx (c156 c _) Tryz.func156 rfl rfl rfl rfl rfl rfl ?_;intro q5 w cx hw5 hp5
 subst hp5
 refine s_call (c155 w0 _ b3 _ [] [] c ⟨_,_,cx.nilRow 5 1,.inl rfl⟩ (by simp) hc) Tryz.func155 rfl rfl rfl rfl rfl rfl ?_;rintro q6 w ⟨rfl,hB6⟩;obtain ⟨a6,v6,cx,ha6⟩:=hB6
 refine K1 ?_
 refine s_call (str_any cx ha6) Tryz.func157 rfl rfl rfl rfl rfl rfl ?_;rintro q7 w ⟨rfl,hB⟩
 refine K1 ?_
 refine ret_tmp Tryz.results98 rfl ?_
 exact ⟨hB,rfl⟩
theorem c48 (c:ByteArray)(w0:World)(hv:validD c.data.toList=true)(hc:c.size≤1024):Fc Tryz.prog 48 [.agg (leaf c).toArray] w0 (fun v _=>v=.tuple #[.string (bs (cqt c)),.int .i64 0]):=by
 refine ret_enter Tryz.func48 rfl Tryz.ntmps48 rfl ?_
 have cx:=Ctx.start w0
 refine K0 ?_
 refine Hc ?_;intro b1 w cx hb1 hw1
 refine K4 ?_
 refine K16 ?_
 refine s_fnI cx (c97 c _ hv hc) Tryz.func97 rfl rfl rfl rfl rfl rfl ?_;intro q6 w cx hw6 hp6
 subst hp6
 refine K5 ?_
 refine K4q ?_
 refine K16 ?_
 refine s_fn cx (c98 c _ hc) Tryz.func98 rfl rfl rfl rfl rfl rfl ?_;intro q11 w cx hw11 hp11
 subst hp11
 refine K2 ?_
 refine ret_tmp2 Tryz.results48 rfl rfl ?_
 exact Ez2
theorem fa261_0:FA Tryz.prog 261 0 0:=fa_of (tt:=9) Tryz.underlying261 rfl sz9 rfl
theorem fa261_1:FA Tryz.prog 261 1 1:=fa_of (tt:=3) Tryz.underlying261 rfl sz3 rfl
theorem fa261_2:FA Tryz.prog 261 2 2:=fa_of (tt:=4) Tryz.underlying261 rfl sz4 rfl
theorem c248 (s:List UInt8)(p b:Nat)(w0:World)(hr:RowAt w0 b 0 [.string (bs s),.int .i64 p,.bool false])(hp:p<s.length):Fc Tryz.prog 248 [.pointer (some ⟨b,0,none⟩)] w0 (fun v _=>v=.int .u8 ((s.getD p 0).toNat:Nat)):=by
 refine ret_enter Tryz.func248 rfl Tryz.ntmps248 rfl ?_
 have cx:=Ctx.start w0
 refine K4 ?_
 refine K1l ?_
 refine K2r ?_
 refine K9k ?_
 refine Kec ?_
 refine Kj ?_
 refine Kc9 ?_
 refine Ked ?_
 refine K6r ?_
 refine Kee ?_
 refine K3o ?_
 refine K9l ?_
 refine K30 ?_
 refine q_nil ?_;rintro w ⟨cx,hwQ1⟩
 refine cSp rfl (fun hc18=>?_) (fun hc18=>?_)
 ·
  exfalso
  rcases hc18 with h | h
  · cases h
  · omega
 refine K2d ?_
 refine K2r ?_
 refine K4f ?_
 refine Kef ?_
 refine K2r ?_
 refine K4g ?_
 refine Keg ?_
 refine K2l ?_
 refine K2x ?_
 refine q_nil ?_;rintro w ⟨cx,hwQ3⟩
 refine SS ?_
 refine ret_tmp Tryz.results248 rfl ?_
 exact Ez2
theorem c320 (wb w0:World)(b p:Nat)(s a:List UInt8)(L:List (Nat×Obj))(R:List Row)(cx0:Cxr wb w0 ((b,.cells ([.string (bs s),.int .i64 p,.bool false]:List Value).toArray 261)::L) R)(hp:p+a.length≤s.length)(hs:s.length≤1073741824)(ha:(s.take (p+a.length)).drop p=a):Ret Tryz.prog 320 [.pointer (some ⟨b,0,none⟩),.string (bs a)] w0 (fun v w'=>v=.tuple #[]∧Cxr wb w' ((b,.cells ([.string (bs s),.int .i64 (p+a.length:Nat),.bool false]:List Value).toArray 261)::L) R):=by
 refine ret_enter Tryz.func320 rfl Tryz.ntmps320 rfl ?_
 have cx:=cx0
 refine K2d ?_
 refine K2r ?_
 refine K9k ?_
 refine Keh ?_
 refine Kj ?_
 refine K6r ?_
 refine K9m ?_
 refine K3o ?_
 refine K6s ?_
 refine q_gval rfl rfl rfl wF (fun hc w cx hwQ=>v_sub rfl gX gX p0q p0q) ?_
 refine K2z ?_
 refine K3o ?_
 refine K9l ?_
 refine K30 ?_
 refine Kj ?_
 refine K6r ?_
 refine K9m ?_
 refine K6s ?_
 refine K6s ?_
 refine K2z ?_
 refine K3o ?_
 refine q_gval rfl rfl rfl wF (fun hc w cx hwQ=>v_add rfl gX gX p0q p0q) ?_
 refine Kei ?_
 refine K2z ?_
 refine q_gval rfl rfl rfl wF (fun hc w cx hwQ=>v_neB rfl gX gX) ?_
 refine K30 ?_
 refine q_nil ?_;rintro w ⟨cx,hwQ0⟩
 refine cSp rfl (fun hc42=>?_) (fun hc42=>?_)
 ·
  exfalso
  rcases hc42 with (h | h) | h
  · cases h
  · omega
  · exact h (by rw [show Int.toNat ((p:Int)+(a.length:Int))=p+a.length by omega,Int.toNat_natCast];exact ha)
 refine K2 ?_
 refine Kca ?_
 refine K2 ?_
 refine K3p ?_
 refine H1j ?_;intro w cx hwS2
 refine SS ?_
 refine ret_no (.inr rfl) Tryz.results320 ?_
 exact ⟨rfl,cx⟩
theorem c321s (wb w0:World)(b p:Nat)(s:List UInt8)(c x:UInt8)(L:List (Nat×Obj))(R:List Row)(cx0:Cxr wb w0 ((b,.cells ([.string (bs s),.int .i64 p,.bool false]:List Value).toArray 261)::L) R)(hp:p<s.length)(hs:s.length≤1073741824)(hx:s.getD p 0=x)(hc:shq c=x)(hx0:x≠0):Ret Tryz.prog 321 [.pointer (some ⟨b,0,none⟩)] w0 (fun v w'=>v=.int .u8 (c.toNat:Nat)∧Cxr wb w' ((b,.cells ([.string (bs s),.int .i64 (p+1:Nat),.bool false]:List Value).toArray 261)::L) R):=by
 refine Kbg ?_
 have cx:=cx0
 refine K5 ?_
 refine H1k ?_;intro q8 w cx hw8 hp8
 subst hp8
 refine K6 ?_
 refine w_loop (fun g f w1=>∃ i:Nat,g+i=128∧f 0=.pointer (some ⟨b,0,none⟩)∧f 9=.int .i64 i∧f 3=.int .u8 (x.toNat:Nat)∧(∀ j:Nat,j<i→shq (UInt8.ofNat j)≠x)∧Cxr wb w1 ((b,.cells ([.string (bs s),.int .i64 p,.bool false]:List Value).toArray 261)::L) R) (128) ?_ ?_
 ·
  exact ⟨0,by omega,rfl,rfl,congrArg (fun z:UInt8=>Value.int .u8 ((z.toNat:Nat):Int)) hx,fun j h=>by omega,cx⟩
 intro gk3 f w hJ
 obtain ⟨i,hgi,hs0,hs9,hs3,hall,cx⟩:=hJ
 refine K0 ?_
 refine Kbh ?_
 refine K0 ?_
 refine cSp rfl (fun hc10=>?_) (fun hc10=>?_)
 ·
  refine K3 ?_
  refine K1v ?_
  refine K3 ?_
  refine K4b ?_
  refine H1l ?_;intro q14 w cx hw14 hp14
  subst hp14
  refine K6l ?_
  refine K1e ?_
  refine K1 ?_
  refine cSp rfl (fun hc20=>?_) (fun hc20=>?_)
  ·
   have hT20:shq (UInt8.ofNat i)=x:=by
    have h:=hc20.1
    refine UInt8.toNat_inj.1 (Int.ofNat.inj ?_)
    exact h
   refine K2f ?_
   refine K6t ?_
   refine H1m ?_;intro w cx hwS6
   refine K2 ?_
   refine K4b ?_
   refine K1 ?_
   refine K7n ?_
   refine ⟨?_,cx⟩
   exact congrArg (fun z:Nat=>Value.int .u8 (z:Int)) (shq_inj (by omega) (hT20.trans hc.symm) (by rw [hc];exact hx0))
  have hN20:shq (UInt8.ofNat i)≠x:=by
   intro e
   rcases hc20 with h | h
   · exact h (by rw [← e];rfl)
   · exact hx0 (UInt8.toNat_inj.1 (show x.toNat=0 by omega))
  refine K0 ?_
  refine Kc6 ?_
  refine ⟨gk3-1,_,by omega,rfl,i+1,by omega,hs0,rfl,hs3,fun j hj=>?_,cx⟩
  rcases Nat.lt_or_ge j i with h1 | h1
  · exact hall j h1
  · obtain rfl:j=i:=by omega
    intro e
    subst e
    exact hN20 rfl
 have hlt:=((shq_f c).1 (by rw [hc];exact hx0)).1
 exfalso
 exact hall c.toNat (by omega) (by rw [UInt8.ofNat_toNat];exact hc)
theorem c321u (wb w0:World)(b p:Nat)(s z:List UInt8)(c:UInt8)(L:List (Nat×Obj))(R:List Row)(cx0:Cxr wb w0 ((b,.cells ([.string (bs s),.int .i64 p,.bool false]:List Value).toArray 261)::L) R)(hs:s.length≤1073741824)(hc:c.toNat<32)(hd:s.drop p=[117,48,48,hexd (c.toNat / 16),hexd (c.toNat%16)]++z):Ret Tryz.prog 321 [.pointer (some ⟨b,0,none⟩)] w0 (fun v w'=>v=.int .u8 (c.toNat:Nat)∧Cxr wb w' ((b,.cells ([.string (bs s),.int .i64 (p+5:Nat),.bool false]:List Value).toArray 261)::L) R):=by
 have hL:=drop_len s _ p hd (by simp)
 simp only [List.length_append,List.length_cons,List.length_nil] at hL
 have hx:s.getD p 0=117:=by
  have:=getD_drop s p 0
  rw [hd] at this
  exact this
 refine Kbg ?_
 have cx:=cx0
 refine K5 ?_
 refine H1k ?_;intro q8 w cx hw8 hp8
 subst hp8
 refine K6 ?_
 refine w_loop (fun g f w1=>∃ i:Nat,g+i=128∧f 0=.pointer (some ⟨b,0,none⟩)∧f 9=.int .i64 i∧f 3=.int .u8 ((117:Nat):Int)∧Cxr wb w1 ((b,.cells ([.string (bs s),.int .i64 p,.bool false]:List Value).toArray 261)::L) R) (128) ?_ ?_
 ·
  exact ⟨0,by omega,rfl,rfl,congrArg (fun z:UInt8=>Value.int .u8 ((z.toNat:Nat):Int)) hx,cx⟩
 intro gk3 f w hJ
 obtain ⟨i,hgi,hs0,hs9,hs3,cx⟩:=hJ
 refine K0 ?_
 refine Kbh ?_
 refine K0 ?_
 refine cSp rfl (fun hc10=>?_) (fun hc10=>?_)
 ·
  refine K3 ?_
  refine K1v ?_
  refine K3 ?_
  refine K4b ?_
  refine H1l ?_;intro q14 w cx hw14 hp14
  subst hp14
  refine K6l ?_
  refine K1e ?_
  refine K1 ?_
  refine c_split rfl (fun hc20=>?_) (fun hc20=>?_)
  ·
   try simp only [bsl] at hc20
   exfalso
   have h:shq (UInt8.ofNat i)=117:=UInt8.toNat_inj.1 (Int.ofNat.inj (show Int.ofNat (shq (UInt8.ofNat i)).toNat=Int.ofNat 117 from hc20.1))
   have h2:=(shq_f (UInt8.ofNat i)).1
   rw [h] at h2
   exact (h2 (by decide)).2 rfl
  exact Bz69
 refine K9 ?_
 refine s_call (c320 wb _ b p s [117,48,48] L R cx p1bq hs (take_drop_at s [117,48,48] _ p 3 hd rfl)) Tryz.func320 rfl rfl rfl rfl rfl rfl ?_;rintro v32 w ⟨hv32,cx⟩
 refine Ka ?_
 refine w_loop (fun g f w1=>∃ m:Nat,g+m=2∧f 0=.pointer (some ⟨b,0,none⟩)∧f 33=.int .i64 m∧f 5=.int .i64 (esV c.toNat m:Nat)∧Cxr wb w1 ((b,.cells ([.string (bs s),.int .i64 (p+3+m:Nat),.bool false]:List Value).toArray 261)::L) R) (2) ?_ ?_
 ·
  exact ⟨0,by omega,hs0,rfl,congrArg (fun z:Nat=>Value.int .i64 (z:Int)) (show 0=esV c.toNat 0 by unfold esV;simp;omega),cx⟩
 intro gk12 f w hJ
 obtain ⟨m,hgm,hs0,hs33,hs5,cx⟩:=hJ
 refine K0 ?_
 refine s_val rfl rfl (v_cmp rfl hs33 rfl rfl) ?_
 refine K0 ?_
 refine cSp rfl (fun hc34=>?_) (fun hc34=>?_)
 ·
  refine K7 ?_
  obtain ⟨d,hd16,hdd,hv31,hst⟩:=es_step (m:=m) (c:=c.toNat) (by omega) hc
  have hdx:s.getD (p+3+m) 0=hexd d:=by
   rw [Nat.add_assoc,getD_drop,hd,← hdd]
   have h2:m=0∨m=1:=by omega
   rcases h2 with rfl | rfl <;> rfl
  refine w_loop (fun g f w1=>∃ k:Nat,g+k=16∧k≤d∧f 0=.pointer (some ⟨b,0,none⟩)∧f 33=.int .i64 m∧f 5=.int .i64 (esV c.toNat m:Nat)∧f 6=.int .i64 k∧Cxr wb w1 ((b,.cells ([.string (bs s),.int .i64 (p+3+m:Nat),.bool false]:List Value).toArray 261)::L) R) (16) ?_ ?_
  ·
   exact ⟨0,by omega,by omega,hs0,hs33,hs5,rfl,cx⟩
  intro gk14 f w hJ
  obtain ⟨k,hgk,hkd0,hs0,hs33,hs5,hs6,cx⟩:=hJ
  refine K2d ?_
  refine K7c ?_
  refine K25 ?_
  refine Kj ?_
  refine q_gval rfl rfl rfl wT (fun hc w cx hwQ=>v_move rfl hs6) ?_
  refine Kej ?_
  refine K56 ?_
  refine q_gcall (v:=.int .u8 ((s.getD (p+3+m) 0).toNat:Nat)) rfl rfl rfl wT (fun hc=>runs_fn Tryz.func248 rfl rfl rfl (cons_eq p1fq rfl)) (fun hc w cx hwQ=>c248 s (p+3+m) b _ (cx.row 0 rfl) (by omega)) ?_
  refine K8w ?_
  refine K3h ?_
  refine q_nil ?_;rintro w ⟨cx,hwQ14⟩
  refine cSp rfl (fun hc43=>?_) (fun hc43=>?_)
  ·
   have hkd:k<d:=by
    rcases Nat.lt_or_ge k d with h | h
    · exact h
    · exfalso
      obtain rfl:k=d:=by omega
      apply hc43.2
      show ((hexS.getD (Int.toNat (k:Int)) 0).toNat:Int)=_
      rw [Int.toNat_natCast,hexS_get k hd16,hdx]
   refine K6f ?_
   exact ⟨gk14-1,_,by omega,rfl,k+1,by omega,by omega,hs0,hs33,hs5,rfl,cx⟩
  have hkd:k=d:=by
   rcases hc43 with h | h
   · omega
   · have h1:((hexS.getD (Int.toNat (k:Int)) 0).toNat:Int)=((s.getD (p+3+m) 0).toNat:Int):=h
     rw [Int.toNat_natCast,hexS_get k (by omega),hdx] at h1
     exact hexd_inj (by omega) hd16 (UInt8.toNat_inj.1 (Int.ofNat.inj h1))
  subst hkd
  refine K38 ?_
  refine K0 ?_
  refine cSp rfl (fun hc47=>?_) (fun hc47=>?_)
  ·
   exfalso
   omega
  refine Kf ?_
  refine SS ?_
  refine Kc ?_
  refine K1p ?_
  refine SS ?_
  refine K6t ?_
  refine s_store1 (v:=.int .i64 ((p+3+m+1:Nat):Int)) cx 0 rfl rfl rfl rfl rfl rfl rfl rfl sz3 ?_;intro w cx hwS20
  refine K0 ?_
  refine s_val rfl rfl (v_add rfl hs33 rfl (by omega) (by omega)) ?_
  refine K0 ?_
  exact ⟨gk12-1,_,by omega,rfl,m+1,by omega,hs0,rfl,congrArg (fun z:Nat=>Value.int .i64 (z:Int)) hst,cx⟩
 refine K1 ?_
 obtain rfl:m=2:=by omega
 have he2:esV c.toNat 2=c.toNat:=by simp [esV]
 refine Kh ?_
 refine s_val rfl rfl ((show (execOp _ _).run Tryz.prog _=.ok (.value (.int .u8 ((esV c.toNat 2:Nat):Int))) _ from (v_conv rfl rfl Tryz.underlying3 Tryz.underlying5).trans p1cq)) ?_
 refine K1 ?_
 refine K7n ?_
 refine ⟨?_,cx⟩
 exact congrArg (fun z:Nat=>Value.int .u8 (z:Int)) he2
theorem c321 (wb w0:World)(b p:Nat)(s t z:List UInt8)(c:UInt8)(L:List (Nat×Obj))(R:List Row)(cx0:Cxr wb w0 ((b,.cells ([.string (bs s),.int .i64 p,.bool false]:List Value).toArray 261)::L) R)(hs:s.length≤1073741824)(hc:sgq c=92::t)(hd:s.drop p=t++z):Ret Tryz.prog 321 [.pointer (some ⟨b,0,none⟩)] w0 (fun v w'=>v=.int .u8 (c.toNat:Nat)∧Cxr wb w' ((b,.cells ([.string (bs s),.int .i64 (p+t.length:Nat),.bool false]:List Value).toArray 261)::L) R):=by
 rcases sgq_esc hc with ⟨h1,rfl⟩ | ⟨h1,rfl⟩
 · have hL:=drop_len s _ p hd (by simp)
   simp only [List.length_append,List.length_cons,List.length_nil] at hL
   have hx:s.getD p 0=shq c:=by
    have:=getD_drop s p 0
    rw [hd] at this
    exact this
   exact c321s wb w0 b p s c (shq c) L R cx0 (by omega) hs hx rfl h1
 · exact c321u wb w0 b p s z c L R cx0 hs h1 hd
theorem c250 (wb w0:World)(b p:Nat)(s k y:List UInt8)(L:List (Nat×Obj))(R:List Row)(cx0:Cxr wb w0 ((b,.cells ([.string (bs s),.int .i64 p,.bool false]:List Value).toArray 261)::L) R)(hd:s.drop p=34::(qtq k++34::y))(hs:s.length≤1073741824)(hk:k.length≤1073741824):Ret Tryz.prog 250 [.pointer (some ⟨b,0,none⟩)] w0 (fun v w'=>v=.string (bs k)∧Cxr wb w' ((b,.cells ([.string (bs s),.int .i64 (p+(qtq k).length+2:Nat),.bool false]:List Value).toArray 261)::L) R):=by
 have hL:=drop_len s _ p hd (by simp)
 simp only [List.length_append,List.length_cons,List.length_nil] at hL
 refine ret_enter Tryz.func250 rfl Tryz.ntmps250 rfl ?_
 have cx:=cx0
 refine K5 ?_
 refine s_call (c320 wb _ b p s [34] L R cx p1bq hs (take_drop_at s [34] _ p 1 hd rfl)) Tryz.func320 rfl rfl rfl rfl rfl rfl ?_;rintro v6 w ⟨hv6,cx⟩
 refine K5 ?_
 refine w_loop (fun g f w1=>∃ (i q:Nat) (v:Value),g+i=k.length∧q=p+1+(qtq (k.take i)).length∧f 0=.pointer (some ⟨b,0,none⟩)∧f 3=v∧Cxr wb w1 ((b,.cells ([.string (bs s),.int .i64 (q:Nat),.bool false]:List Value).toArray 261)::L) (⟨5,1,v,i,(k.take i).map bv⟩::R)) (k.length) ?_ ?_
 ·
  exact ⟨0,p+1,_,by omega,rfl,rfl,rfl,cx.nilRow 5 1⟩
 intro gk3 f w hJ
 obtain ⟨i,q,v,hgi,hp,hs0,hs3,cx⟩:=hJ
 have hql:=qtq_len k
 have hsp:s.drop q=rstC k y i:=by
  have h1:=qtq_split k y i
  rw [hp,show p+1+(qtq (k.take i)).length=p+(1+(qtq (k.take i)).length) by omega,← List.drop_drop,hd,h1]
  exact Ez9
 have hR:=rstC_pos k y i
 have hsL:=drop_len s _ q hsp hR
 obtain ⟨x,hx⟩:∃ x,s.getD (Int.toNat (q:Int)) 0=x:=⟨_,rfl⟩
 have hx':=hx
 rw [Int.toNat_natCast] at hx'
 have hx2:=getD_drop s q 0
 rw [hsp,Nat.add_zero,hx'] at hx2
 have hcase:=rstC_case k y i (by omega)
 rw [← hx2] at hcase
 refine K9 ?_
 refine SS ?_
 refine K1q ?_
 refine Kek ?_
 refine K0 ?_
 refine K46 ?_
 refine K6a ?_
 refine K39 ?_
 refine K4g ?_
 refine K9n ?_
 refine K39 ?_
 refine K4f ?_
 refine K7o ?_
 refine Kbi ?_
 refine K25 ?_
 refine q_nil ?_;rintro w ⟨cx,hwQ4⟩
 refine cSp rfl (fun hc21=>?_) (fun hc21=>?_)
 ·
  exfalso
  omega
 refine K2d ?_
 refine K39 ?_
 refine K4f ?_
 refine K7o ?_
 refine K39 ?_
 refine K4g ?_
 refine K9n ?_
 refine q_val rfl rfl (fun w cx hwQ=>(show (execOp _ _).run _ _=.ok (.value (.int .u8 ((x.toNat:Nat):Int))) _ from by rw [← hx];exact v_idxB (m:=(q:Int)) rfl rfl rfl Tryz.underlying9 (by omega) (by omega))) ?_
 refine K2x ?_
 refine q_nil ?_;rintro w ⟨cx,hwQ7⟩
 refine K2f ?_
 refine K6t ?_
 refine H1n ?_;intro w cx hwS8
 refine Ka ?_
 refine cSp rfl (fun hc46=>?_) (fun hc46=>?_)
 ·
  have hi:i=k.length:=by
   rcases hcase with ⟨hi,hb4⟩ | ⟨c,hki,hsg,hbc,hb3,hb9⟩ | ⟨c,t,hki,hsg,htl,hb9⟩
   · exact hi
   · exfalso
     rw [hbc] at hc46
     omega
   · exfalso
     omega
  refine K36 ?_
  refine K6g ?_
  refine K9o ?_
  refine ⟨?_,?_⟩
  · exact congrArg (fun l=>Value.string (bs l)) (show k.take i=k by rw [hi];exact List.take_length)
  · have e:k.take i=k:=by rw [hi];exact List.take_length
    rw [e] at hp
    have e2:q+1=p+(qtq k).length+2:=by omega
    have cx2:=cx.dropR 1
    rw [← e2]
    exact cx2
 refine K3 ?_
 refine cSp rfl (fun hc50=>?_) (fun hc50=>?_)
 ·
  obtain ⟨c,t,hki,hsg,htl⟩:∃ c t,k[i]?=some c∧sgq c=92::t∧0<t.length:=by
   rcases hcase with ⟨hi,hb4⟩ | ⟨c,hki,hsg,hbc,hb3,hb9⟩ | ⟨c,t,hki,hsg,htl,hb9⟩
   · exfalso
     omega
   · exfalso
     rw [hbc] at hc50
     omega
   · exact ⟨c,t,hki,hsg,htl⟩
  have hts:=sgq_len c
  rw [hsg] at hts
  simp only [List.length_cons] at hts
  have hik:=(List.getElem?_eq_some_iff.1 hki).1
  refine K1b ?_
  refine Kb ?_
  refine s_call (c321 wb _ b (q+1) s t (rstC k y (i+1)) c L _ cx hs hsg (by rw [← List.drop_drop,hsp,rstC_step k y i c hki,hsg];rfl)) Tryz.func321 rfl rfl rfl rfl rfl rfl ?_;rintro v54 w ⟨hv54,cx⟩;subst hv54
  refine He ?_;intro b55 w cx hb55 hw55
  refine Hf ?_;intro v56 w cx hgr56
  replace cx:=cx.drop 1
  refine K0 ?_
  have hik:=(List.getElem?_eq_some_iff.1 hki).1
  have hq2:=congrArg List.length (qtqt_succ k i c hki)
  simp only [List.length_append,hsg,List.length_cons,List.length_nil] at hq2
  refine ⟨gk3-1,_,by omega,rfl,i+1,q+1+t.length,_,by omega,by omega,hs0,rfl,cx.row_eq (by omega) ?_⟩
  exact take_bv hki
 obtain ⟨c,hki,hsg,hbc⟩:∃ c,k[i]?=some c∧sgq c=[c]∧x=c:=by
  exact Bz123
 have hik:=(List.getElem?_eq_some_iff.1 hki).1
 refine K1b ?_
 refine SS ?_
 refine He ?_;intro b44 w cx hb44 hw44
 refine Hf ?_;intro v45 w cx hgr45
 replace cx:=cx.drop 1
 refine K0 ?_
 have hik:=(List.getElem?_eq_some_iff.1 hki).1
 have hq2:=congrArg List.length (qtqt_succ k i c hki)
 simp only [List.length_append,hsg,List.length_cons,List.length_nil] at hq2
 refine ⟨gk3-1,_,by omega,rfl,i+1,q+1,_,by omega,by omega,hs0,rfl,cx.row_eq (by omega) ?_⟩
 subst hbc
 exact take_bv hki
theorem c173 (wb w0:World)(b p:Nat)(s k y:List UInt8)(L:List (Nat×Obj))(R:List Row)(cx0:Cxr wb w0 ((b,.cells ([.string (bs s),.int .i64 p,.bool false]:List Value).toArray 261)::L) R)(hd:s.drop p=34::(qtq k++34::y))(hs:s.length≤1073741824)(hk:k.length≤1073741824):Ret Tryz.prog 173 [.pointer (some ⟨b,0,none⟩),.int .i64 1] w0 (fun v w'=>v=.agg (leaf (bs k)).toArray∧Cxr wb w' ((b,.cells ([.string (bs s),.int .i64 (p+(qtq k).length+2:Nat),.bool false]:List Value).toArray 261)::L) R):=by
 have hL:=drop_len s _ p hd (by simp)
 simp only [List.length_append,List.length_cons,List.length_nil] at hL
 have hx:((s.getD p 0).toNat:Int)=34:=by
  have:=getD_drop s p 0
  rw [hd,Nat.add_zero] at this
  rw [this];rfl
 refine Kbj ?_
 have cx:=cx0
 refine K0 ?_
 refine Hx ?_;intro b4 w cx hb4 hw4
 refine K5 ?_
 refine K3u ?_
 refine s_fn cx (c248 s p b _ (cx.row 1 rfl) (by omega)) Tryz.func248 rfl rfl rfl rfl rfl rfl ?_;intro q16 w cx hw16 hp16
 subst hp16
 refine K5 ?_
 refine cSp rfl (fun hc17=>?_) (fun hc17=>?_)
 ·
  exfalso
  omega
 refine K3 ?_
 refine cSp rfl (fun hc22=>?_) (fun hc22=>?_)
 ·
  exfalso
  omega
 refine K3 ?_
 refine cSp rfl (fun hc77=>?_) (fun hc77=>?_)
 ·
  exfalso
  omega
 refine K3 ?_
 refine cSp rfl (fun hc82=>?_) (fun hc82=>?_)
 ·
  refine K1 ?_
  replace cx:=cx.swapL
  refine s_call (c250 wb _ b p s k y _ R cx hd hs hk) Tryz.func250 rfl rfl rfl rfl rfl rfl ?_;rintro v85 w ⟨hv85,cx⟩;subst hv85
  replace cx:=cx.swapL
  refine s_val rfl rfl (v_build (qs:=[(0,.int .i64 4),(4,.string (bs k))]) (bd83 (bs k)) rfl rfl) ?_
  refine Hy ?_;intro w cx hwS17
  refine K2s ?_
  exact ⟨rfl,cx.drop 1⟩
 exfalso
 omega
theorem bd261 (s:ByteArray)(w:World):(Instr.build 261 ([(0,.string s)]:List (Nat×Value)).toArray).run Tryz.prog w=.ok (.agg #[.string s,.int .i64 0,.bool false]) w:=by
 go_simp
 try rfl
theorem c107 (c:ByteArray)(w0:World)(hv:validD c.data.toList=true)(hsz:c.size≤1024):Fc Tryz.prog 107 [.string (bs (cqt c))] w0 (fun v _=>v=.tuple #[.agg (leaf c).toArray,.int .i64 0]):=by
 have hl:=cqt_len hsz
 have hcl:c.data.toList.length=c.size:=by simp
 have hcv:validD (bs (cqt c)).data.toList=true:=valid_cqt c hv
 refine ret_enter Tryz.func107 rfl Tryz.ntmps107 rfl ?_
 have cx:=Ctx.start w0
 refine K0 ?_
 refine Hx ?_;intro b2 w cx hb2 hw2
 refine K7 ?_
 refine cSp rfl (fun hc8=>?_) (fun hc8=>?_)
 ·
  exfalso
  omega
 refine K3 ?_
 refine s_fnB cx (c92 (bs (cqt c)) _ p14q) Tryz.func92 rfl rfl rfl rfl rfl rfl ?_;intro q11 w cx hw11 hp11
 obtain rfl:q11=true:=hp11.trans hcv
 refine K0 ?_
 refine K1a ?_
 refine s_val rfl rfl (v_build (qs:=[(0,.string (bs (cqt c)))]) (bd261 (bs (cqt c))) rfl rfl) ?_
 refine Hc ?_;intro b16 w cx hb16 hw16
 refine K3 ?_
 refine s_call (c173 w0 _ b16 0 (cqt c) c.data.toList [] _ [] cx (by unfold cqt;rfl) (by omega) (by omega)) Tryz.func173 rfl rfl rfl rfl rfl rfl ?_;rintro v18 w ⟨hv18,cx⟩;subst hv18
 refine Hx ?_;intro b5 w cx hb5 hw5
 refine Hy ?_;intro w cx hwS6
 refine K4 ?_
 refine K1q ?_
 refine Kbk ?_
 refine K0 ?_
 refine K7p ?_
 refine s_gval rfl rfl rfl wF (fun hc=>v_fa fa261_1 rfl gX) ?_
 refine Kel ?_
 refine K3 ?_
 refine K5f ?_
 refine s_gfnI cx rfl rfl rfl wF (fun hc=>c97 c _ hv hsz) Tryz.func97 rfl rfl rfl (fun hc=>(cons_eq gX rfl)) ?_;intro q34 w cx hw34 hp34
 refine K1 ?_
 refine K5f ?_
 refine s_gfn cx rfl rfl rfl wF (fun hc=>c98 c _ hsz) Tryz.func98 rfl rfl rfl (fun hc=>(cons_eq gX rfl)) ?_;intro q39 w cx hw39 hp39
 refine SS ?_
 refine s_gval rfl rfl rfl wF (fun hc=>v_neB (s:=cqt c) (u:=cqt c) rfl ((gve hc rfl).trans (hp39 hc)) (gve hc rfl)) ?_
 refine K0 ?_
 refine cSp rfl (fun hc42=>?_) (fun hc42=>?_)
 ·
  exfalso
  have hpos:((0+(qtq c.data.toList).length+2:Nat):Int)=((cqt c).length:Nat):=by
   unfold cqt
   exact Bz60
  have h34:=hp34 (by rw [hpos];simp)
  rcases hc42 with ((h | h) | h) | h
  · cases h
  · exact h hpos
  · exact h h34
  · exact h trivial
 refine K1 ?_
 refine K16 ?_
 refine s_storeAll cx 2 rfl rfl rfl rfl rfl rfl sz83 rfl rfl ?_;intro w cx hwS9
 refine K1 ?_
 refine Kbl ?_
 exact Ez2
theorem hexd_ne0 {n:Nat}(h:n<16):(hexd n).toNat≠0:=by
 have:∀ a:Fin 16,(hexd a.val).toNat≠0:=by decide
 exact this ⟨n,h⟩
def nxF (s:List UInt8)(p:Nat)(d:Bool):Nat:=if d then 0 else if p<s.length then (s.getD p 0).toNat else 0
theorem nxF_lt (s:List UInt8)(p:Nat)(d:Bool):nxF s p d<256:=by
 unfold nxF
 split
 · omega
 · split
   · exact (s.getD p 0).toNat_lt
   · omega
theorem nxF_pos {s:List UInt8}{p:Nat}{d:Bool}(h:nxF s p d≠0):d=false∧p<s.length:=by
 unfold nxF at h
 split at h
 · exact absurd rfl h
 · rename_i hd
   split at h
   · exact ⟨by simpa using hd,by assumption⟩
   · exact absurd rfl h
theorem c248w (s:List UInt8)(p b:Nat)(d:Bool)(w0:World)(hr:RowAt w0 b 0 [.string (bs s),.int .i64 p,.bool d])(hp:p≤s.length):Fc Tryz.prog 248 [.pointer (some ⟨b,0,none⟩)] w0 (fun v _=>v=.int .u8 (nxF s p d:Nat)):=by
 refine ret_enter Tryz.func248 rfl Tryz.ntmps248 rfl ?_
 have cx:=Ctx.start w0
 refine K4 ?_
 refine K1l ?_
 refine K2r ?_
 refine K9k ?_
 refine Kec ?_
 refine Kj ?_
 refine Kc9 ?_
 refine Ked ?_
 refine K6r ?_
 refine Kee ?_
 refine K3o ?_
 refine K9l ?_
 refine K30 ?_
 refine q_nil ?_;rintro w ⟨cx,hwQ1⟩
 refine cSp rfl (fun hc18=>?_) (fun hc18=>?_)
 ·
  refine K3 ?_
  refine Kg7 ?_
  unfold nxF
  rcases hc18 with h | h
  · rw [if_pos h]
  · split
    · rfl
    · rw [if_neg (by omega)]
 refine K2d ?_
 refine K2r ?_
 refine K4f ?_
 refine Kef ?_
 refine K2r ?_
 refine K4g ?_
 refine Keg ?_
 refine K2l ?_
 refine K2x ?_
 refine q_nil ?_;rintro w ⟨cx,hwQ3⟩
 refine SS ?_
 refine Kg7 ?_
 unfold nxF
 rw [hc18.1,if_neg (by decide),if_pos (by omega)]
 rfl
theorem c320w (wb w0:World)(b p:Nat)(d:Bool)(s:List UInt8)(L:List (Nat×Obj))(R:List Row)(cx0:Cxr wb w0 ((b,.cells ([.string (bs s),.int .i64 p,.bool d]:List Value).toArray 261)::L) R)(hp:p≤s.length)(hs:s.length≤1073741824)(a:List UInt8)(ha:a.length≤1000000):Ret Tryz.prog 320 [.pointer (some ⟨b,0,none⟩),.string (bs a)] w0 (fun v w'=>v=.tuple #[]∧∃ (q:Nat) (e:Bool),Cxr wb w' ((b,.cells ([.string (bs s),.int .i64 q,.bool e]:List Value).toArray 261)::L) R∧p≤q∧q≤s.length∧(e=true∨q=p+a.length)∧(d=true→e=true)):=by
 refine ret_enter Tryz.func320 rfl Tryz.ntmps320 rfl ?_
 have cx:=cx0
 refine K2d ?_
 refine K2r ?_
 refine K9k ?_
 refine Keh ?_
 refine Kj ?_
 refine K6r ?_
 refine K9m ?_
 refine K3o ?_
 refine K6s ?_
 refine q_gval rfl rfl rfl wF (fun hc w cx hwQ=>v_sub rfl gX gX p0q p0q) ?_
 refine K2z ?_
 refine K3o ?_
 refine K9l ?_
 refine K30 ?_
 refine Kj ?_
 refine K6r ?_
 refine K9m ?_
 refine K6s ?_
 refine K6s ?_
 refine K2z ?_
 refine K3o ?_
 refine q_gval rfl rfl rfl wF (fun hc w cx hwQ=>v_add rfl gX gX p0q p0q) ?_
 refine Kei ?_
 refine K2z ?_
 refine q_gval rfl rfl rfl wF (fun hc w cx hwQ=>v_neB rfl gX gX) ?_
 refine K30 ?_
 refine q_nil ?_;rintro w ⟨cx,hwQ0⟩
 refine cSp rfl (fun hc42=>?_) (fun hc42=>?_)
 ·
  refine K2 ?_
  refine K1q ?_
  refine H5 ?_;intro w cx hwS1
  refine K0 ?_
  refine ret_no (.inl rfl) Tryz.results320 ?_
  exact ⟨rfl,p,true,cx,by omega,by omega,.inl rfl,fun _=>rfl⟩
 refine K2 ?_
 refine Kca ?_
 refine K2 ?_
 refine K3p ?_
 refine H1j ?_;intro w cx hwS2
 refine SS ?_
 refine ret_no (.inr rfl) Tryz.results320 ?_
 exact ⟨rfl,p+a.length,d,cx,by omega,by omega,.inr rfl,id⟩
theorem c321w (wb w0:World)(b p:Nat)(d:Bool)(s:List UInt8)(L:List (Nat×Obj))(R:List Row)(cx0:Cxr wb w0 ((b,.cells ([.string (bs s),.int .i64 p,.bool d]:List Value).toArray 261)::L) R)(hp:p≤s.length)(hs:s.length≤1073741824):Ret Tryz.prog 321 [.pointer (some ⟨b,0,none⟩)] w0 (fun v w'=>∃ n:Nat,v=.int .u8 n∧n<256∧∃ (q:Nat) (e:Bool),Cxr wb w' ((b,.cells ([.string (bs s),.int .i64 q,.bool e]:List Value).toArray 261)::L) R∧p≤q∧q≤s.length):=by
 refine Kbg ?_
 have cx:=cx0
 refine K5 ?_
 refine s_fn cx (c248w s p b d _ (cx.row 0 rfl) (by omega)) Tryz.func248 rfl rfl rfl rfl rfl rfl ?_;intro q8 w cx hw8 hp8
 subst hp8
 refine K6 ?_
 refine w_loop (fun g f w1=>∃ i:Nat,g+i=128∧f 0=.pointer (some ⟨b,0,none⟩)∧f 9=.int .i64 i∧f 3=.int .u8 (nxF s p d:Nat)∧Cxr wb w1 ((b,.cells ([.string (bs s),.int .i64 p,.bool d]:List Value).toArray 261)::L) R) (128) ?_ ?_
 ·
  exact Ezf
 intro gk3 f w hJ
 obtain ⟨i,hgi,hs0,hs9,hs3,cx⟩:=hJ
 refine K0 ?_
 refine Kbh ?_
 refine K0 ?_
 refine cSp rfl (fun hc10=>?_) (fun hc10=>?_)
 ·
  refine K3 ?_
  refine K1v ?_
  refine K3 ?_
  refine K4b ?_
  refine H1l ?_;intro q14 w cx hw14 hp14
  subst hp14
  refine K6l ?_
  refine K1e ?_
  refine K1 ?_
  refine c_split rfl (fun hc20=>?_) (fun hc20=>?_)
  ·
   try simp only [bsl] at hc20
   have hpl:=(nxF_pos (s:=s) (p:=p) (d:=d) (by omega)).2
   refine K2f ?_
   refine K6t ?_
   refine H1m ?_;intro w cx hwS6
   refine K2 ?_
   refine K4b ?_
   refine K1 ?_
   refine K7n ?_
   exact ⟨i,rfl,by omega,p+1,d,cx,by omega,by omega⟩
  exact Bz69
 refine K9 ?_
 refine s_call (c320w wb _ b p d s L R cx hp hs [117,48,48] (by decide)) Tryz.func320 rfl rfl rfl rfl rfl rfl ?_;rintro v32 w ⟨hv32,q32,e32,cx,hq32,hql32,hqa32,hqd32⟩
 refine Ka ?_
 refine w_loop (fun g f w1=>∃ (m n5 q:Nat) (e:Bool),g+m=2∧n5+1≤16^m∧f 0=.pointer (some ⟨b,0,none⟩)∧f 33=.int .i64 m∧f 5=.int .i64 n5∧p≤q∧q≤s.length∧Cxr wb w1 ((b,.cells ([.string (bs s),.int .i64 q,.bool e]:List Value).toArray 261)::L) R) (2) ?_ ?_
 ·
  exact ⟨0,0,q32,e32,by omega,by decide,hs0,rfl,rfl,hq32,hql32,cx⟩
 intro gk12 f w hJ
 obtain ⟨m,n5,q,e,hgm,hn5,hs0,hs33,hs5,hpq,hql,cx⟩:=hJ
 have hpw:16^m≤16^2:=Nat.pow_le_pow_right (by decide) (by omega)
 refine K0 ?_
 refine s_val rfl rfl (v_cmp rfl hs33 rfl rfl) ?_
 refine K0 ?_
 refine cSp rfl (fun hc34=>?_) (fun hc34=>?_)
 ·
  refine K7 ?_
  refine w_loop (fun g f w1=>∃ k:Nat,g+k=16∧f 0=.pointer (some ⟨b,0,none⟩)∧f 33=.int .i64 m∧f 5=.int .i64 n5∧f 6=.int .i64 k∧Cxr wb w1 ((b,.cells ([.string (bs s),.int .i64 q,.bool e]:List Value).toArray 261)::L) R) (16) ?_ ?_
  ·
   exact ⟨0,by omega,hs0,hs33,hs5,rfl,cx⟩
  intro gk14 f w hJ
  obtain ⟨k,hgk,hs0,hs33,hs5,hs6,cx⟩:=hJ
  refine K2d ?_
  refine K7c ?_
  refine K25 ?_
  refine Kj ?_
  refine q_gval rfl rfl rfl wT (fun hc w cx hwQ=>v_move rfl hs6) ?_
  refine Kej ?_
  refine K56 ?_
  refine q_gcall (v:=.int .u8 ((nxF s q e:Nat):Int)) rfl rfl rfl wT (fun hc=>runs_fn Tryz.func248 rfl rfl rfl (cons_eq p1fq rfl)) (fun hc w cx hwQ=>c248w s q b e w (cx.row 0 rfl) (by omega)) ?_
  refine K8w ?_
  refine K3h ?_
  refine q_nil ?_;rintro w ⟨cx,hwQ14⟩
  refine cSp rfl (fun hc43=>?_) (fun hc43=>?_)
  ·
   refine K6f ?_
   exact ⟨gk14-1,_,by omega,rfl,k+1,by omega,hs0,hs33,hs5,rfl,cx⟩
  have hgd:¬ (k:Int)=16→(nxF s q e:Nat)≠0:=by
   intro h16 h0
   have hk16:k<16:=by omega
   rcases hc43 with h | h
   · omega
   · have h1:((hexS.getD (Int.toNat (k:Int)) 0).toNat:Int)=((nxF s q e:Nat):Int):=h
     rw [Int.toNat_natCast,hexS_get k hk16,h0] at h1
     have h2:=hexd_ne0 hk16
     exact h2 (by omega)
  refine K38 ?_
  refine K0 ?_
  refine cSp rfl (fun hc47=>?_) (fun hc47=>?_)
  ·
   refine K2f ?_
   refine K1q ?_
   refine H5 ?_;intro w cx hwS17
   refine K4 ?_
   refine K7n ?_
   exact ⟨0,rfl,by omega,q,true,cx,by omega,by omega⟩
  have hpl:=(nxF_pos (hgd hc47)).2
  refine Kf ?_
  refine SS ?_
  refine Kc ?_
  refine K1p ?_
  refine SS ?_
  refine K6t ?_
  refine H1n ?_;intro w cx hwS20
  refine K0 ?_
  refine s_val rfl rfl (v_add rfl hs33 rfl (by omega) (by omega)) ?_
  refine K0 ?_
  refine ⟨gk12-1,_,by omega,rfl,m+1,16*n5+k,q+1,e,by omega,?_,hs0,rfl,?_,by omega,by omega,cx⟩
  · rw [Nat.pow_succ];omega
  · exact congrArg (Value.int .i64) (by omega:(16:Int)*(n5:Int)+(k:Int)=((16*n5+k:Nat):Int))
 refine K1 ?_
 have hm2:m=2:=by omega
 have hn256:n5<256:=by rw [hm2] at hn5;omega
 refine Kh ?_
 refine s_val rfl rfl ((show (execOp _ _).run Tryz.prog _=.ok (.value (.int .u8 ((n5:Nat):Int))) _ from (v_conv rfl rfl Tryz.underlying3 Tryz.underlying5).trans p1cq)) ?_
 refine K1 ?_
 refine K7n ?_
 exact ⟨n5,rfl,hn256,q,e,cx,by omega,by omega⟩
theorem c249 (wb w0:World)(b p:Nat)(d:Bool)(s a:List UInt8)(cs:List Value)(L:List (Nat×Obj))(R:List Row)(cx0:Cxr wb w0 ((b,.cells ([.string (bs s),.int .i64 p,.bool d]:List Value).toArray 261)::L) R)(hp:p≤s.length)(hs:s.length≤1073741824)(ha:a.length≤1000000)(hl:cs.length=13)(h1:cs.all (·.oneCell')=true):Ret Tryz.prog 249 [.pointer (some ⟨b,0,none⟩),.string (bs a),.agg cs.toArray] w0 (fun v w'=>v=.agg cs.toArray∧∃ (q:Nat) (e:Bool),Cxr wb w' ((b,.cells ([.string (bs s),.int .i64 q,.bool e]:List Value).toArray 261)::L) R∧p≤q∧q≤s.length∧(e=true∨q=p+a.length)):=by
 refine ret_enter Tryz.func249 rfl Tryz.ntmps249 rfl ?_
 have cx:=cx0
 refine K0 ?_
 refine Hc ?_;intro b5 w cx hb5 hw5
 refine Hx ?_;intro b6 w cx hb6 hw6
 refine K3 ?_
 replace cx:=(cx.swap3)
 refine s_call (c320w wb _ b p d s _ R cx hp hs a ha) Tryz.func320 rfl rfl rfl rfl rfl rfl ?_;rintro v9 w ⟨hv9,q9,e9,cx,hq9,hql9,hqa9,hqd9⟩
 replace cx:=cx.swap3b
 refine K1 ?_
 refine s_val rfl rfl (v_load rfl rfl Tryz.underlying83 rfl sz83 (cx.row 1 rfl) hl) ?_
 refine s_storeAll cx 0 rfl rfl rfl rfl rfl rfl (sz83.trans (by rw [hl])) hl.symm h1 ?_;intro w cx hwS2
 refine K0 ?_
 refine ret_cell Tryz.results249 rfl (cx.at 0 rfl) Tryz.underlying83 rfl (sz83.trans (by rw [hl])) ?_
 exact ⟨rfl,q9,e9,cx.drop 2,hq9,hql9,hqa9⟩
theorem c250w (wb w0:World)(b p:Nat)(d:Bool)(s:List UInt8)(L:List (Nat×Obj))(R:List Row)(cx0:Cxr wb w0 ((b,.cells ([.string (bs s),.int .i64 p,.bool d]:List Value).toArray 261)::L) R)(hp:p≤s.length)(hs:s.length≤1073741824):Ret Tryz.prog 250 [.pointer (some ⟨b,0,none⟩)] w0 (fun v w'=>∃ t:List UInt8,v=.string (bs t)∧∃ (q:Nat) (e:Bool),Cxr wb w' ((b,.cells ([.string (bs s),.int .i64 q,.bool e]:List Value).toArray 261)::L) R∧p≤q∧q≤s.length∧t.length+p≤q∧(e=true∨t.length+p+2≤q)):=by
 refine ret_enter Tryz.func250 rfl Tryz.ntmps250 rfl ?_
 have cx:=cx0
 refine K5 ?_
 refine s_call (c320w wb _ b p d s L R cx hp hs [34] (by decide)) Tryz.func320 rfl rfl rfl rfl rfl rfl ?_;rintro v6 w ⟨hv6,q6,e6,cx,hq6,hql6,hqa6,hqd6⟩
 have hst6:(e6=true∧([]:List UInt8)=[])∨([]:List UInt8).length+p+1≤q6:=hqa6.imp (fun h=>⟨h,rfl⟩) fun h=>by simp only [List.length_cons,List.length_nil] at h ⊢;omega
 refine K5 ?_
 refine w_loop (fun g f w1=>∃ (t:List UInt8) (q:Nat) (e:Bool) (v3:Value),g+q=s.length∧((e=true∧t=[])∨t.length+p+1≤q)∧p≤q∧f 0=.pointer (some ⟨b,0,none⟩)∧f 3=v3∧Cxr wb w1 ((b,.cells ([.string (bs s),.int .i64 q,.bool e]:List Value).toArray 261)::L) (⟨5,1,v3,t.length,t.map bv⟩::R)) (s.length-q6) ?_ ?_
 ·
  exact ⟨[],q6,e6,_,by omega,hst6,hq6,rfl,rfl,cx.nilRow 5 1⟩
 intro gk3 f w hJ
 obtain ⟨t,q,e,v3,hgq,htq0,hpq,hs0,hs3,cx⟩:=hJ
 refine K9 ?_
 refine SS ?_
 refine K1q ?_
 refine Kek ?_
 refine K0 ?_
 refine cSp rfl (fun hc11=>?_) (fun hc11=>?_)
 ·
  have he:e=false:=by simpa using hc11
  have htq:t.length+p+1≤q:=by
   rcases htq0 with ⟨h,_⟩ | h
   · rw [he] at h;cases h
   · exact h
  refine K6a ?_
  refine K39 ?_
  refine K4g ?_
  refine K9n ?_
  refine K39 ?_
  refine K4f ?_
  refine K7o ?_
  refine Kbi ?_
  refine K25 ?_
  refine q_nil ?_;rintro w ⟨cx,hwQ4⟩
  refine cSp rfl (fun hc21=>?_) (fun hc21=>?_)
  ·
   refine K2f ?_
   refine K1q ?_
   refine H5 ?_;intro w cx hwS5
   refine K4 ?_
   refine K9o ?_
   exact ⟨[],rfl,q,true,cx.dropR 1,by omega,by omega,by simp;omega,.inl rfl⟩
  refine K2d ?_
  refine K39 ?_
  refine K4f ?_
  refine K7o ?_
  refine K39 ?_
  refine K4g ?_
  refine K9n ?_
  refine K2l ?_
  refine K2x ?_
  refine q_nil ?_;rintro w ⟨cx,hwQ7⟩
  refine K2f ?_
  refine K6t ?_
  refine H1n ?_;intro w cx hwS8
  refine Ka ?_
  refine cSp rfl (fun hc46=>?_) (fun hc46=>?_)
  ·
   refine K36 ?_
   refine K6g ?_
   refine K9o ?_
   exact ⟨t,rfl,q+1,e,cx.dropR 1,by omega,by omega,by omega,.inr (by omega)⟩
  refine K3 ?_
  refine cSp rfl (fun hc50=>?_) (fun hc50=>?_)
  ·
   refine K1b ?_
   refine Kb ?_
   refine s_call (c321w wb _ b (q+1) e s L _ cx (by omega) hs) Tryz.func321 rfl rfl rfl rfl rfl rfl ?_;rintro v54 w ⟨n54,rfl,hn54,q54,e54,cx,hq54,hql54⟩
   obtain ⟨x54,hx54⟩:∃ x:UInt8,n54=x.toNat:=⟨UInt8.ofNat n54,by simp [UInt8.toNat_ofNat'];omega⟩
   subst hx54
   refine He ?_;intro b55 w cx hb55 hw55
   refine Hf ?_;intro v56 w cx hgr56
   replace cx:=cx.drop 1
   refine K0 ?_
   refine ⟨s.length-q54,_,by omega,rfl,t++[x54],q54,e54,_,by omega,.inr ?_,by omega,hs0,rfl,cx.row_eq (by simp) paq⟩
   exact Bz60
  refine K1b ?_
  refine SS ?_
  refine He ?_;intro b44 w cx hb44 hw44
  refine Hf ?_;intro v45 w cx hgr45
  replace cx:=cx.drop 1
  refine K0 ?_
  refine ⟨s.length-(q+1),_,by omega,rfl,t++[s.getD (Int.toNat (q:Int)) 0],(q+1),e,_,by omega,.inr ?_,by omega,hs0,rfl,cx.row_eq (by simp) paq⟩
  exact Bz60
 refine K4 ?_
 refine K9o ?_
 exact ⟨[],rfl,q,e,cx.dropR 1,by omega,by omega,by simp;omega,.inl hc11⟩
theorem fa339_0:FA Tryz.prog 339 0 0:=fa_of (tt:=9) Tryz.underlying339 rfl sz9 rfl
theorem fa339_1:FA Tryz.prog 339 1 1:=fa_of (tt:=4) Tryz.underlying339 rfl sz4 rfl
theorem fa341_0:FA Tryz.prog 341 0 0:=fa_of (tt:=3) Tryz.underlying341 rfl sz3 rfl
theorem fa341_1:FA Tryz.prog 341 1 1:=fa_of (tt:=3) Tryz.underlying341 rfl sz3 rfl
theorem fa341_2:FA Tryz.prog 341 2 2:=fa_of (tt:=3) Tryz.underlying341 rfl sz3 rfl
theorem fa341_3:FA Tryz.prog 341 3 3:=fa_of (tt:=3) Tryz.underlying341 rfl sz3 rfl
theorem fa341_4:FA Tryz.prog 341 4 4:=fa_of (tt:=3) Tryz.underlying341 rfl sz3 rfl
theorem fa341_5:FA Tryz.prog 341 5 5:=fa_of (tt:=3) Tryz.underlying341 rfl sz3 rfl
theorem fa341_6:FA Tryz.prog 341 6 6:=fa_of (tt:=3) Tryz.underlying341 rfl sz3 rfl
theorem fa341_7:FA Tryz.prog 341 7 7:=fa_of (tt:=5) Tryz.underlying341 rfl sz5 rfl
theorem fa341_8:FA Tryz.prog 341 8 8:=fa_of (tt:=3) Tryz.underlying341 rfl sz3 rfl
theorem fa341_9:FA Tryz.prog 341 9 9:=fa_of (tt:=3) Tryz.underlying341 rfl sz3 rfl
theorem z341:Zero Tryz.prog 341 [.int .i64 0,.int .i64 0,.int .i64 0,.int .i64 0,.int .i64 0,.int .i64 0,.int .i64 0,.int .u8 0,.int .i64 0,.int .i64 0]:=zero_of (v:=.agg #[.int .i64 0,.int .i64 0,.int .i64 0,.int .i64 0,.int .i64 0,.int .i64 0,.int .i64 0,.int .u8 0,.int .i64 0,.int .i64 0]) p1q rfl
theorem z398:Zero Tryz.prog 398 [.int .i64 0,.int .i64 0,.int .i64 0,.int .i64 0,.int .i64 0,.int .i64 0,.int .i64 0,.int .i64 0,.int .i64 0,.int .i64 0,.int .i64 0,.int .i64 0]:=zero_of (v:=.agg #[.int .i64 0,.int .i64 0,.int .i64 0,.int .i64 0,.int .i64 0,.int .i64 0,.int .i64 0,.int .i64 0,.int .i64 0,.int .i64 0,.int .i64 0,.int .i64 0]) p1q rfl
theorem sz398:(Tryz.prog.info? 398).map (·.size)=some 12:=by kernel_rfl
theorem bd339 (s:ByteArray)(w:World):(Instr.build 339 ([(0,.string s)]:List (Nat×Value)).toArray).run Tryz.prog w=.ok (.agg #[.string s,.bool false]) w:=by
 go_simp
 try rfl
theorem bd398 (w:World):(Instr.build 398 ([(0,.int .i64 31),(1,.int .i64 28),(2,.int .i64 31),(3,.int .i64 30),(4,.int .i64 31),(5,.int .i64 30),(6,.int .i64 31),(7,.int .i64 31),(8,.int .i64 30),(9,.int .i64 31),(10,.int .i64 30),(11,.int .i64 31)]:List (Nat×Value)).toArray).run Tryz.prog w=.ok (.agg #[.int .i64 31,.int .i64 28,.int .i64 31,.int .i64 30,.int .i64 31,.int .i64 30,.int .i64 31,.int .i64 31,.int .i64 30,.int .i64 31,.int .i64 30,.int .i64 31]) w:=by
 go_simp
 try rfl
theorem bd78k (k:Int)(w:World):(Instr.build 78 ([(0,.int .i64 k)]:List (Nat×Value)).toArray).run Tryz.prog w=.ok (.agg #[.int .i64 k,.int .i64 0,.int .i64 0,.int .i64 0]) w:=by
 go_simp
 try rfl
structure Fm where
 y:Nat
 mo:Nat
 d:Nat
 h:Nat
 mi:Nat
 sc:Nat
 ns:Nat
 sg:Nat
 oh:Nat
 om:Nat
structure FBd (x:Fm):Prop where
 y:x.y≤290000
 mo:x.mo≤2900
 d:x.d≤2900
 h:x.h≤2900
 mi:x.mi≤2900
 sc:x.sc≤2900
 ns:x.ns≤29000000000
 sg:x.sg<256
 oh:x.oh≤2900
 om:x.om≤2900
theorem FBd.zero:FBd ⟨0,0,0,0,0,0,0,0,0,0⟩:=⟨by decide,by decide,by decide,by decide,by decide,by decide,by decide,by decide,by decide,by decide⟩
theorem c380 (y:Nat)(w0:World):Fc Tryz.prog 380 [.int .i64 y] w0 (IsB fun b=>b=true↔1≤y∧y≤9999):=by
 refine ret_enter Tryz.func380 rfl Tryz.ntmps380 rfl ?_
 have cx:=Ctx.start w0
 refine K21 ?_
 refine ret_tmp Tryz.results380 rfl ?_
 refine Kq ?_
 simp only [Bool.and_eq_true,decide_eq_true_eq]
 omega
theorem c381 (y:Nat)(w0:World):Fc Tryz.prog 381 [.int .i64 y] w0 (IsB fun _=>True):=by
 refine ret_enter Tryz.func381 rfl Tryz.ntmps381 rfl ?_
 have cx:=Ctx.start w0
 refine K5 ?_
 refine H1o ?_;intro q4 w cx hw4 hp4
 refine K0 ?_
 refine Kem ?_
 refine K2 ?_
 refine Ken ?_
 refine K1 ?_
 refine Keo ?_
 refine K4 ?_
 refine ret_tmp Tryz.results381 rfl ?_
 exact Ezj
theorem mon_at {m:Nat}(h0:1≤m)(h1:m≤12):∃ n:Nat,([.int .i64 31,.int .i64 28,.int .i64 31,.int .i64 30,.int .i64 31,.int .i64 30,.int .i64 31,.int .i64 31,.int .i64 30,.int .i64 31,.int .i64 30,.int .i64 31]:List Value)[m-1]?=some (.int .i64 n)∧n≤31:=by
 have h:m=1∨m=2∨m=3∨m=4∨m=5∨m=6∨m=7∨m=8∨m=9∨m=10∨m=11∨m=12:=by omega
 rcases h with rfl | rfl | rfl | rfl | rfl | rfl | rfl | rfl | rfl | rfl | rfl | rfl
 all_goals first | exact ⟨31,rfl,by decide⟩ | exact ⟨30,rfl,by decide⟩ | exact ⟨28,rfl,by decide⟩
theorem c338 (y m:Nat)(w0:World):Fc Tryz.prog 338 [.int .i64 y,.int .i64 m] w0 (fun v _=>∃ n:Nat,v=.int .i64 n∧n≤31∧(0<n→1≤y∧y≤9999)):=by
 refine ret_enter Tryz.func338 rfl Tryz.ntmps338 rfl ?_
 have cx:=Ctx.start w0
 refine K6 ?_
 refine H1o ?_;intro q7 w cx hw7 hp7
 refine K8 ?_
 refine cSp rfl (fun hc16=>?_) (fun hc16=>?_)
 ·
  refine K3 ?_
  refine K7q ?_
  exact ⟨cx.ext,0,rfl,by omega,fun h=>absurd h (by omega)⟩
 have hy:=hp7.1 hc16.1.1
 obtain ⟨mn,hmn,hm31⟩:=mon_at (m:=m) (by omega) (by omega)
 refine K6 ?_
 refine s_gfnB cx rfl rfl rfl wT (fun hc=>(c381 y _)) Tryz.func381 rfl rfl rfl (fun hc=>(cons_eq gX rfl)) ?_;intro q21 w cx hw21 hp21
 refine K0 ?_
 refine cSp rfl (fun hc22=>?_) (fun hc22=>?_)
 ·
  refine K3 ?_
  refine K7q ?_
  exact ⟨cx.ext,29,rfl,by omega,fun _=>hy⟩
 refine K1 ?_
 refine Kep ?_
 refine s_alloc cx z398 rfl rfl rfl ?_;intro b5 w cx hb5 hw5
 refine s_storeAll cx 0 rfl rfl rfl rfl rfl rfl sz398 rfl rfl ?_;intro w cx hwS5
 refine K3 ?_
 refine Keq ?_
 refine s_val rfl rfl (v_load1 rfl rfl Tryz.underlying3 rfl (cx.cell 0 rfl (by rw [show 0+Int.toNat ((m:Int)-1)*1=m-1 by omega];exact hmn))) ?_
 refine K1 ?_
 refine K7q ?_
 exact ⟨cx.ext,mn,rfl,hm31,fun _=>hy⟩
theorem c339 (y:Nat)(w0:World)(h0:1≤y)(h1:y≤9999):Fc Tryz.prog 339 [.int .i64 y] w0 (fun v _=>∃ n:Nat,v=.int .i64 n∧n≤4000000):=by
 refine ret_enter Tryz.func339 rfl Tryz.ntmps339 rfl ?_
 have cx:=Ctx.start w0
 refine K5 ?_
 refine Ker ?_
 refine K5 ?_
 refine Kes ?_
 refine K0 ?_
 refine Ket ?_
 refine K0 ?_
 refine Keu ?_
 refine K2 ?_
 refine ret_tmp Tryz.results339 rfl ?_
 exact ⟨cx.ext,365*(y-1)+(y-1) / 4-(y-1) / 100+(y-1) / 400,congrArg (Value.int .i64) (by omega),by omega⟩
theorem c266 (y mo d:Nat)(w0:World)(hd:d≤1000000)(hm:mo≤1000000):Fc Tryz.prog 266 [.int .i64 y,.int .i64 mo,.int .i64 d] w0 (fun v _=>∃ n e:Int,v=.tuple #[.int .i64 n,.int .i64 e]):=by
 refine ret_enter Tryz.func266 rfl Tryz.ntmps266 rfl ?_
 have cx:=Ctx.start w0
 refine K13 ?_
 refine s_gfn cx rfl rfl rfl wF (fun hc=>c338 y mo _) Tryz.func338 rfl rfl rfl (fun hc=>(cons_eq p4q (cons_eq p4q rfl))) ?_;intro q16 w cx hw16 hp16
 obtain ⟨n16,hn16⟩:∃ n:Nat,decide ((d:Int)<1)=false→q16=.int .i64 n∧n≤31∧(0<n→1≤y∧y≤9999):=by
  by_cases h:decide ((d:Int)<1)=false
  · obtain ⟨n,h1,h2⟩:=hp16 (by rw [h];rfl);exact ⟨n,fun _=>⟨h1,h2⟩⟩
  · exact ⟨0,fun h2=>absurd h2 h⟩
 refine s_gval rfl rfl rfl wF (fun hc=>v_cmp rfl (gve hc rfl) ((gve hc rfl).trans (hn16 (by simpa using hc)).1) rfl) ?_
 refine K0 ?_
 refine cSp rfl (fun hc18=>?_) (fun hc18=>?_)
 ·
  refine K0 ?_
  exact Bz96
 have hd1:1≤d:=by omega
 obtain ⟨_,hn31,hny⟩:=hn16 (by rw [decide_eq_false_iff_not];omega)
 obtain ⟨hy0,hy1⟩:=hny (by omega)
 refine K2 ?_
 refine s_fn cx (c339 y _ hy0 hy1) Tryz.func339 rfl rfl rfl rfl rfl rfl ?_;intro q20 w cx hw20 hp20
 obtain ⟨ns,rfl,hns⟩:=hp20
 refine Ka ?_
 refine w_loop (fun g f w1=>∃ m n:Nat,g+m=mo+1∧n≤5000000+31*m∧f 0=.int .i64 y∧f 1=.int .i64 mo∧f 8=.int .i64 n∧f 9=.int .i64 m∧Ctx w0 w1 []) (mo) ?_ ?_
 ·
  exact ⟨1,ns+d-1,by omega,by omega,rfl,rfl,congrArg (Value.int .i64) (by omega),rfl,cx⟩
 intro gk5 f w hJ
 obtain ⟨m,n,hg,hn,hs0,hs1,hs8,hs9,cx⟩:=hJ
 refine K5w ?_
 refine K2q ?_
 refine cSp rfl (fun hc26=>?_) (fun hc26=>?_)
 ·
  refine K67 ?_
  refine Kb ?_
  refine K1v ?_
  refine s_fn cx (c338 y m _) Tryz.func338 rfl rfl rfl rfl rfl rfl ?_;intro q32 w cx hw32 hp32
  obtain ⟨n32,rfl,hn32,hny32⟩:=hp32
  refine K2 ?_
  refine K2o ?_
  exact ⟨gk5-1,_,by omega,rfl,m+1,n+n32,by omega,by omega,hs0,hs1,rfl,rfl,cx⟩
 refine K18 ?_
 exact Bz96
theorem c378 (wb w0:World)(b:Nat)(d:Bool)(s:List UInt8)(L:List (Nat×Obj))(R:List Row)(cx0:Cxr wb w0 ((b,.cells ([.string (bs s),.bool d]:List Value).toArray 339)::L) R)(hs:s.length≤1073741824)(k:Nat)(hk:k≤9):Ret Tryz.prog 378 [.pointer (some ⟨b,0,none⟩),.int .i64 k] w0 (fun v w'=>∃ n:Nat,v=.int .i64 n∧n+29≤29*10^k∧∃ (s':List UInt8) (d':Bool),Cxr wb w' ((b,.cells ([.string (bs s'),.bool d']:List Value).toArray 339)::L) R∧s'.length≤s.length):=by
 refine ret_enter Tryz.func378 rfl Tryz.ntmps378 rfl ?_
 have cx:=cx0
 refine K7 ?_
 refine K3v ?_
 refine K2 ?_
 refine cSp rfl (fun hc13=>?_) (fun hc13=>?_)
 ·
  refine K2 ?_
  refine K6w ?_
  refine H5 ?_;intro w cx hwS2
  exact Bz68
 have hks:k≤s.length:=by omega
 refine Ko ?_
 refine w_loop (fun g f w1=>∃ i n:Nat,g+i=k∧n+29≤29*10^i∧f 0=.pointer (some ⟨b,0,none⟩)∧f 1=.int .i64 k∧f 17=.int .i64 k∧f 18=.int .i64 i∧f 5=.int .i64 n∧Cxr wb w1 ((b,.cells ([.string (bs s),.bool d]:List Value).toArray 339)::L) R) (k) ?_ ?_
 ·
  exact ⟨0,0,by omega,by simp,rfl,rfl,rfl,rfl,rfl,cx⟩
 intro gk6 f w hJ
 obtain ⟨i,n,hg,hn,hs0,hs1,hs17,hs18,hs5,cx⟩:=hJ
 have hpw:10^i≤10^9:=Nat.pow_le_pow_right (by decide) (by omega)
 have hp9:10^9=1000000000:=by decide
 have hwr:=wr8 (((s.getD (Int.toNat (i:Int)) 0).toNat:Nat)-48)
 refine K0 ?_
 refine s_val rfl rfl (v_cmp rfl hs18 hs17 rfl) ?_
 refine K0 ?_
 refine cSp rfl (fun hc19=>?_) (fun hc19=>?_)
 ·
  refine K3 ?_
  refine K9p ?_
  refine K19 ?_
  refine K4x ?_
  refine K2 ?_
  refine Kx ?_
  refine K7p ?_
  refine s_gval rfl rfl rfl wF (fun hc=>v_fa fa339_0 rfl gX) ?_
  refine s_gval rfl rfl rfl wF (fun hc=>v_load1 rfl gX Tryz.underlying9 rfl ((cx.row 0 rfl).cell 0 rfl)) ?_
  refine SS ?_
  refine K2c ?_
  refine cSp rfl (fun hc36=>?_) (fun hc36=>?_)
  ·
   refine K2f ?_
   refine K6w ?_
   refine H5 ?_;intro w cx hwS9
   exact Bz68
  refine K37 ?_
  refine K1g ?_
  refine K4x ?_
  refine K0 ?_
  refine K50 ?_
  refine K8x ?_
  refine K2 ?_
  refine K87 ?_
  refine K0 ?_
  refine ⟨gk6-1,_,by omega,rfl,i+1,10*n+(IntKind.u8.wrap (((s.getD (Int.toNat (i:Int)) 0).toNat:Nat)-48)).toNat,by omega,?_,hs0,hs1,hs17,rfl,congrArg (Value.int .i64) (by omega),cx⟩
  rw [Nat.pow_succ]
  omega
 refine K9 ?_
 refine Kb ?_
 refine K4x ?_
 refine K2q ?_
 refine K7r ?_
 refine s_store1 (v:=.string (bs (s.drop k))) cx 0 rfl rfl rfl rfl rfl (by rfl) rfl rfl sz9 ?_;intro w cx hwS13
 refine K3z ?_
 refine ret_tmp Tryz.results378 rfl ?_
 exact ⟨n,rfl,by rw [show k=i by omega];exact hn,s.drop k,d,cx,by rw [List.length_drop];omega⟩
theorem c336 (wb w0:World)(b:Nat)(d:Bool)(s:List UInt8)(L:List (Nat×Obj))(R:List Row)(cx0:Cxr wb w0 ((b,.cells ([.string (bs s),.bool d]:List Value).toArray 339)::L) R)(hs:s.length≤1073741824)(a:List UInt8)(ha:a.length≤1000):Ret Tryz.prog 336 [.pointer (some ⟨b,0,none⟩),.string (bs a)] w0 (fun v w'=>∃ n:Nat,v=.int .u8 n∧n<256∧∃ (s':List UInt8) (d':Bool),Cxr wb w' ((b,.cells ([.string (bs s'),.bool d']:List Value).toArray 339)::L) R∧s'.length≤s.length):=by
 refine ret_enter Tryz.func336 rfl Tryz.ntmps336 rfl ?_
 have cx:=cx0
 refine K7 ?_
 refine K3v ?_
 refine K4y ?_
 refine SS ?_
 refine cSp rfl (fun hc10=>?_) (fun hc10=>?_)
 ·
  have hne:0<s.length:=List.length_pos_iff.2 hc10
  refine K5 ?_
  refine w_loop (fun g f w1=>∃ i:Nat,g+i=a.length∧f 0=.pointer (some ⟨b,0,none⟩)∧f 1=.string (bs a)∧f 12=.int .i64 a.length∧f 13=.int .i64 i∧Cxr wb w1 ((b,.cells ([.string (bs s),.bool d]:List Value).toArray 339)::L) R) (a.length) ?_ ?_
  ·
   exact Ezm
  intro gk3 f w hJ
  obtain ⟨i,hg,hs0,hs1,hs12,hs13,cx⟩:=hJ
  refine K0 ?_
  refine s_val rfl rfl (v_cmp rfl hs13 hs12 rfl) ?_
  refine K0 ?_
  refine cSp rfl (fun hc14=>?_) (fun hc14=>?_)
  ·
   refine K3 ?_
   refine K2v ?_
   refine K1 ?_
   refine K1l ?_
   refine K39 ?_
   refine q_val rfl rfl (fun w cx hwQ=>v_fa fa339_0 rfl rfl) ?_
   refine K7o ?_
   refine K2l ?_
   refine K8t ?_
   refine Kj ?_
   refine K2l ?_
   refine K25 ?_
   refine q_nil ?_;rintro w ⟨cx,hwQ5⟩
   refine cSp rfl (fun hc24=>?_) (fun hc24=>?_)
   ·
    refine Km ?_
    refine Kb ?_
    refine K4x ?_
    refine K0 ?_
    refine K7r ?_
    refine s_store1 (v:=.string (bs (s.drop (Int.toNat 1)))) cx 0 rfl rfl rfl rfl rfl (by rfl) rfl rfl sz9 ?_;intro w cx hwS6
    refine K61 ?_
    refine K3 ?_
    refine ret_tmp Tryz.results336 rfl ?_
    exact ⟨_,rfl,(a.getD (Int.toNat (i:Int)) 0).toNat_lt,s.drop (Int.toNat 1),d,cx,by rw [List.length_drop];omega⟩
   refine K0 ?_
   refine s_val rfl rfl (v_add rfl hs13 rfl (by omega) (by omega)) ?_
   refine K0 ?_
   exact ⟨gk3-1,_,by omega,rfl,i+1,by omega,hs0,hs1,hs12,rfl,cx⟩
  refine K9 ?_
  exact Bz44
 refine K2 ?_
 exact Bz44
theorem c379 (wb w0:World)(b:Nat)(d:Bool)(s:List UInt8)(L:List (Nat×Obj))(R:List Row)(cx0:Cxr wb w0 ((b,.cells ([.string (bs s),.bool d]:List Value).toArray 339)::L) R)(hs:s.length≤1073741824):Ret Tryz.prog 379 [.pointer (some ⟨b,0,none⟩)] w0 (fun v w'=>∃ n:Nat,v=.int .i64 n∧n≤29000000000∧∃ (s':List UInt8) (d':Bool),Cxr wb w' ((b,.cells ([.string (bs s'),.bool d']:List Value).toArray 339)::L) R∧s'.length≤s.length):=by
 refine ret_enter Tryz.func379 rfl Tryz.ntmps379 rfl ?_
 have cx:=cx0
 refine Ka ?_
 refine w_loop (fun g f w1=>∃ i n:Nat,g+i=s.length∧(n+29≤29*10^i∧i≤9∨n+29≤29*10^9∧9≤i)∧f 0=.pointer (some ⟨b,0,none⟩)∧f 3=.int .i64 n∧f 4=.int .i64 i∧Cxr wb w1 ((b,.cells ([.string (bs s),.bool d]:List Value).toArray 339)::L) R) (s.length) ?_ ?_
 ·
  exact ⟨0,0,by omega,.inl ⟨by simp,by omega⟩,rfl,rfl,rfl,cx⟩
 intro gk2 f w hJ
 obtain ⟨i,n,hg,hn,hs0,hs3,hs4,cx⟩:=hJ
 have hpw:i≤9→10^i≤10^9:=fun h=>Nat.pow_le_pow_right (by decide) h
 have hp9:10^9=1000000000:=by decide
 have hwr:=wr8 (((s.getD (Int.toNat (i:Int)) 0).toNat:Nat)-48)
 have hnb:n≤29000000000:=by rcases hn with ⟨h,h2⟩ | ⟨h,h2⟩ <;> (try have:=hpw h2) <;> omega
 refine Kl ?_
 refine Kb ?_
 refine K4x ?_
 refine K7w ?_
 refine K5g ?_
 refine K9q ?_
 refine K9r ?_
 refine K4l ?_
 refine Ks ?_
 refine K5g ?_
 refine K9q ?_
 refine K9r ?_
 refine K4l ?_
 refine cSp rfl (fun hc29=>?_) (fun hc29=>?_)
 ·
  refine K0 ?_
  refine w_cut (fun f w1=>∃ n:Nat,(n+29≤29*10^(i+1)∧i<9∨n+29≤29*10^9∧9≤i)∧f 0=.pointer (some ⟨b,0,none⟩)∧f 3=.int .i64 n∧f 4=.int .i64 i∧Cxr wb w1 ((b,.cells ([.string (bs s),.bool d]:List Value).toArray 339)::L) R) ?_ ?_
  ·
   refine K1i ?_
   refine K0 ?_
   refine cSp rfl (fun hc31=>?_) (fun hc31=>?_)
   ·
    refine K1b ?_
    refine K1g ?_
    refine K4x ?_
    refine K22 ?_
    refine K50 ?_
    refine K8x ?_
    refine K1 ?_
    exact Bz47
   refine SS ?_
   exact Bz47
  intro f w hJ
  obtain ⟨n2,hn2,hs0,hs3,hs4,cx⟩:=hJ
  refine SS ?_
  refine K27 ?_
  exact ⟨gk2-1,_,by omega,rfl,i+1,n2,by omega,by rcases hn2 with ⟨h,h2⟩ | ⟨h,h2⟩ <;> omega,hs0,hs3,rfl,cx⟩
 refine K3w ?_
 refine K0 ?_
 refine K2j ?_
 refine K1 ?_
 refine cSp rfl (fun hc50=>?_) (fun hc50=>?_)
 ·
  refine K2f ?_
  refine K6w ?_
  refine H5 ?_;intro w cx hwS7
  refine K4 ?_
  refine ret_tmp Tryz.results379 rfl ?_
  exact ⟨0,rfl,by omega,s,true,cx,by omega⟩
 refine K9 ?_
 refine Kb ?_
 refine K4x ?_
 refine K6d ?_
 refine K7r ?_
 refine s_store1 (v:=.string (bs (s.drop (Int.toNat (i:Int))))) cx 0 rfl rfl rfl rfl rfl (by rfl) rfl rfl sz9 ?_;intro w cx hwS9
 refine K1 ?_
 refine w_loop (fun g f w1=>∃ j m:Nat,g+j=9∧m+29≤29*10^j∧f 3=.int .i64 m∧f 4=.int .i64 j∧Cxr wb w1 ((b,.cells ([.string (bs (s.drop (Int.toNat (i:Int)))),.bool d]:List Value).toArray 339)::L) R) (9-i) ?_ ?_
 ·
  have hn9:n+29≤29*10^i:=by
   rcases hn with ⟨h,h2⟩ | ⟨h,h2⟩
   · exact h
   · rw [show i=9 by omega];exact h
  exact ⟨i,n,by omega,hn9,hs3,hs4,cx⟩
 intro gk10 f w hJ
 obtain ⟨j,m,hgj,hm,hs3,hs4,cx⟩:=hJ
 have hpwj:10^j≤10^9:=Nat.pow_le_pow_right (by decide) (by omega)
 have hp9j:10^9=1000000000:=by decide
 refine K4k ?_
 refine cSp rfl (fun hc64=>?_) (fun hc64=>?_)
 ·
  refine K20 ?_
  refine K2 ?_
  refine K27 ?_
  exact ⟨gk10-1,_,by omega,rfl,j+1,m*10,by omega,by rw [Nat.pow_succ];omega,rfl,rfl,cx⟩
 refine K1f ?_
 refine ret_tmp Tryz.results379 rfl ?_
 exact ⟨m,rfl,by omega,s.drop (Int.toNat (i:Int)),d,cx,by rw [List.length_drop];omega⟩
theorem c335 (wb w0:World)(b c:Nat)(d:Bool)(s:List UInt8)(x:Fm)(L:List (Nat×Obj))(R:List Row)(cx0:Cxr wb w0 ((b,.cells ([.string (bs s),.bool d]:List Value).toArray 339)::(c,.cells ([.int .i64 (x.y:Nat),.int .i64 (x.mo:Nat),.int .i64 (x.d:Nat),.int .i64 (x.h:Nat),.int .i64 (x.mi:Nat),.int .i64 (x.sc:Nat),.int .i64 (x.ns:Nat),.int .u8 (x.sg:Nat),.int .i64 (x.oh:Nat),.int .i64 (x.om:Nat)]:List Value).toArray 341)::L) R)(hs:s.length≤1073741824)(hx:FBd x):Ret Tryz.prog 335 [.pointer (some ⟨b,0,none⟩),.pointer (some ⟨c,0,none⟩)] w0 (fun v w'=>v=.tuple #[]∧∃ (s':List UInt8) (d':Bool) (x':Fm),Cxr wb w' ((b,.cells ([.string (bs s'),.bool d']:List Value).toArray 339)::(c,.cells ([.int .i64 (x'.y:Nat),.int .i64 (x'.mo:Nat),.int .i64 (x'.d:Nat),.int .i64 (x'.h:Nat),.int .i64 (x'.mi:Nat),.int .i64 (x'.sc:Nat),.int .i64 (x'.ns:Nat),.int .u8 (x'.sg:Nat),.int .i64 (x'.oh:Nat),.int .i64 (x'.om:Nat)]:List Value).toArray 341)::L) R∧s'.length≤s.length∧FBd x'):=by
 refine ret_enter Tryz.func335 rfl Tryz.ntmps335 rfl ?_
 have cx:=cx0
 refine K2 ?_
 refine s_call (c378 wb _ b d s _ R cx (by omega) 4 (by decide)) Tryz.func378 rfl rfl rfl rfl rfl rfl ?_;rintro v6 w ⟨n6,rfl,hn6,s1,d1,cx,hl1⟩
 replace hn6:n6+29≤290000:=hn6
 refine SS ?_
 refine s_val rfl rfl (v_fa fa341_0 rfl rfl) ?_
 refine H1p ?_;intro w cx hwS0
 refine K2 ?_
 refine s_call (c336 wb _ b d1 s1 _ R cx (by omega) [45] (by decide)) Tryz.func336 rfl rfl rfl rfl rfl rfl ?_;rintro v10 w ⟨n10,rfl,hn10,s2,d2,cx,hl2⟩
 refine K3 ?_
 refine H1q ?_;rintro v13 w ⟨n13,rfl,hn13,s3,d3,cx,hl3⟩
 replace hn13:n13+29≤2900:=hn13
 refine SS ?_
 refine s_val rfl rfl (v_fa fa341_1 rfl rfl) ?_
 refine H1r ?_;intro w cx hwS2
 refine K2 ?_
 refine s_call (c336 wb _ b d3 s3 _ R cx (by omega) [45] (by decide)) Tryz.func336 rfl rfl rfl rfl rfl rfl ?_;rintro v17 w ⟨n17,rfl,hn17,s4,d4,cx,hl4⟩
 refine K2 ?_
 refine H1s ?_;rintro v20 w ⟨n20,rfl,hn20,s5,d5,cx,hl5⟩
 replace hn20:n20+29≤2900:=hn20
 refine SS ?_
 refine s_val rfl rfl (v_fa fa341_2 rfl rfl) ?_
 refine H1t ?_;intro w cx hwS4
 refine SS ?_
 refine ret_no (.inr rfl) Tryz.results335 ?_
 exact ⟨rfl,s5,d5,⟨n6,n13,n20,x.h,x.mi,x.sc,x.ns,x.sg,x.oh,x.om⟩,cx,by omega,⟨(show n6≤290000 by omega),(show n13≤2900 by omega),(show n20≤2900 by omega),hx.h,hx.mi,hx.sc,hx.ns,hx.sg,hx.oh,hx.om⟩⟩
theorem c334 (wb w0:World)(b c:Nat)(d:Bool)(s:List UInt8)(x:Fm)(L:List (Nat×Obj))(R:List Row)(cx0:Cxr wb w0 ((b,.cells ([.string (bs s),.bool d]:List Value).toArray 339)::(c,.cells ([.int .i64 (x.y:Nat),.int .i64 (x.mo:Nat),.int .i64 (x.d:Nat),.int .i64 (x.h:Nat),.int .i64 (x.mi:Nat),.int .i64 (x.sc:Nat),.int .i64 (x.ns:Nat),.int .u8 (x.sg:Nat),.int .i64 (x.oh:Nat),.int .i64 (x.om:Nat)]:List Value).toArray 341)::L) R)(hs:s.length≤1073741824)(hx:FBd x):Ret Tryz.prog 334 [.pointer (some ⟨b,0,none⟩),.pointer (some ⟨c,0,none⟩)] w0 (fun v w'=>v=.tuple #[]∧∃ (s':List UInt8) (d':Bool) (x':Fm),Cxr wb w' ((b,.cells ([.string (bs s'),.bool d']:List Value).toArray 339)::(c,.cells ([.int .i64 (x'.y:Nat),.int .i64 (x'.mo:Nat),.int .i64 (x'.d:Nat),.int .i64 (x'.h:Nat),.int .i64 (x'.mi:Nat),.int .i64 (x'.sc:Nat),.int .i64 (x'.ns:Nat),.int .u8 (x'.sg:Nat),.int .i64 (x'.oh:Nat),.int .i64 (x'.om:Nat)]:List Value).toArray 341)::L) R∧s'.length≤s.length∧FBd x'):=by
 refine ret_enter Tryz.func334 rfl Tryz.ntmps334 rfl ?_
 have cx:=cx0
 refine K2 ?_
 refine s_call (c378 wb _ b d s _ R cx (by omega) 2 (by decide)) Tryz.func378 rfl rfl rfl rfl rfl rfl ?_;rintro v6 w ⟨n6,rfl,hn6,s1,d1,cx,hl1⟩
 replace hn6:n6+29≤2900:=hn6
 refine SS ?_
 refine s_val rfl rfl (v_fa fa341_3 rfl rfl) ?_
 refine H1p ?_;intro w cx hwS0
 refine K2 ?_
 refine s_call (c336 wb _ b d1 s1 _ R cx (by omega) [58] (by decide)) Tryz.func336 rfl rfl rfl rfl rfl rfl ?_;rintro v10 w ⟨n10,rfl,hn10,s2,d2,cx,hl2⟩
 refine K3 ?_
 refine H1q ?_;rintro v13 w ⟨n13,rfl,hn13,s3,d3,cx,hl3⟩
 replace hn13:n13+29≤2900:=hn13
 refine SS ?_
 refine s_val rfl rfl (v_fa fa341_4 rfl rfl) ?_
 refine H1r ?_;intro w cx hwS2
 refine K2 ?_
 refine s_call (c336 wb _ b d3 s3 _ R cx (by omega) [58] (by decide)) Tryz.func336 rfl rfl rfl rfl rfl rfl ?_;rintro v17 w ⟨n17,rfl,hn17,s4,d4,cx,hl4⟩
 refine K3 ?_
 refine H1s ?_;rintro v20 w ⟨n20,rfl,hn20,s5,d5,cx,hl5⟩
 replace hn20:n20+29≤2900:=hn20
 refine SS ?_
 refine s_val rfl rfl (v_fa fa341_5 rfl rfl) ?_
 refine H1t ?_;intro w cx hwS4
 refine K3 ?_
 refine K3v ?_
 refine K4y ?_
 refine K0 ?_
 refine K5g ?_
 refine K9q ?_
 refine K9r ?_
 refine s_gval rfl rfl rfl wT (fun hc=>v_idxB rfl (gve hc rfl) rfl Tryz.underlying9 (by omega) (by simp only [bne_iff_ne,ne_eq,decide_eq_true_eq,Bool.not_eq_true',decide_eq_false_iff_not] at hc;have:=List.length_pos_iff.2 hc;omega)) ?_
 refine K1 ?_
 refine cSp rfl (fun hc35=>?_) (fun hc35=>?_)
 ·
  have hne:0<s5.length:=List.length_pos_iff.2 hc35.1
  refine K3 ?_
  refine K3v ?_
  refine K0 ?_
  refine K7r ?_
  refine s_store1 (v:=.string (bs (s5.drop (Int.toNat 1)))) cx 0 rfl rfl rfl rfl rfl (by rfl) rfl rfl sz9 ?_;intro w cx hwS6
  refine K2 ?_
  refine s_call (c379 wb _ b d5 (s5.drop (Int.toNat 1)) _ R cx p15q) Tryz.func379 rfl rfl rfl rfl rfl rfl ?_;rintro v46 w ⟨n46,rfl,hn46,s6,d6,cx,hl6⟩
  refine SS ?_
  refine s_val rfl rfl (v_fa fa341_6 rfl rfl) ?_
  refine s_store1 (v:=.int .i64 (n46:Nat)) cx 1 rfl rfl rfl rfl rfl rfl rfl rfl sz3 ?_;intro w cx hwS7
  refine SS ?_
  refine ret_no (.inr rfl) Tryz.results334 ?_
  exact ⟨rfl,s6,d6,⟨x.y,x.mo,x.d,n6,n13,n20,n46,x.sg,x.oh,x.om⟩,cx,by rw [List.length_drop] at hl6;omega,⟨hx.y,hx.mo,hx.d,(show n6≤2900 by omega),(show n13≤2900 by omega),(show n20≤2900 by omega),(show n46≤29000000000 by omega),hx.sg,hx.oh,hx.om⟩⟩
 refine SS ?_
 refine ret_no (.inr rfl) Tryz.results334 ?_
 exact ⟨rfl,s5,d5,⟨x.y,x.mo,x.d,n6,n13,n20,x.ns,x.sg,x.oh,x.om⟩,cx,by omega,⟨hx.y,hx.mo,hx.d,(show n6≤2900 by omega),(show n13≤2900 by omega),(show n20≤2900 by omega),hx.ns,hx.sg,hx.oh,hx.om⟩⟩
theorem c337 (wb w0:World)(b c:Nat)(d:Bool)(s:List UInt8)(x:Fm)(L:List (Nat×Obj))(R:List Row)(cx0:Cxr wb w0 ((b,.cells ([.string (bs s),.bool d]:List Value).toArray 339)::(c,.cells ([.int .i64 (x.y:Nat),.int .i64 (x.mo:Nat),.int .i64 (x.d:Nat),.int .i64 (x.h:Nat),.int .i64 (x.mi:Nat),.int .i64 (x.sc:Nat),.int .i64 (x.ns:Nat),.int .u8 (x.sg:Nat),.int .i64 (x.oh:Nat),.int .i64 (x.om:Nat)]:List Value).toArray 341)::L) R)(hs:s.length≤1073741824)(hx:FBd x):Ret Tryz.prog 337 [.pointer (some ⟨b,0,none⟩),.pointer (some ⟨c,0,none⟩)] w0 (fun v w'=>v=.tuple #[]∧∃ (s':List UInt8) (d':Bool) (x':Fm),Cxr wb w' ((b,.cells ([.string (bs s'),.bool d']:List Value).toArray 339)::(c,.cells ([.int .i64 (x'.y:Nat),.int .i64 (x'.mo:Nat),.int .i64 (x'.d:Nat),.int .i64 (x'.h:Nat),.int .i64 (x'.mi:Nat),.int .i64 (x'.sc:Nat),.int .i64 (x'.ns:Nat),.int .u8 (x'.sg:Nat),.int .i64 (x'.oh:Nat),.int .i64 (x'.om:Nat)]:List Value).toArray 341)::L) R∧s'.length≤s.length∧FBd x'):=by
 refine ret_enter Tryz.func337 rfl Tryz.ntmps337 rfl ?_
 have cx:=cx0
 refine K2 ?_
 refine s_call (c336 wb _ b d s _ R cx (by omega) [90,122,43,45] (by decide)) Tryz.func336 rfl rfl rfl rfl rfl rfl ?_;rintro v6 w ⟨n6,rfl,hn6,s1,d1,cx,hl1⟩
 refine SS ?_
 refine s_val rfl rfl (v_fa fa341_7 rfl rfl) ?_
 refine s_store1 (v:=.int .u8 (n6:Nat)) cx 1 rfl rfl rfl rfl rfl rfl rfl rfl sz5 ?_;intro w cx hwS0
 refine K3 ?_
 refine s_val rfl rfl (v_fa fa341_7 rfl rfl) ?_
 refine s_val rfl rfl (v_load1 rfl rfl Tryz.underlying5 rfl ((cx.row 1 rfl).cell 7 rfl)) ?_
 refine K1 ?_
 refine K7p ?_
 refine s_gval rfl rfl rfl wF (fun hc=>v_fa fa341_7 rfl gX) ?_
 refine s_gval rfl rfl rfl wF (fun hc=>v_load1 rfl gX Tryz.underlying5 rfl ((cx.row 1 rfl).cell 7 rfl)) ?_
 refine K1 ?_
 refine cSp rfl (fun hc20=>?_) (fun hc20=>?_)
 ·
  refine K2 ?_
  refine s_call (c378 wb _ b d1 s1 _ R cx (by omega) 2 (by decide)) Tryz.func378 rfl rfl rfl rfl rfl rfl ?_;rintro v23 w ⟨n23,rfl,hn23,s2,d2,cx,hl2⟩
  replace hn23:n23+29≤2900:=hn23
  refine SS ?_
  refine s_val rfl rfl (v_fa fa341_8 rfl rfl) ?_
  refine s_store1 (v:=.int .i64 (n23:Nat)) cx 1 rfl rfl rfl rfl rfl rfl rfl rfl sz3 ?_;intro w cx hwS2
  refine K2 ?_
  refine s_call (c336 wb _ b d2 s2 _ R cx (by omega) [58] (by decide)) Tryz.func336 rfl rfl rfl rfl rfl rfl ?_;rintro v27 w ⟨n27,rfl,hn27,s3,d3,cx,hl3⟩
  refine K2 ?_
  refine s_call (c378 wb _ b d3 s3 _ R cx (by omega) 2 (by decide)) Tryz.func378 rfl rfl rfl rfl rfl rfl ?_;rintro v30 w ⟨n30,rfl,hn30,s4,d4,cx,hl4⟩
  replace hn30:n30+29≤2900:=hn30
  refine SS ?_
  refine s_val rfl rfl (v_fa fa341_9 rfl rfl) ?_
  refine s_store1 (v:=.int .i64 (n30:Nat)) cx 1 rfl rfl rfl rfl rfl rfl rfl rfl sz3 ?_;intro w cx hwS4
  refine SS ?_
  refine ret_no (.inr rfl) Tryz.results337 ?_
  exact ⟨rfl,s4,d4,⟨x.y,x.mo,x.d,x.h,x.mi,x.sc,x.ns,n6,n23,n30⟩,cx,by omega,⟨hx.y,hx.mo,hx.d,hx.h,hx.mi,hx.sc,hx.ns,(show n6<256 by omega),(show n23≤2900 by omega),(show n30≤2900 by omega)⟩⟩
 refine SS ?_
 refine ret_no (.inr rfl) Tryz.results337 ?_
 exact ⟨rfl,s1,d1,⟨x.y,x.mo,x.d,x.h,x.mi,x.sc,x.ns,n6,x.oh,x.om⟩,cx,by omega,⟨hx.y,hx.mo,hx.d,hx.h,hx.mi,hx.sc,hx.ns,(show n6<256 by omega),hx.oh,hx.om⟩⟩
theorem c265 (wb w0:World)(b c:Nat)(d:Bool)(s:List UInt8)(x:Fm)(L:List (Nat×Obj))(R:List Row)(cx0:Cxr wb w0 ((b,.cells ([.string (bs s),.bool d]:List Value).toArray 339)::(c,.cells ([.int .i64 (x.y:Nat),.int .i64 (x.mo:Nat),.int .i64 (x.d:Nat),.int .i64 (x.h:Nat),.int .i64 (x.mi:Nat),.int .i64 (x.sc:Nat),.int .i64 (x.ns:Nat),.int .u8 (x.sg:Nat),.int .i64 (x.oh:Nat),.int .i64 (x.om:Nat)]:List Value).toArray 341)::L) R)(hs:s.length≤1073741824)(hx:FBd x):Ret Tryz.prog 265 [.pointer (some ⟨b,0,none⟩),.pointer (some ⟨c,0,none⟩)] w0 (fun v w'=>∃ n:Nat,v=.int .i64 n∧∃ (s':List UInt8) (d':Bool) (x':Fm),Cxr wb w' ((b,.cells ([.string (bs s'),.bool d']:List Value).toArray 339)::(c,.cells ([.int .i64 (x'.y:Nat),.int .i64 (x'.mo:Nat),.int .i64 (x'.d:Nat),.int .i64 (x'.h:Nat),.int .i64 (x'.mi:Nat),.int .i64 (x'.sc:Nat),.int .i64 (x'.ns:Nat),.int .u8 (x'.sg:Nat),.int .i64 (x'.oh:Nat),.int .i64 (x'.om:Nat)]:List Value).toArray 341)::L) R∧s'.length≤s.length∧FBd x'):=by
 refine ret_enter Tryz.func265 rfl Tryz.ntmps265 rfl ?_
 have cx:=cx0
 refine K7 ?_
 refine K3v ?_
 refine K2 ?_
 refine K5g ?_
 refine K9q ?_
 refine K9r ?_
 refine s_gval rfl rfl rfl wT (fun hc=>v_idxB rfl (gve hc rfl) rfl Tryz.underlying9 (by omega) (by simp only [decide_eq_true_eq] at hc;omega)) ?_
 refine K1 ?_
 refine cSp rfl (fun hc18=>?_) (fun hc18=>?_)
 ·
  refine K2 ?_
  refine s_call (c334 wb _ b c d s x L R cx (by omega) hx) Tryz.func334 rfl rfl rfl rfl rfl rfl ?_;rintro v21 w ⟨hv21,s1,d1,x1,cx,hl1,hx1⟩
  refine K4 ?_
  refine K9s ?_
  exact ⟨2,rfl,s1,d1,x1,cx,by omega,hx1⟩
 refine K3 ?_
 refine s_call (c335 wb _ b c d s x L R cx (by omega) hx) Tryz.func335 rfl rfl rfl rfl rfl rfl ?_;rintro v24 w ⟨hv24,s1,d1,x1,cx,hl1,hx1⟩
 refine K4 ?_
 refine K3v ?_
 refine K2e ?_
 refine cSp rfl (fun hc29=>?_) (fun hc29=>?_)
 ·
  refine K3 ?_
  refine K9s ?_
  exact ⟨1,rfl,s1,d1,x1,cx,by omega,hx1⟩
 refine K2 ?_
 refine s_call (c336 wb _ b d1 s1 _ R cx (by omega) [84,116,32] (by decide)) Tryz.func336 rfl rfl rfl rfl rfl rfl ?_;rintro v31 w ⟨n31,rfl,hn31,s2,d2,cx,hl2⟩
 refine K3 ?_
 refine s_call (c334 wb _ b c d2 s2 x1 L R cx (by omega) hx1) Tryz.func334 rfl rfl rfl rfl rfl rfl ?_;rintro v34 w ⟨hv34,s3,d3,x3,cx,hl3,hx3⟩
 refine K4 ?_
 refine K3v ?_
 refine K2e ?_
 refine cSp rfl (fun hc39=>?_) (fun hc39=>?_)
 ·
  refine K3 ?_
  refine K9s ?_
  exact ⟨3,rfl,s3,d3,x3,cx,by omega,hx3⟩
 refine K3 ?_
 refine s_call (c337 wb _ b c d3 s3 x3 L R cx (by omega) hx3) Tryz.func337 rfl rfl rfl rfl rfl rfl ?_;rintro v42 w ⟨hv42,s4,d4,x4,cx,hl4,hx4⟩
 refine K4 ?_
 refine K9s ?_
 exact ⟨4,rfl,s4,d4,x4,cx,by omega,hx4⟩
theorem c187 (s:List UInt8)(w0:World)(hs:s.length≤1073741824):Fc Tryz.prog 187 [.string (bs s)] w0 (fun v _=>∃ (k d n z e:Int),v=.tuple #[.agg #[.int .i64 k,.int .i64 d,.int .i64 n,.int .i64 z],.int .i64 e]):=by
 refine ret_enter Tryz.func187 rfl Tryz.ntmps187 rfl ?_
 have cx:=Ctx.start w0
 refine K0 ?_
 refine H1 ?_;intro b2 w cx hb2 hw2
 refine K3 ?_
 refine s_val rfl rfl (v_build (qs:=[(0,.string (bs s))]) (bd339 (bs s)) rfl rfl) ?_
 refine Hc ?_;intro b12 w cx hb12 hw12
 refine K2 ?_
 refine s_alloc cx z341 rfl rfl rfl ?_;intro b5 w cx hb5 hw5
 refine K2 ?_
 replace cx:=cx.swapL
 refine s_call (c265 w0 _ b12 b5 false s ⟨0,0,0,0,0,0,0,0,0,0⟩ _ _ cx hs FBd.zero) Tryz.func265 rfl rfl rfl rfl rfl rfl ?_;rintro v14 w ⟨n14,rfl,s1,d1,x,cx,hl1,hx⟩
 have ⟨hxy,hxmo,hxd,hxh,hxmi,hxsc,hxns,hxsg,hxoh,hxom⟩:=hx
 replace cx:=cx.swapL
 refine K5 ?_
 refine K6w ?_
 refine s_val rfl rfl (v_load1 rfl rfl Tryz.underlying4 rfl ((cx.row 1 rfl).cell 1 rfl)) ?_
 refine K0 ?_
 refine K7p ?_
 refine s_gval rfl rfl rfl wF (fun hc=>v_fa fa339_0 rfl gX) ?_
 refine s_gval rfl rfl rfl wF (fun hc=>v_load1 rfl gX Tryz.underlying9 rfl ((cx.row 1 rfl).cell 0 rfl)) ?_
 refine s_gval rfl rfl rfl wF (fun hc=>v_neB (u:=[]) rfl gX rfl) ?_
 refine K0 ?_
 refine cSp rfl (fun hc25=>?_) (fun hc25=>?_)
 ·
  refine K0 ?_
  refine Kbm ?_
  refine s_storeAll cx 2 rfl rfl rfl rfl rfl rfl sz78 rfl rfl ?_;intro w cx hwS5
  refine K1 ?_
  refine ret_cell2 Tryz.results187 rfl rfl (cx.at 2 rfl) Tryz.underlying78 rfl sz78 ?_
  exact Ez0
 refine K2 ?_
 refine s_val rfl rfl (v_build (qs:=[(0,.int .i64 (n14:Nat))]) (bd78k n14) rfl rfl) ?_
 refine H1 ?_;intro b7 w cx hb7 hw7
 refine H0 ?_;intro w cx hwS6
 refine SS ?_
 refine w_cut (fun f w1=>∃ (b2 b5 b7 b12:Nat) (dn:Int),f 2=.pointer (some ⟨b2,0,none⟩)∧f 5=.pointer (some ⟨b5,0,none⟩)∧f 7=.pointer (some ⟨b7,0,none⟩)∧Ctx w0 w1 [(b7,.cells ([.int .i64 n14,.int .i64 dn,.int .i64 0,.int .i64 0]:List Value).toArray 78),(b5,.cells ([.int .i64 (x.y:Nat),.int .i64 (x.mo:Nat),.int .i64 (x.d:Nat),.int .i64 (x.h:Nat),.int .i64 (x.mi:Nat),.int .i64 (x.sc:Nat),.int .i64 (x.ns:Nat),.int .u8 (x.sg:Nat),.int .i64 (x.oh:Nat),.int .i64 (x.om:Nat)]:List Value).toArray 341),(b12,.cells ([.string (bs s1),.bool d1]:List Value).toArray 339),(b2,.cells ([.int .i64 0,.int .i64 0,.int .i64 0,.int .i64 0]:List Value).toArray 78)]) ?_ ?_
 ·
  refine K3 ?_
  refine cSp rfl (fun hc30=>?_) (fun hc30=>?_)
  ·
   refine K0 ?_
   refine s_val rfl rfl (v_fa fa341_0 rfl rfl) ?_
   refine K1m ?_
   refine s_val rfl rfl (v_fa fa341_1 rfl rfl) ?_
   refine K1m ?_
   refine s_val rfl rfl (v_fa fa341_2 rfl rfl) ?_
   refine K1m ?_
   refine s_fn cx (c266 x.y x.mo x.d _ (by omega) (by omega)) Tryz.func266 rfl rfl rfl rfl rfl rfl ?_;intro q38 w cx hw38 hp38
   obtain ⟨dn,de,rfl⟩:=hp38
   refine Ko ?_
   refine cSp rfl (fun hc42=>?_) (fun hc42=>?_)
   ·
    refine K0 ?_
    refine Kbm ?_
    refine s_storeAll cx 3 rfl rfl rfl rfl rfl rfl sz78 rfl rfl ?_;intro w cx hwS10
    refine K1 ?_
    refine ret_cell2 Tryz.results187 rfl rfl (cx.at 3 rfl) Tryz.underlying78 rfl sz78 ?_
    exact Ez0
   refine K1 ?_
   refine K98 ?_
   refine s_store1 (v:=.int .i64 (dn)) cx 0 rfl rfl rfl rfl rfl rfl rfl rfl sz3 ?_;intro w cx hwS11
   refine SS ?_
   exact Bz155
  refine SS ?_
  exact Bz155
 intro f w hJ
 obtain ⟨b2,b5,b7,b12,dn,hs2,hs5,hs7,cx⟩:=hJ
 refine K1 ?_
 refine s_val rfl rfl (v_fa fa341_3 rfl hs5) ?_
 refine K1m ?_
 refine K0 ?_
 refine s_gval rfl rfl rfl wF (fun hc=>v_fa fa341_4 rfl hs5) ?_
 refine K5h ?_
 refine K1 ?_
 refine s_gval rfl rfl rfl wF (fun hc=>v_fa fa341_5 rfl hs5) ?_
 refine K5h ?_
 refine K1 ?_
 refine s_gval rfl rfl rfl wF (fun hc=>v_fa fa341_8 rfl hs5) ?_
 refine K5h ?_
 refine K1 ?_
 refine s_gval rfl rfl rfl wF (fun hc=>v_fa fa341_9 rfl hs5) ?_
 refine K5h ?_
 refine K1 ?_
 refine cSp rfl (fun hc68=>?_) (fun hc68=>?_)
 ·
  refine K0 ?_
  refine Kbm ?_
  refine s_storeAll cx 3 rfl rfl rfl hs2 rfl rfl sz78 rfl rfl ?_;intro w cx hwS13
  refine K1 ?_
  refine ret_cell2 Tryz.results187 hs2 rfl (cx.at 3 rfl) Tryz.underlying78 rfl sz78 ?_
  exact Ez0
 refine K1 ?_
 refine s_val rfl rfl (v_fa fa341_3 rfl hs5) ?_
 refine K1m ?_
 refine SS ?_
 refine s_val rfl rfl (v_fa fa341_4 rfl hs5) ?_
 refine K1m ?_
 refine K0 ?_
 refine s_val rfl rfl (v_fa fa341_5 rfl hs5) ?_
 refine K1m ?_
 refine K0 ?_
 refine s_val rfl rfl (v_fa fa341_6 rfl hs5) ?_
 refine K1m ?_
 refine SS ?_
 refine s_val rfl rfl (v_fa fa78_2 rfl hs7) ?_
 refine s_store1 (v:=.int .i64 (((x.h*60+x.mi)*60+x.sc)*1000000000+x.ns)) cx 0 rfl rfl rfl rfl rfl rfl rfl rfl sz3 ?_;intro w cx hwS14
 refine K1 ?_
 refine s_val rfl rfl (v_fa fa341_8 rfl hs5) ?_
 refine K1m ?_
 refine SS ?_
 refine s_val rfl rfl (v_fa fa341_9 rfl hs5) ?_
 refine K1m ?_
 refine SS ?_
 refine s_val rfl rfl (v_fa fa78_3 rfl hs7) ?_
 refine s_store1 (v:=.int .i64 (x.oh*60+x.om)) cx 0 rfl rfl rfl rfl rfl rfl rfl rfl sz3 ?_;intro w cx hwS15
 refine SS ?_
 refine w_cut (fun f w1=>∃ (b2 b7:Nat) (z:Int),f 2=.pointer (some ⟨b2,0,none⟩)∧f 7=.pointer (some ⟨b7,0,none⟩)∧Ctx w0 w1 [(b7,.cells ([.int .i64 n14,.int .i64 dn,.int .i64 (((x.h*60+x.mi)*60+x.sc)*1000000000+x.ns),.int .i64 z]:List Value).toArray 78),(b2,.cells ([.int .i64 0,.int .i64 0,.int .i64 0,.int .i64 0]:List Value).toArray 78)]) ?_ ?_
 ·
  refine K0 ?_
  refine s_val rfl rfl (v_fa fa341_7 rfl hs5) ?_
  refine s_val rfl rfl (v_load1 rfl rfl Tryz.underlying5 rfl (cx.cell 1 rfl rfl)) ?_
  refine K0 ?_
  refine cSp rfl (fun hc94=>?_) (fun hc94=>?_)
  ·
   refine SS ?_
   refine s_val rfl rfl (v_fa fa78_3 rfl hs7) ?_
   refine K12 ?_
   refine K3k ?_
   refine s_val rfl rfl (v_fa fa78_3 rfl hs7) ?_
   refine s_store1 (v:=.int .i64 (-((x.oh:Int)*60+x.om))) cx 0 rfl rfl rfl rfl rfl rfl rfl rfl sz3 ?_;intro w cx hwS17
   refine SS ?_
   exact Ezn
  refine SS ?_
  exact Ezn
 intro f w hJ
 obtain ⟨b2,b7,z,hs2,hs7,cx⟩:=hJ
 refine K0 ?_
 refine s_val rfl rfl (v_load rfl hs7 Tryz.underlying78 rfl sz78 (cx.row 0 rfl) rfl) ?_
 refine H3 ?_;intro w cx hwS18
 refine K1 ?_
 refine ret_cell2 Tryz.results187 hs2 rfl (cx.at 1 rfl) Tryz.underlying78 rfl sz78 ?_
 exact Ez0
end Go.Proofs.YthiafbkolhnadaaGreatDoor
end
section
namespace Go.Dk
open Go Go.RowKit Go.Lib
section
variable {P:Program} {ops:Array Oper} {Q:Exit→Act→World→Prop} {o:Oper} {rest:List Oper} {n:Nat} {f:Nat→Value} {wb w0 w w':World} {L:List (Nat×Obj)} {R:List Row} {ρ:Operand→Value}
theorem run_callv {k : Nat} {x : Operand} {opd : Array Operand} {ats : Array TypeId} {fn : Func} {args cap : List Value} (hf : P.funcs[k]? = some fn) (hb : fn.body.isNone = false) (hn : (fn.name == "runtime.NumGoroutine") = false)
  (ho:o.op=.call { callee:=.value x,args:=opd,argTypes:=ats }) (hx:ev n f x=.func (.func k) #[] cap.toArray) (hargs:opd.toList.map (ev n f)=args):(execOp (ev n f) o).run P w=.ok (.enter k (args++cap).toArray) w:=by
 exact Bz31
theorem s_fnv {d k : Nat} {x : Operand} {opd : Array Operand} {ats : Array TypeId} {fn : Func} {args cap : List Value} {T : Value → World → Prop} (cx : Cxr w0 w L R) (hc : Fc P k (args ++ cap) w T) (hf : P.funcs[k]? = some fn) (hb : fn.body.isNone = false) (hn : (fn.name == "runtime.NumGoroutine") = false)
  (hg:o.guard=none) (hd:o.dst=some d) (ho:o.op=.call { callee:=.value x,args:=opd,argTypes:=ats }) (hx:ev n f x=.func (.func k) #[] cap.toArray) (hargs:opd.toList.map (ev n f)=args)
  (h:∀ v w',Cxr w0 w' L R→Below w.heap.size w w'→T v w'→wpList P ops Q rest (St n (upd f d v)) w'):wpList P ops Q (o::rest) (St n f) w :=
 s_callv hc hf hb hn hg hd ho hx hargs fun v w' ⟨hw,hr⟩=>h v w' (cx.call hw) hw hr
theorem s_gfnv {d j dj k:Nat}{pol c:Bool}{x:Operand}{opd:Array Operand}{ats:Array TypeId}{fn:Func}{args cap:List Value}{T:Value→World→Prop}(cx:Cxr w0 w L R)(hg:o.guard=some (j,pol))(hd:o.dst=some d)(hj:(ops[j]?).bind (·.dst)=some dj)(hw:WantB (ev n f (.tmp dj)) pol c)
  (hc : c = true → Fc P k (args ++ cap) w T) (hf : P.funcs[k]? = some fn) (hb : fn.body.isNone = false) (hn : (fn.name == "runtime.NumGoroutine") = false)
  (ho:o.op=.call { callee:=.value x,args:=opd,argTypes:=ats }) (hx:c=true→ev n f x=.func (.func k) #[] cap.toArray) (hargs:c=true→opd.toList.map (ev n f)=args)
  (h:∀ v w',Cxr w0 w' L R→Below w.heap.size w w'→(c=true→T v w')→wpList P ops Q rest (St n (upd f d (gv c v))) w'):wpList P ops Q (o::rest) (St n f) w:=by
 have hwant:=wanted_St (o:=o) (ops:=ops) hg hj hw
 refine wpList_step fun K hK=>?_
 rw [hwant]
 cases c with
 | true =>
  simp only [if_true]
  unfold Oper.wp
  rw [eval_St,run_callv hf hb hn ho (hx rfl) (hargs rfl)]
  exact Bz92
 | false =>
  exact Bz111
theorem Cxr.callOwn (h:Cxr wb w L R){b:Nat}{o:Obj}(hc:Cxr w w' [(b,o)] []):Cxr wb w' ((b,o)::L) R:=by
 have h1:=h.call hc.ext
 have hb:w.heap.size≤b:=hc.lo (b,o) (List.mem_cons_self ..)
 refine ⟨h1.ext,?_,?_,?_,h1.rows,?_,h1.pw⟩
 · intro p hp
   rcases List.mem_cons.1 hp with rfl | hp
   · exact hc.own _ (List.mem_cons_self ..)
   · exact h1.own p hp
 · intro p hp
   rcases List.mem_cons.1 hp with rfl | hp
   · exact Nat.le_trans h.ext.size hb
   · exact h1.lo p hp
 · rw [List.map_cons,List.nodup_cons]
   refine ⟨fun hm=>?_,h1.nd⟩
   obtain ⟨p,hp,he⟩:=List.mem_map.1 hm
   have:=h.lt p hp
   have h2:p.1=b:=he
   omega
 · intro r hr k hk hm
   rw [List.map_cons,List.mem_cons] at hm
   rcases hm with hm | hm
   · have:=((h.rows r hr).lt _ hk).2
     rw [hm] at this
     have h2:w.heap.size≤b:=hb
     exact absurd this (by show ¬ b<_;omega)
   · exact h1.off r hr k hk hm
theorem shl1 {a:Nat}(h:a<14):∃ m:Nat,shl .i64 1 a=(m:Int)∧1≤m∧m≤8192:=by
 have:∀ a:Fin 14,shl .i64 1 a.val=((2^a.val:Nat):Int):=by decide +kernel
 exact ⟨2^a,this ⟨a,h⟩,Nat.one_le_two_pow,Nat.pow_le_pow_right (n:=2) (by decide) (show a≤13 by omega)⟩
end
theorem bvI (m:Int):∃ x:UInt8,Value.int .u8 (IntKind.u8.wrap m)=bv x:=by
 have h0:0≤IntKind.u8.wrap m∧IntKind.u8.wrap m<256:=by simp [IntKind.wrap,IntKind.signed,IntKind.bits];omega
 obtain ⟨h0,h1⟩:=h0
 refine ⟨UInt8.ofNat (IntKind.u8.wrap m).toNat,congrArg (Value.int .u8) ?_⟩
 rw [show (UInt8.ofNat (IntKind.u8.wrap m).toNat).toNat=(IntKind.u8.wrap m).toNat by rw [UInt8.toNat_ofNat'];omega]
 omega
end Go.Dk
end
section
namespace Go.Proofs.YthiafbkolhnadaaGreatDoor
open Go Go.Dk Go.RowKit Go.Lib
attribute [local irreducible] Go.wpList Go.Code.wp Go.bodyPost Go.wpStill Go.wpQuiet
theorem c169 (s p:List UInt8)(w0:World)(hs:s.length≤1073741824)(hp:p.length≤1000):Fc Tryz.prog 169 [.string (bs s),.string (bs p)] w0 (IsB fun b=>b=true→p.length≤s.length):=by
 refine ret_enter Tryz.func169 rfl Tryz.ntmps169 rfl ?_
 have cx:=Ctx.start w0
 refine K21 ?_
 refine K8m ?_
 refine SS ?_
 refine K8n ?_
 refine K2 ?_
 refine ret_tmp Tryz.results169 rfl ?_
 exact ⟨cx.ext,_,rfl,fun h=>by simp only [Bool.and_eq_true,decide_eq_true_eq] at h;omega⟩
theorem c343 (s p:List UInt8)(w0:World)(hs:s.length≤1073741824)(hp:p.length≤1000):Fc Tryz.prog 343 [.string (bs s),.string (bs p)] w0 (IsB fun b=>b=true→p.length≤s.length):=by
 refine ret_enter Tryz.func343 rfl Tryz.ntmps343 rfl ?_
 have cx:=Ctx.start w0
 refine K6 ?_
 refine s_fnB cx ((c169 s p _ hs hp)) Tryz.func169 rfl rfl rfl rfl rfl rfl ?_;intro q7 w cx hw7 hp7
 refine K1 ?_
 refine ret_tmp Tryz.results343 rfl ?_
 exact ⟨cx.ext,_,rfl,hp7⟩
theorem c384 (s:List UInt8)(m:Int)(w0:World)(hs:s.length≤1073741824):Fc Tryz.prog 384 [.string (bs s),.int .u8 m] w0 (fun v _=>∃ t:List UInt8,v=.string (bs t)∧t.length≤s.length):=by
 refine ret_enter Tryz.func384 rfl Tryz.ntmps384 rfl ?_
 have cx:=Ctx.start w0
 refine K4 ?_
 refine w_loop (fun g f w1=>∃ t:List UInt8,g=t.length∧t.length≤s.length∧f 0=.string (bs t)∧f 1=.int .u8 m∧Ctx w0 w1 []) (s.length) ?_ ?_
 ·
  exact ⟨s,rfl,by omega,rfl,rfl,cx⟩
 intro gk1 f w hJ
 obtain ⟨t,hg,ht,hs0,hs1,cx⟩:=hJ
 refine K6e ?_
 refine K2w ?_
 refine K8q ?_
 refine K1 ?_
 refine cSp rfl (fun hc13=>?_) (fun hc13=>?_)
 ·
  refine K9 ?_
  refine K1 ?_
  exact ⟨(t.drop (Int.toNat 1)).length,_,by rw [List.length_drop];omega,rfl,_,rfl,by rw [List.length_drop];omega,rfl,hs1,cx⟩
 refine K9 ?_
 refine K1 ?_
 refine ret_tmp Tryz.results384 rfl ?_
 exact Ezo
theorem c390 (s:List UInt8)(m:Int)(w0:World)(hs:s.length≤1073741824):Fc Tryz.prog 390 [.string (bs s),.int .u8 m] w0 (fun v _=>∃ t:List UInt8,v=.string (bs t)∧t.length≤s.length):=by
 refine ret_enter Tryz.func390 rfl Tryz.ntmps390 rfl ?_
 have cx:=Ctx.start w0
 refine K4 ?_
 refine w_loop (fun g f w1=>∃ t:List UInt8,g=t.length∧t.length≤s.length∧f 0=.string (bs t)∧f 1=.int .u8 m∧Ctx w0 w1 []) (s.length) ?_ ?_
 ·
  exact ⟨s,rfl,by omega,rfl,rfl,cx⟩
 intro gk1 f w hJ
 obtain ⟨t,hg,ht,hs0,hs1,cx⟩:=hJ
 refine K6e ?_
 refine Ks ?_
 refine SS ?_
 refine K8r ?_
 refine K2h ?_
 refine K8q ?_
 refine K1 ?_
 refine cSp rfl (fun hc16=>?_) (fun hc16=>?_)
 ·
  refine K9 ?_
  refine K69 ?_
  refine K29 ?_
  refine K0 ?_
  exact ⟨(t.take (Int.toNat ((t.length:Int)-1))).length,_,by rw [List.length_take];omega,rfl,_,rfl,by rw [List.length_take];omega,rfl,hs1,cx⟩
 refine K9 ?_
 refine K1 ?_
 refine ret_tmp Tryz.results390 rfl ?_
 exact Ezo
theorem c346 (s:List UInt8)(w0:World)(hs:s.length≤1073741824):Fc Tryz.prog 346 [.string (bs s),.string (bs [48])] w0 (fun v _=>∃ t:List UInt8,v=.string (bs t)∧t.length≤s.length):=by
 refine ret_enter Tryz.func346 rfl Tryz.ntmps346 rfl ?_
 have cx:=Ctx.start w0
 refine K6 ?_
 refine K81 ?_
 refine K0 ?_
 refine s_gval rfl rfl rfl wF (fun hc=>v_eqB (u:=[]) rfl gX rfl) ?_
 refine K0 ?_
 refine cSp rfl (fun hc12=>?_) (fun hc12=>?_)
 ·
  refine K4 ?_
  refine ret_tmp Tryz.results346 rfl ?_
  exact ⟨cx.ext,s,rfl,by omega⟩
 refine K7 ?_
 refine Kev ?_
 refine K1 ?_
 refine c_split rfl (fun hc21=>?_) (fun hc21=>?_)
 ·
  try simp only [bsl] at hc21
  refine K2 ?_
  refine Kew ?_
  refine s_fn cx (c384 s _ _ hs) Tryz.func384 rfl rfl rfl rfl rfl rfl ?_;intro q25 w cx hw25 hp25
  obtain ⟨t,rfl,ht⟩:=hp25
  refine K1 ?_
  refine ret_tmp Tryz.results346 rfl ?_
  exact Ezo
 exact absurd hc21 (by decide)
theorem c359 (s:List UInt8)(w0:World)(hs:s.length≤1073741824):Fc Tryz.prog 359 [.string (bs s),.string (bs [48])] w0 (fun v _=>∃ t:List UInt8,v=.string (bs t)∧t.length≤s.length):=by
 refine ret_enter Tryz.func359 rfl Tryz.ntmps359 rfl ?_
 have cx:=Ctx.start w0
 refine K6 ?_
 refine K81 ?_
 refine K0 ?_
 refine s_gval rfl rfl rfl wF (fun hc=>v_eqB (u:=[]) rfl gX rfl) ?_
 refine K0 ?_
 refine cSp rfl (fun hc12=>?_) (fun hc12=>?_)
 ·
  refine K4 ?_
  refine ret_tmp Tryz.results359 rfl ?_
  exact ⟨cx.ext,s,rfl,by omega⟩
 refine K7 ?_
 refine Kev ?_
 refine K1 ?_
 refine c_split rfl (fun hc21=>?_) (fun hc21=>?_)
 ·
  try simp only [bsl] at hc21
  refine K2 ?_
  refine Kew ?_
  refine s_fn cx (c390 s _ _ hs) Tryz.func390 rfl rfl rfl rfl rfl rfl ?_;intro q25 w cx hw25 hp25
  obtain ⟨t,rfl,ht⟩:=hp25
  refine K1 ?_
  refine ret_tmp Tryz.results359 rfl ?_
  exact Ezo
 exact absurd hc21 (by decide)
theorem c344 (s:List UInt8)(w0:World)(hs:s.length≤1073741824):Fc Tryz.prog 344 [.string (bs s)] w0 (fun v _=>∃ n:Nat,v=.int .i64 n∧n≤s.length):=by
 refine ret_enter Tryz.func344 rfl Tryz.ntmps344 rfl ?_
 have cx:=Ctx.start w0
 refine K8 ?_
 refine w_loop (fun g f w1=>∃ i:Nat,g+i=s.length∧f 0=.string (bs s)∧f 3=.int .i64 i∧Ctx w0 w1 []) (s.length) ?_ ?_
 ·
  exact Ezc
 intro gk2 f w hJ
 obtain ⟨i,hg,hs0,hs3,cx⟩:=hJ
 refine K10 ?_
 refine K1j ?_
 refine K1e ?_
 refine K1o ?_
 refine Ks ?_
 refine K1e ?_
 refine K1o ?_
 refine cSp rfl (fun hc19=>?_) (fun hc19=>?_)
 ·
  refine K0 ?_
  exact Bz22
 refine K1f ?_
 refine ret_tmp Tryz.results344 rfl ?_
 exact Ezd
theorem c358 (s:List UInt8)(w0:World)(hs:s.length≤1073741824):Fc Tryz.prog 358 [.string (bs s)] w0 (IsB fun _=>True):=by
 refine ret_enter Tryz.func358 rfl Tryz.ntmps358 rfl ?_
 have cx:=Ctx.start w0
 refine Ko ?_
 refine w_loop (fun g f w1=>∃ i:Nat,g+i=s.length∧f 0=.string (bs s)∧f 5=.int .i64 s.length∧f 6=.int .i64 i∧Ctx w0 w1 []) (s.length) ?_ ?_
 ·
  exact Ezf
 intro gk2 f w hJ
 obtain ⟨i,hg,hs0,hs5,hs6,cx⟩:=hJ
 refine K0 ?_
 refine s_val rfl rfl (v_cmp rfl hs6 hs5 rfl) ?_
 refine K0 ?_
 refine cSp rfl (fun hc7=>?_) (fun hc7=>?_)
 ·
  refine K3 ?_
  refine Kc ?_
  refine K1p ?_
  refine K2 ?_
  refine Kx ?_
  refine SS ?_
  refine K2c ?_
  refine cSp rfl (fun hc18=>?_) (fun hc18=>?_)
  ·
   exact Bz97
  refine K0 ?_
  refine s_val rfl rfl (v_add rfl hs6 rfl (by omega) (by omega)) ?_
  refine K0 ?_
  exact ⟨gk2-1,_,by omega,rfl,i+1,by omega,hs0,hs5,rfl,cx⟩
 refine SS ?_
 exact Bz97
theorem c294 (s:List UInt8)(w0:World)(hs:s.length≤1073741824):Fc Tryz.prog 294 [.string (bs s)] w0 (IsB fun _=>True):=by
 refine ret_enter Tryz.func294 rfl Tryz.ntmps294 rfl ?_
 have cx:=Ctx.start w0
 refine Ka ?_
 refine s_gfnB cx rfl rfl rfl wT (fun hc=>(c358 s _ hs)) Tryz.func358 rfl rfl rfl (fun hc=>(cons_eq gX rfl)) ?_;intro q8 w cx hw8 hp8
 refine K1 ?_
 refine s_gval rfl rfl rfl wT (fun hc=>v_eqB (u:=[]) rfl gX rfl) ?_
 refine K0 ?_
 refine s_gval rfl rfl rfl wF (fun hc=>v_idxB rfl (gve hc rfl) rfl Tryz.underlying9 (by decide) (by have h:s≠[]:=(by simp only [Bool.and_eq_true,Bool.not_eq_true',decide_eq_false_iff_not] at hc;exact hc.2);have:=List.length_pos_iff.2 h;omega)) ?_
 refine K4 ?_
 refine ret_tmp Tryz.results294 rfl ?_
 exact Ezj
theorem c295 (s:List UInt8)(w0:World)(hs:s.length≤1073741824):Fc Tryz.prog 295 [.string (bs s)] w0 (fun v _=>∃ n:Nat,v=.int .i64 n∧n≤s.length):=by
 refine ret_enter Tryz.func295 rfl Tryz.ntmps295 rfl ?_
 have cx:=Ctx.start w0
 refine K7 ?_
 refine s_fn cx (c359 s _ hs) Tryz.func359 rfl rfl rfl rfl rfl rfl ?_;intro q6 w cx hw6 hp6
 obtain ⟨t,rfl,ht⟩:=hp6
 refine K3 ?_
 refine ret_tmp Tryz.results295 rfl ?_
 exact ⟨cx.ext,s.length-t.length,congrArg (Value.int .i64) (by omega),by omega⟩
theorem c383 (s:List UInt8)(w0:World)(hs:s.length≤12):Fc Tryz.prog 383 [.string (bs s)] w0 (fun v _=>∃ (n:Nat) (e:Int),v=.tuple #[.int .i64 n,.int .i64 e]∧n≤29000000000000):=by
 refine ret_enter Tryz.func383 rfl Tryz.ntmps383 rfl ?_
 have cx:=Ctx.start w0
 refine K7 ?_
 refine s_fnB cx (c294 s _ (by omega)) Tryz.func294 rfl rfl rfl rfl rfl rfl ?_;intro q8 w cx hw8 hp8
 refine K0 ?_
 refine cSp rfl (fun hc9=>?_) (fun hc9=>?_)
 ·
  exact Bz74
 refine K14 ?_
 refine w_loop (fun g f w1=>∃ i n:Nat,g+i=s.length∧n+29≤29*10^i∧f 0=.string (bs s)∧f 4=.int .i64 n∧f 11=.int .i64 s.length∧f 12=.int .i64 i∧Ctx w0 w1 []) (s.length) ?_ ?_
 ·
  exact ⟨0,0,by omega,by simp,rfl,rfl,rfl,rfl,cx⟩
 intro gk5 f w hJ
 obtain ⟨i,n,hg,hn,hs0,hs4,hs11,hs12,cx⟩:=hJ
 have hpw:10^i≤10^12:=Nat.pow_le_pow_right (by decide) (by omega)
 have hp12:10^12=1000000000000:=by decide
 refine K0 ?_
 refine s_val rfl rfl (v_cmp rfl hs12 hs11 rfl) ?_
 refine K0 ?_
 refine cSp rfl (fun hc13=>?_) (fun hc13=>?_)
 ·
  refine K3 ?_
  refine K8s ?_
  refine K2 ?_
  obtain ⟨y,hy⟩:∃ y,IntKind.u8.wrap (((s.getD (Int.toNat (i:Int)) 0).toNat:Nat)-48)=y:=⟨_,rfl⟩
  refine K69 ?_
  refine K50 ?_
  refine K8x ?_
  refine K3 ?_
  rw [hy]
  have hwr:=wr8 (((s.getD (Int.toNat (i:Int)) 0).toNat:Nat)-48)
  rw [hy] at hwr
  refine K22 ?_
  refine s_val rfl rfl (v_subQ (r:=((9223372036854775807-y.toNat:Nat):Int)) rfl rfl rfl (by omega) (by omega) (by omega)) ?_
  refine s_val rfl rfl (v_quo (p:=9223372036854775807-y.toNat) (q:=10) rfl rfl rfl (by omega) (by decide)) ?_
  refine K0 ?_
  refine cSp rfl (fun hc24=>?_) (fun hc24=>?_)
  ·
   exact Bz74
  refine K1i ?_
  refine K4 ?_
  refine s_val rfl rfl (v_add rfl hs12 rfl (by omega) (by omega)) ?_
  refine K0 ?_
  refine ⟨gk5-1,_,by omega,rfl,i+1,n*10+y.toNat,by omega,by rw [Nat.pow_succ];omega,hs0,congrArg (Value.int .i64) (by omega),hs11,rfl,cx⟩
 refine Kl ?_
 refine K2 ?_
 refine ret_tmp2 Tryz.results383 rfl rfl ?_
 rw [show i=s.length by omega] at hn
 have hpw2:10^s.length≤10^12:=Nat.pow_le_pow_right (by decide) hs
 exact ⟨cx.ext,n,0,rfl,by omega⟩
theorem c345 (x:Int)(d:Bool)(s:List UInt8)(w0:World)(hs:s.length≤1073741824)(hx0:-1073741824≤x)(hx1:x≤1073741824):Fc Tryz.prog 345 [.int .i64 x,.bool d,.string (bs s)] w0 (fun v _=>∃ y:Int,v=.int .i64 y∧-30000000000000≤y∧y≤30000000000000):=by
 refine ret_enter Tryz.func345 rfl Tryz.ntmps345 rfl ?_
 have cx:=Ctx.start w0
 refine K6 ?_
 refine w_cut (fun f w1=>∃ n:Nat,n≤29000000000000∧f 0=.int .i64 x∧f 1=.bool d∧f 7=.int .i64 n∧Ctx w0 w1 []) ?_ ?_
 ·
  refine K4 ?_
  refine cSp rfl (fun hc10=>?_) (fun hc10=>?_)
  ·
   refine K0 ?_
   refine s_fn cx (c383 s _ (by omega)) Tryz.func383 rfl rfl rfl rfl rfl rfl ?_;intro q13 w cx hw13 hp13
   obtain ⟨n,e,rfl,hn⟩:=hp13
   refine K3 ?_
   exact Bz153
  refine SS ?_
  exact Bz153
 intro f w hJ
 obtain ⟨n,hn,hs0,hs1,hs7,cx⟩:=hJ
 refine K1 ?_
 refine K3b ?_
 refine cSp rfl (fun hc16=>?_) (fun hc16=>?_)
 ·
  refine Km ?_
  refine Kk ?_
  refine SS ?_
  exact Bz109
 refine K9 ?_
 refine Kk ?_
 refine SS ?_
 exact Bz109
theorem bd76n (b:Bool)(s:ByteArray)(x:Int)(w:World):(Instr.build 76 ([(0,.bool b),(1,.string s),(2,.int .i64 x)]:List (Nat×Value)).toArray).run Tryz.prog w=.ok (.agg #[.bool b,.string s,.int .i64 x]) w:=by
 go_simp
 try rfl
theorem c388 (d:Bool)(s:List UInt8)(x:Int)(w0:World)(hs:s.length≤1073741824)(hx0:-40000000000000≤x)(hx1:x≤40000000000000):Fc Tryz.prog 388 [.bool d,.string (bs s),.int .i64 x] w0 (fun v _=>∃ (b:Bool) (t:List UInt8) (y e:Int),v=.tuple #[.agg #[.bool b,.string (bs t),.int .i64 y],.int .i64 e]∧t.length≤s.length∧-400≤y∧y≤400):=by
 refine ret_enter Tryz.func388 rfl Tryz.ntmps388 rfl ?_
 have cx:=Ctx.start w0
 refine K0 ?_
 refine H8 ?_;intro b6 w cx hb6 hw6
 refine K4 ?_
 refine K2e ?_
 refine cSp rfl (fun hc10=>?_) (fun hc10=>?_)
 ·
  refine K4u ?_
  refine H9 ?_;intro w cx hwS2
  exact Bz76
 refine K4 ?_
 refine s_fn cx (c359 s _ hs) Tryz.func359 rfl rfl rfl rfl rfl rfl ?_;intro q15 w cx hw15 hp15
 obtain ⟨t,rfl,ht⟩:=hp15
 refine Ka ?_
 refine K29 ?_
 refine Ko ?_
 refine s_gval rfl rfl rfl wF (fun hc=>v_sub rfl rfl gX p0q p0q) ?_
 refine K6 ?_
 refine cSp rfl (fun hc38=>?_) (fun hc38=>?_)
 ·
  refine K4u ?_
  refine H9 ?_;intro w cx hwS6
  exact Bz76
 refine K6 ?_
 refine s_val rfl rfl (v_build (qs:=[(0,.bool d),(1,.string (bs (s.take (Int.toNat ((s.length:Int)-((s.length:Int)-(t.length:Int))))))),(2,.int .i64 (x+((s.length:Int)-(t.length:Int))))]) (bd76n _ _ _) rfl rfl) ?_
 refine H9 ?_;intro w cx hwS7
 refine K1 ?_
 refine Kch ?_
 exact ⟨cx.ext,d,_,_,0,rfl,by rw [List.length_take];omega,by omega,by omega⟩
theorem c347 (d:Bool)(s:List UInt8)(x:Int)(w0:World)(hs:s.length≤1073741824)(hx0:-40000000000000≤x)(hx1:x≤40000000000000):Fc Tryz.prog 347 [.bool d,.string (bs s),.int .i64 x] w0 (fun v _=>∃ (b:Bool) (t:List UInt8) (y e:Int),v=.tuple #[.agg #[.bool b,.string (bs t),.int .i64 y],.int .i64 e]∧t.length≤s.length∧-400≤y∧y≤400):=by
 refine ret_enter Tryz.func347 rfl Tryz.ntmps347 rfl ?_
 have cx:=Ctx.start w0
 refine K0 ?_
 refine H8 ?_;intro b6 w cx hb6 hw6
 refine K8 ?_
 refine w_loop (fun g f w1=>∃ (i b6:Nat),g+i=s.length∧f 0=.bool d∧f 1=.string (bs s)∧f 2=.int .i64 x∧f 6=.pointer (some ⟨b6,0,none⟩)∧f 10=.int .i64 s.length∧f 11=.int .i64 i∧Ctx w0 w1 [(b6,.cells ([.bool false,.string ByteArray.empty,.int .i64 0]:List Value).toArray 76)]) (s.length) ?_ ?_
 ·
  exact ⟨0,_,by omega,rfl,rfl,rfl,rfl,rfl,rfl,cx⟩
 intro gk2 f w hJ
 obtain ⟨i,b6,hg,hs0,hs1,hs2,hs6,hs10,hs11,cx⟩:=hJ
 refine K0 ?_
 refine s_val rfl rfl (v_cmp rfl hs11 hs10 rfl) ?_
 refine K0 ?_
 refine cSp rfl (fun hc12=>?_) (fun hc12=>?_)
 ·
  refine K3 ?_
  refine K1y ?_
  refine K2 ?_
  refine Ky ?_
  refine K2 ?_
  refine K76 ?_
  refine SS ?_
  refine K2c ?_
  refine cSp rfl (fun hc23=>?_) (fun hc23=>?_)
  ·
   refine K4u ?_
   refine s_storeAll cx 0 rfl rfl rfl hs6 rfl rfl sz76 rfl rfl ?_;intro w cx hwS5
   refine K1 ?_
   refine Key ?_
   exact ⟨cx.ext,false,[],0,_,rfl,by simp,by omega,by omega⟩
  refine K0 ?_
  refine s_val rfl rfl (v_add rfl hs11 rfl (by omega) (by omega)) ?_
  refine K0 ?_
  exact ⟨gk2-1,_,by omega,rfl,i+1,b6,by omega,hs0,hs1,hs2,hs6,hs10,rfl,cx⟩
 refine K9 ?_
 refine Ky ?_
 refine s_fn cx (c346 s _ hs) Tryz.func346 rfl rfl rfl rfl rfl rfl ?_;intro q28 w cx hw28 hp28
 obtain ⟨t,rfl,ht⟩:=hp28
 refine Kp ?_
 refine s_fn cx (c388 d t x _ (by omega) hx0 hx1) Tryz.func388 rfl rfl rfl rfl rfl rfl ?_;intro q30 w cx hw30 hp30
 obtain ⟨b30,t30,y30,e30,rfl,ht30,hy30,hy31⟩:=hp30
 refine K0 ?_
 refine s_storeAll cx 0 rfl rfl rfl hs6 rfl rfl sz76 rfl rfl ?_;intro w cx hwS7
 refine K1 ?_
 refine Key ?_
 exact ⟨cx.ext,_,t30,_,_,rfl,by omega,hy30,hy31⟩
theorem c269 (s:List UInt8)(w0:World)(hs:s.length≤1000000000):Fc Tryz.prog 269 [.string (bs s)] w0 (fun v _=>∃ (b:Bool) (t:List UInt8) (y e:Int),v=.tuple #[.agg #[.bool b,.string (bs t),.int .i64 y],.int .i64 e]∧t.length≤s.length∧-400≤y∧y≤400∧(e=0→0<s.length)):=by
 refine ret_enter Tryz.func269 rfl Tryz.ntmps269 rfl ?_
 have cx:=Ctx.start w0
 refine K0 ?_
 refine H8 ?_;intro b2 w cx hb2 hw2
 refine K3 ?_
 refine s_fnB cx (c343 s [45] _ (by omega) (by decide)) Tryz.func343 rfl rfl rfl rfl rfl rfl ?_;intro q10 w cx hw10 hp10
 refine K0 ?_
 refine w_cut (fun f w1=>∃ (s1:List UInt8) (b2:Nat),s1.length≤s.length∧f 0=.string (bs s1)∧f 2=.pointer (some ⟨b2,0,none⟩)∧f 4=.bool q10∧Ctx w0 w1 [(b2,.cells ([.bool false,.string ByteArray.empty,.int .i64 0]:List Value).toArray 76)]) ?_ ?_
 ·
  refine K2 ?_
  refine cSp rfl (fun hc11=>?_) (fun hc11=>?_)
  ·
   have hl1:=hp10 hc11
   simp only [List.length_cons,List.length_nil] at hl1
   refine K3 ?_
   first | exact ⟨_,rfl,_,_,p7q,rfl,rfl,rfl,cx⟩
  refine SS ?_
  first | exact ⟨_,rfl,_,_,p7q,rfl,rfl,rfl,cx⟩
 intro f w hJ
 obtain ⟨s1,b2,hs1,hs0,hs2,hs4,cx⟩:=hJ
 refine Km ?_
 refine s_fn cx (c344 s1 _ peq) Tryz.func344 rfl rfl rfl rfl rfl rfl ?_;intro q15 w cx hw15 hp15
 obtain ⟨n15,rfl,hn15⟩:=hp15
 try rw [List.length_drop] at hn15
 have hd15:(s1.drop (Int.toNat (n15:Int))).length=s1.length-n15:=by rw [List.length_drop];rfl
 refine Ka ?_
 refine Ks ?_
 refine s_gval rfl rfl rfl wT (fun hc=>v_idxB rfl (gve hc rfl) rfl Tryz.underlying9 (by decide) (by simp only [decide_eq_true_eq,Bool.and_eq_true] at hc;omega)) ?_
 refine K2 ?_
 refine cSp rfl (fun hc26=>?_) (fun hc26=>?_)
 ·
  refine K4u ?_
  refine Hs ?_;intro w cx hwS6
  exact Bz26
 have hn0:0<n15:=by omega
 refine K9 ?_
 refine SS ?_
 refine K29 ?_
 refine K1p ?_
 refine K6 ?_
 refine w_cut (fun f w1=>∃ (s2 t6:List UInt8) (x7:Int) (b2:Nat),s2.length≤s.length∧t6.length≤s.length∧-1000000000≤x7∧x7≤0∧f 0=.string (bs s2)∧f 2=.pointer (some ⟨b2,0,none⟩)∧f 4=.bool q10∧f 6=.string (bs t6)∧f 7=.int .i64 x7∧Ctx w0 w1 [(b2,.cells ([.bool false,.string ByteArray.empty,.int .i64 0]:List Value).toArray 76)]) ?_ ?_
 ·
  refine K1 ?_
  refine s_fnB cx (c343 (s1.drop (Int.toNat (n15:Int))) [46] _ (by omega) (by decide)) Tryz.func343 rfl rfl rfl rfl rfl rfl ?_;intro q35 w cx hw35 hp35
  refine SS ?_
  refine cSp rfl (fun hc35=>?_) (fun hc35=>?_)
  ·
   have hl2:=hp35 hc35
   simp only [List.length_cons,List.length_nil,List.length_drop] at hl2
   refine K2 ?_
   refine s_fn cx (c344 ((s1.drop (Int.toNat (n15:Int))).drop (Int.toNat 1)) _ peq) Tryz.func344 rfl rfl rfl rfl rfl rfl ?_;intro q38 w cx hw38 hp38
   obtain ⟨n38,rfl,hn38⟩:=hp38
   try rw [List.length_drop] at hn38
   refine K6 ?_
   refine cSp rfl (fun hc40=>?_) (fun hc40=>?_)
   ·
    refine K4u ?_
    refine Hs ?_;intro w cx hwS13
    exact Bz26
   refine K5 ?_
   refine K2i ?_
   refine Kt ?_
   refine K3 ?_
   refine K3k ?_
   refine K7 ?_
   exact Ezp
  refine SS ?_
  exact Ezp
 intro f w hJ
 obtain ⟨s2,t6,x7,b2,hl2,hl6,hx70,hx71,hs0,hs2,hs4,hs6,hs7,cx⟩:=hJ
 refine w_cut (fun f w1=>∃ (x8:Int) (b2:Nat),-40000000000000≤x8∧x8≤40000000000000∧f 2=.pointer (some ⟨b2,0,none⟩)∧f 4=.bool q10∧f 6=.string (bs t6)∧f 7=.int .i64 x8∧Ctx w0 w1 [(b2,.cells ([.bool false,.string ByteArray.empty,.int .i64 0]:List Value).toArray 76)]) ?_ ?_
 ·
  refine Km ?_
  refine K4y ?_
  refine SS ?_
  refine cSp rfl (fun hc55=>?_) (fun hc55=>?_)
  ·
   have hne:0<s2.length:=List.length_pos_iff.2 hc55
   have hd2:(s2.drop (Int.toNat 1)).length=s2.length-1:=by rw [List.length_drop];rfl
   refine K6e ?_
   refine K5x ?_
   refine cSp rfl (fun hc63=>?_) (fun hc63=>?_)
   ·
    refine K4u ?_
    refine Hs ?_;intro w cx hwS19
    exact Bz26
   refine K9 ?_
   refine K4 ?_
   refine s_fnB cx (c343 (s2.drop (Int.toNat 1)) [45] _ (by omega) (by decide)) Tryz.func343 rfl rfl rfl rfl rfl rfl ?_;intro q68 w cx hw68 hp68
   refine K0 ?_
   refine w_cut (fun f w1=>∃ (s3:List UInt8) (b2:Nat),s3.length≤s2.length∧f 0=.string (bs s3)∧f 2=.pointer (some ⟨b2,0,none⟩)∧f 4=.bool q10∧f 6=.string (bs t6)∧f 7=.int .i64 x7∧f 8=.bool q68∧Ctx w0 w1 [(b2,.cells ([.bool false,.string ByteArray.empty,.int .i64 0]:List Value).toArray 76)]) ?_ ?_
   ·
    refine K3 ?_
    refine s_gfnB cx rfl rfl rfl wF (fun hc=>(c343 (s2.drop (Int.toNat 1)) [43] _ p15q (by decide))) Tryz.func343 rfl rfl rfl (fun hc=>(cons_eq p4q (cons_eq rfl rfl))) ?_;intro q72 w cx hw72 hp72
    refine K0 ?_
    refine cSp rfl (fun hc73=>?_) (fun hc73=>?_)
    ·
     have hl3:1≤(s2.drop (Int.toNat 1)).length:=by
      rcases hc73 with h | h
      · have:=hp68 h;simpa using this
      · by_cases h6:q68=true
        · have:=hp68 h6;simpa using this
        · have:=hp72 (by simpa using h6) h;simpa using this
     refine K3 ?_
     exact Ezq
    refine SS ?_
    exact Ezq
   intro f w hJ
   obtain ⟨s3,b2,hl3,hs0,hs2,hs4,hs6,hs7,hs8,cx⟩:=hJ
   refine K9 ?_
   refine K2e ?_
   refine Kx ?_
   refine s_gfn cx rfl rfl rfl wF (fun hc=>c344 s3 _ (by omega)) Tryz.func344 rfl rfl rfl (fun hc=>(cons_eq p4q rfl)) ?_;intro q80 w cx hw80 hp80
   obtain ⟨n80,hn80⟩:∃ n:Nat,decide (s3=[])=false→q80=.int .i64 n:=by
    by_cases h:decide (s3=[])=false
    · obtain ⟨n,h1,h2⟩:=hp80 (by rw [h];rfl);exact ⟨n,fun _=>h1⟩
    · exact ⟨0,fun h2=>absurd h2 h⟩
   refine Kx ?_
   refine SS ?_
   refine s_gval rfl rfl rfl wF (fun hc=>v_cmp rfl ((gve hc rfl).trans (hn80 (by simpa using hc))) (gve hc rfl) rfl) ?_
   refine K0 ?_
   refine cSp rfl (fun hc84=>?_) (fun hc84=>?_)
   ·
    refine K4u ?_
    refine Hs ?_;intro w cx hwS25
    exact Bz26
   refine K0 ?_
   refine Kk ?_
   refine Kv ?_
   refine Kb ?_
   refine s_fn cx (c346 s3 _ (by omega)) Tryz.func346 rfl rfl rfl rfl rfl rfl ?_;intro q89 w cx hw89 hp89
   obtain ⟨t89,rfl,ht89⟩:=hp89
   refine s_fn cx (c345 x7 q68 t89 _ (by omega) (by omega) (by omega)) Tryz.func345 rfl rfl rfl rfl rfl rfl ?_;intro q90 w cx hw90 hp90
   obtain ⟨y90,rfl,hy0,hy1⟩:=hp90
   refine K0 ?_
   exact Bz132
  refine SS ?_
  exact Bz132
 intro f w hJ
 obtain ⟨x8,b2,hx80,hx81,hs2,hs4,hs6,hs7,cx⟩:=hJ
 refine K1i ?_
 refine Kc ?_
 refine Kk ?_
 refine s_fn cx (c347 q10 t6 x8 _ (by omega) (by omega) (by omega)) Tryz.func347 rfl rfl rfl rfl rfl rfl ?_;intro q94 w cx hw94 hp94
 obtain ⟨b94,t94,y94,e94,rfl,ht94,hy940,hy941⟩:=hp94
 refine K0 ?_
 refine Hs ?_;intro w cx hwS27
 refine K1 ?_
 refine Kcf ?_
 exact ⟨cx.ext,_,t94,_,_,rfl,by omega,hy940,hy941,fun _=>by omega⟩
theorem c340 (m:Int)(b:Nat)(w0:World)(hr:RowAt w0 b 0 [.string (bs alp)]):Fc Tryz.prog 340 [.int .u8 m,.pointer (some ⟨b,0,none⟩)] w0 (fun v _=>∃ n:Int,v=.int .i64 n∧-1≤n∧n<64):=by
 refine ret_enter Tryz.func340 rfl Tryz.ntmps340 rfl ?_
 have cx:=Ctx.start w0
 refine K5 ?_
 refine s_val rfl rfl (v_load1 rfl rfl Tryz.underlying9 rfl ((hr.up cx.ext).cell 0 rfl)) ?_
 refine SS ?_
 have hal:alp.length=64:=rfl
 refine K1 ?_
 refine w_loop (fun g f w1=>∃ i:Nat,g+i=alp.length∧f 0=.int .u8 m∧f 1=.pointer (some ⟨b,0,none⟩)∧f 6=.int .i64 alp.length∧f 7=.int .i64 i∧Ctx w0 w1 []) (alp.length) ?_ ?_
 ·
  exact Ezm
 intro gk2 f w hJ
 obtain ⟨i,hg,hs0,hs1,hs6,hs7,cx⟩:=hJ
 refine K0 ?_
 refine s_val rfl rfl (v_cmp rfl hs7 hs6 rfl) ?_
 refine K0 ?_
 refine cSp rfl (fun hc8=>?_) (fun hc8=>?_)
 ·
  refine K3 ?_
  refine Kk ?_
  refine K2 ?_
  refine s_val rfl rfl (v_load1 rfl hs1 Tryz.underlying9 rfl ((hr.up cx.ext).cell 0 rfl)) ?_
  refine Km ?_
  refine K0 ?_
  refine cSp rfl (fun hc14=>?_) (fun hc14=>?_)
  ·
   refine K4 ?_
   refine ret_tmp Tryz.results340 rfl ?_
   exact ⟨cx.ext,i,rfl,by omega,by omega⟩
  refine K0 ?_
  refine s_val rfl rfl (v_add rfl hs7 rfl (by omega) (by omega)) ?_
  refine K0 ?_
  exact ⟨gk2-1,_,by omega,rfl,i+1,by omega,hs0,hs1,hs6,rfl,cx⟩
 refine K4 ?_
 refine ret_tmp Tryz.results340 rfl ?_
 exact ⟨cx.ext,-1,rfl,by omega,by omega⟩
theorem c267 (w0:World):Ret Tryz.prog 267 [.string (bs alp)] w0 (fun v w'=>∃ b:Nat,v=.func (.func 340) #[] #[.pointer (some ⟨b,0,none⟩)]∧Ctx w0 w' [(b,.cells ([.string (bs alp)]:List Value).toArray 9)]):=by
 refine ret_enter Tryz.func267 rfl Tryz.ntmps267 rfl ?_
 have cx:=Ctx.start w0
 refine K0 ?_
 refine Hc ?_;intro b1 w cx hb1 hw1
 refine K2 ?_
 refine s_val rfl rfl (v_fun1 rfl rfl) ?_
 refine K1 ?_
 refine ret_tmp Tryz.results267 rfl ?_
 exact ⟨_,rfl,cx⟩
theorem c188 (s:List UInt8)(pd:Bool)(w0:World)(hs:s.length≤1073741824):Fc Tryz.prog 188 [.string (bs s),.bool pd] w0 (fun v w'=>∃ (u:Value) (l:List UInt8) (e:Int),v=.tuple #[u,.int .i64 e]∧w'.ownsRow w0.heap.size 5 1 u l.length (l.map bv)∧l.length≤s.length):=by
 refine ret_enter Tryz.func188 rfl Tryz.ntmps188 rfl ?_
 have cx:=Ctx.start w0
 refine K5 ?_
 have cxB:=cx
 refine s_call (c267 _) Tryz.func267 rfl rfl rfl rfl rfl rfl ?_;rintro v15 w ⟨b,rfl,hcb⟩
 replace cx:=cxB.callOwn hcb
 refine K6 ?_
 refine w_loop (fun g f w1=>∃ i:Nat,g+i=s.length∧f 0=.string (bs s)∧f 1=.bool pd∧f 6=.func (.func 340) #[] #[.pointer (some ⟨b,0,none⟩)]∧f 7=.int .i64 i∧Ctx w0 w1 [(b,.cells ([.string (bs alp)]:List Value).toArray 9)]) (s.length) ?_ ?_
 ·
  exact Ezm
 intro gk3 f w hJ
 obtain ⟨i,hg,hs0,hs1,hs6,hs7,cx⟩:=hJ
 refine K4r ?_
 refine K1n ?_
 refine K55 ?_
 refine Ks ?_
 refine K8z ?_
 refine K2h ?_
 refine s_gfnv (args:=[.int .u8 ((s.getD (Int.toNat (i:Int)) 0).toNat:Nat)]) (cap:=[.pointer (some ⟨b,0,none⟩)]) cx rfl rfl rfl wT (fun hc=>c340 _ b _ (cx.row 0 rfl)) Tryz.func340 rfl rfl rfl (fun hc=>gve hc rfl) (fun hc=>(cons_eq p4q rfl)) ?_;intro q25 w cx hw25 hp25
 obtain ⟨n25,hn25⟩:∃ n:Int,decide ((i:Int)<s.length)=true→q25=.int .i64 n:=by
  by_cases h:decide ((i:Int)<s.length)=true
  · obtain ⟨n,h1,_⟩:=hp25 h;exact ⟨n,fun _=>h1⟩
  · exact ⟨0,fun h2=>absurd h2 h⟩
 refine s_gval rfl rfl rfl wT (fun hc=>v_cmp rfl ((gve hc rfl).trans (hn25 hc)) rfl rfl) ?_
 refine K0 ?_
 refine cSp rfl (fun hc27=>?_) (fun hc27=>?_)
 ·
  refine K4r ?_
  refine K1 ?_
  exact ⟨gk3-1,_,by omega,rfl,i+1,by omega,hs0,hs1,hs6,rfl,cx⟩
 refine K9 ?_
 refine SS ?_
 refine Kk ?_
 refine s_val rfl rfl (v_subQ (r:=((s.length-i:Nat):Int)) rfl rfl rfl (by omega) (by omega) (by omega)) ?_
 refine K3 ?_
 refine Kk ?_
 refine K1 ?_
 refine w_loop (fun g f w1=>∃ j:Nat,g+j=s.length∧f 0=.string (bs s)∧f 1=.bool pd∧f 6=.func (.func 340) #[] #[.pointer (some ⟨b,0,none⟩)]∧f 7=.int .i64 i∧f 8=.int .i64 (s.length-i:Nat)∧f 9=.int .i64 j∧Ctx w0 w1 [(b,.cells ([.string (bs alp)]:List Value).toArray 9)]) (s.length-i) ?_ ?_
 ·
  exact ⟨i,by omega,hs0,hs1,hs6,hs7,rfl,rfl,cx⟩
 intro gk7 f w hJ
 obtain ⟨j,hgj,hs0,hs1,hs6,hs7,hs8,hs9,cx⟩:=hJ
 refine K5w ?_
 refine K1n ?_
 refine cSp rfl (fun hc38=>?_) (fun hc38=>?_)
 ·
  refine K19 ?_
  refine K2o ?_
  refine K76 ?_
  refine K1 ?_
  refine cSp rfl (fun hc48=>?_) (fun hc48=>?_)
  ·
   exact Bz35
  refine K0 ?_
  refine K2o ?_
  exact ⟨gk7-1,_,by omega,rfl,j+1,by omega,hs0,hs1,hs6,hs7,hs8,rfl,cx⟩
 refine K14 ?_
 refine Kk ?_
 refine K1 ?_
 refine w_loop (fun g f w1=>∃ (k t12:Nat) (x11:Int) (out:List UInt8) (v10:Value),g+k=i∧t12≤7∧out.length≤k∧f 0=.string (bs s)∧f 1=.bool pd∧f 6=.func (.func 340) #[] #[.pointer (some ⟨b,0,none⟩)]∧f 7=.int .i64 i∧f 8=.int .i64 (s.length-i:Nat)∧f 10=v10∧f 11=.int .i64 x11∧f 12=.int .i64 t12∧f 49=.int .i64 i∧f 50=.int .i64 k∧Cxr w0 w1 [(b,.cells ([.string (bs alp)]:List Value).toArray 9)] [⟨5,1,v10,out.length,out.map bv⟩]) (i) ?_ ?_
 ·
  exact ⟨0,0,0,[],_,by omega,by omega,by simp,hs0,hs1,hs6,hs7,hs8,rfl,rfl,rfl,rfl,rfl,cx.nilRow 5 1⟩
 intro gk14 f w hJ
 obtain ⟨k,t12,x11,out,v10,hgk,ht12,hok,hs0,hs1,hs6,hs7,hs8,hs10,hs11,hs12,hs49,hs50,cx⟩:=hJ
 refine K0 ?_
 refine s_val rfl rfl (v_cmp rfl hs50 hs49 rfl) ?_
 refine K0 ?_
 refine cSp rfl (fun hc51=>?_) (fun hc51=>?_)
 ·
  refine K3 ?_
  refine s_val rfl rfl (v_move rfl hs50) ?_
  refine K2 ?_
  refine K1y ?_
  refine K75 ?_
  refine Kc ?_
  refine K69 ?_
  refine s_fnv (args:=[.int .u8 ((s.getD (Int.toNat (k:Int)) 0).toNat:Nat)]) (cap:=[.pointer (some ⟨b,0,none⟩)]) cx (c340 _ b _ (cx.row 0 rfl)) Tryz.func340 rfl rfl rfl rfl rfl rfl rfl ?_;intro q59 w cx hw59 hp59
  obtain ⟨n59,rfl,hn59,hn59b⟩:=hp59
  refine K74 ?_
  refine K2 ?_
  refine K8s ?_
  refine K6 ?_
  refine cSp rfl (fun hc64=>?_) (fun hc64=>?_)
  ·
   refine K6 ?_
   obtain ⟨x71,hx71⟩:=bvI (shr .i64 (bitOp .or .i64 (shl .i64 x11 (Int.toNat 6)) n59) (Int.toNat ((t12:Int)+6-8)))
   refine Kw ?_
   refine K0 ?_
   refine Kaw ?_
   refine s_val rfl rfl ((show (execOp _ _).run Tryz.prog _=.ok (.value (bv x71)) _ from (v_conv rfl rfl Tryz.underlying3 Tryz.underlying5).trans (by rw [hx71]))) ?_
   refine He ?_;intro b72 w cx hb72 hw72
   refine Hf ?_;intro v73 w cx hgr73
   replace cx:=cx.drop 1
   refine K1 ?_
   obtain ⟨m76,hm76,hm0,hm1⟩:=shl1 (a:=Int.toNat ((t12:Int)+6-8)) (by omega)
   refine K0 ?_
   refine s_val rfl rfl ((v_shl rfl rfl rfl (by omega)).trans (by rw [hm76])) ?_
   refine SS ?_
   refine K1w ?_
   refine K1 ?_
   refine s_val rfl rfl (v_add rfl hs50 rfl (by omega) (by omega)) ?_
   refine K0 ?_
   refine ⟨gk14-1,_,by omega,rfl,k+1,t12+6-8,_,out++[x71],_,by omega,by omega,by simp only [List.length_append,List.length_cons,List.length_nil];omega,hs0,hs1,hs6,hs7,hs8,rfl,rfl,congrArg (Value.int .i64) (by omega),hs49,rfl,cx.row_eq (by simp) paq⟩
  refine K0 ?_
  refine s_val rfl rfl (v_add rfl hs50 rfl (by omega) (by omega)) ?_
  refine K0 ?_
  exact ⟨gk14-1,_,by omega,rfl,k+1,t12+6,_,out,_,by omega,by omega,by omega,hs0,hs1,hs6,hs7,hs8,hs10,rfl,rfl,hs49,rfl,cx⟩
 refine K4r ?_
 refine s_val rfl rfl (v_rem (q:=4) rfl rfl rfl (by decide)) ?_
 refine K7 ?_
 refine K49 ?_
 refine K2 ?_
 refine cSp rfl (fun hc82=>?_) (fun hc82=>?_)
 ·
  exact Bz52
 refine K0 ?_
 refine Kv ?_
 refine K3 ?_
 refine K79 ?_
 refine SS ?_
 refine s_gval rfl rfl rfl wF (fun hc=>v_sub rfl rfl gX p0q p0q) ?_
 refine K1 ?_
 refine Kbn ?_
 refine K3 ?_
 refine cSp rfl (fun hc90=>?_) (fun hc90=>?_)
 ·
  exact Bz35
 refine K3 ?_
 refine Kbn ?_
 refine K1 ?_
 refine K76 ?_
 refine SS ?_
 refine K49 ?_
 refine SS ?_
 refine s_gval rfl rfl rfl wT (fun hc=>v_sub rfl rfl gX p0q p0q) ?_
 refine K3 ?_
 refine cSp rfl (fun hc107=>?_) (fun hc107=>?_)
 ·
  exact Bz35
 refine SS ?_
 exact Bz52
end Go.Proofs.YthiafbkolhnadaaGreatDoor
end
section
namespace Go.Dk
open Go Go.RowKit Go.Lib
def PP (t u k:Nat)(wb:World)(b:Nat)(s:List UInt8)(L:List (Nat×Obj))(R:List Row)(p D:Nat)(x:Value)(w':World):Prop :=
 ∃ (v:V) (cells:List Value) (q:Nat) (e:Bool) (rs:List Row),x=.agg cells.toArray∧Cxr wb w' ((b,.cells ([.string (bs s),.int .i64 q,.bool e]:List Value).toArray k)::L) (rs++R)∧RR t u rs v cells∧p≤q∧q≤s.length∧(e=true∨(p<q∧Dp D v∧vs D v≤2*(q-p)))
theorem Cxr.grab {w0 w:World}{L:List (Nat×Obj)}{R rs rs2:List Row}{r:Row}(h:Cxr w0 w L (rs2++(r::(rs++R)))):Cxr w0 w L (r::((rs2++rs)++R)):=by
 rw [List.append_assoc]
 exact h.permR List.perm_middle
theorem Cxr.leftR {w0 w:World}{L:List (Nat×Obj)}{A B:List Row}(h:Cxr w0 w L (A++B)):Cxr w0 w L A :=
 ⟨h.ext,h.own,h.lo,h.nd,fun r hr=>h.rows r (List.mem_append_left _ hr),fun r hr=>h.off r (List.mem_append_left _ hr),(List.pairwise_append.1 h.pw).1⟩
theorem LF.start0 (t u:Nat)(rs:List Row):LF t u rs [] [] [] [] 0:=⟨rfl,fun i v cs h=>by simp at h,rfl,fun i kv cs h=>by simp at h,by simp⟩
theorem LF.addL0 {t u:Nat}{rs rs2:List Row}{l:List V}{css:List (List Value)}(h:LF t u rs l [] css [] l.length){v:V}{cs:List Value}(hr:RR t u rs2 v cs):LF t u (rs2++rs) (l++[v]) [] (css++[cs]) [] (l++[v]).length:=by
 rw [List.length_append]
 exact h.addL hr
theorem LF.addF0 {t u:Nat}{rs rs2:List Row}{f:List (ByteArray×V)}{fss:List (List Value)}(h:LF t u rs [] f [] fss f.length){k:ByteArray}{v:V}{cs:List Value}(hr:RR t u rs2 v cs):LF t u (rs2++rs) [] (f++[(k,v)]) [] (fss++[cs]) (f++[(k,v)]).length:=by
 rw [List.length_append]
 exact h.addF hr
end Go.Dk
end
