/-
  Several texts in one: Gt, Gh, Gg, Ru, ShN, Gu, Gi, Gb, Gc, Gd, Rv, Ra, Id, Il, Ik, In, Im, Io, Bq, Ig, Ip, Iq, Ir, Is, It
-/
import Derived.Test.YthiafbkolhnadaaGreatDoorUC
import Derived.Shelf.Strings.BuilderK
import Derived.Shelf.Small.Wraps
import Derived.Shelf.Strconv.Atoi
import Derived.Shelf.Strings.Cut
import Derived.Shelf.Strings.Split
import Derived.Test.YthiafbkolhnadaaGreatDoorProg
import Derived.Lib.SmallJoins
import Derived.Lib.SplitLaws
import Derived.Laws.OwnMore
import Derived.Lib.Builder
set_option linter.unusedSimpArgs false
set_option linter.unusedVariables false
set_option maxHeartbeats 4000000
set_option maxRecDepth 10000
section
namespace Go.Dk
open Go Go.RowKit Go.Lib
section
variable {P:Program} {ops:Array Oper} {Q:Exit→Act→World→Prop} {rest:List Oper} {o:Oper} {n:Nat} {f:Nat→Value} {w w0:World} {L:List (Nat×Obj)} {R:List Row} {ρ:Operand→Value}
theorem v_subK {t t':TypeId}{x y:Operand}{k:IntKind}{p q:Int}(ho:o.op=.binOp .sub t x y t')(hx:ρ x=.int k p)(hy:ρ y=.int k q):(execOp ρ o).run P w=.ok (.value (.int k (k.wrap (p-q)))) w:=by
 exact Bz102
theorem v_cw64 {s t:TypeId}{x:Operand}{m:Nat}{d:TypeDesc}(ho:o.op=.convert s t x)(hx:ρ x=.int .i64 m)(hs:P.underlying s=some d)(ht:P.underlying t=some (.int .u64))(h:m<256):(execOp ρ o).run P w=.ok (.value (.int .u64 m)) w:=by
 have:=v_conv (w:=w) ho hx hs ht
 have e:IntKind.u64.wrap (m:Int)=(m:Int):=by simp [IntKind.wrap,IntKind.signed,IntKind.bits];omega
 rwa [e] at this
theorem v_cmpF {t t':TypeId}{x y:Operand}{k:IntKind}{p q:Int}(ho:o.op=.binOp .lss t x y t')(hx:ρ x=.int k p)(hy:ρ y=.int k q)(h:¬ p<q):(execOp ρ o).run P w=.ok (.value (.bool false)) w:=by
 have:=v_cmp (P:=P) (w:=w) (b:=decide (p<q)) ho hx hy rfl
 rwa [decide_eq_false h] at this
theorem v_slA {t e:TypeId}{x y:Operand}{len s b k:Nat}{kd:IntKind}{m:Int}(ho:o.op=.slice t x (some y) none none)(hx:ρ x=.pointer (some ⟨b,k,none⟩))(hy:ρ y=.int kd m)(hu:P.underlying t=some (.array len e))(hs:(P.info? e).map (·.size)=some s)(h0:0≤m)(h1:m<len) :
  (execOp ρ o).run P w=.ok (.value (.slice (some ⟨b,k+m.toNat*s,none⟩) (len-m.toNat) (len-m.toNat))) w:=by
 unfold execOp;rw [ho]
 have h2:m≤(len:Int):=by omega
 have h3:¬ len=m.toNat:=by omega
 simp [hx,hy,Instr.sliceAt,Instr.sureAddr,Instr.sliceBounds,Instr.sliceBound,asIntOf,run_underlying hu,h0,h2,run_size (w:=w) hs,add_addr,h3]
end
theorem below_gr (w:World)(q:Nat)(os:Array Obj):Below w.heap.size w (Go.Sort.grow (w.drewN q) os) :=
 ⟨rfl,rfl,rfl,by simp [Go.Sort.grow],fun i hi=>by
  show ((w.drewN q).heap++os)[i]?=_
  rw [Array.getElem?_append_left (by show i<w.heap.size;omega)]
  rfl⟩
theorem cell_up {w w':World}(hb:Below w.heap.size w w'){a:Addr}{v:Value}(h:w.cell? a=some v):w'.cell? a=some v:=by
 have h2:=block_lt_of_cell h
 have h3:=hb.block a.block (by simpa using h2)
 have h4:w'.cell? a=w.cell? a:=by simp [World.cell?,h3]
 rw [h4];exact h
theorem tab_up {P:Program}{nm:String}{g:Nat}{k:IntKind}{zs:List Int}(hgn:P.globalNamed nm=some g){w w':World}(hb:Below w.heap.size w w')(h:Lib.TabIs P w nm k zs):Lib.TabIs P w' nm k zs:=by
 unfold Lib.TabIs World.var? at h ⊢
 rw [hgn] at h ⊢
 simp only [Option.bind_some] at h ⊢
 have hlt:g<w.heap.size:=by
  rcases Nat.lt_or_ge g w.heap.size with h' | h'
  · exact h'
  · rw [Array.getElem?_eq_none h'] at h;cases h
 rw [hb.block g hlt]
 exact h
end Go.Dk
namespace Go.Proofs.YthiafbkolhnadaaGreatDoor
open Go Go.Dk Go.RowKit Go.Lib
structure Tabs (w:World):Prop where
 pow : Lib.TabIs Tryz.prog w "internal/strconv.uint64pow10" .u64 Lib.pow10Tab
 bit:Go.Proofs.TabAt 7 Lib.deBruijn64tab w
 utf:Lib.Utf8Tabs 0 1 w
theorem Tabs.up {w w':World}(h:Tabs w)(hb:Below w.heap.size w w'):Tabs w' :=
 ⟨tab_up (g:=2) p1q hb h.pow,fun j hj=>cell_up hb (h.bit j hj),Go.Proofs.Utf8Tabs_below h.utf hb⟩
theorem c47 (n:Int)(w0:World)(ht:Tabs w0)(h0:-9223372036854775808≤n)(h1:n≤9223372036854775807):Fc Tryz.prog 47 [.int .i64 n] w0 (fun v _=>v=.string (bs (itoa n))) :=
 Calls.mono (Go.Proofs.Tryz.strconv_Itoa n h0 h1 w0 ht.pow) fun e w' ⟨he,k,os,hw⟩=>⟨_,he,by rw [hw];exact below_gr _ _ _,rfl⟩
theorem c91 (s:ByteArray)(w0:World)(ht:Tabs w0)(hs:s.size≤9223372036854775807):Fc Tryz.prog 91 [.string s] w0 (IsB fun b=>b=validD s.data.toList) :=
 Calls.mono (Go.Proofs.Any.utf8_ValidString Go.Proofs.Tryz.lays196 s w0 hs ht.utf) fun e w' ⟨he,hb⟩=>⟨_,he,hb,_,rfl,rfl⟩
theorem c293 (w0:World)(ht:Tabs w0):Fc Tryz.prog 293 [.int .u64 16] w0 (IsI fun m=>m=4) :=
 Calls.mono (Go.Proofs.Any7.bits_TrailingZeros Go.Proofs.Tryz.lays27 16 (by decide) w0 fun _=>ht.bit) fun e w' ⟨he,hw⟩=>⟨_,he,by rw [hw];exact Below.refl _ _,_,rfl,by decide⟩
end Go.Proofs.YthiafbkolhnadaaGreatDoor
end
section
namespace Go.Proofs.YthiafbkolhnadaaGreatDoor
open Go Go.Dk Go.RowKit Go.Lib
attribute [local irreducible] Go.wpList Go.Code.wp Go.bodyPost Go.wpStill
theorem szA:(Tryz.prog.info? 5).map (·.size)=some 1:=by kernel_rfl
theorem zA:Zero Tryz.prog 360 (List.replicate 65 (.int .u8 0)):=zero_of (v:=.agg (List.replicate 65 (.int .u8 0)).toArray) p1q rfl
theorem c292 (w0:World):Fc Tryz.prog 292 [.int .i64 16] w0 (IsB fun b=>b=true):=by
 refine ret_enter Tryz.func292 rfl Tryz.ntmps292 rfl ?_
 have cx:=Ctx.start w0
 refine K7 ?_
 refine K1w ?_
 refine K2 ?_
 refine ret_tmp Tryz.results292 rfl ?_
 exact ⟨cx.ext,_,rfl,by decide⟩
theorem and15u {m:Nat}(h:m<256):bitOp .and .u64 (m:Int) 15=((m%16:Nat):Int):=by
 have:∀ b:Fin 256,bitOp .and .u64 (b.val:Int) 15=((b.val%16:Nat):Int):=by decide +kernel
 exact this ⟨m,h⟩
theorem shr4u {m:Nat}(h:m<256):shr .u64 (m:Int) 4=((m / 16:Nat):Int):=by
 have:∀ b:Fin 256,shr .u64 (b.val:Int) 4=((b.val / 16:Nat):Int):=by decide +kernel
 exact this ⟨m,h⟩
def dgb:ByteArray:=⟨#[48,49,50,51,52,53,54,55,56,57,97,98,99,100,101,102,103,104,105,106,107,108,109,110,111,112,113,114,115,116,117,118,119,120,121,122]⟩
theorem digs {m:Nat}(h:m<16):byteAt dgb (m:Int)=((hexd m).toNat:Int):=by
 have:∀ b:Fin 16,byteAt dgb (b.val:Int)=((hexd b.val).toNat:Int):=by decide +kernel
 exact this ⟨m,h⟩
theorem dig_and {m:Nat}(h:m<256):byteAt dgb (bitOp .and .u64 (m:Int) 15)=((hexd (m%16)).toNat:Int):=by rw [and15u h];exact digs (by omega)
theorem strOf_a {a:UInt8}:strOf [(a.toNat:Int)]=bs [a]:=strOf_bs [a]
theorem strOf_ab {a b:UInt8}:strOf [(a.toNat:Int),(b.toNat:Int)]=bs [a,b]:=strOf_bs [a,b]
theorem c216a (m:Nat)(w0:World)(hm:m<16)(ht:Tabs w0):Fc Tryz.prog 216 [.slice none 0 0,.int .u64 m,.int .i64 16,.bool false,.bool false] w0 (fun v _=>∃ x,v=.tuple #[x,.string (bs (hexs m))]):=by
 refine ret_enter Tryz.func216 rfl Tryz.ntmps216 rfl ?_
 have cx:=Ctx.start w0
 refine K6 ?_
 refine Ka ?_
 refine K4q ?_
 refine s_alloc cx zA rfl rfl rfl ?_;intro b12 w cx hb12 hw12
 refine K8 ?_
 refine K3u ?_
 refine s_fnB cx (c292 _) Tryz.func292 rfl rfl rfl rfl rfl rfl ?_;intro q34 w cx hw34 hp34
 subst hp34
 refine SS ?_
 refine K3x ?_
 refine K47 ?_
 refine Hd ?_;intro q37 w cx hw37 hp37
 subst hp37
 refine K47 ?_
 refine K3 ?_
 refine Kai ?_
 refine K3 ?_
 refine K47 ?_
 refine K50 ?_
 refine K2 ?_
 refine w_loop (fun k f w1=>f 1=.int .u64 m∧f 13=.int .i64 65∧(∃ b12,f 12=.pointer (some ⟨b12,0,none⟩)∧Ctx w0 w1 [(b12,.cells (List.replicate 65 (Value.int .u8 0)).toArray 360)])∧f 15=.int .u64 16∧f 16=.int .u64 15∧f 14=.int .u64 4∧f 3=.bool false∧f 4=.bool false∧f 10=.slice none 0 0) (0) ?_ ?_
 ·
  exact ⟨rfl,rfl,⟨_,rfl,cx⟩,rfl,rfl,rfl,rfl,rfl,rfl⟩
 intro gk11 f w hJ
 obtain ⟨hs1,hs13,⟨b12,hs12,cx⟩,hs15,hs16,hs14,hs3,hs4,hs10⟩:=hJ
 refine K61 ?_
 refine K84 ?_
 refine K0 ?_
 refine c_split rfl (fun hc46=>?_) (fun hc46=>?_)
 ·
  exfalso
  simp at hc46
  omega
 try simp only [bsl] at hc46
 refine K1 ?_
 refine K2v ?_
 refine K3 ?_
 refine Ky ?_
 refine Kcm ?_
 refine Kaj ?_
 refine s_store1 (v:=.int .u8 (hexd (m)).toNat) cx 0 rfl rfl rfl rfl (congrArg (Value.int .u8) (digs (by omega))) rfl rfl rfl sz5 ?_;intro w cx hwS16
 refine K20 ?_
 refine SS ?_
 refine K1a ?_
 refine K22 ?_
 refine K1a ?_
 refine Kcn ?_
 refine s_val rfl rfl (v_b2s rfl Tryz.underlying79 Tryz.underlying5 Tryz.underlying9 (ns:=[((hexd m).toNat:Int)]) ((cx.row 0 rfl).sub 64 rfl) rfl rfl) ?_
 refine K1 ?_
 refine Kg5 ?_
 rw [strOf_a]
 unfold hexs
 rw [if_pos (by omega)]
theorem c216b (m:Nat)(w0:World)(hm:16≤m)(hm2:m<256)(ht:Tabs w0):Fc Tryz.prog 216 [.slice none 0 0,.int .u64 m,.int .i64 16,.bool false,.bool false] w0 (fun v _=>∃ x,v=.tuple #[x,.string (bs (hexs m))]):=by
 refine ret_enter Tryz.func216 rfl Tryz.ntmps216 rfl ?_
 have cx:=Ctx.start w0
 refine K6 ?_
 refine Ka ?_
 refine K4q ?_
 refine s_alloc cx zA rfl rfl rfl ?_;intro b12 w cx hb12 hw12
 refine K8 ?_
 refine K3u ?_
 refine s_fnB cx (c292 _) Tryz.func292 rfl rfl rfl rfl rfl rfl ?_;intro q34 w cx hw34 hp34
 subst hp34
 refine SS ?_
 refine K3x ?_
 refine K47 ?_
 refine Hd ?_;intro q37 w cx hw37 hp37
 subst hp37
 refine K47 ?_
 refine K3 ?_
 refine Kai ?_
 refine K3 ?_
 refine K47 ?_
 refine K50 ?_
 refine K2 ?_
 refine w_loop (fun k f w1=>∃ (u:Nat) (cs:List Value),((k=1∧m=u∧cs=List.replicate 65 (Value.int .u8 0))∨(k=0∧m / 16=u∧cs=(List.replicate 65 (Value.int .u8 0)).set 64 (.int .u8 (hexd (m%16)).toNat)))∧f 1=.int .u64 u∧f 13=.int .i64 ((64+k:Nat):Int)∧(∃ b12,f 12=.pointer (some ⟨b12,0,none⟩)∧Ctx w0 w1 [(b12,.cells cs.toArray 360)])∧f 15=.int .u64 16∧f 16=.int .u64 15∧f 14=.int .u64 4∧f 3=.bool false∧f 4=.bool false∧f 10=.slice none 0 0) (1) ?_ ?_
 ·
  exact ⟨m,_,.inl ⟨rfl,rfl,rfl⟩,rfl,rfl,⟨_,rfl,cx⟩,rfl,rfl,rfl,rfl,rfl,rfl⟩
 intro gk11 f w hJ
 obtain ⟨u,cs,hcase,hs1,hs13,⟨b12,hs12,cx⟩,hs15,hs16,hs14,hs3,hs4,hs10⟩:=hJ
 refine K61 ?_
 refine K84 ?_
 refine K0 ?_
 refine cSp rfl (fun hc46=>?_) (fun hc46=>?_)
 ·
  rcases hcase with ⟨rfl,rfl,rfl⟩ | ⟨rfl,rfl,rfl⟩
  case inr=>exfalso;omega
  refine K2 ?_
  refine K2v ?_
  refine K4 ?_
  refine Ky ?_
  refine s_val rfl rfl (v_move rfl hs16) ?_
  refine K1w ?_
  refine s_val rfl rfl (v_idxStr rfl rfl rfl Tryz.underlying9 (by rw [and15u (by omega)];omega) (by rw [and15u (by omega)];show _<(36:Int);omega)) ?_
  refine Kaj ?_
  refine s_store1 (v:=.int .u8 (hexd (m%16)).toNat) cx 0 rfl rfl rfl rfl (congrArg (Value.int .u8) (dig_and (by omega))) rfl rfl rfl sz5 ?_;intro w cx hwS13
  refine K0 ?_
  refine Ky ?_
  refine K85 ?_
  refine K3g ?_
  refine K0 ?_
  refine ⟨0,_,by omega,rfl,m / 16,_,.inr ⟨rfl,rfl,rfl⟩,congrArg (Value.int .u64) (shr4u (by omega)),rfl,⟨_,hs12,cx⟩,hs15,hs16,hs14,hs3,hs4,hs10⟩
 rcases hcase with ⟨rfl,rfl,rfl⟩ | ⟨rfl,rfl,rfl⟩
 case inl=>exfalso;omega
 refine K1 ?_
 refine K2v ?_
 refine K3 ?_
 refine Ky ?_
 refine Kcm ?_
 refine Kaj ?_
 refine s_store1 (v:=.int .u8 (hexd (m / 16)).toNat) cx 0 rfl rfl rfl rfl (congrArg (Value.int .u8) (digs (by omega))) rfl rfl rfl sz5 ?_;intro w cx hwS16
 refine K20 ?_
 refine SS ?_
 refine K1a ?_
 refine K22 ?_
 refine K1a ?_
 refine Kcn ?_
 refine s_val rfl rfl (v_b2s rfl Tryz.underlying79 Tryz.underlying5 Tryz.underlying9 (ns:=[((hexd (m / 16)).toNat:Int),((hexd (m%16)).toNat:Int)]) ((cx.row 0 rfl).sub 63 rfl) rfl rfl) ?_
 refine K1 ?_
 refine Kg5 ?_
 rw [strOf_ab]
 unfold hexs
 rw [if_neg (by omega)]
theorem c216 (m:Nat)(w0:World)(hm2:m<256)(ht:Tabs w0):Fc Tryz.prog 216 [.slice none 0 0,.int .u64 m,.int .i64 16,.bool false,.bool false] w0 (fun v _=>∃ x,v=.tuple #[x,.string (bs (hexs m))]):=by
 by_cases h:m<16
 · exact c216a m w0 h ht
 · exact c216b m w0 (by omega) hm2 ht
theorem c153 (m:Nat)(w0:World)(hm:m<256)(ht:Tabs w0):Fc Tryz.prog 153 [.int .i64 m,.int .i64 16] w0 (fun v _=>v=.string (bs (hexs m))):=by
 refine ret_enter Tryz.func153 rfl Tryz.ntmps153 rfl ?_
 have cx:=Ctx.start w0
 refine K8 ?_
 refine K1a ?_
 refine s_val rfl rfl (v_cw64 rfl rfl Tryz.underlying2 Tryz.underlying299 hm) ?_
 refine K0 ?_
 refine s_val rfl rfl (v_cmpF rfl rfl rfl (by omega)) ?_
 refine s_fn cx (c216 _ _ hm (ht.up cx.ext)) Tryz.func216 rfl rfl rfl rfl rfl rfl ?_;intro q50 w cx hw50 hp50
 obtain ⟨ex50,rfl⟩:=hp50
 refine Ko ?_
 refine ret_tmp Tryz.results153 rfl ?_
 exact Ez2
theorem c151n (m:Nat)(w0:World)(hm:m<256)(ht:Tabs w0):Fc Tryz.prog 151 [.int .i64 m,.int .i64 16] w0 (fun v _=>v=.string (bs (hexs m))):=by
 refine ret_enter Tryz.func151 rfl Tryz.ntmps151 rfl ?_
 have cx:=Ctx.start w0
 refine K6 ?_
 refine s_fn cx (c153 _ _ hm (ht.up cx.ext)) Tryz.func153 rfl rfl rfl rfl rfl rfl ?_;intro q7 w cx hw7 hp7
 subst hp7
 refine K1 ?_
 refine ret_tmp Tryz.results151 rfl ?_
 exact Ez2
theorem c151 (m:Int)(w0:World)(ht:Tabs w0)(h0:0≤m)(hm:m<256):Fc Tryz.prog 151 [.int .i64 m,.int .i64 16] w0 (fun v _=>v=.string (bs (hexs m.toNat))):=by
 have h:=c151n m.toNat w0 (by omega) ht
 rw [show ((m.toNat:Nat):Int)=m by omega] at h
 exact h
theorem c93 (s:ByteArray)(w0:World)(hs:s.size≤1073741824):Fc Tryz.prog 93 [.string s] w0 (fun u _=>u=.int .i64 (folN s)):=by
 refine ret_enter Tryz.func93 rfl Tryz.ntmps93 rfl ?_
 have cx:=Ctx.start w0
 refine K8 ?_
 refine w_loop (fun k f w1=>∃ i:Nat,k+i=s.size∧f 0=.string s∧f 3=.int .i64 i∧(∀ j:Nat,j<i→okN s j)∧Ctx w0 w1 []) (s.size) ?_ ?_
 ·
  exact Eza
 intro gk2 f w hJ
 obtain ⟨i,hk,hs0,hs3,hall,cx⟩:=hJ
 refine K10 ?_
 refine Kb ?_
 refine K1t ?_
 refine Ks ?_
 refine K1e ?_
 refine K52 ?_
 refine K2p ?_
 refine K1e ?_
 refine K52 ?_
 refine K1 ?_
 refine K28 ?_
 refine Kcp ?_
 refine K2p ?_
 refine K1e ?_
 refine K52 ?_
 refine K2 ?_
 refine K28 ?_
 refine Kcp ?_
 refine K1 ?_
 refine Kco ?_
 refine K2p ?_
 refine K1e ?_
 refine K52 ?_
 refine K7w ?_
 refine K1e ?_
 refine K52 ?_
 refine K3 ?_
 refine cSp rfl (fun hc53=>?_) (fun hc53=>?_)
 ·
  refine K1f ?_
  refine ⟨gk2-1,_,by omega,rfl,i+1,by omega,hs0,rfl,fun j hj=>?_,cx⟩
  rcases Nat.lt_or_ge j i with h | h
  · exact hall j h
  · obtain rfl:j=i:=by omega
    unfold okN lowc digc
    omega
 refine K1f ?_
 refine ret_tmp Tryz.results93 rfl ?_
 have hf:folP s i:=by
  refine ⟨by omega,hall,fun hlt h1=>?_⟩
  unfold okN lowc digc at h1
  have hlt':(i:Int)<(s.size:Int):=by omega
  simp only [hlt',not_true_eq_false,false_or] at hc53
  omega
 exact ⟨cx.ext,congrArg (fun z:Nat=>Value.int .i64 (z:Int)) (folN_eq hf).symm⟩
theorem c94 (s:ByteArray)(w0:World)(hs:s.size≤1073741824)(ht:Tabs w0):Fc Tryz.prog 94 [.string s] w0 (fun v _=>v=.string (bs ([34]++qtd s.data.toList++[34]))):=by
 refine ret_enter Tryz.func94 rfl Tryz.ntmps94 rfl ?_
 have cx:=Ctx.start w0
 refine K4 ?_
 refine He ?_;intro b6 w cx hb6 hw6
 replace cx:=Cxr.toRow (size:=1) (k:=1) cx rfl (by decide)
 refine K4 ?_
 refine K51 ?_
 refine K1 ?_
 refine w_loop (fun k f w1=>∃ (i:Nat) (v:Value),k+i=s.size∧f 0=.string s∧f 8=.int .i64 s.size∧f 9=.int .i64 i∧f 3=v∧Cxr w0 w1 [] [⟨5,1,v,1+(qtd (s.data.toList.take i)).length,(34::qtd (s.data.toList.take i)).map bv⟩]) (s.size) ?_ ?_
 ·
  exact ⟨0,_,by omega,rfl,rfl,rfl,rfl,cx.row_eq rfl rfl⟩
 intro gk3 f w hJ
 obtain ⟨i,v,hk,hs0,hs8,hs9,hs3,cx⟩:=hJ
 have hlq:=qtd_len (s.data.toList.take i)
 have hlt:=List.length_take_le i s.data.toList
 have hls:s.data.toList.length=s.size:=by simp
 obtain ⟨c,hcc⟩:∃ c,s.data.toList.getD i 0=c:=⟨_,rfl⟩
 have hbc:byteAt s (i:Int)=(c.toNat:Int):=by unfold byteAt;rw [Int.toNat_natCast,hcc]
 have hlx:=hexs_len (byteAt s (i:Int)).toNat
 have hlx2:=hexs_len c.toNat
 refine K0 ?_
 refine s_val rfl rfl (v_cmp rfl hs9 hs8 rfl) ?_
 refine K0 ?_
 refine cSp rfl (fun hc10=>?_) (fun hc10=>?_)
 ·
  refine K3 ?_
  refine K1v ?_
  refine K1p ?_
  refine SS ?_
  refine K2y ?_
  refine K14 ?_
  refine c_split rfl (fun hc19=>?_) (fun hc19=>?_)
  ·
   simp only [Bool.or_eq_true,decide_eq_true_eq,beq_iff_eq] at hc19
   refine K1b ?_
   refine SS ?_
   refine s_bsl2 cx Tryz.underlying79 sz5 z5 rfl rfl rfl rfl rfl rfl rfl ?_;intro b28 w cx hb28 hw28
   refine Hf ?_;intro v29 w cx hgr29
   replace cx:=cx.drop 1
   refine K62 ?_
   have hsg:=sgn_a (c:=c) (by rw [hbc] at hc19;omega)
   have hq:=qtd_take s i (by omega)
   rw [hcc,hsg] at hq
   refine ⟨gk3-1,_,by omega,rfl,i+1,_,by omega,hs0,hs8,rfl,rfl,row_next cx hq ?_ ?_⟩
   · simp only [List.length_append,List.length_cons,List.length_nil,hbc,Int.toNat_natCast] <;> omega
   · exact congrArg (fun z=>(34::qtd (s.data.toList.take i)).map bv++z) (show [Value.int .u8 92,Value.int .u8 (byteAt s (i:Int))]=_ by rw [hbc];rfl)
  simp only [Bool.or_eq_false_iff,decide_eq_false_iff_not,beq_eq_false_iff_ne] at hc19
  refine K4 ?_
  refine c_split rfl (fun hc30=>?_) (fun hc30=>?_)
  ·
   simp only [Bool.or_eq_true,decide_eq_true_eq,beq_iff_eq] at hc30
   refine K1b ?_
   refine Hg ?_;intro v34 w cx hgr34
   refine K62 ?_
   have hsg:=sgn_10 (c:=c) (by rw [hbc] at hc30;omega)
   exact Bz29
  simp only [Bool.or_eq_false_iff,decide_eq_false_iff_not,beq_eq_false_iff_ne] at hc30
  refine K4 ?_
  refine c_split rfl (fun hc35=>?_) (fun hc35=>?_)
  ·
   simp only [Bool.or_eq_true,decide_eq_true_eq,beq_iff_eq] at hc35
   refine K1b ?_
   refine Hg ?_;intro v39 w cx hgr39
   refine K62 ?_
   have hsg:=sgn_9 (c:=c) (by rw [hbc] at hc35;omega)
   exact Bz29
  simp only [Bool.or_eq_false_iff,decide_eq_false_iff_not,beq_eq_false_iff_ne] at hc35
  refine K4 ?_
  refine c_split rfl (fun hc40=>?_) (fun hc40=>?_)
  ·
   simp only [Bool.or_eq_true,decide_eq_true_eq,beq_iff_eq] at hc40
   refine K1b ?_
   refine Hg ?_;intro v44 w cx hgr44
   refine K62 ?_
   have hsg:=sgn_13 (c:=c) (by rw [hbc] at hc40;omega)
   exact Bz29
  simp only [Bool.or_eq_false_iff,decide_eq_false_iff_not,beq_eq_false_iff_ne] at hc40
  refine K8 ?_
  refine c_split rfl (fun hc45=>?_) (fun hc45=>?_)
  ·
   simp only [Bool.or_eq_true,decide_eq_true_eq,beq_iff_eq] at hc45
   refine K1b ?_
   refine SS ?_
   refine s_val rfl rfl (v_ofByte rfl rfl Tryz.underlying5 Tryz.underlying2 (byteAt_lo _ _) (byteAt_hi _ _)) ?_
   refine s_fn cx (c151 _ _ (ht.up cx.ext) (byteAt_lo _ _) (byteAt_hi _ _)) Tryz.func151 rfl rfl rfl rfl rfl rfl ?_;intro q55 w cx hw55 hp55
   subst hp55
   refine K6z ?_
   refine K6z ?_
   refine Hg ?_;intro v58 w cx hgr58
   refine K62 ?_
   have hsg:=sgn_u (c:=c) (by rw [hbc] at hc30;omega) (by rw [hbc] at hc35;omega) (by rw [hbc] at hc40;omega) (by rw [hbc] at hc45;omega)
   have hq:=qtd_take s i (by omega)
   rw [hcc,hsg] at hq
   refine ⟨gk3-1,_,by omega,rfl,i+1,_,by omega,hs0,hs8,rfl,rfl,row_next cx hq ?_ ?_⟩
   · simp only [List.length_append,List.length_cons,List.length_nil,hbc,Int.toNat_natCast] <;> omega
   · exact congrArg (fun z=>(34::qtd (s.data.toList.take i)).map bv++z) (congrArg (List.map bv) (show [92,117,123]++hexs (byteAt s (i:Int)).toNat++[125]=_ by rw [hbc,Int.toNat_natCast]))
  simp only [Bool.or_eq_false_iff,decide_eq_false_iff_not,beq_eq_false_iff_ne] at hc45
  refine K1b ?_
  refine SS ?_
  refine He ?_;intro b17 w cx hb17 hw17
  refine Hf ?_;intro v18 w cx hgr18
  replace cx:=cx.drop 1
  refine K62 ?_
  have hsg:=sgn_o (c:=c) (by rw [hbc] at hc19;omega) (by rw [hbc] at hc45;omega)
  have hq:=qtd_take s i (by omega)
  rw [hcc,hsg] at hq
  refine ⟨gk3-1,_,by omega,rfl,i+1,_,by omega,hs0,hs8,rfl,rfl,row_next cx hq ?_ ?_⟩
  · simp only [List.length_append,List.length_cons,List.length_nil,hbc,Int.toNat_natCast] <;> omega
  · exact congrArg (fun z=>(34::qtd (s.data.toList.take i)).map bv++z) (show [Value.int .u8 (byteAt s (i:Int))]=_ by rw [hbc];rfl)
 refine K10 ?_
 refine He ?_;intro b61 w cx hb61 hw61
 refine Hf ?_;intro v62 w cx hgr62
 replace cx:=cx.drop 1
 have hq1:i=s.size:=by omega
 subst hq1
 rw [show s.data.toList.take s.size=s.data.toList from List.take_of_length_le (by simp)] at cx
 replace cx:=row_next (q':=qtd s.data.toList++[34]) (sg:=[34]) cx rfl (by simp only [List.length_cons,List.length_nil] <;> omega) rfl
 obtain ⟨g62,c62,rfl,hrow62⟩:=cx.bytes (l:=34::(qtd s.data.toList++[34])) (by simp only [List.length_append,List.length_cons,List.length_nil] <;> omega) rfl (by omega)
 refine s_val rfl rfl (v_b2s rfl Tryz.underlying79 Tryz.underlying5 Tryz.underlying9 (ns:=(34::(qtd s.data.toList++[34])).map fun x:UInt8=>(x.toNat:Int)) (by rw [List.map_map];exact hrow62) (by simp only [List.length_map,List.length_append,List.length_cons,List.length_nil] <;> omega) rfl) ?_
 refine K1 ?_
 refine ret_tmp Tryz.results94 rfl ?_
 refine K1x ?_
 exact congrArg Value.string (strOf_bs (34::(qtd s.data.toList++[34])))
end Go.Proofs.YthiafbkolhnadaaGreatDoor
end
section
namespace Go.Proofs.YthiafbkolhnadaaGreatDoor
open Go Go.Dk Go.RowKit Go.Lib
attribute [local irreducible] Go.wpList Go.Code.wp Go.bodyPost Go.wpStill Go.wpQuiet
theorem c254s (x:UInt8)(r:Int)(y:List UInt8)(hx:((x.toNat:Int)=34∧r=34)∨((x.toNat:Int)=92∧r=92)∨((x.toNat:Int)=110∧r=10)∨((x.toNat:Int)=116∧r=9)∨((x.toNat:Int)=114∧r=13))(w0:World):Fc Tryz.prog 254 [.string (bs (x::y))] w0 (fun v _=>v=.tuple #[.int .u8 r,.int .i64 1]):=by
 refine K86 ?_
 have cx:=Ctx.start w0
 refine K7 ?_
 refine s_val rfl rfl (v_eqB (s:=x::y) (u:=[]) rfl rfl rfl) ?_
 refine SS ?_
 refine c_split rfl (fun hc8=>?_) (fun hc8=>?_)
 ·
  simp at hc8
 try simp only [bsl] at hc8
 refine K3 ?_
 refine Kce ?_
 refine K6 ?_
 refine cSp rfl (fun hc11=>?_) (fun hc11=>?_)
 ·
  refine SS ?_
  exact Bz6
 refine K2 ?_
 exact Bz6
theorem c254u1 (h:UInt8)(n:Nat)(y:List UInt8)(hn:n<32∨n=127)(hh:hexs n=[h])(w0:World):Fc Tryz.prog 254 [.string (bs (117::123::h::125::y))] w0 (fun v _=>v=.tuple #[.int .u8 n,.int .i64 4]):=by
 refine K86 ?_
 have cx:=Ctx.start w0
 refine K7 ?_
 refine s_val rfl rfl (v_eqB (s:=(117::123::h::125::y)) (u:=[]) rfl rfl rfl) ?_
 refine SS ?_
 refine c_split rfl (fun hc8=>?_) (fun hc8=>?_)
 ·
  simp at hc8
 try simp only [bsl] at hc8
 refine K3 ?_
 refine s_val rfl rfl ((show (execOp _ _).run _ _=.ok (.value (.int .u8 117)) _ from v_idxB (s:=(117::123::h::125::y)) (m:=0) rfl rfl rfl Tryz.underlying9 (by omega) p12q)) ?_
 refine K6 ?_
 refine K1a ?_
 refine K3y ?_
 refine K3y ?_
 refine K46 ?_
 refine K3 ?_
 refine w_loop (fun k f w1=>∃ m:Nat,k+m=3∧3≤m∧f 0=.string (bs (117::123::h::125::y))∧f 4=.int .i64 m∧Ctx w0 w1 []) (0) ?_ ?_
 ·
  exact Ez3
 intro gk15 f w hJ
 obtain ⟨m,hk,hm,hs0,hs4,cx⟩:=hJ
 refine K4k ?_
 refine K4z ?_
 refine Ks ?_
 refine K2 ?_
 refine cSp rfl (fun hc31=>?_) (fun hc31=>?_)
 ·
  refine K3 ?_
  refine K1j ?_
  refine K4l ?_
  refine cSp rfl (fun hc42=>?_) (fun hc42=>?_)
  ·
   obtain rfl:m=3:=by omega
   refine Km ?_
   refine Ke ?_
   refine K2i ?_
   refine s_fn cx (c322 n hn _ hh _) Tryz.func322 rfl rfl rfl rfl rfl rfl ?_;intro q47 w cx hw47 hp47
   subst hp47
   refine K7 ?_
   refine s_val rfl rfl (v_nilErr Tryz.underlying184 rfl rfl rfl) ?_
   refine SS ?_
   refine K3x ?_
   refine Kag ?_
   refine Ke ?_
   refine K3 ?_
   refine K3c ?_
   exact ⟨cx.ext,congrArg (fun z=>Value.tuple #[.int .u8 z,.int .i64 4]) (u8_in (by omega))⟩
  obtain rfl:m=3:=by omega
  exact absurd hc42 (by simp)
 exfalso
 simp only [List.length_cons] at hc31
 omega
theorem c254u2 (h g:UInt8)(n:Nat)(y:List UInt8)(hn:n<32∨n=127)(hh:hexs n=[h,g])(hg:(g.toNat:Int)≠125)(w0:World):Fc Tryz.prog 254 [.string (bs (117::123::h::g::125::y))] w0 (fun v _=>v=.tuple #[.int .u8 n,.int .i64 5]):=by
 refine K86 ?_
 have cx:=Ctx.start w0
 refine K7 ?_
 refine s_val rfl rfl (v_eqB (s:=(117::123::h::g::125::y)) (u:=[]) rfl rfl rfl) ?_
 refine SS ?_
 refine c_split rfl (fun hc8=>?_) (fun hc8=>?_)
 ·
  simp at hc8
 try simp only [bsl] at hc8
 refine K3 ?_
 refine s_val rfl rfl ((show (execOp _ _).run _ _=.ok (.value (.int .u8 117)) _ from v_idxB (s:=(117::123::h::g::125::y)) (m:=0) rfl rfl rfl Tryz.underlying9 (by omega) p12q)) ?_
 refine K6 ?_
 refine K1a ?_
 refine K3y ?_
 refine K3y ?_
 refine K46 ?_
 refine K3 ?_
 refine w_loop (fun k f w1=>∃ m:Nat,k+m=4∧3≤m∧f 0=.string (bs (117::123::h::g::125::y))∧f 4=.int .i64 m∧Ctx w0 w1 []) (1) ?_ ?_
 ·
  exact Ez3
 intro gk15 f w hJ
 obtain ⟨m,hk,hm,hs0,hs4,cx⟩:=hJ
 refine K4k ?_
 refine K4z ?_
 refine Ks ?_
 refine K2 ?_
 refine cSp rfl (fun hc31=>?_) (fun hc31=>?_)
 ·
  refine K3 ?_
  refine K1j ?_
  refine K4l ?_
  refine cSp rfl (fun hc42=>?_) (fun hc42=>?_)
  ·
   have hm4:m=4:=by
    rcases Nat.lt_or_ge 3 m with h1 | h1
    · omega
    · obtain rfl:m=3:=by omega
      exact absurd hc42.2 hg
   subst hm4
   refine Km ?_
   refine Ke ?_
   refine K2i ?_
   refine s_fn cx (c322 n hn _ hh _) Tryz.func322 rfl rfl rfl rfl rfl rfl ?_;intro q47 w cx hw47 hp47
   subst hp47
   refine K7 ?_
   refine s_val rfl rfl (v_nilErr Tryz.underlying184 rfl rfl rfl) ?_
   refine SS ?_
   refine K3x ?_
   refine Kag ?_
   refine Ke ?_
   refine K3 ?_
   refine K3c ?_
   exact ⟨cx.ext,congrArg (fun z=>Value.tuple #[.int .u8 z,.int .i64 5]) (u8_in (by omega))⟩
  have hm3:m=3:=by
   have h1:m=3∨m=4:=by omega
   rcases h1 with rfl | rfl
   · rfl
   · exact absurd hc42 (by simp)
  exact Bz15
 exfalso
 simp only [List.length_cons] at hc31
 omega
theorem cesc (c:UInt8)(t l y:List UInt8)(h:sgn c=92::t)(hl:l=t++y)(w:World):Fc Tryz.prog 254 [.string (bs l)] w (fun v _=>v=.tuple #[.int .u8 (c.toNat:Nat),.int .i64 (t.length:Nat)]):=by
 subst hl
 by_cases h1:c=34∨c=92
 · have e:sgn c=[92,c]:=by unfold sgn;rw [if_pos h1]
   rw [e] at h
   simp only [List.cons.injEq,true_and] at h
   subst h
   exact c254s c c.toNat y (by rcases h1 with rfl | rfl <;> decide) w
 by_cases h2:c.toNat=10
 · rw [sgn_10 h2] at h
   simp only [List.cons.injEq,true_and] at h
   subst h
   rw [h2]
   exact c254s 110 10 y (by decide) w
 by_cases h3:c.toNat=9
 · rw [sgn_9 h3] at h
   simp only [List.cons.injEq,true_and] at h
   subst h
   rw [h3]
   exact c254s 116 9 y (by decide) w
 by_cases h4:c.toNat=13
 · rw [sgn_13 h4] at h
   simp only [List.cons.injEq,true_and] at h
   subst h
   rw [h4]
   exact c254s 114 13 y (by decide) w
 by_cases h5:c.toNat<32∨c.toNat=127
 · rw [sgn_u h2 h3 h4 h5] at h
   simp only [List.cons_append,List.nil_append,List.cons.injEq,true_and] at h
   subst h
   by_cases h6:c.toNat<16
   · have hh:hexs c.toNat=[hexd c.toNat]:=by unfold hexs;rw [if_pos h6]
     rw [hh]
     exact c254u1 _ c.toNat y h5 hh w
   · have hh:hexs c.toNat=[hexd (c.toNat / 16),hexd (c.toNat%16)]:=by unfold hexs;rw [if_neg h6]
     rw [hh]
     refine c254u2 _ _ c.toNat y h5 hh ?_ w
     have h7:c.toNat%16<16:=by omega
     generalize c.toNat%16=m at h7
     unfold hexd
     split
     · rw [u8t (by omega)];omega
     · rw [u8t (by omega)];omega
 · exfalso
   have h6:¬ (c.toNat=34∨c.toNat=92):=fun e=>h1 (e.imp (fun e=>UInt8.toNat_inj.1 e) (fun e=>UInt8.toNat_inj.1 e))
   rw [sgn_o h6 h5] at h
   simp only [List.cons.injEq] at h
   exact h1 (.inr h.1)
theorem c176 (k y s:List UInt8)(hs:s=34::(qtd k++34::y))(hk:k.length≤1073741824)(hy:y.length≤1073741824)(w0:World):Fc Tryz.prog 176 [.string (bs s)] w0 (fun v _=>v=.tuple #[.string (bs k),.int .i64 ((qtd k).length+2:Nat)]):=by
 refine ret_enter Tryz.func176 rfl Tryz.ntmps176 rfl ?_
 have cx:=Ctx.start w0
 refine K21 ?_
 refine w_loop (fun g f w1=>∃ (i p:Nat) (v:Value),g+i=k.length∧p=1+(qtd (k.take i)).length∧f 0=.string (bs s)∧f 5=.int .i64 p∧f 4=v∧Cxr w0 w1 [] [⟨5,1,v,i,(k.take i).map bv⟩]) (k.length) ?_ ?_
 ·
  exact ⟨0,1,_,by omega,rfl,rfl,rfl,rfl,cx.nilRow 5 1⟩
 intro gk3 f w hJ
 obtain ⟨i,p,v,hgi,hp,hs0,hs5,hs4,cx⟩:=hJ
 have hql:=qtd_len k
 have hsp:=qtd_split k y i
 rw [← hs] at hsp
 have hL:=congrArg List.length hsp
 simp only [List.length_append,List.length_cons] at hL
 have hR:=rst_pos k y i
 have hsl:=congrArg List.length hs
 simp only [List.length_append,List.length_cons] at hsl
 obtain ⟨b,hb⟩:∃ b,s.getD (Int.toNat (p:Int)) 0=b:=⟨_,rfl⟩
 have hb':=hb
 rw [Int.toNat_natCast,hsp,getD_at _ _ _ p12q] at hb'
 have hcase:=rst_case k y i (by omega)
 rw [hb'] at hcase
 refine K4o ?_
 refine cSp rfl (fun hc11=>?_) (fun hc11=>?_)
 ·
  refine K19 ?_
  refine Kh ?_
  refine Kcq ?_
  refine K5 ?_
  refine cSp rfl (fun hc23=>?_) (fun hc23=>?_)
  ·
   have hi:i=k.length:=by
    rcases hcase with ⟨hi,hb4⟩ | ⟨c,hki,hsg,hbc,hb3,hb9⟩ | ⟨c,t,hki,hsg,htl,hb9⟩
    · exact hi
    · exfalso
      rw [hbc] at hc23
      omega
    · exfalso
      omega
   refine K1i ?_
   refine K70 ?_
   refine Kh ?_
   refine K3 ?_
   refine ret_tmp2 Tryz.results176 rfl rfl ?_
   refine K1x ?_
   have e:k.take i=k:=by rw [hi];exact List.take_length
   rw [e] at hp
   have e2:((p:Int)+1)=(((qtd k).length+2:Nat):Int):=by omega
   show Value.tuple #[.string (bs (k.take i)),.int .i64 ((p:Int)+1)]=_
   rw [e,e2]
  refine K3 ?_
  refine cSp rfl (fun hc29=>?_) (fun hc29=>?_)
  ·
   obtain ⟨c,t,hki,hsg,htl⟩:∃ c t,k[i]?=some c∧sgn c=92::t∧0<t.length:=by
    rcases hcase with ⟨hi,hb4⟩ | ⟨c,hki,hsg,hbc,hb3,hb9⟩ | ⟨c,t,hki,hsg,htl,hb9⟩
    · exfalso
      omega
    · exfalso
      rw [hbc] at hc29
      omega
    · exact ⟨c,t,hki,hsg,htl⟩
   have hts:=sgn_len c
   rw [hsg] at hts
   simp only [List.length_cons] at hts
   refine Km ?_
   refine K63 ?_
   refine s_fn cx (cesc c t _ (rstQ k y (i+1)) hsg (by rw [hsp,drop_at _ _ _ 1 p12q,rstQ_step k y i c hki,hsg];rfl) _) Tryz.func254 rfl rfl rfl rfl rfl rfl ?_;intro q36 w cx hw36 hp36
   subst hp36
   refine Ko ?_
   refine cSp rfl (fun hc40=>?_) (fun hc40=>?_)
   ·
    exfalso
    omega
   refine Kl ?_
   refine SS ?_
   refine He ?_;intro b43 w cx hb43 hw43
   refine Hf ?_;intro v44 w cx hgr44
   replace cx:=cx.drop 1
   refine Kf ?_
   refine K7 ?_
   have hik:=(List.getElem?_eq_some_iff.1 hki).1
   have hq2:=congrArg List.length (qtdt_succ k i c hki)
   simp only [List.length_append,hsg,List.length_cons,List.length_nil] at hq2
   refine ⟨gk3-1,_,by omega,rfl,i+1,p+t.length+1,_,by omega,by omega,hs0,rfl,rfl,cx.row_eq (by omega) ?_⟩
   exact take_bv hki
  obtain ⟨c,hki,hsg,hbc⟩:∃ c,k[i]?=some c∧sgn c=[c]∧b=c:=by
   exact Bz123
  refine SS ?_
  refine Ke ?_
  refine Kb ?_
  refine Kh ?_
  refine Kcq ?_
  refine He ?_;intro b21 w cx hb21 hw21
  refine Hf ?_;intro v22 w cx hgr22
  replace cx:=cx.drop 1
  refine K3z ?_
  have hik:=(List.getElem?_eq_some_iff.1 hki).1
  have hq2:=congrArg List.length (qtdt_succ k i c hki)
  simp only [List.length_append,hsg,List.length_cons,List.length_nil] at hq2
  refine ⟨gk3-1,_,by omega,rfl,i+1,p+1,_,by omega,by omega,hs0,rfl,rfl,cx.row_eq (by omega) ?_⟩
  subst hbc
  exact take_bv hki
 exfalso
 omega
end Go.Proofs.YthiafbkolhnadaaGreatDoor
end
section
namespace Go.Proofs
open Go.Shelf
def Tryz.lays169_ren:Go.Shelf.Ren:=⟨fun | 169=>157 | n=>n,fun | 70=>243 | 9=>9 | 0=>0 | 72=>245 | 37=>79 | 127=>312 | 3=>3 | 5=>5 | n=>n,fun | n=>n⟩
theorem Tryz.lays169:Go.Proofs.Lays.n169 Tryz.prog Tryz.lays169_ren:={
 mixed:=by kernel_rfl
 f169:=Tryz.func157.trans (congrArg some p1q)
 t0:=Tryz.underlying0
 a0:=Tryz.isAgg0
 z0:=Tryz.sizeOf0
 v0:=Tryz.zeroValue0
 t3:=Tryz.underlying3
 a3:=Tryz.isAgg3
 z3:=Tryz.sizeOf3
 v3:=Tryz.zeroValue3
 t9:=Tryz.underlying9
 a9:=Tryz.isAgg9
 z9:=Tryz.sizeOf9
 v9:=Tryz.zeroValue9
 t37:=Tryz.underlying79
 a37:=Tryz.isAgg79
 z37:=Tryz.sizeOf79
 v37:=Tryz.zeroValue79
 t70:=Tryz.underlying243
 a70:=Tryz.isAgg243
 z70:=Tryz.sizeOf243
 v70:=Tryz.zeroValue243
 t72:=Tryz.underlying245
 a72:=Tryz.isAgg245
 z72:=Tryz.sizeOf245
 v72:=Tryz.zeroValue245
 t127:=Tryz.underlying312
 a127:=Tryz.isAgg312
 z127:=Tryz.sizeOf312
 v127:=Tryz.zeroValue312 }
theorem Tryz.Builder_Extra_169:Builder.Extra Tryz.prog Tryz.lays169_ren:={
 sizeBuilder:=by kernel_rfl
 liesBuilder:=by kernel_rfl
 t5:=Tryz.underlying5
 a5:=Tryz.isAgg5
 z5:=Tryz.sizeOf5
 v5:=Tryz.zeroValue5
 infoByte:=by kernel_rfl
 cellsByte:=by kernel_rfl
 sizeByte:=by kernel_rfl
 neB5:=by decide }
def Tryz.lays103_ren:Go.Shelf.Ren:=⟨fun | 103=>55 | 210=>104 | 206=>169 | n=>n,fun | 9=>9 | 4=>4 | 24=>113 | 3=>3 | n=>n,fun | n=>n⟩
theorem Tryz.lays103:Go.Proofs.Lays.n103 Tryz.prog Tryz.lays103_ren:={
 mixed:=by kernel_rfl
 f103:=Tryz.func55.trans (congrArg some p1q)
 f206:=Tryz.func169.trans (congrArg some p1q)
 f210:=Tryz.func104.trans (congrArg some p1q)
 t3:=Tryz.underlying3
 a3:=Tryz.isAgg3
 z3:=Tryz.sizeOf3
 v3:=Tryz.zeroValue3
 t4:=Tryz.underlying4
 a4:=Tryz.isAgg4
 z4:=Tryz.sizeOf4
 v4:=Tryz.zeroValue4
 t9:=Tryz.underlying9
 a9:=Tryz.isAgg9
 z9:=Tryz.sizeOf9
 v9:=Tryz.zeroValue9
 t24:=Tryz.underlying113
 a24:=Tryz.isAgg113
 z24:=Tryz.sizeOf113
 v24:=Tryz.zeroValue113 }
open Go.RowKit in
theorem Tryz.strings_CutPrefix (s p:ByteArray)(w:World) :
  Calls Tryz.prog 55 #[.string s,.string p] w fun e w'=>e=.returned (.tuple #[.string ⟨(Lib.trimPrefix s.data.toList p.data.toList).toArray⟩,.bool (Lib.hasPrefix s.data.toList p.data.toList)])∧w'=w:=Any.strings_CutPrefix Tryz.lays103 s p w
open Go.RowKit in
theorem Tryz.Builder_String_any_k (B b:Nat)(l:List UInt8)(w:World)(h:Lib.IsBuilderF 245 5 B b (Lib.byteCells l) w)(hBw:B≤w.heap.size) :
  Calls Tryz.prog 157 #[.pointer (some ⟨b,0,none⟩)] w fun e w'=>e=.returned (.string ⟨l.toArray⟩)∧(Lib.IsBuilderF 245 5 B b (Lib.byteCells l) w'∧Below B w w'∧Lib.OthersKept 5 (some b) w w'):=Any.Builder_String_any_k Tryz.lays169 Tryz.Builder_Extra_169 B b l w h hBw
def Tryz.lays172_ren:Go.Shelf.Ren:=⟨fun | 172=>106 | 244=>171 | 245=>172 | 247=>243 | 279=>244 | 280=>245 | 281=>246 | 282=>247 | 287=>317 | 316=>318 | 171=>47 | 205=>319 | 321=>374 | 322=>375 | 243=>96 | 246=>153 | 283=>213 | 284=>214 | 285=>215 | 286=>216 | 129=>290 | 317=>289 | 318=>291 | 319=>292 | 320=>293 | 337=>356 | 338=>357 | n=>n,fun | 9=>9 | 3=>3 | 75=>184 | 76=>185 | 4=>4 | 5=>5 | 167=>319 | 37=>79 | 0=>0 | 85=>320 | 2=>2 | 168=>322 | 53=>299 | 175=>368 | 46=>237 | 210=>371 | 127=>312 | 145=>397 | 143=>395 | 21=>21 | 171=>301 | 173=>304 | 212=>358 | 51=>359 | 20=>20 | 213=>360 | 232=>405 | 233=>406 | 80=>248 | n=>n,fun | 15=>4 | 16=>5 | 17=>2 | 18=>6 | 19=>7 | n=>n⟩
theorem Tryz.lays172:Go.Proofs.Lays.n172 Tryz.prog Tryz.lays172_ren:={
 mixed:=by kernel_rfl
 f129:=Tryz.func290.trans (congrArg some p1q)
 f171:=Tryz.func47.trans (congrArg some p1q)
 f172:=Tryz.func106.trans (congrArg some p1q)
 f205:=Tryz.func319.trans (congrArg some p1q)
 f243:=Tryz.func96.trans (congrArg some p1q)
 f244:=Tryz.func171.trans (congrArg some p1q)
 f245:=Tryz.func172.trans (congrArg some p1q)
 f246:=Tryz.func153.trans (congrArg some p1q)
 f247:=Tryz.func243.trans (congrArg some p1q)
 f279:=Tryz.func244.trans (congrArg some p1q)
 f280:=Tryz.func245.trans (congrArg some p1q)
 f281:=Tryz.func246.trans (congrArg some p1q)
 f282:=Tryz.func247.trans (congrArg some p1q)
 f283:=Tryz.func213.trans (congrArg some p1q)
 f284:=Tryz.func214.trans (congrArg some p1q)
 f285:=Tryz.func215.trans (congrArg some p1q)
 f286:=Tryz.func216.trans (congrArg some p1q)
 f287:=Tryz.func317.trans (congrArg some p1q)
 f316:=Tryz.func318.trans (congrArg some p1q)
 f317:=Tryz.func289.trans (congrArg some p1q)
 f318:=Tryz.func291.trans (congrArg some p1q)
 f319:=Tryz.func292.trans (congrArg some p1q)
 f320:=Tryz.func293.trans (congrArg some p1q)
 f321:=Tryz.func374.trans (congrArg some p1q)
 f322:=Tryz.func375.trans (congrArg some p1q)
 f337:=Tryz.func356.trans (congrArg some p1q)
 f338:=Tryz.func357.trans (congrArg some p1q)
 t0:=Tryz.underlying0
 a0:=Tryz.isAgg0
 z0:=Tryz.sizeOf0
 v0:=Tryz.zeroValue0
 t2:=Tryz.underlying2
 a2:=Tryz.isAgg2
 z2:=Tryz.sizeOf2
 v2:=Tryz.zeroValue2
 t3:=Tryz.underlying3
 a3:=Tryz.isAgg3
 z3:=Tryz.sizeOf3
 v3:=Tryz.zeroValue3
 t4:=Tryz.underlying4
 a4:=Tryz.isAgg4
 z4:=Tryz.sizeOf4
 v4:=Tryz.zeroValue4
 t5:=Tryz.underlying5
 a5:=Tryz.isAgg5
 z5:=Tryz.sizeOf5
 v5:=Tryz.zeroValue5
 t9:=Tryz.underlying9
 a9:=Tryz.isAgg9
 z9:=Tryz.sizeOf9
 v9:=Tryz.zeroValue9
 t20:=Tryz.underlying20
 a20:=Tryz.isAgg20
 z20:=Tryz.sizeOf20
 v20:=Tryz.zeroValue20
 t21:=Tryz.underlying21
 a21:=Tryz.isAgg21
 z21:=Tryz.sizeOf21
 v21:=Tryz.zeroValue21
 t37:=Tryz.underlying79
 a37:=Tryz.isAgg79
 z37:=Tryz.sizeOf79
 v37:=Tryz.zeroValue79
 t46:=Tryz.underlying237
 a46:=Tryz.isAgg237
 z46:=Tryz.sizeOf237
 v46:=Tryz.zeroValue237
 t51:=Tryz.underlying359
 a51:=Tryz.isAgg359
 z51:=Tryz.sizeOf359
 v51:=Tryz.zeroValue359
 t53:=Tryz.underlying299
 a53:=Tryz.isAgg299
 z53:=Tryz.sizeOf299
 v53:=Tryz.zeroValue299
 t75:=Tryz.underlying184
 a75:=Tryz.isAgg184
 z75:=Tryz.sizeOf184
 v75:=Tryz.zeroValue184
 t76:=Tryz.underlying185
 a76:=Tryz.isAgg185
 z76:=Tryz.sizeOf185
 v76:=Tryz.zeroValue185
 t85:=Tryz.underlying320
 a85:=Tryz.isAgg320
 z85:=Tryz.sizeOf320
 v85:=Tryz.zeroValue320
 t127:=Tryz.underlying312
 a127:=Tryz.isAgg312
 z127:=Tryz.sizeOf312
 v127:=Tryz.zeroValue312
 t143:=Tryz.underlying395
 a143:=Tryz.isAgg395
 z143:=Tryz.sizeOf395
 v143:=Tryz.zeroValue395
 t145:=Tryz.underlying397
 a145:=Tryz.isAgg397
 z145:=Tryz.sizeOf397
 v145:=Tryz.zeroValue397
 t167:=Tryz.underlying319
 a167:=Tryz.isAgg319
 z167:=Tryz.sizeOf319
 v167:=Tryz.zeroValue319
 t168:=Tryz.underlying322
 a168:=Tryz.isAgg322
 z168:=Tryz.sizeOf322
 v168:=Tryz.zeroValue322
 t171:=Tryz.underlying301
 a171:=Tryz.isAgg301
 z171:=Tryz.sizeOf301
 v171:=Tryz.zeroValue301
 t173:=Tryz.underlying304
 a173:=Tryz.isAgg304
 z173:=Tryz.sizeOf304
 v173:=Tryz.zeroValue304
 t175:=Tryz.underlying368
 a175:=Tryz.isAgg368
 z175:=Tryz.sizeOf368
 v175:=Tryz.zeroValue368
 t210:=Tryz.underlying371
 a210:=Tryz.isAgg371
 z210:=Tryz.sizeOf371
 v210:=Tryz.zeroValue371
 t212:=Tryz.underlying358
 a212:=Tryz.isAgg358
 z212:=Tryz.sizeOf358
 v212:=Tryz.zeroValue358
 t213:=Tryz.underlying360
 a213:=Tryz.isAgg360
 z213:=Tryz.sizeOf360
 t232:=Tryz.underlying405
 a232:=Tryz.isAgg405
 z232:=Tryz.sizeOf405
 v232:=Tryz.zeroValue405
 t233:=Tryz.underlying406
 a233:=Tryz.isAgg406
 z233:=Tryz.sizeOf406
 v233:=Tryz.zeroValue406
 g15:=by kernel_rfl
 g16:=by kernel_rfl
 g17:=by kernel_rfl
 g18:=by kernel_rfl
 g19:=by kernel_rfl }
open Go.RowKit in
theorem Tryz.strconv_Atoi (s:ByteArray)(n:Int)(hl:s.size≤18)(h:Lib.atoi s.data.toList=some n)(w:World) :
  Calls Tryz.prog 106 #[.string s] w fun e w'=>e=.returned (.tuple #[.int .i64 n,.nilIface])∧∃ t,w'=Lib.bytesWorld w 5 t:=Any.strconv_Atoi Tryz.lays172 s n hl h w
def Tryz.lays145_ren:Go.Shelf.Ren:=⟨fun | 145=>105 | 220=>170 | 219=>242 | 217=>313 | 225=>314 | 224=>315 | 267=>316 | 266=>372 | 314=>373 | n=>n,fun | 9=>9 | 4=>4 | 59=>181 | 3=>3 | 5=>5 | 46=>237 | 146=>393 | 51=>359 | n=>n,fun | 1=>3 | n=>n⟩
theorem Tryz.lays145:Go.Proofs.Lays.n145 Tryz.prog Tryz.lays145_ren:={
 mixed:=by kernel_rfl
 f145:=Tryz.func105.trans (congrArg some p1q)
 f217:=Tryz.func313.trans (congrArg some p1q)
 f219:=Tryz.func242.trans (congrArg some p1q)
 f220:=Tryz.func170.trans (congrArg some p1q)
 f224:=Tryz.func315.trans (congrArg some p1q)
 f225:=Tryz.func314.trans (congrArg some p1q)
 f266:=Tryz.func372.trans (congrArg some p1q)
 f267:=Tryz.func316.trans (congrArg some p1q)
 f314:=Tryz.func373.trans (congrArg some p1q)
 t3:=Tryz.underlying3
 a3:=Tryz.isAgg3
 z3:=Tryz.sizeOf3
 v3:=Tryz.zeroValue3
 t4:=Tryz.underlying4
 a4:=Tryz.isAgg4
 z4:=Tryz.sizeOf4
 v4:=Tryz.zeroValue4
 t5:=Tryz.underlying5
 a5:=Tryz.isAgg5
 z5:=Tryz.sizeOf5
 v5:=Tryz.zeroValue5
 t9:=Tryz.underlying9
 a9:=Tryz.isAgg9
 z9:=Tryz.sizeOf9
 v9:=Tryz.zeroValue9
 t46:=Tryz.underlying237
 a46:=Tryz.isAgg237
 z46:=Tryz.sizeOf237
 v46:=Tryz.zeroValue237
 t51:=Tryz.underlying359
 a51:=Tryz.isAgg359
 z51:=Tryz.sizeOf359
 v51:=Tryz.zeroValue359
 t59:=Tryz.underlying181
 a59:=Tryz.isAgg181
 z59:=Tryz.sizeOf181
 v59:=Tryz.zeroValue181
 t146:=Tryz.underlying393
 a146:=Tryz.isAgg393
 z146:=Tryz.sizeOf393
 v146:=Tryz.zeroValue393
 g1:=by kernel_rfl }
open Go.RowKit Go.Lib in
theorem Tryz.strings_Cut (s sep:ByteArray)(m:Int)(w:World)(hs:s.size<4294967281)(hm:w.cell? ⟨3,0,none⟩=some (.int .i64 m)) :
  Calls Tryz.prog 105 #[.string s,.string sep] w fun e w'=>e=.returned (.tuple #[.string ⟨(Lib.cut s.data.toList sep.data.toList).1.toArray⟩,.string ⟨(Lib.cut s.data.toList sep.data.toList).2.1.toArray⟩,.bool (Lib.cut s.data.toList sep.data.toList).2.2])∧∃ n,w'=w.drewN n:=Any.strings_Cut Tryz.lays145 s sep m w hs hm
def Tryz.lays146_ren:Go.Shelf.Ren:=⟨fun | 146=>54 | 221=>103 | 268=>166 | 138=>167 | 143=>168 | 195=>240 | 197=>114 | 218=>241 | 219=>242 | 260=>180 | 217=>313 | 225=>314 | 224=>315 | 267=>316 | 266=>372 | 314=>373 | n=>n,fun | 9=>9 | 31=>33 | 3=>3 | 4=>4 | 0=>0 | 105=>199 | 21=>21 | 5=>5 | 46=>237 | 119=>233 | 139=>236 | 138=>235 | 146=>393 | 51=>359 | n=>n,fun | 1=>3 | 3=>0 | 4=>1 | n=>n⟩
theorem Tryz.lays146:Go.Proofs.Lays.n146 Tryz.prog Tryz.lays146_ren:={
 mixed:=by kernel_rfl
 f138:=Tryz.func167.trans (congrArg some p1q)
 f143:=Tryz.func168.trans (congrArg some p1q)
 f146:=Tryz.func54.trans (congrArg some p1q)
 f195:=Tryz.func240.trans (congrArg some p1q)
 f197:=Tryz.func114.trans (congrArg some p1q)
 f217:=Tryz.func313.trans (congrArg some p1q)
 f218:=Tryz.func241.trans (congrArg some p1q)
 f219:=Tryz.func242.trans (congrArg some p1q)
 f221:=Tryz.func103.trans (congrArg some p1q)
 f224:=Tryz.func315.trans (congrArg some p1q)
 f225:=Tryz.func314.trans (congrArg some p1q)
 f260:=Tryz.func180.trans (congrArg some p1q)
 f266:=Tryz.func372.trans (congrArg some p1q)
 f267:=Tryz.func316.trans (congrArg some p1q)
 f268:=Tryz.func166.trans (congrArg some p1q)
 f314:=Tryz.func373.trans (congrArg some p1q)
 t0:=Tryz.underlying0
 a0:=Tryz.isAgg0
 z0:=Tryz.sizeOf0
 v0:=Tryz.zeroValue0
 t3:=Tryz.underlying3
 a3:=Tryz.isAgg3
 z3:=Tryz.sizeOf3
 v3:=Tryz.zeroValue3
 t4:=Tryz.underlying4
 a4:=Tryz.isAgg4
 z4:=Tryz.sizeOf4
 v4:=Tryz.zeroValue4
 t5:=Tryz.underlying5
 a5:=Tryz.isAgg5
 z5:=Tryz.sizeOf5
 v5:=Tryz.zeroValue5
 t9:=Tryz.underlying9
 a9:=Tryz.isAgg9
 z9:=Tryz.sizeOf9
 v9:=Tryz.zeroValue9
 t21:=Tryz.underlying21
 a21:=Tryz.isAgg21
 z21:=Tryz.sizeOf21
 v21:=Tryz.zeroValue21
 t31:=Tryz.underlying33
 a31:=Tryz.isAgg33
 z31:=Tryz.sizeOf33
 v31:=Tryz.zeroValue33
 t46:=Tryz.underlying237
 a46:=Tryz.isAgg237
 z46:=Tryz.sizeOf237
 v46:=Tryz.zeroValue237
 t51:=Tryz.underlying359
 a51:=Tryz.isAgg359
 z51:=Tryz.sizeOf359
 v51:=Tryz.zeroValue359
 t105:=Tryz.underlying199
 a105:=Tryz.isAgg199
 z105:=Tryz.sizeOf199
 v105:=Tryz.zeroValue199
 t119:=Tryz.underlying233
 a119:=Tryz.isAgg233
 z119:=Tryz.sizeOf233
 t138:=Tryz.underlying235
 a138:=Tryz.isAgg235
 z138:=Tryz.sizeOf235
 v138:=Tryz.zeroValue235
 t139:=Tryz.underlying236
 a139:=Tryz.isAgg236
 z139:=Tryz.sizeOf236
 v139:=Tryz.zeroValue236
 t146:=Tryz.underlying393
 a146:=Tryz.isAgg393
 z146:=Tryz.sizeOf393
 v146:=Tryz.zeroValue393
 g1:=by kernel_rfl
 g3:=by kernel_rfl
 g4:=by kernel_rfl }
open Go.RowKit Go.Lib in
theorem Tryz.strings_Split (s sep:ByteArray)(m:Int)(w:World)(hs:s.size<4294967281)(hm:w.cell? ⟨3,0,none⟩=some (.int .i64 m))(h1:1≤sep.size) :
  Calls Tryz.prog 54 #[.string s,.string sep] w fun e w' =>
   e=.returned (.slice (some ⟨w.heap.size,0,none⟩) (Lib.countB s sep+1) (Lib.countB s sep+1))∧w'=w.alloc (.cells ((Lib.splitB sep 0 (Lib.countB s sep) s).map Value.string).toArray 9):=Any.strings_Split Tryz.lays146 p1q s sep m w hs hm h1
end Go.Proofs
end
section
namespace Go.Proofs.YthiafbkolhnadaaGreatDoor
open Go Go.Dk Go.RowKit Go.Lib Go.Ev
def Cnt (w:World):Prop:=∃ m:Int,w.cell? ⟨3,0,none⟩=some (.int .i64 m)
theorem Cnt.up {w w':World}(h:Cnt w)(hb:Below w.heap.size w w'):Cnt w':=by
 obtain ⟨m,hm⟩:=h
 exact ⟨m,cell_up hb hm⟩
theorem c106 (n:Int)(w0:World)(h0:0≤n)(h1:n≤1048576):Fc Tryz.prog 106 [.string (bs (itoa n))] w0 (fun v _=>v=.tuple #[.int .i64 n,.nilIface]) :=
 Calls.mono (Go.Proofs.Tryz.strconv_Atoi (bs (itoa n)) n (by rw [bs_size];have:=itoa_le h0 h1;omega) (atoi_itoa h0) w0) fun e w' ⟨he,t,hw⟩=>⟨_,he,by rw [hw];exact Go.Joins.below_bytesWorld _ _ _ _ (Nat.le_refl _),rfl⟩
theorem c55 (s p:List UInt8)(w0:World):Fc Tryz.prog 55 [.string (bs s),.string (bs p)] w0 (fun v _=>v=.tuple #[.string (bs (Lib.trimPrefix s p)),.bool (Lib.hasPrefix s p)]) :=
 Calls.mono (Go.Proofs.Tryz.strings_CutPrefix (bs s) (bs p) w0) fun e w' ⟨he,hw⟩=>⟨_,he,by rw [hw];exact Below.refl _ _,rfl⟩
theorem c105 (s p:List UInt8)(w0:World)(hm:Cnt w0)(hs:s.length<4294967281):Fc Tryz.prog 105 [.string (bs s),.string (bs p)] w0 (fun v _=>v=.tuple #[.string (bs (Lib.cut s p).1),.string (bs (Lib.cut s p).2.1),.bool (Lib.cut s p).2.2]):=by
 obtain ⟨m,hm⟩:=hm
 exact Calls.mono (Go.Proofs.Tryz.strings_Cut (bs s) (bs p) m w0 (by rw [bs_size];exact hs) hm) fun e w' ⟨he,n,hw⟩=>⟨_,he,by rw [hw];exact ⟨rfl,rfl,rfl,Nat.le_refl _,fun _ _=>rfl⟩,rfl⟩
theorem c54 (s p:List UInt8)(w0:World)(hm:Cnt w0)(hs:s.length<4294967281)(hp:1≤p.length):Fc Tryz.prog 54 [.string (bs s),.string (bs p)] w0 (fun v w'=>∃ g k,v=.slice (some ⟨g,0,none⟩) k k∧k=Lib.countB (bs s) (bs p)+1∧w'.ownsRow w0.heap.size 9 1 v k ((Lib.splitB (bs p) 0 (Lib.countB (bs s) (bs p)) (bs s)).map Value.string)):=by
 obtain ⟨m,hm⟩:=hm
 refine Calls.mono (Go.Proofs.Tryz.strings_Split (bs s) (bs p) m w0 (by rw [bs_size];exact hs) hm (by rw [bs_size];exact hp)) fun e w' ⟨he,hw⟩=>⟨_,he,by rw [hw];exact (Below.refl _ _).alloc (Nat.le_refl _) _,_,_,rfl,rfl,?_⟩
 have hl:=Lib.splitB_all (bs p) (by rw [bs_size];exact hp) 0 (Lib.countB (bs s) (bs p)) (bs s) rfl
 have hc:Lib.countB (bs s) (bs p)≤(bs s).size:=Lib.countB_le (bs p) (by rw [bs_size];exact hp) _ (bs s) (Nat.le_refl _)
 rw [bs_size] at hc
 refine ⟨by rw [List.length_map,hl,Nat.mul_one],.inr ⟨_,_,((Lib.splitB (bs p) 0 (Lib.countB (bs s) (bs p)) (bs s)).map Value.string).toArray,rfl,Nat.le_refl _,?_,Nat.le_refl _,?_,?_,?_⟩⟩
 · rw [hw];simp [World.alloc,-World.alloc_eq]
 · unfold maxLen;omega
 · simp [hl]
 · rw [Nat.mul_one];exact List.take_of_length_le (by rw [List.length_map,hl];exact Nat.le_refl _)
end Go.Proofs.YthiafbkolhnadaaGreatDoor
end
section
namespace Go.Proofs.YthiafbkolhnadaaGreatDoor
open Go Go.Dk Go.RowKit Go.Lib
attribute [local irreducible] Go.wpList Go.Code.wp Go.bodyPost Go.wpStill Go.wpQuiet
theorem c41 (u:Value)(l:List Stp)(w0:World)(hv:Pth w0 u l)(hg:∀ s∈l,GdS s)(hl:l.length≤48)(ht:Tabs w0):Fc Tryz.prog 41 [u] w0 (fun v _=>v=.string (bs (pathT l))):=by
 obtain ⟨a,c,b,o,rfl,ha,hr⟩:=hv.form
 refine ret_enter Tryz.func41 rfl Tryz.ntmps41 rfl ?_
 have cx:=Ctx.start w0
 refine Ka ?_
 refine cSp rfl (fun hc8=>?_) (fun hc8=>?_)
 ·
  refine K3 ?_
  refine ret_tmp Tryz.results41 rfl ?_
  have e:l=[]:=List.eq_nil_of_length_eq_zero (by omega)
  subst e
  exact Ez2
 refine K1 ?_
 have hne:l≠[]:=by rintro rfl;simp at hc8
 have hpos:0<l.length:=List.length_pos_iff.2 hne
 obtain ⟨x0,hx0⟩:∃ x,l[0]?=some x:=⟨l[0]'hpos,List.getElem?_eq_getElem _⟩
 have hr0:=hr 0 x0 hx0
 obtain rfl:=ha hpos
 replace cx:=cx.nilRow 5 1
 refine K0 ?_
 refine w_cut (fun f w1=>∃ v,f 0=.slice (some ⟨b,o,none⟩) l.length c∧f 3=v∧Cxr w0 w1 [] [⟨5,1,v,(ldp l).length,(ldp l).map bv⟩]) ?_ ?_
 ·
  refine K1 ?_
  refine K71 ?_
  refine K48 ?_
  refine Kcr ?_
  refine SS ?_
  refine cSp rfl (fun hc12=>?_) (fun hc12=>?_)
  ·
   refine K0 ?_
   refine He ?_;intro b14 w cx hb14 hw14
   refine Hf ?_;intro v15 w cx hgr15
   replace cx:=cx.drop 1
   refine K0 ?_
   exact Bz86
  refine SS ?_
  exact Bz86
 intro f w hJ
 obtain ⟨v,hs0,hs3,cx⟩:=hJ
 refine K9 ?_
 refine K2 ?_
 refine w_loop (fun k f w1=>∃ (i:Nat) (v:Value),k+i=l.length∧f 16=.slice (some ⟨b,o,none⟩) l.length c∧f 17=.int .i64 l.length∧f 18=.int .i64 i∧f 3=v∧Cxr w0 w1 [] [⟨5,1,v,(ldp l++(l.take i).flatMap stpT).length,(ldp l++(l.take i).flatMap stpT).map bv⟩]) (l.length) ?_ ?_
 ·
  exact ⟨0,_,by omega,rfl,rfl,rfl,hs3,cx.row_eq (by simp) (by simp)⟩
 intro gk7 f w hJ
 obtain ⟨i,v,hk,hs16,hs17,hs18,hs3,cx⟩:=hJ
 refine K0 ?_
 refine s_val rfl rfl (v_cmp rfl hs18 hs17 rfl) ?_
 refine K0 ?_
 refine cSp rfl (fun hc19=>?_) (fun hc19=>?_)
 ·
  obtain ⟨x,hx⟩:∃ x,l[i]?=some x:=⟨l[i]'(by omega),List.getElem?_eq_getElem _⟩
  have hrw:=hr i x hx
  have hgx:=hg x (List.mem_of_getElem? hx)
  have hll:=ldp_le l
  have hfl:=flat_len (l:=l.take i) (fun y hy=>hg y (List.mem_of_mem_take hy))
  rw [List.length_take] at hfl
  have hsl:=stepT_len hgx
  have hqx:=qtd_len x.key.data.toList
  have hkx:x.key.data.toList.length=x.key.size:=by simp
  refine K3 ?_
  refine s_val rfl rfl (v_ia Tryz.underlying28 sz107 rfl hs16 hs18 (by omega) (by omega)) ?_
  refine Kak ?_
  refine Hh ?_;intro b5 w cx hb5 hw5
  refine Hi ?_;intro w cx hwS
  refine K2 ?_
  refine K48 ?_
  refine Kcs ?_
  refine K0 ?_
  refine cSp rfl (fun hc28=>?_) (fun hc28=>?_)
  ·
   have hix:=hgx.1 hc28
   have hil:=itoa_le hix.1 (by omega)
   refine K1b ?_
   refine Kal ?_
   refine K12 ?_
   refine Hj ?_;intro q34 w cx hw34 hp34
   subst hp34
   refine K6z ?_
   refine K6z ?_
   refine Hk ?_;intro v37 w cx hgr37
   refine K1 ?_
   refine K87 ?_
   refine K0 ?_
   have hsg:=step_ix hc28
   exact Bz23
  have hkl:=hgx.2 hc28
  refine SS ?_
  refine K1l ?_
  refine q_val rfl rfl (fun w cx hwQ=>v_fa fa107_1 rfl rfl) ?_
  refine q_val rfl rfl (fun w cx hwQ=>v_load1 rfl rfl Tryz.underlying9 rfl (cx.cell 0 rfl rfl)) ?_
  refine q_val rfl rfl (fun w cx hwQ=>v_strNe rfl rfl rfl) ?_
  refine Kj ?_
  refine Kct ?_
  refine Kcu ?_
  refine q_gcall rfl rfl rfl (by exact w_tt rfl) (fun hc=>runs_fn Tryz.func93 rfl rfl rfl (cons_eq (gve hc rfl) rfl)) (fun hc w cx hwQ=>c93 x.key w (by omega)) ?_
  refine Kct ?_
  refine Kcu ?_
  refine q_gval rfl rfl rfl (by exact w_tt rfl) (fun hc w cx hwQ=>v_lenString rfl (gve hc rfl) Tryz.underlying9) ?_
  refine q_gval rfl rfl rfl (by exact w_tt rfl) (fun hc w cx hwQ=>v_cmp rfl (gve hc rfl) (gve hc rfl) rfl) ?_
  refine K3h ?_
  refine K2x ?_
  refine q_nil ?_;rintro w ⟨cx,hwQ12⟩
  refine cSp rfl (fun hc38=>?_) (fun hc38=>?_)
  ·
   have hnm:=(nm_iff x.key).1 hc38
   refine K1b ?_
   refine K72 ?_
   refine K15 ?_
   refine s_val rfl rfl (v_strAddB (a:=[46]) (b:=x.key.data.toList) rfl rfl rfl p1bq) ?_
   refine Hk ?_;intro v55 w cx hgr55
   refine K1 ?_
   refine K87 ?_
   refine K0 ?_
   have hsg:=step_nm hc28 hnm
   exact Bz23
  have hnm:¬ isNm x.key:=fun h=>by have:=(nm_iff x.key).2 h;rcases hc38 with h | h;exact this.1 h;exact h this.2
  refine K1b ?_
  refine K72 ?_
  refine K15 ?_
  refine s_fn cx (c94 _ _ (by omega) (ht.up cx.ext)) Tryz.func94 rfl rfl rfl rfl rfl rfl ?_;intro q25 w cx hw25 hp25
  subst hp25
  refine K6z ?_
  refine Hk ?_;intro v27 w cx hgr27
  refine K1 ?_
  refine K87 ?_
  refine K0 ?_
  have hsg:=step_qt hc28 hnm
  exact Bz23
 refine K1 ?_
 have hi:i=l.length:=by omega
 subst hi
 rw [List.take_length] at cx
 have hpl:0<(ldp l++l.flatMap stpT).length:=by rw [← path_ldp hne];exact path_pos l
 obtain ⟨g57,c57,rfl,hrow57⟩:=cx.bytes (l:=ldp l++l.flatMap stpT) rfl rfl hpl
 refine Kr ?_
 refine s_val rfl rfl (v_b2s rfl Tryz.underlying79 Tryz.underlying5 Tryz.underlying9 (ns:=(ldp l++l.flatMap stpT).map fun x:UInt8=>(x.toNat:Int)) (by rw [List.map_map];exact hrow57) (by rw [List.length_map]) rfl) ?_
 refine K1 ?_
 refine ret_tmp Tryz.results41 rfl ?_
 exact ⟨cx.ext,congrArg Value.string ((strOf_bs _).trans (congrArg bs (path_ldp hne).symm))⟩
end Go.Proofs.YthiafbkolhnadaaGreatDoor
end
section
namespace Go.Proofs.YthiafbkolhnadaaGreatDoor
open Go Go.Dk Go.RowKit Go.Lib
attribute [local irreducible] Go.wpList Go.Code.wp Go.bodyPost Go.wpStill
theorem c288 (r:Nat)(w0:World):Fc Tryz.prog 288 [.int .i64 r] w0 (IsB fun b=>b=chN r):=by
 refine ret_enter Tryz.func288 rfl Tryz.ntmps288 rfl ?_
 have cx:=Ctx.start w0
 refine K6 ?_
 refine K21 ?_
 refine ret_tmp Tryz.results288 rfl ?_
 exact Bz119
theorem c192 (r:Nat)(w0:World):Fc Tryz.prog 192 [.int .i64 r] w0 (IsB fun b=>b=chN r):=by
 refine ret_enter Tryz.func192 rfl Tryz.ntmps192 rfl ?_
 have cx:=Ctx.start w0
 refine K6 ?_
 refine K21 ?_
 refine ret_tmp Tryz.results192 rfl ?_
 exact Bz119
theorem c212 (r:Nat)(w0:World)(hr:r<4294967296):Fc Tryz.prog 212 [.int .i64 r] w0 (fun v _=>v=.tuple #[.string (bs (encN r)),.int .i64 (if chN r=true then 0 else 2)]):=by
 refine ret_enter Tryz.func212 rfl Tryz.ntmps212 rfl ?_
 have cx:=Ctx.start w0
 refine K8 ?_
 refine s_fnB cx (c288 _ _) Tryz.func288 rfl rfl rfl rfl rfl rfl ?_;intro q6 w cx hw6 hp6
 refine K1 ?_
 refine c_split rfl (fun hc4=>?_) (fun hc4=>?_)
 ·
  have hch:chN r=false:=by rw [← hp6];simpa using hc4
  refine K4 ?_
  refine K73 ?_
  have he:encN r=[]:=by unfold encN;rw [if_pos hch]
  have h2:(2:Int)=(if chN r=true then 0 else 2):=by rw [if_neg p2aq]
  refine K7x ?_
  rw [he]
  rfl
 have hch:chN r=true:=by rw [← hp6];simpa using hc4
 refine K4 ?_
 refine cSp rfl (fun hc8=>?_) (fun hc8=>?_)
 ·
  refine K1 ?_
  refine K88 ?_
  refine He ?_;intro b13 w cx hb13 hw13
  refine Kcv ?_
  refine K2 ?_
  refine K73 ?_
  have he:encN r=[UInt8.ofNat r]:=by
   unfold encN
   rw [if_neg p2aq];rw [if_pos (by omega)]
  have h2:(0:Int)=(if chN r=true then 0 else 2):=by rw [if_pos hch]
  refine K7x ?_
  rw [he]
  exact strOf_w1 (by omega)
 refine K4 ?_
 refine cSp rfl (fun hc15=>?_) (fun hc15=>?_)
 ·
  refine K1 ?_
  refine K3g ?_
  refine Kab ?_
  refine SS ?_
  refine K64 ?_
  refine s_bsl2 cx Tryz.underlying79 sz5 z5 rfl rfl rfl rfl rfl rfl rfl ?_;intro b26 w cx hb26 hw26
  refine s_val rfl rfl (v_b2s rfl Tryz.underlying79 Tryz.underlying5 Tryz.underlying9 (ns:=[_,_]) (cx.row 0 rfl) rfl rfl) ?_
  refine K2 ?_
  refine K73 ?_
  have he:encN r=[UInt8.ofNat (192+r / 64),UInt8.ofNat (128+r%64)]:=by
   unfold encN
   rw [if_neg p2aq];rw [if_neg (by omega)];rw [if_pos (by omega)]
  have h2:(0:Int)=(if chN r=true then 0 else 2):=by rw [if_pos hch]
  refine K7x ?_
  rw [he]
  rw [show shr IntKind.i64 (r:Int) (Int.toNat 6)=((r / 64:Nat):Int) from shrN 6 (by decide),and63N hr,or192 (by omega),or128 (by omega)]
  exact strOf_w2 (by omega) (by omega)
 refine K4 ?_
 refine cSp rfl (fun hc28=>?_) (fun hc28=>?_)
 ·
  refine K1 ?_
  refine K3g ?_
  refine Kab ?_
  refine SS ?_
  refine K3g ?_
  refine K64 ?_
  refine SS ?_
  refine K64 ?_
  refine s_bsl3 cx Tryz.underlying79 sz5 z5 rfl rfl rfl rfl rfl rfl rfl rfl rfl ?_;intro b44 w cx hb44 hw44
  refine s_val rfl rfl (v_b2s rfl Tryz.underlying79 Tryz.underlying5 Tryz.underlying9 (ns:=[_,_,_]) (cx.row 0 rfl) rfl rfl) ?_
  refine K2 ?_
  refine K73 ?_
  have he:encN r=[UInt8.ofNat (224+r / 4096),UInt8.ofNat (128+r / 64%64),UInt8.ofNat (128+r%64)]:=by
   unfold encN
   rw [if_neg p2aq];rw [if_neg (by omega)];rw [if_neg (by omega)];rw [if_pos (by omega)]
  have h2:(0:Int)=(if chN r=true then 0 else 2):=by rw [if_pos hch]
  refine K7x ?_
  rw [he]
  rw [show shr IntKind.i64 (r:Int) (Int.toNat 12)=((r / 4096:Nat):Int) from shrN 12 (by decide),show shr IntKind.i64 (r:Int) (Int.toNat 6)=((r / 64:Nat):Int) from shrN 6 (by decide),and63N hr,and63N (by omega),or224 (by omega),or128 (by omega),or128 (by omega)]
  exact strOf_w3 (by omega) (by omega) (by omega)
 refine K2 ?_
 refine K3g ?_
 refine Kab ?_
 refine SS ?_
 refine K3g ?_
 refine K64 ?_
 refine SS ?_
 refine K3g ?_
 refine K64 ?_
 refine SS ?_
 refine K64 ?_
 refine s_bsl4 cx Tryz.underlying79 sz5 z5 rfl rfl rfl rfl rfl rfl rfl rfl rfl rfl rfl ?_;intro b64 w cx hb64 hw64
 refine s_val rfl rfl (v_b2s rfl Tryz.underlying79 Tryz.underlying5 Tryz.underlying9 (ns:=[_,_,_,_]) (cx.row 0 rfl) rfl rfl) ?_
 refine K2 ?_
 refine K73 ?_
 have hle:=((chN_iff r).1 hch).1
 have he:encN r=[UInt8.ofNat (240+r / 262144),UInt8.ofNat (128+r / 4096%64),UInt8.ofNat (128+r / 64%64),UInt8.ofNat (128+r%64)]:=by
  unfold encN
  rw [if_neg p2aq];rw [if_neg (by omega)];rw [if_neg (by omega)];rw [if_neg (by omega)]
 have h2:(0:Int)=(if chN r=true then 0 else 2):=by rw [if_pos hch]
 refine K7x ?_
 rw [he]
 rw [show shr IntKind.i64 (r:Int) (Int.toNat 18)=((r / 262144:Nat):Int) from shrN 18 (by decide),show shr IntKind.i64 (r:Int) (Int.toNat 12)=((r / 4096:Nat):Int) from shrN 12 (by decide),show shr IntKind.i64 (r:Int) (Int.toNat 6)=((r / 64:Nat):Int) from shrN 6 (by decide),and63N hr,and63N (by omega),and63N (by omega),or240 (by omega),or128 (by omega),or128 (by omega),or128 (by omega)]
 exact strOf_w4 (by omega) (by omega) (by omega) (by omega)
theorem c152 (s:ByteArray)(a:Nat)(w0:World)(hs:s.size≤1073741824)(ha:a<s.size):Fc Tryz.prog 152 [.string s,.int .i64 a] w0 (fun v _=>∃ r:Int,v=.tuple #[.int .i64 r,.int .i64 (szAt s a)]):=by
 refine ret_enter Tryz.func152 rfl Tryz.ntmps152 rfl ?_
 have cx:=Ctx.start w0
 refine K14 ?_
 refine K65 ?_
 refine cSp rfl (fun hc19=>?_) (fun hc19=>?_)
 ·
  refine K4 ?_
  refine K89 ?_
  exfalso
  omega
 refine K3 ?_
 refine K2y ?_
 refine Kcw ?_
 refine K6 ?_
 refine w_cut (fun f w1=>∃ n0 r0:Nat,hdR (bA s a)=(n0,r0)∧f 0=.string s∧f 1=.int .i64 a∧f 7=.int .i64 n0∧f 8=.int .i64 r0∧Ctx w0 w1 []) ?_ ?_
 ·
  refine K5 ?_
  refine cSp rfl (fun hc25=>?_) (fun hc25=>?_)
  ·
   exact Bz167
  refine K4 ?_
  refine cSp rfl (fun hc30=>?_) (fun hc30=>?_)
  ·
   exact Bz167
  refine K4 ?_
  refine cSp rfl (fun hc35=>?_) (fun hc35=>?_)
  ·
   exact Bz167
  refine SS ?_
  exact Bz12
 intro f w hJ
 obtain ⟨n0,r0,hhd,hs0,hs1,hs7,hs8,cx⟩:=hJ
 have hn0:=hdR_lo (bA s a)
 have hb9:=bA_lt s a
 rw [hhd] at hn0
 simp only at hn0
 refine K9 ?_
 refine K51 ?_
 refine K3b ?_
 refine K66 ?_
 refine cSp rfl (fun hc45=>?_) (fun hc45=>?_)
 ·
  refine K4 ?_
  refine K89 ?_
  exact ⟨cx.ext,0,tup_sz (m:=0) (szR_short ha (by rw [hhd];simp only;omega)) rfl rfl⟩
 refine K5 ?_
 refine w_loop (fun k f w1=>∃ i:Nat,1≤i∧k+i=n0∧f 0=.string s∧f 1=.int .i64 a∧f 7=.int .i64 n0∧f 8=.int .i64 (accN s a r0 (i-1))∧f 9=.int .i64 i∧Ctx w0 w1 []) (n0-1) ?_ ?_
 ·
  exact ⟨1,by omega,by omega,hs0,hs1,hs7,hs8,rfl,cx⟩
 intro gk14 f w hJ
 obtain ⟨i,hi,hk,hs0,hs1,hs7,hs8,hs9,cx⟩:=hJ
 have hacc:=accN_lt s a r0 (by omega) (i-1) (by omega)
 have hacc2:256*64^(i-1)≤67108864:=Nat.le_trans (Nat.mul_le_mul_left 256 (Nat.pow_le_pow_right (by decide) (show i-1≤3 by omega))) (by decide)
 refine K5w ?_
 refine K66 ?_
 refine cSp rfl (fun hc48=>?_) (fun hc48=>?_)
 ·
  refine K67 ?_
  refine K75 ?_
  refine Kb ?_
  refine Ky ?_
  refine K1v ?_
  refine SS ?_
  refine K2y ?_
  refine Kcw ?_
  refine K1w ?_
  refine K74 ?_
  refine K1 ?_
  refine K2o ?_
  refine ⟨gk14-1,_,by omega,rfl,i+1,by omega,by omega,hs0,hs1,hs7,congrArg (Value.int .i64) ?_,rfl,cx⟩
  rw [show ((a:Int)+(i:Int))=((a+i:Nat):Int) by omega,byteAt_bA,and63 (bA_lt _ _)]
  exact Bz103
 refine K18 ?_
 refine s_fn cx (c212 _ _ (by omega)) Tryz.func212 rfl rfl rfl rfl rfl rfl ?_;intro q63 w cx hw63 hp63
 subst hp63
 refine K14 ?_
 refine Kx ?_
 refine K76 ?_
 refine K76 ?_
 refine s_gval rfl rfl rfl wF (fun hc=>v_move rfl hs7) ?_
 refine Kan ?_
 refine s_gval rfl rfl rfl wF (fun hc=>v_subStr rfl gX gX gX Tryz.underlying9 p0q p0q p0q) ?_
 refine s_gval rfl rfl rfl wF (fun hc=>v_strNe rfl gX gX) ?_
 refine K0 ?_
 refine cSp rfl (fun hc77=>?_) (fun hc77=>?_)
 ·
  refine K4 ?_
  refine K89 ?_
  have hi':i=n0:=by omega
  subst hi'
  have hz:szAt s a=0:=by
   rw [szR_end ha (by rw [hhd];simp only;omega),hhd]
   simp only
   rw [if_neg]
   rintro ⟨e1,e2⟩
   rcases hc77 with h | h
   · exact h (by rw [e1];rfl)
   · refine h ?_
     rw [e2]
     exact congr_cut (by omega) (by omega)
  exact ⟨cx.ext,0,tup_sz (m:=0) hz rfl rfl⟩
 refine K18 ?_
 refine Kk ?_
 refine K2 ?_
 refine K89 ?_
 have hi':i=n0:=by omega
 subst hi'
 have hz:szAt s a=i:=by
  rw [szR_end ha (by rw [hhd];simp only;omega),hhd]
  simp only
  rw [if_pos]
  obtain ⟨h1,h2⟩:=hc77
  have e:chN (accN s a r0 (i-1))=true:=by
   by_cases e:chN (accN s a r0 (i-1))=true
   · exact e
   · rw [if_neg e] at h1;exact absurd h1 (by decide)
  refine ⟨e,?_⟩
  have h3:=congrArg (fun b:ByteArray=>b.data.toList) h2
  exact h3.trans (cut_list' (by omega) (by omega))
 exact ⟨cx.ext,_,tup_sz (m:=i) hz rfl rfl⟩
theorem c95 (s:ByteArray)(w0:World)(hs:s.size≤1073741824):Fc Tryz.prog 95 [.string s] w0 (fun v _=>∃ x,v=.tuple #[x,.bool (validD s.data.toList)]):=by
 refine ret_enter Tryz.func95 rfl Tryz.ntmps95 rfl ?_
 have cx:=Ctx.start w0
 refine K5 ?_
 refine s_bsl1 cx Tryz.underlying167 sz3 z3 rfl rfl rfl rfl rfl rfl rfl rfl ?_;intro b8 w cx hb8 hw8
 replace cx:=Cxr.toRow (size:=1) (k:=1) cx rfl (by decide)
 refine K6 ?_
 refine w_loop (fun k f w1=>∃ (i m:Nat) (v:Value) (xs:List Value),k+i=s.size∧m≤i+1∧validD s.data.toList=validD (s.data.toList.drop i)∧f 0=.string s∧f 5=.int .i64 i∧f 4=v∧Cxr w0 w1 [] [⟨3,1,v,m,xs⟩]) (s.size) ?_ ?_
 ·
  exact ⟨0,1,_,_,by omega,by omega,rfl,rfl,rfl,rfl,cx⟩
 intro gk3 f w hJ
 obtain ⟨i,m,v,xs,hk,hm,hv0,hs0,hs5,hs4,cx⟩:=hJ
 refine Kf ?_
 refine Kb ?_
 refine K1t ?_
 refine cSp rfl (fun hc12=>?_) (fun hc12=>?_)
 ·
  have hsz:=szAt_le s i (by omega)
  refine K1p ?_
  refine Kh ?_
  refine s_fn cx (c152 _ _ _ (by omega) (by omega)) Tryz.func152 rfl rfl rfl rfl rfl rfl ?_;intro q16 w cx hw16 hp16
  obtain ⟨er16,rfl⟩:=hp16
  refine Ko ?_
  refine cSp rfl (fun hc20=>?_) (fun hc20=>?_)
  ·
   refine K1i ?_
   refine K2 ?_
   refine ret_tmp2 Tryz.results95 rfl rfl ?_
   exact ⟨cx.ext,_,tup_b (hv0.trans (valid_0 s i (by omega) (by omega))).symm rfl⟩
  refine Kf ?_
  refine K3 ?_
  refine K22 ?_
  refine s_bsl1 cx Tryz.underlying167 sz3 z3 rfl rfl rfl rfl rfl rfl rfl rfl ?_;intro b27 w cx hb27 hw27
  refine s_append cx ei3 Tryz.underlying167 rfl rfl rfl rfl rfl (cx.row 0 rfl) rfl rfl (by omega) ?_;intro v28 w cx hgr28
  replace cx:=cx.drop 1
  refine K0 ?_
  have hsz:=szAt_le s i (by omega)
  refine ⟨gk3-szAt s i,_,by omega,rfl,i+szAt s i,m+1,_,_,by omega,by omega,?_,hs0,?_,rfl,cx⟩
  · rw [hv0];exact valid_n s i (by omega) (by omega)
  · show Value.int .i64 _=_
    congr 1
 refine Kl ?_
 refine K2 ?_
 refine ret_tmp2 Tryz.results95 rfl rfl ?_
 exact ⟨cx.ext,_,tup_b (hv0.trans (valid_end s i (by omega))).symm rfl⟩
theorem c44 (s:ByteArray)(w0:World)(hs:s.size≤1073741824):Fc Tryz.prog 44 [.string s] w0 (IsB fun b=>b=validD s.data.toList):=by
 refine ret_enter Tryz.func44 rfl Tryz.ntmps44 rfl ?_
 have cx:=Ctx.start w0
 refine K5 ?_
 refine s_fn cx (c95 _ _ (by omega)) Tryz.func95 rfl rfl rfl rfl rfl rfl ?_;intro q7 w cx hw7 hp7
 obtain ⟨ex7,rfl⟩:=hp7
 refine Ko ?_
 refine ret_tmp Tryz.results44 rfl ?_
 exact ⟨cx.ext,_,rfl,rfl⟩
theorem c193 (r:Nat)(w0:World):Fc Tryz.prog 193 [.int .i64 r] w0 (IsI fun m=>m=wdN r):=by
 refine ret_enter Tryz.func193 rfl Tryz.ntmps193 rfl ?_
 have cx:=Ctx.start w0
 refine Ko ?_
 refine cSp rfl (fun hc3=>?_) (fun hc3=>?_)
 ·
  refine K3 ?_
  refine K8a ?_
  refine Kq ?_
  show (_:Int)=_
  unfold wdN
  rw [if_pos (by omega)]
  rfl
 refine K4 ?_
 refine cSp rfl (fun hc6=>?_) (fun hc6=>?_)
 ·
  refine K3 ?_
  refine K8a ?_
  refine Kq ?_
  show (_:Int)=_
  unfold wdN
  rw [if_neg (by omega)]
  rw [if_pos (by omega)]
  rfl
 refine K4 ?_
 refine cSp rfl (fun hc9=>?_) (fun hc9=>?_)
 ·
  refine K3 ?_
  refine K8a ?_
  refine Kq ?_
  show (_:Int)=_
  unfold wdN
  rw [if_neg (by omega)]
  rw [if_neg (by omega)]
  rw [if_pos (by omega)]
  rfl
 refine K4 ?_
 refine K8a ?_
 refine Kq ?_
 show (_:Int)=_
 unfold wdN
 rw [if_neg (by omega)]
 rw [if_neg (by omega)]
 rw [if_neg (by omega)]
 rfl
theorem c191 (b:Nat)(w0:World)(hb:b<256):Fc Tryz.prog 191 [.int .u8 b] w0 (fun v _=>v=.tuple #[.int .i64 (hdU b).1,.int .i64 (hdU b).2]):=by
 refine ret_enter Tryz.func191 rfl Tryz.ntmps191 rfl ?_
 have cx:=Ctx.start w0
 refine K14 ?_
 refine cSp rfl (fun hc4=>?_) (fun hc4=>?_)
 ·
  refine K1 ?_
  refine K8b ?_
  refine K2 ?_
  refine K77 ?_
  have he:hdU b=(1,b):=by
   unfold hdU
   rw [if_pos (by omega)]
  refine K1x ?_
  exact tup_h he rfl rfl
 refine K8 ?_
 refine cSp rfl (fun hc9=>?_) (fun hc9=>?_)
 ·
  refine K1 ?_
  refine K1w ?_
  refine K8b ?_
  refine K2 ?_
  refine K77 ?_
  have he:hdU b=(2,b%32):=by
   unfold hdU
   rw [if_neg (by omega)]
   rw [if_pos (by omega)]
  refine K1x ?_
  exact tup_h he rfl (congrArg (Value.int .i64) (and31b hb))
 refine K8 ?_
 refine cSp rfl (fun hc19=>?_) (fun hc19=>?_)
 ·
  refine K1 ?_
  refine K1w ?_
  refine K8b ?_
  refine K2 ?_
  refine K77 ?_
  have he:hdU b=(3,b%16):=by
   unfold hdU
   rw [if_neg (by omega)]
   rw [if_neg (by omega)]
   rw [if_pos (by omega)]
  refine K1x ?_
  exact tup_h he rfl (congrArg (Value.int .i64) (and15b hb))
 refine K8 ?_
 refine cSp rfl (fun hc29=>?_) (fun hc29=>?_)
 ·
  refine K1 ?_
  refine K1w ?_
  refine K8b ?_
  refine K2 ?_
  refine K77 ?_
  have he:hdU b=(4,b%8):=by
   unfold hdU
   rw [if_neg (by omega)]
   rw [if_neg (by omega)]
   rw [if_neg (by omega)]
   rw [if_pos (by omega)]
  refine K1x ?_
  exact tup_h he rfl (congrArg (Value.int .i64) (and7b hb))
 refine K5 ?_
 refine K77 ?_
 have he:hdU b=(0,0):=by
  unfold hdU
  rw [if_neg (by omega)]
  rw [if_neg (by omega)]
  rw [if_neg (by omega)]
  rw [if_neg (by omega)]
 refine K1x ?_
 exact tup_h he rfl rfl
theorem c121 (s:ByteArray)(a:Nat)(w0:World)(hs:s.size≤1073741824)(ha:a<s.size):Fc Tryz.prog 121 [.string s,.int .i64 a] w0 (fun v _=>∃ r:Int,v=.tuple #[.int .i64 r,.int .i64 (szAt s a)]):=by
 refine ret_enter Tryz.func121 rfl Tryz.ntmps121 rfl ?_
 have cx:=Ctx.start w0
 refine K14 ?_
 refine K65 ?_
 refine cSp rfl (fun hc16=>?_) (fun hc16=>?_)
 ·
  refine K4 ?_
  refine K78 ?_
  exfalso
  omega
 refine K3 ?_
 refine K2y ?_
 refine s_fn cx (c191 _ _ (bA_lt s a)) Tryz.func191 rfl rfl rfl rfl rfl rfl ?_;intro q21 w cx hw21 hp21
 subst hp21
 refine K13 ?_
 refine Kam ?_
 refine SS ?_
 refine s_gval rfl rfl rfl wF (fun hc=>v_sub rfl gX gX p0q p0q) ?_
 refine K1 ?_
 refine cSp rfl (fun hc33=>?_) (fun hc33=>?_)
 ·
  refine K4 ?_
  refine K78 ?_
  exact ⟨cx.ext,0,tup_sz (m:=0) (szU_short ha (by omega)) rfl rfl⟩
 refine K5 ?_
 have hlo:=hdU_lo (bA s a) (bA_lt s a)
 refine w_loop (fun k f w1=>∃ i:Nat,1≤i∧k+i=(hdU (bA s a)).1∧(∀ j,1≤j→j<i→bA s (a+j) / 64=2)∧f 0=.string s∧f 1=.int .i64 a∧f 6=.int .i64 (hdU (bA s a)).1∧f 4=.int .i64 (accN s a (hdU (bA s a)).2 (i-1))∧f 7=.int .i64 i∧Ctx w0 w1 []) ((hdU (bA s a)).1-1) ?_ ?_
 ·
  exact ⟨1,by omega,by omega,fun j h1 h2=>by omega,rfl,rfl,rfl,rfl,rfl,cx⟩
 intro gk7 f w hJ
 obtain ⟨i,hi,hk,hall,hs0,hs1,hs6,hs4,hs7,cx⟩:=hJ
 have hacc:=accN_lt s a (hdU (bA s a)).2 (by omega) (i-1) (by omega)
 have hacc2:256*64^(i-1)≤67108864:=Nat.le_trans (Nat.mul_le_mul_left 256 (Nat.pow_le_pow_right (by decide) (show i-1≤3 by omega))) (by decide)
 refine K4r ?_
 refine Kc ?_
 refine K0 ?_
 refine cSp rfl (fun hc36=>?_) (fun hc36=>?_)
 ·
  refine K19 ?_
  refine Ky ?_
  refine Kk ?_
  refine SS ?_
  refine K2y ?_
  refine K4 ?_
  refine K1w ?_
  refine K0 ?_
  refine cSp rfl (fun hc46=>?_) (fun hc46=>?_)
  ·
   refine K4 ?_
   refine K78 ?_
   refine ⟨cx.ext,0,tup_sz (m:=0) (szU_cont (i:=i) (by omega) (by omega) (fun h=>hc46 ?_)) rfl rfl⟩
   rw [show ((a:Int)+(i:Int))=((a+i:Nat):Int) by omega,byteAt_bA]
   exact (and192b (bA_lt _ _)).2 h
  refine K1i ?_
  refine K75 ?_
  refine SS ?_
  refine K1w ?_
  refine s_val rfl rfl (v_ofByte rfl rfl Tryz.underlying5 Tryz.underlying3 (by rw [show ((a:Int)+(i:Int))=((a+i:Nat):Int) by omega,byteAt_bA,and63b (bA_lt _ _)];omega) (by rw [show ((a:Int)+(i:Int))=((a+i:Nat):Int) by omega,byteAt_bA,and63b (bA_lt _ _)];omega)) ?_
  refine K74 ?_
  refine K4r ?_
  refine K1 ?_
  refine ⟨gk7-1,_,by omega,rfl,i+1,by omega,by omega,fun j h1 h2=>?_,hs0,hs1,hs6,congrArg (Value.int .i64) ?_,rfl,cx⟩
  · rcases Nat.lt_or_ge j i with h3 | h3
    · exact hall j h1 h3
    · obtain rfl:j=i:=by omega
      rw [show ((a:Int)+(j:Int))=((a+j:Nat):Int) by omega,byteAt_bA] at hc46
      exact (and192b (bA_lt _ _)).1 hc46
  · rw [show ((a:Int)+(i:Int))=((a+i:Nat):Int) by omega,byteAt_bA,and63b (bA_lt _ _)]
    exact Bz103
 refine K3w ?_
 refine s_fnB cx (c192 _ _) Tryz.func192 rfl rfl rfl rfl rfl rfl ?_;intro q54 w cx hw54 hp54
 refine K0 ?_
 refine K2j ?_
 refine s_gfnI cx rfl rfl rfl wF (fun hc=>c193 _ _) Tryz.func193 rfl rfl rfl (fun hc=>(cons_eq gX rfl)) ?_;intro q58 w cx hw58 hp58
 refine K53 ?_
 refine K1 ?_
 refine cSp rfl (fun hc61=>?_) (fun hc61=>?_)
 ·
  refine K4 ?_
  refine K78 ?_
  have hi':i=(hdU (bA s a)).1:=by omega
  have hz:szAt s a=0:=by
   rw [szU_end ha (by omega) (by omega) (fun j h1 h2=>hall j h1 (by omega)),← hi',if_neg]
   rintro ⟨e1,e2⟩
   rcases hc61 with h | h
   · rw [hp54,e1] at h;cases h
   · rw [hp58 (by rw [hp54,e1];rfl)] at h;omega
  exact ⟨cx.ext,0,tup_sz (m:=0) hz rfl rfl⟩
 refine Kl ?_
 refine Kc ?_
 refine K2 ?_
 refine K78 ?_
 have hi':i=(hdU (bA s a)).1:=by omega
 obtain ⟨h1,h2⟩:=hc61
 have hz:szAt s a=(hdU (bA s a)).1:=by
  rw [szU_end ha (by omega) (by omega) (fun j h1 h2=>hall j h1 (by omega)),← hi',if_pos]
  refine ⟨by rw [← hp54];exact h1,?_⟩
  have:=hp58 (by rw [h1];rfl)
  omega
 exact ⟨cx.ext,_,tup_sz hz rfl rfl⟩
theorem c150 (s:ByteArray)(w0:World)(hs:s.size≤1073741824):Fc Tryz.prog 150 [.string s] w0 (fun v _=>∃ n:Int,v=.tuple #[.int .i64 n,.int .i64 (if validD s.data.toList=true then 0 else 5)]):=by
 refine ret_enter Tryz.func150 rfl Tryz.ntmps150 rfl ?_
 have cx:=Ctx.start w0
 refine K21 ?_
 refine w_loop (fun k f w1=>∃ i m:Nat,k+i=s.size∧m≤i∧validD s.data.toList=validD (s.data.toList.drop i)∧f 0=.string s∧f 5=.int .i64 i∧f 4=.int .i64 m∧Ctx w0 w1 []) (s.size) ?_ ?_
 ·
  exact ⟨0,0,by omega,by omega,rfl,rfl,rfl,rfl,cx⟩
 intro gk3 f w hJ
 obtain ⟨i,m,hk,hm,hv0,hs0,hs5,hs4,cx⟩:=hJ
 refine Kf ?_
 refine Kb ?_
 refine K1t ?_
 refine cSp rfl (fun hc11=>?_) (fun hc11=>?_)
 ·
  have hsz:=szAt_le s i (by omega)
  refine K19 ?_
  refine Kh ?_
  refine s_fn cx (c121 _ _ _ (by omega) (by omega)) Tryz.func121 rfl rfl rfl rfl rfl rfl ?_;intro q17 w cx hw17 hp17
  obtain ⟨er17,rfl⟩:=hp17
  refine Ko ?_
  refine cSp rfl (fun hc21=>?_) (fun hc21=>?_)
  ·
   refine K4 ?_
   refine ret_tmp2 Tryz.results150 rfl rfl ?_
   have hz:(5:Int)=(if validD s.data.toList=true then 0 else 5):=by rw [hv0,valid_0 s i (by omega) (by omega)];rfl
   exact ⟨cx.ext,0,tup_i hz rfl rfl⟩
  refine K37 ?_
  refine K3 ?_
  refine K27 ?_
  have hsz:=szAt_le s i (by omega)
  refine ⟨gk3-szAt s i,_,by omega,rfl,i+szAt s i,m+1,by omega,by omega,?_,hs0,?_,rfl,cx⟩
  · rw [hv0];exact valid_n s i (by omega) (by omega)
  · show Value.int .i64 _=_
    congr 1
 refine Kl ?_
 refine K2 ?_
 refine ret_tmp2 Tryz.results150 rfl rfl ?_
 have hz:(0:Int)=(if validD s.data.toList=true then 0 else 5):=by rw [hv0,valid_end s i (by omega)];rfl
 exact ⟨cx.ext,_,tup_i hz rfl rfl⟩
theorem c92 (s:ByteArray)(w0:World)(hs:s.size≤1073741824):Fc Tryz.prog 92 [.string s] w0 (IsB fun b=>b=validD s.data.toList):=by
 refine ret_enter Tryz.func92 rfl Tryz.ntmps92 rfl ?_
 have cx:=Ctx.start w0
 refine K5 ?_
 refine s_fn cx (c150 _ _ (by omega)) Tryz.func150 rfl rfl rfl rfl rfl rfl ?_;intro q7 w cx hw7 hp7
 obtain ⟨en7,rfl⟩:=hp7
 refine K14 ?_
 refine ret_tmp Tryz.results92 rfl ?_
 refine Kq ?_
 show (_:Bool)=_
 cases validD s.data.toList <;> rfl
theorem c15 (v:Value)(l:List Stp)(w0:World)(hv:Pth w0 v l)(hl:l.length≤140737488355328):Fc Tryz.prog 15 [v] w0 (IsB fun b=>b=true↔GdP l):=by
 obtain ⟨a,c,b,o,rfl,ha,hr⟩:=hv.form
 refine ret_enter Tryz.func15 rfl Tryz.ntmps15 rfl ?_
 have cx:=Ctx.start w0
 refine Ka ?_
 refine cSp rfl (fun hc6=>?_) (fun hc6=>?_)
 ·
  refine K3 ?_
  refine K8c ?_
  refine ⟨cx.ext,_,rfl,(fun h=>by cases h),fun h=>?_⟩
  have:=h.1
  omega
 refine K5 ?_
 refine w_loop (fun k f w1=>∃ i:Nat,k+i=l.length∧f 0=.slice a l.length c∧f 3=.int .i64 i∧(∀ x∈l.take i,Stv x)∧Ctx w0 w1 []) (l.length) ?_ ?_
 ·
  exact Ez8
 intro gk4 f w hJ
 obtain ⟨i,hk,hs0,hs3,hall,cx⟩:=hJ
 refine K10 ?_
 refine K1n ?_
 refine cSp rfl (fun hc10=>?_) (fun hc10=>?_)
 ·
  obtain ⟨x,hx⟩:∃ x,l[i]?=some x:=⟨l[i]'(by omega),List.getElem?_eq_getElem _⟩
  have hrw:=hr i x hx
  obtain rfl:=ha (by omega)
  refine K4 ?_
  refine Kb ?_
  refine Kr ?_
  refine K71 ?_
  refine K48 ?_
  refine Kcx ?_
  refine SS ?_
  refine Ks ?_
  refine K1e ?_
  refine Kcy ?_
  refine s_gval rfl rfl rfl wT (fun hc=>v_fa fa107_1 rfl gX) ?_
  refine s_gval rfl rfl rfl wT (fun hc=>v_load1 rfl gX Tryz.underlying9 rfl ((hrw.up cx.ext).cell 1 rfl)) ?_
  refine Kao ?_
  refine SS ?_
  refine K28 ?_
  refine K8d ?_
  refine K8e ?_
  refine Kcz ?_
  refine K1 ?_
  refine K28 ?_
  refine K8d ?_
  refine K8e ?_
  refine Kcz ?_
  refine K2 ?_
  refine cSp rfl (fun hc41=>?_) (fun hc41=>?_)
  ·
   refine K3 ?_
   refine K8c ?_
   refine ⟨cx.ext,_,rfl,(fun h=>by cases h),fun h=>?_⟩
   exfalso
   have hx':=h.2 x (List.mem_of_getElem? hx)
   obtain ⟨h1,h2⟩:=hc41
   obtain ⟨h3,h4,h5⟩:=hx'.1 h1
   rcases h2 with (h2 | h2) | h2
   · exact h2 h3
   · omega
   · omega
  refine K9 ?_
  refine Kr ?_
  refine K71 ?_
  refine K48 ?_
  refine Kcx ?_
  refine K2p ?_
  refine K1e ?_
  refine Kcy ?_
  refine s_gval rfl rfl rfl wT (fun hc=>v_fa fa107_2 rfl gX) ?_
  refine s_gval rfl rfl rfl wT (fun hc=>v_load1 rfl gX Tryz.underlying3 rfl ((hrw.up cx.ext).cell 2 rfl)) ?_
  refine K0 ?_
  refine K28 ?_
  refine K8d ?_
  refine K8f ?_
  refine Kd0 ?_
  refine K65 ?_
  refine K28 ?_
  refine K8d ?_
  refine K8f ?_
  refine Kd0 ?_
  refine s_gfnB cx rfl rfl rfl wF (fun hc=>c44 x.key _ p0q) Tryz.func44 rfl rfl rfl (fun hc=>(cons_eq gX rfl)) ?_;intro q70 w cx hw70 hp70
  refine K2 ?_
  refine cSp rfl (fun hc73=>?_) (fun hc73=>?_)
  ·
   refine K3 ?_
   refine K8c ?_
   refine ⟨cx.ext,_,rfl,(fun h=>by cases h),fun h=>?_⟩
   exfalso
   have hx':=h.2 x (List.mem_of_getElem? hx)
   obtain ⟨h1,h2⟩:=hc73
   obtain ⟨h3,h4,h5⟩:=hx'.2 h1
   rcases h2 with (h2 | h2) | h2
   · exact h2 h3
   · omega
   · rw [hp70 (by first | (simp [h1,h3];omega) | simp [h1,h3,h4]),h5] at h2
     cases h2
  refine K68 ?_
  refine ⟨gk4-1,_,by omega,rfl,i+1,by omega,hs0,rfl,fun y hy=>?_,cx⟩
  obtain ⟨hi,e⟩:=List.getElem?_eq_some_iff.1 hx
  rw [List.take_succ_eq_append_getElem hi] at hy
  rcases List.mem_append.1 hy with hy | hy
  · exact hall y hy
  · rw [e] at hy
    obtain rfl:=List.mem_singleton.1 hy
    refine ⟨fun h=>?_,fun h=>?_⟩
    · rcases hc41 with h1 | h1
      · rw [h] at h1;cases h1
      · exact ⟨h1.1.1,by omega,by omega⟩
    · rcases hc73 with h1 | h1
      · rw [h] at h1;cases h1
      · obtain ⟨⟨h2,h3⟩,h4⟩:=h1
        refine ⟨h2,by omega,?_⟩
        rw [← hp70 (by first | (simp [h,h2];omega) | simp [h,h2,h3])]
        exact h4
 refine K4 ?_
 refine K8c ?_
 exact Bz130
theorem c40 (v:Value)(l:List Stp)(w0:World)(hv:Pth w0 v l)(hl:l.length≤140737488355328):Fc Tryz.prog 40 [v] w0 (IsB fun b=>b=true↔GdP l):=by
 obtain ⟨a,c,b,o,rfl,ha,hr⟩:=hv.form
 refine ret_enter Tryz.func40 rfl Tryz.ntmps40 rfl ?_
 have cx:=Ctx.start w0
 refine Ka ?_
 refine cSp rfl (fun hc7=>?_) (fun hc7=>?_)
 ·
  refine K3 ?_
  refine K8g ?_
  refine ⟨cx.ext,_,rfl,(fun h=>by cases h),fun h=>?_⟩
  have:=h.1
  omega
 refine K7 ?_
 refine w_loop (fun k f w1=>∃ i:Nat,k+i=l.length∧f 8=.slice a l.length c∧f 9=.int .i64 l.length∧f 10=.int .i64 i∧(∀ x∈l.take i,Stv x)∧Ctx w0 w1 []) (l.length) ?_ ?_
 ·
  exact ⟨0,by omega,rfl,rfl,rfl,by simp,cx⟩
 intro gk4 f w hJ
 obtain ⟨i,hk,hs8,hs9,hs10,hall,cx⟩:=hJ
 refine K0 ?_
 refine Kap ?_
 refine K0 ?_
 refine cSp rfl (fun hc11=>?_) (fun hc11=>?_)
 ·
  obtain ⟨x,hx⟩:∃ x,l[i]?=some x:=⟨l[i]'(by omega),List.getElem?_eq_getElem _⟩
  have hrw:=hr i x hx
  obtain rfl:=ha (by omega)
  refine K3 ?_
  refine s_val rfl rfl (v_ia Tryz.underlying28 sz107 rfl hs8 hs10 (by omega) (by omega)) ?_
  refine Kak ?_
  refine Hh ?_;intro b4 w cx hb4 hw4
  refine Hi ?_;intro w cx hwS
  refine K1 ?_
  refine K48 ?_
  refine K4v ?_
  refine cSp rfl (fun hc15=>?_) (fun hc15=>?_)
  ·
   refine K0 ?_
   refine K72 ?_
   refine K15 ?_
   refine s_val rfl rfl (v_strNe rfl rfl rfl) ?_
   refine SS ?_
   refine K8e ?_
   refine Ki ?_
   refine K8e ?_
   refine Ki ?_
   refine cSp rfl (fun hc28=>?_) (fun hc28=>?_)
   ·
    refine K3 ?_
    refine K8g ?_
    refine ⟨cx.ext,_,rfl,(fun h=>by cases h),fun h=>?_⟩
    exfalso
    have hx':=h.2 x (List.mem_of_getElem? hx)
    obtain ⟨h3,h4,h5⟩:=hx'.1 hc15
    rcases hc28 with (h2 | h2) | h2
    · exact h2 h3
    · omega
    · omega
   refine K0 ?_
   refine K8h ?_
   refine K0 ?_
   refine ⟨gk4-1,_,by omega,rfl,i+1,by omega,hs8,hs9,rfl,fun y hy=>?_,Ctx.sub0 cx⟩
   obtain ⟨hi,e⟩:=List.getElem?_eq_some_iff.1 hx
   rw [List.take_succ_eq_append_getElem hi] at hy
   rcases List.mem_append.1 hy with hy | hy
   · exact hall y hy
   · rw [e] at hy
     obtain rfl:=List.mem_singleton.1 hy
     refine ⟨fun h=>?_,fun h=>?_⟩
     · exact ⟨hc28.1.1,by omega,by omega⟩
     · rw [h] at hc15;cases hc15
  refine K0 ?_
  refine Kal ?_
  refine K2a ?_
  refine K8f ?_
  refine K8i ?_
  refine K65 ?_
  refine K8f ?_
  refine K8i ?_
  refine s_gfnB cx rfl rfl rfl wF (fun hc=>c92 x.key _ p0q) Tryz.func92 rfl rfl rfl (fun hc=>(cons_eq gX rfl)) ?_;intro q41 w cx hw41 hp41
  refine K1 ?_
  refine cSp rfl (fun hc43=>?_) (fun hc43=>?_)
  ·
   refine K3 ?_
   refine K8g ?_
   refine ⟨cx.ext,_,rfl,(fun h=>by cases h),fun h=>?_⟩
   exfalso
   have hx':=h.2 x (List.mem_of_getElem? hx)
   obtain ⟨h3,h4,h5⟩:=hx'.2 hc15
   rcases hc43 with (h2 | h2) | h2
   · exact h2 h3
   · omega
   · rw [hp41 (by first | (simp [h3];omega) | simp [h3,h4]),h5] at h2
     cases h2
  refine K0 ?_
  refine K8h ?_
  refine K0 ?_
  refine ⟨gk4-1,_,by omega,rfl,i+1,by omega,hs8,hs9,rfl,fun y hy=>?_,Ctx.sub0 cx⟩
  obtain ⟨hi,e⟩:=List.getElem?_eq_some_iff.1 hx
  rw [List.take_succ_eq_append_getElem hi] at hy
  rcases List.mem_append.1 hy with hy | hy
  · exact hall y hy
  · rw [e] at hy
    obtain rfl:=List.mem_singleton.1 hy
    refine ⟨fun h=>?_,fun h=>?_⟩
    · rw [h] at hc15;cases hc15
    · obtain ⟨⟨h2,h3⟩,h4⟩:=hc43
      refine ⟨h2,by omega,?_⟩
      rw [← hp41 (by first | (simp [h2];omega) | simp [h2,h3])]
      exact h4
 refine K4 ?_
 refine K8g ?_
 exact Bz130
end Go.Proofs.YthiafbkolhnadaaGreatDoor
end
section
namespace Go.Proofs.YthiafbkolhnadaaGreatDoor
open Go Go.Dk Go.RowKit Go.Lib
attribute [local irreducible] Go.wpList Go.Code.wp Go.bodyPost Go.wpStill Go.wpQuiet
theorem bdA107 (m:Int)(w:World):(Instr.build 107 ([(0,.bool true),(2,.int .i64 m)]:List (Nat×Value)).toArray).run Tryz.prog w=.ok (.agg #[.bool true,.string ByteArray.empty,.int .i64 m]) w:=by
 go_simp
 try rfl
theorem bdK107 (s:ByteArray)(w:World):(Instr.build 107 ([(1,.string s)]:List (Nat×Value)).toArray).run Tryz.prog w=.ok (.agg #[.bool false,.string s,.int .i64 0]) w:=by
 go_simp
 try rfl
theorem c175 (m:Int)(w0:World):Fc Tryz.prog 175 [.int .i64 m] w0 (fun v _=>v=.agg #[.bool true,.string ByteArray.empty,.int .i64 m]):=by
 refine ret_enter Tryz.func175 rfl Tryz.ntmps175 rfl ?_
 have cx:=Ctx.start w0
 refine K0 ?_
 refine Hh ?_;intro b2 w cx hb2 hw2
 refine K2 ?_
 refine Kd1 ?_
 refine Hi ?_;intro w cx hwS1
 refine K0 ?_
 refine ret_cell Tryz.results175 rfl (cx.at 0 rfl) Tryz.underlying107 rfl sz107 ?_
 exact Ez2
theorem c177 (s:ByteArray)(w0:World):Fc Tryz.prog 177 [.string s] w0 (fun v _=>v=.agg #[.bool false,.string s,.int .i64 0]):=by
 refine ret_enter Tryz.func177 rfl Tryz.ntmps177 rfl ?_
 have cx:=Ctx.start w0
 refine K0 ?_
 refine Hh ?_;intro b2 w cx hb2 hw2
 refine Kg8 ?_
 refine Hi ?_;intro w cx hwS1
 refine K0 ?_
 refine ret_cell Tryz.results177 rfl (cx.at 0 rfl) Tryz.underlying107 rfl sz107 ?_
 exact Ez2
theorem c174 (wb w0:World)(b:Nat)(s:List UInt8)(m:Int)(L:List (Nat×Obj))(R:List Row)(cx0:Cxr wb w0 ((b,.cells ([.string (bs s)]:List Value).toArray 9)::L) R)(h0:0≤m)(h1:m≤s.length):Ret Tryz.prog 174 [.int .i64 m,.pointer (some ⟨b,0,none⟩)] w0 (fun v w'=>v=.string (bs (s.take m.toNat))∧Cxr wb w' ((b,.cells ([.string (bs (s.drop m.toNat))]:List Value).toArray 9)::L) R):=by
 refine ret_enter Tryz.func174 rfl Tryz.ntmps174 rfl ?_
 have cx:=cx0
 refine K4 ?_
 refine K15 ?_
 refine SS ?_
 refine K29 ?_
 refine K2 ?_
 refine K15 ?_
 refine K0 ?_
 refine s_store1 (v:=.string (bs (s.drop m.toNat))) cx 0 rfl rfl rfl rfl rfl rfl rfl rfl sz9 ?_;intro w cx hwS2
 refine K5 ?_
 refine ret_tmp Tryz.results174 rfl ?_
 exact ⟨rfl,cx⟩
theorem c108 (l:List Stp)(w0:World)(hg:GdP l)(h0:0<l.length)(ht:Tabs w0):Fc Tryz.prog 108 [.string (bs (pathT l))] w0 (fun v w'=>∃ pv,v=.tuple #[pv,.int .i64 0]∧w'.ownsRow w0.heap.size 107 3 pv l.length (l.flatMap srow)):=by
 have hv:=valid_path hg.2
 have hpl:=pathT_len' hg
 refine ret_enter Tryz.func108 rfl Tryz.ntmps108 rfl ?_
 have cx:=Ctx.start w0
 refine K7 ?_
 refine s_fnB cx (c92 (bs (pathT l)) _ p14q) Tryz.func92 rfl rfl rfl rfl rfl rfl ?_;intro q14 w cx hw14 hp14
 obtain rfl:q14=true:=hp14.trans hv
 refine K0 ?_
 refine K3u ?_
 refine K4w ?_
 refine cSp rfl (fun hc17=>?_) (fun hc17=>?_)
 ·
  exact absurd hc17 (path_ne1 h0)
 refine K2 ?_
 refine s_alloc cx z9 rfl rfl rfl ?_;intro b4 w cx hb4 hw4
 refine s_store1 (v:=.string (bs (pathT l))) cx 0 rfl rfl rfl rfl rfl rfl rfl rfl sz9 ?_;intro w cx hwS5
 refine K1 ?_
 refine s_val rfl rfl (v_fun1 rfl rfl) ?_
 refine K0 ?_
 refine w_cut (fun f w1=>∃ b4:Nat,f 0=.string (bs (pathT l))∧f 4=.pointer (some ⟨b4,0,none⟩)∧f 5=.func (.func 174) #[] #[.pointer (some ⟨b4,0,none⟩)]∧Cxr w0 w1 [(b4,.cells ([.string (bs (rstS l 0))]:List Value).toArray 9)] []) ?_ ?_
 ·
  refine K0 ?_
  refine K15 ?_
  refine K1 ?_
  refine K2k ?_
  refine Kaq ?_
  refine s_gval rfl rfl rfl wT (fun hc=>v_eqB (u:=[46,91]) rfl gX rfl) ?_
  refine K0 ?_
  refine cSp rfl (fun hc27=>?_) (fun hc27=>?_)
  ·
   refine K0 ?_
   refine Hl ?_;rintro v29 w ⟨hv29,cx⟩
   subst hv29
   refine SS ?_
   exact Bz50
  refine SS ?_
  exact Bz50
 intro f w hJ
 obtain ⟨b4,hs0,hs4,hs5,cx⟩:=hJ
 refine K4 ?_
 refine w_loop (fun g f w1=>∃ (i b4:Nat) (v:Value),g+i=l.length∧f 0=.string (bs (pathT l))∧f 4=.pointer (some ⟨b4,0,none⟩)∧f 5=.func (.func 174) #[] #[.pointer (some ⟨b4,0,none⟩)]∧f 6=v∧Cxr w0 w1 [(b4,.cells ([.string (bs (rstS l i))]:List Value).toArray 9)] [⟨107,3,v,i,(l.take i).flatMap srow⟩]) (l.length) ?_ ?_
 ·
  exact ⟨0,b4,_,by omega,hs0,hs4,hs5,rfl,cx.nilRow _ _⟩
 intro gk10 f w hJ
 obtain ⟨i,b4,v,hgi,hs0,hs4,hs5,hs6,cx⟩:=hJ
 obtain ⟨a6,c6,rfl⟩:=cx.rowSl
 have hg48:=hg.1
 refine K1 ?_
 refine K3i ?_
 refine K4y ?_
 refine SS ?_
 refine K55 ?_
 refine K8j ?_
 refine K1 ?_
 refine cSp rfl (fun hc36=>?_) (fun hc36=>?_)
 ·
  obtain ⟨hc36,-⟩:=hc36
  have hil:i<l.length:=by
   rcases Nat.lt_or_ge i l.length with h | h
   · exact h
   · exact absurd (rstS_end l i h) hc36
  have hi48:i≤48:=by omega
  obtain ⟨x,hx,hcase⟩:=rstS_case l hg.2 i hil
  obtain ⟨c0,r,hcr⟩:∃ c r,rstS l i=c::r:=List.exists_cons_of_ne_nil hc36
  rw [hcr] at cx hcase
  have hrl:=rstS_len l (fun s hs=>(hg.2 s hs).gds) i
  have hrl2:=rstS_len l (fun s hs=>(hg.2 s hs).gds) (i+1)
  rw [hcr,List.length_cons] at hrl
  refine K4p ?_
  refine Hl ?_;rintro v38 w ⟨hv38,cx⟩
  subst hv38
  replace cx:Cxr w0 w [(b4,.cells ([.string (bs r)]:List Value).toArray 9)] [⟨107,3,.slice a6 i c6,i,(l.take i).flatMap srow⟩]:=cx
  refine K4 ?_
  refine s_val rfl rfl (v_eqB (u:=[91]) rfl rfl rfl) ?_
  refine K0 ?_
  refine cSp rfl (fun hc39=>?_) (fun hc39=>?_)
  ·
   obtain ⟨n,hxn,hn0,hn1,hr⟩:∃ n,x=⟨true,⟨#[]⟩,n⟩∧0≤n∧n≤65536∧r=itoa n++93::rstS l (i+1):=by
    rcases hcase with ⟨n,h1,h2,h3,h4⟩ | ⟨k,h1,h2,h3,h4⟩ | ⟨k,h1,h2,h3⟩
    · exact ⟨n,h1,h2,h3,(List.cons.inj h4).2⟩
    · exfalso
      rw [(List.cons.inj h4).1] at hc39
      exact Ezb
    · exfalso
      rw [(List.cons.inj h3).1] at hc39
      exact Ezb
   subst hr
   have hn6:=itoa_6 hn0 hn1
   have hn7:=itoa_pos hn0
   refine K4 ?_
   refine w_loop (fun g f w1=>∃ m:Nat,g+m=(itoa n).length∧f 0=.string (bs (pathT l))∧f 4=.pointer (some ⟨b4,0,none⟩)∧f 5=.func (.func 174) #[] #[.pointer (some ⟨b4,0,none⟩)]∧f 6=.slice a6 i c6∧f 8=.int .i64 m∧Cxr w0 w1 [(b4,.cells ([.string (bs (itoa n++93::rstS l (i+1)))]:List Value).toArray 9)] [⟨107,3,.slice a6 i c6,i,(l.take i).flatMap srow⟩]) ((itoa n).length) ?_ ?_
   ·
    exact ⟨0,by omega,hs0,hs4,hs5,hs6,rfl,cx⟩
   intro gk15 f w hJ
   obtain ⟨m,hgm,hs0,hs4,hs5,hs6,hs8,cx⟩:=hJ
   refine K18 ?_
   refine K3i ?_
   refine K1 ?_
   refine K3j ?_
   refine K49 ?_
   refine K1o ?_
   refine cSp rfl (fun hc51=>?_) (fun hc51=>?_)
   ·
    have hm:m<(itoa n).length:=by
     rcases Nat.lt_or_ge m (itoa n).length with h | h
     · exact h
     · exfalso
       have h2:=(idx_93 hn0 (rstS l (i+1)) m (by omega)).2 (by omega)
       rw [Int.toNat_natCast] at hc51
       omega
    exact Bz56
   have hm:m=(itoa n).length:=by
    refine (idx_93 hn0 (rstS l (i+1)) m (by omega)).1 ?_
    simp only [List.length_append,List.length_cons,Int.toNat_natCast] at hc51
    omega
   refine K67 ?_
   refine K0 ?_
   refine K79 ?_
   refine K1 ?_
   refine K79 ?_
   refine Kd2 ?_
   refine K2 ?_
   refine cSp rfl (fun hc65=>?_) (fun hc65=>?_)
   ·
    exfalso
    simp only [List.length_append,List.length_cons] at hc65
    omega
   refine Kf ?_
   refine Kv ?_
   refine Hm ?_;rintro v69 w ⟨hv69,cx⟩
   rw [(cut_at _ _ _ (by omega)).1] at hv69
   subst hv69
   rw [(cut_at _ _ _ (by omega)).2] at cx
   refine s_fn cx (c106 n _ hn0 (by omega)) Tryz.func106 rfl rfl rfl rfl rfl rfl ?_;intro q70 w cx hw70 hp70
   subst hp70
   refine K8 ?_
   refine s_val rfl rfl (v_nilErrN Tryz.underlying184 rfl rfl rfl) ?_
   refine SS ?_
   refine K1d ?_
   refine Kf ?_
   refine Hl ?_;rintro v76 w ⟨hv76,cx⟩
   subst hv76
   refine K2n ?_
   refine SS ?_
   refine s_fn cx (c175 n _) Tryz.func175 rfl rfl rfl rfl rfl rfl ?_;intro q79 w cx hw79 hp79
   subst hp79
   refine Hn ?_;intro b80 w cx hb80 hw80
   refine Ho ?_;intro v81 w cx hgr81
   replace cx:=cx.drop 1
   refine K0 ?_
   exact ⟨gk10-1,_,by omega,rfl,i+1,b4,_,by omega,hs0,hs4,hs5,rfl,cx.row_eq rfl (by rw [← take_srow hx,hxn];rfl)⟩
  have h46:c0=46∧((∃ k,x=⟨false,k,0⟩∧k.size≤1024∧isNm k∧r=k.data.toList++rstS l (i+1))∨(∃ k,x=⟨false,k,0⟩∧k.size≤1024∧r=34::(qtd k.data.toList++34::rstS l (i+1)))):=by
   rcases hcase with ⟨n,h1,h2,h3,h4⟩ | ⟨k,h1,h2,h3,h4⟩ | ⟨k,h1,h2,h3⟩
   · exfalso
     rw [(List.cons.inj h4).1] at hc39
     exact hc39 rfl
   · exact ⟨(List.cons.inj h4).1,.inl ⟨k,h1,h2,h3,(List.cons.inj h4).2⟩⟩
   · exact ⟨(List.cons.inj h3).1,.inr ⟨k,h1,h2,(List.cons.inj h3).2⟩⟩
  obtain ⟨h46,hcB⟩:=h46
  have hrp:0<r.length:=by
   rcases hcB with ⟨k,h1,h2,h3,h4⟩ | ⟨k,h1,h2,h3⟩
   · rw [h4,List.length_append]
     have:=List.length_pos_iff.2 (isNm_ne h3)
     omega
   · rw [h3];simp
  refine K1 ?_
  refine K4w ?_
  refine K3j ?_
  refine s_gval rfl rfl rfl wT (fun hc=>v_neB (u:=[]) rfl gX rfl) ?_
  refine K0 ?_
  refine K3j ?_
  refine K2w ?_
  refine K2 ?_
  refine cSp rfl (fun hc82=>?_) (fun hc82=>?_)
  ·
   obtain ⟨k,hxk,hk1,hr⟩:∃ k,x=⟨false,k,0⟩∧k.size≤1024∧r=34::(qtd k.data.toList++34::rstS l (i+1)):=by
    rcases hcB with ⟨k,h1,h2,h3,h4⟩ | ⟨k,h1,h2,h3⟩
    · exfalso
      refine name_34 k (rstS l (i+1)) h3 ?_
      rw [← h4]
      have h5:=hc82.2
      simp only [Int.toNat_zero] at h5
      omega
    · exact ⟨k,h1,h2,h3⟩
   have hkl:k.data.toList.length=k.size:=by simp
   have hql:=qtd_len k.data.toList
   have hrlen:=congrArg List.length hr
   simp only [List.length_append,List.length_cons] at hrlen
   refine K0 ?_
   refine K3i ?_
   refine s_fn cx (c176 k.data.toList (rstS l (i+1)) _ hr (by rw [hkl];omega) (by omega) _) Tryz.func176 rfl rfl rfl rfl rfl rfl ?_;intro q96 w cx hw96 hp96
   subst hp96
   refine Ko ?_
   refine cSp rfl (fun hc100=>?_) (fun hc100=>?_)
   ·
    exfalso
    omega
   refine Kf ?_
   refine SS ?_
   refine Hp ?_;rintro v103 w ⟨hv103,cx⟩
   subst hv103
   rw [hr,cut_q] at cx
   refine K2n ?_
   refine SS ?_
   refine Hq ?_;intro q106 w cx hw106 hp106
   subst hp106
   refine Hn ?_;intro b107 w cx hb107 hw107
   refine Ho ?_;intro v108 w cx hgr108
   exact Bz80
  obtain ⟨k,hxk,hk1,hkn,hr⟩:∃ k,x=⟨false,k,0⟩∧k.size≤1024∧isNm k∧r=k.data.toList++rstS l (i+1):=by
   rcases hcB with ⟨k,h1,h2,h3,h4⟩ | ⟨k,h1,h2,h3⟩
   · exact ⟨k,h1,h2,h3,h4⟩
   · exfalso
     rcases hc82 with (h | h) | h
     · exact h (by rw [h46];rfl)
     · rw [h] at hrp
       exact absurd hrp (by decide)
     · rw [h3] at h
       exact h rfl
  have hkl:k.data.toList.length=k.size:=by simp
  have hk0:=hkn.1
  have hfol:folN (bs r)=k.size:=by rw [hr];exact fol_name k _ hkn (rstS_head l (i+1))
  have hrlen:=congrArg List.length hr
  simp only [List.length_append] at hrlen
  refine K1 ?_
  refine K4w ?_
  refine K3j ?_
  refine s_gfn cx rfl rfl rfl wT (fun hc=>c93 (bs r) _ p14q) Tryz.func93 rfl rfl rfl (fun hc=>(cons_eq gX rfl)) ?_;intro q114 w cx hw114 hp114
  refine Kd3 ?_
  refine K1 ?_
  refine cSp rfl (fun hc109=>?_) (fun hc109=>?_)
  ·
   refine SS ?_
   refine Kc ?_
   refine Kh ?_
   refine K3i ?_
   refine s_fn cx (c93 (bs r) _ p14q) Tryz.func93 rfl rfl rfl rfl rfl rfl ?_;intro q120 w cx hw120 hp120
   subst hp120
   refine Hp ?_;rintro v121 w ⟨hv121,cx⟩
   rw [hfol] at hv121 cx
   rw [hr,(cut_at _ _ _ (by omega)).1] at hv121
   subst hv121
   rw [hr,(cut_at _ _ _ (by omega)).2] at cx
   refine Hq ?_;intro q122 w cx hw122 hp122
   subst hp122
   refine Hn ?_;intro b123 w cx hb123 hw123
   refine Ho ?_;intro v124 w cx hgr124
   exact Bz80
  exfalso
  rcases hc109 with h | h
  · exact h (by rw [h46];rfl)
  · rw [hfol] at h
    omega
 have hi:i=l.length:=by
  rcases Nat.lt_or_ge i l.length with h | h
  · exfalso
    rcases hc36 with h2 | h2
    · exact rstS_ne l i h h2
    · omega
  · omega
 subst hi
 rw [List.take_length] at cx
 refine K38 ?_
 refine K1 ?_
 refine K53 ?_
 refine s_gfnB cx rfl rfl rfl wF (fun hc=>c40 _ l _ (pth_row cx (by omega) h0) (by omega)) Tryz.func40 rfl rfl rfl (fun hc=>(cons_eq gX rfl)) ?_;intro q130 w cx hw130 hp130
 refine K1 ?_
 refine K53 ?_
 refine s_gfn cx rfl rfl rfl wF (fun hc=>c41 _ l _ (pth_row cx (by omega) h0) (fun s hs=>(hg.2 s hs).gds) hg.1 (ht.up cx.ext)) Tryz.func41 rfl rfl rfl (fun hc=>(cons_eq gX rfl)) ?_;intro q135 w cx hw135 hp135
 refine Kx ?_
 refine Kd4 ?_
 refine K0 ?_
 refine cSp rfl (fun hc138=>?_) (fun hc138=>?_)
 ·
  exfalso
  rcases hc138 with (h | h) | h
  · omega
  · have h2:=(hp130 (by rw [Bool.not_eq_true',beq_eq_false_iff_ne];omega)).2 hg
    rw [h] at h2
    cases h2
  · exact h trivial
 refine K11 ?_
 refine K2 ?_
 refine ret_tmp2 Tryz.results108 rfl rfl ?_
 exact ⟨cx.ext,_,rfl,cx.rows _ (List.mem_cons_self ..)⟩
theorem c165 (m:Int)(w:World)(h0:0≤m)(h1:m<256):Fc Tryz.prog 165 [.int .u8 m] w fun v _=>v=.string (bs (sgn (UInt8.ofNat m.toNat))):=of_allB sgn_k m h0 h1 w
theorem c239 (m:Int)(w:World)(h0:0≤m)(h1:m<256):Fc Tryz.prog 239 [.int .u8 m] w (IsB fun b=>b=letB m.toNat):=(of_allB let_k m h0 h1 w).mono fun v w' _ h=>⟨_,h,rfl⟩
theorem str_w1 {m:Nat}(h:m<10):strOf [IntKind.u8.wrap ((48:Int)+(m:Int))]=bs [UInt8.ofNat (48+m)]:=by
 rw [show IntKind.u8.wrap ((48:Int)+(m:Int))=((UInt8.ofNat (48+m)).toNat:Int) by rw [u8t (by omega)];simp [IntKind.wrap,IntKind.signed,IntKind.bits];omega]
 exact strOf_bs [UInt8.ofNat (48+m)]
theorem c99 (n:Nat)(w0:World)(hn:n≤4611686018427387904):Fc Tryz.prog 99 [.int .i64 n] w0 (fun v _=>v=.string (bs (dgs n))):=by
 refine ret_enter Tryz.func99 rfl Tryz.ntmps99 rfl ?_
 have cx:=Ctx.start w0
 refine K8 ?_
 refine w_loop (fun k f w1=>∃ (m:Nat) (ac:List UInt8),k=m∧m≤n∧dgs m++ac=dgs n∧f 0=.int .i64 m∧f 3=.string (bs ac)∧Ctx w0 w1 []) (n) ?_ ?_
 ·
  exact ⟨n,[],rfl,Nat.le_refl _,List.append_nil _,rfl,rfl,cx⟩
 intro gk2 f w hJ
 obtain ⟨m,ac,hk,hmn,hac,hs0,hs3,cx⟩:=hJ
 refine K9 ?_
 refine K0 ?_
 refine cSp rfl (fun hc5=>?_) (fun hc5=>?_)
 ·
  refine K1p ?_
  refine K8k ?_
  refine SS ?_
  refine K88 ?_
  refine He ?_;intro b10 w cx hb10 hw10
  refine Kcv ?_
  refine Kr ?_
  refine s_val rfl rfl (v_strAddB (a:=[UInt8.ofNat (48+m%10)]) rfl (congrArg Value.string (str_w1 (by omega))) rfl (by have:=dgs_le n hn;rw [← hac] at this;simp only [List.length_append,List.length_cons,List.length_nil] at this ⊢;omega)) ?_
  refine K9 ?_
  refine K8l ?_
  refine K0 ?_
  refine ⟨m / 10,_,by omega,rfl,m / 10,UInt8.ofNat (48+m%10)::ac,rfl,by omega,?_,rfl,rfl,Ctx.sub0 cx⟩
  rw [← hac,dgs_pos m (by omega),List.append_assoc]
  rfl
 refine K1f ?_
 refine ret_tmp Tryz.results99 rfl ?_
 have hz:m=0:=by omega
 subst hz
 refine K4a ?_
 exact hac
theorem c99i (n:Int)(w0:World)(h0:0≤n)(hn:n≤4611686018427387904):Fc Tryz.prog 99 [.int .i64 n] w0 (fun v _=>v=.string (bs (dgs n.toNat))):=by
 obtain ⟨k,rfl⟩:=Int.eq_ofNat_of_zero_le h0
 exact c99 k w0 (by omega)
theorem c50 (n:Int)(w0:World)(h0:0≤n)(hn:n≤4611686018427387904):Fc Tryz.prog 50 [.int .i64 n] w0 (fun v _=>v=.string (bs (itoa n))):=by
 refine ret_enter Tryz.func50 rfl Tryz.ntmps50 rfl ?_
 have cx:=Ctx.start w0
 refine K8 ?_
 refine cSp rfl (fun hc4=>?_) (fun hc4=>?_)
 ·
  refine K3 ?_
  refine ret_tmp Tryz.results50 rfl ?_
  subst hc4
  refine K4a ?_
  rw [show (0:Int)=((0:Nat):Int) from rfl,itoa_nat]
  unfold decDigits
  rw [dif_pos (by decide)]
  rfl
 refine K2 ?_
 refine s_fn cx (c99i _ _ (by omega) (by omega)) Tryz.func99 rfl rfl rfl rfl rfl rfl ?_;intro q6 w cx hw6 hp6
 subst hp6
 refine K1 ?_
 refine ret_tmp Tryz.results50 rfl ?_
 refine K4a ?_
 have h1:n=((n.toNat:Nat):Int):=by omega
 conv=>rhs;rw [h1,itoa_nat]
 unfold dgs
 rw [if_neg (by omega)]
theorem c164 (s:ByteArray)(w0:World)(hs:s.size≤1073741824):Fc Tryz.prog 164 [.string s] w0 (IsB fun b=>b=true↔isNm s):=by
 refine ret_enter Tryz.func164 rfl Tryz.ntmps164 rfl ?_
 have cx:=Ctx.start w0
 refine K8 ?_
 refine w_loop (fun k f w1=>∃ i:Nat,k+i=s.size∧f 0=.string s∧f 3=.int .i64 i∧(∀ j:Nat,j<i→lowc (byteAt s j)∨digc (byteAt s j))∧Ctx w0 w1 []) (s.size) ?_ ?_
 ·
  exact Eza
 intro gk2 f w hJ
 obtain ⟨i,hk,hs0,hs3,hall,cx⟩:=hJ
 refine K10 ?_
 refine Kb ?_
 refine K1t ?_
 refine cSp rfl (fun hc7=>?_) (fun hc7=>?_)
 ·
  refine K19 ?_
  refine Kr ?_
  refine K2y ?_
  refine s_fnB cx (c239 _ _ (byteAt_lo _ _) (byteAt_hi _ _)) Tryz.func239 rfl rfl rfl rfl rfl rfl ?_;intro q13 w cx hw13 hp13
  refine K0 ?_
  refine cSp rfl (fun hc14=>?_) (fun hc14=>?_)
  ·
   refine K3 ?_
   refine ret_tmp Tryz.results164 rfl ?_
   refine ⟨cx.ext,_,rfl,(fun h=>by cases h),fun h=>?_⟩
   have h2:=((isNm_iff s).1 h).1 i (by omega)
   rw [hp13,(letB_iff _).2 (by rw [Int.toNat_of_nonneg (byteAt_lo _ _)];exact h2)] at hc14
   cases hc14
  have hlt:lowc (byteAt s i)∨digc (byteAt s i):=by
   have h1:letB (byteAt s i).toNat=true:=by rw [← hp13];simpa using hc14
   have:=(letB_iff _).1 h1
   rwa [Int.toNat_of_nonneg (byteAt_lo _ _)] at this
  refine K68 ?_
  refine ⟨gk2-1,_,by omega,rfl,i+1,by omega,hs0,rfl,fun j hj=>?_,cx⟩
  rcases Nat.lt_or_ge j i with h | h
  · exact hall j h
  · obtain rfl:j=i:=by omega
    exact hlt
 refine K9 ?_
 refine K1t ?_
 refine Ks ?_
 refine s_gval rfl rfl rfl wT (fun hc=>v_idxStr rfl gX rfl Tryz.underlying9 p0q p0q) ?_
 refine K0 ?_
 refine Kx ?_
 refine s_gval rfl rfl rfl wF (fun hc=>v_idxStr rfl gX rfl Tryz.underlying9 p0q p0q) ?_
 refine K4 ?_
 refine ret_tmp Tryz.results164 rfl ?_
 refine Kq ?_
 rw [isNm_iff]
 have hall':∀ j:Nat,j<s.size→lowc (byteAt s j)∨digc (byteAt s j):=fun j hj=>hall j (by omega)
 have hlo:=byteAt_lo s (0:Nat)
 simp only [Bool.and_eq_true,Bool.or_eq_true,decide_eq_true_eq]
 constructor
 · rintro ⟨h1,h2⟩
   exact ⟨hall',by omega,by unfold digc;rcases h2 with h2 | h2 <;> (have h3:byteAt s (0:Nat)<48∨57<byteAt s (0:Nat):=by first | exact .inl h2 | exact .inr h2) <;> omega⟩
 · rintro ⟨_,h1,h2⟩
   refine ⟨by omega,?_⟩
   unfold digc at h2
   have h3:byteAt s (0:Nat)<48∨57<byteAt s (0:Nat):=by omega
   exact h3
theorem c102 (x:Stp)(w0:World)(hg:GdS x):Fc Tryz.prog 102 [.agg (srow x).toArray] w0 (fun v _=>v=.string (bs (stpT x))):=by
 refine ret_enter Tryz.func102 rfl Tryz.ntmps102 rfl ?_
 have cx:=Ctx.start w0
 refine K0 ?_
 refine Hc ?_;intro b1 w cx hb1 hw1
 refine K3 ?_
 refine K48 ?_
 refine K4v ?_
 refine cSp rfl (fun hc6=>?_) (fun hc6=>?_)
 ·
  have hix:=hg.1 hc6
  have hil:=itoa_le hix.1 (by omega)
  refine K0 ?_
  refine Kal ?_
  refine K12 ?_
  refine s_fn cx (c50 _ _ (by omega) (by omega)) Tryz.func50 rfl rfl rfl rfl rfl rfl ?_;intro q9 w cx hw9 hp9
  subst hp9
  refine s_val rfl rfl (v_strAddB (a:=[91]) (b:=itoa x.index) rfl rfl rfl pbq) ?_
  refine s_val rfl rfl (v_strAddB (a:=([91]++itoa x.index)) (b:=[93]) rfl rfl rfl pbq) ?_
  refine Kcc ?_
  refine K4a ?_
  exact (step_ix hc6).symm
 have hkl:=hg.2 hc6
 have hls0:x.key.data.toList.length=x.key.size:=by simp
 refine K2 ?_
 refine K72 ?_
 refine K15 ?_
 refine s_fnB cx (c164 _ _ (by omega)) Tryz.func164 rfl rfl rfl rfl rfl rfl ?_;intro q14 w cx hw14 hp14
 refine SS ?_
 refine cSp rfl (fun hc14=>?_) (fun hc14=>?_)
 ·
  refine K0 ?_
  refine K72 ?_
  refine K15 ?_
  refine s_val rfl rfl (v_strAddB (a:=[46]) (b:=x.key.data.toList) rfl rfl rfl pbq) ?_
  refine Kcc ?_
  refine K4a ?_
  exact (step_nm hc6 (hp14.1 hc14)).symm
 refine Ka ?_
 refine w_loop (fun k f w1=>∃ (i b1:Nat),k+i=x.key.size∧f 1=.pointer (some ⟨b1,0,none⟩)∧f 4=.int .i64 i∧f 3=.string (bs ([46,34]++(qtd (x.key.data.toList.take i))))∧Ctx w0 w1 [(b1,.cells (srow x).toArray 107)]) (x.key.size) ?_ ?_
 ·
  exact ⟨0,_,by omega,rfl,rfl,by simp [qtd];rfl,cx⟩
 intro gk7 f w hJ
 obtain ⟨i,b1,hk,hs1,hs4,hs3,cx⟩:=hJ
 have hlq:=qtd_len (x.key.data.toList.take i)
 have hlt:=List.length_take_le i x.key.data.toList
 have hls:x.key.data.toList.length=x.key.size:=by simp
 have hlx:=sgn_len (UInt8.ofNat (byteAt x.key i).toNat)
 refine Kl ?_
 refine s_val rfl rfl (v_fa fa107_1 rfl hs1) ?_
 refine K15 ?_
 refine K1t ?_
 refine cSp rfl (fun hc22=>?_) (fun hc22=>?_)
 ·
  refine K20 ?_
  refine s_val rfl rfl (v_fa fa107_1 rfl hs1) ?_
  refine K15 ?_
  refine Ke ?_
  refine K2y ?_
  refine s_fn cx (c165 _ _ (byteAt_lo _ _) (byteAt_hi _ _)) Tryz.func165 rfl rfl rfl rfl rfl rfl ?_;intro q30 w cx hw30 hp30
  subst hp30
  refine s_val rfl rfl (v_strAddB (a:=([46,34]++(qtd (x.key.data.toList.take i)))) (b:=(sgn (UInt8.ofNat (byteAt x.key i).toNat))) rfl rfl rfl pbq) ?_
  refine Kl ?_
  refine K1 ?_
  have hq:=qtd_take x.key i (by omega)
  have hb:UInt8.ofNat (byteAt x.key i).toNat=x.key.data.toList.getD i 0:=by unfold byteAt;rw [Int.toNat_natCast,Int.toNat_natCast];exact UInt8.ofNat_toNat
  refine ⟨gk7-1,_,by omega,rfl,i+1,b1,by omega,hs1,rfl,congrArg (fun l=>Value.string (bs l)) ?_,cx⟩
  rw [hq,hb,List.append_assoc]
 refine K10 ?_
 refine s_val rfl rfl (v_strAddB (a:=([46,34]++(qtd (x.key.data.toList.take i)))) (b:=[34]) rfl rfl rfl pbq) ?_
 refine Kcc ?_
 refine K4a ?_
 rw [step_qt hc6 (fun h=>by rw [hp14.2 h] at hc14;cases hc14)]
 have hi:i=x.key.size:=by omega
 subst hi
 rw [show x.key.data.toList.take x.key.size=x.key.data.toList from List.take_of_length_le (by simp)]
 rfl
theorem c53 (v:Value)(l:List Stp)(w0:World)(hv:Pth w0 v l)(hg:∀ s∈l,GdS s)(hl:l.length≤48):Fc Tryz.prog 53 [v] w0 (fun v _=>v=.string (bs (pathT l))):=by
 obtain ⟨a,c,b,o,rfl,ha,hr⟩:=hv.form
 refine ret_enter Tryz.func53 rfl Tryz.ntmps53 rfl ?_
 have cx:=Ctx.start w0
 refine Ka ?_
 refine cSp rfl (fun hc7=>?_) (fun hc7=>?_)
 ·
  refine K3 ?_
  refine ret_tmp Tryz.results53 rfl ?_
  have e:l=[]:=List.eq_nil_of_length_eq_zero (by omega)
  subst e
  exact Ez2
 have hne:l≠[]:=by rintro rfl;simp at hc7
 have hpos:0<l.length:=List.length_pos_iff.2 hne
 obtain ⟨x0,hx0⟩:∃ x,l[0]?=some x:=⟨l[0]'hpos,List.getElem?_eq_getElem _⟩
 have hr0:=hr 0 x0 hx0
 obtain rfl:=ha hpos
 refine K3 ?_
 refine w_cut (fun f w1=>f 0=.slice (some ⟨b,o,none⟩) l.length c∧f 3=.string (bs (ldp l))∧Ctx w0 w1 []) ?_ ?_
 ·
  refine K1 ?_
  refine K71 ?_
  refine K48 ?_
  refine Kcr ?_
  refine SS ?_
  refine cSp rfl (fun hc11=>?_) (fun hc11=>?_)
  ·
   refine K1 ?_
   exact Bz148
  refine SS ?_
  exact Bz148
 intro f w hJ
 obtain ⟨hs0,hs3,cx⟩:=hJ
 refine K4 ?_
 refine w_loop (fun k f w1=>∃ i:Nat,k+i=l.length∧f 0=.slice (some ⟨b,o,none⟩) l.length c∧f 4=.int .i64 i∧f 3=.string (bs (ldp l++(l.take i).flatMap stpT))∧Ctx w0 w1 []) (l.length) ?_ ?_
 ·
  exact ⟨0,by omega,hs0,rfl,hs3.trans (by simp),cx⟩
 intro gk7 f w hJ
 obtain ⟨i,hk,hs0,hs4,hs3,cx⟩:=hJ
 refine K4n ?_
 refine cSp rfl (fun hc15=>?_) (fun hc15=>?_)
 ·
  obtain ⟨x,hx⟩:∃ x,l[i]?=some x:=⟨l[i]'(by omega),List.getElem?_eq_getElem _⟩
  have hrw:=hr i x hx
  have hgx:=hg x (List.mem_of_getElem? hx)
  have hll:=ldp_le l
  have hfl:=flat_len (l:=l.take i) (fun y hy=>hg y (List.mem_of_mem_take hy))
  rw [List.length_take] at hfl
  have hsl:=stepT_len hgx
  refine K20 ?_
  refine Kb ?_
  refine Ke ?_
  refine K71 ?_
  refine Kak ?_
  refine s_fn cx (c102 x _ hgx) Tryz.func102 rfl rfl rfl rfl rfl rfl ?_;intro q23 w cx hw23 hp23
  subst hp23
  refine s_val rfl rfl (v_strAddB (a:=(ldp l++(l.take i).flatMap stpT)) (b:=(stpT x)) rfl rfl rfl pbq) ?_
  refine Kl ?_
  refine K1 ?_
  have hq:ldp l++(l.take (i+1)).flatMap stpT=(ldp l++(l.take i).flatMap stpT)++stpT x:=by rw [flat_take l i x hx,List.append_assoc]
  refine ⟨gk7-1,_,by omega,rfl,i+1,by omega,hs0,rfl,congrArg (fun l=>Value.string (bs l)) hq.symm,cx⟩
 refine K1f ?_
 refine ret_tmp Tryz.results53 rfl ?_
 refine K4a ?_
 have hi:i=l.length:=by omega
 subst hi
 rw [List.take_length]
 exact (path_ldp hne).symm
theorem bd107 (w:World):(Instr.build 107 ([]:List (Nat×Value)).toArray).run Tryz.prog w=.ok (.agg #[.bool false,.string ByteArray.empty,.int .i64 0]) w:=by
 go_simp
 try rfl
theorem c165n (i:Nat)(h:i<256)(w:World):Fc Tryz.prog 165 [.int .u8 i] w fun v _=>v=.string (bs (sgn (UInt8.ofNat i))):=of_allB sgn_k (i:Int) (by omega) (by omega) w
theorem c239n (c:UInt8)(w:World):Fc Tryz.prog 239 [.int .u8 (c.toNat:Nat)] w (IsB fun b=>b=letB c.toNat):=by
 have h:=of_allB let_k ((c.toNat:Nat):Int) (by omega) (by have:=c.toNat_lt;omega) w
 exact h.mono fun v w' _ e=>⟨_,e,by rw [Int.toNat_natCast]⟩
theorem c257 (m:Int)(w0:World):Fc Tryz.prog 257 [.int .i64 m] w0 (fun v _=>v=.agg #[.bool true,.string ByteArray.empty,.int .i64 m]):=by
 refine ret_enter Tryz.func257 rfl Tryz.ntmps257 rfl ?_
 have cx:=Ctx.start w0
 refine K0 ?_
 refine Hh ?_;intro b2 w cx hb2 hw2
 refine K2 ?_
 refine Kd1 ?_
 refine Hi ?_;intro w cx hwS1
 refine K0 ?_
 refine ret_cell Tryz.results257 rfl (cx.at 0 rfl) Tryz.underlying107 rfl sz107 ?_
 exact Ez2
theorem c259 (s:ByteArray)(w0:World):Fc Tryz.prog 259 [.string s] w0 (fun v _=>v=.agg #[.bool false,.string s,.int .i64 0]):=by
 refine ret_enter Tryz.func259 rfl Tryz.ntmps259 rfl ?_
 have cx:=Ctx.start w0
 refine K0 ?_
 refine Hh ?_;intro b2 w cx hb2 hw2
 refine Kg8 ?_
 refine Hi ?_;intro w cx hwS1
 refine K0 ?_
 refine ret_cell Tryz.results259 rfl (cx.at 0 rfl) Tryz.underlying107 rfl sz107 ?_
 exact Ez2
theorem c326 (s:List UInt8)(w0:World)(hs:s.length≤1073741824):Fc Tryz.prog 326 [.string (bs s)] w0 (fun v _=>∃ (b:UInt8) (n:Nat),v=.tuple #[.int .u8 (b.toNat:Nat),.int .i64 n]∧n≤s.length∧∀ c z,s=sgn c++z→b=c∧n=(sgn c).length):=by
 refine ret_enter Tryz.func326 rfl Tryz.ntmps326 rfl ?_
 have cx:=Ctx.start w0
 refine Ka ?_
 refine w_loop (fun g f w1=>∃ i:Nat,g+i=128∧f 0=.string (bs s)∧f 4=.int .i64 i∧(∀ j:Nat,j<i→¬ (1<(sgn (UInt8.ofNat j)).length∧sgn (UInt8.ofNat j) <+: s))∧Ctx w0 w1 []) (128) ?_ ?_
 ·
  exact Eza
 intro gk2 f w hJ
 obtain ⟨i,hgi,hs0,hs4,hall,cx⟩:=hJ
 refine K4k ?_
 refine cSp rfl (fun hc7=>?_) (fun hc7=>?_)
 ·
  refine K3 ?_
  refine Ke ?_
  refine K4b ?_
  refine s_fn cx (c165n i (by omega) _) Tryz.func165 rfl rfl rfl rfl rfl rfl ?_;intro q12 w cx hw12 hp12
  subst hp12
  refine K6 ?_
  refine Ks ?_
  refine K4 ?_
  refine Ks ?_
  refine K0 ?_
  refine K8m ?_
  refine SS ?_
  refine K8n ?_
  refine K0 ?_
  refine cSp rfl (fun hc30=>?_) (fun hc30=>?_)
  ·
   have hpx:sgn (UInt8.ofNat i) <+: s:=List.prefix_iff_eq_take.2 (Eq.symm (by have h:=hc30.2;simpa only [Int.toNat_natCast] using h))
   refine K1i ?_
   refine K4b ?_
   refine K4 ?_
   refine ret_tmp2 Tryz.results326 rfl rfl ?_
   refine ⟨cx.ext,UInt8.ofNat i,(sgn (UInt8.ofNat i)).length,congrArg (fun z:Nat=>Value.tuple #[.int .u8 (z:Int),.int .i64 ((sgn (UInt8.ofNat i)).length:Nat)]) (u8t (by omega)).symm,by omega,fun c z h=>?_⟩
   · have e:=sgn_uniq (z:=z) (by omega) (h▸hpx)
     exact ⟨e,by rw [e]⟩
  have hN:¬ (1<(sgn (UInt8.ofNat i)).length∧sgn (UInt8.ofNat i) <+: s):=by
   rintro ⟨h1,h2⟩
   have h3:=h2.length_le
   have h4:=(List.prefix_iff_eq_take.1 h2).symm
   rcases hc30 with (h | h) | h
   · omega
   · omega
   · exact h (by simpa only [Int.toNat_natCast] using h4)
  refine K26 ?_
  refine ⟨gk2-1,_,by omega,rfl,i+1,by omega,hs0,rfl,fun j hj=>?_,cx⟩
  rcases Nat.lt_or_ge j i with h | h
  · exact hall j h
  · obtain rfl:j=i:=by omega
    exact hN
 have one:∀ c z,s=sgn c++z→sgn c=[c]∧c.toNat≠34∧c.toNat≠92:=by
  intro c z h
  rcases sgn_two c with h1 | ⟨t,h1,h2⟩
  · exact h1
  · exfalso
    have h3:1<(sgn c).length:=by rw [h1];simp only [List.length_cons];omega
    refine hall c.toNat (by have:=sgn_multi h3;omega) ?_
    rw [UInt8.ofNat_toNat]
    exact ⟨h3,h▸List.prefix_append _ _⟩
 refine K2 ?_
 refine K1j ?_
 refine K2w ?_
 refine K7w ?_
 refine K5x ?_
 refine cSp rfl (fun hc47=>?_) (fun hc47=>?_)
 ·
  have hb34:=hc47.1.2
  refine Km ?_
  refine K3 ?_
  refine ret_tmp2 Tryz.results326 rfl rfl ?_
  refine ⟨cx.ext,s.getD 0 0,1,rfl,by omega,fun c z h=>?_⟩
  obtain ⟨h1,h2,h3⟩:=one c z h
  rw [h,h1]
  exact Ez5
 refine K5 ?_
 refine ret_tmp2 Tryz.results326 rfl rfl ?_
 refine ⟨cx.ext,0,0,rfl,by omega,fun c z h=>?_⟩
 exfalso
 obtain ⟨h1,h2,h3⟩:=one c z h
 have h4:=congrArg List.length h
 simp only [List.length_append,h1,List.length_cons,List.length_nil] at h4
 have h5:s.getD 0 0=c:=by rw [h,h1];rfl
 rcases hc47 with (h6 | h6) | h6
 · omega
 · rw [show Int.toNat 0=0 from rfl,h5] at h6;omega
 · rw [show Int.toNat 0=0 from rfl,h5] at h6;omega
theorem c258 (s:List UInt8)(w0:World)(hs:s.length≤1073741824):Fc Tryz.prog 258 [.string (bs s)] w0 (fun v _=>∃ (k:List UInt8) (n:Nat),v=.tuple #[.string (bs k),.int .i64 n]∧n≤s.length∧k.length≤s.length∧(∀ l y,s=34::(qtd l++34::y)→k=l∧n=(qtd l).length+2)):=by
 refine ret_enter Tryz.func258 rfl Tryz.ntmps258 rfl ?_
 have cx:=Ctx.start w0
 refine K21 ?_
 refine w_loop (fun g f w1=>∃ (i:Nat) (out:List UInt8) (v:Value),g+i=s.length+1∧1≤i∧out.length+1≤i∧f 0=.string (bs s)∧f 5=.int .i64 i∧f 4=v∧(∀ l y,s=34::(qtd l++34::y)→∃ m,m≤l.length∧i=1+(qtd (l.take m)).length∧out=l.take m)∧Cxr w0 w1 [] [⟨5,1,v,out.length,out.map bv⟩]) (s.length) ?_ ?_
 ·
  exact ⟨1,[],_,by omega,by omega,by simp,rfl,rfl,rfl,fun l y h=>⟨0,by omega,rfl,rfl⟩,cx.nilRow 5 1⟩
 intro gk3 f w hJ
 obtain ⟨i,out,v,hgi,hi1,hol,hs0,hs5,hs4,hex,cx⟩:=hJ
 refine Kf ?_
 refine K1j ?_
 refine K8o ?_
 refine K1o ?_
 refine cSp rfl (fun hc17=>?_) (fun hc17=>?_)
 ·
  have hil:i<s.length:=by omega
  have hb34:s.getD i 0≠34:=fun e=>hc17.2 (by rw [Int.toNat_natCast,e];rfl)
  refine K1p ?_
  refine K3a ?_
  refine s_fn cx (c326 (s.drop i) _ p15q) Tryz.func326 rfl rfl rfl rfl rfl rfl ?_;intro q22 w cx hw22 hp22
  obtain ⟨b,n,rfl,hnl,hbx⟩:=hp22
  rw [List.length_drop] at hnl
  refine Ko ?_
  refine cSp rfl (fun hc26=>?_) (fun hc26=>?_)
  ·
   have hn0:n=0:=by omega
   refine K4 ?_
   refine ret_tmp2 Tryz.results258 rfl rfl ?_
   refine ⟨cx.ext,[],0,rfl,by omega,by simp,fun l y h=>?_⟩
   exfalso
   obtain ⟨m,h1,h2,h3⟩:=hex l y h
   obtain ⟨c,h4,h5⟩:=quo_mid h h2 h1 hb34
   have h6:=(hbx c _ h5).2
   rcases sgn_two c with ⟨h7,_⟩ | ⟨t,h7,_⟩ <;> rw [h7] at h6 <;> simp only [List.length_cons] at h6 <;> omega
  refine Kl ?_
  refine SS ?_
  refine He ?_;intro b29 w cx hb29 hw29
  refine Hf ?_;intro v30 w cx hgr30
  replace cx:=cx.drop 1
  refine Kf ?_
  refine K2 ?_
  refine ⟨gk3-n,_,by omega,rfl,i+n,out++[b],_,by omega,by omega,by simp only [List.length_append,List.length_cons,List.length_nil];omega,hs0,rfl,rfl,fun l y h=>?_,cx.row_eq (by simp) paq⟩
  obtain ⟨m,h1,h2,h3⟩:=hex l y h
  obtain ⟨c,h4,h5⟩:=quo_mid h h2 h1 hb34
  obtain ⟨h6,h7⟩:=hbx c _ h5
  have hml:=(List.getElem?_eq_some_iff.1 h4).1
  refine ⟨m+1,by omega,?_,?_⟩
  · rw [qtdt_succ l m c h4,List.length_append];omega
  · rw [h3,h6,take_snoc h4]
 refine K4p ?_
 refine K1n ?_
 refine cSp rfl (fun hc37=>?_) (fun hc37=>?_)
 ·
  refine K4 ?_
  refine ret_tmp2 Tryz.results258 rfl rfl ?_
  refine ⟨cx.ext,[],0,rfl,by omega,by simp,fun l y h=>?_⟩
  exfalso
  obtain ⟨m,h1,h2,h3⟩:=hex l y h
  have:=(quo_end h h2 h1).1
  omega
 have hil:i<s.length:=by omega
 have hb34:s.getD i 0=34:=by
  rcases hc17 with h | h
  · omega
  · rw [Int.toNat_natCast] at h
    exact UInt8.toNat_inj.1 (Int.ofNat.inj h)
 refine Kl ?_
 refine K70 ?_
 refine Kh ?_
 refine K3 ?_
 refine ret_tmp2 Tryz.results258 rfl rfl ?_
 refine ⟨cx.ext,out,i+1,rfl,by omega,by omega,fun l y h=>?_⟩
 obtain ⟨m,h1,h2,h3⟩:=hex l y h
 have h4:=(quo_end h h2 h1).2 hb34
 rw [h4,List.take_length] at h2 h3
 exact ⟨h3,by omega⟩
theorem c179 (s:List UInt8)(w0:World)(hs:s.length≤1073741824)(hpos:0<s.length):Fc Tryz.prog 179 [.string (bs s)] w0 (fun v _=>∃ (x:Stp) (n:Nat),v=.tuple #[.agg (srow x).toArray,.int .i64 n]∧n≤s.length∧x.key.size≤s.length∧(∀ y z,Stv y→(∀ c t,z=c::t→c=46∨c=91)→s=stpT y++z→x=y∧n=(stpT y).length)):=by
 refine ret_enter Tryz.func179 rfl Tryz.ntmps179 rfl ?_
 have cx:=Ctx.start w0
 refine K0 ?_
 refine Hh ?_;intro b2 w cx hb2 hw2
 refine K7 ?_
 refine cSp rfl (fun hc11=>?_) (fun hc11=>?_)
 ·
  have h91:s.getD 0 0=91:=UInt8.toNat_inj.1 (Int.ofNat.inj hc11)
  refine K8 ?_
  refine w_loop (fun g f w1=>∃ (i n b2:Nat),g+i=9∧1≤i∧i≤s.length∧f 0=.string (bs s)∧f 2=.pointer (some ⟨b2,0,none⟩)∧f 4=.int .i64 i∧f 5=.int .i64 n∧Lib.decFrom 0 ((s.drop 1).take (i-1))=some n∧(∀ (m:Int) z,0≤m→s=91::(itoa m++93::z)→i≤1+(itoa m).length)∧Ctx w0 w1 [(b2,.cells ([.bool false,.string ByteArray.empty,.int .i64 0]:List Value).toArray 107)]) (8) ?_ ?_
  ·
   exact ⟨1,0,_,by omega,by omega,by omega,rfl,rfl,rfl,rfl,rfl,fun m z h1 h2=>by omega,cx⟩
  intro gk4 f w hJ
  obtain ⟨i,n,b2,hgi,hi1,hil,hs0,hs2,hs4,hs5,hd,hex,cx⟩:=hJ
  have hb8:n<1000000000:=by
   have h1:=decFrom_8 _ _ _ hd
   rw [Nat.zero_add,Nat.one_mul] at h1
   have h4:((s.drop 1).take (i-1)).length≤9:=by rw [List.length_take];omega
   have h2:=Nat.pow_le_pow_right (n:=10) (by decide) h4
   have h3:10^9=1000000000:=by decide
   omega
  have hbt:=(s.getD i 0).toNat_lt
  have hbt2:=(s.getD (Int.toNat (i:Int)) 0).toNat_lt
  refine K4n ?_
  refine K4z ?_
  refine K7w ?_
  refine K4l ?_
  refine Ks ?_
  refine K4l ?_
  refine cSp rfl (fun hc31=>?_) (fun hc31=>?_)
  ·
   rw [Int.toNat_natCast] at hc31
   refine K4p ?_
   refine K1g ?_
   refine K22 ?_
   refine K82 ?_
   refine K3 ?_
   refine K27 ?_
   have hdg:48≤(s.getD i 0).toNat∧(s.getD i 0).toNat≤57:=by omega
   have hgd:(s.drop 1)[i-1]?=some (s.getD i 0):=by
    rw [List.getElem?_drop,show 1+(i-1)=i by omega]
    exact getD_some (by omega)
   refine ⟨gk4-1,_,by omega,rfl,i+1,n*10+((s.getD i 0).toNat-48),b2,by omega,by omega,by omega,hs0,hs2,rfl,congrArg (Value.int .i64) ?_,?_,?_,cx⟩
   · rw [Int.toNat_natCast]
     omega
   · have h1:=decFrom_take (s.drop 1) (i-1) 0 n _ _ hd hgd (digit_of hdg)
     rwa [show i-1+1=i+1-1 by omega] at h1
   · intro m z h1 h2
     have h3:=hex m z h1 h2
     rcases Nat.lt_or_ge i (1+(itoa m).length) with h4 | h4
     · omega
     · exfalso
       have h5:=((dig_end h1 h2 hi1 h3).2 (by omega)).1
       rw [h5] at hdg
       exact absurd hdg.2 (by decide)
  rw [Int.toNat_natCast] at hc31
  have hfin:∀ (m:Int) z,0≤m→m≤65536→s=91::(itoa m++93::z)→i=1+(itoa m).length:=by
   intro m z h1 h2 h3
   have h4:=hex m z h1 h3
   rcases Nat.lt_or_ge i (1+(itoa m).length) with h5 | h5
   · exfalso
     have h6:=(dig_end h1 h3 hi1 h4).1 h5
     have h7:=itoa_6 h1 h2
     have h8:=congrArg List.length h3
     simp only [List.length_cons,List.length_append] at h8
     omega
   · omega
  refine K3w ?_
  refine K0 ?_
  refine K2j ?_
  refine Kx ?_
  refine K2 ?_
  refine Kx ?_
  refine K2j ?_
  refine K2c ?_
  refine cSp rfl (fun hc55=>?_) (fun hc55=>?_)
  ·
   refine K0 ?_
   refine Kar ?_
   refine Hr ?_;intro w cx hwS8
   refine K1 ?_
   refine Kas ?_
   refine ⟨cx.ext,⟨false,⟨#[]⟩,0⟩,0,rfl,by omega,by show 0≤_;omega,fun y z hy hz h=>?_⟩
   exfalso
   rcases stp_kind hy with ⟨m,rfl,h1,h2,h3⟩ | ⟨k,rfl,h1,h2,h3⟩ | ⟨k,rfl,h1,h3⟩
   · rw [h3] at h
     have h4:=hfin m z h1 h2 h
     have h5:=(dig_end h1 h hi1 (by omega)).2 h4
     have h6:=itoa_pos h1
     rcases hc55 with (h7 | h7) | h7
     · omega
     · omega
     · rw [Int.toNat_natCast,h5.1] at h7;exact h7 rfl
   · rw [h3] at h;rw [h] at h91;exact absurd (show (46:UInt8)=91 from h91) (by decide)
   · rw [h3] at h;rw [h] at h91;exact absurd (show (46:UInt8)=91 from h91) (by decide)
  refine Kf ?_
  refine s_fn cx (c257 _ _) Tryz.func257 rfl rfl rfl rfl rfl rfl ?_;intro q58 w cx hw58 hp58
  subst hp58
  refine K22 ?_
  refine Hr ?_;intro w cx hwS9
  refine K1 ?_
  refine Kas ?_
  refine ⟨cx.ext,⟨true,⟨#[]⟩,n⟩,i+1,rfl,by omega,by show 0≤_;omega,fun y z hy hz h=>?_⟩
  rcases stp_kind hy with ⟨m,rfl,h1,h2,h3⟩ | ⟨k,rfl,h1,h2,h3⟩ | ⟨k,rfl,h1,h3⟩
  · have hsl:=stp_len1 (a:=91::(itoa m++[93])) (fun z=>by rw [h3];simp)
    rw [h3] at h
    have h4:=hfin m z h1 h2 h
    have h5:=(dig_end h1 h hi1 (by omega)).2 h4
    rw [h5.2.1,dec_itoa h1,Option.some.injEq] at hd
    simp only [List.length_cons,List.length_append,List.length_nil] at hsl
    refine ⟨?_,by omega⟩
    rw [show ((n:Nat):Int)=m by omega]
  · exfalso;rw [h3] at h;rw [h] at h91;exact absurd (show (46:UInt8)=91 from h91) (by decide)
  · exfalso;rw [h3] at h;rw [h] at h91;exact absurd (show (46:UInt8)=91 from h91) (by decide)
 have h91:s.getD 0 0≠91:=fun e=>hc11 (congrArg (fun z:UInt8=>((z.toNat:Nat):Int)) e)
 refine K14 ?_
 refine cSp rfl (fun hc68=>?_) (fun hc68=>?_)
 ·
  refine K0 ?_
  refine Kar ?_
  refine Hi ?_;intro w cx hwS11
  refine K1 ?_
  refine Kat ?_
  refine ⟨cx.ext,⟨false,⟨#[]⟩,0⟩,0,rfl,by omega,by show 0≤_;omega,fun y z hy hz h=>?_⟩
  exfalso
  rcases stp_kind hy with ⟨m,rfl,h1,h2,h3⟩ | ⟨k,rfl,h1,h2,h3⟩ | ⟨k,rfl,h1,h3⟩
  · rw [h3] at h;rw [h] at h91;exact h91 rfl
  · rw [h3] at h
    have h4:=congrArg List.length h
    have h5:=h2.1
    have h6:k.data.toList.length=k.size:=by simp
    exact Bz147
  · rw [h3] at h
    have h4:=congrArg List.length h
    exact Bz147
 refine K6 ?_
 refine cSp rfl (fun hc72=>?_) (fun hc72=>?_)
 ·
  have h34:s.getD 1 0=34:=UInt8.toNat_inj.1 (Int.ofNat.inj hc72)
  refine K2 ?_
  refine s_fn cx (c258 (s.drop 1) _ p15q) Tryz.func258 rfl rfl rfl rfl rfl rfl ?_;intro q76 w cx hw76 hp76
  obtain ⟨k,n,rfl,hnl,hkl,hkx⟩:=hp76
  rw [List.length_drop] at hnl hkl
  refine Ko ?_
  refine cSp rfl (fun hc80=>?_) (fun hc80=>?_)
  ·
   refine K0 ?_
   refine Kar ?_
   refine Hi ?_;intro w cx hwS15
   refine K1 ?_
   refine Kat ?_
   refine ⟨cx.ext,⟨false,⟨#[]⟩,0⟩,0,rfl,by omega,by show 0≤_;omega,fun y z hy hz h=>?_⟩
   exfalso
   rcases stp_kind hy with ⟨m,rfl,h1,h2,h3⟩ | ⟨k',rfl,h1,h2,h3⟩ | ⟨k',rfl,h1,h3⟩
   · rw [h3] at h;rw [h] at h91;exact h91 rfl
   · rw [h3] at h
     have h4:=name_34 k' z h2
     rw [h] at h34
     exact h4 (congrArg UInt8.toNat h34)
   · rw [h3] at h
     have h4:=(hkx k'.data.toList z (by rw [h];rfl)).2
     omega
  refine K2 ?_
  refine s_fn cx (c259 _ _) Tryz.func259 rfl rfl rfl rfl rfl rfl ?_;intro q83 w cx hw83 hp83
  subst hp83
  refine K0 ?_
  refine Hi ?_;intro w cx hwS16
  refine K1 ?_
  refine Kat ?_
  refine ⟨cx.ext,⟨false,bs k,0⟩,n+1,rfl,by omega,by show (bs k).size≤_;rw [bs_size];omega,fun y z hy hz h=>?_⟩
  rcases stp_kind hy with ⟨m,rfl,h1,h2,h3⟩ | ⟨k',rfl,h1,h2,h3⟩ | ⟨k',rfl,h1,h3⟩
  · exfalso;rw [h3] at h;rw [h] at h91;exact h91 rfl
  · exfalso
    rw [h3] at h
    have h4:=name_34 k' z h2
    rw [h] at h34
    exact h4 (congrArg UInt8.toNat h34)
  · have hsl:=stp_len1 (a:=46::34::(qtd k'.data.toList++[34])) (fun z=>by rw [h3];simp)
    rw [h3] at h
    obtain ⟨h4,h5⟩:=hkx k'.data.toList z (by rw [h];rfl)
    simp only [List.length_cons,List.length_append,List.length_nil] at hsl
    refine ⟨?_,by omega⟩
    rw [h4,bs_of]
 have h34:s.getD 1 0≠34:=fun e=>hc72 (congrArg (fun z:UInt8=>((z.toNat:Nat):Int)) e)
 refine K5 ?_
 refine w_loop (fun g f w1=>∃ (i b2:Nat),g+i=s.length∧1≤i∧f 0=.string (bs s)∧f 2=.pointer (some ⟨b2,0,none⟩)∧f 8=.int .i64 i∧(∀ k z,isNm k→(∀ c t,z=c::t→c=46∨c=91)→s=46::(k.data.toList++z)→i≤1+k.size)∧Ctx w0 w1 [(b2,.cells ([.bool false,.string ByteArray.empty,.int .i64 0]:List Value).toArray 107)]) (s.length-1) ?_ ?_
 ·
  exact ⟨1,_,by omega,by omega,rfl,rfl,rfl,fun k z h1 h2 h3=>by omega,cx⟩
 intro gk18 f w hJ
 obtain ⟨i,b2,hgi,hi1,hs0,hs2,hs8,hex,cx⟩:=hJ
 refine K18 ?_
 refine K1j ?_
 refine K49 ?_
 refine K2h ?_
 refine s_gfnB cx rfl rfl rfl wT (fun hc=>c239n (s.getD (Int.toNat (i:Int)) 0) _) Tryz.func239 rfl rfl rfl (fun hc=>(cons_eq gX rfl)) ?_;intro q94 w cx hw94 hp94
 refine K0 ?_
 refine cSp rfl (fun hc95=>?_) (fun hc95=>?_)
 ·
  refine K18 ?_
  refine K1 ?_
  refine ⟨gk18-1,_,by omega,rfl,i+1,b2,by omega,by omega,hs0,hs2,rfl,?_,cx⟩
  intro k z h1 h2 h3
  have h4:=hex k z h1 h2 h3
  rcases Nat.lt_or_ge i (1+k.size) with h5 | h5
  · omega
  · exfalso
    have h6:=((nm_end h1 h2 h3 hi1 h4).2 (by omega)).2 (by omega)
    have h7:=hp94 p26q
    rw [Int.toNat_natCast,h6] at h7
    rw [h7] at hc95
    exact absurd hc95.2 (by decide)
 have hfin:∀ k z,isNm k→(∀ c t,z=c::t→c=46∨c=91)→s=46::(k.data.toList++z)→i=1+k.size:=by
  intro k z h1 h2 h3
  have h4:=hex k z h1 h2 h3
  rcases Nat.lt_or_ge i (1+k.size) with h5 | h5
  · exfalso
    obtain ⟨h6,h7⟩:=(nm_end h1 h2 h3 hi1 h4).1 h5
    have h8:=hp94 p26q
    rw [Int.toNat_natCast,h7] at h8
    rcases hc95 with h | h
    · omega
    · rw [h8] at h;cases h
  · omega
 refine K9 ?_
 refine Kv ?_
 refine K2i ?_
 refine s_fn cx (c259 _ _) Tryz.func259 rfl rfl rfl rfl rfl rfl ?_;intro q101 w cx hw101 hp101
 subst hp101
 refine Kv ?_
 refine Hr ?_;intro w cx hwS20
 refine K1 ?_
 refine Kas ?_
 refine ⟨cx.ext,⟨false,bs ((s.take i).drop 1),0⟩,i,rfl,by omega,by show (bs _).size≤_;rw [bs_size,List.length_drop,List.length_take];omega,fun y z hy hz h=>?_⟩
 rcases stp_kind hy with ⟨m,rfl,h1,h2,h3⟩ | ⟨k',rfl,h1,h2,h3⟩ | ⟨k',rfl,h1,h3⟩
 · exfalso;rw [h3] at h;rw [h] at h91;exact h91 rfl
 · have hsl:=stp_len1 (a:=46::k'.data.toList) (fun z=>by rw [h3];rfl)
   rw [h3] at h
   have h4:=hfin k' z h2 hz h
   have h5:=((nm_end h2 hz h hi1 (by omega)).2 h4).1
   have h6:k'.data.toList.length=k'.size:=by simp
   simp only [List.length_cons] at hsl
   refine ⟨?_,by omega⟩
   rw [h5,bs_of]
 · exfalso
   rw [h3] at h
   rw [h] at h34
   exact h34 rfl
theorem c113 (s:List UInt8)(w0:World)(hs:s.length≤1073741824):Fc Tryz.prog 113 [.string (bs s)] w0 (fun v w'=>∃ (pv:Value) (l:List Stp) (e:Int),v=.tuple #[pv,.int .i64 e]∧w'.ownsRow w0.heap.size 107 3 pv l.length (l.flatMap srow)∧l.length≤48∧(∀ x∈l,x.key.size≤s.length)∧(∀ l0,GdP l0→0<l0.length→s=pathT l0→l=l0∧e=0)):=by
 refine ret_enter Tryz.func113 rfl Tryz.ntmps113 rfl ?_
 have cx:=Ctx.start w0
 refine K7 ?_
 refine s_fnB cx (c44 (bs s) _ p14q) Tryz.func44 rfl rfl rfl rfl rfl rfl ?_;intro q9 w cx hw9 hp9
 refine K0 ?_
 refine cSp rfl (fun hc10=>?_) (fun hc10=>?_)
 ·
  refine K4 ?_
  refine K7a ?_
  refine ⟨cx.ext,_,[],5,rfl,World.ownsRow_nil _ _ _ _,by simp,by simp,fun l0 h1 h2 h3=>?_⟩
  exfalso
  have h4:=valid_path h1.2
  rw [← h3] at h4
  have h5:q9=false:=hc10
  rw [h5] at hp9
  exact absurd (hp9.trans h4) (by decide)
 refine K3 ?_
 refine K4w ?_
 refine cSp rfl (fun hc12=>?_) (fun hc12=>?_)
 ·
  refine K4 ?_
  refine K7a ?_
  refine ⟨cx.ext,_,[],0,rfl,World.ownsRow_nil _ _ _ _,by simp,by simp,fun l0 h1 h2 h3=>?_⟩
  exfalso
  exact path_ne1 h2 (h3▸hc12)
 refine K8 ?_
 refine w_cut (fun f w1=>∃ r:List UInt8,f 0=.string (bs s)∧f 5=.string (bs r)∧f 4=.slice none 0 0∧r.length≤s.length∧(∀ l0,GdP l0→0<l0.length→s=pathT l0→r=rstS l0 0)∧Cxr w0 w1 [] []) ?_ ?_
 ·
  refine K5 ?_
  refine K2w ?_
  refine K2 ?_
  refine K5x ?_
  refine cSp rfl (fun hc26=>?_) (fun hc26=>?_)
  ·
   refine K3 ?_
   exact Bz27
  refine SS ?_
  exact Bz27
 intro f w hJ
 obtain ⟨r,hs0,hs5,hs4,hrl,hex,cx⟩:=hJ
 refine K0 ?_
 refine w_loop (fun g f w1=>∃ (r:List UInt8) (l:List Stp) (v:Value),g=r.length∧f 0=.string (bs s)∧f 5=.string (bs r)∧f 4=v∧r.length≤s.length∧l.length≤48∧(∀ x∈l,x.key.size≤s.length)∧(∀ l0,GdP l0→0<l0.length→s=pathT l0→∃ i,i≤l0.length∧r=rstS l0 i∧l=l0.take i)∧Cxr w0 w1 [] [⟨107,3,v,l.length,l.flatMap srow⟩]) (r.length) ?_ ?_
 ·
  exact ⟨r,[],_,rfl,hs0,hs5,hs4,hrl,by simp,by simp,fun l0 h1 h2 h3=>⟨0,by omega,hex l0 h1 h2 h3,rfl⟩,cx.nilRow _ _⟩
 intro gk9 f w hJ
 obtain ⟨r,l,v,hgr,hs0,hs5,hs4,hrl,hl48',hkey,hex,cx⟩:=hJ
 obtain ⟨a4,c4,rfl⟩:=cx.rowSl
 refine K3z ?_
 refine cSp rfl (fun hc31=>?_) (fun hc31=>?_)
 ·
  have hx0:∀ l0,GdP l0→0<l0.length→s=pathT l0→∃ i y,l0[i]?=some y∧r=stpT y++rstS l0 (i+1)∧l=l0.take i∧Stv y∧i<48:=by
   intro l0 h1 h2 h3
   obtain ⟨i,h4,h5,h6⟩:=hex l0 h1 h2 h3
   have h7:i<l0.length:=by
    rcases Nat.lt_or_ge i l0.length with h | h
    · exact h
    · exfalso
      rw [rstS_end l0 i h] at h5
      rw [h5] at hc31
      exact absurd hc31 (by simp)
   obtain ⟨y,hy⟩:∃ y,l0[i]?=some y:=⟨_,List.getElem?_eq_getElem h7⟩
   exact ⟨i,y,hy,by rw [h5,rstS_step l0 i y hy],h6,h1.2 y (List.mem_of_getElem? hy),by have:=h1.1;omega⟩
  refine K4p ?_
  refine s_fn cx (c179 r _ (by omega) (by omega)) Tryz.func179 rfl rfl rfl rfl rfl rfl ?_;intro q34 w cx hw34 hp34
  obtain ⟨x,n,rfl,hnl,hks,hsx⟩:=hp34
  refine K1 ?_
  refine Hh ?_;intro b6 w cx hb6 hw6
  refine Hi ?_;intro w cx hwS10
  refine K6 ?_
  refine K2j ?_
  refine K7b ?_
  refine K1 ?_
  refine cSp rfl (fun hc43=>?_) (fun hc43=>?_)
  ·
   refine K4 ?_
   refine K7a ?_
   refine ⟨cx.ext,_,[],3,rfl,World.ownsRow_nil _ _ _ _,by simp,by simp,fun l0 h1 h2 h3=>?_⟩
   exfalso
   obtain ⟨i,y,hy,h5,h6,h7,h8⟩:=hx0 l0 h1 h2 h3
   obtain ⟨h9,h10⟩:=hsx y _ h7 (rstS_head l0 (i+1)) h5
   have h11:=step_two y
   have h12:=congrArg List.length h6
   rw [List.length_take] at h12
   omega
  have hl48:l.length<48:=by omega
  have hn0:0<n:=by omega
  refine Kl ?_
  refine s_val rfl rfl (v_load rfl rfl Tryz.underlying107 rfl sz107 (cx.row 0 rfl) rfl) ?_
  refine Hn ?_;intro b46 w cx hb46 hw46
  refine Ho ?_;intro v47 w cx hgr47
  replace cx:=cx.drop 1
  refine Kf ?_
  refine K2 ?_
  refine ⟨gk9-n,_,by omega,rfl,r.drop n,l++[x],_,by rw [List.length_drop];omega,hs0,rfl,rfl,by rw [List.length_drop];omega,by simp only [List.length_append,List.length_cons,List.length_nil];omega,?_,?_,(cx.drop 1).row_eq (by simp) (by rw [List.flatMap_append];simp)⟩
  · intro q hq
    rcases List.mem_append.1 hq with hq | hq
    · exact hkey q hq
    · obtain rfl:=List.mem_singleton.1 hq;omega
  · intro l0 h1 h2 h3
    obtain ⟨i,y,hy,h5,h6,h7,h8⟩:=hx0 l0 h1 h2 h3
    obtain ⟨h9,h10⟩:=hsx y _ h7 (rstS_head l0 (i+1)) h5
    have hlt:=(List.getElem?_eq_some_iff.1 hy).1
    refine ⟨i+1,by omega,?_,?_⟩
    · rw [h5,h10,List.drop_left]
    · rw [h6,h9,take_snoc hy]
 have hr0:r=[]:=List.eq_nil_of_length_eq_zero (by omega)
 refine K3w ?_
 refine s_fnB cx (c15 _ l _ (pth_any cx rfl) (by omega)) Tryz.func15 rfl rfl rfl rfl rfl rfl ?_;intro q52 w cx hw52 hp52
 refine K0 ?_
 refine K2j ?_
 refine s_gfn cx rfl rfl rfl wF (fun hc=>(by have hg:=hp52.1 (by simpa using hc);exact c53 _ l _ (pth_any cx rfl) (fun s hs=>(hg.2 s hs).gds) hg.1)) Tryz.func53 rfl rfl rfl (fun hc=>(cons_eq gX rfl)) ?_;intro q56 w cx hw56 hp56
 refine Kx ?_
 refine s_gval rfl rfl rfl wF (fun hc=>v_neB (s:=pathT l) (u:=s) rfl ((gve hc rfl).trans (hp56 hc)) (gve hc rfl)) ?_
 refine K0 ?_
 refine cSp rfl (fun hc59=>?_) (fun hc59=>?_)
 ·
  refine K4 ?_
  refine K7a ?_
  refine ⟨cx.ext,_,[],3,rfl,World.ownsRow_nil _ _ _ _,by simp,by simp,fun l0 h1 h2 h3=>?_⟩
  exfalso
  obtain ⟨i,h4,h5,h6⟩:=hex l0 h1 h2 h3
  have h7:i=l0.length:=by
   exact Bz157
  rw [h7,List.take_length] at h6
  subst h6
  have h8:q52=true:=hp52.2 h1
  rcases hc59 with h | h
  · rw [h8] at h;cases h
  · exact h (h3▸rfl)
 refine Kl ?_
 refine K2 ?_
 refine K7a ?_
 have h:=cx.rows _ (List.mem_cons_self ..)
 simp only at h
 refine ⟨cx.ext,_,l,0,rfl,h,hl48',hkey,fun l0 h1 h2 h3=>?_⟩
 obtain ⟨i,h4,h5,h6⟩:=hex l0 h1 h2 h3
 have h7:i=l0.length:=by
  exact Bz157
 rw [h7,List.take_length] at h6
 exact ⟨h6,rfl⟩
end Go.Proofs.YthiafbkolhnadaaGreatDoor
end
section
namespace Go.Dk
open Go Go.RowKit Go.Lib
def hxv (b:Nat):Int:=if Nat.ble 48 b&&Nat.ble b 57 then Int.ofNat (b-48) else if Nat.ble 97 b&&Nat.ble b 102 then Int.ofNat (b-87) else Int.negSucc 0
theorem hxv_hexd {n:Nat}(h:n<16):hxv (hexd n).toNat=n:=by
 have:∀ a:Fin 16,hxv (hexd a.val).toNat=(a.val:Int):=by decide
 exact this ⟨n,h⟩
theorem hxv_lt (b:Nat):hxv b<16:=by
 unfold hxv
 split
 · rename_i h
   simp only [Bool.and_eq_true,Nat.ble_eq] at h
   show ((b-48:Nat):Int)<16
   omega
 · split
   · rename_i h
     simp only [Bool.and_eq_true,Nat.ble_eq] at h
     show ((b-87:Nat):Int)<16
     omega
   · decide
theorem u8_inI {m:Int}(h0:0≤m)(h1:m<256):IntKind.u8.wrap m=m:=by
 obtain ⟨n,rfl⟩:=Int.eq_ofNat_of_zero_le h0
 exact u8_in (by omega)
def froC:List UInt8:=[34,92,98,102,110,114,116]
def toC:List UInt8:=[34,92,8,12,10,13,9]
theorem fro_to {i:Nat}(hi:i<7){c:UInt8}(hc:shq c≠0)(h:shq c=froC.getD i 0):toC.getD i 0=c:=by
 have h1:=ush_shq c hc
 have h2:∀ a:Fin 7,ush (froC.getD a.val 0)=toC.getD a.val 0:=by decide
 rw [← h2 ⟨i,hi⟩,← h,h1]
theorem fro_117 {i:Nat}(hi:i<7):froC.getD i 0≠117:=by
 have:∀ a:Fin 7,froC.getD a.val 0≠117:=by decide
 exact this ⟨i,hi⟩
theorem fro_allF:∀ a:Fin 256,shq (UInt8.ofNat a.val)≠0→∃ j:Fin 7,froC.getD j.val 0=shq (UInt8.ofNat a.val):=by decide +kernel
theorem fro_all {c:UInt8}(h:shq c≠0):∃ j,j<7∧froC.getD j 0=shq c:=by
 have h1:=fro_allF ⟨c.toNat,c.toNat_lt⟩
 simp only [UInt8.ofNat_toNat] at h1
 obtain ⟨j,hj⟩:=h1 h
 exact ⟨j.val,j.isLt,hj⟩
theorem cqo_at {l y s:List UInt8}{m i:Nat}(hs:s=34::(qtq l++34::y))(hi:i=1+(qtq (l.take m)).length):s.drop i=rstC l y m:=by
 have h:=qtq_split l y m
 rw [hs,hi,h]
 exact Ez9
theorem cqo_case {l y s:List UInt8}{m i:Nat}(hs:s=34::(qtq l++34::y))(hi:i=1+(qtq (l.take m)).length)(hm:m≤l.length) :
  i<s.length∧((m=l.length∧s.getD i 0=34)∨(∃ c,l[m]?=some c∧sgq c=[c]∧s.getD i 0=c∧c.toNat≠34∧c.toNat≠92)∨∃ c t,l[m]?=some c∧sgq c=92::t∧0<t.length∧s.getD i 0=92∧s.drop (i+1)=t++rstC l y (m+1)):=by
 have h1:=cqo_at hs hi
 have hp:=rstC_pos l y m
 have h2:=getD_drop s i 0
 rw [h1,Nat.add_zero] at h2
 refine ⟨by have:=drop_len s _ i h1 hp;omega,?_⟩
 rcases rstC_case l y m hm with ⟨h3,h4⟩ | ⟨c,h3,h4,h5,h6,h7⟩ | ⟨c,t,h3,h4,h5,h6⟩
 · exact .inl ⟨h3,UInt8.toNat_inj.1 (by rw [h2];exact h4)⟩
 · exact .inr (.inl ⟨c,h3,h4,by rw [h2,h5],h6,h7⟩)
 · refine .inr (.inr ⟨c,t,h3,h4,h5,UInt8.toNat_inj.1 (by rw [h2];exact h6),?_⟩)
   rw [← List.drop_drop,h1,rstC_step l y m c h3,h4]
   rfl
end Go.Dk
namespace Go.Dk
open Go Go.RowKit Go.Lib
theorem hxv_noF:∀ a:Fin 256,(∀ j:Fin 16,hexS.getD j.val 0≠UInt8.ofNat a.val)→hxv a.val=-1:=by decide +kernel
theorem hxv_no {c:UInt8}(h:∀ j:Nat,j<16→hexS.getD j 0≠c):hxv c.toNat=-1:=by
 refine hxv_noF ⟨c.toNat,c.toNat_lt⟩ fun j=>?_
 rw [UInt8.ofNat_toNat]
 exact h j.val j.isLt
end Go.Dk
end
section
namespace Go.Proofs.YthiafbkolhnadaaGreatDoor
open Go Go.Dk Go.RowKit Go.Lib
attribute [local irreducible] Go.wpList Go.Code.wp Go.bodyPost Go.wpStill Go.wpQuiet
theorem c400 (c:UInt8)(w0:World):Fc Tryz.prog 400 [.int .u8 (c.toNat:Nat)] w0 fun v _=>v=.int .i64 (hxv c.toNat):=by
 refine ret_enter Tryz.func400 rfl Tryz.ntmps400 rfl ?_
 have cx:=Ctx.start w0
 refine K8 ?_
 refine w_loop (fun g f w1=>∃ i:Nat,g+i=16∧f 0=.int .u8 (c.toNat:Nat)∧f 3=.int .i64 i∧(∀ j:Nat,j<i→hexS.getD j 0≠c)∧Ctx w0 w1 []) (16) ?_ ?_
 ·
  exact Eza
 intro gk2 f w hJ
 obtain ⟨i,hgi,hs0,hs3,hall,cx⟩:=hJ
 refine K10 ?_
 refine K0 ?_
 refine cSp rfl (fun hc5=>?_) (fun hc5=>?_)
 ·
  refine K3 ?_
  refine Kr ?_
  refine s_val rfl rfl (v_idxB (s:=[48,49,50,51,52,53,54,55,56,57,97,98,99,100,101,102]) rfl rfl rfl Tryz.underlying9 (by omega) (by omega)) ?_
  refine K69 ?_
  refine cSp rfl (fun hc11=>?_) (fun hc11=>?_)
  ·
   rw [Int.toNat_natCast] at hc11
   have e11:hexS.getD i 0=c:=UInt8.toNat_inj.1 (Int.ofNat.inj hc11)
   refine K68 ?_
   refine ret_tmp Tryz.results400 rfl ?_
   refine ⟨cx.ext,congrArg (Value.int .i64) (?_:(i:Int)=hxv c.toNat)⟩
   rw [← e11,hexS_get i (by omega),hxv_hexd (by omega)]
  rw [Int.toNat_natCast] at hc11
  have e11:hexS.getD i 0≠c:=fun e=>hc11 (congrArg (fun z:UInt8=>((z.toNat:Nat):Int)) e)
  refine K68 ?_
  refine ⟨gk2-1,_,by omega,rfl,i+1,by omega,hs0,rfl,fun j hj=>?_,cx⟩
  rcases Nat.lt_or_ge j i with h | h
  · exact hall j h
  · obtain rfl:j=i:=by omega
    exact e11
 refine K4 ?_
 refine ret_tmp Tryz.results400 rfl ?_
 refine ⟨cx.ext,congrArg (Value.int .i64) (?_:(-1:Int)=hxv c.toNat)⟩
 exact (hxv_no fun j hj=>hall j (by omega)).symm
theorem c323 (s p:List UInt8)(w0:World)(hs:s.length≤1073741824)(hp:p.length≤1073741824):Fc Tryz.prog 323 [.string (bs s),.string (bs p)] w0 (IsB fun b=>b=true↔p <+: s):=by
 refine ret_enter Tryz.func323 rfl Tryz.ntmps323 rfl ?_
 have cx:=Ctx.start w0
 refine K5 ?_
 refine s_val rfl rfl (v_lenB (s:=s) rfl rfl Tryz.underlying9) ?_
 refine SS ?_
 refine s_val rfl rfl (v_lenB (s:=p) rfl rfl Tryz.underlying9) ?_
 refine K3 ?_
 refine K8m ?_
 refine SS ?_
 refine K8n ?_
 refine K2 ?_
 refine ret_tmp Tryz.results323 rfl ?_
 refine Kq ?_
 simp only [Bool.and_eq_true,decide_eq_true_eq,Int.toNat_natCast]
 constructor
 · rintro ⟨h1,h2⟩
   exact List.prefix_iff_eq_take.2 h2.symm
 · intro h
   exact ⟨by have:=h.length_le;omega,(List.prefix_iff_eq_take.1 h).symm⟩
theorem c325 (s:List UInt8)(w0:World)(hs:s.length≤1073741824):Fc Tryz.prog 325 [.string (bs s)] w0 (fun v _=>∃ n:Nat,v=.int .i64 n∧n≤s.length):=by
 refine ret_enter Tryz.func325 rfl Tryz.ntmps325 rfl ?_
 have cx:=Ctx.start w0
 refine K8 ?_
 refine w_loop (fun g f w1=>∃ i:Nat,g+i=s.length∧f 0=.string (bs s)∧f 3=.int .i64 i∧Ctx w0 w1 []) (s.length) ?_ ?_
 ·
  exact Ezc
 intro gk2 f w hJ
 obtain ⟨i,hgi,hs0,hs3,cx⟩:=hJ
 refine K10 ?_
 refine K1j ?_
 refine K1e ?_
 refine K2h ?_
 refine K2p ?_
 refine K1e ?_
 refine K1o ?_
 refine K28 ?_
 refine K2c ?_
 refine K28 ?_
 refine K2c ?_
 refine K28 ?_
 refine K2c ?_
 refine K28 ?_
 refine K6x ?_
 refine K2 ?_
 refine cSp rfl (fun hc43=>?_) (fun hc43=>?_)
 ·
  refine K0 ?_
  exact Bz22
 refine K1f ?_
 refine ret_tmp Tryz.results325 rfl ?_
 exact Ezd
theorem c376 (s:List UInt8)(w0:World)(hs:s.length≤1073741824):Fc Tryz.prog 376 [.string (bs s)] w0 (fun v _=>∃ (b:UInt8) (n:Nat),v=.tuple #[.int .u8 (b.toNat:Nat),.int .i64 n]∧n≤s.length∧∀ c t z,sgq c=92::t→s=t++z→b=c∧n=t.length):=by
 refine ret_enter Tryz.func376 rfl Tryz.ntmps376 rfl ?_
 have cx:=Ctx.start w0
 refine K4i ?_
 refine w_loop (fun g f w1=>∃ i:Nat,g+i=7∧f 0=.string (bs s)∧f 4=.string (bs [34,92,98,102,110,114,116])∧f 5=.string (bs [34,92,8,12,10,13,9])∧f 6=.int .i64 i∧(∀ j:Nat,j<i→froC.getD j 0≠s.getD 0 0)∧Ctx w0 w1 []) (7) ?_ ?_
 ·
  exact ⟨0,by omega,rfl,rfl,rfl,rfl,fun j h=>by omega,cx⟩
 intro gk3 f w hJ
 obtain ⟨i,hgi,hs0,hs4,hs5,hs6,hall,cx⟩:=hJ
 have hF7:([34,92,98,102,110,114,116]:List UInt8).length=7:=rfl
 have hT7:([34,92,8,12,10,13,9]:List UInt8).length=7:=rfl
 refine K11 ?_
 refine K27 ?_
 refine Ks ?_
 refine K2 ?_
 refine cSp rfl (fun hc15=>?_) (fun hc15=>?_)
 ·
  have hi7:i<7:=by have:=hc15.1;simp only [List.length_cons,List.length_nil] at this;omega
  refine K6a ?_
  refine K24 ?_
  refine K2l ?_
  refine K45 ?_
  refine K7c ?_
  refine K2l ?_
  refine K25 ?_
  refine q_nil ?_;rintro w ⟨cx,hwQ5⟩
  refine cSp rfl (fun hc23=>?_) (fun hc23=>?_)
  ·
   have e23:s.getD 0 0=froC.getD i 0:=UInt8.toNat_inj.1 (Int.ofNat.inj hc23)
   refine K37 ?_
   refine Kc ?_
   refine K3 ?_
   refine ret_tmp2 Tryz.results376 rfl rfl ?_
   refine ⟨cx.ext,toC.getD i 0,1,rfl,by omega,fun c t z h1 h2=>?_⟩
   rcases sgq_esc h1 with ⟨h3,h4⟩ | ⟨h3,h4⟩
   · have h5:s.getD 0 0=shq c:=by rw [h2,h4];rfl
     rw [fro_to hi7 h3 (by rw [← h5,e23]),h4]
     exact Ez5
   · exfalso
     have h5:s.getD 0 0=117:=by rw [h2,h4];rfl
     exact fro_117 hi7 (by rw [← e23,h5])
  have e23:froC.getD i 0≠s.getD 0 0:=fun e=>hc23 (congrArg (fun z:UInt8=>((z.toNat:Nat):Int)) e.symm)
  refine K6b ?_
  refine ⟨gk3-1,_,by omega,rfl,i+1,by omega,hs0,hs4,hs5,rfl,fun j hj=>?_,cx⟩
  rcases Nat.lt_or_ge j i with h | h
  · exact hall j h
  · obtain rfl:j=i:=by omega
    exact e23
 have hone:∀ c t z,sgq c=92::t→s=t++z→t=[117,48,48,hexd (c.toNat / 16),hexd (c.toNat%16)]∧c.toNat<32:=by
  intro c t z h1 h2
  rcases sgq_esc h1 with ⟨h3,h4⟩ | ⟨h3,h4⟩
  · exfalso
    obtain ⟨j,h5,h6⟩:=fro_all h3
    have h7:s.getD 0 0=shq c:=by rw [h2,h4];rfl
    have h8:0<s.length:=by rw [h2,h4];simp
    rcases hc15 with h | h
    · exact hall j (by omega) (by rw [h6,h7])
    · omega
  · exact ⟨h4,h3⟩
 refine K2 ?_
 refine K1j ?_
 refine Kaq ?_
 refine s_gval rfl rfl rfl wT (fun hc=>v_eqB (u:=[117,48,48]) rfl gX rfl) ?_
 refine K2p ?_
 refine K2w ?_
 refine s_gfn cx rfl rfl rfl wT (fun hc=>c400 (s.getD (Int.toNat 3) 0) _) Tryz.func400 rfl rfl rfl (fun hc=>(cons_eq p4q rfl)) ?_;intro q38 w cx hw38 hp38
 refine s_gval rfl rfl rfl wT (fun hc=>v_cmp rfl ((gve hc rfl).trans (hp38 hc)) rfl rfl) ?_
 refine K2p ?_
 refine K2w ?_
 refine s_gfn cx rfl rfl rfl wT (fun hc=>c400 (s.getD (Int.toNat 4) 0) _) Tryz.func400 rfl rfl rfl (fun hc=>(cons_eq p4q rfl)) ?_;intro q44 w cx hw44 hp44
 refine s_gval rfl rfl rfl wT (fun hc=>v_cmp rfl ((gve hc rfl).trans (hp44 hc)) rfl rfl) ?_
 refine K0 ?_
 refine cSp rfl (fun hc46=>?_) (fun hc46=>?_)
 ·
  have hx30:=hxv_lt (s.getD (Int.toNat 3) 0).toNat
  have hx40:=hxv_lt (s.getD (Int.toNat 4) 0).toNat
  have hy30:=hc46.1.2
  have hy40:=hc46.2
  refine SS ?_
  refine K1l ?_
  refine K24 ?_
  refine K2l ?_
  refine Kd5 ?_
  refine q_val rfl rfl (fun w cx hwQ=>v_mul rfl rfl rfl (by omega) (by omega)) ?_
  refine K24 ?_
  refine K2l ?_
  refine Kd5 ?_
  refine Kah ?_
  refine q_val rfl rfl (fun w cx hwQ=>(show (execOp _ _).run Tryz.prog _=.ok (.value (.int .u8 (16*hxv (s.getD (Int.toNat 3) 0).toNat+hxv (s.getD (Int.toNat 4) 0).toNat))) _ from (v_conv rfl rfl Tryz.underlying3 Tryz.underlying5).trans (by rw [u8_inI (by omega) (by omega)]))) ?_
  refine K5z ?_
  refine q_nil ?_;rintro w ⟨cx,hwQ8⟩
  refine SS ?_
  refine ret_tmp2 Tryz.results376 rfl rfl ?_
  refine ⟨cx.ext,UInt8.ofNat (16*hxv (s.getD (Int.toNat 3) 0).toNat+hxv (s.getD (Int.toNat 4) 0).toNat).toNat,5,?_,by omega,fun c t z h1 h2=>?_⟩
  · exact congrArg (fun z:Int=>Value.tuple #[.int .u8 z,.int .i64 5]) (by rw [u8t (by omega)];omega)
  · obtain ⟨h3,h4⟩:=hone c t z h1 h2
    have h5:s.getD (Int.toNat 3) 0=hexd (c.toNat / 16):=by rw [h2,h3];rfl
    have h6:s.getD (Int.toNat 4) 0=hexd (c.toNat%16):=by rw [h2,h3];rfl
    rw [h5,h6,hxv_hexd (by omega),hxv_hexd (by omega),h3]
    refine ⟨?_,rfl⟩
    rw [show (16*((c.toNat / 16:Nat):Int)+((c.toNat%16:Nat):Int)).toNat=c.toNat by omega,UInt8.ofNat_toNat]
 refine K5 ?_
 refine ret_tmp2 Tryz.results376 rfl rfl ?_
 refine ⟨cx.ext,0,0,rfl,by omega,fun c t z h1 h2=>?_⟩
 exfalso
 obtain ⟨h3,h4⟩:=hone c t z h1 h2
 have h5:s.getD (Int.toNat 3) 0=hexd (c.toNat / 16):=by rw [h2,h3];rfl
 have h6:s.getD (Int.toNat 4) 0=hexd (c.toNat%16):=by rw [h2,h3];rfl
 have h7:s.take (Int.toNat 3)=[117,48,48]:=by rw [h2,h3];rfl
 have h8:=congrArg List.length h2
 rw [h3] at h8
 simp only [List.length_append,List.length_cons,List.length_nil] at h8
 rw [h5,h6,hxv_hexd (by omega),hxv_hexd (by omega)] at hc46
 rcases hc46 with ((h | h) | h) | h
 · omega
 · exact h h7
 · omega
 · omega
theorem c324 (s:List UInt8)(w0:World)(hs:s.length≤1073741824):Fc Tryz.prog 324 [.string (bs s)] w0 (fun v _=>∃ (k:List UInt8) (n:Nat),v=.tuple #[.string (bs k),.int .i64 n]∧n≤s.length∧(n=0∧k=[]∨k.length+2≤n)∧∀ l y,s=34::(qtq l++34::y)→k=l∧n=(qtq l).length+2):=by
 refine ret_enter Tryz.func324 rfl Tryz.ntmps324 rfl ?_
 have cx:=Ctx.start w0
 refine K14 ?_
 refine Kd6 ?_
 refine K1 ?_
 refine cSp rfl (fun hc15=>?_) (fun hc15=>?_)
 ·
  refine K4 ?_
  refine K8p ?_
  refine ⟨cx.ext,[],0,rfl,by omega,.inl ⟨rfl,rfl⟩,fun l y h=>?_⟩
  exfalso
  rcases hc15 with h2 | h2
  · rw [h] at h2;simp at h2;omega
  · exact h2 (by rw [h];rfl)
 refine Ka ?_
 refine w_loop (fun g f w1=>∃ (i:Nat) (out:List UInt8) (v:Value),g+i=s.length+1∧i≤s.length∧1≤i∧out.length+1≤i∧f 0=.string (bs s)∧f 5=.int .i64 i∧f 4=v∧(∀ l y,s=34::(qtq l++34::y)→∃ m,m≤l.length∧i=1+(qtq (l.take m)).length∧out=l.take m)∧Cxr w0 w1 [] [⟨5,1,v,out.length,out.map bv⟩]) (s.length) ?_ ?_
 ·
  exact ⟨1,[],_,by omega,by omega,by omega,by simp,rfl,rfl,rfl,fun l y h=>⟨0,by omega,rfl,rfl⟩,cx.nilRow 5 1⟩
 intro gk5 f w hJ
 obtain ⟨i,out,v,hgi,hisl,hi1,hol,hs0,hs5,hs4,hex,cx⟩:=hJ
 refine K4o ?_
 refine cSp rfl (fun hc19=>?_) (fun hc19=>?_)
 ·
  have hil:i<s.length:=by omega
  refine K1p ?_
  refine Kh ?_
  refine K6 ?_
  refine cSp rfl (fun hc31=>?_) (fun hc31=>?_)
  ·
   have hb:s.getD i 0=34:=UInt8.toNat_inj.1 (Int.ofNat.inj hc31)
   refine K1i ?_
   refine K70 ?_
   refine Kh ?_
   refine K3 ?_
   refine K8p ?_
   refine ⟨cx.ext,out,i+1,rfl,by omega,.inr (by omega),fun l y h=>?_⟩
   obtain ⟨m,h1,h2,h3⟩:=hex l y h
   obtain ⟨h4,h5⟩:=cqo_case h h2 h1
   rcases h5 with ⟨h6,h7⟩ | ⟨c,h6,h7,h8,h9,h10⟩ | ⟨c,t,h6,h7,h8,h9,h10⟩
   · rw [h6,List.take_length] at h2 h3
     exact ⟨h3,by omega⟩
   · exfalso;rw [h8] at hb;rw [hb] at h9;exact h9 rfl
   · exfalso;rw [hb] at h9;exact absurd h9 (by decide)
  have hb:s.getD i 0≠34:=fun e=>hc31 (congrArg (fun z:UInt8=>((z.toNat:Nat):Int)) e)
  refine K3 ?_
  refine cSp rfl (fun hc37=>?_) (fun hc37=>?_)
  ·
   have hb2:s.getD i 0=92:=UInt8.toNat_inj.1 (Int.ofNat.inj hc37)
   refine Km ?_
   refine K63 ?_
   refine s_fn cx (c376 (s.drop (i+1)) _ p15q) Tryz.func376 rfl rfl rfl rfl rfl rfl ?_;intro q44 w cx hw44 hp44
   obtain ⟨b,n,rfl,hnl,hbx⟩:=hp44
   rw [List.length_drop] at hnl
   refine Ko ?_
   refine cSp rfl (fun hc48=>?_) (fun hc48=>?_)
   ·
    refine K4 ?_
    refine K8p ?_
    refine ⟨cx.ext,[],0,rfl,by omega,.inl ⟨rfl,rfl⟩,fun l y h=>?_⟩
    exfalso
    obtain ⟨m,h1,h2,h3⟩:=hex l y h
    obtain ⟨h4,h5⟩:=cqo_case h h2 h1
    rcases h5 with ⟨h6,h7⟩ | ⟨c,h6,h7,h8,h9,h10⟩ | ⟨c,t,h6,h7,h8,h9,h10⟩
    · exact hb h7
    · rw [h8] at hb2;rw [hb2] at h10;exact h10 rfl
    · have:=(hbx c t _ h7 h10).2
      omega
   have hn0:0<n:=by omega
   refine Kl ?_
   refine SS ?_
   refine He ?_;intro b51 w cx hb51 hw51
   refine Hf ?_;intro v52 w cx hgr52
   replace cx:=cx.drop 1
   refine Kf ?_
   refine K3 ?_
   refine ⟨gk5-(1+n),_,by omega,rfl,i+1+n,out++[b],_,by omega,by omega,by omega,by simp only [List.length_append,List.length_cons,List.length_nil];omega,hs0,rfl,rfl,fun l y h=>?_,cx.row_eq (by simp) paq⟩
   obtain ⟨m,h1,h2,h3⟩:=hex l y h
   obtain ⟨h4,h5⟩:=cqo_case h h2 h1
   rcases h5 with ⟨h6,h7⟩ | ⟨c,h6,h7,h8,h9,h10⟩ | ⟨c,t,h6,h7,h8,h9,h10⟩
   · exact absurd h7 hb
   · exfalso;rw [h8] at hb2;rw [hb2] at h10;exact h10 rfl
   · obtain ⟨h11,h12⟩:=hbx c t _ h7 h10
     have hml:=(List.getElem?_eq_some_iff.1 h6).1
     refine ⟨m+1,by omega,?_,?_⟩
     · rw [qtqt_succ l m c h6,h7,List.length_append,List.length_cons];omega
     · rw [h3,h11,take_snoc h6]
  have hb2:s.getD i 0≠92:=fun e=>hc37 (congrArg (fun z:UInt8=>((z.toNat:Nat):Int)) e)
  refine K1i ?_
  refine Kb ?_
  refine K3a ?_
  refine He ?_;intro b27 w cx hb27 hw27
  refine Hf ?_;intro v28 w cx hgr28
  replace cx:=cx.drop 1
  refine K3z ?_
  refine ⟨gk5-1,_,by omega,rfl,i+1,out++[s.getD i 0],_,by omega,by omega,by omega,by simp only [List.length_append,List.length_cons,List.length_nil];omega,hs0,rfl,rfl,fun l y h=>?_,cx.row_eq (by simp) paq⟩
  obtain ⟨m,h1,h2,h3⟩:=hex l y h
  obtain ⟨h4,h5⟩:=cqo_case h h2 h1
  rcases h5 with ⟨h6,h7⟩ | ⟨c,h6,h7,h8,h9,h10⟩ | ⟨c,t,h6,h7,h8,h9,h10⟩
  · exact absurd h7 hb
  · have hml:=(List.getElem?_eq_some_iff.1 h6).1
    refine ⟨m+1,by omega,?_,?_⟩
    · rw [qtqt_succ l m c h6,h7,List.length_append,List.length_cons,List.length_nil];omega
    · rw [h3,h8,take_snoc h6]
  · exact absurd h9 hb2
 refine K5 ?_
 refine K8p ?_
 refine ⟨cx.ext,[],0,rfl,by omega,.inl ⟨rfl,rfl⟩,fun l y h=>?_⟩
 exfalso
 obtain ⟨m,h1,h2,h3⟩:=hex l y h
 obtain ⟨h4,h5⟩:=cqo_case h h2 h1
 omega
end Go.Proofs.YthiafbkolhnadaaGreatDoor
end
section
namespace Go.Dk
open Go Go.RowKit Go.Lib
section
variable {P:Program} {o:Oper} {w:World} {ρ:Operand→Value}
theorem v_neg {t:TypeId}{x:Operand}{p:Int}(ho:o.op=.unOp .neg t x)(hx:ρ x=.int .i64 p)(h0:-9223372036854775807≤p)(h1:p≤9223372036854775807):(execOp ρ o).run P w=.ok (.value (.int .i64 (-p))) w:=by
 unfold execOp;rw [ho]
 have e:IntKind.i64.wrap (-p)=-p:=by simp [IntKind.wrap,IntKind.signed,IntKind.bits];omega
 simp [hx,Op.unary,Op.intArith,e]
end
end Go.Dk
end
section
namespace Go.Proofs.YthiafbkolhnadaaGreatDoor
open Go Go.Dk Go.RowKit Go.Lib
attribute [local irreducible] Go.wpList Go.Code.wp Go.bodyPost Go.wpStill Go.wpQuiet
theorem bd76d (b:Bool)(s:ByteArray)(x:Int)(w:World):(Instr.build 76 ([(0,.bool b),(1,.string s),(2,.int .i64 x)]:List (Nat×Value)).toArray).run Tryz.prog w=.ok (.agg #[.bool b,.string s,.int .i64 x]) w:=by
 go_simp
 try rfl
theorem c281 (s:List UInt8)(a:Nat)(w0:World)(hs:s.length≤1073741824)(ha:a≤s.length):Fc Tryz.prog 281 [.string (bs s),.int .i64 a] w0 (fun v _=>∃ j:Nat,v=.int .i64 j∧a≤j∧j≤s.length):=by
 refine ret_enter Tryz.func281 rfl Tryz.ntmps281 rfl ?_
 have cx:=Ctx.start w0
 refine K4 ?_
 refine w_loop (fun g f w1=>∃ j:Nat,g+j=s.length∧a≤j∧f 0=.string (bs s)∧f 1=.int .i64 j∧Ctx w0 w1 []) (s.length-a) ?_ ?_
 ·
  exact ⟨a,by omega,by omega,rfl,rfl,cx⟩
 intro gk1 f w hJ
 obtain ⟨j,hg,haj,hs0,hs1,cx⟩:=hJ
 refine K61 ?_
 refine K1j ?_
 refine K8q ?_
 refine K1o ?_
 refine Ks ?_
 refine K8q ?_
 refine K1o ?_
 refine cSp rfl (fun hc20=>?_) (fun hc20=>?_)
 ·
  refine K61 ?_
  refine K1 ?_
  exact ⟨gk1-1,_,by omega,rfl,j+1,by omega,by omega,hs0,rfl,cx⟩
 refine K61 ?_
 refine K1 ?_
 refine ret_tmp Tryz.results281 rfl ?_
 exact ⟨cx.ext,j,rfl,by omega,by omega⟩
theorem c352 (s:List UInt8)(w0:World)(hs:s.length≤1073741824):Fc Tryz.prog 352 [.string (bs s)] w0 (fun v _=>∃ i:Nat,v=.string (bs (s.drop i))∧i≤s.length):=by
 refine ret_enter Tryz.func352 rfl Tryz.ntmps352 rfl ?_
 have cx:=Ctx.start w0
 refine K8 ?_
 refine w_loop (fun g f w1=>∃ i:Nat,g+i=s.length∧f 0=.string (bs s)∧f 3=.int .i64 i∧Ctx w0 w1 []) (s.length) ?_ ?_
 ·
  exact Ezc
 intro gk2 f w hJ
 obtain ⟨i,hg,hs0,hs3,cx⟩:=hJ
 refine K10 ?_
 refine K1j ?_
 refine K1e ?_
 refine K1o ?_
 refine cSp rfl (fun hc13=>?_) (fun hc13=>?_)
 ·
  refine K0 ?_
  exact Bz22
 refine K9 ?_
 refine Kr ?_
 refine K2 ?_
 refine ret_tmp Tryz.results352 rfl ?_
 exact Ezd
theorem c354 (s:List UInt8)(w0:World)(hs:s.length≤1073741824):Fc Tryz.prog 354 [.string (bs s)] w0 (fun v _=>∃ i:Nat,v=.int .i64 i∧i≤s.length):=by
 refine ret_enter Tryz.func354 rfl Tryz.ntmps354 rfl ?_
 have cx:=Ctx.start w0
 refine K8 ?_
 refine w_loop (fun g f w1=>∃ i:Nat,g+i=s.length∧f 0=.string (bs s)∧f 3=.int .i64 i∧Ctx w0 w1 []) (s.length) ?_ ?_
 ·
  exact Ezc
 intro gk2 f w hJ
 obtain ⟨i,hg,hs0,hs3,cx⟩:=hJ
 refine K10 ?_
 refine K1j ?_
 refine Ks ?_
 refine SS ?_
 refine K8r ?_
 refine K1e ?_
 refine s_gval rfl rfl rfl wT (fun hc=>v_sub rfl gX gX p0q p0q) ?_
 refine K1o ?_
 refine cSp rfl (fun hc17=>?_) (fun hc17=>?_)
 ·
  refine K0 ?_
  exact Bz22
 refine K1f ?_
 refine ret_tmp Tryz.results354 rfl ?_
 exact Ezd
theorem c399 (s:List UInt8)(w0:World)(hs:s.length≤1073741824):Fc Tryz.prog 399 [.string (bs s)] w0 (IsB fun b=>b=true→(∀ x∈s,48≤x.toNat∧x.toNat≤57)):=by
 refine ret_enter Tryz.func399 rfl Tryz.ntmps399 rfl ?_
 have cx:=Ctx.start w0
 refine K8 ?_
 refine w_loop (fun g f w1=>∃ i:Nat,g+i=s.length∧f 0=.string (bs s)∧f 3=.int .i64 i∧(∀ x∈s.take i,48≤x.toNat∧x.toNat≤57)∧Ctx w0 w1 []) (s.length) ?_ ?_
 ·
  exact Ez8
 intro gk2 f w hJ
 obtain ⟨i,hg,hs0,hs3,hall,cx⟩:=hJ
 refine K10 ?_
 refine K1n ?_
 refine cSp rfl (fun hc7=>?_) (fun hc7=>?_)
 ·
  refine K19 ?_
  refine Kr ?_
  refine K1 ?_
  refine K28 ?_
  refine K2c ?_
  refine cSp rfl (fun hc19=>?_) (fun hc19=>?_)
  ·
   refine K3 ?_
   refine ret_tmp Tryz.results399 rfl ?_
   exact Eze
  refine K68 ?_
  refine ⟨gk2-1,_,by omega,rfl,i+1,by omega,hs0,rfl,?_,cx⟩
  intro x hx
  rw [take_getD (by omega)] at hx
  rcases List.mem_append.1 hx with hx | hx
  · exact hall x hx
  · rw [List.mem_singleton.1 hx]
    rw [Int.toNat_natCast] at hc19
    omega
 refine K4 ?_
 refine ret_tmp Tryz.results399 rfl ?_
 refine ⟨cx.ext,_,rfl,fun _=>?_⟩
 rw [show s.take i=s from List.take_of_length_le (by omega)] at hall
 exact hall
theorem c370 (s:List UInt8)(w0:World)(hs:s.length≤1073741824):Fc Tryz.prog 370 [.string (bs s)] w0 (IsB fun b=>b=true→(∀ x∈s,48≤x.toNat∧x.toNat≤57)∧s.length≤600):=by
 refine ret_enter Tryz.func370 rfl Tryz.ntmps370 rfl ?_
 have cx:=Ctx.start w0
 refine Ka ?_
 refine s_gfnB cx rfl rfl rfl wT (fun hc=>c399 s _ (by omega)) Tryz.func399 rfl rfl rfl (fun hc=>(cons_eq gX rfl)) ?_;intro q8 w cx hw8 hp8
 refine K5 ?_
 refine Kd6 ?_
 refine K4 ?_
 refine ret_tmp Tryz.results370 rfl ?_
 refine ⟨cx.ext,_,rfl,fun h=>?_⟩
 simp only [Bool.and_eq_true,decide_eq_true_eq] at h
 exact ⟨hp8 p26q h.1.2,by omega⟩
theorem c353 (s:List UInt8)(w0:World)(hs:s.length≤9):Fc Tryz.prog 353 [.string (bs s)] w0 (fun v _=>∃ n e:Int,v=.tuple #[.int .i64 n,.int .i64 e]∧0≤n∧n≤1000000000):=by
 refine ret_enter Tryz.func353 rfl Tryz.ntmps353 rfl ?_
 have cx:=Ctx.start w0
 refine K7 ?_
 refine s_fnB cx (c370 s _ (by omega)) Tryz.func370 rfl rfl rfl rfl rfl rfl ?_;intro q7 w cx hw7 hp7
 refine K0 ?_
 refine cSp rfl (fun hc8=>?_) (fun hc8=>?_)
 ·
  refine K4 ?_
  refine ret_tmp2 Tryz.results353 rfl rfl ?_
  exact ⟨cx.ext,0,3,rfl,by omega,by omega⟩
 have hdg:=(hp7 hc8).1
 refine K14 ?_
 refine s_gval rfl rfl rfl wT (fun hc=>(show (execOp _ _).run _ _=.ok (.value (.bool false)) _ from by exfalso;simp only [bsl] at hc;omega)) ?_
 refine K1 ?_
 refine cSp rfl (fun hc20=>?_) (fun hc20=>?_)
 ·
  exfalso
  omega
 refine Ka ?_
 refine w_loop (fun g f w1=>∃ i n:Nat,g+i=s.length∧f 0=.string (bs s)∧f 5=.int .i64 i∧f 4=.int .i64 n∧Lib.decFrom 0 (s.take i)=some n∧Ctx w0 w1 []) (s.length) ?_ ?_
 ·
  exact ⟨0,0,by omega,rfl,rfl,rfl,rfl,cx⟩
 intro gk7 f w hJ
 obtain ⟨i,n,hgi,hs0,hs5,hs4,hd,cx⟩:=hJ
 have hb8:n<1000000000:=by
  have h1:=decFrom_8 _ _ _ hd
  rw [List.length_take,Nat.min_eq_left (by omega),Nat.zero_add,Nat.one_mul] at h1
  have h2:10^i≤10^9:=Nat.pow_le_pow_right (by decide) (by omega)
  have h3:10^9=1000000000:=by decide
  omega
 have hbt2:=(s.getD (Int.toNat (i:Int)) 0).toNat_lt
 refine K4o ?_
 refine cSp rfl (fun hc24=>?_) (fun hc24=>?_)
 ·
  refine K3w ?_
  refine K1g ?_
  refine K3a ?_
  refine K82 ?_
  refine K3 ?_
  refine Kh ?_
  refine K1 ?_
  have hil:i<s.length:=by omega
  have hdi:=hdg (s.getD i 0) (getD_mem hil)
  refine ⟨gk7-1,_,by omega,rfl,i+1,n*10+((s.getD i 0).toNat-48),by omega,hs0,rfl,congrArg (Value.int .i64) ?_,decFrom_take s i 0 n _ _ hd (getD_some hil) (digit_of hdi),cx⟩
  rw [Int.toNat_natCast]
  omega
 refine Kl ?_
 refine K2 ?_
 refine ret_tmp2 Tryz.results353 rfl rfl ?_
 refine ⟨cx.ext,n,0,rfl,by omega,?_⟩
 omega
theorem c282 (s:List UInt8)(w0:World)(hs:s.length≤1073741824):Fc Tryz.prog 282 [.string (bs s)] w0 (fun v _=>∃ n:Int,v=.int .i64 n∧0≤n∧n≤1000000000):=by
 refine ret_enter Tryz.func282 rfl Tryz.ntmps282 rfl ?_
 have cx:=Ctx.start w0
 refine K5 ?_
 refine s_fn cx (c352 s _ (by omega)) Tryz.func352 rfl rfl rfl rfl rfl rfl ?_;intro q7 w cx hw7 hp7
 obtain ⟨i,rfl,hi⟩:=hp7
 have hdl:(s.drop i).length≤s.length:=by rw [List.length_drop];omega
 refine K7 ?_
 refine cSp rfl (fun hc10=>?_) (fun hc10=>?_)
 ·
  refine K3 ?_
  refine ret_tmp Tryz.results282 rfl ?_
  exact ⟨cx.ext,_,rfl,by omega,by omega⟩
 refine K2 ?_
 refine s_fn cx (c353 (s.drop i) _ (by omega)) Tryz.func353 rfl rfl rfl rfl rfl rfl ?_;intro q13 w cx hw13 hp13
 obtain ⟨n,e,rfl,hn0,hn1⟩:=hp13
 refine Ko ?_
 refine ret_tmp Tryz.results282 rfl ?_
 exact ⟨cx.ext,n,rfl,hn0,hn1⟩
theorem c283 (nb:Bool)(s:List UInt8)(x:Int)(w0:World)(hs:s.length≤1073741824)(hx0:-4000000000≤x)(hx1:x≤4000000000):Fc Tryz.prog 283 [.bool nb,.string (bs s),.int .i64 x] w0 (fun v _=>∃ (b:Bool) (d:List UInt8) (x e:Int),v=.tuple #[.agg #[.bool b,.string (bs d),.int .i64 x],.int .i64 e]∧d.length≤s.length∧-400≤x∧x≤400):=by
 refine ret_enter Tryz.func283 rfl Tryz.ntmps283 rfl ?_
 have cx:=Ctx.start w0
 refine K0 ?_
 refine H8 ?_;intro b6 w cx hb6 hw6
 refine K3 ?_
 refine s_fn cx (c352 s _ (by omega)) Tryz.func352 rfl rfl rfl rfl rfl rfl ?_;intro q10 w cx hw10 hp10
 obtain ⟨i,rfl,hi⟩:=hp10
 have hdl:(s.drop i).length≤s.length:=by rw [List.length_drop];omega
 refine K4 ?_
 refine s_val rfl rfl (v_eqB (s:=s.drop i) (u:=[]) rfl rfl rfl) ?_
 refine SS ?_
 refine cSp rfl (fun hc12=>?_) (fun hc12=>?_)
 ·
  refine K6c ?_
  refine H9 ?_;intro w cx hwS3
  refine K1 ?_
  refine Kau ?_
  exact ⟨cx.ext,false,[],0,0,rfl,by simp,by omega,by omega⟩
 refine K2 ?_
 refine s_fn cx (c354 (s.drop i) _ (by omega)) Tryz.func354 rfl rfl rfl rfl rfl rfl ?_;intro q15 w cx hw15 hp15
 obtain ⟨z,rfl,hz⟩:=hp15
 refine K7 ?_
 refine K29 ?_
 refine K21 ?_
 refine Kan ?_
 refine K3 ?_
 refine Kan ?_
 refine K1 ?_
 refine cSp rfl (fun hc40=>?_) (fun hc40=>?_)
 ·
  refine K6c ?_
  refine H9 ?_;intro w cx hwS7
  refine K1 ?_
  refine Kau ?_
  exact ⟨cx.ext,false,[],0,2,rfl,by simp,by omega,by omega⟩
 refine K6 ?_
 refine s_val rfl rfl (v_build (qs:=[(0,.bool nb),(1,.string (bs ((s.drop i).take (Int.toNat (((s.drop i).length:Int)-(z:Int)))))),(2,.int .i64 (x+z))]) (bd76d _ _ _) rfl rfl) ?_
 refine H9 ?_;intro w cx hwS8
 refine K1 ?_
 refine Kau ?_
 exact ⟨cx.ext,nb,_,x+z,0,rfl,by rw [List.length_take];omega,by omega,by omega⟩
theorem c201 (s:List UInt8)(w0:World)(hs:s.length≤1000000):Fc Tryz.prog 201 [.string (bs s)] w0 (fun v _=>∃ (b:Bool) (d:List UInt8) (x e:Int),v=.tuple #[.agg #[.bool b,.string (bs d),.int .i64 x],.int .i64 e]∧d.length≤s.length∧-400≤x∧x≤400):=by
 refine ret_enter Tryz.func201 rfl Tryz.ntmps201 rfl ?_
 have cx:=Ctx.start w0
 refine K0 ?_
 refine H8 ?_;intro b2 w cx hb2 hw2
 refine K4 ?_
 refine w_cut (fun f w1=>∃ (i b2:Nat),f 0=.string (bs s)∧f 2=.pointer (some ⟨b2,0,none⟩)∧f 4=.int .i64 i∧i≤1∧i≤s.length∧Ctx w0 w1 [(b2,.cells ([.bool false,.string ByteArray.empty,.int .i64 0]:List Value).toArray 76)]) ?_ ?_
 ·
  refine K5 ?_
  refine K5x ?_
  refine cSp rfl (fun hc20=>?_) (fun hc20=>?_)
  ·
   refine K1 ?_
   exact Bz139
  refine SS ?_
  exact Bz139
 intro f w hJ
 obtain ⟨i,b2,hs0,hs2,hs4,hi1,hil,cx⟩:=hJ
 refine K1i ?_
 refine K19 ?_
 refine Ke ?_
 refine s_fn cx (c281 s i _ (by omega) (by omega)) Tryz.func281 rfl rfl rfl rfl rfl rfl ?_;intro q25 w cx hw25 hp25
 obtain ⟨j,rfl,hj0,hj1⟩:=hp25
 refine K4 ?_
 refine K6d ?_
 refine Kx ?_
 refine K2j ?_
 refine K2c ?_
 refine K4z ?_
 refine s_gval rfl rfl rfl wT (fun hc=>v_add rfl gX rfl p0q p0q) ?_
 refine K2 ?_
 refine cSp rfl (fun hc40=>?_) (fun hc40=>?_)
 ·
  refine K6c ?_
  refine Hs ?_;intro w cx hwS7
  exact Bz28
 refine K9 ?_
 refine K22 ?_
 refine K2i ?_
 refine K4 ?_
 refine w_cut (fun f w1=>∃ (k b2:Nat) (nb:Bool) (dg:List UInt8) (x:Int),f 0=.string (bs s)∧f 2=.pointer (some ⟨b2,0,none⟩)∧f 5=.bool nb∧f 6=.int .i64 k∧f 7=.string (bs dg)∧f 8=.int .i64 x∧k≤s.length∧dg.length≤s.length∧-1000000≤x∧x≤0∧Ctx w0 w1 [(b2,.cells ([.bool false,.string ByteArray.empty,.int .i64 0]:List Value).toArray 76)]) ?_ ?_
 ·
  refine K6e ?_
  refine SS ?_
  refine K1o ?_
  refine cSp rfl (fun hc55=>?_) (fun hc55=>?_)
  ·
   refine Km ?_
   refine K0 ?_
   refine s_fn cx (c281 s (j+1) _ (by omega) (by omega)) Tryz.func281 rfl rfl rfl rfl rfl rfl ?_;intro q59 w cx hw59 hp59
   obtain ⟨j,rfl,hj0,hj1⟩:=hp59
   refine K8 ?_
   refine cSp rfl (fun hc63=>?_) (fun hc63=>?_)
   ·
    refine K6c ?_
    refine Hs ?_;intro w cx hwS13
    exact Bz28
   refine K2 ?_
   refine K1n ?_
   refine K2i ?_
   refine s_val rfl rfl (v_strAddB rfl rfl rfl pfq) ?_
   refine K13 ?_
   exact Bz84
  refine SS ?_
  exact Bz84
 intro f w hJ
 obtain ⟨k,b2,nb,dg,x,hs0,hs2,hs5,hs6,hs7,hs8,hk,hdg,hx0,hx1,cx⟩:=hJ
 refine w_cut (fun f w1=>∃ (k b2:Nat) (nb:Bool) (dg:List UInt8) (x:Int),f 0=.string (bs s)∧f 2=.pointer (some ⟨b2,0,none⟩)∧f 5=.bool nb∧f 6=.int .i64 k∧f 7=.string (bs dg)∧f 8=.int .i64 x∧k≤s.length∧dg.length≤s.length∧-2000000000≤x∧x≤2000000000∧Ctx w0 w1 [(b2,.cells ([.bool false,.string ByteArray.empty,.int .i64 0]:List Value).toArray 76)]) ?_ ?_
 ·
  refine K2n ?_
  refine K1j ?_
  refine K55 ?_
  refine K2h ?_
  refine K0 ?_
  refine Kx ?_
  refine K53 ?_
  refine K6x ?_
  refine K2 ?_
  refine cSp rfl (fun hc92=>?_) (fun hc92=>?_)
  ·
   refine K2n ?_
   refine K4 ?_
   refine K1j ?_
   refine SS ?_
   refine K2h ?_
   refine K2 ?_
   refine w_cut (fun f w1=>∃ (k b2:Nat) (nb dn:Bool) (dg:List UInt8) (x:Int),f 0=.string (bs s)∧f 2=.pointer (some ⟨b2,0,none⟩)∧f 5=.bool nb∧f 6=.int .i64 k∧f 7=.string (bs dg)∧f 8=.int .i64 x∧k≤s.length∧dg.length≤s.length∧f 10=.bool dn∧-1000000≤x∧x≤0∧Ctx w0 w1 [(b2,.cells ([.bool false,.string ByteArray.empty,.int .i64 0]:List Value).toArray 76)]) ?_ ?_
   ·
    refine K6e ?_
    refine SS ?_
    refine K2h ?_
    refine K0 ?_
    refine Kx ?_
    refine SS ?_
    refine K6x ?_
    refine K2 ?_
    refine cSp rfl (fun hc120=>?_) (fun hc120=>?_)
    ·
     refine K3 ?_
     exact Bz81
    refine SS ?_
    exact Bz81
   intro f w hJ
   obtain ⟨k,b2,nb,dn,dg,x,hs0,hs2,hs5,hs6,hs7,hs8,hk,hdg,hs10,hx0,hx1,cx⟩:=hJ
   refine Km ?_
   refine Kc ?_
   refine s_fn cx (c281 s k _ (by omega) (by omega)) Tryz.func281 rfl rfl rfl rfl rfl rfl ?_;intro q125 w cx hw125 hp125
   obtain ⟨j,rfl,hj0,hj1⟩:=hp125
   refine K4 ?_
   refine Kc ?_
   refine K0 ?_
   refine cSp rfl (fun hc128=>?_) (fun hc128=>?_)
   ·
    refine K6c ?_
    refine Hs ?_;intro w cx hwS24
    exact Bz28
   refine K9 ?_
   refine Kc ?_
   refine SS ?_
   refine K2i ?_
   refine s_fn cx (c282 ((s.take (Int.toNat (j:Int))).drop (Int.toNat (k:Int))) _ pfq) Tryz.func282 rfl rfl rfl rfl rfl rfl ?_;intro q134 w cx hw134 hp134
   obtain ⟨n,rfl,hn0,hn1⟩:=hp134
   refine K0 ?_
   refine w_cut (fun f w1=>∃ (y:Int),f 0=.string (bs s)∧f 2=.pointer (some ⟨b2,0,none⟩)∧f 5=.bool nb∧f 7=.string (bs dg)∧f 8=.int .i64 x∧f 11=.int .i64 j∧f 12=.int .i64 y∧-1000000000≤y∧y≤1000000000∧Ctx w0 w1 [(b2,.cells ([.bool false,.string ByteArray.empty,.int .i64 0]:List Value).toArray 76)]) ?_ ?_
   ·
    refine K0 ?_
    refine Kw ?_
    refine SS ?_
    refine cSp rfl (fun hc135=>?_) (fun hc135=>?_)
    ·
     refine K0 ?_
     refine K3k ?_
     refine K0 ?_
     exact Bz105
    refine SS ?_
    exact Bz105
   intro f w hJ
   obtain ⟨y,hs0,hs2,hs5,hs7,hs8,hs11,hs12,hy0,hy1,cx⟩:=hJ
   refine K0 ?_
   refine Kv ?_
   refine K8s ?_
   refine K2 ?_
   refine K1y ?_
   refine K0 ?_
   exact Bz83
  refine SS ?_
  exact Bz83
 intro f w hJ
 obtain ⟨k,b2,nb,dg,x,hs0,hs2,hs5,hs6,hs7,hs8,hk,hdg,hx0,hx1,cx⟩:=hJ
 refine K11 ?_
 refine K1n ?_
 refine cSp rfl (fun hc145=>?_) (fun hc145=>?_)
 ·
  refine K6c ?_
  refine Hs ?_;intro w cx hwS31
  exact Bz28
 refine Kf ?_
 refine Kk ?_
 refine Kv ?_
 refine s_fn cx (c283 nb dg x _ (by omega) (by omega) (by omega)) Tryz.func283 rfl rfl rfl rfl rfl rfl ?_;intro q150 w cx hw150 hp150
 obtain ⟨rb,rd,rx,re,rfl,hrd,hrx0,hrx1⟩:=hp150
 refine K0 ?_
 refine Hs ?_;intro w cx hwS32
 refine K1 ?_
 refine Kcg ?_
 exact ⟨cx.ext,rb,rd,rx,re,rfl,by omega,hrx0,hrx1⟩
end Go.Proofs.YthiafbkolhnadaaGreatDoor
end
section
namespace Go.Dk
open Go Go.RowKit Go.Lib
section
variable {P:Program} {ops:Array Oper} {Q:Exit→Act→World→Prop} {rest:List Oper} {o:Oper} {n:Nat} {f:Nat→Value} {w w0:World} {L:List (Nat×Obj)} {R:List Row} {ρ:Operand→Value}
theorem s_make {t e bytes d nn:Nat}{x:Operand}{zs:List Value}(cx:Cxr w0 w L R)(ht:P.underlying t=some (.slice e))(hi:∃ i z,P.info? e=some i∧i.zero=some z∧i.size=1∧i.bytes=bytes∧z.cells=zs.toArray)(hz:zs.length=1)
  (hg:o.guard=none) (hd:o.dst=some d) (ho:o.op=.makeSlice t x x) (hx:ev n f x=.int .i64 (nn:Int)) (hb:bytes*nn≤281474976710656) (hn:nn≤maxLen)
  (h:∀ v w',Cxr w0 w' L (⟨e,1,v,nn,List.replicate nn (zs.getD 0 undef)⟩::R)→w.grownBy w' none→(∃ g,v=.slice (some ⟨g,0,none⟩) nn nn)→wpList P ops Q rest (St n (upd f d v)) w'):wpList P ops Q (o::rest) (St n f) w:=by
 obtain ⟨i,z,h1,h2,h3,h4,h5⟩:=hi
 obtain ⟨w',hr,hrow,hgr⟩:=run_make_full (P:=P) w w0.heap.size t e i z 1 ht h1 h2 h3 .i64 .i64 nn (by rw [h4];exact hb) hn cx.ext.size
 refine s_new (w':=w') (v:=.slice (some ⟨w.heap.size,0,none⟩) nn nn) hg hd ?_ (h _ _ ?_ hgr ⟨_,rfl⟩)
 · unfold execOp;rw [ho];simp [hx,hr]
 · have hbel:Below w.heap.size w w':=⟨hgr.os,hgr.tape,hgr.output,hgr.size,fun k hk=>hgr.block k hk (by simp)⟩
   obtain ⟨z0,rfl⟩:∃ z0,zs=[z0]:=List.length_eq_one_iff.1 hz
   have e1:(madeCells z.cells (nn*1)).toList=List.replicate nn z0:=by
    rw [Nat.mul_one,h5]
    exact toList_madeCells_one z0 nn
   rw [e1] at hrow
   refine (cx.call hbel).addRow _ hrow ?_ ?_
   · intro q hq hm
     simp only [Value.ownBlock,Option.some.injEq] at hq
     obtain ⟨p,hp,rfl⟩:=List.mem_map.1 hm
     have:=cx.lt p hp;omega
   · intro s hs q hq hq'
     simp only [Value.ownBlock,Option.some.injEq] at hq
     have:=((cx.rows s hs).lt _ hq').2;omega
theorem s_cell {t:TypeId}{x y:Operand}{e k cap g j:Nat}{xs:List Value}{v:Value}(cx:Cxr w0 w L (⟨e,1,.slice (some ⟨g,0,none⟩) k cap,k,xs⟩::R))(hg:o.guard=none)(hd:o.dst=none)(ho:o.op=.store t x y)(hx:ev n f x=.pointer (some ⟨g,j,none⟩))(hy:ev n f y=v)(h1:v.oneCell'=true)(hj:j<xs.length)(hs:(P.info? t).map (·.size)=some 1)
  (h:∀ w',Cxr w0 w' L (⟨e,1,.slice (some ⟨g,0,none⟩) k cap,k,xs.set j v⟩::R)→w.grownBy w' (some g)→wpList P ops Q rest (St n f) w'):wpList P ops Q (o::rest) (St n f) w:=by
 have hrow0:=cx.rows _ (List.mem_cons_self ..)
 have hoff0:=cx.off _ (List.mem_cons_self ..)
 have hpw0:=(List.pairwise_cons.1 cx.pw).1
 simp only at hrow0 hoff0 hpw0
 obtain ⟨hst,hgr⟩:=World.ownsRow.stored (w:=w) hrow0 j v
 have hc:v.cells=#[v]:=by cases v <;> first | rfl | simp [Value.oneCell'] at h1
 have hcell:w.cell? ⟨g,j,none⟩=some xs[j]:=by
  obtain ⟨g',c',he,_,_,hr⟩:=cx.rowS (by omega:0<xs.length)
  cases he
  have:=hr j xs[j] (List.getElem?_eq_getElem hj)
  simpa using this
 have hfr:w.frozen? ⟨g,j,none⟩=false:=World.ownsRow.frozenAt hrow0 j
 refine s_put (w':=w.setCell ⟨g,j,none⟩ v) hg hd ?_ (h _ ?_ hgr)
 · unfold execOp;rw [ho]
   exact Bz133
 · have hcx0:Cxr w0 (w.setCell ⟨g,j,none⟩ v) L R:=by
     refine ⟨cx.ext.grown hgr cx.ext.size (fun k hk=>by simp at hk;subst hk;exact (hrow0.lt _ rfl).1),?_,cx.lo,cx.nd,?_,fun r hr=>cx.off r (List.mem_cons_of_mem _ hr),(List.pairwise_cons.1 cx.pw).2⟩
     · intro p hp'
       exact Bz144
     · intro r hr
       exact Bz107
   exact hcx0.addRow _ hst hoff0 hpw0
theorem v_subQ {t t':TypeId}{x y:Operand}{p q r:Int}(ho:o.op=.binOp .sub t x y t')(hx:ρ x=.int .i64 p)(hy:ρ y=.int .i64 q)(he:p-q=r)(h1:-9223372036854775808≤r)(h2:r≤9223372036854775807):(execOp ρ o).run P w=.ok (.value (.int .i64 r)) w:=by
 subst he;exact v_sub ho hx hy h1 h2
end
theorem or_bitF:∀ (a:Fin 32) (b:Fin 2),bitOp .or .i64 (shl .i64 (a.val:Int) 1) (b.val:Int)=((2*a.val+b.val:Nat):Int):=by decide +kernel
theorem or_bit {a b:Nat}(ha:a<32)(hb:b<2):bitOp .or .i64 (shl .i64 (a:Int) 1) (b:Int)=((2*a+b:Nat):Int):=or_bitF ⟨a,ha⟩ ⟨b,hb⟩
theorem and1_F:∀ (a:Fin 256) (k:Fin 8),bitOp .and .i64 (shr .u8 (a.val:Int) k.val) 1=0∨bitOp .and .i64 (shr .u8 (a.val:Int) k.val) 1=1:=by decide +kernel
theorem and1_b {a k:Nat}(ha:a<256)(hk:k<8):∃ b:Nat,b<2∧bitOp .and .i64 (shr .u8 (a:Int) k) 1=(b:Int):=by
 rcases and1_F ⟨a,ha⟩ ⟨k,hk⟩ with h | h
 · exact ⟨0,by omega,h⟩
 · exact ⟨1,by omega,h⟩
theorem and1_G:∀ (a:Fin 65) (k:Fin 6),bitOp .and .i64 (shr .i64 ((a.val:Int)-1) k.val) 1=0∨bitOp .and .i64 (shr .i64 ((a.val:Int)-1) k.val) 1=1:=by decide +kernel
theorem and1_c {a:Int}{k:Nat}(h0:-1≤a)(h1:a<64)(hk:k<6):∃ b:Nat,b<2∧bitOp .and .i64 (shr .i64 a k) 1=(b:Int):=by
 obtain ⟨m,rfl⟩:∃ m:Nat,a=(m:Int)-1:=⟨(a+1).toNat,by omega⟩
 rcases and1_G ⟨m,by omega⟩ ⟨k,hk⟩ with h | h
 · exact ⟨0,by omega,h⟩
 · exact ⟨1,by omega,h⟩
theorem or8_F:∀ (a:Fin 256) (b:Fin 2) (k:Fin 8),0≤bitOp .or .u8 (a.val:Int) (shl .u8 (b.val:Int) k.val)∧bitOp .or .u8 (a.val:Int) (shl .u8 (b.val:Int) k.val)<256:=by decide +kernel
theorem or8 {a b k:Nat}(ha:a<256)(hb:b<2)(hk:k<8):∃ c:UInt8,bitOp .or .u8 (a:Int) (shl .u8 (b:Int) k)=((c.toNat:Nat):Int):=by
 obtain ⟨h1,h2⟩:=or8_F ⟨a,ha⟩ ⟨b,hb⟩ ⟨k,hk⟩
 simp only at h1 h2
 refine ⟨UInt8.ofNat (bitOp .or .u8 (a:Int) (shl .u8 (b:Int) k)).toNat,?_⟩
 rw [u8t (by omega)]
 omega
theorem shr8_F:∀ (a:Fin 256) (k:Fin 8),0≤shr .u8 (a.val:Int) k.val∧shr .u8 (a.val:Int) k.val<256:=by decide +kernel
theorem shr8 {a k:Nat}(ha:a<256)(hk:k<8):0≤shr .u8 (a:Int) k∧shr .u8 (a:Int) k<256:=shr8_F ⟨a,ha⟩ ⟨k,hk⟩
end Go.Dk
end
section
namespace Go.Dk
open Go Go.RowKit Go.Lib
def BCx (T:TypeId)(wb w:World)(b:Nat)(L:List (Nat×Obj))(R:List Row)(l:List UInt8):Prop :=
 ∃ a v,Cxr wb w ((b,.cells ([a,v]:List Value).toArray T)::L) (⟨5,1,v,l.length,l.map bv⟩::R)∧(a=.pointer none∨a=.pointer (some ⟨b,0,none⟩))
theorem BCx.call {T:TypeId}{wb w w':World}{b:Nat}{L:List (Nat×Obj)}{R:List Row}{l:List UInt8}(h:BCx T wb w b L R l)(hb:Below w.heap.size w w'):BCx T wb w' b L R l:=by
 obtain ⟨a,v,cx,ha⟩:=h
 exact ⟨a,v,cx.call hb,ha⟩
theorem BCx.eq {T:TypeId}{wb w:World}{b:Nat}{L:List (Nat×Obj)}{R:List Row}{l l':List UInt8}(h:BCx T wb w b L R l)(e:l=l'):BCx T wb w b L R l':=e▸h
theorem Cxr.oneS {w0 w:World}{L:List (Nat×Obj)}{R:List Row}{e k n:Nat}{v:Value}{xs:List Value}(h:Cxr w0 w L (⟨e,k,v,n,xs⟩::R)):v.oneCell'=true:=by
 have hrow:=h.rows _ (List.mem_cons_self ..)
 simp only at hrow
 rcases hrow.2 with ⟨rfl,_⟩ | ⟨g,cap,cur,rfl,_⟩ <;> rfl
section
variable {P:Program} {o:Oper} {w:World} {ρ:Operand→Value}
theorem v_ptrNil {t t' e:TypeId}{x y:Operand}{a:Option Addr}(hu:P.underlying t=some (.pointer e))(h:∀ w,(binOp .eql t (.pointer a) (.pointer none)).run P w=.ok (.bool a.isNone) w)(ho:o.op=.binOp .eql t x y t')(hx:ρ x=.pointer a)(hy:ρ y=.pointer none):(execOp ρ o).run P w=.ok (.value (.bool a.isNone)) w:=by
 unfold execOp;rw [ho]
 simp [hx,hy,eqGuard,h w]
theorem v_ptrNe {t t' e:TypeId}{j:TypeInfo}{x y:Operand}{a:Addr}(hp:P.underlying t=some (.pointer e))(hte:P.info? e=some j)(ho:o.op=.binOp .neq t x y t')(hx:ρ x=.pointer (some a))(hy:ρ y=.pointer (some a)):(execOp ρ o).run P w=.ok (.value (.bool false)) w:=by
 unfold execOp;rw [ho]
 have h:=Lib.run_neq_ptr_same (P:=P) w a hp hte
 simp [hx,hy,eqGuard,h]
theorem v_cvt {s t:TypeId}{x:Operand}{v u:Value}(h:(convert s t v).run P w=.ok u w)(ho:o.op=.convert s t x)(hx:ρ x=v):(execOp ρ o).run P w=.ok (.value u) w:=by
 unfold execOp;rw [ho]
 simp [hx,h]
theorem v_ext {k:Nat}{x:Operand}{ats:Array TypeId}{v u:Value}(h:∀ w,(callFunc k #[v]).run P w=.ok (.value u) w)(ho:o.op=.call { callee:=.value (.func k),args:=#[x],argTypes:=ats })(hx:ρ x=v)(hf:ρ (.func k)=.func (.func k) #[] #[]):(execOp ρ o).run P w=.ok (.value u) w:=by
 unfold execOp;rw [ho]
 simp [resolve,hx,hf,Deferred.ofValue,invoke,h w]
end
end Go.Dk
end
section
namespace Go.Dk
open Go Go.RowKit Go.Lib
structure Sc where
 kind:Int
 b:Bool
 neg:Bool
 dig:ByteArray
 exp:Int
 tk:Int
 td:Int
 tn:Int
 tz:Int
 text:ByteArray
inductive V where
 | mk (s:Sc) (bytes:List UInt8) (list:List V) (fields:List (ByteArray×V))
def V.sc:V→Sc | .mk s _ _ _=>s
def V.bytes:V→List UInt8 | .mk _ b _ _=>b
def V.list:V→List V | .mk _ _ l _=>l
def V.fields:V→List (ByteArray×V) | .mk _ _ _ f=>f
def vrow (s:Sc)(bs ls fs:Value):List Value :=
 [.int .i64 s.kind,.bool s.b,.bool s.neg,.string s.dig,.int .i64 s.exp,.int .i64 s.tk,.int .i64 s.td,.int .i64 s.tn,.int .i64 s.tz,.string s.text,bs,ls,fs]
def SlR (w:World)(v:Value)(n:Nat)(xs:List Value):Prop:=∃ b,SliceAt (fun b=>b<w.heap.size) v n b 0∧(0<n→RowAt w b 0 xs)
theorem SlR.up {w w':World}(h:Below w.heap.size w w'){v:Value}{n:Nat}{xs:List Value}(hp:SlR w v n xs):SlR w' v n xs:=by
 obtain ⟨b,hs,hr⟩:=hp
 exact ⟨b,hs.mono fun _ hb=>Nat.lt_of_lt_of_le hb h.size,fun h0=>(hr h0).up h⟩
theorem SlR.form {w:World}{v:Value}{n:Nat}{xs:List Value}(h:SlR w v n xs):∃ a c b,v=.slice a n c∧(0<n→a=some ⟨b,0,none⟩∧RowAt w b 0 xs):=by
 obtain ⟨b,hs,hr⟩:=h
 obtain ⟨a,c,rfl,ha⟩:=hs.form
 exact ⟨a,c,b,rfl,fun h0=>⟨ha h0,hr h0⟩⟩
def fcells:List ByteArray→List (List Value)→List Value
 | k::ks,cs::css=>.string k::cs++fcells ks css
 | _,_=>[]
inductive Vw (w:World):V→List Value→Prop where
 | mk (s:Sc) (bytes:List UInt8) (list:List V) (fields:List (ByteArray×V)) (bs ls fs:Value) (css fss:List (List Value))
  (hb:SlR w bs bytes.length (bytes.map bv))
  (hl:SlR w ls list.length css.flatten) (hlc:css.length=list.length) (hlv:∀ (i:Nat) (v:V) (cs:List Value),list[i]?=some v→css[i]?=some cs→Vw w v cs)
  (hf:SlR w fs fields.length (fcells (fields.map (·.1)) fss)) (hfc:fss.length=fields.length) (hfv:∀ (i:Nat) (kv:ByteArray×V) (cs:List Value),fields[i]?=some kv→fss[i]?=some cs→Vw w kv.2 cs) :
  Vw w (.mk s bytes list fields) (vrow s bs ls fs)
theorem Vw.up {w w':World}(h:Below w.heap.size w w'){v:V}{cs:List Value}(hv:Vw w v cs):Vw w' v cs:=by
 induction hv with
 | mk s bytes list fields bs ls fs css fss hb hl hlc hlv hf hfc hfv ih1 ih2=>exact .mk s bytes list fields bs ls fs css fss (hb.up h) (hl.up h) hlc ih1 (hf.up h) hfc ih2
theorem Vw.len {w:World}{v:V}{cs:List Value}(h:Vw w v cs):cs.length=13:=by
 cases h;rfl
def LR (R:List Row)(e k:Nat)(v:Value)(n:Nat)(xs:List Value):Prop:=(n=0∧v=.slice none 0 0)∨(⟨e,k,v,n,xs⟩:Row)∈R
theorem LR.mono {R R':List Row}(h:∀ r∈R,r∈R'){e k n:Nat}{v:Value}{xs:List Value}(hl:LR R e k v n xs):LR R' e k v n xs:=hl.imp id (h _)
theorem LR.slr {w0 w:World}{L:List (Nat×Obj)}{R:List Row}(cx:Cxr w0 w L R){e k n:Nat}{v:Value}{xs:List Value}(hl:LR R e k v n xs)(hk:0<k):SlR w v n xs:=by
 rcases hl with ⟨h1,h2⟩ | h
 · exact ⟨0,.inl ⟨h1,h2⟩,fun h=>by omega⟩
 · have h1:=cx.oneR h
   obtain ⟨b,hs,hr⟩:=h1.rowA
   refine ⟨b,hs,fun h0=>hr ?_⟩
   have h2:=(h1.rows _ (List.mem_cons_self ..)).1
   simp only at h2
   rw [h2]
   exact Nat.mul_pos h0 hk
theorem LR.one {w0 w:World}{L:List (Nat×Obj)}{R:List Row}(cx:Cxr w0 w L R){e k n:Nat}{v:Value}{xs:List Value}(hl:LR R e k v n xs):v.oneCell'=true:=by
 rcases hl with ⟨_,rfl⟩ | h
 · rfl
 · exact (cx.oneR h).oneS
inductive RR (t u:Nat) (R:List Row):V→List Value→Prop where
 | mk (s:Sc) (bytes:List UInt8) (list:List V) (fields:List (ByteArray×V)) (bs ls fs:Value) (css fss:List (List Value))
  (hb:LR R 5 1 bs bytes.length (bytes.map bv))
  (hl:LR R t 13 ls list.length css.flatten) (hlc:css.length=list.length) (hlv:∀ (i:Nat) (v:V) (cs:List Value),list[i]?=some v→css[i]?=some cs→RR t u R v cs)
  (hf:LR R u 14 fs fields.length (fcells (fields.map (·.1)) fss)) (hfc:fss.length=fields.length) (hfv:∀ (i:Nat) (kv:ByteArray×V) (cs:List Value),fields[i]?=some kv→fss[i]?=some cs→RR t u R kv.2 cs) :
  RR t u R (.mk s bytes list fields) (vrow s bs ls fs)
theorem RR.mono {t u:Nat}{R R':List Row}(h:∀ r∈R,r∈R'){v:V}{cs:List Value}(hv:RR t u R v cs):RR t u R' v cs:=by
 induction hv with
 | mk s bytes list fields bs ls fs css fss hb hl hlc hlv hf hfc hfv ih1 ih2=>exact .mk s bytes list fields bs ls fs css fss (hb.mono h) (hl.mono h) hlc ih1 (hf.mono h) hfc ih2
theorem RR.vw {w0 w:World}{L:List (Nat×Obj)}{t u:Nat}{R:List Row}(cx:Cxr w0 w L R){v:V}{cs:List Value}(hv:RR t u R v cs):Vw w v cs:=by
 induction hv with
 | mk s bytes list fields bs ls fs css fss hb hl hlc hlv hf hfc hfv ih1 ih2=>exact .mk s bytes list fields bs ls fs css fss (hb.slr cx (by omega)) (hl.slr cx (by omega)) hlc ih1 (hf.slr cx (by omega)) hfc ih2
theorem RR.len {t u:Nat}{R:List Row}{v:V}{cs:List Value}(h:RR t u R v cs):cs.length=13:=by
 cases h;rfl
theorem RR.form {w0 w:World}{L:List (Nat×Obj)}{t u:Nat}{R:List Row}(cx:Cxr w0 w L R){v:V}{cs:List Value}(h:RR t u R v cs):∃ bs ls fs,cs=vrow v.sc bs ls fs∧bs.oneCell'=true∧ls.oneCell'=true∧fs.oneCell'=true:=by
 cases h with
 | mk s bytes list fields bs ls fs css fss hb hl hlc hlv hf hfc hfv=>exact ⟨bs,ls,fs,rfl,hb.one cx,hl.one cx,hf.one cx⟩
theorem RR.leafS (t u:Nat)(R:List Row)(s:Sc):RR t u R (.mk s [] [] []) (vrow s (.slice none 0 0) (.slice none 0 0) (.slice none 0 0)) :=
 .mk s [] [] [] _ _ _ [] [] (.inl ⟨rfl,rfl⟩) (.inl ⟨rfl,rfl⟩) rfl (fun i v cs h=>by simp at h) (.inl ⟨rfl,rfl⟩) rfl (fun i kv cs h=>by simp at h)
theorem flat13_len (css:List (List Value))(h:∀ cs∈css,cs.length=13):css.flatten.length=13*css.length:=by
 induction css with
 | nil=>rfl
 | cons c css ih =>
  rw [List.flatten_cons,List.length_append,h c (by simp),ih fun cs hc=>h cs (by simp [hc]),List.length_cons]
  omega
theorem fcells_snoc:∀ (ks:List ByteArray) (css:List (List Value)) (k:ByteArray) (cs:List Value),ks.length=css.length→fcells (ks++[k]) (css++[cs])=fcells ks css++(.string k::cs)
 | [],[],k,cs,_=>by simp [fcells]
 | q::ks,c::css,k,cs,h=>by
  simp only [List.cons_append,fcells,fcells_snoc ks css k cs p19q,List.append_assoc]
 | [],_::_,_,_,h=>by simp at h
 | _::_,[],_,_,h=>by simp at h
theorem vrow_one {s:Sc}{bs ls fs:Value}(h1:bs.oneCell'=true)(h2:ls.oneCell'=true)(h3:fs.oneCell'=true):(vrow s bs ls fs).all (·.oneCell')=true:=by
 rw [List.all_eq_true]
 intro v hv
 simp only [vrow,List.mem_cons,List.not_mem_nil,or_false] at hv
 exact Bz145
theorem flat_at:∀ (css:List (List Value)) (i j:Nat) (cs:List Value) (x:Value),(∀ c∈css,c.length=13)→css[i]?=some cs→cs[j]?=some x→css.flatten[i*13+j]?=some x
 | [],i,j,cs,x,_,h,_=>by simp at h
 | c::css,0,j,cs,x,hl,h,hx=>by
  simp only [List.getElem?_cons_zero,Option.some.injEq] at h
  subst h
  have hj:=(List.getElem?_eq_some_iff.1 hx).1
  rw [List.flatten_cons,show 0*13+j=j by omega,List.getElem?_append_left hj]
  exact hx
 | c::css,i+1,j,cs,x,hl,h,hx=>by
  rw [List.flatten_cons,List.getElem?_append_right (by rw [hl c (by simp)];omega),hl c (by simp),show (i+1)*13+j-13=i*13+j by omega]
  exact flat_at css i j cs x (fun c hc=>hl c (by simp [hc])) p19q hx
theorem fcells_at:∀ (ks:List ByteArray) (css:List (List Value)) (i:Nat) (k:ByteArray) (cs:List Value),(∀ c∈css,c.length=13)→ks[i]?=some k→css[i]?=some cs→∀ j x,(Value.string k::cs)[j]?=some x→(fcells ks css)[i*14+j]?=some x
 | [],_,i,k,cs,_,h,_,_,_,_=>by simp at h
 | _::_,[],i,k,cs,_,_,h,_,_,_=>by simp at h
 | q::ks,c::css,0,k,cs,hl,h,h2,j,x,hx=>by
  simp only [List.getElem?_cons_zero,Option.some.injEq] at h h2
  subst h h2
  have hj:=(List.getElem?_eq_some_iff.1 hx).1
  simp only [fcells]
  rw [show 0*14+j=j by omega,List.getElem?_append_left hj]
  exact hx
 | q::ks,c::css,i+1,k,cs,hl,h,h2,j,x,hx=>by
  simp only [fcells]
  rw [List.getElem?_append_right (by rw [List.length_cons,hl c (by simp)];omega),List.length_cons,hl c (by simp),show (i+1)*14+j-(13+1)=i*14+j by omega]
  exact fcells_at ks css i k cs (fun c hc=>hl c (by simp [hc])) p19q (by simpa using h2) j x hx
theorem Vw.lens {w:World}{list:List V}{css:List (List Value)}(hlc:css.length=list.length)(hlv:∀ (i:Nat) (v:V) (cs:List Value),list[i]?=some v→css[i]?=some cs→Vw w v cs):∀ c∈css,c.length=13:=by
 intro c hc
 exact Bz115
end Go.Dk
namespace Go.Dk
open Go Go.RowKit Go.Lib
theorem RowAt.one {w:World}{b i:Nat}{xs:List Value}{x:Value}(h:RowAt w b 0 xs)(hx:xs[i]?=some x):RowAt w b (0+i*1) [x]:=by
 intro j y hy
 cases j with
 | zero =>
  simp only [List.getElem?_cons_zero,Option.some.injEq] at hy
  subst hy
  have:=h i x hx
  rwa [show 0+i*1+0=0+i by omega]
 | succ j=>simp at hy
theorem rowB {w0 w:World}{L:List (Nat×Obj)}{R:List Row}{g n c i:Nat}{l:List UInt8}(cx:Cxr w0 w L (⟨5,1,.slice (some ⟨g,0,none⟩) n c,n,l.map bv⟩::R))(hi:i<l.length):RowAt w g (0+i*1) [bv (l.getD i 0)]:=by
 obtain ⟨g',c',he,_,_,hr⟩:=cx.rowS p26q
 cases he
 exact hr.one (by rw [List.getElem?_map,getD_some hi];rfl)
end Go.Dk
end
section
namespace Go.Proofs.YthiafbkolhnadaaGreatDoor
open Go Go.Dk Go.RowKit Go.Lib
attribute [local irreducible] Go.wpList Go.Code.wp Go.bodyPost Go.wpStill Go.wpQuiet
def alp:List UInt8:=[65,66,67,68,69,70,71,72,73,74,75,76,77,78,79,80,81,82,83,84,85,86,87,88,89,90,97,98,99,100,101,102,103,104,105,106,107,108,109,110,111,112,113,114,115,116,117,118,119,120,121,122,48,49,50,51,52,53,54,55,56,57,43,47]
theorem mk5:∃ i z,Tryz.prog.info? 5=some i∧i.zero=some z∧i.size=1∧i.bytes=1∧z.cells=[Value.int .u8 0].toArray:=by
 have h:(Tryz.prog.info? 5).map (fun i=>(i.zero,i.size,i.bytes))=some (some (.int .u8 0),1,1):=by kernel_rfl
 obtain ⟨i,hi,hx⟩:=Option.map_eq_some_iff.1 h
 simp only [Prod.mk.injEq] at hx
 exact ⟨i,_,hi,hx.1,hx.2.1,hx.2.2,rfl⟩
theorem c279 (a:List UInt8)(c:Int)(w0:World)(ha:a.length≤1000):Fc Tryz.prog 279 [.string (bs a),.int .u8 c] w0 (fun v _=>∃ n:Int,v=.int .i64 n∧-1≤n∧n<a.length):=by
 refine ret_enter Tryz.func279 rfl Tryz.ntmps279 rfl ?_
 have cx:=Ctx.start w0
 refine K8 ?_
 refine w_loop (fun g f w1=>∃ i:Nat,g+i=a.length∧f 0=.string (bs a)∧f 1=.int .u8 c∧f 5=.int .i64 i∧Ctx w0 w1 []) (a.length) ?_ ?_
 ·
  exact Ezf
 intro gk2 f w hJ
 obtain ⟨i,hg,hs0,hs1,hs5,cx⟩:=hJ
 refine K4o ?_
 refine cSp rfl (fun hc9=>?_) (fun hc9=>?_)
 ·
  refine K19 ?_
  refine K3a ?_
  refine K2q ?_
  refine cSp rfl (fun hc16=>?_) (fun hc16=>?_)
  ·
   refine K60 ?_
   refine ret_tmp Tryz.results279 rfl ?_
   exact ⟨cx.ext,i,rfl,by omega,by omega⟩
  refine K37 ?_
  exact Bz91
 refine K4 ?_
 refine ret_tmp Tryz.results279 rfl ?_
 exact ⟨cx.ext,-1,rfl,by omega,by omega⟩
theorem c238 (v:Value)(l:List UInt8)(i:Nat)(w0:World)(hb:SlR w0 v l.length (l.map bv))(hl:l.length≤1000000)(hi:i≤100000000):Fc Tryz.prog 238 [v,.int .i64 i] w0 (fun u _=>∃ b:Nat,u=.int .i64 b∧b<2):=by
 obtain ⟨a,c,b,rfl,ha⟩:=hb.form
 refine ret_enter Tryz.func238 rfl Tryz.ntmps238 rfl ?_
 have cx:=Ctx.start w0
 refine K6 ?_
 refine Kav ?_
 refine SS ?_
 refine K4c ?_
 refine K0 ?_
 refine cSp rfl (fun hc9=>?_) (fun hc9=>?_)
 ·
  refine K3 ?_
  refine ret_tmp Tryz.results238 rfl ?_
  exact ⟨cx.ext,0,rfl,by omega⟩
 have h8:i / 8<l.length:=by omega
 obtain ⟨rfl,hrow⟩:=ha (by omega)
 have hx8:(l.map bv)[i / 8]?=some (bv (l.getD (i / 8) 0)):=by rw [List.getElem?_map,getD_some h8];rfl
 have hrow8:=hrow.one hx8
 have hbt:=(l.getD (i / 8) 0).toNat_lt
 have hsh:0≤shr .u8 (((l.getD (i / 8) 0).toNat:Nat):Int) (Int.toNat ((7-i%8:Nat):Int))∧shr .u8 (((l.getD (i / 8) 0).toNat:Nat):Int) (Int.toNat ((7-i%8:Nat):Int))<256:=shr8 hbt (by omega)
 refine K3 ?_
 refine Kav ?_
 refine K3f ?_
 refine s_val rfl rfl (v_load1 rfl rfl Tryz.underlying5 rfl ((hrow8.up cx.ext).cell 0 rfl)) ?_
 refine SS ?_
 refine s_val rfl rfl (v_rem (q:=8) rfl rfl rfl (by decide)) ?_
 refine Kd7 ?_
 refine Kd8 ?_
 refine Kaw ?_
 refine s_val rfl rfl (v_ofByte rfl rfl Tryz.underlying5 Tryz.underlying3 hsh.1 hsh.2) ?_
 refine K1w ?_
 refine K1 ?_
 refine ret_tmp Tryz.results238 rfl ?_
 obtain ⟨b2,h1,h2⟩:=and1_b hbt (k:=7-i%8) (by omega)
 exact ⟨cx.ext,b2,congrArg (Value.int .i64) h2,h1⟩
theorem c162 (v:Value)(l:List UInt8)(pad:Bool)(w0:World)(hb:SlR w0 v l.length (l.map bv))(hl:l.length≤1000000):Fc Tryz.prog 162 [v,.bool pad] w0 (fun u _=>∃ t:List UInt8,u=.string (bs t)∧t.length≤2*l.length+10):=by
 obtain ⟨a,c,b0,rfl,ha⟩:=hb.form
 refine ret_enter Tryz.func162 rfl Tryz.ntmps162 rfl ?_
 have cx:=Ctx.start w0
 refine K13 ?_
 refine w_loop (fun g f w1=>∃ (i:Nat) (out:List UInt8) (v5:Value),g+i=8*l.length+6∧i=6*out.length∧f 0=.slice a l.length c∧f 1=.bool pad∧f 5=v5∧f 6=.int .i64 i∧Cxr w0 w1 [] [⟨5,1,v5,out.length,out.map bv⟩]) (8*l.length+6) ?_ ?_
 ·
  exact Ezg
 intro gk3 f w hJ
 obtain ⟨i,out,v5,hg,hio,hs0,hs1,hs5,hs6,cx⟩:=hJ
 refine K11 ?_
 refine Kb ?_
 refine K4c ?_
 refine K1 ?_
 refine cSp rfl (fun hc13=>?_) (fun hc13=>?_)
 ·
  refine K8 ?_
  refine Kc ?_
  refine K1 ?_
  refine w_loop (fun g f w1=>∃ (k n:Nat),g+k=i+6∧i≤k∧n<2^(k-i)∧f 0=.slice a l.length c∧f 1=.bool pad∧f 5=v5∧f 6=.int .i64 i∧f 7=.int .i64 n∧f 8=.int .i64 k∧Cxr w0 w1 [] [⟨5,1,v5,out.length,out.map bv⟩]) (6) ?_ ?_
  ·
   exact ⟨i,0,by omega,by omega,by simp,hs0,hs1,hs5,hs6,rfl,rfl,cx⟩
  intro gk7 f w hJ
  obtain ⟨k,n,hgk,hik,hn,hs0,hs1,hs5,hs6,hs7,hs8,cx⟩:=hJ
  refine K18 ?_
  refine Kc ?_
  refine K1 ?_
  refine cSp rfl (fun hc20=>?_) (fun hc20=>?_)
  ·
   have hn32:n<32:=by
    have h1:2^(k-i)≤2^5:=Nat.pow_le_pow_right (by decide) (by omega)
    omega
   refine K2 ?_
   refine Kk ?_
   refine K75 ?_
   refine Kb ?_
   refine Kv ?_
   refine s_fn cx (c238 _ l k _ (hb.up cx.ext) (by omega) (by omega)) Tryz.func238 rfl rfl rfl rfl rfl rfl ?_;intro q27 w cx hw27 hp27
   obtain ⟨b,rfl,hb2⟩:=hp27
   refine s_val rfl rfl ((v_bor rfl rfl rfl).trans (by rw [show bitOp .or .i64 (shl .i64 (n:Int) (Int.toNat 1)) (b:Int)=((2*n+b:Nat):Int) from or_bit hn32 hb2])) ?_
   refine K18 ?_
   refine K1 ?_
   refine ⟨gk7-1,_,by omega,rfl,k+1,2*n+b,by omega,by omega,?_,hs0,hs1,hs5,hs6,rfl,rfl,cx⟩
   rw [show k+1-i=(k-i)+1 by omega,Nat.pow_succ]
   omega
  have hn64:n<64:=by
   have h1:2^(k-i)≤2^6:=Nat.pow_le_pow_right (by decide) (by omega)
   omega
  refine K37 ?_
  refine Kk ?_
  refine s_val rfl rfl (v_idxB (s:=alp) rfl rfl rfl Tryz.underlying9 (by omega) (by rw [show alp.length=64 from rfl];omega)) ?_
  refine He ?_;intro b32 w cx hb32 hw32
  refine Hf ?_;intro v33 w cx hgr33
  replace cx:=cx.drop 1
  refine K6f ?_
  exact ⟨gk3-6,_,by omega,rfl,i+6,out++[alp.getD (Int.toNat (n:Int)) 0],_,by omega,by simp only [List.length_append,List.length_cons,List.length_nil];omega,hs0,hs1,rfl,rfl,cx.row_eq (by simp) paq⟩
 refine K1 ?_
 refine w_loop (fun g f w1=>∃ (out:List UInt8) (v5:Value),g=(4-out.length%4)%4∧out.length+g≤2*l.length+10∧f 0=.slice a l.length c∧f 1=.bool pad∧f 5=v5∧Cxr w0 w1 [] [⟨5,1,v5,out.length,out.map bv⟩]) ((4-out.length%4)%4) ?_ ?_
 ·
  exact ⟨out,v5,rfl,by omega,hs0,hs1,hs5,cx⟩
 intro gk11 f w hJ
 obtain ⟨out,v5,hg,hob,hs0,hs1,hs5,cx⟩:=hJ
 obtain ⟨a5,c5,rfl⟩:=cx.rowSl
 refine K1 ?_
 refine K3b ?_
 refine K8o ?_
 refine Kax ?_
 refine Kd9 ?_
 refine K1 ?_
 refine cSp rfl (fun hc40=>?_) (fun hc40=>?_)
 ·
  refine Kf ?_
  refine He ?_;intro b42 w cx hb42 hw42
  refine Hf ?_;intro v43 w cx hgr43
  replace cx:=cx.drop 1
  refine K0 ?_
  exact ⟨(4-(out++[61]).length%4)%4,_,by simp only [List.length_append,List.length_cons,List.length_nil];omega,rfl,out++[61],_,rfl,by simp only [List.length_append,List.length_cons,List.length_nil];omega,hs0,hs1,rfl,cx.row_eq (by simp) paq⟩
 refine Kf ?_
 refine K6g ?_
 refine ret_tmp Tryz.results162 rfl ?_
 exact ⟨cx.ext,out,rfl,by omega⟩
theorem c280 (s:List UInt8)(w0:World)(hs:s.length≤1000000):Fc Tryz.prog 280 [.string (bs s)] w0 (fun v w'=>∃ l:List UInt8,w'.ownsRow w0.heap.size 5 1 v l.length (l.map bv)∧l.length≤s.length):=by
 refine ret_enter Tryz.func280 rfl Tryz.ntmps280 rfl ?_
 have cx:=Ctx.start w0
 refine K7 ?_
 refine s_val rfl rfl (v_quo (p:=s.length*6) (q:=8) rfl (show _=Value.int .i64 ((s.length*6:Nat):Int) by exact congrArg (Value.int .i64) (by omega)) rfl (by omega) (by decide)) ?_
 refine s_make (nn:=s.length*6 / 8) cx Tryz.underlying79 mk5 rfl rfl rfl rfl rfl (by omega) p2bq ?_;intro v10 w cx hgr10 hv10
 obtain ⟨g0,rfl⟩:=hv10
 refine K6 ?_
 refine w_loop (fun g f w1=>∃ (i:Nat) (l:List UInt8),g+i=8*(s.length*6 / 8)∧l.length=s.length*6 / 8∧f 0=.string (bs s)∧f 3=.slice (some ⟨g0,0,none⟩) (s.length*6 / 8) (s.length*6 / 8)∧f 4=.int .i64 i∧Cxr w0 w1 [] [⟨5,1,.slice (some ⟨g0,0,none⟩) (s.length*6 / 8) (s.length*6 / 8),s.length*6 / 8,l.map bv⟩]) (8*(s.length*6 / 8)) ?_ ?_
 ·
  exact ⟨0,List.replicate (s.length*6 / 8) 0,by omega,by simp,rfl,rfl,rfl,cx.row_eq rfl (by rw [List.map_replicate];rfl)⟩
 intro gk3 f w hJ
 obtain ⟨i,l,hg,hln,hs0,hs3,hs4,cx⟩:=hJ
 refine Kl ?_
 refine Kr ?_
 refine K4c ?_
 refine K1 ?_
 refine cSp rfl (fun hc15=>?_) (fun hc15=>?_)
 ·
  refine K19 ?_
  refine Ke ?_
  refine s_val rfl rfl (v_quo (q:=6) rfl rfl rfl (by omega) (by decide)) ?_
  refine SS ?_
  refine s_fn cx (c279 alp _ _ (by decide)) Tryz.func279 rfl rfl rfl rfl rfl rfl ?_;intro q22 w cx hw22 hp22
  obtain ⟨n,rfl,hn0,hn1⟩:=hp22
  have hn2:n<64:=hn1
  refine K1 ?_
  obtain ⟨b,hb2,hb⟩:=and1_c (a:=n) (k:=5-i%6) hn0 hn2 (by omega)
  have hi8:i / 8<l.length:=by omega
  obtain ⟨x,hx⟩:=or8 (a:=(l.getD (i / 8) 0).toNat) (b:=b) (k:=7-i%8) (l.getD (i / 8) 0).toNat_lt hb2 (by omega)
  refine Kr ?_
  refine Ke ?_
  refine Kav ?_
  refine K3f ?_
  refine s_val rfl rfl (v_load1 rfl rfl Tryz.underlying5 rfl ((rowB cx hi8).cell 0 rfl)) ?_
  refine SS ?_
  refine Ke ?_
  refine s_val rfl rfl (v_rem (q:=6) rfl rfl rfl (by decide)) ?_
  refine s_val rfl rfl (v_subQ (r:=((5-i%6:Nat):Int)) rfl rfl rfl (by omega) (by omega) (by omega)) ?_
  refine s_val rfl rfl (v_cw64 (m:=5-i%6) rfl rfl Tryz.underlying3 Tryz.underlying237 (by omega)) ?_
  refine Kaw ?_
  refine s_val rfl rfl ((v_band rfl rfl rfl).trans (by rw [show bitOp .and .i64 (shr .i64 n (Int.toNat ((5-i%6:Nat):Int))) 1=(b:Int) from hb])) ?_
  refine s_val rfl rfl ((show (execOp _ _).run Tryz.prog _=.ok (.value (.int .u8 ((b:Nat):Int))) _ from (v_conv rfl rfl Tryz.underlying3 Tryz.underlying5).trans p1cq)) ?_
  refine Ke ?_
  refine s_val rfl rfl (v_rem (q:=8) rfl rfl rfl (by decide)) ?_
  refine Kd7 ?_
  refine Kd8 ?_
  refine s_val rfl rfl (v_shl rfl rfl rfl (by omega)) ?_
  refine s_val rfl rfl ((v_bor rfl rfl rfl).trans (by rw [show bitOp .or .u8 (((l.getD (i / 8) 0).toNat:Nat):Int) (shl .u8 (b:Int) (Int.toNat ((7-i%8:Nat):Int)))=((x.toNat:Nat):Int) from hx])) ?_
  refine K3f ?_
  refine s_cell (v:=bv x) cx rfl rfl rfl rfl rfl rfl p1dq sz5 ?_;intro w cx hgrS
  rw [show 0+Int.toNat ((i / 8:Nat):Int)*1=i / 8 by omega,← List.map_set] at cx
  refine K26 ?_
  exact ⟨gk3-1,_,by omega,rfl,i+1,l.set (i / 8) x,by omega,by rw [List.length_set,hln],hs0,hs3,rfl,cx⟩
 refine K1f ?_
 refine ret_tmp Tryz.results280 rfl ?_
 have h:=cx.rows _ (List.mem_cons_self ..)
 simp only at h
 refine ⟨cx.ext,l,?_,by omega⟩
 rw [hln]
 exact h
theorem c200 (s:List UInt8)(pad:Bool)(w0:World)(hs:s.length≤1000000):Fc Tryz.prog 200 [.string (bs s),.bool pad] w0 (fun v w'=>∃ (u:Value) (l:List UInt8) (e:Int),v=.tuple #[u,.int .i64 e]∧w'.ownsRow w0.heap.size 5 1 u l.length (l.map bv)∧l.length≤s.length):=by
 refine ret_enter Tryz.func200 rfl Tryz.ntmps200 rfl ?_
 have cx:=Ctx.start w0
 refine Ka ?_
 refine w_loop (fun g f w1=>∃ i:Nat,g+i=s.length∧f 0=.string (bs s)∧f 1=.bool pad∧f 6=.int .i64 i∧Ctx w0 w1 []) (s.length) ?_ ?_
 ·
  exact Ezf
 intro gk2 f w hJ
 obtain ⟨i,hg,hs0,hs1,hs6,cx⟩:=hJ
 refine K11 ?_
 refine K1j ?_
 refine K55 ?_
 refine K2h ?_
 refine s_gfn cx rfl rfl rfl wT (fun hc=>c279 alp _ _ (by decide)) Tryz.func279 rfl rfl rfl (fun hc=>(cons_eq rfl (cons_eq p4q rfl))) ?_;intro q17 w cx hw17 hp17
 obtain ⟨n17,hn17⟩:∃ n:Int,decide ((i:Int)<s.length)=true→q17=.int .i64 n:=by
  by_cases h:decide ((i:Int)<s.length)=true
  · obtain ⟨n,h1,_⟩:=hp17 h;exact ⟨n,fun _=>h1⟩
  · exact ⟨0,fun h2=>absurd h2 h⟩
 refine s_gval rfl rfl rfl wT (fun hc=>v_cmp rfl ((gve hc rfl).trans (hn17 hc)) rfl rfl) ?_
 refine K0 ?_
 refine cSp rfl (fun hc19=>?_) (fun hc19=>?_)
 ·
  refine K11 ?_
  exact Bz91
 refine K9 ?_
 refine Kc ?_
 refine K29 ?_
 have cxB:=cx
 refine s_fn cx (c280 (s.take (Int.toNat (i:Int))) _ (by rw [List.length_take];omega)) Tryz.func280 rfl rfl rfl rfl rfl rfl ?_;intro q25 w cx hw25 hp25
 obtain ⟨l,hrow,hll⟩:=hp25
 rw [List.length_take] at hll
 replace cx:=cxB.callRow hw25 hrow
 refine K3 ?_
 refine Ky ?_
 refine s_fn cx (c162 q25 l pad _ (LR.slr (k:=1) (e:=5) cx (.inr (List.mem_cons_self ..)) (by omega)) (by omega)) Tryz.func162 rfl rfl rfl rfl rfl rfl ?_;intro q28 w cx hw28 hp28
 obtain ⟨t,rfl,htl⟩:=hp28
 refine K4 ?_
 refine Kb ?_
 refine s_val rfl rfl (v_eqB rfl rfl rfl) ?_
 refine SS ?_
 refine cSp rfl (fun hc31=>?_) (fun hc31=>?_)
 ·
  refine K5 ?_
  refine ret_tmp2 Tryz.results200 rfl rfl ?_
  exact ⟨cx.ext,q25,l,0,rfl,cx.rows _ (List.mem_cons_self ..),by omega⟩
 refine K38 ?_
 refine K1n ?_
 refine Kx ?_
 refine K4 ?_
 refine Ks ?_
 refine SS ?_
 refine K8m ?_
 refine Ks ?_
 refine K8n ?_
 refine K1 ?_
 refine cSp rfl (fun hc51=>?_) (fun hc51=>?_)
 ·
  exact Bz66
 refine SS ?_
 exact Bz66
end Go.Proofs.YthiafbkolhnadaaGreatDoor
end
section
namespace Go.Dk
open Go Go.RowKit Go.Lib
def leapF (y:Nat):Bool:=(y%4==0&&y%100 != 0)||y%400==0
def monF (y m:Nat):Nat :=
 if y<1∨9999<y then 0 else if m=1∨m=3∨m=5∨m=7∨m=8∨m=10∨m=12 then 31 else if m=4∨m=6∨m=9∨m=11 then 30 else if m=2 then (if leapF y then 29 else 28) else 0
theorem monF_le (y m:Nat):monF y m≤31:=by
 unfold monF
 repeat' split
 all_goals omega
def moF (y:Nat):Nat→Nat
 | 0=>0
 | m+1=>moF y m+monF y (m+1)
def lenF (y:Nat):Nat:=moF y 12
theorem moF_le (y m:Nat):moF y m≤31*m:=by
 induction m with
 | zero=>simp [moF]
 | succ m ih =>
  have:=monF_le y (m+1)
  simp only [moF]
  omega
theorem lenF_le (y:Nat):lenF y≤372:=by
 have:=moF_le y 12
 unfold lenF
 omega
theorem wr8 (p:Int):0≤IntKind.u8.wrap p∧IntKind.u8.wrap p<256:=by
 simp [IntKind.wrap,IntKind.signed,IntKind.bits];omega
end Go.Dk
namespace Go.Dk
open Go Go.RowKit Go.Lib
theorem ret_tmp3 {P:Program}{fn:Func}{R:Value→World→Prop}{n:Nat}{f:Nat→Value}{w:World}{t u t3:Nat}{v x y:Value}
  (hr:fn.results=#[.tmp t,.tmp u,.tmp t3]) (hv:ev n f (.tmp t)=v) (hx:ev n f (.tmp u)=x) (hy:ev n f (.tmp t3)=y) (h:R (.tuple #[v,x,y]) w):bodyPost P fn (fun e w'=>∃ v,e=.returned v∧R v w') .ret (St n f) w:=by
 refine ⟨rfl,_,?_,_,rfl,h⟩
 rw [show ∀ (tmps:Array Value) (w:World),(results fn tmps).run P w=.ok (.tuple #[tmps.getD t undef,tmps.getD u undef,tmps.getD t3 undef]) w from fun tmps w=>by simp [results,hr]]
 rw [← hv,← hx,← hy,← eval_St];rfl
end Go.Dk
end
section
namespace Go.Proofs.YthiafbkolhnadaaGreatDoor
open Go Go.Dk Go.RowKit Go.Lib
attribute [local irreducible] Go.wpList Go.Code.wp Go.bodyPost Go.wpStill Go.wpQuiet
theorem c371 (y:Nat)(w0:World)(h0:1≤y)(h1:y≤9999):Fc Tryz.prog 371 [.int .i64 y] w0 (IsB fun b=>b=leapF y):=by
 refine ret_enter Tryz.func371 rfl Tryz.ntmps371 rfl ?_
 have cx:=Ctx.start w0
 refine K13 ?_
 refine Kd9 ?_
 refine K1 ?_
 refine s_gval rfl rfl rfl wT (fun hc=>v_rem (q:=100) rfl p4q rfl (by decide)) ?_
 refine K2 ?_
 refine s_gval rfl rfl rfl wF (fun hc=>v_rem (q:=400) rfl p4q rfl (by decide)) ?_
 refine K4 ?_
 refine ret_tmp Tryz.results371 rfl ?_
 refine Kq ?_
 show _=leapF y
 unfold leapF
 rw [Bool.eq_iff_iff]
 simp only [Bool.and_eq_true,Bool.or_eq_true,decide_eq_true_eq,beq_iff_eq,bne_iff_ne,ne_eq]
 omega
theorem c312 (y m:Nat)(w0:World)(hy:y≤1000000)(hm:m≤1000000):Fc Tryz.prog 312 [.int .i64 y,.int .i64 m] w0 (fun v _=>v=.int .i64 (monF y m:Nat)):=by
 refine ret_enter Tryz.func312 rfl Tryz.ntmps312 rfl ?_
 have cx:=Ctx.start w0
 refine K13 ?_
 refine cSp rfl (fun hc10=>?_) (fun hc10=>?_)
 ·
  exact Bz4
 refine K5 ?_
 refine w_cut (fun f w1=>∃ b:Bool,f 0=.int .i64 y∧f 1=.int .i64 m∧f 11=.int .i64 m∧f 12=.bool b∧(b=true↔m=1∨m=3∨m=5∨m=7∨m=8∨m=10∨m=12)∧Ctx w0 w1 []) ?_ ?_
 ·
  refine K3 ?_
  refine c_split rfl (fun hc12=>?_) (fun hc12=>?_)
  ·
   exact Bz25
  try simp only [bsl] at hc12
  first | have h31:¬ _:=fun h=>by have h2:=hb12.2 h;rw [hc12] at h2;cases h2 | skip
  refine K3 ?_
  refine c_split rfl (fun hc12=>?_) (fun hc12=>?_)
  ·
   exact Bz25
  try simp only [bsl] at hc12
  first | have h31:¬ _:=fun h=>by have h2:=hb12.2 h;rw [hc12] at h2;cases h2 | skip
  refine K3 ?_
  refine c_split rfl (fun hc12=>?_) (fun hc12=>?_)
  ·
   exact Bz25
  try simp only [bsl] at hc12
  first | have h31:¬ _:=fun h=>by have h2:=hb12.2 h;rw [hc12] at h2;cases h2 | skip
  refine K3 ?_
  refine c_split rfl (fun hc12=>?_) (fun hc12=>?_)
  ·
   exact Bz25
  try simp only [bsl] at hc12
  first | have h31:¬ _:=fun h=>by have h2:=hb12.2 h;rw [hc12] at h2;cases h2 | skip
  refine K3 ?_
  refine c_split rfl (fun hc12=>?_) (fun hc12=>?_)
  ·
   exact Bz25
  try simp only [bsl] at hc12
  first | have h31:¬ _:=fun h=>by have h2:=hb12.2 h;rw [hc12] at h2;cases h2 | skip
  refine K3 ?_
  refine c_split rfl (fun hc12=>?_) (fun hc12=>?_)
  ·
   exact Bz25
  try simp only [bsl] at hc12
  first | have h31:¬ _:=fun h=>by have h2:=hb12.2 h;rw [hc12] at h2;cases h2 | skip
  refine K2 ?_
  exact ⟨_,rfl,_,rfl,rfl,rfl,rfl,by (try simp only [beq_iff_eq]);omega,cx⟩
 intro f w hJ
 obtain ⟨b,hs0,hs1,hs11,hs12,hb12,cx⟩:=hJ
 refine c_split hs12 (fun hc12=>?_) (fun hc12=>?_)
 ·
  try simp only [bsl] at hc12
  first | have h31:=hb12.1 hc12 | skip
  exact Bz4
 try simp only [bsl] at hc12
 first | have h31:¬ _:=fun h=>by have h2:=hb12.2 h;rw [hc12] at h2;cases h2 | skip
 refine w_cut (fun f w1=>∃ b:Bool,f 0=.int .i64 y∧f 1=.int .i64 m∧f 11=.int .i64 m∧f 20=.bool b∧(b=true↔m=4∨m=6∨m=9∨m=11)∧Ctx w0 w1 []) ?_ ?_
 ·
  refine K0 ?_
  refine K7d ?_
  refine K0 ?_
  refine c_split rfl (fun hc20=>?_) (fun hc20=>?_)
  ·
   exact Bz53
  try simp only [bsl] at hc20
  first | have h30:¬ _:=fun h=>by have h2:=hb20.2 h;rw [hc20] at h2;cases h2 | skip
  refine K0 ?_
  refine K7d ?_
  refine K0 ?_
  refine c_split rfl (fun hc20=>?_) (fun hc20=>?_)
  ·
   exact Bz53
  try simp only [bsl] at hc20
  first | have h30:¬ _:=fun h=>by have h2:=hb20.2 h;rw [hc20] at h2;cases h2 | skip
  refine K0 ?_
  refine K7d ?_
  refine K0 ?_
  refine c_split rfl (fun hc20=>?_) (fun hc20=>?_)
  ·
   exact Bz53
  try simp only [bsl] at hc20
  first | have h30:¬ _:=fun h=>by have h2:=hb20.2 h;rw [hc20] at h2;cases h2 | skip
  refine SS ?_
  refine K7d ?_
  refine K0 ?_
  exact ⟨_,rfl,_,hs0,hs1,hs11,rfl,by (try simp only [beq_iff_eq]);omega,cx⟩
 intro f w hJ
 obtain ⟨b20,hs0,hs1,hs11,hs20,hb20,cx⟩:=hJ
 refine c_split hs20 (fun hc20=>?_) (fun hc20=>?_)
 ·
  try simp only [bsl] at hc20
  first | have h30:=hb20.1 hc20 | skip
  exact Bz4
 try simp only [bsl] at hc20
 first | have h30:¬ _:=fun h=>by have h2:=hb20.2 h;rw [hc20] at h2;cases h2 | skip
 refine K0 ?_
 refine K7d ?_
 refine K0 ?_
 refine cSp rfl (fun hc25=>?_) (fun hc25=>?_)
 ·
  refine K9 ?_
  refine s_fnB cx (c371 y _ (by omega) (by omega)) Tryz.func371 rfl rfl rfl rfl rfl rfl ?_;intro q28 w cx hw28 hp28
  refine SS ?_
  refine cSp rfl (fun hc28=>?_) (fun hc28=>?_)
  ·
   exact Bz4
  refine SS ?_
  exact Bz4
 refine SS ?_
 exact Bz4
theorem c311 (y:Nat)(w0:World)(hy:y≤1000000):Fc Tryz.prog 311 [.int .i64 y] w0 (fun v _=>v=.int .i64 (lenF y:Nat)):=by
 refine ret_enter Tryz.func311 rfl Tryz.ntmps311 rfl ?_
 have cx:=Ctx.start w0
 refine K13 ?_
 refine w_loop (fun g f w1=>∃ m n:Nat,g+m=13∧1≤m∧n=moF y (m-1)∧f 0=.int .i64 y∧f 3=.int .i64 n∧f 4=.int .i64 m∧Ctx w0 w1 []) (12) ?_ ?_
 ·
  exact ⟨1,0,by omega,by omega,rfl,rfl,rfl,rfl,cx⟩
 intro gk3 f w hJ
 obtain ⟨m,n,hg,hm1,hn,hs0,hs3,hs4,cx⟩:=hJ
 have hmo:=moF_le y (m-1)
 refine K4k ?_
 refine cSp rfl (fun hc6=>?_) (fun hc6=>?_)
 ·
  refine K20 ?_
  refine Kb ?_
  refine Ke ?_
  refine Ht ?_;intro q12 w cx hw12 hp12
  subst hp12
  have hml:=monF_le y m
  refine K2 ?_
  refine K27 ?_
  refine ⟨gk3-1,_,by omega,rfl,m+1,n+monF y m,by omega,by omega,?_,hs0,rfl,rfl,cx⟩
  obtain ⟨k,rfl⟩:∃ k,m=k+1:=⟨m-1,by omega⟩
  rw [hn]
  rfl
 refine K1f ?_
 refine ret_tmp Tryz.results311 rfl ?_
 refine ⟨cx.ext,congrArg (Value.int .i64) ?_⟩
 have hm13:m=13:=by omega
 rw [hm13] at hn
 exact congrArg Nat.cast hn
theorem c351 (yr:Nat)(w0:World)(hy:yr≤1000000):Fc Tryz.prog 351 [.int .i64 yr] w0 (fun v _=>∃ n:Nat,v=.int .i64 n∧n≤372*yr+372):=by
 refine ret_enter Tryz.func351 rfl Tryz.ntmps351 rfl ?_
 have cx:=Ctx.start w0
 refine K13 ?_
 refine w_loop (fun g f w1=>∃ y n:Nat,g+y=yr+1∧n≤372*y∧f 0=.int .i64 yr∧f 3=.int .i64 n∧f 4=.int .i64 y∧Ctx w0 w1 []) (yr) ?_ ?_
 ·
  exact ⟨1,0,by omega,by omega,rfl,rfl,rfl,cx⟩
 intro gk3 f w hJ
 obtain ⟨y,n,hg,hn,hs0,hs3,hs4,cx⟩:=hJ
 refine Kl ?_
 refine K69 ?_
 refine cSp rfl (fun hc7=>?_) (fun hc7=>?_)
 ·
  refine K20 ?_
  refine Ke ?_
  refine Hu ?_;intro q12 w cx hw12 hp12
  subst hp12
  have hll:=lenF_le y
  refine K2 ?_
  refine K27 ?_
  exact ⟨gk3-1,_,by omega,rfl,y+1,n+lenF y,by omega,by omega,hs0,rfl,rfl,cx⟩
 refine K1f ?_
 refine ret_tmp Tryz.results351 rfl ?_
 exact ⟨cx.ext,n,rfl,by omega⟩
theorem c276 (y mo d:Nat)(w0:World)(hy:y≤1000000)(hm:mo≤1000000)(hd:d≤1000000):Fc Tryz.prog 276 [.int .i64 y,.int .i64 mo,.int .i64 d] w0 (fun v _=>∃ n e:Int,v=.tuple #[.int .i64 n,.int .i64 e]):=by
 refine ret_enter Tryz.func276 rfl Tryz.ntmps276 rfl ?_
 have cx:=Ctx.start w0
 refine K13 ?_
 refine s_gfn cx rfl rfl rfl wF (fun hc=>c312 y mo _ (by omega) (by omega)) Tryz.func312 rfl rfl rfl (fun hc=>(cons_eq p4q (cons_eq p4q rfl))) ?_;intro q16 w cx hw16 hp16
 refine s_gval rfl rfl rfl wF (fun hc=>v_cmp rfl (gve hc rfl) ((gve hc rfl).trans (hp16 hc)) rfl) ?_
 refine K0 ?_
 refine cSp rfl (fun hc18=>?_) (fun hc18=>?_)
 ·
  refine K0 ?_
  exact Bz95
 refine K2 ?_
 refine s_fn cx (c351 y _ (by omega)) Tryz.func351 rfl rfl rfl rfl rfl rfl ?_;intro q20 w cx hw20 hp20
 obtain ⟨nb,rfl,hnb⟩:=hp20
 refine K6 ?_
 refine w_loop (fun g f w1=>∃ m n:Nat,g+m=mo+1∧n≤372*y+372+31*m∧f 0=.int .i64 y∧f 1=.int .i64 mo∧f 2=.int .i64 d∧f 8=.int .i64 n∧f 9=.int .i64 m∧Ctx w0 w1 []) (mo) ?_ ?_
 ·
  exact ⟨1,nb,by omega,by omega,rfl,rfl,rfl,rfl,rfl,cx⟩
 intro gk5 f w hJ
 obtain ⟨m,n,hg,hn,hs0,hs1,hs2,hs8,hs9,cx⟩:=hJ
 refine K5w ?_
 refine K2q ?_
 refine cSp rfl (fun hc23=>?_) (fun hc23=>?_)
 ·
  refine K67 ?_
  refine Kb ?_
  refine K1v ?_
  refine Ht ?_;intro q29 w cx hw29 hp29
  subst hp29
  have hml:=monF_le y m
  refine K2 ?_
  refine K2o ?_
  exact ⟨gk5-1,_,by omega,rfl,m+1,n+monF y m,by omega,by omega,hs0,hs1,hs2,rfl,rfl,cx⟩
 refine K18 ?_
 refine Kp ?_
 refine K0 ?_
 exact Bz95
theorem c274 (s p:List UInt8)(w0:World)(hs:s.length≤1000000)(hp:p.length≤1000):Fc Tryz.prog 274 [.string (bs s),.string (bs p)] w0 (IsB fun b=>b=true→p.length≤s.length):=by
 refine ret_enter Tryz.func274 rfl Tryz.ntmps274 rfl ?_
 have cx:=Ctx.start w0
 refine K6 ?_
 refine s_val rfl rfl (v_lenB (s:=s) rfl rfl Tryz.underlying9) ?_
 refine SS ?_
 refine s_val rfl rfl (v_lenB (s:=p) rfl rfl Tryz.underlying9) ?_
 refine K0 ?_
 refine cSp rfl (fun hc10=>?_) (fun hc10=>?_)
 ·
  exact Bz89
 refine K5 ?_
 refine w_loop (fun g f w1=>∃ i:Nat,g+i=p.length∧f 0=.string (bs s)∧f 1=.string (bs p)∧f 5=.int .i64 i∧Ctx w0 w1 []) (p.length) ?_ ?_
 ·
  exact Ezf
 intro gk4 f w hJ
 obtain ⟨i,hg,hs0,hs1,hs5,cx⟩:=hJ
 refine Kf ?_
 refine Ky ?_
 refine K1 ?_
 refine cSp rfl (fun hc14=>?_) (fun hc14=>?_)
 ·
  refine K6a ?_
  refine K8t ?_
  refine K8u ?_
  refine K2l ?_
  refine K25 ?_
  refine Kj ?_
  refine K56 ?_
  refine Kay ?_
  refine K8v ?_
  refine Kaz ?_
  refine K7e ?_
  refine q_gval rfl rfl rfl wF (fun hc w cx hwQ=>v_move rfl hs0) ?_
  refine q_gval rfl rfl rfl wF (fun hc w cx hwQ=>v_move rfl hs5) ?_
  refine Kda ?_
  refine Kb0 ?_
  refine q_gval rfl rfl rfl wT (fun hc w cx hwQ=>v_or_g hc rfl rfl rfl rfl) ?_
  refine K3h ?_
  refine Kj ?_
  refine q_gval rfl rfl rfl wF (fun hc w cx hwQ=>v_move rfl hs1) ?_
  refine q_gval rfl rfl rfl wF (fun hc w cx hwQ=>v_move rfl hs5) ?_
  refine Kda ?_
  refine Kb0 ?_
  refine K2z ?_
  refine K56 ?_
  refine Kay ?_
  refine K8v ?_
  refine q_gval rfl rfl rfl wT (fun hc w cx hwQ=>v_move rfl hs1) ?_
  refine Kay ?_
  refine K8v ?_
  refine K8w ?_
  refine Kdb ?_
  refine K30 ?_
  refine q_nil ?_;rintro w ⟨cx,hwQ6⟩
  refine cSp rfl (fun hc47=>?_) (fun hc47=>?_)
  ·
   exact Bz89
  refine K60 ?_
  exact ⟨gk4-1,_,by omega,rfl,i+1,by omega,hs0,hs1,rfl,cx⟩
 refine K4 ?_
 refine ret_tmp Tryz.results274 rfl ?_
 exact ⟨cx.ext,_,rfl,fun _=>by omega⟩
theorem c277 (s:List UInt8)(w0:World)(hs:s.length≤9):Fc Tryz.prog 277 [.string (bs s)] w0 (fun v _=>∃ n:Nat,v=.int .i64 n∧n+29≤29*10^s.length):=by
 refine ret_enter Tryz.func277 rfl Tryz.ntmps277 rfl ?_
 have cx:=Ctx.start w0
 refine K13 ?_
 refine w_loop (fun g f w1=>∃ i n:Nat,g+i=s.length∧n+29≤29*10^i∧f 0=.string (bs s)∧f 4=.int .i64 i∧f 3=.int .i64 n∧Ctx w0 w1 []) (s.length) ?_ ?_
 ·
  exact ⟨0,0,by omega,by simp,rfl,rfl,rfl,cx⟩
 intro gk3 f w hJ
 obtain ⟨i,n,hg,hn,hs0,hs4,hs3,cx⟩:=hJ
 have hpw:10^i≤10^9:=Nat.pow_le_pow_right (by decide) (by omega)
 have hp9:10^9=1000000000:=by decide
 have hwr:=wr8 (((s.getD (Int.toNat (i:Int)) 0).toNat:Nat)-48)
 refine K4n ?_
 refine cSp rfl (fun hc8=>?_) (fun hc8=>?_)
 ·
  refine K20 ?_
  refine K1g ?_
  refine K22 ?_
  refine K50 ?_
  refine K8x ?_
  refine K2 ?_
  refine K27 ?_
  refine ⟨gk3-1,_,by omega,rfl,i+1,n*10+(IntKind.u8.wrap (((s.getD (Int.toNat (i:Int)) 0).toNat:Nat)-48)).toNat,by omega,?_,hs0,rfl,congrArg (Value.int .i64) (by omega),cx⟩
  rw [Nat.pow_succ]
  omega
 refine K1f ?_
 refine ret_tmp Tryz.results277 rfl ?_
 refine ⟨cx.ext,n,rfl,?_⟩
 rw [show s.length=i by omega]
 exact hn
theorem c277b (s:List UInt8)(k B:Nat)(w0:World)(h:s.length≤k)(hk:k≤9)(hB:29*10^k≤B):Fc Tryz.prog 277 [.string (bs s)] w0 (fun v _=>∃ n:Nat,v=.int .i64 n∧n≤B) :=
 (c277 s w0 (by omega)).mono fun v w' _ ⟨n,h1,h2⟩=>⟨n,h1,by
   have h3:10^s.length≤10^k:=Nat.pow_le_pow_right (by decide) h
   omega⟩
theorem bd78a (n:Int)(w:World):(Instr.build 78 ([(0,.int .i64 2),(2,.int .i64 n)]:List (Nat×Value)).toArray).run Tryz.prog w=.ok (.agg #[.int .i64 2,.int .i64 0,.int .i64 n,.int .i64 0]) w:=by
 go_simp
 try rfl
theorem bd78b (n:Int)(w:World):(Instr.build 78 ([(0,.int .i64 1),(1,.int .i64 n)]:List (Nat×Value)).toArray).run Tryz.prog w=.ok (.agg #[.int .i64 1,.int .i64 n,.int .i64 0,.int .i64 0]) w:=by
 go_simp
 try rfl
theorem bd78c (d n:Int)(w:World):(Instr.build 78 ([(0,.int .i64 3),(1,.int .i64 d),(2,.int .i64 n)]:List (Nat×Value)).toArray).run Tryz.prog w=.ok (.agg #[.int .i64 3,.int .i64 d,.int .i64 n,.int .i64 0]) w:=by
 go_simp
 try rfl
theorem c275 (s:List UInt8)(w0:World)(hs:s.length≤1000000):Fc Tryz.prog 275 [.string (bs s)] w0 (fun v _=>∃ (n:Int) (r:List UInt8) (b1 b2:Bool),v=.tuple #[.int .i64 n,.string (bs r),.bool b1,.bool b2]∧r.length≤s.length):=by
 refine ret_enter Tryz.func275 rfl Tryz.ntmps275 rfl ?_
 have cx:=Ctx.start w0
 refine Ka ?_
 refine s_fnB cx (c274 s [100,100,58,100,100,58,100,100] _ (by omega) (by decide)) Tryz.func274 rfl rfl rfl rfl rfl rfl ?_;intro q12 w cx hw12 hp12
 refine K0 ?_
 refine cSp rfl (fun hc13=>?_) (fun hc13=>?_)
 ·
  exact Bz48
 have h8:=hp12 hc13
 simp only [List.length_cons,List.length_nil] at h8
 refine K0 ?_
 refine w_ord cx (Ctx.sub0 cx) mixed [(0,14),(1,15),(3,17),(4,18),(6,20),(7,21)] #[true,true,false,true,true,false,true,true,false,false,false,false] p1q p1q p1q p1q ?_
 refine Kz ?_
 refine K8y ?_
 refine K6h ?_
 refine K6h ?_
 refine Hv ?_;intro w cx hwD3
 refine K7f ?_
 refine Hw ?_;intro q16 w cx hw16 hp16
 obtain ⟨n16,rfl,hn16⟩:=hp16
 refine Kn ?_
 refine K31 ?_
 refine Hw ?_;intro q19 w cx hw19 hp19
 obtain ⟨n19,rfl,hn19⟩:=hp19
 refine Kn ?_
 refine K1h ?_
 refine Hw ?_;intro q22 w cx hw22 hp22
 obtain ⟨n22,rfl,hn22⟩:=hp22
 refine Kg ?_
 refine K1c ?_
 refine K17 ?_
 refine K1r ?_
 refine K17 ?_
 refine K2t ?_
 refine K2b ?_
 refine K8 ?_
 refine w_cut (fun f w1=>∃ (r:List UInt8) (h m sc fr:Nat),f 0=.string (bs r)∧f 6=.int .i64 h∧f 7=.int .i64 m∧f 8=.int .i64 sc∧f 9=.int .i64 fr∧r.length≤s.length∧h≤2900∧m≤2900∧sc≤2900∧fr≤29000000000∧Ctx w0 w1 []) ?_ ?_
 ·
  refine K5 ?_
  refine K5x ?_
  refine cSp rfl (fun hc32=>?_) (fun hc32=>?_)
  ·
   refine K4 ?_
   refine w_loop (fun g f w1=>∃ n:Nat,g+n=(s.drop 8).length∧1≤n∧f 0=.string (bs (s.drop (Int.toNat 8)))∧f 6=.int .i64 n16∧f 7=.int .i64 n19∧f 8=.int .i64 n22∧f 10=.int .i64 n∧Ctx w0 w1 []) ((s.drop 8).length-1) ?_ ?_
   ·
    exact ⟨1,by have h9:=hc32.1;simp only [List.length_drop] at h9 ⊢;omega,by omega,rfl,rfl,rfl,rfl,rfl,cx⟩
   intro gk8 f w hJ
   obtain ⟨n,hgn,hn1,hs0,hs6,hs7,hs8,hs10,cx⟩:=hJ
   have hd8:(s.drop (Int.toNat 8)).length=s.length-8:=by rw [List.length_drop];rfl
   have hd8b:(s.drop 8).length=s.length-8:=by rw [List.length_drop]
   have hr:(s.drop (Int.toNat 8)).length≤s.length:=by omega
   refine K4s ?_
   refine K1j ?_
   refine s_gval rfl rfl rfl wT (fun hc=>v_move rfl hs10) ?_
   refine K1o ?_
   refine Ks ?_
   refine s_gval rfl rfl rfl wT (fun hc=>v_move rfl hs10) ?_
   refine K1o ?_
   refine cSp rfl (fun hc48=>?_) (fun hc48=>?_)
   ·
    refine K4s ?_
    refine K1 ?_
    exact ⟨gk8-1,_,by omega,rfl,n+1,by omega,by omega,hs0,hs6,hs7,hs8,rfl,cx⟩
   refine K2 ?_
   refine Kw ?_
   refine K0 ?_
   refine s_gval rfl rfl rfl wF (fun hc=>v_move rfl hs10) ?_
   refine K1 ?_
   refine cSp rfl (fun hc56=>?_) (fun hc56=>?_)
   ·
    exact Bz48
   refine K9 ?_
   refine Kw ?_
   refine K2i ?_
   refine s_val rfl rfl (v_strAddB (b:=[48,48,48,48,48,48,48,48,48]) rfl rfl rfl (by simp only [List.length_take,List.length_drop,List.length_cons,List.length_nil];omega)) ?_
   refine s_val rfl rfl (v_cutTo rfl rfl rfl Tryz.underlying9 (by omega) (by simp only [List.length_append,List.length_take,List.length_drop,List.length_cons,List.length_nil];omega)) ?_
   refine s_fn cx (c277b _ 9 29000000000 _ pcq (by omega) (by decide)) Tryz.func277 rfl rfl rfl rfl rfl rfl ?_;intro q62 w cx hw62 hp62
   obtain ⟨n62,rfl,hn62⟩:=hp62
   refine K9 ?_
   refine Kw ?_
   refine K1 ?_
   exact Bz65
  refine SS ?_
  exact Bz65
 intro f w hJ
 obtain ⟨r,h,m,sc,fr,hs0,hs6,hs7,hs8,hs9,hr,hh,hm,hsc,hfr,cx⟩:=hJ
 refine K2n ?_
 refine SS ?_
 refine K66 ?_
 refine Kv ?_
 refine K0 ?_
 refine K1v ?_
 refine K1g ?_
 refine Kc ?_
 refine K0 ?_
 refine K8z ?_
 refine K1 ?_
 refine K49 ?_
 refine K6 ?_
 refine ret_tmp4 Tryz.results275 rfl rfl rfl rfl ?_
 exact ⟨cx.ext,_,r,_,_,rfl,hr⟩
theorem c278 (s:List UInt8)(w0:World)(hs:s.length≤1000000):Fc Tryz.prog 278 [.string (bs s)] w0 (fun v _=>∃ (n:Int) (b1 b2:Bool),v=.tuple #[.int .i64 n,.bool b1,.bool b2]):=by
 refine ret_enter Tryz.func278 rfl Tryz.ntmps278 rfl ?_
 have cx:=Ctx.start w0
 refine K8 ?_
 refine s_val rfl rfl (v_eqB (u:=[90]) rfl rfl rfl) ?_
 refine K0 ?_
 refine s_gval rfl rfl rfl wF (fun hc=>v_eqB (u:=[122]) rfl gX rfl) ?_
 refine K0 ?_
 refine cSp rfl (fun hc13=>?_) (fun hc13=>?_)
 ·
  refine K0 ?_
  exact Bz39
 refine K7 ?_
 refine s_gfnB cx rfl rfl rfl wF (fun hc=>c274 _ _ _ (by omega) (by first | decide | omega)) Tryz.func274 rfl rfl rfl (fun hc=>(cons_eq gX (cons_eq rfl rfl))) ?_;intro q19 w cx hw19 hp19
 refine K1 ?_
 refine s_gfnB cx rfl rfl rfl wT (fun hc=>c274 _ _ _ (by omega) (by first | decide | omega)) Tryz.func274 rfl rfl rfl (fun hc=>(cons_eq gX (cons_eq rfl rfl))) ?_;intro q23 w cx hw23 hp23
 refine K2 ?_
 refine cSp rfl (fun hc26=>?_) (fun hc26=>?_)
 ·
  refine K0 ?_
  exact Bz39
 have h6:s.length=6:=by omega
 refine K0 ?_
 refine w_ord cx (Ctx.sub0 cx) mixed [(0,27),(1,28),(3,30),(4,31)] #[true,true,false,true,true,false,false,false] p1q p1q p1q p1q ?_
 refine K6h ?_
 refine K6h ?_
 refine Hv ?_;intro w cx hwD5
 refine K7f ?_
 refine Hw ?_;intro q29 w cx hw29 hp29
 obtain ⟨n29,rfl,hn29⟩:=hp29
 refine Kn ?_
 refine K31 ?_
 refine Hw ?_;intro q32 w cx hw32 hp32
 obtain ⟨n32,rfl,hn32⟩:=hp32
 refine Kg ?_
 refine K32 ?_
 refine K17 ?_
 refine K1s ?_
 refine K2b ?_
 refine K6 ?_
 refine w_cut (fun f w1=>∃ y:Int,f 5=.int .i64 n29∧f 6=.int .i64 n32∧f 7=.int .i64 y∧Ctx w0 w1 []) ?_ ?_
 ·
  refine K4 ?_
  refine cSp rfl (fun hc39=>?_) (fun hc39=>?_)
  ·
   refine K0 ?_
   refine K3k ?_
   refine K0 ?_
   first | exact ⟨_,rfl,_,rfl,rfl,rfl,cx⟩
  refine SS ?_
  first | exact ⟨_,rfl,_,rfl,rfl,rfl,cx⟩
 intro f w hJ
 obtain ⟨y,hs5,hs6,hs7,cx⟩:=hJ
 refine K0 ?_
 refine Kk ?_
 refine K63 ?_
 refine K55 ?_
 refine K0 ?_
 exact Bz39
theorem c199 (s:List UInt8)(w0:World)(hs:s.length≤1000000):Fc Tryz.prog 199 [.string (bs s)] w0 (fun v _=>∃ (k d n z e:Int),v=.tuple #[.agg #[.int .i64 k,.int .i64 d,.int .i64 n,.int .i64 z],.int .i64 e]):=by
 refine ret_enter Tryz.func199 rfl Tryz.ntmps199 rfl ?_
 have cx:=Ctx.start w0
 refine K0 ?_
 refine H1 ?_;intro b2 w cx hb2 hw2
 refine K4 ?_
 refine s_fnB cx (c274 s [100,100,100,100,45,100,100,45,100,100] _ (by omega) (by decide)) Tryz.func274 rfl rfl rfl rfl rfl rfl ?_;intro q19 w cx hw19 hp19
 refine K0 ?_
 refine cSp rfl (fun hc20=>?_) (fun hc20=>?_)
 ·
  refine K1 ?_
  refine s_fn cx (c275 s _ peq) Tryz.func275 rfl rfl rfl rfl rfl rfl ?_;intro q23 w cx hw23 hp23
  obtain ⟨n,r,b1,b2,rfl,hr⟩:=hp23
  refine K6 ?_
  refine K7 ?_
  refine s_gval rfl rfl rfl wF (fun hc=>v_neB (u:=[]) rfl gX rfl) ?_
  refine K0 ?_
  refine cSp rfl (fun hc33=>?_) (fun hc33=>?_)
  ·
   refine K4j ?_
   refine H0 ?_;intro w cx hwS4
   exact Bz166
  refine K5 ?_
  refine cSp rfl (fun hc36=>?_) (fun hc36=>?_)
  ·
   refine K4j ?_
   refine H0 ?_;intro w cx hwS6
   exact Bz166
  refine K2 ?_
  refine s_val rfl rfl (v_build (qs:=[(0,.int .i64 2),(2,.int .i64 n)]) (bd78a n) rfl rfl) ?_
  refine H0 ?_;intro w cx hwS7
  exact Bz166
 have h10:=hp19 hc20
 simp only [List.length_cons,List.length_nil] at h10
 have hd10:(s.drop (Int.toNat 10)).length=s.length-10:=by rw [List.length_drop];rfl
 refine K0 ?_
 refine w_ord cx (Ctx.sub0 cx) mixed [(0,41),(1,42),(3,44),(4,45),(6,47),(7,48)] #[true,true,false,true,true,false,true,true,false,false,false,false,false,false,false] p1q p1q p1q p1q ?_
 refine Kz ?_
 refine K8y ?_
 refine K6h ?_
 refine K6h ?_
 refine Hv ?_;intro w cx hwD8
 refine K7f ?_
 refine s_fn cx (c277b _ 4 290000 _ pcq (by omega) (by decide)) Tryz.func277 rfl rfl rfl rfl rfl rfl ?_;intro q43 w cx hw43 hp43
 obtain ⟨n43,rfl,hn43⟩:=hp43
 refine Kn ?_
 refine K31 ?_
 refine Hw ?_;intro q46 w cx hw46 hp46
 obtain ⟨n46,rfl,hn46⟩:=hp46
 refine Kn ?_
 refine K1h ?_
 refine Hw ?_;intro q49 w cx hw49 hp49
 obtain ⟨n49,rfl,hn49⟩:=hp49
 refine Kg ?_
 refine K1c ?_
 refine s_fn cx (c276 n43 n46 n49 _ (by omega) (by omega) (by omega)) Tryz.func276 rfl rfl rfl rfl rfl rfl ?_;intro q50 w cx hw50 hp50
 obtain ⟨dd,de,rfl⟩:=hp50
 refine Kg ?_
 refine K1r ?_
 refine K17 ?_
 refine x_two (i:=11) (j:=12) p1q rfl rfl ?_ ?_
 ·
  refine K17 ?_
  refine x_two (i:=12) (j:=13) p1q rfl rfl ?_ ?_
  ·
   exact Bz195
  refine K17 ?_
  refine K3d ?_
  refine SS ?_
  exact Bz162
 refine K17 ?_
 refine K2t ?_
 exact Bz195
end Go.Proofs.YthiafbkolhnadaaGreatDoor
end
section
namespace Go.Dk
open Go Go.RowKit Go.Lib
def GS (s:Sc):Prop:=-400≤s.exp∧s.exp≤400
theorem gs0 {s:Sc}(h:s.exp=0):GS s:=by unfold GS;omega
def Dp:Nat→V→Prop
 | 0,_=>False
 | d+1,.mk s _ l f=>GS s∧(∀ v∈l,Dp d v)∧∀ kv∈f,Dp d kv.2
def vs:Nat→V→Nat
 | 0,_=>0
 | d+1,.mk s b l f=>1+s.text.size+s.dig.size+b.length+(l.map (vs d)).sum+(f.map fun kv=>kv.1.size+vs d kv.2).sum
theorem Dp_leaf (d:Nat)(s:Sc)(b:List UInt8)(h:GS s):Dp (d+1) (.mk s b [] []):=by simp [Dp,h]
theorem vs_leaf (d:Nat)(s:Sc)(b:List UInt8):vs (d+1) (.mk s b [] [])=1+s.text.size+s.dig.size+b.length:=by simp [vs]
def sc0:Sc:=⟨0,false,false,ByteArray.empty,0,0,0,0,0,ByteArray.empty⟩
def scT (c:ByteArray):Sc:=⟨4,false,false,ByteArray.empty,0,0,0,0,0,c⟩
theorem Cxr.noL {w0 w:World}{L:List (Nat×Obj)}{R:List Row}(h:Cxr w0 w L R):Cxr w0 w [] R :=
 ⟨h.ext,by simp,by simp,by simp,h.rows,by simp,h.pw⟩
theorem cqt_cons (c:ByteArray):cqt c=34::(qtq c.data.toList++34::[]):=by unfold cqt;rfl
theorem pre_cqt {p:List UInt8}{a:UInt8}{c:ByteArray}(h:(a::p) <+: cqt c):a=34:=by
 rw [cqt_cons] at h
 exact (List.cons_prefix_cons.1 h).1
end Go.Dk
namespace Go.Dk
open Go Go.RowKit Go.Lib
theorem LR.sl {w0 w:World}{L:List (Nat×Obj)}{R:List Row}(cx:Cxr w0 w L R){e k n:Nat}{v:Value}{xs:List Value}(hl:LR R e k v n xs):∃ a c,v=.slice a n c:=by
 rcases hl with ⟨rfl,rfl⟩ | h
 · exact ⟨none,0,rfl⟩
 · exact (cx.oneR h).rowSl
theorem RR.form2 {w0 w:World}{L:List (Nat×Obj)}{t u:Nat}{R:List Row}(cx:Cxr w0 w L R){v:V}{cs:List Value}(h:RR t u R v cs):∃ a1 n1 c1 a2 n2 c2 a3 n3 c3,cs=vrow v.sc (.slice a1 n1 c1) (.slice a2 n2 c2) (.slice a3 n3 c3):=by
 cases h with
 | mk s bytes list fields bs ls fs css fss hb hl hlc hlv hf hfc hfv =>
  obtain ⟨a1,c1,rfl⟩:=hb.sl cx
  obtain ⟨a2,c2,rfl⟩:=hl.sl cx
  obtain ⟨a3,c3,rfl⟩:=hf.sl cx
  exact ⟨_,_,_,_,_,_,_,_,_,rfl⟩
theorem perm2 {α:Type}(a b:α)(x y:List α):(x++(a::b::y)).Perm (a::b::(x++y)):=by
 refine (List.perm_middle).trans (List.Perm.cons _ ?_)
 exact List.perm_middle
structure LF (t u:Nat) (rs:List Row) (l:List V) (f:List (ByteArray×V)) (css fss:List (List Value)) (a:Nat):Prop where
 hlc:css.length=l.length
 hlv:∀ (i:Nat) (v:V) (cs:List Value),l[i]?=some v→css[i]?=some cs→RR t u rs v cs
 hfc:fss.length=f.length
 hfv:∀ (i:Nat) (kv:ByteArray×V) (cs:List Value),f[i]?=some kv→fss[i]?=some cs→RR t u rs kv.2 cs
 hcnt:l.length+f.length≤a
structure GF (D:Nat) (l:List V) (f:List (ByteArray×V)) (a:Nat):Prop where
 hl:∀ v∈l,Dp D v
 hf:∀ kv∈f,Dp D kv.2
 hs:1+(l.map (vs D)).sum+(f.map fun kv=>kv.1.size+vs D kv.2).sum≤2*a
theorem snoc_at {α:Type}{l:List α}{x y:α}{i:Nat}(h:(l++[x])[i]?=some y):(i<l.length∧l[i]?=some y)∨(i=l.length∧y=x):=by
 rcases Nat.lt_or_ge i l.length with h1 | h1
 · rw [List.getElem?_append_left h1] at h
   exact .inl ⟨h1,h⟩
 · rw [List.getElem?_append_right h1] at h
   cases h2:i-l.length with
   | zero =>
    rw [h2] at h
    simp only [List.getElem?_cons_zero,Option.some.injEq] at h
    exact .inr ⟨by omega,h.symm⟩
   | succ j=>rw [h2] at h;simp at h
theorem LF.addL {t u:Nat}{rs rs2:List Row}{l:List V}{f:List (ByteArray×V)}{css fss:List (List Value)}{a:Nat}(h:LF t u rs l f css fss a){v:V}{cs:List Value}(hr:RR t u rs2 v cs):LF t u (rs2++rs) (l++[v]) f (css++[cs]) fss (a+1):=by
 refine ⟨by simp [h.hlc],fun i x c hx hc=>?_,h.hfc,fun i kv c hx hc=>(h.hfv i kv c hx hc).mono fun r hr=>List.mem_append_right _ hr,by have:=h.hcnt;simp only [List.length_append,List.length_cons,List.length_nil];omega⟩
 rcases snoc_at hx with ⟨h1,h2⟩ | ⟨h1,h2⟩
 · rw [List.getElem?_append_left (by rw [h.hlc];exact h1)] at hc
   exact (h.hlv i x c h2 hc).mono fun r hr=>List.mem_append_right _ hr
 · rcases snoc_at hc with ⟨h3,h4⟩ | ⟨h3,h4⟩
   · rw [h.hlc] at h3;omega
   · rw [h2,h4];exact hr.mono fun r hr=>List.mem_append_left _ hr
theorem LF.addF {t u:Nat}{rs rs2:List Row}{l:List V}{f:List (ByteArray×V)}{css fss:List (List Value)}{a:Nat}(h:LF t u rs l f css fss a){k:ByteArray}{v:V}{cs:List Value}(hr:RR t u rs2 v cs):LF t u (rs2++rs) l (f++[(k,v)]) css (fss++[cs]) (a+1):=by
 refine ⟨h.hlc,fun i x c hx hc=>(h.hlv i x c hx hc).mono fun r hr=>List.mem_append_right _ hr,by simp [h.hfc],fun i kv c hx hc=>?_,by have:=h.hcnt;simp only [List.length_append,List.length_cons,List.length_nil];omega⟩
 rcases snoc_at hx with ⟨h1,h2⟩ | ⟨h1,h2⟩
 · rw [List.getElem?_append_left (by rw [h.hfc];exact h1)] at hc
   exact (h.hfv i kv c h2 hc).mono fun r hr=>List.mem_append_right _ hr
 · rcases snoc_at hc with ⟨h3,h4⟩ | ⟨h3,h4⟩
   · rw [h.hfc] at h3;omega
   · rw [h2,h4];exact hr.mono fun r hr=>List.mem_append_left _ hr
theorem LF.upA {t u:Nat}{rs:List Row}{l:List V}{f:List (ByteArray×V)}{css fss:List (List Value)}{a b:Nat}(h:LF t u rs l f css fss a)(hab:a≤b):LF t u rs l f css fss b:=⟨h.hlc,h.hlv,h.hfc,h.hfv,Nat.le_trans h.hcnt hab⟩
theorem GF.upA {D:Nat}{l:List V}{f:List (ByteArray×V)}{a b:Nat}(h:GF D l f a)(hab:a≤b):GF D l f b:=⟨h.hl,h.hf,by have:=h.hs;omega⟩
theorem GF.addL {D:Nat}{l:List V}{f:List (ByteArray×V)}{a n:Nat}(h:GF D l f a){v:V}(h1:Dp D v)(h2:vs D v≤2*n):GF D (l++[v]) f (a+n):=by
 refine ⟨fun x hx=>?_,h.hf,?_⟩
 · rcases List.mem_append.1 hx with hx | hx
   · exact h.hl x hx
   · rw [List.mem_singleton.1 hx];exact h1
 · have:=h.hs
   exact Bz151
theorem GF.addF {D:Nat}{l:List V}{f:List (ByteArray×V)}{a n:Nat}(h:GF D l f a){k:ByteArray}{v:V}(h1:Dp D v)(h2:k.size+vs D v≤2*n):GF D l (f++[(k,v)]) (a+n):=by
 refine ⟨h.hl,fun x hx=>?_,?_⟩
 · rcases List.mem_append.1 hx with hx | hx
   · exact h.hf x hx
   · rw [List.mem_singleton.1 hx];exact h1
 · have:=h.hs
   exact Bz151
theorem GF.start (D:Nat):GF D [] [] 1:=⟨by simp,by simp,by simp⟩
theorem LF.start (t u:Nat)(rs:List Row):LF t u rs [] [] [] [] 1:=⟨rfl,fun i v cs h=>by simp at h,rfl,fun i kv cs h=>by simp at h,by simp⟩
theorem GF.fin {D:Nat}{l:List V}{f:List (ByteArray×V)}{a:Nat}(h:GF D l f a)(k:Int):Dp (D+1) (.mk ⟨k,false,false,ByteArray.empty,0,0,0,0,0,ByteArray.empty⟩ [] l f)∧vs (D+1) (.mk ⟨k,false,false,ByteArray.empty,0,0,0,0,0,ByteArray.empty⟩ [] l f)≤2*a:=by
 refine ⟨by simp only [Dp];exact ⟨gs0 rfl,h.hl,h.hf⟩,?_⟩
 have:=h.hs
 simp only [vs,List.length_nil]
 have e:ByteArray.empty.size=0:=rfl
 omega
def PV (t u D:Nat)(s:List UInt8)(w0:World)(x:Value)(w1:World):Prop:=∃ (v:V) (cells:List Value) (n:Nat) (rs:List Row),
 x=.tuple #[.agg cells.toArray,.int .i64 n]∧Cxr w0 w1 [] rs∧RR t u rs v cells∧n≤s.length∧v.sc.text.size≤s.length∧(n=0∨(Dp D v∧vs D v≤2*n))∧∀ c:ByteArray,0<D→s=cqt c→cells=vrow (scT c) (.slice none 0 0) (.slice none 0 0) (.slice none 0 0)∧n=s.length
end Go.Dk
end
section
namespace Go.Proofs.YthiafbkolhnadaaGreatDoor
open Go Go.Dk Go.RowKit Go.Lib
attribute [local irreducible] Go.wpList Go.Code.wp Go.bodyPost Go.wpStill Go.wpQuiet
theorem bd83z  (w:World):(Instr.build 83 ([]:List (Nat×Value)).toArray).run Tryz.prog w=.ok (.agg (vrow sc0 (.slice none 0 0) (.slice none 0 0) (.slice none 0 0)).toArray) w:=by
 unfold vrow sc0
 go_simp
 try rfl
theorem bd83t  (w:World):(Instr.build 83 ([(0,.int .i64 1),(1,.bool true)]:List (Nat×Value)).toArray).run Tryz.prog w=.ok (.agg (vrow ⟨1,true,false,ByteArray.empty,0,0,0,0,0,ByteArray.empty⟩ (.slice none 0 0) (.slice none 0 0) (.slice none 0 0)).toArray) w:=by
 unfold vrow 
 go_simp
 try rfl
theorem bd83f  (w:World):(Instr.build 83 ([(0,.int .i64 1)]:List (Nat×Value)).toArray).run Tryz.prog w=.ok (.agg (vrow ⟨1,false,false,ByteArray.empty,0,0,0,0,0,ByteArray.empty⟩ (.slice none 0 0) (.slice none 0 0) (.slice none 0 0)).toArray) w:=by
 unfold vrow 
 go_simp
 try rfl
theorem bd83s (c:ByteArray)(w:World):(Instr.build 83 ([(0,.int .i64 4),(4,.string c)]:List (Nat×Value)).toArray).run Tryz.prog w=.ok (.agg (vrow (scT c) (.slice none 0 0) (.slice none 0 0) (.slice none 0 0)).toArray) w:=by
 unfold vrow scT
 go_simp
 try rfl
theorem bd83m (k d n z:Int)(w:World):(Instr.build 83 ([(0,.int .i64 3),(3,.agg #[.int .i64 k,.int .i64 d,.int .i64 n,.int .i64 z])]:List (Nat×Value)).toArray).run Tryz.prog w=.ok (.agg (vrow ⟨3,false,false,ByteArray.empty,0,k,d,n,z,ByteArray.empty⟩ (.slice none 0 0) (.slice none 0 0) (.slice none 0 0)).toArray) w:=by
 unfold vrow 
 go_simp
 try rfl
theorem bd83b (a:Option Addr)(l c:Nat)(w:World):(Instr.build 83 ([(0,.int .i64 5),(5,.slice a l c)]:List (Nat×Value)).toArray).run Tryz.prog w=.ok (.agg (vrow ⟨5,false,false,ByteArray.empty,0,0,0,0,0,ByteArray.empty⟩ (.slice a l c) (.slice none 0 0) (.slice none 0 0)).toArray) w:=by
 unfold vrow 
 go_simp
 try rfl
theorem bd83n (b:Bool)(d:ByteArray)(x:Int)(w:World):(Instr.build 83 ([(0,.int .i64 2),(2,.agg #[.bool b,.string d,.int .i64 x])]:List (Nat×Value)).toArray).run Tryz.prog w=.ok (.agg (vrow ⟨2,false,b,d,x,0,0,0,0,ByteArray.empty⟩ (.slice none 0 0) (.slice none 0 0) (.slice none 0 0)).toArray) w:=by
 unfold vrow 
 go_simp
 try rfl
theorem c255 (s:List UInt8)(w0:World)(hs:s.length≤1000):Ret Tryz.prog 255 [.string (bs s)] w0 (fun u w1=>∃ (sc:Sc) (bytes:List UInt8) (bv0:Value) (n:Nat) (rs:List Row),u=.tuple #[.agg (vrow sc bv0 (.slice none 0 0) (.slice none 0 0)).toArray,.int .i64 n]∧Cxr w0 w1 [] rs∧LR rs 5 1 bv0 bytes.length (bytes.map bv)∧n≤s.length∧GS sc∧sc.text.size≤s.length∧(n=0∨1+sc.text.size+sc.dig.size+bytes.length≤2*n)∧∀ c:ByteArray,s=cqt c→sc=scT c∧bv0=.slice none 0 0∧n=s.length):=by
 refine ret_enter Tryz.func255 rfl Tryz.ntmps255 rfl ?_
 have cx:=Ctx.start w0
 refine K0 ?_
 refine Hx ?_;intro b2 w cx hb2 hw2
 refine K5 ?_
 refine s_fnB cx (c323 s [110,117,108,108] _ (by omega) (by decide)) Tryz.func323 rfl rfl rfl rfl rfl rfl ?_;intro q19 w cx hw19 hp19
 refine K0 ?_
 refine cSp rfl (fun hc17=>?_) (fun hc17=>?_)
 ·
  have hpf:=hp19.1 hc17
  refine K1u ?_
  refine Hy ?_;intro w cx hwS2
  refine K6i ?_
  refine ⟨sc0,[],.slice none 0 0,4,[],rfl,cx.noL,.inl ⟨rfl,rfl⟩,by have:=hpf.length_le;simpa using this,gs0 rfl,Nat.zero_le _,.inr (by decide),fun c hc=>?_⟩
  exact Bz154
 refine K1 ?_
 refine s_fnB cx (c323 s [116,114,117,101] _ (by omega) (by decide)) Tryz.func323 rfl rfl rfl rfl rfl rfl ?_;intro q23 w cx hw23 hp23
 refine K0 ?_
 refine cSp rfl (fun hc21=>?_) (fun hc21=>?_)
 ·
  have hpf:=hp23.1 hc21
  refine K0 ?_
  refine Kdd ?_
  refine Hy ?_;intro w cx hwS4
  refine K6i ?_
  refine ⟨⟨1,true,false,ByteArray.empty,0,0,0,0,0,ByteArray.empty⟩,[],.slice none 0 0,4,[],rfl,cx.noL,.inl ⟨rfl,rfl⟩,by have:=hpf.length_le;simpa using this,gs0 rfl,Nat.zero_le _,.inr (by decide),fun c hc=>?_⟩
  exact Bz154
 refine K1 ?_
 refine s_fnB cx (c323 s [102,97,108,115,101] _ (by omega) (by decide)) Tryz.func323 rfl rfl rfl rfl rfl rfl ?_;intro q27 w cx hw27 hp27
 refine K0 ?_
 refine cSp rfl (fun hc25=>?_) (fun hc25=>?_)
 ·
  have hpf:=hp27.1 hc25
  refine K0 ?_
  refine s_val rfl rfl (v_build (qs:=[(0,.int .i64 1)]) bd83f rfl rfl) ?_
  refine Hy ?_;intro w cx hwS6
  refine K6i ?_
  refine ⟨⟨1,false,false,ByteArray.empty,0,0,0,0,0,ByteArray.empty⟩,[],.slice none 0 0,5,[],rfl,cx.noL,.inl ⟨rfl,rfl⟩,by have:=hpf.length_le;simpa using this,gs0 rfl,Nat.zero_le _,.inr (by decide),fun c hc=>?_⟩
  exact Bz154
 refine K1 ?_
 refine s_fnB cx (c323 s [34] _ (by omega) (by decide)) Tryz.func323 rfl rfl rfl rfl rfl rfl ?_;intro q31 w cx hw31 hp31
 refine K0 ?_
 refine cSp rfl (fun hc29=>?_) (fun hc29=>?_)
 ·
  have hpf:=hp31.1 hc29
  refine K1 ?_
  refine s_fn cx (c324 s _ peq) Tryz.func324 rfl rfl rfl rfl rfl rfl ?_;intro q34 w cx hw34 hp34
  obtain ⟨k,n,rfl,hn,hk,hkx⟩:=hp34
  have hkl:k.length≤n:=by
   rcases hk with ⟨_,h⟩ | h
   · rw [h];simp
   · omega
  refine K7 ?_
  refine s_val rfl rfl (v_build (qs:=[(0,.int .i64 4),(4,.string (bs k))]) (bd83s (bs k)) rfl rfl) ?_
  refine SS ?_
  refine Hy ?_;intro w cx hwS9
  refine K6i ?_
  refine ⟨scT (bs k),[],.slice none 0 0,n,[],rfl,cx.noL,.inl ⟨rfl,rfl⟩,by omega,gs0 rfl,(by show (bs k).size≤_;rw [bs_size];omega),(hk.imp (·.1) fun h=>by show 1+(bs k).size+0+0≤2*n;rw [bs_size];omega),fun c hc=>?_⟩
  have h2:=hkx c.data.toList [] (hc.trans (cqt_cons c))
  have h3:=congrArg List.length (hc.trans (cqt_cons c))
  simp only [List.length_cons,List.length_append,List.length_nil] at h3
  exact ⟨by rw [h2.1,bs_of],rfl,by omega⟩
 have hns:∀ c,s≠cqt c:=fun c hc=>by have h2:=hp31.2 (by rw [hc,cqt_cons];exact List.cons_prefix_cons.2 ⟨rfl,List.nil_prefix⟩);rw [hc29] at h2;cases h2
 refine K1 ?_
 refine s_fnB cx (c323 s [116,34] _ (by omega) (by decide)) Tryz.func323 rfl rfl rfl rfl rfl rfl ?_;intro q42 w cx hw42 hp42
 refine K0 ?_
 refine cSp rfl (fun hc40=>?_) (fun hc40=>?_)
 ·
  have hpf:=(hp42.1 hc40).length_le
  simp only [List.length_cons,List.length_nil] at hpf
  have hd1:(s.drop (Int.toNat 1)).length=s.length-1:=by rw [List.length_drop];rfl
  refine K2 ?_
  refine Hz ?_;intro q46 w cx hw46 hp46
  obtain ⟨k,n,rfl,hn,hk,hkx⟩:=hp46
  have hkl:k.length≤n:=by
   rcases hk with ⟨_,h⟩ | h
   · rw [h];simp
   · omega
  refine K7 ?_
  refine s_fn cx (c199 k _ (by omega)) Tryz.func199 rfl rfl rfl rfl rfl rfl ?_;intro q51 w cx hw51 hp51
  obtain ⟨tk,td,tn,tz,te,rfl⟩:=hp51
  refine K1 ?_
  refine H1 ?_;intro b8 w cx hb8 hw8
  refine H0 ?_;intro w cx hwS12
  refine Ko ?_
  refine cSp rfl (fun hc59=>?_) (fun hc59=>?_)
  ·
   refine K1u ?_
   refine H10 ?_;intro w cx hwS14
   exact Bz51
  refine K1 ?_
  refine K90 ?_
  refine s_val rfl rfl (v_build (qs:=[(0,.int .i64 3),(3,.agg #[.int .i64 tk,.int .i64 td,.int .i64 tn,.int .i64 tz])]) (bd83m tk td tn tz) rfl rfl) ?_
  refine K0 ?_
  refine H10 ?_;intro w cx hwS15
  refine K1 ?_
  refine Kaf ?_
  refine ⟨⟨3,false,false,ByteArray.empty,0,tk,td,tn,tz,ByteArray.empty⟩,[],.slice none 0 0,n+1,[],rfl,cx.noL,.inl ⟨rfl,rfl⟩,by omega,gs0 rfl,Nat.zero_le _,.inr (by show 1+0+0+0≤2*(n+1);omega),fun c hc=>?_⟩
  exact Ezh
 refine K1 ?_
 refine s_fnB cx (c323 s [98,34] _ (by omega) (by decide)) Tryz.func323 rfl rfl rfl rfl rfl rfl ?_;intro q67 w cx hw67 hp67
 refine K0 ?_
 refine cSp rfl (fun hc65=>?_) (fun hc65=>?_)
 ·
  have hpf:=(hp67.1 hc65).length_le
  simp only [List.length_cons,List.length_nil] at hpf
  have hd1:(s.drop (Int.toNat 1)).length=s.length-1:=by rw [List.length_drop];rfl
  refine K2 ?_
  refine Hz ?_;intro q71 w cx hw71 hp71
  obtain ⟨k,n,rfl,hn,hk,hkx⟩:=hp71
  have hkl:k.length≤n:=by
   rcases hk with ⟨_,h⟩ | h
   · rw [h];simp
   · omega
  refine K7 ?_
  have cxB:=cx
  refine s_fn cx (c200 k true _ (by omega)) Tryz.func200 rfl rfl rfl rfl rfl rfl ?_;intro q76 w cx hw76 hp76
  obtain ⟨ub,lb,eb,rfl,hrow,hlb⟩:=hp76
  replace cx:=cxB.callRow hw76 hrow
  obtain ⟨ab,cb,rfl⟩:=cx.rowSl
  refine K4i ?_
  refine cSp rfl (fun hc84=>?_) (fun hc84=>?_)
  ·
   refine K1u ?_
   refine Hy ?_;intro w cx hwS20
   refine K6i ?_
   refine ⟨sc0,[],.slice none 0 0,0,_,rfl,cx.noL,.inl ⟨rfl,rfl⟩,Nat.zero_le _,gs0 rfl,Nat.zero_le _,.inl rfl,fun c hc=>?_⟩
   exact Ezh
  refine K2 ?_
  refine Kde ?_
  refine K0 ?_
  refine Hy ?_;intro w cx hwS21
  refine K6i ?_
  refine ⟨⟨5,false,false,ByteArray.empty,0,0,0,0,0,ByteArray.empty⟩,lb,.slice ab lb.length cb,n+1,_,rfl,cx.noL,.inr (List.mem_cons_self ..),by omega,gs0 rfl,Nat.zero_le _,.inr (by show 1+0+0+lb.length≤2*(n+1);omega),fun c hc=>?_⟩
  exact Ezh
 refine K2 ?_
 refine s_fn cx (c325 s _ (by omega)) Tryz.func325 rfl rfl rfl rfl rfl rfl ?_;intro q91 w cx hw91 hp91
 obtain ⟨n,rfl,hn⟩:=hp91
 refine K4 ?_
 refine K29 ?_
 refine s_fn cx (c201 (s.take (Int.toNat (n:Int))) _ (by rw [List.length_take];omega)) Tryz.func201 rfl rfl rfl rfl rfl rfl ?_;intro q96 w cx hw96 hp96
 obtain ⟨db,dd,dx,de,rfl,hdd,hdx0,hdx1⟩:=hp96
 rw [List.length_take,Int.toNat_natCast] at hdd
 refine K1 ?_
 refine H8 ?_;intro b15 w cx hb15 hw15
 refine H9 ?_;intro w cx hwS23
 refine K6 ?_
 refine cSp rfl (fun hc100=>?_) (fun hc100=>?_)
 ·
  refine K1u ?_
  refine H10 ?_;intro w cx hwS25
  exact Bz51
 refine K1 ?_
 refine Kad ?_
 refine s_val rfl rfl (v_build (qs:=[(0,.int .i64 2),(2,.agg #[.bool db,.string (bs dd),.int .i64 dx])]) (bd83n db (bs dd) dx) rfl rfl) ?_
 refine SS ?_
 refine H10 ?_;intro w cx hwS26
 refine K1 ?_
 refine Kaf ?_
 refine ⟨⟨2,false,db,bs dd,dx,0,0,0,0,ByteArray.empty⟩,[],.slice none 0 0,n,[],rfl,cx.noL,.inl ⟨rfl,rfl⟩,by omega,⟨hdx0,hdx1⟩,Nat.zero_le _,((Nat.eq_zero_or_pos n).imp id fun h=>by show 1+0+(bs dd).size+0≤2*n;rw [bs_size];omega),fun c hc=>?_⟩
 exact Ezh
end Go.Proofs.YthiafbkolhnadaaGreatDoor
end
