/-
  Several texts in one: Ba, Bb, Bc, Pa, Pb
-/
import Derived.WalkKit
import Derived.WalkSpells
import Derived.WalkLawsBesides
import Derived.Laws.CopyOwn
import Derived.Lib.AppendStr
import Derived.Lib.ItoaNum
set_option linter.unusedSimpArgs false
set_option linter.unusedVariables false
set_option maxHeartbeats 4000000
set_option maxRecDepth 10000
namespace Go
structure Wd (q:Prop):Prop where
  o:q
theorem bsl:(∀ a b:Bool,((a&&b)=true)=(a=true∧b=true))∧(∀ a b:Bool,((a||b)=true)=(a=true∨b=true))∧(∀ a b:Bool,((a&&b)=false)↔(a=false∨b=false))∧(∀ a b:Bool,((a||b)=false)↔(a=false∧b=false))∧(∀ b:Bool,((!b)=true)=(b=false))∧(∀ b:Bool,((!b)=false)=(b=true))∧(∀ (p:Prop) [Decidable p],(decide p=true)=p)∧(∀ (p:Prop) [Decidable p],(decide p=false)↔¬ p) ∧
    (∀ {α:Type} [BEq α] [LawfulBEq α] (a b:α),((a==b)=true)↔a=b)∧(∀ {α:Type} [BEq α] [LawfulBEq α] (a b:α),((a==b)=false)↔a≠b)∧(∀ {α:Type} [BEq α] [LawfulBEq α] (a b:α),((a != b)=true)↔a≠b)∧(∀ {α:Type} [BEq α] [LawfulBEq α] (a b:α),((a != b)=false)↔a=b)∧(∀ {α:Type} (a b:α),(a≠b)=¬ (a=b))∧(∀ p:Prop,¬ ¬ p↔p) :=
  ⟨fun _ _=>Bool.and_eq_true _ _,fun _ _=>Bool.or_eq_true _ _,fun _ _=>Bool.and_eq_false_iff,fun _ _=>Bool.or_eq_false_iff,fun _=>Bool.not_eq_true' _,fun _=>Bool.not_eq_false' _,fun _ _=>decide_eq_true_eq,fun _ _=>decide_eq_false_iff_not,fun _ _=>beq_iff_eq,fun _ _=>beq_eq_false_iff_ne,fun _ _=>bne_iff_ne,fun _ _=>bne_eq_false_iff_eq,fun _ _=>ne_eq _ _,fun _=>Classical.not_not⟩
theorem wF {p:Prop}(h:p:=by first | exact w_ff rfl | exact w_gf rfl):p:=h
theorem wT {p:Prop}(h:p:=by first | exact w_tt rfl | exact w_gt rfl):p:=h
theorem gX {α:Type}{a b:α}(h:a=b:=by first | exact gve hc rfl | exact gve (and_l hc) rfl | exact gve (and_l (and_l hc)) rfl | rfl):a=b:=h
section
variable {p q:Prop}
theorem p0q(h:p:=by first | omega | (simp only [bsl] at hc;omega)):p:=h
theorem p1q(h:p:=by kernel_rfl):p:=h
theorem p2q(h:p:=by (try simp only [List.length_append,List.length_cons,List.length_nil,List.length_take,List.length_drop]);omega):p:=h
theorem p3q(h:p:=by (try simp only [List.length_append,List.length_cons,List.length_nil]);omega):p:=h
theorem p4q(h:p:=by first | exact gve hc rfl | rfl):p:=h
theorem p5q(h:p:=by simp only [List.length_append,List.length_cons,List.length_nil];omega):p:=h
theorem p6q(h:p:=by rw [byteAt_bA] at *;omega):p:=h
theorem p7q(h:p:=by (try simp only [List.length_append,List.length_take,List.length_drop,List.length_cons,List.length_nil]);omega):p:=h
theorem p8q(h:p:=by first | omega | (simp only [List.length_append,List.length_cons];omega)):p:=h
theorem p9q(h:p:=by first | omega | (rw [and31b hb];omega) | (rw [and15b hb];omega) | (rw [and7b hb];omega)):p:=h
theorem paq(h:p:=by rw [List.map_append];rfl):p:=h
theorem pbq(h:p:=by simp only [List.length_append,List.length_cons,List.length_nil,List.length_map];omega):p:=h
theorem pcq(h:p:=by simp only [List.length_take,List.length_drop];omega):p:=h
theorem pdq(h:p:=by have:=cut_le s;have:=cut_le (Lib.cut s [32]).2.1;omega):p:=h
theorem peq(h:p:=by (try simp only [List.length_drop]);omega):p:=h
theorem pfq(h:p:=by simp only [List.length_append,List.length_drop,List.length_take];omega):p:=h
theorem p10q(h:p:=by rw [show ((n.toNat:Nat):Int)=n by omega];rfl):p:=h
theorem p11q(h:p:=by first | exact cx.pick1 0 rfl | exact cx.pick1 1 rfl):p:=h
theorem p12q(h:p:=by simp only [List.length_cons];omega):p:=h
theorem p13q(h:p:=by unfold decodeN;rw [if_neg (by omega),if_neg (by omega),if_neg (by omega),if_neg (by omega)]):p:=h
theorem p14q(h:p:=by rw [bs_size];omega):p:=h
theorem p15q(h:p:=by rw [List.length_drop];omega):p:=h
theorem p16q(h:p:=by first | exact cx | exact cx.drop 1):p:=h
theorem p17q(h:p:=by first | exact cx.noR.pick1 1 rfl | exact cx.noR.pick1 2 rfl):p:=h
theorem p18q(h:p:=by first | exact cx.noR.pick2 0 1 rfl rfl rfl | exact cx.noR.pick2 1 2 rfl rfl rfl):p:=h
theorem p19q(h:p:=by simpa using h):p:=h
theorem p1aq(h:p:=by rw [List.length_set];exact hlen):p:=h
theorem p1bq(h:p:=by simp only [List.length_cons,List.length_nil];omega):p:=h
theorem p1cq(h:p:=by rw [u8_in (by omega)]):p:=h
theorem p1dq(h:p:=by rw [List.length_map];omega):p:=h
theorem p1eq(h:p:=by rw [List.map_append];exact (fcells_snoc _ _ _ _ (by rw [List.length_map,lf.hfc])).symm):p:=h
theorem p1fq(h:p:=by first | exact gve hc rfl | exact gve (and_l hc) rfl | rfl):p:=h
theorem p20q(h:p:=by simp only [List.length_append,List.length_cons,List.length_nil] at hfl hll ⊢;omega):p:=h
theorem p21q(h:p:=by simpa using hs):p:=h
theorem p22q(h:p:=by rw [show ((d.toNat:Nat):Int)=d by omega];rfl):p:=h
theorem p23q(h:p:=by first | exact cx.pick1 1 rfl | exact cx.pick1 0 rfl):p:=h
theorem p24q(h:p:=by have:=of_decide_eq_true hc;omega):p:=h
theorem p25q(h:p:=by assumption):p:=h
theorem p26q(h:p:=by simp;omega):p:=h
theorem p27q(h:p:=by rw [byteAt_bA];exact Go.Dk.and31 (bA_lt _ _)):p:=h
theorem p28q(h:p:=by rw [byteAt_bA];exact Go.Dk.and15 (bA_lt _ _)):p:=h
theorem p29q(h:p:=by rw [byteAt_bA];exact Go.Dk.and7 (bA_lt _ _)):p:=h
theorem p2aq(h:p:=by rw [hch];exact Bool.noConfusion):p:=h
theorem p2bq(h:p:=by unfold maxLen;omega):p:=h
theorem p2cq(h:p:=by rw [← hp28];exact hc28):p:=h
theorem p2dq(h:p:=by rw [← hp28,hc28];simp):p:=h
theorem p2eq(h:p:=by have:=cut_le s;have:=cut_le (Lib.cut s [32]).2.1;have:=cut_le (Lib.cut (Lib.cut s [32]).2.1 [32]).2.1;omega):p:=h
theorem p2fq(h:p:=by simpa using hi):p:=h
theorem SS (h:q)(f:Wd q→p:=by intro z';first | exact wp_seq z'.1 | exact wp_region_lit z'.1 | exact wpList_nil z'.1 | exact s_val rfl rfl (v_assign rfl rfl) z'.1 | exact s_val rfl rfl (v_move rfl rfl) z'.1 | exact wp_ret z'.1 | exact wp_skip z'.1 | exact s_val rfl rfl (v_cmp rfl rfl rfl rfl) z'.1 | exact wp_block z'.1 | exact s_val rfl rfl (v_extract rfl rfl rfl) z'.1 | exact s_val rfl rfl (v_add rfl rfl rfl (by omega) (by omega)) z'.1 | exact s_val rfl rfl (v_or rfl rfl rfl rfl) z'.1 | exact s_val rfl rfl (v_and rfl rfl rfl rfl) z'.1 | exact wp_exit z'.1 | exact s_val rfl rfl (v_nilCk rfl rfl) z'.1 | exact s_val rfl rfl (v_lenB rfl rfl Tryz.underlying9) z'.1 | exact s_val rfl rfl (v_sub rfl rfl rfl (by omega) (by omega)) z'.1 | exact s_val rfl rfl (v_not rfl rfl) z'.1 | exact s_val rfl rfl (v_mul rfl rfl rfl (by omega) (by omega)) z'.1 | exact s_val rfl rfl (v_lenSlice rfl rfl Tryz.underlying28) z'.1 | exact s_val rfl rfl (v_lenSlice rfl rfl Tryz.underlying81) z'.1 | exact s_val rfl rfl (v_lenSlice rfl rfl Tryz.underlying80) z'.1 | exact s_val rfl rfl (v_lenSlice rfl rfl Tryz.underlying33) z'.1 | exact s_val rfl rfl (v_idxB rfl rfl rfl Tryz.underlying9 (by omega) (by omega)) z'.1 | exact s_val rfl rfl (v_cutFrom rfl rfl rfl Tryz.underlying9 (by omega) (by omega)) z'.1 | exact s_gval rfl rfl rfl wF (fun hc=>v_move rfl gX) z'.1 | exact s_gval rfl rfl rfl wF (fun hc=>v_cmp rfl gX gX rfl) z'.1 | exact s_gval rfl rfl rfl wF (fun hc=>v_lenB rfl gX Tryz.underlying9) z'.1 | exact s_gval rfl rfl rfl wF (fun hc=>v_not rfl gX) z'.1 | exact s_gval rfl rfl rfl wF (fun hc=>v_and_g hc rfl rfl rfl rfl) z'.1 | exact s_gval rfl rfl rfl wF (fun hc=>v_or_g hc rfl rfl rfl rfl) z'.1 | exact s_gval rfl rfl rfl wT (fun hc=>v_move rfl gX) z'.1 | exact s_gval rfl rfl rfl wT (fun hc=>v_cmp rfl gX gX rfl) z'.1 | exact s_gval rfl rfl rfl wT (fun hc=>v_lenB rfl gX Tryz.underlying9) z'.1 | exact s_gval rfl rfl rfl wT (fun hc=>v_not rfl gX) z'.1 | exact s_gval rfl rfl rfl wT (fun hc=>v_and_g hc rfl rfl rfl rfl) z'.1 | exact s_gval rfl rfl rfl wT (fun hc=>v_or_g hc rfl rfl rfl rfl) z'.1):p:=f ⟨h⟩
theorem Kg(h:q)(f:Wd q→p:=by intro z';exact x_next ⟨.inr p1q,z'.1⟩):p:=f ⟨h⟩
theorem K6v(h:q)(f:Wd q→p:=by intro z';exact x_one (i:=16) p1q rfl z'.1):p:=f ⟨h⟩
theorem K7y(h:q)(f:Wd q→p:=by intro z';exact x_done p1q z'.1):p:=f ⟨h⟩
theorem Kb(h:q)(f:Wd q→p:=by intro z';exact s_val rfl rfl (v_move rfl hs0) z'.1):p:=f ⟨h⟩
theorem K1q(h:q)(f:Wd q→p:=by intro z';exact s_val rfl rfl (v_fa fa261_2 rfl rfl) z'.1):p:=f ⟨h⟩
theorem Kcd(h:q)(f:Wd q→p:=by intro z';exact s_val rfl rfl (v_load1 rfl rfl Tryz.underlying4 rfl ((cx.row 2 rfl).cell 2 rfl)) z'.1):p:=f ⟨h⟩
theorem Kad(h:q)(f:Wd q→p:=by intro z';exact s_val rfl rfl (v_load rfl rfl Tryz.underlying76 rfl sz76 (cx.row 0 rfl) rfl) z'.1):p:=f ⟨h⟩
theorem Kga(h:q)(f:Wd q→p:=by intro z';exact s_val rfl rfl (v_build bd78 rfl rfl) z'.1):p:=f ⟨h⟩
theorem K4y(h:q)(f:Wd q→p:=by intro z';exact s_val rfl rfl (v_neB (u:=[]) rfl rfl rfl) z'.1):p:=f ⟨h⟩
theorem K42(h:q)(f:Wd q→p:=by intro z';exact s_val rfl rfl (v_fa fa78_0 rfl rfl) z'.1):p:=f ⟨h⟩
theorem K1v(h:q)(f:Wd q→p:=by intro z';exact s_val rfl rfl (v_move rfl hs9) z'.1):p:=f ⟨h⟩
theorem K3c(h:q)(f:Wd q→p:=by intro z';exact ret_tmp2 Tryz.results254 rfl rfl z'.1):p:=f ⟨h⟩
theorem Kd(h:q)(f:Wd q→p:=by intro z';exact x_next ⟨.inl (cx.pick1 0 rfl),z'.1⟩):p:=f ⟨h⟩
theorem K43(h:q)(f:Wd q→p:=by intro z';exact x_one (i:=15) p1q rfl z'.1):p:=f ⟨h⟩
theorem Kce(h:q)(f:Wd q→p:=by intro z';exact s_val rfl rfl ((show (execOp _ _).run _ _=.ok (.value (.int .u8 ((x.toNat:Nat):Int))) _ from v_idxB (s:=(x::y)) (m:=0) rfl rfl rfl Tryz.underlying9 (by omega) p12q)) z'.1):p:=f ⟨h⟩
theorem K2t(h:q)(f:Wd q→p:=by intro z';exact x_one (i:=11) p1q rfl z'.1):p:=f ⟨h⟩
theorem K3d(h:q)(f:Wd q→p:=by intro z';exact x_one (i:=12) p1q rfl z'.1):p:=f ⟨h⟩
theorem K3e(h:q)(f:Wd q→p:=by intro z';exact x_one (i:=13) p1q rfl z'.1):p:=f ⟨h⟩
theorem K2u(h:q)(f:Wd q→p:=by intro z';exact x_one (i:=14) p1q rfl z'.1):p:=f ⟨h⟩
theorem Kn(h:q)(f:Wd q→p:=by intro z';exact x_next ⟨.inl (Ctx.sub0 cx),z'.1⟩):p:=f ⟨h⟩
theorem K3f(h:q)(f:Wd q→p:=by intro z';exact s_val rfl rfl (v_ia Tryz.underlying79 sz5 rfl rfl rfl (by omega) (by omega)) z'.1):p:=f ⟨h⟩
theorem Kp(h:q)(f:Wd q→p:=by intro z';exact s_val rfl rfl (v_move rfl hs2) z'.1):p:=f ⟨h⟩
theorem Kr(h:q)(f:Wd q→p:=by intro z';exact s_val rfl rfl (v_move rfl hs3) z'.1):p:=f ⟨h⟩
theorem Ke(h:q)(f:Wd q→p:=by intro z';exact s_val rfl rfl (v_move rfl hs4) z'.1):p:=f ⟨h⟩
theorem K1k(h:q)(f:Wd q→p:=by intro z';exact s_val rfl rfl (v_ia Tryz.underlying81 sz133 rfl rfl rfl (by omega) (by omega)) z'.1):p:=f ⟨h⟩
theorem K2v(h:q)(f:Wd q→p:=by intro z';exact s_val rfl rfl (v_move rfl hs13) z'.1):p:=f ⟨h⟩
theorem Kw(h:q)(f:Wd q→p:=by intro z';exact s_val rfl rfl (v_move rfl hs10) z'.1):p:=f ⟨h⟩
theorem Kcf(h:q)(f:Wd q→p:=by intro z';exact ret_cell2 Tryz.results269 hs2 rfl (cx.at 0 rfl) Tryz.underlying76 rfl sz76 z'.1):p:=f ⟨h⟩
theorem Kcg(h:q)(f:Wd q→p:=by intro z';exact ret_cell2 Tryz.results201 hs2 rfl (cx.at 0 rfl) Tryz.underlying76 rfl sz76 z'.1):p:=f ⟨h⟩
theorem K12(h:q)(f:Wd q→p:=by intro z';exact s_val rfl rfl (v_load1 rfl rfl Tryz.underlying3 rfl (cx.cell 0 rfl rfl)) z'.1):p:=f ⟨h⟩
theorem K23(h:q)(f:Wd q→p:=by intro z';exact s_gval rfl rfl rfl wT (fun hc=>v_load1 rfl gX Tryz.underlying3 rfl (cx.cell 0 rfl rfl)) z'.1):p:=f ⟨h⟩
theorem Kae(h:q)(f:Wd q→p:=by intro z';exact ret_cell2 Tryz.results23 hs2 rfl (cx.at 1 rfl) Tryz.underlying35 rfl sz35 z'.1):p:=f ⟨h⟩
theorem K7z(h:q)(f:Wd q→p:=by intro z';exact ret_tmp2 Tryz.results158 rfl rfl z'.1):p:=f ⟨h⟩
theorem K80(h:q)(f:Wd q→p:=by intro z';exact s_gval rfl rfl rfl wT (fun hc=>v_fa fa76_2 rfl gX) z'.1):p:=f ⟨h⟩
theorem K6w(h:q)(f:Wd q→p:=by intro z';exact s_val rfl rfl (v_fa fa339_1 rfl rfl) z'.1):p:=f ⟨h⟩
theorem Kaf(h:q)(f:Wd q→p:=by intro z';exact ret_cell2 Tryz.results255 rfl rfl (cx.at 1 rfl) Tryz.underlying83 rfl sz83 z'.1):p:=f ⟨h⟩
theorem Kv(h:q)(f:Wd q→p:=by intro z';exact s_val rfl rfl (v_move rfl hs8) z'.1):p:=f ⟨h⟩
theorem Kgb(h:q)(f:Wd q→p:=by intro z';exact s_val rfl rfl (v_add rfl hs9 rfl (by omega) (by omega)) z'.1):p:=f ⟨h⟩
theorem Kch(h:q)(f:Wd q→p:=by intro z';exact ret_cell2 Tryz.results388 rfl rfl (cx.at 0 rfl) Tryz.underlying76 rfl sz76 z'.1):p:=f ⟨h⟩
theorem Kq(h:q)(f:Wd q→p:=by intro z';exact ⟨cx.ext,_,rfl,z'.1⟩):p:=f ⟨h⟩
theorem K4z(h:q)(f:Wd q→p:=by intro z';exact s_gval rfl rfl rfl wT (fun hc=>v_move rfl hs4) z'.1):p:=f ⟨h⟩
theorem Ks(h:q)(f:Wd q→p:=by intro z';exact s_gval rfl rfl rfl wT (fun hc=>v_move rfl hs0) z'.1):p:=f ⟨h⟩
theorem K2h(h:q)(f:Wd q→p:=by intro z';exact s_gval rfl rfl rfl wT (fun hc=>v_idxB rfl gX gX Tryz.underlying9 p0q p0q) z'.1):p:=f ⟨h⟩
theorem K2i(h:q)(f:Wd q→p:=by intro z';exact s_val rfl rfl (v_cutMid rfl rfl rfl rfl Tryz.underlying9 (by omega) (by omega) (by omega)) z'.1):p:=f ⟨h⟩
theorem Kag(h:q)(f:Wd q→p:=by intro z';exact s_val rfl rfl (v_conv rfl rfl Tryz.underlying299 Tryz.underlying5) z'.1):p:=f ⟨h⟩
theorem K81(h:q)(f:Wd q→p:=by intro z';exact s_val rfl rfl (v_eqB (u:=[]) rfl rfl rfl) z'.1):p:=f ⟨h⟩
theorem K2w(h:q)(f:Wd q→p:=by intro z';exact s_gval rfl rfl rfl wT (fun hc=>v_idxB rfl gX rfl Tryz.underlying9 p0q p0q) z'.1):p:=f ⟨h⟩
theorem Kci(h:q)(f:Wd q→p:=by intro z';exact s_val rfl rfl (v_strAddB (a:=((itoa e.fr)++[32])) (b:=itoa e.to) rfl rfl rfl p3q) z'.1):p:=f ⟨h⟩
theorem Kcj(h:q)(f:Wd q→p:=by intro z';exact s_val rfl rfl (v_strAddB (a:=(((itoa e.fr)++[32])++itoa e.to)) (b:=[32]) rfl rfl rfl p3q) z'.1):p:=f ⟨h⟩
theorem Kt(h:q)(f:Wd q→p:=by intro z';exact s_val rfl rfl (v_strAddB rfl rfl rfl p2q) z'.1):p:=f ⟨h⟩
theorem K1r(h:q)(f:Wd q→p:=by intro z';exact x_one (i:=10) p1q rfl z'.1):p:=f ⟨h⟩
theorem K1w(h:q)(f:Wd q→p:=by intro z';exact s_val rfl rfl (v_band rfl rfl rfl) z'.1):p:=f ⟨h⟩
theorem K1c(h:q)(f:Wd q→p:=by intro z';exact x_one (i:=9) p1q rfl z'.1):p:=f ⟨h⟩
theorem K44(h:q)(f:Wd q→p:=by intro z';exact x_next ⟨.inl p16q,z'.1⟩):p:=f ⟨h⟩
theorem K1s(h:q)(f:Wd q→p:=by intro z';exact x_one (i:=7) p1q rfl z'.1):p:=f ⟨h⟩
theorem K1h(h:q)(f:Wd q→p:=by intro z';exact x_one (i:=8) p1q rfl z'.1):p:=f ⟨h⟩
theorem Kck(h:q)(f:Wd q→p:=by intro z';exact s_val rfl rfl (v_strAddB (a:=((([105,110,100,101,120,32]++nameT x.fmt)++[32])++itoa x.size)) (b:=[32]) rfl rfl rfl p3q) z'.1):p:=f ⟨h⟩
theorem K1l(h:q)(f:Wd q→p:=by intro z';exact w_quiet cx mixed p1q z'.1):p:=f ⟨h⟩
theorem K24(h:q)(f:Wd q→p:=by intro z';exact q_val rfl rfl (fun w cx hwQ=>v_move rfl hs0) z'.1):p:=f ⟨h⟩
theorem K45(h:q)(f:Wd q→p:=by intro z';exact q_val rfl rfl (fun w cx hwQ=>v_move rfl hs4) z'.1):p:=f ⟨h⟩
theorem Kah(h:q)(f:Wd q→p:=by intro z';exact q_val rfl rfl (fun w cx hwQ=>v_add rfl rfl rfl (by omega) (by omega)) z'.1):p:=f ⟨h⟩
theorem K2x(h:q)(f:Wd q→p:=by intro z';exact q_val rfl rfl (fun w cx hwQ=>v_assign rfl rfl) z'.1):p:=f ⟨h⟩
theorem K1x(h:q)(f:Wd q→p:=by intro z';exact ⟨cx.ext,z'.1⟩):p:=f ⟨h⟩
theorem Kx(h:q)(f:Wd q→p:=by intro z';exact s_gval rfl rfl rfl wF (fun hc=>v_move rfl hs0) z'.1):p:=f ⟨h⟩
theorem K2j(h:q)(f:Wd q→p:=by intro z';exact s_gval rfl rfl rfl wF (fun hc=>v_move rfl hs4) z'.1):p:=f ⟨h⟩
theorem K6x(h:q)(f:Wd q→p:=by intro z';exact s_gval rfl rfl rfl wF (fun hc=>v_idxB rfl gX gX Tryz.underlying9 p0q p0q) z'.1):p:=f ⟨h⟩
theorem K82(h:q)(f:Wd q→p:=by intro z';exact s_val rfl rfl (v_ofByte rfl rfl Tryz.underlying5 Tryz.underlying3 (Int.natCast_nonneg _) (u8n_lt _)) z'.1):p:=f ⟨h⟩
theorem Kh(h:q)(f:Wd q→p:=by intro z';exact s_val rfl rfl (v_move rfl hs5) z'.1):p:=f ⟨h⟩
theorem K6y(h:q)(f:Wd q→p:=by intro z';exact t_val rfl rfl (v_move rfl hs0) z'.1):p:=f ⟨h⟩
theorem K83(h:q)(f:Wd q→p:=by intro z';exact t_val rfl rfl (v_move rfl hs5) z'.1):p:=f ⟨h⟩
theorem Kcl(h:q)(f:Wd q→p:=by intro z';exact t_val rfl rfl (v_ia Tryz.underlying28 sz107 rfl rfl rfl (by omega) (by omega)) z'.1):p:=f ⟨h⟩
theorem K1d(h:q)(f:Wd q→p:=by intro z';exact wp_cond_false (show (St _ _).eval _=_ by rw [eval_St];rfl) z'.1):p:=f ⟨h⟩
theorem K46(h:q)(f:Wd q→p:=by intro z';exact wp_cond_true (show (St _ _).eval _=_ by rw [eval_St];rfl) z'.1):p:=f ⟨h⟩
theorem K47(h:q)(f:Wd q→p:=by intro z';exact s_val rfl rfl (v_conv rfl rfl Tryz.underlying3 Tryz.underlying237) z'.1):p:=f ⟨h⟩
theorem Kai(h:q)(f:Wd q→p:=by intro z';exact s_val rfl rfl (v_conv rfl rfl Tryz.underlying3 Tryz.underlying299) z'.1):p:=f ⟨h⟩
theorem K50(h:q)(f:Wd q→p:=by intro z';exact s_val rfl rfl (v_subK rfl rfl rfl) z'.1):p:=f ⟨h⟩
theorem Ky(h:q)(f:Wd q→p:=by intro z';exact s_val rfl rfl (v_move rfl hs1) z'.1):p:=f ⟨h⟩
theorem K84(h:q)(f:Wd q→p:=by intro z';exact s_val rfl rfl (v_move rfl hs15) z'.1):p:=f ⟨h⟩
theorem Kcm(h:q)(f:Wd q→p:=by intro z';exact s_val rfl rfl (v_idxStr rfl rfl rfl Tryz.underlying9 (by omega) (by show _<(36:Int);omega)) z'.1):p:=f ⟨h⟩
theorem Kaj(h:q)(f:Wd q→p:=by intro z';exact s_val rfl rfl (v_iaA Tryz.underlying360 szA rfl hs12 rfl (by decide) (by decide)) z'.1):p:=f ⟨h⟩
theorem Kcn(h:q)(f:Wd q→p:=by intro z';exact s_val rfl rfl (v_slA rfl hs12 rfl Tryz.underlying360 szA (by decide) (by decide)) z'.1):p:=f ⟨h⟩
theorem K85(h:q)(f:Wd q→p:=by intro z';exact s_val rfl rfl (v_move rfl hs14) z'.1):p:=f ⟨h⟩
theorem K3g(h:q)(f:Wd q→p:=by intro z';exact s_val rfl rfl (v_shr rfl rfl rfl (by decide)) z'.1):p:=f ⟨h⟩
theorem K51(h:q)(f:Wd q→p:=by intro z';exact s_val rfl rfl (v_lenString rfl rfl Tryz.underlying9) z'.1):p:=f ⟨h⟩
theorem K1e(h:q)(f:Wd q→p:=by intro z';exact s_gval rfl rfl rfl wT (fun hc=>v_move rfl hs3) z'.1):p:=f ⟨h⟩
theorem K52(h:q)(f:Wd q→p:=by intro z';exact s_gval rfl rfl rfl wT (fun hc=>v_idxStr rfl gX gX Tryz.underlying9 p0q p0q) z'.1):p:=f ⟨h⟩
theorem Kco(h:q)(f:Wd q→p:=by intro z';exact s_gval rfl rfl rfl wF (fun hc=>v_move rfl hs3) z'.1):p:=f ⟨h⟩
theorem Kcp(h:q)(f:Wd q→p:=by intro z';exact s_gval rfl rfl rfl wF (fun hc=>v_idxStr rfl gX gX Tryz.underlying9 p0q p0q) z'.1):p:=f ⟨h⟩
theorem K2y(h:q)(f:Wd q→p:=by intro z';exact s_val rfl rfl (v_idxStr rfl rfl rfl Tryz.underlying9 (by omega) (by omega)) z'.1):p:=f ⟨h⟩
theorem K6z(h:q)(f:Wd q→p:=by intro z';exact s_val rfl rfl (v_strAddB rfl rfl rfl p5q) z'.1):p:=f ⟨h⟩
theorem K86(h:q)(f:Wd q→p:=by intro z';exact ret_enter Tryz.func254 rfl Tryz.ntmps254 rfl z'.1):p:=f ⟨h⟩
theorem Kcq(h:q)(f:Wd q→p:=by intro z';exact s_val rfl rfl ((show (execOp _ _).run _ _=.ok (.value (.int .u8 ((b.toNat:Nat):Int))) _ from by rw [← hb];exact v_idxB (m:=(p:Int)) rfl rfl rfl Tryz.underlying9 (by omega) (by omega))) z'.1):p:=f ⟨h⟩
theorem K70(h:q)(f:Wd q→p:=by intro z';exact s_val rfl rfl (v_rowStr cx rfl Tryz.underlying79 Tryz.underlying5 Tryz.underlying9 rfl) z'.1):p:=f ⟨h⟩
theorem K71(h:q)(f:Wd q→p:=by intro z';exact s_val rfl rfl (v_ia Tryz.underlying28 sz107 rfl rfl rfl (by omega) (by omega)) z'.1):p:=f ⟨h⟩
theorem K48(h:q)(f:Wd q→p:=by intro z';exact s_val rfl rfl (v_fa fa107_0 rfl rfl) z'.1):p:=f ⟨h⟩
theorem Kcr(h:q)(f:Wd q→p:=by intro z';exact s_val rfl rfl (v_load1 rfl rfl Tryz.underlying4 rfl ((hr0.up cx.ext).cell 0 rfl)) z'.1):p:=f ⟨h⟩
theorem Kak(h:q)(f:Wd q→p:=by intro z';exact s_val rfl rfl (v_load rfl rfl Tryz.underlying107 rfl sz107 (hrw.up cx.ext) rfl) z'.1):p:=f ⟨h⟩
theorem Kcs(h:q)(f:Wd q→p:=by intro z';exact s_val rfl rfl (v_load1 rfl rfl Tryz.underlying4 rfl (cx.cell 0 rfl rfl)) z'.1):p:=f ⟨h⟩
theorem Kal(h:q)(f:Wd q→p:=by intro z';exact s_val rfl rfl (v_fa fa107_2 rfl rfl) z'.1):p:=f ⟨h⟩
theorem K87(h:q)(f:Wd q→p:=by intro z';exact s_val rfl rfl (v_add rfl hs18 rfl (by omega) (by omega)) z'.1):p:=f ⟨h⟩
theorem Kj(h:q)(f:Wd q→p:=by intro z';exact q_val rfl rfl (fun w cx hwQ=>v_move rfl rfl) z'.1):p:=f ⟨h⟩
theorem Kct(h:q)(f:Wd q→p:=by intro z';exact q_gval rfl rfl rfl (by exact w_tt rfl) (fun hc w cx hwQ=>v_fa fa107_1 rfl rfl) z'.1):p:=f ⟨h⟩
theorem Kcu(h:q)(f:Wd q→p:=by intro z';exact q_gval rfl rfl rfl (by exact w_tt rfl) (fun hc w cx hwQ=>v_load1 rfl (gve hc rfl) Tryz.underlying9 rfl (cx.cell 0 rfl rfl)) z'.1):p:=f ⟨h⟩
theorem K3h(h:q)(f:Wd q→p:=by intro z';exact q_val rfl rfl (fun w cx hwQ=>v_and rfl rfl rfl rfl) z'.1):p:=f ⟨h⟩
theorem K72(h:q)(f:Wd q→p:=by intro z';exact s_val rfl rfl (v_fa fa107_1 rfl rfl) z'.1):p:=f ⟨h⟩
theorem K15(h:q)(f:Wd q→p:=by intro z';exact s_val rfl rfl (v_load1 rfl rfl Tryz.underlying9 rfl (cx.cell 0 rfl rfl)) z'.1):p:=f ⟨h⟩
theorem K73(h:q)(f:Wd q→p:=by intro z';exact ret_tmp2 Tryz.results212 rfl rfl z'.1):p:=f ⟨h⟩
theorem K88(h:q)(f:Wd q→p:=by intro z';exact s_val rfl rfl (v_conv rfl rfl Tryz.underlying3 Tryz.underlying5) z'.1):p:=f ⟨h⟩
theorem Kcv(h:q)(f:Wd q→p:=by intro z';exact s_val rfl rfl (v_b2s rfl Tryz.underlying79 Tryz.underlying5 Tryz.underlying9 (ns:=[_]) (cx.row 0 rfl) rfl rfl) z'.1):p:=f ⟨h⟩
theorem K74(h:q)(f:Wd q→p:=by intro z';exact s_val rfl rfl (v_bor rfl rfl rfl) z'.1):p:=f ⟨h⟩
theorem Kam(h:q)(f:Wd q→p:=by intro z';exact s_gval rfl rfl rfl wF (fun hc=>v_lenString rfl gX Tryz.underlying9) z'.1):p:=f ⟨h⟩
theorem K89(h:q)(f:Wd q→p:=by intro z';exact ret_tmp2 Tryz.results152 rfl rfl z'.1):p:=f ⟨h⟩
theorem Kcw(h:q)(f:Wd q→p:=by intro z';exact s_val rfl rfl (v_ofByte rfl rfl Tryz.underlying5 Tryz.underlying3 (by first | exact byteAt_lo _ _ | omega) (by first | exact byteAt_hi _ _ | omega)) z'.1):p:=f ⟨h⟩
theorem Kk(h:q)(f:Wd q→p:=by intro z';exact s_val rfl rfl (v_move rfl hs7) z'.1):p:=f ⟨h⟩
theorem K75(h:q)(f:Wd q→p:=by intro z';exact s_val rfl rfl (v_shl rfl rfl rfl (by decide)) z'.1):p:=f ⟨h⟩
theorem K76(h:q)(f:Wd q→p:=by intro z';exact s_gval rfl rfl rfl wF (fun hc=>v_move rfl hs1) z'.1):p:=f ⟨h⟩
theorem Kan(h:q)(f:Wd q→p:=by intro z';exact s_gval rfl rfl rfl wF (fun hc=>v_add rfl gX gX p0q p0q) z'.1):p:=f ⟨h⟩
theorem K8a(h:q)(f:Wd q→p:=by intro z';exact ret_tmp Tryz.results193 rfl z'.1):p:=f ⟨h⟩
theorem K8b(h:q)(f:Wd q→p:=by intro z';exact s_val rfl rfl (v_ofByte rfl rfl Tryz.underlying5 Tryz.underlying3 p9q p9q) z'.1):p:=f ⟨h⟩
theorem K77(h:q)(f:Wd q→p:=by intro z';exact ret_tmp2 Tryz.results191 rfl rfl z'.1):p:=f ⟨h⟩
theorem K78(h:q)(f:Wd q→p:=by intro z';exact ret_tmp2 Tryz.results121 rfl rfl z'.1):p:=f ⟨h⟩
theorem Kc(h:q)(f:Wd q→p:=by intro z';exact s_val rfl rfl (v_move rfl hs6) z'.1):p:=f ⟨h⟩
theorem K53(h:q)(f:Wd q→p:=by intro z';exact s_gval rfl rfl rfl wF (fun hc=>v_move rfl hs6) z'.1):p:=f ⟨h⟩
theorem K8c(h:q)(f:Wd q→p:=by intro z';exact ret_tmp Tryz.results15 rfl z'.1):p:=f ⟨h⟩
theorem Kcx(h:q)(f:Wd q→p:=by intro z';exact s_val rfl rfl (v_load1 rfl rfl Tryz.underlying4 rfl ((hrw.up cx.ext).cell 0 rfl)) z'.1):p:=f ⟨h⟩
theorem Kcy(h:q)(f:Wd q→p:=by intro z';exact s_gval rfl rfl rfl wT (fun hc=>v_ia Tryz.underlying28 sz107 rfl gX gX p0q p0q) z'.1):p:=f ⟨h⟩
theorem Kao(h:q)(f:Wd q→p:=by intro z';exact s_gval rfl rfl rfl wT (fun hc=>v_strNe rfl gX rfl) z'.1):p:=f ⟨h⟩
theorem K8d(h:q)(f:Wd q→p:=by intro z';exact s_gval rfl rfl rfl wF (fun hc=>v_ia Tryz.underlying28 sz107 rfl gX gX p0q p0q) z'.1):p:=f ⟨h⟩
theorem K8e(h:q)(f:Wd q→p:=by intro z';exact s_gval rfl rfl rfl wF (fun hc=>v_fa fa107_2 rfl gX) z'.1):p:=f ⟨h⟩
theorem Kcz(h:q)(f:Wd q→p:=by intro z';exact s_gval rfl rfl rfl wF (fun hc=>v_load1 rfl gX Tryz.underlying3 rfl ((hrw.up cx.ext).cell 2 rfl)) z'.1):p:=f ⟨h⟩
theorem K8f(h:q)(f:Wd q→p:=by intro z';exact s_gval rfl rfl rfl wF (fun hc=>v_fa fa107_1 rfl gX) z'.1):p:=f ⟨h⟩
theorem Kd0(h:q)(f:Wd q→p:=by intro z';exact s_gval rfl rfl rfl wF (fun hc=>v_load1 rfl gX Tryz.underlying9 rfl ((hrw.up cx.ext).cell 1 rfl)) z'.1):p:=f ⟨h⟩
theorem K8g(h:q)(f:Wd q→p:=by intro z';exact ret_tmp Tryz.results40 rfl z'.1):p:=f ⟨h⟩
theorem Kap(h:q)(f:Wd q→p:=by intro z';exact s_val rfl rfl (v_cmp rfl hs10 hs9 rfl) z'.1):p:=f ⟨h⟩
theorem K54(h:q)(f:Wd q→p:=by intro z';exact s_gval rfl rfl rfl wF (fun hc=>v_load1 rfl gX Tryz.underlying3 rfl (cx.cell 0 rfl rfl)) z'.1):p:=f ⟨h⟩
theorem K8h(h:q)(f:Wd q→p:=by intro z';exact s_val rfl rfl (v_add rfl hs10 rfl (by omega) (by omega)) z'.1):p:=f ⟨h⟩
theorem K8i(h:q)(f:Wd q→p:=by intro z';exact s_gval rfl rfl rfl wF (fun hc=>v_load1 rfl gX Tryz.underlying9 rfl (cx.cell 0 rfl rfl)) z'.1):p:=f ⟨h⟩
theorem Kd1(h:q)(f:Wd q→p:=by intro z';exact s_val rfl rfl (v_build (qs:=[(0,.bool true),(2,.int .i64 m)]) (bdA107 _) rfl rfl) z'.1):p:=f ⟨h⟩
theorem K29(h:q)(f:Wd q→p:=by intro z';exact s_val rfl rfl (v_cutTo rfl rfl rfl Tryz.underlying9 (by omega) (by omega)) z'.1):p:=f ⟨h⟩
theorem Kgc(h:q)(f:Wd q→p:=by intro z';exact s_val rfl rfl (v_eqB (u:=[46]) rfl rfl rfl) z'.1):p:=f ⟨h⟩
theorem K2k(h:q)(f:Wd q→p:=by intro z';exact s_gval rfl rfl rfl wT (fun hc=>v_load1 rfl gX Tryz.underlying9 rfl (cx.cell 0 rfl rfl)) z'.1):p:=f ⟨h⟩
theorem Kaq(h:q)(f:Wd q→p:=by intro z';exact s_gval rfl rfl rfl wT (fun hc=>v_cutTo rfl gX rfl Tryz.underlying9 p0q p0q) z'.1):p:=f ⟨h⟩
theorem K3i(h:q)(f:Wd q→p:=by intro z';exact s_val rfl rfl (v_load1 rfl hs4 Tryz.underlying9 rfl (cx.cell 0 rfl rfl)) z'.1):p:=f ⟨h⟩
theorem K55(h:q)(f:Wd q→p:=by intro z';exact s_gval rfl rfl rfl wT (fun hc=>v_move rfl hs6) z'.1):p:=f ⟨h⟩
theorem K8j(h:q)(f:Wd q→p:=by intro z';exact s_gval rfl rfl rfl wT (fun hc=>v_lenSlice rfl gX Tryz.underlying28) z'.1):p:=f ⟨h⟩
theorem K3j(h:q)(f:Wd q→p:=by intro z';exact s_gval rfl rfl rfl wT (fun hc=>v_load1 rfl hs4 Tryz.underlying9 rfl (cx.cell 0 rfl rfl)) z'.1):p:=f ⟨h⟩
theorem K49(h:q)(f:Wd q→p:=by intro z';exact s_gval rfl rfl rfl wT (fun hc=>v_move rfl hs8) z'.1):p:=f ⟨h⟩
theorem K79(h:q)(f:Wd q→p:=by intro z';exact s_gval rfl rfl rfl wF (fun hc=>v_move rfl hs8) z'.1):p:=f ⟨h⟩
theorem Kd2(h:q)(f:Wd q→p:=by intro z';exact s_gval rfl rfl rfl wF (fun hc=>v_load1 rfl hs4 Tryz.underlying9 rfl (cx.cell 0 rfl rfl)) z'.1):p:=f ⟨h⟩
theorem Kd3(h:q)(f:Wd q→p:=by intro z';exact s_gval rfl rfl rfl wT (fun hc=>v_cmp rfl ((gve hc rfl).trans (hp114 hc)) rfl rfl) z'.1):p:=f ⟨h⟩
theorem Kd4(h:q)(f:Wd q→p:=by intro z';exact s_gval rfl rfl rfl wF (fun hc=>v_neB rfl ((gve hc rfl).trans (hp135 hc)) (gve hc rfl)) z'.1):p:=f ⟨h⟩
theorem K8k(h:q)(f:Wd q→p:=by intro z';exact s_val rfl rfl (v_rem (q:=10) rfl rfl rfl (by decide)) z'.1):p:=f ⟨h⟩
theorem K8l(h:q)(f:Wd q→p:=by intro z';exact s_val rfl rfl (v_quo (q:=10) rfl rfl rfl (by omega) (by decide)) z'.1):p:=f ⟨h⟩
theorem K4a(h:q)(f:Wd q→p:=by intro z';exact ⟨cx.ext,congrArg (fun l=>Value.string (bs l)) z'.1⟩):p:=f ⟨h⟩
theorem K4b(h:q)(f:Wd q→p:=by intro z';exact s_val rfl rfl ((show (execOp _ _).run Tryz.prog _=.ok (.value (.int .u8 ((i:Nat):Int))) _ from (v_conv rfl rfl Tryz.underlying3 Tryz.underlying5).trans p1cq)) z'.1):p:=f ⟨h⟩
theorem K8m(h:q)(f:Wd q→p:=by intro z';exact s_gval rfl rfl rfl wT (fun hc=>v_cutTo rfl gX gX Tryz.underlying9 p0q p0q) z'.1):p:=f ⟨h⟩
theorem K8n(h:q)(f:Wd q→p:=by intro z';exact s_gval rfl rfl rfl wT (fun hc=>v_eqB rfl gX gX) z'.1):p:=f ⟨h⟩
theorem K8o(h:q)(f:Wd q→p:=by intro z';exact s_gval rfl rfl rfl wT (fun hc=>v_move rfl hs5) z'.1):p:=f ⟨h⟩
theorem Kar(h:q)(f:Wd q→p:=by intro z';exact s_val rfl rfl (v_build bd107 rfl rfl) z'.1):p:=f ⟨h⟩
theorem Kas(h:q)(f:Wd q→p:=by intro z';exact ret_cell2 Tryz.results179 hs2 rfl (cx.at 0 rfl) Tryz.underlying107 rfl sz107 z'.1):p:=f ⟨h⟩
theorem Kat(h:q)(f:Wd q→p:=by intro z';exact ret_cell2 Tryz.results179 rfl rfl (cx.at 0 rfl) Tryz.underlying107 rfl sz107 z'.1):p:=f ⟨h⟩
theorem K7a(h:q)(f:Wd q→p:=by intro z';exact ret_tmp2 Tryz.results113 rfl rfl z'.1):p:=f ⟨h⟩
theorem K7b(h:q)(f:Wd q→p:=by intro z';exact s_gval rfl rfl rfl wF (fun hc=>v_lenSlice rfl gX Tryz.underlying28) z'.1):p:=f ⟨h⟩
theorem K2l(h:q)(f:Wd q→p:=by intro z';exact q_val rfl rfl (fun w cx hwQ=>v_idxB rfl rfl rfl Tryz.underlying9 (by omega) (by omega)) z'.1):p:=f ⟨h⟩
theorem K7c(h:q)(f:Wd q→p:=by intro z';exact q_val rfl rfl (fun w cx hwQ=>v_move rfl hs6) z'.1):p:=f ⟨h⟩
theorem K25(h:q)(f:Wd q→p:=by intro z';exact q_val rfl rfl (fun w cx hwQ=>v_cmp rfl rfl rfl rfl) z'.1):p:=f ⟨h⟩
theorem Kd5(h:q)(f:Wd q→p:=by intro z';exact q_call (v:=.int .i64 (hxv _)) rfl rfl (runs_fn Tryz.func400 rfl rfl rfl (cons_eq rfl rfl)) (fun w cx hwQ=>c400 _ _) z'.1):p:=f ⟨h⟩
theorem Kd6(h:q)(f:Wd q→p:=by intro z';exact s_gval rfl rfl rfl wF (fun hc=>v_idxB rfl gX rfl Tryz.underlying9 p0q p0q) z'.1):p:=f ⟨h⟩
theorem K8p(h:q)(f:Wd q→p:=by intro z';exact ret_tmp2 Tryz.results324 rfl rfl z'.1):p:=f ⟨h⟩
theorem K8q(h:q)(f:Wd q→p:=by intro z';exact s_gval rfl rfl rfl wT (fun hc=>v_move rfl hs1) z'.1):p:=f ⟨h⟩
theorem K8r(h:q)(f:Wd q→p:=by intro z';exact s_gval rfl rfl rfl wT (fun hc=>v_sub rfl gX rfl p0q p0q) z'.1):p:=f ⟨h⟩
theorem Kgd(h:q)(f:Wd q→p:=by intro z';exact s_val rfl rfl (v_build bd76 rfl rfl) z'.1):p:=f ⟨h⟩
theorem Kau(h:q)(f:Wd q→p:=by intro z';exact ret_cell2 Tryz.results283 rfl rfl (cx.at 0 rfl) Tryz.underlying76 rfl sz76 z'.1):p:=f ⟨h⟩
theorem K3k(h:q)(f:Wd q→p:=by intro z';exact s_val rfl rfl (v_neg rfl rfl (by omega) (by omega)) z'.1):p:=f ⟨h⟩
theorem K8s(h:q)(f:Wd q→p:=by intro z';exact s_val rfl rfl (v_move rfl hs12) z'.1):p:=f ⟨h⟩
theorem K1y(h:q)(f:Wd q→p:=by intro z';exact s_val rfl rfl (v_move rfl hs11) z'.1):p:=f ⟨h⟩
theorem Kav(h:q)(f:Wd q→p:=by intro z';exact s_val rfl rfl (v_quo (q:=8) rfl rfl rfl (by omega) (by decide)) z'.1):p:=f ⟨h⟩
theorem K4c(h:q)(f:Wd q→p:=by intro z';exact s_val rfl rfl (v_lenSlice rfl rfl Tryz.underlying79) z'.1):p:=f ⟨h⟩
theorem Kd7(h:q)(f:Wd q→p:=by intro z';exact s_val rfl rfl (v_subQ (r:=((7-i%8:Nat):Int)) rfl rfl rfl (by omega) (by omega) (by omega)) z'.1):p:=f ⟨h⟩
theorem Kd8(h:q)(f:Wd q→p:=by intro z';exact s_val rfl rfl (v_cw64 (m:=7-i%8) rfl rfl Tryz.underlying3 Tryz.underlying237 (by omega)) z'.1):p:=f ⟨h⟩
theorem Kaw(h:q)(f:Wd q→p:=by intro z';exact s_val rfl rfl (v_shr rfl rfl rfl (by omega)) z'.1):p:=f ⟨h⟩
theorem Kax(h:q)(f:Wd q→p:=by intro z';exact s_gval rfl rfl rfl wT (fun hc=>v_lenSlice rfl gX Tryz.underlying79) z'.1):p:=f ⟨h⟩
theorem Kd9(h:q)(f:Wd q→p:=by intro z';exact s_gval rfl rfl rfl wT (fun hc=>v_rem (q:=4) rfl p4q rfl (by decide)) z'.1):p:=f ⟨h⟩
theorem K7d(h:q)(f:Wd q→p:=by intro z';exact s_val rfl rfl (v_cmp rfl hs11 rfl rfl) z'.1):p:=f ⟨h⟩
theorem K8t(h:q)(f:Wd q→p:=by intro z';exact q_val rfl rfl (fun w cx hwQ=>v_move rfl hs1) z'.1):p:=f ⟨h⟩
theorem K8u(h:q)(f:Wd q→p:=by intro z';exact q_val rfl rfl (fun w cx hwQ=>v_move rfl hs5) z'.1):p:=f ⟨h⟩
theorem K56(h:q)(f:Wd q→p:=by intro z';exact q_gval rfl rfl rfl wT (fun hc w cx hwQ=>v_move rfl hs0) z'.1):p:=f ⟨h⟩
theorem Kay(h:q)(f:Wd q→p:=by intro z';exact q_gval rfl rfl rfl wT (fun hc w cx hwQ=>v_move rfl hs5) z'.1):p:=f ⟨h⟩
theorem K8v(h:q)(f:Wd q→p:=by intro z';exact q_gval rfl rfl rfl wT (fun hc w cx hwQ=>v_idxB rfl gX gX Tryz.underlying9 p0q p0q) z'.1):p:=f ⟨h⟩
theorem Kaz(h:q)(f:Wd q→p:=by intro z';exact q_gval rfl rfl rfl wT (fun hc w cx hwQ=>v_cmp rfl gX rfl rfl) z'.1):p:=f ⟨h⟩
theorem K7e(h:q)(f:Wd q→p:=by intro z';exact q_gval rfl rfl rfl wT (fun hc w cx hwQ=>v_move rfl gX) z'.1):p:=f ⟨h⟩
theorem Kda(h:q)(f:Wd q→p:=by intro z';exact q_gval rfl rfl rfl wF (fun hc w cx hwQ=>v_idxB rfl gX gX Tryz.underlying9 p0q p0q) z'.1):p:=f ⟨h⟩
theorem Kb0(h:q)(f:Wd q→p:=by intro z';exact q_gval rfl rfl rfl wF (fun hc w cx hwQ=>v_cmp rfl gX rfl rfl) z'.1):p:=f ⟨h⟩
theorem K2z(h:q)(f:Wd q→p:=by intro z';exact q_gval rfl rfl rfl wF (fun hc w cx hwQ=>v_move rfl gX) z'.1):p:=f ⟨h⟩
theorem K8w(h:q)(f:Wd q→p:=by intro z';exact q_gval rfl rfl rfl wT (fun hc w cx hwQ=>v_cmp rfl gX gX rfl) z'.1):p:=f ⟨h⟩
theorem Kdb(h:q)(f:Wd q→p:=by intro z';exact q_gval rfl rfl rfl wF (fun hc w cx hwQ=>v_and_g hc rfl rfl rfl rfl) z'.1):p:=f ⟨h⟩
theorem K30(h:q)(f:Wd q→p:=by intro z';exact q_val rfl rfl (fun w cx hwQ=>v_or rfl rfl rfl rfl) z'.1):p:=f ⟨h⟩
theorem K8x(h:q)(f:Wd q→p:=by intro z';exact s_val rfl rfl (v_ofByte rfl rfl Tryz.underlying5 Tryz.underlying3 (wr8 _).1 (wr8 _).2) z'.1):p:=f ⟨h⟩
theorem Kz(h:q)(f:Wd q→p:=by intro z';exact pu_one rfl (wnt_none rfl) (fun w cx=>v_move rfl rfl) z'.1):p:=f ⟨h⟩
theorem K8y(h:q)(f:Wd q→p:=by intro z';exact pu_one rfl (wnt_none rfl) (fun w cx=>v_cutTo rfl rfl rfl Tryz.underlying9 (by omega) (by omega)) z'.1):p:=f ⟨h⟩
theorem Kdc(h:q)(f:Wd q→p:=by intro z';exact pu_one rfl (wnt_none rfl) (fun w cx=>v_cutMid rfl rfl rfl rfl Tryz.underlying9 (by omega) (by omega) (by omega)) z'.1):p:=f ⟨h⟩
theorem K7f(h:q)(f:Wd q→p:=by intro z';exact x_one (i:=2) p1q rfl z'.1):p:=f ⟨h⟩
theorem K31(h:q)(f:Wd q→p:=by intro z';exact x_one (i:=5) p1q rfl z'.1):p:=f ⟨h⟩
theorem K8z(h:q)(f:Wd q→p:=by intro z';exact s_gval rfl rfl rfl wT (fun hc=>v_move rfl hs7) z'.1):p:=f ⟨h⟩
theorem K32(h:q)(f:Wd q→p:=by intro z';exact x_one (i:=6) p1q rfl z'.1):p:=f ⟨h⟩
theorem Kb1(h:q)(f:Wd q→p:=by intro z';exact s_val rfl rfl (v_build (qs:=[]) bd83z rfl rfl) z'.1):p:=f ⟨h⟩
theorem Kge(h:q)(f:Wd q→p:=by intro z';exact ret_cell2 Tryz.results255 rfl rfl (cx.at 0 rfl) Tryz.underlying83 rfl sz83 z'.1):p:=f ⟨h⟩
theorem Kdd(h:q)(f:Wd q→p:=by intro z';exact s_val rfl rfl (v_build (qs:=[(0,.int .i64 1),(1,.bool true)]) bd83t rfl rfl) z'.1):p:=f ⟨h⟩
theorem K90(h:q)(f:Wd q→p:=by intro z';exact s_val rfl rfl (v_load rfl rfl Tryz.underlying78 rfl sz78 (cx.row 0 rfl) rfl) z'.1):p:=f ⟨h⟩
theorem Kde(h:q)(f:Wd q→p:=by intro z';exact s_val rfl rfl (v_build (qs:=[(0,.int .i64 5),(5,.slice ab lb.length cb)]) (bd83b ab lb.length cb) rfl rfl) z'.1):p:=f ⟨h⟩
theorem Kdf(h:q)(f:Wd q→p:=by intro z';exact ret_cell2 Tryz.results256 rfl rfl (cx.at 1 rfl) Tryz.underlying133 rfl sz133 z'.1):p:=f ⟨h⟩
theorem K16(h:q)(f:Wd q→p:=by intro z';exact s_val rfl rfl (v_load rfl rfl Tryz.underlying83 rfl sz83 (cx.row 0 rfl) rfl) z'.1):p:=f ⟨h⟩
theorem Kdg(h:q)(f:Wd q→p:=by intro z';exact ret_cell2 Tryz.results178 rfl rfl (cx.at 0 rfl) Tryz.underlying83 rfl sz83 z'.1):p:=f ⟨h⟩
theorem Kdh(h:q)(f:Wd q→p:=by intro z';exact s_val rfl rfl (v_load rfl hs6 Tryz.underlying83 rfl sz83 (cx.row 0 rfl) rfl) z'.1):p:=f ⟨h⟩
theorem Kb2(h:q)(f:Wd q→p:=by intro z';exact ret_cell2 Tryz.results178 hs4 rfl (cx.at 1 rfl) Tryz.underlying83 rfl sz83 z'.1):p:=f ⟨h⟩
theorem K7g(h:q)(f:Wd q→p:=by intro z';exact s_val rfl rfl (v_load1 rfl rfl Tryz.underlying80 rfl (cx.cell 1 rfl rfl)) z'.1):p:=f ⟨h⟩
theorem K7h(h:q)(f:Wd q→p:=by intro z';exact s_val rfl rfl (v_load1 rfl rfl Tryz.underlying81 rfl (cx.cell 1 rfl rfl)) z'.1):p:=f ⟨h⟩
theorem Kgf(h:q)(f:Wd q→p:=by intro z';exact s_val rfl rfl (v_fa fa76_1 rfl rfl) z'.1):p:=f ⟨h⟩
theorem K91(h:q)(f:Wd q→p:=by intro z';exact s_gval rfl rfl rfl wT (fun hc=>v_fa fa76_1 rfl gX) z'.1):p:=f ⟨h⟩
theorem K7i(h:q)(f:Wd q→p:=by intro z';exact s_gval rfl rfl rfl wF (fun hc=>v_fa fa78_1 rfl gX) z'.1):p:=f ⟨h⟩
theorem K7j(h:q)(f:Wd q→p:=by intro z';exact s_gval rfl rfl rfl wF (fun hc=>v_fa fa78_2 rfl gX) z'.1):p:=f ⟨h⟩
theorem K7k(h:q)(f:Wd q→p:=by intro z';exact s_gval rfl rfl rfl wF (fun hc=>v_fa fa78_3 rfl gX) z'.1):p:=f ⟨h⟩
theorem K92(h:q)(f:Wd q→p:=by intro z';exact s_val rfl rfl (v_fa fa83_0 rfl rfl) z'.1):p:=f ⟨h⟩
theorem K93(h:q)(f:Wd q→p:=by intro z';exact s_gval rfl rfl rfl wT (fun hc=>v_fa fa83_1 rfl gX) z'.1):p:=f ⟨h⟩
theorem K94(h:q)(f:Wd q→p:=by intro z';exact s_gval rfl rfl rfl wT (fun hc=>v_load1 rfl gX Tryz.underlying4 rfl (cx.cell 0 rfl rfl)) z'.1):p:=f ⟨h⟩
theorem K57(h:q)(f:Wd q→p:=by intro z';exact s_gval rfl rfl rfl wT (fun hc=>v_fa fa83_2 rfl gX) z'.1):p:=f ⟨h⟩
theorem Kb3(h:q)(f:Wd q→p:=by intro z';exact s_gval rfl rfl rfl wT (fun hc=>v_load rfl p4q Tryz.underlying76 rfl sz76 (l:=[.bool v.sc.neg,.string v.sc.dig,.int .i64 v.sc.exp]) ((cx.row 0 rfl).sub 2 rfl) rfl) z'.1):p:=f ⟨h⟩
theorem Kdi(h:q)(f:Wd q→p:=by intro z';exact s_gval rfl rfl rfl wT (fun hc=>v_agg eqg76 (ne76 _ _ _) rfl p4q p4q) z'.1):p:=f ⟨h⟩
theorem K3l(h:q)(f:Wd q→p:=by intro z';exact s_gval rfl rfl rfl wT (fun hc=>v_fa fa83_3 rfl gX) z'.1):p:=f ⟨h⟩
theorem Kb4(h:q)(f:Wd q→p:=by intro z';exact s_gval rfl rfl rfl wT (fun hc=>v_load rfl p4q Tryz.underlying78 rfl sz78 (l:=[.int .i64 v.sc.tk,.int .i64 v.sc.td,.int .i64 v.sc.tn,.int .i64 v.sc.tz]) ((cx.row 0 rfl).sub 5 rfl) rfl) z'.1):p:=f ⟨h⟩
theorem Kdj(h:q)(f:Wd q→p:=by intro z';exact s_gval rfl rfl rfl wT (fun hc=>v_agg eqg78 (ne78 _ _ _ _) rfl p4q p4q) z'.1):p:=f ⟨h⟩
theorem Kgg(h:q)(f:Wd q→p:=by intro z';exact s_gval rfl rfl rfl wF (fun hc=>v_fa fa83_5 rfl gX) z'.1):p:=f ⟨h⟩
theorem Kgh(h:q)(f:Wd q→p:=by intro z';exact s_gval rfl rfl rfl wF (fun hc=>v_load1 rfl gX Tryz.underlying79 rfl (cx.cell 0 rfl rfl)) z'.1):p:=f ⟨h⟩
theorem Kgi(h:q)(f:Wd q→p:=by intro z';exact s_gval rfl rfl rfl wF (fun hc=>v_lenSlice rfl gX Tryz.underlying79) z'.1):p:=f ⟨h⟩
theorem Kdk(h:q)(f:Wd q→p:=by intro z';exact s_gval rfl rfl rfl wF (fun hc=>v_load1 rfl gX Tryz.underlying80 rfl (cx.cell 0 rfl rfl)) z'.1):p:=f ⟨h⟩
theorem Kdl(h:q)(f:Wd q→p:=by intro z';exact s_gval rfl rfl rfl wF (fun hc=>v_lenSlice rfl gX Tryz.underlying80) z'.1):p:=f ⟨h⟩
theorem Kdm(h:q)(f:Wd q→p:=by intro z';exact s_gval rfl rfl rfl wF (fun hc=>v_load1 rfl gX Tryz.underlying81 rfl (cx.cell 0 rfl rfl)) z'.1):p:=f ⟨h⟩
theorem Kdn(h:q)(f:Wd q→p:=by intro z';exact s_gval rfl rfl rfl wF (fun hc=>v_lenSlice rfl gX Tryz.underlying81) z'.1):p:=f ⟨h⟩
theorem K3m(h:q)(f:Wd q→p:=by intro z';exact s_val rfl rfl (v_fa fa133_0 rfl rfl) z'.1):p:=f ⟨h⟩
theorem K4d(h:q)(f:Wd q→p:=by intro z';exact s_val rfl rfl (v_load1 rfl rfl Tryz.underlying9 rfl ((hrw.up cx.ext).cell 0 rfl)) z'.1):p:=f ⟨h⟩
theorem Kdo(h:q)(f:Wd q→p:=by intro z';exact t_val rfl rfl (v_ia Tryz.underlying81 sz133 rfl rfl rfl (by omega) (by omega)) z'.1):p:=f ⟨h⟩
theorem Kdp(h:q)(f:Wd q→p:=by intro z';exact t_val rfl rfl (v_load1 rfl rfl Tryz.underlying9 rfl ((hrw.up cx.ext).cell 0 rfl)) z'.1):p:=f ⟨h⟩
theorem K95(h:q)(f:Wd q→p:=by intro z';exact s_val rfl rfl (v_fa fa83_2 rfl rfl) z'.1):p:=f ⟨h⟩
theorem Kb5(h:q)(f:Wd q→p:=by intro z';exact s_val rfl rfl (v_load rfl rfl Tryz.underlying76 rfl sz76 (l:=[.bool v.sc.neg,.string v.sc.dig,.int .i64 v.sc.exp]) ((cx.row 0 rfl).sub 2 rfl) rfl) z'.1):p:=f ⟨h⟩
theorem K58(h:q)(f:Wd q→p:=by intro z';exact s_gval rfl rfl rfl wF (fun hc=>v_fa fa83_0 rfl gX) z'.1):p:=f ⟨h⟩
theorem Kgj(h:q)(f:Wd q→p:=by intro z';exact s_val rfl rfl (v_fa fa83_4 rfl rfl) z'.1):p:=f ⟨h⟩
theorem Kgk(h:q)(f:Wd q→p:=by intro z';exact s_val rfl rfl (v_fa fa83_7 rfl rfl) z'.1):p:=f ⟨h⟩
theorem K59(h:q)(f:Wd q→p:=by intro z';exact s_val rfl rfl (v_load1 rfl rfl Tryz.underlying81 rfl (cx.cell 0 rfl rfl)) z'.1):p:=f ⟨h⟩
theorem K33(h:q)(f:Wd q→p:=by intro z';exact s_val rfl rfl (v_fa fa83_6 rfl rfl) z'.1):p:=f ⟨h⟩
theorem K3n(h:q)(f:Wd q→p:=by intro z';exact s_val rfl rfl (v_load1 rfl rfl Tryz.underlying80 rfl (cx.cell 0 rfl rfl)) z'.1):p:=f ⟨h⟩
theorem K5a(h:q)(f:Wd q→p:=by intro z';exact s_val rfl rfl (v_fa fa83_7 rfl hs1) z'.1):p:=f ⟨h⟩
theorem K96(h:q)(f:Wd q→p:=by intro z';exact s_val rfl rfl (v_fa fa133_1 rfl rfl) z'.1):p:=f ⟨h⟩
theorem Kb6(h:q)(f:Wd q→p:=by intro z';exact s_val rfl rfl (v_ia Tryz.underlying80 sz83 rfl rfl rfl (by omega) (by omega)) z'.1):p:=f ⟨h⟩
theorem Kb7(h:q)(f:Wd q→p:=by intro z';exact s_val rfl rfl (v_load rfl rfl Tryz.underlying83 rfl sz83 (cx.row 0 rfl) hv.len) z'.1):p:=f ⟨h⟩
theorem Kgl(h:q)(f:Wd q→p:=by intro z';exact s_val rfl rfl (v_fa fa76_1 rfl hs1) z'.1):p:=f ⟨h⟩
theorem K5b(h:q)(f:Wd q→p:=by intro z';exact s_val rfl rfl (v_fa fa76_2 rfl hs1) z'.1):p:=f ⟨h⟩
theorem K34(h:q)(f:Wd q→p:=by intro z';exact pu_one rfl (wnt_none rfl) (fun w cx=>v_move rfl hs3) z'.1):p:=f ⟨h⟩
theorem Kgm(h:q)(f:Wd q→p:=by intro z';exact pu_one rfl (wnt_none rfl) (fun w cx=>v_fa fa76_1 rfl hs1) z'.1):p:=f ⟨h⟩
theorem K97(h:q)(f:Wd q→p:=by intro z';exact pu_one rfl (wnt_none rfl) (fun w cx=>v_load1 rfl rfl Tryz.underlying9 rfl (cx.cell 0 rfl rfl)) z'.1):p:=f ⟨h⟩
theorem K5c(h:q)(f:Wd q→p:=by intro z';exact pu_one rfl (wnt_none rfl) (fun w cx=>v_strAddB rfl rfl rfl p2q) z'.1):p:=f ⟨h⟩
theorem K1z(h:q)(f:Wd q→p:=by intro z';exact pu_one rfl (wnt_none rfl) (fun w cx=>v_load1 rfl rfl Tryz.underlying3 rfl (cx.cell 0 rfl rfl)) z'.1):p:=f ⟨h⟩
theorem Kdq(h:q)(f:Wd q→p:=by intro z';exact pu_one rfl (wnt_none rfl) (fun w cx=>v_strAddB (b:=[46]) rfl rfl rfl p2q) z'.1):p:=f ⟨h⟩
theorem Kdr(h:q)(f:Wd q→p:=by intro z';exact pu_one rfl (wnt_none rfl) (fun w cx=>v_cutFrom rfl rfl rfl Tryz.underlying9 (by omega) (by omega)) z'.1):p:=f ⟨h⟩
theorem Kds(h:q)(f:Wd q→p:=by intro z';exact pu_one rfl (wnt_none rfl) (fun w cx=>v_strAddB (b:=[48,46]) rfl rfl rfl p2q) z'.1):p:=f ⟨h⟩
theorem Kdt(h:q)(f:Wd q→p:=by intro z';exact pu_one rfl (wnt_none rfl) (fun w cx=>v_neg rfl rfl (by omega) (by omega)) z'.1):p:=f ⟨h⟩
theorem K7l(h:q)(f:Wd q→p:=by intro z';exact x_one (i:=4) p1q rfl z'.1):p:=f ⟨h⟩
theorem Kb8(h:q)(f:Wd q→p:=by intro z';exact s_val rfl rfl (v_strAddB (b:=[46]) rfl rfl rfl p2q) z'.1):p:=f ⟨h⟩
theorem Kdu(h:q)(f:Wd q→p:=by intro z';exact s_val rfl rfl ((show (execOp _ _).run Tryz.prog _=.ok (.value (bv (UInt8.ofNat (48+n%10)))) _ from (v_conv rfl rfl Tryz.underlying3 Tryz.underlying5).trans (by rw [show (48:Int)+((n%10:Nat):Int)=((48+n%10:Nat):Int) by omega,bvOf (by omega)]))) z'.1):p:=f ⟨h⟩
theorem Kdv(h:q)(f:Wd q→p:=by intro z';exact s_val rfl rfl (v_quo (q:=1000000000) rfl rfl rfl (by omega) (by decide)) z'.1):p:=f ⟨h⟩
theorem Kdw(h:q)(f:Wd q→p:=by intro z';exact s_val rfl rfl (v_quo (q:=3600) rfl rfl rfl (by omega) (by decide)) z'.1):p:=f ⟨h⟩
theorem K4e(h:q)(f:Wd q→p:=by intro z';exact s_val rfl rfl (v_strAddB (b:=[58]) rfl rfl rfl p2q) z'.1):p:=f ⟨h⟩
theorem Kb9(h:q)(f:Wd q→p:=by intro z';exact s_val rfl rfl (v_quo (q:=60) rfl rfl rfl (by omega) (by decide)) z'.1):p:=f ⟨h⟩
theorem K7m(h:q)(f:Wd q→p:=by intro z';exact s_val rfl rfl (v_rem (q:=60) rfl rfl rfl (by decide)) z'.1):p:=f ⟨h⟩
theorem K98(h:q)(f:Wd q→p:=by intro z';exact s_val rfl rfl (v_fa fa78_1 rfl rfl) z'.1):p:=f ⟨h⟩
theorem K99(h:q)(f:Wd q→p:=by intro z';exact s_val rfl rfl (v_strAddB (b:=[45]) rfl rfl rfl p2q) z'.1):p:=f ⟨h⟩
theorem K9a(h:q)(f:Wd q→p:=by intro z';exact s_val rfl rfl (v_fa fa78_2 rfl rfl) z'.1):p:=f ⟨h⟩
theorem K5d(h:q)(f:Wd q→p:=by intro z';exact s_val rfl rfl (v_strAddB (b:=[84]) rfl rfl rfl p2q) z'.1):p:=f ⟨h⟩
theorem Kba(h:q)(f:Wd q→p:=by intro z';exact pu_one rfl (wnt_none rfl) (fun w cx=>v_fa fa78_2 rfl rfl) z'.1):p:=f ⟨h⟩
theorem Kbb(h:q)(f:Wd q→p:=by intro z';exact s_gval rfl rfl rfl wT (fun hc=>v_load rfl p4q Tryz.underlying76 rfl sz76 (l:=[.bool false,.string ByteArray.empty,.int .i64 0]) ((cx.row 0 rfl).sub 2 rfl) rfl) z'.1):p:=f ⟨h⟩
theorem K9b(h:q)(f:Wd q→p:=by intro z';exact s_gval rfl rfl rfl wT (fun hc=>v_load rfl p4q Tryz.underlying78 rfl sz78 (l:=[.int .i64 0,.int .i64 0,.int .i64 0,.int .i64 0]) ((cx.row 0 rfl).sub 5 rfl) rfl) z'.1):p:=f ⟨h⟩
theorem Kdx(h:q)(f:Wd q→p:=by intro z';exact s_val rfl rfl (v_load rfl rfl Tryz.underlying133 rfl sz133 (hrw.up cx.ext) rfl) z'.1):p:=f ⟨h⟩
theorem Kdy(h:q)(f:Wd q→p:=by intro z';exact s_val rfl rfl (v_load rfl rfl Tryz.underlying78 rfl sz78 (l:=[.int .i64 v.sc.tk,.int .i64 v.sc.td,.int .i64 v.sc.tn,.int .i64 v.sc.tz]) ((cx.row 0 rfl).sub 5 rfl) rfl) z'.1):p:=f ⟨h⟩
theorem K5e(h:q)(f:Wd q→p:=by intro z';exact s_val rfl rfl (v_fa fa83_5 rfl rfl) z'.1):p:=f ⟨h⟩
theorem K9c(h:q)(f:Wd q→p:=by intro z';exact s_val rfl rfl (v_load1 rfl rfl Tryz.underlying79 rfl (cx.cell 0 rfl rfl)) z'.1):p:=f ⟨h⟩
theorem Kdz(h:q)(f:Wd q→p:=by intro z';exact ret_cell2 Tryz.results112 rfl rfl (cx.at 0 rfl) Tryz.underlying83 rfl sz83 z'.1):p:=f ⟨h⟩
theorem Kbc(h:q)(f:Wd q→p:=by intro z';exact ret_cell2 Tryz.results112 rfl rfl (cx.at 1 rfl) Tryz.underlying83 rfl sz83 z'.1):p:=f ⟨h⟩
theorem K9d(h:q)(f:Wd q→p:=by intro z';exact s_gval rfl rfl rfl wF (fun hc=>v_neB rfl gX gX) z'.1):p:=f ⟨h⟩
theorem K9e(h:q)(f:Wd q→p:=by intro z';exact s_val rfl rfl (v_fa fa245_0 rfl rfl) z'.1):p:=f ⟨h⟩
theorem Kbd(h:q)(f:Wd q→p:=by intro z';exact s_val rfl rfl (v_load1 rfl rfl Tryz.underlying243 rfl (cx.cell 0 rfl rfl)) z'.1):p:=f ⟨h⟩
theorem K9f(h:q)(f:Wd q→p:=by intro z';exact s_val rfl rfl (v_fa fa245_1 rfl rfl) z'.1):p:=f ⟨h⟩
theorem K9g(h:q)(f:Wd q→p:=by intro z';exact s_gval rfl rfl rfl wT (fun hc=>v_fa fa83_4 rfl gX) z'.1):p:=f ⟨h⟩
theorem Ke0(h:q)(f:Wd q→p:=by intro z';exact s_gval rfl rfl rfl wT (fun hc=>v_load1 rfl gX Tryz.underlying79 rfl (cx.cell 0 rfl rfl)) z'.1):p:=f ⟨h⟩
theorem Ke1(h:q)(f:Wd q→p:=by intro z';exact s_gval rfl rfl rfl wT (fun hc=>v_load1 rfl gX Tryz.underlying80 rfl (cx.cell 0 rfl rfl)) z'.1):p:=f ⟨h⟩
theorem Ke2(h:q)(f:Wd q→p:=by intro z';exact s_gval rfl rfl rfl wT (fun hc=>v_lenSlice rfl gX Tryz.underlying80) z'.1):p:=f ⟨h⟩
theorem Ke3(h:q)(f:Wd q→p:=by intro z';exact s_gval rfl rfl rfl wT (fun hc=>v_load1 rfl gX Tryz.underlying81 rfl (cx.cell 0 rfl rfl)) z'.1):p:=f ⟨h⟩
theorem Ke4(h:q)(f:Wd q→p:=by intro z';exact s_gval rfl rfl rfl wT (fun hc=>v_lenSlice rfl gX Tryz.underlying81) z'.1):p:=f ⟨h⟩
theorem K1m(h:q)(f:Wd q→p:=by intro z';exact s_val rfl rfl (v_load1 rfl rfl Tryz.underlying3 rfl (cx.cell 1 rfl rfl)) z'.1):p:=f ⟨h⟩
theorem K5f(h:q)(f:Wd q→p:=by intro z';exact s_gval rfl rfl rfl wF (fun hc=>v_load rfl gX Tryz.underlying83 rfl sz83 (cx.row 0 rfl) rfl) z'.1):p:=f ⟨h⟩
theorem K9h(h:q)(f:Wd q→p:=by intro z';exact s_val rfl rfl (v_load rfl rfl Tryz.underlying83 rfl sz83 (cx.row 1 rfl) rfl) z'.1):p:=f ⟨h⟩
theorem Ke5(h:q)(f:Wd q→p:=by intro z';exact s_val rfl rfl (v_load1 rfl rfl Tryz.underlying79 rfl (cx.cell 1 rfl rfl)) z'.1):p:=f ⟨h⟩
theorem K9i(h:q)(f:Wd q→p:=by intro z';exact s_val rfl rfl (v_fa fa83_7 rfl hs2) z'.1):p:=f ⟨h⟩
theorem Kbe(h:q)(f:Wd q→p:=by intro z';exact s_val rfl rfl (v_cmp rfl hs38 hs37 rfl) z'.1):p:=f ⟨h⟩
theorem Ke6(h:q)(f:Wd q→p:=by intro z';exact s_val rfl rfl (v_load rfl hs2 Tryz.underlying83 rfl sz83 (cx.row 1 rfl) rfl) z'.1):p:=f ⟨h⟩
theorem Ke7(h:q)(f:Wd q→p:=by intro z';exact ret_cell Tryz.results304 hs4 (cx.at 0 rfl) Tryz.underlying83 rfl sz83 z'.1):p:=f ⟨h⟩
theorem Ke8(h:q)(f:Wd q→p:=by intro z';exact ret_cell Tryz.results227 rfl (cx.at 0 rfl) Tryz.underlying83 rfl sz83 z'.1):p:=f ⟨h⟩
theorem K9j(h:q)(f:Wd q→p:=by intro z';exact s_val rfl rfl (v_load rfl hs1 Tryz.underlying83 rfl sz83 (cx.row 1 rfl) rfl) z'.1):p:=f ⟨h⟩
theorem Ke9(h:q)(f:Wd q→p:=by intro z';exact ret_cell Tryz.results226 hs2 (cx.at 0 rfl) Tryz.underlying83 rfl sz83 z'.1):p:=f ⟨h⟩
theorem Kea(h:q)(f:Wd q→p:=by intro z';exact ret_cell Tryz.results156 rfl (cx.at 0 rfl) Tryz.underlying83 rfl sz83 z'.1):p:=f ⟨h⟩
theorem Kbf(h:q)(f:Wd q→p:=by intro z';exact ⟨gk2-1,_,by omega,rfl,i+1,by omega,hs0,hs1,rfl,h.eq z'.1⟩):p:=f ⟨h⟩
theorem Kgn(h:q)(f:Wd q→p:=by intro z';exact ret_no (.inr rfl) Tryz.results155 z'.1):p:=f ⟨h⟩
theorem Keb(h:q)(f:Wd q→p:=by intro z';exact q_val rfl rfl (fun w cx hwQ=>v_nilCk rfl rfl) z'.1):p:=f ⟨h⟩
theorem K9k(h:q)(f:Wd q→p:=by intro z';exact q_val rfl rfl (fun w cx hwQ=>v_fa fa261_2 rfl rfl) z'.1):p:=f ⟨h⟩
theorem Kec(h:q)(f:Wd q→p:=by intro z';exact q_val rfl rfl (fun w cx hwQ=>v_load1 rfl rfl Tryz.underlying4 rfl ((hr.up cx.ext).cell 2 rfl)) z'.1):p:=f ⟨h⟩
theorem Kgo(h:q)(f:Wd q→p:=by intro z';exact q_gval rfl rfl rfl wF (fun hc w cx hwQ=>v_nilCk rfl gX) z'.1):p:=f ⟨h⟩
theorem Kgp(h:q)(f:Wd q→p:=by intro z';exact q_gval rfl rfl rfl wF (fun hc w cx hwQ=>v_fa fa261_1 rfl gX) z'.1):p:=f ⟨h⟩
theorem Ked(h:q)(f:Wd q→p:=by intro z';exact q_gval rfl rfl rfl wF (fun hc w cx hwQ=>v_load1 rfl gX Tryz.underlying3 rfl ((hr.up cx.ext).cell 1 rfl)) z'.1):p:=f ⟨h⟩
theorem Kgq(h:q)(f:Wd q→p:=by intro z';exact q_gval rfl rfl rfl wF (fun hc w cx hwQ=>v_fa fa261_0 rfl gX) z'.1):p:=f ⟨h⟩
theorem Kee(h:q)(f:Wd q→p:=by intro z';exact q_gval rfl rfl rfl wF (fun hc w cx hwQ=>v_load1 rfl gX Tryz.underlying9 rfl ((hr.up cx.ext).cell 0 rfl)) z'.1):p:=f ⟨h⟩
theorem K3o(h:q)(f:Wd q→p:=by intro z';exact q_gval rfl rfl rfl wF (fun hc w cx hwQ=>v_lenB rfl gX Tryz.underlying9) z'.1):p:=f ⟨h⟩
theorem K9l(h:q)(f:Wd q→p:=by intro z';exact q_gval rfl rfl rfl wF (fun hc w cx hwQ=>v_cmp rfl gX gX rfl) z'.1):p:=f ⟨h⟩
theorem K4f(h:q)(f:Wd q→p:=by intro z';exact q_val rfl rfl (fun w cx hwQ=>v_fa fa261_0 rfl rfl) z'.1):p:=f ⟨h⟩
theorem Kef(h:q)(f:Wd q→p:=by intro z';exact q_val rfl rfl (fun w cx hwQ=>v_load1 rfl rfl Tryz.underlying9 rfl ((hr.up cx.ext).cell 0 rfl)) z'.1):p:=f ⟨h⟩
theorem K4g(h:q)(f:Wd q→p:=by intro z';exact q_val rfl rfl (fun w cx hwQ=>v_fa fa261_1 rfl rfl) z'.1):p:=f ⟨h⟩
theorem Keg(h:q)(f:Wd q→p:=by intro z';exact q_val rfl rfl (fun w cx hwQ=>v_load1 rfl rfl Tryz.underlying3 rfl ((hr.up cx.ext).cell 1 rfl)) z'.1):p:=f ⟨h⟩
theorem Keh(h:q)(f:Wd q→p:=by intro z';exact q_val rfl rfl (fun w cx hwQ=>v_load1 rfl rfl Tryz.underlying4 rfl ((cx.row 0 rfl).cell 2 rfl)) z'.1):p:=f ⟨h⟩
theorem K9m(h:q)(f:Wd q→p:=by intro z';exact q_gval rfl rfl rfl wF (fun hc w cx hwQ=>v_load1 rfl gX Tryz.underlying9 rfl ((cx.row 0 rfl).cell 0 rfl)) z'.1):p:=f ⟨h⟩
theorem Kgr(h:q)(f:Wd q→p:=by intro z';exact q_gval rfl rfl rfl wF (fun hc w cx hwQ=>v_load1 rfl gX Tryz.underlying3 rfl ((cx.row 0 rfl).cell 1 rfl)) z'.1):p:=f ⟨h⟩
theorem Kei(h:q)(f:Wd q→p:=by intro z';exact q_gval rfl rfl rfl wF (fun hc w cx hwQ=>v_cutMid rfl gX gX gX Tryz.underlying9 p0q p0q p0q) z'.1):p:=f ⟨h⟩
theorem K3p(h:q)(f:Wd q→p:=by intro z';exact s_val rfl rfl (v_fa fa261_1 rfl rfl) z'.1):p:=f ⟨h⟩
theorem Kgs(h:q)(f:Wd q→p:=by intro z';exact s_val rfl rfl (v_load1 rfl rfl Tryz.underlying3 rfl ((cx.row 0 rfl).cell 1 rfl)) z'.1):p:=f ⟨h⟩
theorem Kbg(h:q)(f:Wd q→p:=by intro z';exact ret_enter Tryz.func321 rfl Tryz.ntmps321 rfl z'.1):p:=f ⟨h⟩
theorem Kbh(h:q)(f:Wd q→p:=by intro z';exact s_val rfl rfl (v_cmp rfl hs9 rfl rfl) z'.1):p:=f ⟨h⟩
theorem K7n(h:q)(f:Wd q→p:=by intro z';exact ret_tmp Tryz.results321 rfl z'.1):p:=f ⟨h⟩
theorem Kej(h:q)(f:Wd q→p:=by intro z';exact q_gval rfl rfl rfl wT (fun hc w cx hwQ=>v_idxB (s:=[48,49,50,51,52,53,54,55,56,57,97,98,99,100,101,102]) rfl rfl gX Tryz.underlying9 p0q p0q) z'.1):p:=f ⟨h⟩
theorem Kek(h:q)(f:Wd q→p:=by intro z';exact s_val rfl rfl (v_load1 rfl rfl Tryz.underlying4 rfl ((cx.row 0 rfl).cell 2 rfl)) z'.1):p:=f ⟨h⟩
theorem K9n(h:q)(f:Wd q→p:=by intro z';exact q_val rfl rfl (fun w cx hwQ=>v_load1 rfl rfl Tryz.underlying3 rfl ((cx.row 0 rfl).cell 1 rfl)) z'.1):p:=f ⟨h⟩
theorem K7o(h:q)(f:Wd q→p:=by intro z';exact q_val rfl rfl (fun w cx hwQ=>v_load1 rfl rfl Tryz.underlying9 rfl ((cx.row 0 rfl).cell 0 rfl)) z'.1):p:=f ⟨h⟩
theorem Kbi(h:q)(f:Wd q→p:=by intro z';exact q_val rfl rfl (fun w cx hwQ=>v_lenB rfl rfl Tryz.underlying9) z'.1):p:=f ⟨h⟩
theorem K9o(h:q)(f:Wd q→p:=by intro z';exact ret_tmp Tryz.results250 rfl z'.1):p:=f ⟨h⟩
theorem Kbj(h:q)(f:Wd q→p:=by intro z';exact ret_enter Tryz.func173 rfl Tryz.ntmps173 rfl z'.1):p:=f ⟨h⟩
theorem Kgt(h:q)(f:Wd q→p:=by intro z';exact ret_cell Tryz.results173 rfl (cx.at 0 rfl) Tryz.underlying83 rfl sz83 z'.1):p:=f ⟨h⟩
theorem Kbk(h:q)(f:Wd q→p:=by intro z';exact s_val rfl rfl (v_load1 rfl rfl Tryz.underlying4 rfl ((cx.row 1 rfl).cell 2 rfl)) z'.1):p:=f ⟨h⟩
theorem K7p(h:q)(f:Wd q→p:=by intro z';exact s_gval rfl rfl rfl wF (fun hc=>v_nilCk rfl gX) z'.1):p:=f ⟨h⟩
theorem Kel(h:q)(f:Wd q→p:=by intro z';exact s_gval rfl rfl rfl wF (fun hc=>v_load1 rfl gX Tryz.underlying3 rfl ((cx.row 1 rfl).cell 1 rfl)) z'.1):p:=f ⟨h⟩
theorem Kbl(h:q)(f:Wd q→p:=by intro z';exact ret_cell2 Tryz.results107 rfl rfl (cx.at 2 rfl) Tryz.underlying83 rfl sz83 z'.1):p:=f ⟨h⟩
theorem Kem(h:q)(f:Wd q→p:=by intro z';exact s_gval rfl rfl rfl wT (fun hc=>v_rem (q:=4) rfl (gve hc rfl) rfl (by decide)) z'.1):p:=f ⟨h⟩
theorem Ken(h:q)(f:Wd q→p:=by intro z';exact s_gval rfl rfl rfl wT (fun hc=>v_rem (q:=100) rfl (gve hc rfl) rfl (by decide)) z'.1):p:=f ⟨h⟩
theorem Keo(h:q)(f:Wd q→p:=by intro z';exact s_gval rfl rfl rfl wF (fun hc=>v_rem (q:=400) rfl (gve hc rfl) rfl (by decide)) z'.1):p:=f ⟨h⟩
theorem K7q(h:q)(f:Wd q→p:=by intro z';exact ret_tmp Tryz.results338 rfl z'.1):p:=f ⟨h⟩
theorem Kep(h:q)(f:Wd q→p:=by intro z';exact s_val rfl rfl (v_build (qs:=[(0,.int .i64 31),(1,.int .i64 28),(2,.int .i64 31),(3,.int .i64 30),(4,.int .i64 31),(5,.int .i64 30),(6,.int .i64 31),(7,.int .i64 31),(8,.int .i64 30),(9,.int .i64 31),(10,.int .i64 30),(11,.int .i64 31)]) bd398 rfl rfl) z'.1):p:=f ⟨h⟩
theorem Keq(h:q)(f:Wd q→p:=by intro z';exact s_val rfl rfl (v_iaA Tryz.underlying398 sz3 rfl rfl rfl (by omega) (by omega)) z'.1):p:=f ⟨h⟩
theorem Ker(h:q)(f:Wd q→p:=by intro z';exact s_val rfl rfl (v_subQ (r:=((y-1:Nat):Int)) rfl rfl rfl (by omega) (by omega) (by omega)) z'.1):p:=f ⟨h⟩
theorem Kes(h:q)(f:Wd q→p:=by intro z';exact s_val rfl rfl (v_quo (p:=y-1) (q:=4) rfl rfl rfl (by omega) (by decide)) z'.1):p:=f ⟨h⟩
theorem Ket(h:q)(f:Wd q→p:=by intro z';exact s_val rfl rfl (v_quo (p:=y-1) (q:=100) rfl rfl rfl (by omega) (by decide)) z'.1):p:=f ⟨h⟩
theorem Keu(h:q)(f:Wd q→p:=by intro z';exact s_val rfl rfl (v_quo (p:=y-1) (q:=400) rfl rfl rfl (by omega) (by decide)) z'.1):p:=f ⟨h⟩
theorem K7r(h:q)(f:Wd q→p:=by intro z';exact s_val rfl rfl (v_fa fa339_0 rfl rfl) z'.1):p:=f ⟨h⟩
theorem Kgu(h:q)(f:Wd q→p:=by intro z';exact s_val rfl rfl (v_load1 rfl rfl Tryz.underlying9 rfl ((cx.row 0 rfl).cell 0 rfl)) z'.1):p:=f ⟨h⟩
theorem K9p(h:q)(f:Wd q→p:=by intro z';exact s_val rfl rfl (v_move rfl hs18) z'.1):p:=f ⟨h⟩
theorem K5g(h:q)(f:Wd q→p:=by intro z';exact s_gval rfl rfl rfl wT (fun hc=>v_nilCk rfl gX) z'.1):p:=f ⟨h⟩
theorem K9q(h:q)(f:Wd q→p:=by intro z';exact s_gval rfl rfl rfl wT (fun hc=>v_fa fa339_0 rfl gX) z'.1):p:=f ⟨h⟩
theorem K9r(h:q)(f:Wd q→p:=by intro z';exact s_gval rfl rfl rfl wT (fun hc=>v_load1 rfl gX Tryz.underlying9 rfl ((cx.row 0 rfl).cell 0 rfl)) z'.1):p:=f ⟨h⟩
theorem K9s(h:q)(f:Wd q→p:=by intro z';exact ret_tmp Tryz.results265 rfl z'.1):p:=f ⟨h⟩
theorem Kbm(h:q)(f:Wd q→p:=by intro z';exact s_val rfl rfl (v_build (qs:=[]) bd78 rfl rfl) z'.1):p:=f ⟨h⟩
theorem K5h(h:q)(f:Wd q→p:=by intro z';exact s_gval rfl rfl rfl wF (fun hc=>v_load1 rfl gX Tryz.underlying3 rfl (cx.cell 1 rfl rfl)) z'.1):p:=f ⟨h⟩
theorem Kev(h:q)(f:Wd q→p:=by intro z';exact s_gval rfl rfl rfl wT (fun hc=>v_idxB (s:=[48]) rfl (gve hc rfl) rfl Tryz.underlying9 (by decide) (by decide)) z'.1):p:=f ⟨h⟩
theorem Kew(h:q)(f:Wd q→p:=by intro z';exact s_val rfl rfl (v_idxB (s:=[48]) rfl rfl rfl Tryz.underlying9 (by decide) (by decide)) z'.1):p:=f ⟨h⟩
theorem Kex(h:q)(f:Wd q→p:=by intro z';exact s_val rfl rfl (v_build (qs:=[]) bd76 rfl rfl) z'.1):p:=f ⟨h⟩
theorem Key(h:q)(f:Wd q→p:=by intro z';exact ret_cell2 Tryz.results347 hs6 rfl (cx.at 0 rfl) Tryz.underlying76 rfl sz76 z'.1):p:=f ⟨h⟩
theorem Kbn(h:q)(f:Wd q→p:=by intro z';exact s_gval rfl rfl rfl wF (fun hc=>v_move rfl hs11) z'.1):p:=f ⟨h⟩
theorem K9t(h:q)(f:Wd q→p:=by intro z';exact s_val rfl rfl (v_load1 rfl rfl Tryz.underlying3 rfl ((cx.row 1 rfl).cell 1 rfl)) z'.1):p:=f ⟨h⟩
theorem Ku(h:q)(f:Wd q→p:=by intro z';exact pu_one rfl (wnt_none rfl) (fun w cx=>v_move rfl hs0) z'.1):p:=f ⟨h⟩
theorem K9u(h:q)(f:Wd q→p:=by intro z';exact pu_one rfl (wnt_none rfl) (fun w cx=>v_nilCk rfl rfl) z'.1):p:=f ⟨h⟩
theorem Kez(h:q)(f:Wd q→p:=by intro z';exact s_gval rfl rfl rfl wT (fun hc=>v_load1 rfl gX Tryz.underlying4 rfl ((cx.row 2 rfl).cell 2 rfl)) z'.1):p:=f ⟨h⟩
theorem Kbo(h:q)(f:Wd q→p:=by intro z';exact pu_one rfl (wnt_none rfl) (fun w cx=>v_load1 rfl rfl Tryz.underlying80 rfl (cx.cell 0 rfl rfl)) z'.1):p:=f ⟨h⟩
theorem K7s(h:q)(f:Wd q→p:=by intro z';exact pu_one rfl (wnt_none rfl) (fun w cx=>v_move rfl hs1) z'.1):p:=f ⟨h⟩
theorem K3q(h:q)(f:Wd q→p:=by intro z';exact pu_one rfl (wnt_none rfl) (fun w cx=>v_add rfl rfl rfl (by omega) (by omega)) z'.1):p:=f ⟨h⟩
theorem K3r(h:q)(f:Wd q→p:=by intro z';exact x_next ⟨.inl p11q,z'.1⟩):p:=f ⟨h⟩
theorem Kbp(h:q)(f:Wd q→p:=by intro z';exact s_val rfl rfl (v_load rfl hs5 Tryz.underlying83 rfl sz83 (cx.row 0 rfl) rfl) z'.1):p:=f ⟨h⟩
theorem Kbq(h:q)(f:Wd q→p:=by intro z';exact pu_one rfl (wnt_none rfl) (fun w cx=>v_load1 rfl rfl Tryz.underlying81 rfl (cx.cell 0 rfl rfl)) z'.1):p:=f ⟨h⟩
theorem Kf0(h:q)(f:Wd q→p:=by intro z';exact s_val rfl rfl (v_lookupT rfl rfl rfl Tryz.underlying102 Tryz.underlying9 (Tryz.zeroValue4 _) (cx.at 1 rfl)) z'.1):p:=f ⟨h⟩
theorem Kf1(h:q)(f:Wd q→p:=by intro z';exact s_val rfl rfl (v_load rfl rfl Tryz.underlying83 rfl sz83 ((hrx.up cx.ext)) rfl) z'.1):p:=f ⟨h⟩
theorem Kf2(h:q)(f:Wd q→p:=by intro z';exact s_val rfl rfl (v_load rfl rfl Tryz.underlying133 rfl sz133 ((hrx.up cx.ext)) rfl) z'.1):p:=f ⟨h⟩
theorem Kf3(h:q)(f:Wd q→p:=by intro z';exact s_val rfl rfl (v_load rfl rfl Tryz.underlying83 rfl sz83 (cx.row 0 rfl).tail rfl) z'.1):p:=f ⟨h⟩
theorem K9v(h:q)(f:Wd q→p:=by intro z';exact s_val rfl rfl (v_load rfl rfl Tryz.underlying83 rfl sz83 (cx.row 1 rfl) hv.len) z'.1):p:=f ⟨h⟩
theorem K9w(h:q)(f:Wd q→p:=by intro z';exact pu_one rfl (wnt_none rfl) (fun w cx=>v_move rfl hs10) z'.1):p:=f ⟨h⟩
theorem K9x(h:q)(f:Wd q→p:=by intro z';exact pu_one rfl (wnt_none rfl) (fun w cx=>v_move rfl hs2) z'.1):p:=f ⟨h⟩
theorem K35(h:q)(f:Wd q→p:=by intro z';exact pu_one rfl (wnt_none rfl) (fun w cx=>v_ia Tryz.underlying81 sz133 rfl rfl rfl (by omega) (by omega)) z'.1):p:=f ⟨h⟩
theorem K3s(h:q)(f:Wd q→p:=by intro z';exact s_val rfl rfl (v_load rfl rfl Tryz.underlying133 rfl sz133 (cx.elAt hE hlen hy) hry.len) z'.1):p:=f ⟨h⟩
theorem K3t(h:q)(f:Wd q→p:=by intro z';exact s_val rfl rfl (v_load rfl rfl Tryz.underlying133 rfl sz133 (cx.elAt hE hlen hx) hrx.len) z'.1):p:=f ⟨h⟩
theorem K9y(h:q)(f:Wd q→p:=by intro z';exact pu_one rfl (wnt_none rfl) (fun w cx=>v_move rfl hs9) z'.1):p:=f ⟨h⟩
theorem K5i(h:q)(f:Wd q→p:=by intro z';exact pu_one rfl (wnt_none rfl) (fun w cx=>v_sub rfl rfl rfl (by omega) (by omega)) z'.1):p:=f ⟨h⟩
theorem K9z(h:q)(f:Wd q→p:=by intro z';exact s_val rfl rfl (v_convQ rfl rfl Tryz.underlying3 Tryz.underlying237 (IntWalk.u64_in _ (by omega))) z'.1):p:=f ⟨h⟩
theorem Ka0(h:q)(f:Wd q→p:=by intro z';exact s_val rfl rfl (v_shr1 rfl rfl rfl) z'.1):p:=f ⟨h⟩
theorem Kf4(h:q)(f:Wd q→p:=by intro z';exact s_val rfl rfl (v_convQ rfl rfl Tryz.underlying237 Tryz.underlying3 (m':=(i+j) / 2) (by rw [IntWalk.i64_in _ (by omega)])) z'.1):p:=f ⟨h⟩
theorem K5j(h:q)(f:Wd q→p:=by intro z';exact q_val rfl rfl (fun w cx hwQ=>v_ia Tryz.underlying81 sz133 rfl rfl rfl (by omega) (by omega)) z'.1):p:=f ⟨h⟩
theorem Kbr(h:q)(f:Wd q→p:=by intro z';exact q_val rfl rfl (fun w cx hwQ=>v_load rfl rfl Tryz.underlying133 rfl sz133 (cx.elAt hE hlen hx) hrx.len) z'.1):p:=f ⟨h⟩
theorem Kbs(h:q)(f:Wd q→p:=by intro z';exact q_val rfl rfl (fun w cx hwQ=>v_load rfl rfl Tryz.underlying133 rfl sz133 (cx.elAt hE hlen hy) hry.len) z'.1):p:=f ⟨h⟩
theorem Kbt(h:q)(f:Wd q→p:=by intro z';exact q_call (v:=.int .i64 (kc x y)) rfl rfl (runs_fnv0 Tryz.func367 rfl rfl rfl rfl rfl) (fun w cx hwQ=>c367 _ _ _ hrx hry) z'.1):p:=f ⟨h⟩
theorem Ka1(h:q)(f:Wd q→p:=by intro z';exact pu_one rfl (wnt_none rfl) (fun w cx=>v_move rfl hs13) z'.1):p:=f ⟨h⟩
theorem Kbu(h:q)(f:Wd q→p:=by intro z';exact q_val rfl rfl (fun w cx hwQ=>v_not rfl rfl) z'.1):p:=f ⟨h⟩
theorem Ka2(h:q)(f:Wd q→p:=by intro z';exact pu_one rfl (wnt_none rfl) (fun w cx=>v_move rfl hs17) z'.1):p:=f ⟨h⟩
theorem K4h(h:q)(f:Wd q→p:=by intro z';exact s_val rfl rfl (v_move rfl hs20) z'.1):p:=f ⟨h⟩
theorem Kf5(h:q)(f:Wd q→p:=by intro z';exact s_val rfl rfl (v_load rfl rfl Tryz.underlying83 rfl sz83 (hel cx) hpl) z'.1):p:=f ⟨h⟩
theorem Kf6(h:q)(f:Wd q→p:=by intro z';exact pu_one rfl (wnt_none rfl) (fun w cx=>v_ia Tryz.underlying79 sz5 rfl rfl rfl (by omega) (by omega)) z'.1):p:=f ⟨h⟩
theorem Kf7(h:q)(f:Wd q→p:=by intro z';exact s_val rfl rfl (v_load1 rfl rfl Tryz.underlying5 rfl ((rowB cx (i:=Int.toNat j) (by omega)).cell 0 rfl)) z'.1):p:=f ⟨h⟩
theorem Kf8(h:q)(f:Wd q→p:=by intro z';exact s_val rfl rfl (v_load1 rfl rfl Tryz.underlying5 rfl ((rowB cx (i:=Int.toNat i) (by omega)).cell 0 rfl)) z'.1):p:=f ⟨h⟩
theorem Ka3(h:q)(f:Wd q→p:=by intro z';exact ret_enter Tryz.func57 rfl Tryz.ntmps57 rfl z'.1):p:=f ⟨h⟩
theorem Kf9(h:q)(f:Wd q→p:=by intro z';exact w_ord cx (cx.noR.pick2 0 1 rfl rfl rfl) mixed [(0,26),(1,27),(2,28),(3,29),(4,30),(5,31),(6,32)] #[true,true,true,true,true,true,true,false,false,false,false,false] p1q p1q p1q p1q z'.1):p:=f ⟨h⟩
theorem Kfa(h:q)(f:Wd q→p:=by intro z';exact pu_one rfl (wnt_none rfl) (fun w cx=>v_load1 rfl rfl Tryz.underlying33 rfl ((cx.row 1 rfl).cell 4 rfl)) z'.1):p:=f ⟨h⟩
theorem K5k(h:q)(f:Wd q→p:=by intro z';exact s_val rfl rfl (v_fa fa35_4 rfl rfl) z'.1):p:=f ⟨h⟩
theorem Ka4(h:q)(f:Wd q→p:=by intro z';exact ret_tmp Tryz.results57 rfl z'.1):p:=f ⟨h⟩
theorem K5l(h:q)(f:Wd q→p:=by intro z';exact s_val rfl rfl (v_fa fa35_3 rfl rfl) z'.1):p:=f ⟨h⟩
theorem Kfb(h:q)(f:Wd q→p:=by intro z';exact s_val rfl rfl (v_load1 rfl rfl Tryz.underlying32 rfl ((cx.row 0 rfl).cell 3 rfl)) z'.1):p:=f ⟨h⟩
theorem Kbv(h:q)(f:Wd q→p:=by intro z';exact ret_enter Tryz.func59 rfl Tryz.ntmps59 rfl z'.1):p:=f ⟨h⟩
theorem K2m(h:q)(f:Wd q→p:=by intro z';exact s_val rfl rfl (v_fa fa35_0 rfl rfl) z'.1):p:=f ⟨h⟩
theorem Kfc(h:q)(f:Wd q→p:=by intro z';exact s_val rfl rfl (v_load rfl rfl Tryz.underlying35 rfl sz35 (cx.row 1 rfl) rfl) z'.1):p:=f ⟨h⟩
theorem Kfd(h:q)(f:Wd q→p:=by intro z';exact ret_cell Tryz.results59 rfl (cx.at 0 rfl) Tryz.underlying35 rfl sz35 z'.1):p:=f ⟨h⟩
theorem Kfe(h:q)(f:Wd q→p:=by intro z';exact s_val rfl rfl (v_eqB (u:=[99,111,108,117,109,110]) rfl rfl rfl) z'.1):p:=f ⟨h⟩
theorem K5m(h:q)(f:Wd q→p:=by intro z';exact s_val rfl rfl (v_ia Tryz.underlying33 sz9 rfl rfl rfl (by omega) (by omega)) z'.1):p:=f ⟨h⟩
theorem Kff(h:q)(f:Wd q→p:=by intro z';exact t_val rfl rfl (v_ia Tryz.underlying33 sz9 rfl rfl rfl (by omega) (by omega)) z'.1):p:=f ⟨h⟩
theorem K5n(h:q)(f:Wd q→p:=by intro z';exact s_gval rfl rfl rfl wF (fun hc=>v_fa fa35_1 rfl gX) z'.1):p:=f ⟨h⟩
theorem K5o(h:q)(f:Wd q→p:=by intro z';exact s_gval rfl rfl rfl wF (fun hc=>v_fa fa35_2 rfl gX) z'.1):p:=f ⟨h⟩
theorem Kfg(h:q)(f:Wd q→p:=by intro z';exact s_gval rfl rfl rfl wT (fun hc=>v_load1 rfl gX Tryz.underlying33 rfl (cx.cell 0 rfl rfl)) z'.1):p:=f ⟨h⟩
theorem Kfh(h:q)(f:Wd q→p:=by intro z';exact s_gval rfl rfl rfl wT (fun hc=>v_lenSlice rfl gX Tryz.underlying33) z'.1):p:=f ⟨h⟩
theorem K5p(h:q)(f:Wd q→p:=by intro z';exact ret_tmp Tryz.results13 rfl z'.1):p:=f ⟨h⟩
theorem Ka5(h:q)(f:Wd q→p:=by intro z';exact s_val rfl rfl (v_load1 rfl rfl Tryz.underlying33 rfl (cx.cell 0 rfl rfl)) z'.1):p:=f ⟨h⟩
theorem Kbw(h:q)(f:Wd q→p:=by intro z';exact s_val rfl rfl (v_load1 rfl rfl Tryz.underlying32 rfl (cx.cell 1 rfl rfl)) z'.1):p:=f ⟨h⟩
theorem K7t(h:q)(f:Wd q→p:=by intro z';exact s_val rfl rfl (v_lenSlice rfl rfl Tryz.underlying32) z'.1):p:=f ⟨h⟩
theorem Kbx(h:q)(f:Wd q→p:=by intro z';exact s_val rfl rfl (v_load rfl rfl Tryz.underlying52 rfl sz52 (hrw.up cx.ext) rfl) z'.1):p:=f ⟨h⟩
theorem Ka6(h:q)(f:Wd q→p:=by intro z';exact s_val rfl rfl (v_fa fa52_0 rfl rfl) z'.1):p:=f ⟨h⟩
theorem Kfi(h:q)(f:Wd q→p:=by intro z';exact s_val rfl rfl (v_load1 rfl rfl Tryz.underlying28 rfl (cx.cell 0 rfl rfl)) z'.1):p:=f ⟨h⟩
theorem Kfj(h:q)(f:Wd q→p:=by intro z';exact s_gval rfl rfl rfl wF (fun hc=>v_load1 rfl gX Tryz.underlying28 rfl (cx.cell 0 rfl rfl)) z'.1):p:=f ⟨h⟩
theorem Kby(h:q)(f:Wd q→p:=by intro z';exact s_gval rfl rfl rfl wF (fun hc=>v_load1 rfl gX Tryz.underlying3 rfl (cx.cell 2 rfl rfl)) z'.1):p:=f ⟨h⟩
theorem Kbz(h:q)(f:Wd q→p:=by intro z';exact s_gval rfl rfl rfl wF (fun hc=>v_fa fa52_1 rfl gX) z'.1):p:=f ⟨h⟩
theorem K5q(h:q)(f:Wd q→p:=by intro z';exact ret_tmp Tryz.results14 rfl z'.1):p:=f ⟨h⟩
theorem K5r(h:q)(f:Wd q→p:=by intro z';exact s_val rfl rfl (v_fa fa35_3 rfl hs1) z'.1):p:=f ⟨h⟩
theorem K7u(h:q)(f:Wd q→p:=by intro z';exact s_val rfl rfl (v_load1 rfl rfl Tryz.underlying32 rfl (cx.cell 0 rfl rfl)) z'.1):p:=f ⟨h⟩
theorem Kc0(h:q)(f:Wd q→p:=by intro z';exact s_val rfl rfl (v_ia Tryz.underlying32 sz52 rfl rfl rfl (by omega) (by omega)) z'.1):p:=f ⟨h⟩
theorem Kfk(h:q)(f:Wd q→p:=by intro z';exact q_val rfl rfl (fun w cx hwQ=>v_load1 rfl rfl Tryz.underlying32 rfl (cx.cell 0 rfl rfl)) z'.1):p:=f ⟨h⟩
theorem Kc1(h:q)(f:Wd q→p:=by intro z';exact q_val rfl rfl (fun w cx hwQ=>v_ia Tryz.underlying32 sz52 rfl rfl rfl (by omega) (by omega)) z'.1):p:=f ⟨h⟩
theorem K7v(h:q)(f:Wd q→p:=by intro z';exact q_val rfl rfl (fun w cx hwQ=>v_fa fa52_1 rfl rfl) z'.1):p:=f ⟨h⟩
theorem Kfl(h:q)(f:Wd q→p:=by intro z';exact q_val rfl rfl (fun w cx hwQ=>v_load rfl rfl Tryz.underlying48 rfl sz48 (l:=[.int .i64 e.fr,.int .i64 e.to]) ((hrw.up cx.ext).sub 1 rfl) rfl) z'.1):p:=f ⟨h⟩
theorem K5s(h:q)(f:Wd q→p:=by intro z';exact q_val rfl rfl (fun w cx hwQ=>v_load1 rfl rfl Tryz.underlying3 rfl (cx.cell 0 rfl rfl)) z'.1):p:=f ⟨h⟩
theorem Kfm(h:q)(f:Wd q→p:=by intro z';exact q_gval rfl rfl rfl wT (fun hc w cx hwQ=>v_load1 rfl gX Tryz.underlying32 rfl (cx.cell 0 rfl rfl)) z'.1):p:=f ⟨h⟩
theorem Kfn(h:q)(f:Wd q→p:=by intro z';exact q_gval rfl rfl rfl wT (fun hc w cx hwQ=>v_ia Tryz.underlying32 sz52 rfl gX gX p0q p0q) z'.1):p:=f ⟨h⟩
theorem Kc2(h:q)(f:Wd q→p:=by intro z';exact s_val rfl rfl (v_load rfl rfl Tryz.underlying35 rfl sz35 (cx.row 0 rfl) rfl) z'.1):p:=f ⟨h⟩
theorem Kfo(h:q)(f:Wd q→p:=by intro z';exact ⟨cx.ext,congrArg (fun l=>Value.tuple #[Value.string (bs l),Value.int .i64 (chkX x)]) z'.1⟩):p:=f ⟨h⟩
theorem Ka7(h:q)(f:Wd q→p:=by intro z';exact q_call (v:=.string (bs (itoa _))) rfl rfl (runs_fn Tryz.func50 rfl rfl rfl (cons_eq rfl rfl)) (fun w cx hwQ=>c50 _ _ (by omega) (by omega)) z'.1):p:=f ⟨h⟩
theorem Kc3(h:q)(f:Wd q→p:=by intro z';exact pu_one rfl (wnt_none rfl) (fun w cx=>v_move rfl hs5) z'.1):p:=f ⟨h⟩
theorem Kfp(h:q)(f:Wd q→p:=by intro z';exact s_val rfl rfl (v_strAddB (a:=(([105,110,100,101,120,32]++nameT x.fmt)++[32])) (b:=itoa x.size) rfl rfl rfl p3q) z'.1):p:=f ⟨h⟩
theorem Kfq(h:q)(f:Wd q→p:=by intro z';exact s_val rfl rfl (v_load1 rfl rfl Tryz.underlying33 rfl (cx.cell 1 rfl rfl)) z'.1):p:=f ⟨h⟩
theorem Ka8(h:q)(f:Wd q→p:=by intro z';exact pu_one rfl (wnt_none rfl) (fun w cx=>v_move rfl hs6) z'.1):p:=f ⟨h⟩
theorem Kc4(h:q)(f:Wd q→p:=by intro z';exact s_val rfl rfl (v_strAddB (a:=(itoa e.fr)) (b:=[32]) rfl rfl rfl p3q) z'.1):p:=f ⟨h⟩
theorem Kfr(h:q)(f:Wd q→p:=by intro z';exact s_val rfl rfl (v_load1 rfl rfl Tryz.underlying9 rfl (row_cell cx (List.mem_cons_self ..) (lrow_at hl0) (by simp))) z'.1):p:=f ⟨h⟩
theorem Ka9(h:q)(f:Wd q→p:=by intro z';exact s_gval rfl rfl rfl wF (fun hc=>v_lenSlice rfl gX Tryz.underlying33) z'.1):p:=f ⟨h⟩
theorem Kfs(h:q)(f:Wd q→p:=by intro z';exact s_val rfl rfl (v_ia Tryz.underlying33 sz9 rfl hs63 hs65 (by omega) (by omega)) z'.1):p:=f ⟨h⟩
theorem Kaa(h:q)(f:Wd q→p:=by intro z';exact s_val rfl rfl (v_load rfl hs5 Tryz.underlying35 rfl sz35 (cx.row 0 rfl) rfl) z'.1):p:=f ⟨h⟩
theorem Kft(h:q)(f:Wd q→p:=by intro z';exact pu_one rfl (wnt_none rfl) (fun w cx=>v_ia Tryz.underlying33 sz9 rfl rfl rfl (by omega) (by omega)) z'.1):p:=f ⟨h⟩
theorem Kfu(h:q)(f:Wd q→p:=by intro z';exact pu_one rfl (wnt_none rfl) (fun w cx=>v_load1 rfl rfl Tryz.underlying9 rfl (row_cell cx (List.mem_cons_of_mem _ (List.mem_cons_of_mem _ hlr)) hli (by omega))) z'.1):p:=f ⟨h⟩
theorem Kfv(h:q)(f:Wd q→p:=by intro z';exact s_val rfl rfl (v_load rfl hs4 Tryz.underlying35 rfl sz35 (cx.row 0 rfl) rfl) z'.1):p:=f ⟨h⟩
theorem Kfw(h:q)(f:Wd q→p:=by intro z';exact ret_cell2 Tryz.results24 hs2 rfl (cx.at 1 rfl) Tryz.underlying35 rfl sz35 z'.1):p:=f ⟨h⟩
theorem Kfx(h:q)(f:Wd q→p:=by intro z';exact s_val rfl rfl (v_load1 rfl rfl Tryz.underlying9 rfl (row_cell cx (List.mem_cons_self ..) hl0 (by simp))) z'.1):p:=f ⟨h⟩
theorem Kc5(h:q)(f:Wd q→p:=by intro z';exact s_val rfl rfl (v_build (qs:=[]) bd35 rfl rfl) z'.1):p:=f ⟨h⟩
theorem Kfy(h:q)(f:Wd q→p:=by intro z';exact s_gval rfl rfl rfl wF (fun hc=>v_lenSlice rfl gX Tryz.underlying32) z'.1):p:=f ⟨h⟩
theorem Kfz(h:q)(f:Wd q→p:=by intro z';exact q_val rfl rfl (fun w cx hwQ=>v_ia Tryz.underlying33 sz9 rfl rfl rfl (by omega) (by omega)) z'.1):p:=f ⟨h⟩
theorem Kg0(h:q)(f:Wd q→p:=by intro z';exact q_gval rfl rfl rfl wF (fun hc w cx hwQ=>v_ia Tryz.underlying32 sz52 rfl gX gX p0q p0q) z'.1):p:=f ⟨h⟩
theorem K0(h:q)(f:Wd q→p:=by intro z';refine SS ?_;exact SS z'.1):p:=f ⟨h⟩
theorem K2(h:q)(f:Wd q→p:=by intro z';refine K0 ?_;exact K0 z'.1):p:=f ⟨h⟩
theorem K1(h:q)(f:Wd q→p:=by intro z';refine K0 ?_;exact SS z'.1):p:=f ⟨h⟩
theorem K3(h:q)(f:Wd q→p:=by intro z';refine K2 ?_;exact SS z'.1):p:=f ⟨h⟩
theorem K6(h:q)(f:Wd q→p:=by intro z';refine K2 ?_;exact K2 z'.1):p:=f ⟨h⟩
theorem K4(h:q)(f:Wd q→p:=by intro z';refine K2 ?_;exact K0 z'.1):p:=f ⟨h⟩
theorem K5(h:q)(f:Wd q→p:=by intro z';refine K2 ?_;exact K1 z'.1):p:=f ⟨h⟩
theorem K7(h:q)(f:Wd q→p:=by intro z';refine K2 ?_;exact K3 z'.1):p:=f ⟨h⟩
theorem K8(h:q)(f:Wd q→p:=by intro z';refine K6 ?_;exact K0 z'.1):p:=f ⟨h⟩
theorem K9(h:q)(f:Wd q→p:=by intro z';refine K1 ?_;exact Kb z'.1):p:=f ⟨h⟩
theorem Kf(h:q)(f:Wd q→p:=by intro z';refine K1 ?_;exact Kh z'.1):p:=f ⟨h⟩
theorem Ka(h:q)(f:Wd q→p:=by intro z';refine K6 ?_;exact K1 z'.1):p:=f ⟨h⟩
theorem Kl(h:q)(f:Wd q→p:=by intro z';refine K1 ?_;exact Ke z'.1):p:=f ⟨h⟩
theorem K1n(h:q)(f:Wd q→p:=by intro z';refine Kb ?_;exact K1 z'.1):p:=f ⟨h⟩
theorem Km(h:q)(f:Wd q→p:=by intro z';refine K0 ?_;exact Kb z'.1):p:=f ⟨h⟩
theorem K10(h:q)(f:Wd q→p:=by intro z';refine K1 ?_;exact Kr z'.1):p:=f ⟨h⟩
theorem Ki(h:q)(f:Wd q→p:=by intro z';refine K54 ?_;exact K1 z'.1):p:=f ⟨h⟩
theorem Ko(h:q)(f:Wd q→p:=by intro z';refine K6 ?_;exact K2 z'.1):p:=f ⟨h⟩
theorem K17(h:q)(f:Wd q→p:=by intro z';refine SS ?_;exact Kg z'.1):p:=f ⟨h⟩
theorem K1i(h:q)(f:Wd q→p:=by intro z';refine K0 ?_;exact Ke z'.1):p:=f ⟨h⟩
theorem K11(h:q)(f:Wd q→p:=by intro z';refine K1 ?_;exact Kc z'.1):p:=f ⟨h⟩
theorem K3u(h:q)(f:Wd q→p:=by intro z';refine K1d ?_;exact K3 z'.1):p:=f ⟨h⟩
theorem K1o(h:q)(f:Wd q→p:=by intro z';refine K2h ?_;exact K1 z'.1):p:=f ⟨h⟩
theorem K13(h:q)(f:Wd q→p:=by intro z';refine K6 ?_;exact K4 z'.1):p:=f ⟨h⟩
theorem K14(h:q)(f:Wd q→p:=by intro z';refine K6 ?_;exact K3 z'.1):p:=f ⟨h⟩
theorem K2a(h:q)(f:Wd q→p:=by intro z';refine K12 ?_;exact K0 z'.1):p:=f ⟨h⟩
theorem K18(h:q)(f:Wd q→p:=by intro z';refine K1 ?_;exact Kv z'.1):p:=f ⟨h⟩
theorem K19(h:q)(f:Wd q→p:=by intro z';refine K3 ?_;exact Kb z'.1):p:=f ⟨h⟩
theorem K1a(h:q)(f:Wd q→p:=by intro z';refine K1d ?_;exact K2 z'.1):p:=f ⟨h⟩
theorem K1b(h:q)(f:Wd q→p:=by intro z';refine SS ?_;exact Kr z'.1):p:=f ⟨h⟩
theorem K1f(h:q)(f:Wd q→p:=by intro z';refine K10 ?_;exact K1 z'.1):p:=f ⟨h⟩
theorem K1g(h:q)(f:Wd q→p:=by intro z';refine SS ?_;exact Kb z'.1):p:=f ⟨h⟩
theorem K1j(h:q)(f:Wd q→p:=by intro z';refine K1n ?_;exact Ks z'.1):p:=f ⟨h⟩
theorem K1p(h:q)(f:Wd q→p:=by intro z';refine K2 ?_;exact Kb z'.1):p:=f ⟨h⟩
theorem K2n(h:q)(f:Wd q→p:=by intro z';refine K0 ?_;exact Kc z'.1):p:=f ⟨h⟩
theorem K36(h:q)(f:Wd q→p:=by intro z';refine K0 ?_;exact Kr z'.1):p:=f ⟨h⟩
theorem K37(h:q)(f:Wd q→p:=by intro z';refine K0 ?_;exact Kh z'.1):p:=f ⟨h⟩
theorem K1t(h:q)(f:Wd q→p:=by intro z';refine K51 ?_;exact K0 z'.1):p:=f ⟨h⟩
theorem K1u(h:q)(f:Wd q→p:=by intro z';refine K0 ?_;exact Kb1 z'.1):p:=f ⟨h⟩
theorem Kg1(h:q)(f:Wd q→p:=by intro z';refine K2z ?_;exact Kgo z'.1):p:=f ⟨h⟩
theorem K3v(h:q)(f:Wd q→p:=by intro z';refine K7r ?_;exact Kgu z'.1):p:=f ⟨h⟩
theorem K5t(h:q)(f:Wd q→p:=by intro z';refine Kg ?_;exact K7y z'.1):p:=f ⟨h⟩
theorem K20(h:q)(f:Wd q→p:=by intro z';refine K2 ?_;exact Kr z'.1):p:=f ⟨h⟩
theorem K21(h:q)(f:Wd q→p:=by intro z';refine K6 ?_;exact K5 z'.1):p:=f ⟨h⟩
theorem K22(h:q)(f:Wd q→p:=by intro z';refine Ke ?_;exact SS z'.1):p:=f ⟨h⟩
theorem K26(h:q)(f:Wd q→p:=by intro z';refine K1i ?_;exact K1 z'.1):p:=f ⟨h⟩
theorem K27(h:q)(f:Wd q→p:=by intro z';refine Ke ?_;exact K1 z'.1):p:=f ⟨h⟩
theorem K28(h:q)(f:Wd q→p:=by intro z';refine Kx ?_;exact Kco z'.1):p:=f ⟨h⟩
theorem K2b(h:q)(f:Wd q→p:=by intro z';refine K17 ?_;exact K7y z'.1):p:=f ⟨h⟩
theorem K2c(h:q)(f:Wd q→p:=by intro z';refine K6x ?_;exact K1 z'.1):p:=f ⟨h⟩
theorem K5u(h:q)(f:Wd q→p:=by intro z';refine Kgj ?_;exact K15 z'.1):p:=f ⟨h⟩
theorem K5v(h:q)(f:Wd q→p:=by intro z';refine K12 ?_;exact K5 z'.1):p:=f ⟨h⟩
theorem K2d(h:q)(f:Wd q→p:=by intro z';refine K0 ?_;exact K1l z'.1):p:=f ⟨h⟩
theorem K2e(h:q)(f:Wd q→p:=by intro z';refine K81 ?_;exact SS z'.1):p:=f ⟨h⟩
theorem K2f(h:q)(f:Wd q→p:=by intro z';refine Km ?_;exact SS z'.1):p:=f ⟨h⟩
theorem K2g(h:q)(f:Wd q→p:=by intro z';refine SS ?_;exact Kgn z'.1):p:=f ⟨h⟩
theorem K2o(h:q)(f:Wd q→p:=by intro z';refine K1v ?_;exact K1 z'.1):p:=f ⟨h⟩
theorem K2p(h:q)(f:Wd q→p:=by intro z';refine K0 ?_;exact Ks z'.1):p:=f ⟨h⟩
theorem K7w(h:q)(f:Wd q→p:=by intro z';refine K1 ?_;exact Ks z'.1):p:=f ⟨h⟩
theorem K2q(h:q)(f:Wd q→p:=by intro z';refine Ky ?_;exact K0 z'.1):p:=f ⟨h⟩
theorem K2r(h:q)(f:Wd q→p:=by intro z';refine Kj ?_;exact Keb z'.1):p:=f ⟨h⟩
theorem K2s(h:q)(f:Wd q→p:=by intro z';refine K0 ?_;exact Kgt z'.1):p:=f ⟨h⟩
theorem Kab(h:q)(f:Wd q→p:=by intro z';refine K74 ?_;exact K88 z'.1):p:=f ⟨h⟩
theorem K38(h:q)(f:Wd q→p:=by intro z';refine K2 ?_;exact Kc z'.1):p:=f ⟨h⟩
theorem Kac(h:q)(f:Wd q→p:=by intro z';refine K0 ?_;exact K3p z'.1):p:=f ⟨h⟩
theorem K39(h:q)(f:Wd q→p:=by intro z';refine K24 ?_;exact Keb z'.1):p:=f ⟨h⟩
theorem Kg2(h:q)(f:Wd q→p:=by intro z';refine q_gval rfl rfl rfl wT (fun hc w cx hwQ=>v_fa fa52_1 rfl gX) ?_;exact q_gval rfl rfl rfl wT (fun hc w cx hwQ=>v_fa fa48_0 rfl gX) z'.1):p:=f ⟨h⟩
theorem K3a(h:q)(f:Wd q→p:=by intro z';refine Kh ?_;exact SS z'.1):p:=f ⟨h⟩
theorem K3b(h:q)(f:Wd q→p:=by intro z';refine Ky ?_;exact SS z'.1):p:=f ⟨h⟩
theorem Kg3(h:q)(f:Wd q→p:=by intro z';refine s_gval rfl rfl rfl wT (fun hc=>v_build bd76 rfl rfl) ?_;exact s_gval rfl rfl rfl wT (fun hc=>v_agg eqg76 nz76 rfl p4q p4q) z'.1):p:=f ⟨h⟩
theorem Kg4(h:q)(f:Wd q→p:=by intro z';refine s_gval rfl rfl rfl wT (fun hc=>v_build bd78 rfl rfl) ?_;exact s_gval rfl rfl rfl wT (fun hc=>v_agg eqg78 nz78 rfl p4q p4q) z'.1):p:=f ⟨h⟩
theorem K7x(h:q)(f:Wd q→p:=by intro z';refine K1x ?_;exact tup_s z'.1 h2 rfl rfl):p:=f ⟨h⟩
theorem Kc6(h:q)(f:Wd q→p:=by intro z';refine Kgb ?_;exact K0 z'.1):p:=f ⟨h⟩
theorem K3w(h:q)(f:Wd q→p:=by intro z';refine K2 ?_;exact Ke z'.1):p:=f ⟨h⟩
theorem K3x(h:q)(f:Wd q→p:=by intro z';refine K46 ?_;exact K1 z'.1):p:=f ⟨h⟩
theorem K3y(h:q)(f:Wd q→p:=by intro z';refine K3u ?_;exact K3u z'.1):p:=f ⟨h⟩
theorem K3z(h:q)(f:Wd q→p:=by intro z';refine Kf ?_;exact K1 z'.1):p:=f ⟨h⟩
theorem Kc7(h:q)(f:Wd q→p:=by intro z';refine Kgk ?_;exact K59 z'.1):p:=f ⟨h⟩
theorem Kc8(h:q)(f:Wd q→p:=by intro z';refine K92 ?_;exact K2a z'.1):p:=f ⟨h⟩
theorem K40(h:q)(f:Wd q→p:=by intro z';refine Kgm ?_;exact K97 z'.1):p:=f ⟨h⟩
theorem Kc9(h:q)(f:Wd q→p:=by intro z';refine Kg1 ?_;exact Kgp z'.1):p:=f ⟨h⟩
theorem Kca(h:q)(f:Wd q→p:=by intro z';refine K3p ?_;exact Kgs z'.1):p:=f ⟨h⟩
theorem K41(h:q)(f:Wd q→p:=by intro z';refine K5t ?_;exact SS z'.1):p:=f ⟨h⟩
theorem Kg5(h:q)(f:Wd q→p:=by intro z';refine ret_tmp2 Tryz.results216 hs10 rfl ?_;exact ⟨cx.ext,_,congrArg (fun z=>Value.tuple #[_,Value.string z]) z'.1⟩):p:=f ⟨h⟩
theorem K4i(h:q)(f:Wd q→p:=by intro z';refine K6 ?_;exact K6 z'.1):p:=f ⟨h⟩
theorem K4j(h:q)(f:Wd q→p:=by intro z';refine K0 ?_;exact Kga z'.1):p:=f ⟨h⟩
theorem K4k(h:q)(f:Wd q→p:=by intro z';refine Kl ?_;exact K0 z'.1):p:=f ⟨h⟩
theorem K4l(h:q)(f:Wd q→p:=by intro z';refine K4z ?_;exact K1o z'.1):p:=f ⟨h⟩
theorem K4m(h:q)(f:Wd q→p:=by intro z';refine Kt ?_;exact Kg z'.1):p:=f ⟨h⟩
theorem K4n(h:q)(f:Wd q→p:=by intro z';refine Kl ?_;exact K1n z'.1):p:=f ⟨h⟩
theorem K4o(h:q)(f:Wd q→p:=by intro z';refine Kf ?_;exact K1n z'.1):p:=f ⟨h⟩
theorem K4p(h:q)(f:Wd q→p:=by intro z';refine K2 ?_;exact Kh z'.1):p:=f ⟨h⟩
theorem K4q(h:q)(f:Wd q→p:=by intro z';refine K1d ?_;exact K1 z'.1):p:=f ⟨h⟩
theorem K4r(h:q)(f:Wd q→p:=by intro z';refine K1 ?_;exact Kk z'.1):p:=f ⟨h⟩
theorem K4s(h:q)(f:Wd q→p:=by intro z';refine K1 ?_;exact Kw z'.1):p:=f ⟨h⟩
theorem K4t(h:q)(f:Wd q→p:=by intro z';refine Kgl ?_;exact K15 z'.1):p:=f ⟨h⟩
theorem K4u(h:q)(f:Wd q→p:=by intro z';refine K0 ?_;exact Kex z'.1):p:=f ⟨h⟩
theorem Kcb(h:q)(f:Wd q→p:=by intro z';refine K0 ?_;exact s_val rfl rfl (v_fa fa76_0 rfl rfl) z'.1):p:=f ⟨h⟩
theorem Kg6(h:q)(f:Wd q→p:=by intro z';refine ret_tmp Tryz.results111 rfl ?_;exact ⟨cx.ext,congrArg (Value.int .i64) (z'.1:(-1:Int)=numR s)⟩):p:=f ⟨h⟩
theorem Kg7(h:q)(f:Wd q→p:=by intro z';refine ret_tmp Tryz.results248 rfl ?_;exact ⟨cx.ext,congrArg (fun z:Nat=>Value.int .u8 (z:Int)) z'.1⟩):p:=f ⟨h⟩
theorem K4v(h:q)(f:Wd q→p:=by intro z';refine Kcs ?_;exact SS z'.1):p:=f ⟨h⟩
theorem K4w(h:q)(f:Wd q→p:=by intro z';refine Kgc ?_;exact SS z'.1):p:=f ⟨h⟩
theorem K4x(h:q)(f:Wd q→p:=by intro z';refine SS ?_;exact K3v z'.1):p:=f ⟨h⟩
theorem K5w(h:q)(f:Wd q→p:=by intro z';refine K1 ?_;exact K1v z'.1):p:=f ⟨h⟩
theorem K5x(h:q)(f:Wd q→p:=by intro z';refine K2w ?_;exact K1 z'.1):p:=f ⟨h⟩
theorem K5y(h:q)(f:Wd q→p:=by intro z';refine Kt ?_;exact K0 z'.1):p:=f ⟨h⟩
theorem K5z(h:q)(f:Wd q→p:=by intro z';refine K2x ?_;exact K2x z'.1):p:=f ⟨h⟩
theorem K60(h:q)(f:Wd q→p:=by intro z';refine K37 ?_;exact K1 z'.1):p:=f ⟨h⟩
theorem K61(h:q)(f:Wd q→p:=by intro z';refine K1 ?_;exact Ky z'.1):p:=f ⟨h⟩
theorem K62(h:q)(f:Wd q→p:=by intro z';refine K1 ?_;exact Kc6 z'.1):p:=f ⟨h⟩
theorem K63(h:q)(f:Wd q→p:=by intro z';refine Kh ?_;exact K0 z'.1):p:=f ⟨h⟩
theorem K64(h:q)(f:Wd q→p:=by intro z';refine K1w ?_;exact Kab z'.1):p:=f ⟨h⟩
theorem K65(h:q)(f:Wd q→p:=by intro z';refine Kam ?_;exact K1 z'.1):p:=f ⟨h⟩
theorem K66(h:q)(f:Wd q→p:=by intro z';refine Kk ?_;exact K0 z'.1):p:=f ⟨h⟩
theorem K67(h:q)(f:Wd q→p:=by intro z';refine K2 ?_;exact Kv z'.1):p:=f ⟨h⟩
theorem K68(h:q)(f:Wd q→p:=by intro z';refine K36 ?_;exact K1 z'.1):p:=f ⟨h⟩
theorem K69(h:q)(f:Wd q→p:=by intro z';refine Kb ?_;exact K0 z'.1):p:=f ⟨h⟩
theorem K6a(h:q)(f:Wd q→p:=by intro z';refine K2 ?_;exact K1l z'.1):p:=f ⟨h⟩
theorem K6b(h:q)(f:Wd q→p:=by intro z';refine K2n ?_;exact K1 z'.1):p:=f ⟨h⟩
theorem K6c(h:q)(f:Wd q→p:=by intro z';refine K0 ?_;exact Kgd z'.1):p:=f ⟨h⟩
theorem K6d(h:q)(f:Wd q→p:=by intro z';refine Ke ?_;exact K0 z'.1):p:=f ⟨h⟩
theorem K6e(h:q)(f:Wd q→p:=by intro z';refine K9 ?_;exact K7w z'.1):p:=f ⟨h⟩
theorem K6f(h:q)(f:Wd q→p:=by intro z';refine K11 ?_;exact K1 z'.1):p:=f ⟨h⟩
theorem K6g(h:q)(f:Wd q→p:=by intro z';refine K70 ?_;exact K1 z'.1):p:=f ⟨h⟩
theorem K6h(h:q)(f:Wd q→p:=by intro z';refine Kz ?_;exact Kdc z'.1):p:=f ⟨h⟩
theorem K6i(h:q)(f:Wd q→p:=by intro z';refine K1 ?_;exact Kge z'.1):p:=f ⟨h⟩
theorem K6j(h:q)(f:Wd q→p:=by intro z';refine Kgf ?_;exact K15 z'.1):p:=f ⟨h⟩
theorem Kgv(h:q)(f:Wd q→p:=by intro z';refine Kgg ?_;exact Kgh z'.1):p:=f ⟨h⟩
theorem K6k(h:q)(f:Wd q→p:=by intro z';refine Kgv ?_;exact Kgi z'.1):p:=f ⟨h⟩
theorem K6l(h:q)(f:Wd q→p:=by intro z';refine Kr ?_;exact K0 z'.1):p:=f ⟨h⟩
theorem K6m(h:q)(f:Wd q→p:=by intro z';refine K54 ?_;exact K0 z'.1):p:=f ⟨h⟩
theorem K6n(h:q)(f:Wd q→p:=by intro z';refine K92 ?_;exact K5v z'.1):p:=f ⟨h⟩
theorem K6o(h:q)(f:Wd q→p:=by intro z';refine K0 ?_;exact K5u z'.1):p:=f ⟨h⟩
theorem K6p(h:q)(f:Wd q→p:=by intro z';refine K2 ?_;exact Kc7 z'.1):p:=f ⟨h⟩
theorem K6q(h:q)(f:Wd q→p:=by intro z';refine K0 ?_;exact Kc8 z'.1):p:=f ⟨h⟩
theorem K6r(h:q)(f:Wd q→p:=by intro z';refine Kg1 ?_;exact Kgq z'.1):p:=f ⟨h⟩
theorem K6s(h:q)(f:Wd q→p:=by intro z';refine Kc9 ?_;exact Kgr z'.1):p:=f ⟨h⟩
theorem K6t(h:q)(f:Wd q→p:=by intro z';refine Kca ?_;exact Kac z'.1):p:=f ⟨h⟩
theorem K6u(h:q)(f:Wd q→p:=by intro z';refine Kg ?_;exact K2t z'.1):p:=f ⟨h⟩
theorem Kcc(h:q)(f:Wd q→p:=by intro z';refine K1 ?_;exact ret_tmp Tryz.results102 rfl z'.1):p:=f ⟨h⟩
theorem Kg8(h:q)(f:Wd q→p:=by intro z';refine K2 ?_;exact s_val rfl rfl (v_build (qs:=[(1,.string s)]) (bdK107 _) rfl rfl) z'.1):p:=f ⟨h⟩
theorem Kg9(h:q)(f:Wd q→p:=by intro z';refine s_val rfl rfl (v_fa fa52_1 rfl rfl) ?_;exact s_val rfl rfl (v_fa fa48_0 rfl rfl) z'.1):p:=f ⟨h⟩
theorem H0(h:q)(f:Wd q→p:=by intro z';exact s_storeAll cx 0 rfl rfl rfl rfl rfl rfl sz78 rfl rfl z'.1):p:=f ⟨h⟩
theorem H1(h:q)(f:Wd q→p:=by intro z';exact s_alloc cx z78 rfl rfl rfl z'.1):p:=f ⟨h⟩
theorem H2(h:q)(f:Wd q→p:=by intro z';exact s_store1 (v:=.int .i64 4) cx 0 rfl rfl rfl rfl rfl rfl rfl rfl sz3 z'.1):p:=f ⟨h⟩
theorem H3(h:q)(f:Wd q→p:=by intro z';exact s_storeAll cx 1 rfl rfl rfl hs2 rfl rfl sz78 rfl rfl z'.1):p:=f ⟨h⟩
theorem H4(h:q)(f:Wd q→p:=by intro z';exact s_appL cx hO ei8 p3q Tryz.underlying79 Tryz.underlying9 rfl rfl rfl rfl rfl z'.1):p:=f ⟨h⟩
theorem H5(h:q)(f:Wd q→p:=by intro z';exact s_store1 (v:=.bool true) cx 0 rfl rfl rfl rfl rfl rfl rfl rfl sz4 z'.1):p:=f ⟨h⟩
theorem H6(h:q)(f:Wd q→p:=by intro z';exact s_fn cx (c41 _ _ _ (hp.up cx.ext) (fun s hs=>(hgd.2 s hs).gds) hgd.1 (ht.up cx.ext)) Tryz.func41 rfl rfl rfl rfl rfl rfl z'.1):p:=f ⟨h⟩
theorem H7(h:q)(f:Wd q→p:=by intro z';exact s_fn cx (c301w z _ (by omega) (by omega)) Tryz.func301 rfl rfl rfl rfl rfl rfl z'.1):p:=f ⟨h⟩
theorem H8(h:q)(f:Wd q→p:=by intro z';exact s_alloc cx z76 rfl rfl rfl z'.1):p:=f ⟨h⟩
theorem H9(h:q)(f:Wd q→p:=by intro z';exact s_storeAll cx 0 rfl rfl rfl rfl rfl rfl sz76 rfl rfl z'.1):p:=f ⟨h⟩
theorem Ha(h:q)(f:Wd q→p:=by intro z';exact s_bsl1 cx Tryz.underlying33 sz9 z9 rfl rfl rfl rfl rfl rfl rfl rfl z'.1):p:=f ⟨h⟩
theorem Hb(h:q)(f:Wd q→p:=by intro z';exact s_append cx ei9 Tryz.underlying33 rfl rfl rfl rfl rfl (cx.row 0 rfl) rfl rfl (by omega) z'.1):p:=f ⟨h⟩
theorem Hc(h:q)(f:Wd q→p:=by intro z';exact s_box cx rfl rfl rfl rfl rfl z'.1):p:=f ⟨h⟩
theorem Hd(h:q)(f:Wd q→p:=by intro z';exact s_fnI cx (c293 _ (ht.up cx.ext)) Tryz.func293 rfl rfl rfl rfl rfl rfl z'.1):p:=f ⟨h⟩
theorem He(h:q)(f:Wd q→p:=by intro z';exact s_bsl1 cx Tryz.underlying79 sz5 z5 rfl rfl rfl rfl rfl rfl rfl rfl z'.1):p:=f ⟨h⟩
theorem Hf(h:q)(f:Wd q→p:=by intro z';exact s_append cx ei5 Tryz.underlying79 rfl rfl rfl rfl rfl (cx.row 0 rfl) rfl rfl (by omega) z'.1):p:=f ⟨h⟩
theorem Hg(h:q)(f:Wd q→p:=by intro z';exact s_appendB cx ei8 Tryz.underlying79 Tryz.underlying9 rfl rfl rfl rfl rfl p5q z'.1):p:=f ⟨h⟩
theorem Hh(h:q)(f:Wd q→p:=by intro z';exact s_alloc cx z107 rfl rfl rfl z'.1):p:=f ⟨h⟩
theorem Hi(h:q)(f:Wd q→p:=by intro z';exact s_storeAll cx 0 rfl rfl rfl rfl rfl rfl sz107 rfl rfl z'.1):p:=f ⟨h⟩
theorem Hj(h:q)(f:Wd q→p:=by intro z';exact s_fn cx (c47 _ _ (ht.up cx.ext) (by omega) (by omega)) Tryz.func47 rfl rfl rfl rfl rfl rfl z'.1):p:=f ⟨h⟩
theorem Hk(h:q)(f:Wd q→p:=by intro z';exact s_appendB cx ei8 Tryz.underlying79 Tryz.underlying9 rfl rfl rfl rfl rfl p20q z'.1):p:=f ⟨h⟩
theorem Hl(h:q)(f:Wd q→p:=by intro z';exact s_callv (args:=[.int .i64 1]) (cap:=[.pointer (some ⟨b4,0,none⟩)]) (c174 w0 _ b4 _ _ [] _ cx (by omega) p8q) Tryz.func174 rfl rfl rfl rfl rfl rfl rfl z'.1):p:=f ⟨h⟩
theorem Hm(h:q)(f:Wd q→p:=by intro z';exact s_callv (args:=[.int .i64 m]) (cap:=[.pointer (some ⟨b4,0,none⟩)]) (c174 w0 _ b4 _ _ [] _ cx (by omega) p8q) Tryz.func174 rfl rfl rfl rfl rfl rfl rfl z'.1):p:=f ⟨h⟩
theorem Hn(h:q)(f:Wd q→p:=by intro z';exact s_bsl1 cx Tryz.underlying28 sz107 z107 rfl rfl rfl rfl rfl rfl rfl rfl z'.1):p:=f ⟨h⟩
theorem Ho(h:q)(f:Wd q→p:=by intro z';exact s_append cx ei107 Tryz.underlying28 rfl rfl rfl rfl rfl (cx.row 0 rfl) rfl rfl (by omega) z'.1):p:=f ⟨h⟩
theorem Hp(h:q)(f:Wd q→p:=by intro z';exact s_callv (args:=[.int .i64 _]) (cap:=[.pointer (some ⟨b4,0,none⟩)]) (c174 w0 _ b4 _ _ [] _ cx (by omega) p8q) Tryz.func174 rfl rfl rfl rfl rfl rfl rfl z'.1):p:=f ⟨h⟩
theorem Hq(h:q)(f:Wd q→p:=by intro z';exact s_fn cx (c177 _ _) Tryz.func177 rfl rfl rfl rfl rfl rfl z'.1):p:=f ⟨h⟩
theorem Hr(h:q)(f:Wd q→p:=by intro z';exact s_storeAll cx 0 rfl rfl rfl hs2 rfl rfl sz107 rfl rfl z'.1):p:=f ⟨h⟩
theorem Hs(h:q)(f:Wd q→p:=by intro z';exact s_storeAll cx 0 rfl rfl rfl hs2 rfl rfl sz76 rfl rfl z'.1):p:=f ⟨h⟩
theorem Ht(h:q)(f:Wd q→p:=by intro z';exact s_fn cx (c312 y m _ (by omega) (by omega)) Tryz.func312 rfl rfl rfl rfl rfl rfl z'.1):p:=f ⟨h⟩
theorem Hu(h:q)(f:Wd q→p:=by intro z';exact s_fn cx (c311 y _ (by omega)) Tryz.func311 rfl rfl rfl rfl rfl rfl z'.1):p:=f ⟨h⟩
theorem Hv(h:q)(f:Wd q→p:=by intro z';exact pu_nil z'.1):p:=f ⟨h⟩
theorem Hw(h:q)(f:Wd q→p:=by intro z';exact s_fn cx (c277b _ 2 2900 _ pcq (by omega) (by decide)) Tryz.func277 rfl rfl rfl rfl rfl rfl z'.1):p:=f ⟨h⟩
theorem Hx(h:q)(f:Wd q→p:=by intro z';exact s_alloc cx z83 rfl rfl rfl z'.1):p:=f ⟨h⟩
theorem Hy(h:q)(f:Wd q→p:=by intro z';exact s_storeAll cx 0 rfl rfl rfl rfl rfl rfl sz83 rfl rfl z'.1):p:=f ⟨h⟩
theorem Hz(h:q)(f:Wd q→p:=by intro z';exact s_fn cx (c324 (s.drop (Int.toNat 1)) _ peq) Tryz.func324 rfl rfl rfl rfl rfl rfl z'.1):p:=f ⟨h⟩
theorem H10(h:q)(f:Wd q→p:=by intro z';exact s_storeAll cx 1 rfl rfl rfl rfl rfl rfl sz83 rfl rfl z'.1):p:=f ⟨h⟩
theorem H11(h:q)(f:Wd q→p:=by intro z';exact s_alloc cx z133 rfl rfl rfl z'.1):p:=f ⟨h⟩
theorem H12(h:q)(f:Wd q→p:=by intro z';exact s_storeAll cx 0 rfl rfl rfl rfl rfl rfl sz133 rfl (fone (vrow_one rfl rfl rfl)) z'.1):p:=f ⟨h⟩
theorem H13(h:q)(f:Wd q→p:=by intro z';exact s_storeAll cx 0 rfl rfl rfl rfl rfl rfl sz83 rfl (vrow_one rfl rfl rfl) z'.1):p:=f ⟨h⟩
theorem H14(h:q)(f:Wd q→p:=by intro z';exact s_storeAll cx 1 rfl rfl rfl rfl rfl rfl sz133 rfl (fone (vrow_one rfl rfl rfl)) z'.1):p:=f ⟨h⟩
theorem H15(h:q)(f:Wd q→p:=by intro z';exact s_storeAll cx 1 rfl rfl rfl rfl rfl rfl sz83 rfl (vrow_one rfl rfl rfl) z'.1):p:=f ⟨h⟩
theorem H16(h:q)(f:Wd q→p:=by intro z';exact s_storeAll cx 1 rfl rfl rfl hs4 rfl rfl sz83 rfl (vrow_one rfl rfl rfl) z'.1):p:=f ⟨h⟩
theorem H17(h:q)(f:Wd q→p:=by intro z';exact s_bsl1 cx Tryz.underlying80 sz83 z83 rfl rfl rfl rfl rfl rfl rfl rfl z'.1):p:=f ⟨h⟩
theorem H18(h:q)(f:Wd q→p:=by intro z';exact s_append cx ei83 Tryz.underlying80 rfl rfl rfl rfl rfl (cx.row 0 rfl) rfl (vrow_one rfl rfl rfl) (by omega) z'.1):p:=f ⟨h⟩
theorem H19(h:q)(f:Wd q→p:=by intro z';exact s_bsl1 cx Tryz.underlying81 sz133 z133 rfl rfl rfl rfl rfl rfl rfl rfl z'.1):p:=f ⟨h⟩
theorem H1a(h:q)(f:Wd q→p:=by intro z';exact s_append cx ei133 Tryz.underlying81 rfl rfl rfl rfl rfl (cx.row 0 rfl) rfl (fone (vrow_one rfl rfl rfl)) (by omega) z'.1):p:=f ⟨h⟩
theorem H1b(h:q)(f:Wd q→p:=by intro z';exact s_fnB cx ((c44w _ _ (by omega))) Tryz.func44 rfl rfl rfl rfl rfl rfl z'.1):p:=f ⟨h⟩
theorem H1c(h:q)(f:Wd q→p:=by intro z';exact s_fn cx (c236 n.toNat _ (by omega)) Tryz.func236 rfl rfl rfl rfl rfl p10q z'.1):p:=f ⟨h⟩
theorem H1d(h:q)(f:Wd q→p:=by intro z';exact s_fn cx (c237 z _ (by omega) (by omega)) Tryz.func237 rfl rfl rfl rfl rfl rfl z'.1):p:=f ⟨h⟩
theorem H1e(h:q)(f:Wd q→p:=by intro z';exact s_appendB cx ei8 Tryz.underlying79 Tryz.underlying9 rfl rfl rfl rfl rfl (by omega) z'.1):p:=f ⟨h⟩
theorem H1f(h:q)(f:Wd q→p:=by intro z';exact s_appendB (l:=tx) cx ei8 Tryz.underlying79 Tryz.underlying9 rfl rfl rfl rfl rfl (by omega) z'.1):p:=f ⟨h⟩
theorem H1g(h:q)(f:Wd q→p:=by intro z';exact s_store1 (v:=.slice none 0 0) cx 1 rfl rfl rfl rfl rfl rfl rfl rfl sz81 z'.1):p:=f ⟨h⟩
theorem H1h(h:q)(f:Wd q→p:=by intro z';exact s_call (c225 wb _ b L R _ _ h (by omega) (by omega) p3q) Tryz.func225 rfl rfl rfl rfl rfl rfl z'.1):p:=f ⟨h⟩
theorem H1i(h:q)(f:Wd q→p:=by intro z';exact s_call (c225 wb _ b L R _ _ h (byteAt_lo _ _) (byteAt_hi _ _) p3q) Tryz.func225 rfl rfl rfl rfl rfl rfl z'.1):p:=f ⟨h⟩
theorem H1j(h:q)(f:Wd q→p:=by intro z';exact s_store1 (v:=.int .i64 ((p+a.length:Nat):Int)) cx 0 rfl rfl rfl rfl rfl rfl rfl rfl sz3 z'.1):p:=f ⟨h⟩
theorem H1k(h:q)(f:Wd q→p:=by intro z';exact s_fn cx (c248 s _ b _ (cx.row 0 rfl) (by omega)) Tryz.func248 rfl rfl rfl rfl rfl rfl z'.1):p:=f ⟨h⟩
theorem H1l(h:q)(f:Wd q→p:=by intro z';exact s_fn cx (of_allB shq_k ((i:Nat):Int) (by omega) (by omega) _) Tryz.func302 rfl rfl rfl rfl rfl rfl z'.1):p:=f ⟨h⟩
theorem H1m(h:q)(f:Wd q→p:=by intro z';exact s_store1 (v:=.int .i64 ((p+1:Nat):Int)) cx 0 rfl rfl rfl rfl rfl rfl rfl rfl sz3 z'.1):p:=f ⟨h⟩
theorem H1n(h:q)(f:Wd q→p:=by intro z';exact s_store1 (v:=.int .i64 ((q+1:Nat):Int)) cx 0 rfl rfl rfl rfl rfl rfl rfl rfl sz3 z'.1):p:=f ⟨h⟩
theorem H1o(h:q)(f:Wd q→p:=by intro z';exact s_fnB cx ((c380 y _)) Tryz.func380 rfl rfl rfl rfl rfl rfl z'.1):p:=f ⟨h⟩
theorem H1p(h:q)(f:Wd q→p:=by intro z';exact s_store1 (v:=.int .i64 (n6:Nat)) cx 1 rfl rfl rfl rfl rfl rfl rfl rfl sz3 z'.1):p:=f ⟨h⟩
theorem H1q(h:q)(f:Wd q→p:=by intro z';exact s_call (c378 wb _ b d2 s2 _ R cx (by omega) 2 (by decide)) Tryz.func378 rfl rfl rfl rfl rfl rfl z'.1):p:=f ⟨h⟩
theorem H1r(h:q)(f:Wd q→p:=by intro z';exact s_store1 (v:=.int .i64 (n13:Nat)) cx 1 rfl rfl rfl rfl rfl rfl rfl rfl sz3 z'.1):p:=f ⟨h⟩
theorem H1s(h:q)(f:Wd q→p:=by intro z';exact s_call (c378 wb _ b d4 s4 _ R cx (by omega) 2 (by decide)) Tryz.func378 rfl rfl rfl rfl rfl rfl z'.1):p:=f ⟨h⟩
theorem H1t(h:q)(f:Wd q→p:=by intro z';exact s_store1 (v:=.int .i64 (n20:Nat)) cx 1 rfl rfl rfl rfl rfl rfl rfl rfl sz3 z'.1):p:=f ⟨h⟩
theorem H1u(h:q)(f:Wd q→p:=by intro z';exact s_fn cx (c269 ((s.take (Int.toNat (q:Int))).drop (Int.toNat (p:Int))) _ (by rw [List.length_drop,List.length_take];omega)) Tryz.func269 rfl rfl rfl rfl rfl rfl z'.1):p:=f ⟨h⟩
theorem H1v(h:q)(f:Wd q→p:=by intro z';exact s_fn cx (c248w s q b e _ (cx.row 2 rfl) (by omega)) Tryz.func248 rfl rfl rfl rfl rfl rfl z'.1):p:=f ⟨h⟩
theorem H1w(h:q)(f:Wd q→p:=by intro z';exact s_call (c320w wb _ b q e s _ _ cx (by omega) hs [44] (by decide)) Tryz.func320 rfl rfl rfl rfl rfl rfl z'.1):p:=f ⟨h⟩
theorem H1x(h:q)(f:Wd q→p:=by intro z';exact s_store1 (v:=.int .i64 ((p+1:Nat):Int)) cx 1 rfl rfl rfl rfl rfl rfl rfl rfl sz3 z'.1):p:=f ⟨h⟩
theorem H1y(h:q)(f:Wd q→p:=by intro z';exact s_call (c250w wb _ b (p+1) d s _ _ cx (by omega) hs) Tryz.func250 rfl rfl rfl rfl rfl rfl z'.1):p:=f ⟨h⟩
theorem H1z(h:q)(f:Wd q→p:=by intro z';exact s_call (c413w wb L R g c n E0 hR hn hn1 _ _ _ _ _ E hp cx (by omega) (by omega) (by omega) (by omega) (by omega)) Tryz.func413 rfl rfl rfl rfl rfl rfl z'.1):p:=f ⟨h⟩
theorem H20(h:q)(f:Wd q→p:=by intro z';exact s_call (ih wb L R g c n E0 hR hn hn1 _ _ _ _ E hp cx (by omega) (by omega) (by omega) (by omega) (by omega)) Tryz.func406 rfl rfl rfl rfl rfl rfl z'.1):p:=f ⟨h⟩
theorem H21(h:q)(f:Wd q→p:=by intro z';exact s_call (c405w wb L R g c n E0 hR hn hn1 _ _ _ E hp cx (by omega) (by omega) (by omega)) Tryz.func405 rfl rfl rfl rfl rfl rfl z'.1):p:=f ⟨h⟩
theorem H22(h:q)(f:Wd q→p:=by intro z';exact s_call (c406w _ wb L R g c n E0 hR hn hn1 _ _ _ _ E hp cx (Nat.le_refl _) (by omega) (by omega) (by omega) (by omega)) Tryz.func406 rfl rfl rfl rfl rfl rfl z'.1):p:=f ⟨h⟩
theorem H23(h:q)(f:Wd q→p:=by intro z';exact s_fn cx (c338x y m _ hy1 hy2 (by omega) (by omega)) Tryz.func338 rfl rfl rfl rfl rfl rfl z'.1):p:=f ⟨h⟩
theorem H24(h:q)(f:Wd q→p:=by intro z';exact s_fn cx (c299w d.toNat _ (by omega)) Tryz.func299 rfl rfl rfl rfl rfl p22q z'.1):p:=f ⟨h⟩
theorem H25(h:q)(f:Wd q→p:=by intro z';exact s_fn cx (c300w n.toNat _ (by omega)) Tryz.func300 rfl rfl rfl rfl rfl p10q z'.1):p:=f ⟨h⟩
theorem H26(h:q)(f:Wd q→p:=by intro z';exact s_call (c197 wb _ b _ R _ _ h p3q) Tryz.func197 rfl rfl rfl rfl rfl rfl z'.1):p:=f ⟨h⟩
theorem H27(h:q)(f:Wd q→p:=by intro z';exact s_call (c225 wb _ b _ R _ 44 h (by decide) (by decide) p3q) Tryz.func225 rfl rfl rfl rfl rfl rfl z'.1):p:=f ⟨h⟩
theorem H28(h:q)(f:Wd q→p:=by intro z';exact s_storeAll cx 2 rfl rfl rfl rfl rfl rfl sz83 rfl (vrow_one rfl rfl rfl) z'.1):p:=f ⟨h⟩
theorem H29(h:q)(f:Wd q→p:=by intro z';exact s_fn cx (c105 s [32] _ (hcn.up cx.ext) (by omega)) Tryz.func105 rfl rfl rfl rfl rfl rfl z'.1):p:=f ⟨h⟩
theorem H2a(h:q)(f:Wd q→p:=by intro z';exact s_bsl1 cx Tryz.underlying32 sz52 z52 rfl rfl rfl rfl rfl rfl rfl rfl z'.1):p:=f ⟨h⟩
theorem H2b(h:q)(f:Wd q→p:=by intro z';exact s_append cx ei52 Tryz.underlying32 rfl rfl rfl rfl rfl (cx.row 0 rfl) rfl rfl (by omega) z'.1):p:=f ⟨h⟩
theorem H2c(h:q)(f:Wd q→p:=by intro z';exact s_alloc cx z35 rfl rfl rfl z'.1):p:=f ⟨h⟩
theorem H2d(h:q)(f:Wd q→p:=by intro z';exact s_fn cx (c109 s _ pdq) Tryz.func109 rfl rfl rfl rfl rfl rfl z'.1):p:=f ⟨h⟩
theorem H2e(h:q)(f:Wd q→p:=by intro z';exact s_fn cx (c109 (Lib.cut s [32]).2.1 _ pdq) Tryz.func109 rfl rfl rfl rfl rfl rfl z'.1):p:=f ⟨h⟩
theorem H2f(h:q)(f:Wd q→p:=by intro z';exact s_storeAll cx 0 rfl rfl rfl rfl rfl rfl sz83 rfl (one13 ho1 ho2 ho3) z'.1):p:=f ⟨h⟩
theorem H2g(h:q)(f:Wd q→p:=by intro z';exact s_storeAll cx 0 rfl rfl rfl rfl rfl rfl sz52 rfl rfl z'.1):p:=f ⟨h⟩
theorem H2h(h:q)(f:Wd q→p:=by intro z';exact s_store1 (v:=.int .i64 1) cx 0 rfl rfl rfl rfl rfl rfl rfl rfl sz3 z'.1):p:=f ⟨h⟩
theorem H2i(h:q)(f:Wd q→p:=by intro z';exact s_storeAll cx 0 rfl rfl rfl rfl rfl rfl sz35 rfl rfl z'.1):p:=f ⟨h⟩
theorem H2j(h:q)(f:Wd q→p:=by intro z';exact s_storeAll cx 1 rfl rfl rfl hs2 rfl rfl sz35 rfl rfl z'.1):p:=f ⟨h⟩
theorem H2k(h:q)(f:Wd q→p:=by intro z';exact s_storeAll cx 1 rfl rfl rfl hs2 rfl rfl sz35 rfl (one5 cx.oneS cx.swapR.oneS) z'.1):p:=f ⟨h⟩
theorem H2l(h:q)(f:Wd q→p:=by intro z';exact s_fn cx (c55 s [99,111,108,117,109,110,32] _) Tryz.func55 rfl rfl rfl rfl rfl rfl z'.1):p:=f ⟨h⟩
theorem H2m(h:q)(f:Wd q→p:=by intro z';exact s_gfnB cx rfl rfl rfl wT (fun hc=>c8 _) Tryz.func8 rfl rfl rfl (fun hc=>rfl) z'.1):p:=f ⟨h⟩
theorem Ez0(h:p:=by exact ⟨cx.ext,_,_,_,_,_,rfl⟩):p:=h
theorem Ez1(h:p:=by exact ⟨_,rfl,_,_,_,_,_,_,_,rfl,rfl,rfl,rfl,cx⟩):p:=h
theorem Ez2(h:p:=by exact ⟨cx.ext,rfl⟩):p:=h
theorem Ez3(h:p:=by exact ⟨3,by omega,by omega,rfl,rfl,cx⟩):p:=h
theorem Ez4(h:p:=by exact IntWalk.i64_in _ (by omega)):p:=h
theorem Ez5(h:p:=by exact ⟨rfl,rfl⟩):p:=h
theorem Ez6(h:p:=by exact ⟨rfl,hcx.1.call hb,hcx.2.trans (hb.mono hcx.2.size)⟩):p:=h
theorem Ez7(h:p:=by exact .inl ⟨none,h',n,h1,opv_of_hok h2⟩):p:=h
theorem Ez8(h:p:=by exact ⟨0,by omega,rfl,rfl,by simp,cx⟩):p:=h
theorem Ez9(h:p:=by exact (drop_at _ _ _ 0 p12q).trans rfl):p:=h
theorem Eza(h:p:=by exact ⟨0,by omega,rfl,rfl,fun j h=>by omega,cx⟩):p:=h
theorem Ezb(h:p:=by exact absurd (List.cons.inj (show [(46:UInt8)]=[91] from hc39)).1 (by decide)):p:=h
theorem Ezc(h:p:=by exact ⟨0,by omega,rfl,rfl,cx⟩):p:=h
theorem Ezd(h:p:=by exact ⟨cx.ext,i,rfl,by omega⟩):p:=h
theorem Eze(h:p:=by exact ⟨cx.ext,_,rfl,fun h=>by cases h⟩):p:=h
theorem Ezf(h:p:=by exact ⟨0,by omega,rfl,rfl,rfl,cx⟩):p:=h
theorem Ezg(h:p:=by exact ⟨0,[],_,by omega,by simp,rfl,rfl,rfl,rfl,cx.nilRow 5 1⟩):p:=h
theorem Ezh(h:p:=by exact absurd hc (hns c)):p:=h
theorem Ezi(h:p:=by exact ⟨_,.mk sc0 [] [] [],_,0,[],rfl,cx.noL.noR,RR.leafS 83 133 [] sc0,by omega,.inl rfl⟩):p:=h
theorem Ezj(h:p:=by exact ⟨cx.ext,_,rfl,trivial⟩):p:=h
theorem Ezk(h:p:=by exact h.mono fun v w' _ ⟨t,h1,h2⟩=>⟨t,h1,by simpa using h2⟩):p:=h
theorem Ezl(h:p:=by exact ⟨cx.ext,_,rfl,by simp only [Bool.and_eq_true,decide_eq_true_eq];omega⟩):p:=h
theorem Ezm(h:p:=by exact ⟨0,by omega,rfl,rfl,rfl,rfl,cx⟩):p:=h
theorem Ezn(h:p:=by first | exact ⟨_,rfl,_,_,_,hs2,hs7,cx.noR.pick2 0 3 rfl rfl rfl⟩):p:=h
theorem Ezo(h:p:=by exact ⟨cx.ext,t,rfl,ht⟩):p:=h
theorem Ezp(h:p:=by first | exact ⟨_,rfl,_,_,_,b2,p7q,p7q,by omega,by omega,rfl,hs2,hs4,rfl,rfl,cx⟩):p:=h
theorem Ezq(h:p:=by first | exact ⟨_,rfl,_,b2,p7q,rfl,hs2,hs4,hs6,hs7,rfl,cx⟩):p:=h
theorem Ezr(h:p:=by exact ⟨cx.ext,(cx.row_eq (by omega) (by simp)).rows _ (List.mem_cons_self ..)⟩):p:=h
theorem Bz0(h:p:=by
 refine Kg ?_
 refine K6v ?_
 refine K2b ?_
 refine Km ?_
 refine Kb ?_
 refine SS ?_
 refine K1q ?_
 refine Kcd ?_
 refine K3 ?_
 refine K1q ?_
 refine s_store1 (v:=.bool (d||!(de==0))) cx 2 rfl rfl rfl rfl rfl rfl rfl rfl sz4 ?_;intro w cx hwS6
 refine K1 ?_
 refine Kad ?_
 refine s_val rfl rfl (v_build (qs:=[(0,.int .i64 2),(2,.agg #[.bool db,.string (bs dt),.int .i64 dx])]) (bd83dec db (bs dt) dx) rfl rfl) ?_
 refine s_storeAll cx 1 rfl rfl rfl hs2 rfl rfl sz83 rfl (vrow_one rfl rfl rfl) ?_;intro w cx hwS7
 refine K0 ?_
 refine ret_cell Tryz.results253 hs2 (cx.at 1 rfl) Tryz.underlying83 rfl sz83 ?_
 refine ⟨.mk ⟨2,false,db,bs dt,dx,0,0,0,0,ByteArray.empty⟩ [] [] [],_,q,d||!(de==0),[],rfl,cx.drop 2,RR.leafS _ _ [] _,by omega,by omega,?_⟩
 by_cases he:d=false∧de=0
 · have:=hde he.2
   refine .inr ⟨by omega,Dp_leaf D _ [] ⟨hdx0,hdx1⟩,?_⟩
   rw [vs_leaf]
   show 1+0+(bs dt).size+0≤_
   rw [bs_size];omega
 · left
   simp only [Bool.or_eq_true,Bool.not_eq_true',beq_eq_false_iff_ne,ne_eq]
   cases d
   · exact .inr fun h=>he ⟨rfl,h⟩
   · exact .inl rfl):p:=h
theorem Bz1(h:p:=by
 refine K4i ?_
 refine cSp rfl (fun hc86=>?_) (fun hc86=>?_)
 ·
  refine K4j ?_
  refine H0 ?_;intro w cx hwS18
  exact Bz166
 refine K3 ?_
 refine s_val rfl rfl (v_build (qs:=[(0,.int .i64 3),(1,.int .i64 dd),(2,.int .i64 n)]) (bd78c dd n) rfl rfl) ?_
 refine H1 ?_;intro b14 w cx hb14 hw14
 refine H0 ?_;intro w cx hwS19
 refine SS ?_
 refine w_cut (fun f w1=>∃ (b2 b14:Nat) (k0 d0 n0 z0:Int) (bb:Bool),f 2=.pointer (some ⟨b2,0,none⟩)∧f 9=.int .i64 de∧f 13=.bool bb∧f 14=.pointer (some ⟨b14,0,none⟩)∧Ctx w0 w1 [(b14,.cells ([.int .i64 k0,.int .i64 d0,.int .i64 n0,.int .i64 z0]:List Value).toArray 78),(b2,.cells ([.int .i64 0,.int .i64 0,.int .i64 0,.int .i64 0]:List Value).toArray 78)]) ?_ ?_
 ·
  refine K1 ?_
  refine K4y ?_
  refine SS ?_
  refine cSp rfl (fun hc92=>?_) (fun hc92=>?_)
  ·
   refine K1 ?_
   refine s_fn cx (c278 r _ (by (try simp only [List.length_drop] at hr);omega)) Tryz.func278 rfl rfl rfl rfl rfl rfl ?_;intro q95 w cx hw95 hp95
   obtain ⟨o1,b3,b4,rfl⟩:=hp95
   refine K13 ?_
   refine cSp rfl (fun hc100=>?_) (fun hc100=>?_)
   ·
    refine K4j ?_
    refine s_storeAll cx 1 rfl rfl rfl rfl rfl rfl sz78 rfl rfl ?_;intro w cx hwS23
    refine K1 ?_
    refine ret_cell2 Tryz.results199 rfl rfl (cx.at 1 rfl) Tryz.underlying78 rfl sz78 ?_
    exact Ez0
   refine K1 ?_
   refine K42 ?_
   refine H2 ?_;intro w cx hwS24
   refine K2 ?_
   refine s_val rfl rfl (v_fa fa78_3 rfl rfl) ?_
   refine s_store1 (v:=.int .i64 o1) cx 0 rfl rfl rfl rfl rfl rfl rfl rfl sz3 ?_;intro w cx hwS25
   refine K6 ?_
   exact Ez1
  refine SS ?_
  exact Ez1
 intro f w hJ
 obtain ⟨b2,b14,k0,d0,n0,z0,bb,hs2,hs9,hs13,hs14,cx⟩:=hJ
 refine K5w ?_
 refine K0 ?_
 refine s_gval rfl rfl rfl wF (fun hc=>v_move rfl hs13) ?_
 refine K1 ?_
 refine cSp rfl (fun hc114=>?_) (fun hc114=>?_)
 ·
  refine K4j ?_
  refine H3 ?_;intro w cx hwS28
  exact Bz176
 refine K1 ?_
 refine s_val rfl rfl (v_load rfl hs14 Tryz.underlying78 rfl sz78 (cx.row 0 rfl) rfl) ?_
 refine H3 ?_;intro w cx hwS29
 exact Bz176):p:=h
theorem Bz2(h:p:=by
 refine K2 ?_
 refine K3c ?_
 first | exact ⟨cx.ext,0,0,rfl,by omega⟩ | exact ⟨cx.ext,10,1,rfl,by omega⟩ | exact ⟨cx.ext,9,1,rfl,by omega⟩ | exact ⟨cx.ext,13,1,rfl,by omega⟩ | exact ⟨cx.ext,_,1,rfl,by omega⟩ | exact ⟨cx.ext,cu,m+1,by rw [← hcu];rfl,by omega⟩):p:=h
theorem Bz3(h:p:=by
 refine Kd ?_
 refine K43 ?_
 refine s_val rfl rfl (v_strAddB (a:=((((itoa e.fr)++[32])++itoa e.to)++[32])) (b:=pathT e.path) rfl rfl rfl p3q) ?_
 refine Kd ?_
 refine K6v ?_
 refine s_val rfl rfl (v_strAddB (a:=(((((itoa e.fr)++[32])++itoa e.to)++[32])++pathT e.path)) (b:=[10]) rfl rfl rfl p3q) ?_
 refine Kd ?_
 refine x_one (i:=17) p1q rfl ?_
 replace cx:=cx.drop 1
 refine H4 ?_;intro g78 cur78 fz78 cap78 w cx hO
 refine Kg ?_
 refine x_one (i:=18) p1q rfl ?_
 refine K2b ?_
 exact ⟨_,rfl,b1,_,_,_,_,_,hs1,rfl,hs55,hs56,hs57,cx,by rw [textE_succ' he];exact hO⟩):p:=h
theorem Bz4(h:p:=by
 refine K3 ?_
 refine ret_tmp Tryz.results312 rfl ?_
 refine ⟨cx.ext,congrArg (Value.int .i64) ?_⟩
 unfold monF
 first
 | (exfalso;omega)
 | (rw [if_pos (by omega)];rfl)
 | (rw [if_neg (by omega),if_pos (by omega)];rfl)
 | (rw [if_neg (by omega),if_neg (by omega),if_pos (by omega)];rfl)
 | (rw [if_neg (by omega),if_neg (by omega),if_neg (by omega),if_pos (by omega),if_pos p2cq];rfl)
 | (rw [if_neg (by omega),if_neg (by omega),if_neg (by omega),if_pos (by omega),if_neg p2dq];rfl)
 | (rw [if_neg (by omega),if_neg (by omega),if_neg (by omega),if_neg (by omega)];rfl)):p:=h
theorem Bz5(h:p:=by
 exact ⟨cx.ext,_,rfl,by first | omega | (simp only [List.length_append,List.length_cons,List.length_nil,List.length_take,List.length_drop];omega)⟩):p:=h
theorem Bz6(h:p:=by
 refine cSp rfl (fun hc11=>?_) (fun hc11=>?_)
 ·
  refine K1 ?_
  refine Kce ?_
  refine K2 ?_
  refine K3c ?_
  have e:r=(x.toNat:Int):=by omega
  subst e
  exact Ez2
 refine K3 ?_
 refine cSp rfl (fun hc16=>?_) (fun hc16=>?_)
 ·
  refine K4 ?_
  refine K3c ?_
  have e:r=10:=by omega
  subst e
  exact Ez2
 refine K3 ?_
 refine cSp rfl (fun hc18=>?_) (fun hc18=>?_)
 ·
  refine K4 ?_
  refine K3c ?_
  have e:r=9:=by omega
  subst e
  exact Ez2
 refine K3 ?_
 refine cSp rfl (fun hc20=>?_) (fun hc20=>?_)
 ·
  refine K4 ?_
  refine K3c ?_
  have e:r=13:=by omega
  subst e
  exact Ez2
 refine K3 ?_
 refine cSp rfl (fun hc22=>?_) (fun hc22=>?_)
 ·
  exfalso
  omega
 refine K5 ?_
 refine K3c ?_
 exfalso
 omega):p:=h
theorem Bz7(h:p:=by
 try simp only [bsl] at hc56
 refine K4 ?_
 refine cSp rfl (fun hc58=>?_) (fun hc58=>?_)
 ·
  refine K4j ?_
  refine SS ?_
  refine H0 ?_;intro w cx hwS12
  exact Bz166
 refine K2 ?_
 refine s_val rfl rfl (v_build (qs:=[(0,.int .i64 1),(1,.int .i64 dd)]) (bd78b dd) rfl rfl) ?_
 refine H0 ?_;intro w cx hwS13
 exact Bz166):p:=h
theorem Bz8(h:p:=by
 refine K1 ?_
 refine ret_tmp Tryz.results154 rfl ?_
 first | exact ⟨_,_,rfl,fun h=>by omega,by omega,cx.drop 1⟩ | exact ⟨_,_,rfl,fun h=>by omega,by omega,cx.drop 2⟩):p:=h
theorem Bz9(h:p:=by
 refine Kd ?_
 refine K2t ?_
 refine s_val rfl rfl (v_strAddB (a:=(((([105,110,100,101,120,32]++nameT x.fmt)++[32])++itoa x.size)++[32])) (b:=itoa x.depth) rfl rfl rfl p3q) ?_
 refine Kg ?_
 refine K3d ?_
 refine s_val rfl rfl (v_strAddB (a:=((((([105,110,100,101,120,32]++nameT x.fmt)++[32])++itoa x.size)++[32])++itoa x.depth)) (b:=[10]) rfl rfl rfl p3q) ?_
 refine Kg ?_
 refine K3e ?_
 refine s_s2b cx p3q Tryz.underlying9 Tryz.underlying79 Tryz.underlying5 rfl rfl rfl rfl ?_;intro g cur fz cap w cx hO
 refine Kg ?_
 refine K2u ?_
 refine K2b ?_
 exact ⟨_,rfl,_,_,_,_,_,_,hs1,rfl,cx,hO⟩):p:=h
theorem Bz10(h:p:=by
 refine K1 ?_
 refine ret_tmp Tryz.results101 rfl ?_
 exact ⟨cx.ext,_,rfl,by (try simp only [List.length_append,List.length_cons,List.length_nil]);omega⟩):p:=h
theorem Bz11(h:p:=by
 refine K4 ?_
 refine ret_tmp2 Tryz.results108 rfl rfl ?_
 exact ⟨cx.ext,_,[],_,rfl,World.ownsRow_nil _ _ _ _,by simp⟩):p:=h
theorem Bz12(h:p:=by
 first
 | exact ⟨_,rfl,4,bA s a%8,by unfold hdR;rw [if_pos p6q],rfl,rfl,rfl,congrArg (Value.int .i64) p29q,cx⟩
 | exact ⟨_,rfl,3,bA s a%16,by unfold hdR;rw [if_neg p6q,if_pos p6q],rfl,rfl,rfl,congrArg (Value.int .i64) p28q,cx⟩
 | exact ⟨_,rfl,2,bA s a%32,by unfold hdR;rw [if_neg p6q,if_neg p6q,if_pos p6q],rfl,rfl,rfl,congrArg (Value.int .i64) p27q,cx⟩
 | exact ⟨_,rfl,1,bA s a,by unfold hdR;rw [if_neg p6q,if_neg p6q,if_neg p6q],rfl,rfl,rfl,rfl,cx⟩):p:=h
theorem Bz13(h:p:=by
 refine K2 ?_
 refine ret_tmp2 Tryz.results317 rfl rfl ?_
 first | exact ⟨cx.ext,_,_,rfl,.inl rfl⟩ | exact ⟨cx.ext,_,_,rfl,.inr (.inl rfl)⟩ | exact ⟨cx.ext,_,_,rfl,.inr (.inr rfl)⟩):p:=h
theorem Bz14(h:p:=by
 refine Kn ?_
 refine K3d ?_
 refine K3f ?_
 refine Kn ?_
 refine K3e ?_
 refine s_cell (v:=bv (l.getD (Int.toNat j) 0)) cx rfl rfl rfl rfl rfl rfl p1dq sz5 ?_;intro w cx hgrS
 rw [show 0+Int.toNat i*1=Int.toNat i by omega,← List.map_set] at cx
 refine Kn ?_
 refine K2u ?_
 refine K3f ?_
 refine Kg ?_
 refine K43 ?_
 refine s_cell (v:=bv (l.getD (Int.toNat i) 0)) cx rfl rfl rfl rfl rfl rfl (by rw [List.length_map,List.length_set];omega) sz5 ?_;intro w cx hgrT
 rw [show 0+Int.toNat j*1=Int.toNat j by omega,← List.map_set] at cx
 refine K41 ?_
 refine Kp ?_
 refine K1b ?_
 refine K2 ?_
 exact ⟨(j-1-(i+1)).toNat,_,by omega,rfl,i+1,j-1,_,rfl,by omega,by omega,by rw [List.length_set,List.length_set];exact hl,hs0,rfl,rfl,cx⟩):p:=h
theorem Bz15(h:p:=by
 refine K26 ?_
 exact ⟨gk15-1,_,by omega,rfl,m+1,by omega,by omega,hs0,rfl,cx⟩):p:=h
theorem Bz16(h:p:=by
 refine Kn ?_
 refine K2u ?_
 refine K1k ?_
 refine Kn ?_
 refine K43 ?_
 refine s_storeEl cx rfl rfl rfl rfl rfl sz133 hE hlen (List.getElem?_eq_some_iff.1 hx).1 hry ?_;intro w cx
 refine Kn ?_
 refine K6v ?_
 refine K1k ?_
 refine Kg ?_
 refine x_one (i:=17) p1q rfl ?_
 refine s_storeEl cx rfl rfl rfl rfl rfl sz133 (Rw.set hE _ hry) p1aq (by rw [List.length_set];exact (List.getElem?_eq_some_iff.1 hy).1) hrx ?_;intro w cx
 refine K41 ?_
 refine K2o ?_
 exact ⟨(j-1-a).toNat,_,by omega,rfl,j-1,_,rfl,hs0,hs1,hs2,hs3,hs8,rfl,by omega,by omega,(swap_perm hx hy).trans hp,cx⟩):p:=h
theorem Bz17(h:p:=by
 refine Kn ?_
 refine K2u ?_
 refine K1k ?_
 refine Kn ?_
 refine K43 ?_
 refine s_storeEl cx rfl rfl rfl rfl rfl sz133 hE hlen (List.getElem?_eq_some_iff.1 hx).1 hry ?_;intro w cx
 refine Kn ?_
 refine K6v ?_
 refine K1k ?_
 refine Kg ?_
 refine x_one (i:=17) p1q rfl ?_
 refine s_storeEl cx rfl rfl rfl rfl rfl sz133 (Rw.set hE _ hry) p1aq (by rw [List.length_set];exact (List.getElem?_eq_some_iff.1 hy).1) hrx ?_;intro w cx
 refine K41 ?_
 refine K2v ?_
 refine K1 ?_
 exact ⟨(i-(t+1)).toNat,_,by omega,rfl,t+1,_,rfl,hs0,hs1,hs2,hs3,hs4,hs10,rfl,by omega,(swap_perm hx hy).trans hp,cx⟩):p:=h
theorem Bz18(h:p:=by
 refine Kn ?_
 refine K2u ?_
 refine K1k ?_
 refine Kn ?_
 refine K43 ?_
 refine s_storeEl cx rfl rfl rfl rfl rfl sz133 hE hlen (List.getElem?_eq_some_iff.1 hx).1 hry ?_;intro w cx
 refine Kn ?_
 refine K6v ?_
 refine K1k ?_
 refine Kg ?_
 refine x_one (i:=17) p1q rfl ?_
 refine s_storeEl cx rfl rfl rfl rfl rfl sz133 (Rw.set hE _ hry) p1aq (by rw [List.length_set];exact (List.getElem?_eq_some_iff.1 hy).1) hrx ?_;intro w cx
 refine K41 ?_
 refine s_val rfl rfl (v_move rfl hs17) ?_
 refine K1 ?_
 exact ⟨(t-1-i).toNat,_,by omega,rfl,t-1,_,rfl,hs0,hs1,hs2,hs3,hs4,hs14,rfl,by omega,(swap_perm hx hy).trans hp,cx⟩):p:=h
theorem Bz19(h:p:=by
 refine Kn ?_
 refine x_one (i:=20) p1q rfl ?_
 refine K1k ?_
 refine Kn ?_
 refine x_one (i:=21) p1q rfl ?_
 refine s_storeEl cx rfl rfl rfl rfl rfl sz133 hE hlen (List.getElem?_eq_some_iff.1 hx).1 hry ?_;intro w cx
 refine Kn ?_
 refine x_one (i:=22) p1q rfl ?_
 refine K1k ?_
 refine Kg ?_
 refine x_one (i:=23) p1q rfl ?_
 refine s_storeEl cx rfl rfl rfl rfl rfl sz133 (Rw.set hE _ hry) p1aq (by rw [List.length_set];exact (List.getElem?_eq_some_iff.1 hy).1) hrx ?_;intro w cx
 refine K41 ?_
 refine Kw ?_
 refine K1 ?_
 exact ⟨gk1-1,_,by omega,rfl,i+1,_,by omega,hs0,hs1,hs2,hs3,rfl,(swap_perm hx hy).trans hp,cx⟩):p:=h
theorem Bz20(h:p:=by
 exact ⟨cx.ext,_,rfl,by (try simp only [List.length_append,List.length_cons,List.length_nil,List.length_take,List.length_drop]);omega⟩):p:=h
theorem Bz21(h:p:=by
 have hcx0:Cxr w0 w' L R:=by
  refine ⟨cx.ext.grown hgr cx.ext.size (fun k hk=>(hrow0.lt k hk).1),?_,cx.lo,cx.nd,?_,fun r hr=>cx.off r (List.mem_cons_of_mem _ hr),(List.pairwise_cons.1 cx.pw).2⟩
  · intro p hp'
    rw [hgr.block p.1 (cx.lt p hp') (fun e=>hoff0 p.1 e.symm (List.mem_map.2 ⟨p,hp',rfl⟩))]
    exact cx.own p hp'
  · intro r hr
    refine cx.row_keep (List.mem_cons_of_mem _ hr) hgr.os hgr.tape hgr.output hgr.size fun q hq hv=>hgr.block q hq fun e=>?_
    exact hpw0 r hr q e.symm hv
 refine s_new (w':=w') (v:=v') hg hd ?_ (h v' w' (hcx0.addRow _ hrow ?_ ?_) hgr)
 · unfold execOp;rw [ho]
   exact Bz189
 · intro q hq hm
   obtain ⟨p,hp',rfl⟩:=List.mem_map.1 hm
   rcases hnew _ hq with h2 | h2
   · exact hoff0 _ h2 (List.mem_map.2 ⟨p,hp',rfl⟩)
   · have:=cx.lt p hp';omega
 · intro r hr q hq hq'
   rcases hnew _ hq with h2 | h2
   · exact hpw0 r hr q h2 hq'
   · have:=((cx.rows r (List.mem_cons_of_mem _ hr)).lt _ hq').2;omega):p:=h
theorem Bz22(h:p:=by
 refine K1b ?_
 refine K1 ?_
 exact ⟨gk2-1,_,by omega,rfl,i+1,by omega,hs0,rfl,cx⟩):p:=h
theorem Bz23(h:p:=by
 have hq:ldp l++(l.take (i+1)).flatMap stpT=(ldp l++(l.take i).flatMap stpT)++stpT x:=by rw [flat_take l i x hx,List.append_assoc]
 rw [hsg] at hq
 refine ⟨gk7-1,_,by omega,rfl,i+1,_,by omega,hs16,hs17,rfl,rfl,row_more (cx.drop 1) hq ?_ ?_⟩
 · simp only [List.length_append,List.length_cons,List.length_nil] <;> omega
 · exact congrArg (fun z=>(ldp l++(l.take i).flatMap stpT).map bv++z) rfl):p:=h
theorem Bz24(h:p:=by
 try simp only [bsl] at hc75
 refine K4j ?_
 refine H0 ?_;intro w cx hwS15
 exact Bz166):p:=h
theorem Bz25(h:p:=by
 try simp only [bsl] at hc12
 first | have h31:=hb12.1 hc12 | skip
 refine SS ?_
 exact ⟨_,rfl,_,rfl,rfl,rfl,rfl,by (try simp only [beq_iff_eq]);omega,cx⟩):p:=h
theorem Bz26(h:p:=by
 refine K1 ?_
 refine Kcf ?_
 exact ⟨cx.ext,false,[],0,_,rfl,by simp,by omega,by omega,fun h=>absurd h (by decide)⟩):p:=h
theorem Bz27(h:p:=by
 first
 | (refine ⟨_,rfl,s.drop 1,rfl,rfl,rfl,by rw [List.length_drop];omega,fun l0 h1 h2 h3=>?_,cx⟩
    rw [h3]
    refine path_T h1.2 h2 ?_
    rw [← h3,take2 (by omega)]
    rw [show s.getD 0 0=46 from UInt8.toNat_inj.1 (Int.ofNat.inj hc26.1.2),show s.getD 1 0=91 from UInt8.toNat_inj.1 (Int.ofNat.inj hc26.2)])
 | (refine ⟨_,rfl,s,rfl,rfl,rfl,by omega,fun l0 h1 h2 h3=>?_,cx⟩
    refine h3.trans (path_F h2 ?_)
    rw [← h3]
    rintro ⟨h4,h5⟩
    rw [take2 h4] at h5
    simp only [List.cons.injEq,and_true] at h5
    rcases hc26 with (h | h) | h
    · omega
    · exact h (congrArg (fun z:UInt8=>((z.toNat:Nat):Int)) h5.1)
    · exact h (congrArg (fun z:UInt8=>((z.toNat:Nat):Int)) h5.2))):p:=h
theorem Bz28(h:p:=by
 refine K1 ?_
 refine Kcg ?_
 exact ⟨cx.ext,false,[],0,3,rfl,by simp,by omega,by omega⟩):p:=h
theorem Bz29(h:p:=by
 have hq:=qtd_take s i (by omega)
 rw [hcc,hsg] at hq
 refine ⟨gk3-1,_,by omega,rfl,i+1,_,by omega,hs0,hs8,rfl,rfl,row_next cx hq ?_ ?_⟩
 · simp only [List.length_append,List.length_cons,List.length_nil,hbc,Int.toNat_natCast] <;> omega
 · exact congrArg (fun z=>(34::qtd (s.data.toList.take i)).map bv++z) (rfl)):p:=h
theorem Bz30(h:p:=by
 refine K2a ?_
 refine s_gval rfl rfl rfl wT (fun hc=>v_fa fa78_3 rfl gX) ?_
 refine K23 ?_
 refine K0 ?_
 exact Bz170):p:=h
theorem Bz31(h:p:=by
 have h1 : fn.name ≠ "runtime.NumGoroutine" := by simpa using hn
 have h2:¬ fn.body=none:=by intro e;simp [e] at hb
 unfold execOp;rw [ho]
 have e:opd.map (ev n f)=args.toArray:=by rw [← hargs];apply Array.ext';simp
 simp [resolve,e,hx,Deferred.ofValue,invoke,callFunc,hf,h1,h2]):p:=h
theorem Bz32(h:p:=by
 refine K1 ?_
 refine ret_tmp Tryz.results228 rfl ?_
 exact ⟨cx.ext,_,rfl,trivial⟩):p:=h
theorem Bz33(h:p:=by
 first | exact ⟨_,rfl,t2++[_],_,by simp,hs0,hs1,rfl,hs6,hs7,hs8,hs40,cx.row_eq (by simp) paq⟩ | exact ⟨_,rfl,t2++[61],_,by simp,hs0,hs1,rfl,hs6,hs7,hs8,hs40,cx.row_eq (by simp) paq⟩ | exact ⟨_,rfl,t2,_,by omega,hs0,hs1,hs5,hs6,hs7,hs8,hs40,cx⟩):p:=h
theorem Bz34(h:p:=by
 refine K3 ?_
 refine ret_tmp Tryz.results307 rfl ?_
 exact ⟨cx.ext,_,rfl,trivial⟩):p:=h
theorem Bz35(h:p:=by
 refine K4 ?_
 refine ret_tmp2 Tryz.results188 rfl rfl ?_
 exact ⟨cx.ext,_,[],_,rfl,World.ownsRow_nil _ _ _ _,by simp⟩):p:=h
theorem Bz36(h:p:=by
 first | exact ⟨_,rfl,_,_,_,Lib.trimPrefix a0 [105,110,100,101,120,32,100,101,108,105,109,32],_,by have:=Lib.trimPrefix_le a0 [105,110,100,101,120,32,100,101,108,105,109,32];omega,rfl,rfl,rfl,rfl,rfl,rfl,cx⟩ | exact ⟨_,rfl,_,_,_,Lib.trimPrefix a0 [105,110,100,101,120,32,98,114,97,99,101,32],_,by have:=Lib.trimPrefix_le a0 [105,110,100,101,120,32,98,114,97,99,101,32];omega,rfl,rfl,rfl,rfl,rfl,rfl,cx⟩):p:=h
theorem Bz37(h:p:=by
 refine K1 ?_
 refine Kae ?_
 exact ⟨cx.ext,_,⟨0,0,0,[],[]⟩,3,rfl,idx_nil _,szd_nil,.inr ⟨rfl,rfl⟩⟩):p:=h
theorem Bz38(h:p:=by
 refine K3 ?_
 refine K7z ?_
 exact ⟨cx.ext,_,_,rfl,by omega⟩):p:=h
theorem Bz39(h:p:=by
 refine K3 ?_
 refine ret_tmp3 Tryz.results278 rfl rfl rfl ?_
 exact ⟨cx.ext,_,_,_,rfl⟩):p:=h
theorem Bz40(h:p:=by
 refine SS ?_
 refine K80 ?_
 refine K23 ?_
 refine K3 ?_
 refine ret_tmp Tryz.results306 rfl ?_
 exact ⟨cx.ext,_,rfl,trivial⟩):p:=h
theorem Bz41(h:p:=by
 have h:(Op.equalIn 10000 t .nilIface .nilIface).run P w=.ok true w:=by
  unfold Op.equalIn
  simp [run_underlying hu]
 simp [binOp,Op.equal,Op.maxDepth,h]):p:=h
theorem Bz42(h:p:=by
 refine SS ?_
 first
 | exact ⟨_,rfl,n2,l++[v],f0,css++[_],fss,v61,fv,_,by omega,hs0,hs1,hs4,hs6,hs7,hs8,rfl,lf.addL hrr,hsz.imp id fun h=>gf.addL h.1 h.2,(cx.drop 1).row_eq (by simp) (by simp [List.flatten_append])⟩
 | exact ⟨_,rfl,n2,l,f0++[(k,v)],css,fss++[_],lv,v77,_,by omega,hs0,hs1,hs4,hs6,hs7,hs8,rfl,lf.addF hrr,hsz.imp id fun h=>gf.addF h.1 h.2,((cx.drop 1).row_eq (by simp) p1eq).swapR⟩):p:=h
theorem Bz43(h:p:=by
 have h0:l.toList[i]'p2fq=false:=by
  simp only [lk] at h
  simpa [hi] using h
 have hpos:0<l.toList.count false:=List.count_pos_iff.2 (by rw [← h0];exact List.getElem_mem _)
 rw [Array.toList_setIfInBounds,List.count,List.countP_set p2fq,h0]
 unfold List.count at hpos
 have e1:((false:Bool)==false)=true:=rfl
 have e2:((true:Bool)==false)=false:=rfl
 rw [e1,e2,if_pos rfl,if_neg (by simp)]
 omega):p:=h
theorem Bz44(h:p:=by
 refine SS ?_
 refine K6w ?_
 refine H5 ?_;intro w cx hwS9
 refine K4 ?_
 refine ret_tmp Tryz.results336 rfl ?_
 exact ⟨0,rfl,by omega,s,true,cx,by omega⟩):p:=h
theorem Bz45(h:p:=by
 rcases List.mem_append.1 hq with hq | hq
 · exact .inl (List.mem_append_right _ hq)
 · exact .inr ((List.mem_cons.1 hq).resolve_left e2)):p:=h
theorem Bz46(h:p:=by
 refine K3 ?_
 refine ret_tmp Tryz.results296 rfl ?_
 exact ⟨cx.ext,_,rfl,trivial⟩):p:=h
theorem Bz47(h:p:=by
 first
 | exact ⟨_,rfl,n,.inr ⟨by rcases hn with ⟨h,h2⟩ | ⟨h,h2⟩ <;> omega,by omega⟩,hs0,hs3,hs4,cx⟩
 | (refine ⟨_,rfl,10*n+(IntKind.u8.wrap (((s.getD (Int.toNat (i:Int)) 0).toNat:Nat)-48)).toNat,.inl ⟨?_,by omega⟩,hs0,congrArg (Value.int .i64) (by omega),hs4,cx⟩
    rw [Nat.pow_succ]
    rcases hn with ⟨h,h2⟩ | ⟨h,h2⟩ <;> omega)):p:=h
theorem Bz48(h:p:=by
 refine K6 ?_
 refine ret_tmp4 Tryz.results275 rfl rfl rfl rfl ?_
 exact ⟨cx.ext,_,[],_,_,rfl,by simp⟩):p:=h
theorem Bz49(h:p:=by
 first | exact ⟨_,rfl,_,_,hs1,rfl,rfl,by (try simp only [List.length_append,List.length_cons,List.length_nil,List.length_take,List.length_drop]);omega,cx⟩ | exact ⟨_,rfl,_,_,hs1,rfl,hs5,by (try simp only [List.length_append,List.length_cons,List.length_nil,List.length_take,List.length_drop]);omega,cx⟩):p:=h
theorem Bz50(h:p:=by
 first
  | (have e:(pathT l).drop (Int.toNat 1)=rstS l 0:=path_T hg.2 h0 hc27.2
     rw [e] at cx
     exact ⟨_,rfl,b4,rfl,rfl,rfl,cx⟩)
  | (have e:=path_F h0 (by
       rintro ⟨h1,h2⟩
       rcases hc27 with h | h
       · omega
       · exact h h2)
     rw [e] at cx
     exact ⟨_,rfl,b4,rfl,rfl,rfl,cx⟩)):p:=h
theorem Bz51(h:p:=by
 refine K1 ?_
 refine Kaf ?_
 refine ⟨sc0,[],.slice none 0 0,0,[],rfl,cx.noL,.inl ⟨rfl,rfl⟩,Nat.zero_le _,gs0 rfl,Nat.zero_le _,.inl rfl,fun c hc=>?_⟩
 exact absurd hc (hns c)):p:=h
theorem Bz52(h:p:=by
 refine K0 ?_
 refine Kw ?_
 refine K2 ?_
 refine ret_tmp2 Tryz.results188 rfl rfl ?_
 exact ⟨cx.ext,_,out,_,rfl,cx.rows _ (List.mem_cons_self ..),by omega⟩):p:=h
theorem Bz53(h:p:=by
 try simp only [bsl] at hc20
 first | have h30:=hb20.1 hc20 | skip
 refine SS ?_
 exact ⟨_,rfl,_,hs0,hs1,hs11,rfl,by (try simp only [beq_iff_eq]);omega,cx⟩):p:=h
theorem Bz54(h:p:=by
 refine K4 ?_
 exact ⟨_,rfl,_,_,E,rfl,rfl,rfl,rfl,rfl,rfl,rfl,rfl,rfl,by omega,by omega,by omega,by omega,by omega,hp,cx⟩):p:=h
theorem Bz55(h:p:=by
 have:=hg m' a' w' e hu hs' ho
 simp only [OutR] at ho
 subst ho
 exact this):p:=h
theorem Bz56(h:p:=by
 refine K18 ?_
 refine K1 ?_
 exact ⟨gk15-1,_,by omega,rfl,m+1,by omega,hs0,hs4,hs5,hs6,rfl,cx⟩):p:=h
theorem Bz57(h:p:=by
 first | exact ⟨_,rfl,b3,_,t++[44],a,vb,by simp only [List.length_append,List.length_cons,List.length_nil];omega,hs0,hs3,rfl,hs58,hs59,hs60,ha,(cx.row_eq p5q (by simp only [List.append_assoc];rfl))⟩ | exact ⟨_,rfl,b3,_,t,a,vb,by omega,hs0,hs3,rfl,hs58,hs59,hs60,ha,cx⟩):p:=h
theorem Bz58(h:p:=by
 first | exact ⟨_,rfl,b3,_,t++[44],a,vb,by simp only [List.length_append,List.length_cons,List.length_nil];omega,hs0,hs3,rfl,hs80,hs81,hs82,ha,(cx.row_eq p5q (by simp only [List.append_assoc];rfl))⟩ | exact ⟨_,rfl,b3,_,t,a,vb,by omega,hs0,hs3,rfl,hs80,hs81,hs82,ha,cx⟩):p:=h
theorem Bz59(h:p:=by
 refine K1 ?_
 refine ret_cell2 Tryz.results107 rfl rfl (cx.at 0 rfl) Tryz.underlying83 rfl sz83 ?_
 exact Bz183):p:=h
theorem Bz60(h:p:=by
 simp only [List.length_append,List.length_cons,List.length_nil]
 omega):p:=h
theorem Bz61(h:p:=by
 have h1 : fn.name ≠ "runtime.NumGoroutine" := by simpa using hn
 have h2:¬ fn.body=none:=by intro e;simp [e] at hb
 unfold execOp;rw [ho]
 have e:az.map (ev n f)=args.toArray:=by rw [← hargs];apply Array.ext';simp
 simp [resolve,e,ev,Deferred.ofValue,invoke,callFunc,hf,h1,h2]):p:=h
theorem Bz62(h:p:=by
 first | exact ⟨_,rfl,_,[45],rfl,rfl,by decide,cx⟩ | exact ⟨_,rfl,_,[],rfl,rfl,by decide,cx⟩):p:=h
theorem Bz63(h:p:=by
 refine K1 ?_
 refine ret_tmp Tryz.results220 rfl ?_
 exact ⟨cx.ext,_,rfl,trivial⟩):p:=h
theorem Bz64(h:p:=by
 have e0:[]=ByteArray.empty.toList:=by unfold ByteArray.toList;unfold ByteArray.toList.loop;rfl
 by_cases h1:b=false <;> by_cases h2:d=ByteArray.empty <;> by_cases h3:x=0 <;> simp [h1,h2,h3,toList_inj]
 all_goals exact fun h=>h2 ((toList_inj _ _).1 (h.trans e0))):p:=h
theorem Bz65(h:p:=by
 first
 | exact ⟨_,rfl,_,n16,n19,n22,n62,rfl,hs6,hs7,hs8,rfl,by simp only [List.length_drop] at hr ⊢;omega,hn16,hn19,hn22,hn62,cx⟩
 | exact ⟨_,rfl,_,n16,n19,n22,0,rfl,rfl,rfl,rfl,rfl,by simp only [List.length_drop];omega,hn16,hn19,hn22,by omega,cx⟩):p:=h
theorem Bz66(h:p:=by
 refine K4 ?_
 refine ret_tmp2 Tryz.results200 rfl rfl ?_
 refine ⟨cx.ext,_,[],_,rfl,World.ownsRow_nil _ _ _ _,by simp⟩):p:=h
theorem Bz67(h:p:=by
 rw [hr] at hrun
 cases hrun
 simp only [Value.ownBlock,Option.some.injEq] at hq
 exact .inr (by omega)):p:=h
theorem Bz68(h:p:=by
 refine K4 ?_
 refine ret_tmp Tryz.results378 rfl ?_
 exact ⟨0,rfl,by have:=Nat.one_le_pow k 10 (by omega);omega,s,true,cx,by omega⟩):p:=h
theorem Bz69(h:p:=by
 try simp only [bsl] at hc20
 refine K0 ?_
 refine Kc6 ?_
 exact ⟨gk3-1,_,by omega,rfl,i+1,by omega,hs0,rfl,hs3,cx⟩):p:=h
theorem Bz70(h:p:=by
 first | exact ⟨_,rfl,wd*256+(l.getD (i+k) 0).toNat,by have:=(l.getD (i+k) 0).toNat_lt;rw [Nat.pow_succ];omega,hs0,hs1,hs5,hs6,hs7,rfl,hs22,cx⟩ | exact ⟨_,rfl,wd*256,by rw [Nat.pow_succ];omega,hs0,hs1,hs5,hs6,hs7,rfl,hs22,cx⟩):p:=h
theorem Bz71(h:p:=by
 first | exact ⟨_,rfl,_,rfl,congrArg (fun l=>Value.string (bs l)) (show _=nameT x.fmt by unfold nameT;rw [if_pos hc20]),cx⟩ | exact ⟨_,rfl,_,rfl,congrArg (fun l=>Value.string (bs l)) (show _=nameT x.fmt by unfold nameT;rw [if_neg hc20]),cx⟩):p:=h
theorem Bz72(h:p:=by
 refine K0 ?_
 refine s_val rfl rfl (v_add rfl hs65 rfl (by omega) (by omega)) ?_
 refine K0 ?_
 exact ⟨gk13-1,_,by omega,rfl,i+1,by omega,hs0,hs2,hs5,hs63,hs64,rfl,hP2⟩):p:=h
theorem Bz73(h:p:=by
 refine K4 ?_
 refine ret_tmp2 Tryz.results176 rfl rfl ?_
 exact ⟨cx.ext,[],0,rfl,by simp,by omega⟩):p:=h
theorem Bz74(h:p:=by
 refine K4 ?_
 refine ret_tmp2 Tryz.results383 rfl rfl ?_
 exact ⟨cx.ext,0,_,rfl,by omega⟩):p:=h
theorem Bz75(h:p:=by
 first | exact ⟨_,rfl,_,_,rfl,rfl,rfl,rfl,rfl,rfl,by rw [hf4];exact cx⟩ | exact ⟨_,rfl,_,_,rfl,rfl,rfl,rfl,congrArg (fun l=>Value.string (bs l)) (pre_hdr1 hf1).2,congrArg Value.bool (pre_hdr1 hf1).1,by rw [hf1];exact cx⟩):p:=h
theorem Bz76(h:p:=by
 refine K1 ?_
 refine Kch ?_
 exact ⟨cx.ext,false,[],0,_,rfl,by simp,by omega,by omega⟩):p:=h
theorem Bz77(h:p:=by
 refine h.looks (i:=r.i) he ok1 hanc hni hcl (fun t ht q hq hd=>chk.slot1 _ r _ t he ht q hq hd) (fun t ht q hq hd=>?_)
 rcases List.mem_cons.1 hq with rfl | hq
 · exact .inl rfl
 · exact .inr (chk.slot2 _ r _ t he ht q hq hd)):p:=h
theorem Bz78(h:p:=by
 unfold lk
 by_cases hij:i=j
 · subst hij;simp [hi]
 · have:Nat.beq i j=false:=by
     cases hb:Nat.beq i j
     · rfl
     · exact absurd (Nat.eq_of_beq_eq_true hb) hij
   simp [this,Array.getElem?_setIfInBounds_ne hij]):p:=h
theorem Bz79(h:p:=by
 obtain rfl:n=0:=by
  rcases Nat.eq_zero_or_pos n with h | h
  · exact h
  · rw [(ha h).1] at hc4;cases hc4
 have hx:xs=[]:=List.eq_nil_of_length_eq_zero (by omega)
 subst hx
 exact ⟨cx.ext,World.ownsRow_nil _ _ _ _⟩):p:=h
theorem Bz80(h:p:=by
 replace cx:=cx.drop 1
 refine K0 ?_
 exact ⟨gk10-1,_,by omega,rfl,i+1,b4,_,by omega,hs0,hs4,hs5,rfl,cx.row_eq rfl (by rw [← take_srow hx,hxk,bs_of];rfl)⟩):p:=h
theorem Bz81(h:p:=by
 first | exact ⟨_,rfl,k+2,b2,nb,_,dg,x,hs0,hs2,hs5,rfl,hs7,hs8,by omega,hdg,rfl,hx0,hx1,cx⟩ | exact ⟨_,rfl,k+1,b2,nb,_,dg,x,hs0,hs2,hs5,rfl,hs7,hs8,by omega,hdg,rfl,hx0,hx1,cx⟩):p:=h
theorem Bz82(h:p:=by
 first | exact ⟨_,rfl,t++[44],_,b1,by simp only [List.length_append,List.length_cons,List.length_nil];omega,hs1,rfl,hs4,cx.row_eq (by simp) paq⟩ | exact ⟨_,rfl,t,_,b1,by omega,hs1,hs3,hs4,cx⟩):p:=h
theorem Bz83(h:p:=by
 first | exact ⟨_,rfl,j,b2,nb,dg,x+y,hs0,hs2,hs5,rfl,hs7,rfl,by omega,hdg,by omega,by omega,cx⟩ | exact ⟨_,rfl,k,b2,nb,dg,x,hs0,hs2,hs5,hs6,hs7,hs8,hk,hdg,by omega,by omega,cx⟩):p:=h
theorem Bz84(h:p:=by
 first | exact ⟨_,rfl,j,b2,_,_,_,hs0,hs2,rfl,rfl,rfl,rfl,by omega,pfq,by omega,by omega,cx⟩ | exact ⟨_,rfl,j,b2,_,_,0,hs0,hs2,rfl,rfl,rfl,rfl,by omega,pfq,by omega,by omega,cx⟩):p:=h
theorem Bz85(h:p:=by
 rw [List.append_assoc] at hq
 rcases List.mem_append.1 hq with hq | hq
 · exact hgood q (by simp [hq])
 · rcases List.mem_cons.1 hq with rfl | hq
   · exact ⟨hrq,hdq⟩
   · exact hgood q (by simp at hq;simp [hq])):p:=h
theorem Bz86(h:p:=by
 first | exact ⟨_,rfl,_,rfl,rfl,cx.row_eq (by rw [ldp_T hx0 hc12];rfl) (by rw [ldp_T hx0 hc12];rfl)⟩ | exact ⟨_,rfl,_,rfl,rfl,cx.row_eq (by rw [ldp_F hx0 hc12];rfl) (by rw [ldp_F hx0 hc12];rfl)⟩):p:=h
theorem Bz87(h:p:=by
 first | exact ⟨_,rfl,t++[44],_,by simp only [List.length_append,List.length_cons,List.length_nil];omega,rfl,hs6,hs7,cx.row_eq (by simp) paq⟩ | exact ⟨_,rfl,t,_,by omega,hs5,hs6,hs7,cx⟩):p:=h
theorem Bz88(h:p:=by
 rw [Nat.add_assoc,← hkd] at hmr
 have e:c.args.map τ=(c.args.toList.map τ).toArray:=by apply Array.ext';simp
 simp [resolve,hc,hv,invoke,callMethod,hmr,e]
 rw [List.take_of_length_le (by simp)]):p:=h
theorem Bz89(h:p:=by
 refine K3 ?_
 refine ret_tmp Tryz.results274 rfl ?_
 exact ⟨cx.ext,_,rfl,fun h=>by cases h⟩):p:=h
theorem Bz90(h:p:=by
 simp only [VR] at h
 obtain ⟨vs,rfl,h⟩:=h
 simp only [AV.clos] at e
 cases hl:AV.closL l with
 | none=>simp [hl] at e
 | some us=>simp only [hl,Option.some.injEq] at e;subst e;rw [closL_eq h hl]):p:=h
theorem Bz91(h:p:=by
 refine K1 ?_
 exact ⟨gk2-1,_,by omega,rfl,i+1,by omega,hs0,hs1,rfl,cx⟩):p:=h
theorem Bz92(h:p:=by
 refine Calls.mono (hc rfl) ?_
 rintro e w' ⟨v,rfl,hbel,hr⟩
 show K ((St n f).put o.dst v) w'
 refine hK _ _ ?_
 rw [hd,put_St]
 have h:=h v w' (cx.call hbel) hbel fun _=>hr
 unfold gv at h
 exact h):p:=h
theorem Bz93(h:p:=by
 first | exact ⟨_,rfl,(-z).toNat,[45],by omega,rfl,congrArg (Value.int .i64) (by omega),rfl,cx⟩ | exact ⟨_,rfl,z.toNat,[43],by omega,rfl,congrArg (Value.int .i64) (by omega),rfl,cx⟩):p:=h
theorem Bz94(h:p:=by
 simpa only [List.length_append,List.length_cons,List.length_nil] using h):p:=h
theorem Bz95(h:p:=by
 refine K2 ?_
 refine ret_tmp2 Tryz.results276 rfl rfl ?_
 exact ⟨cx.ext,_,_,rfl⟩):p:=h
theorem Bz96(h:p:=by
 refine K2 ?_
 refine ret_tmp2 Tryz.results266 rfl rfl ?_
 exact ⟨cx.ext,_,_,rfl⟩):p:=h
theorem Bz97(h:p:=by
 refine K3 ?_
 refine ret_tmp Tryz.results358 rfl ?_
 exact ⟨cx.ext,_,rfl,trivial⟩):p:=h
theorem Bz98(h:p:=by
 rw [vs_leaf]
 show 1+0+0+0≤_
 (try simp only [List.length_cons,List.length_nil] at h)
 omega):p:=h
theorem Bz99(h:p:=by
 simp only [Option.some.injEq] at h;subst h
 refine ⟨_,hv0,?_⟩
 unfold execOp;rw [ho];simp [hv]):p:=h
theorem Bz100(h:p:=by
 obtain ⟨b,o,hs,hr⟩:=h
 obtain ⟨a,c,rfl,ha⟩:=hs.form
 exact ⟨a,c,b,o,rfl,ha,hr⟩):p:=h
theorem Bz101(h:p:=by
 have h:(Op.equalIn 10000 t (.iface te pe) .nilIface).run P w=.ok false w:=by
  unfold Op.equalIn
  simp [run_underlying hu]
 simp [binOp,Op.equal,Op.maxDepth,h]):p:=h
theorem Bz102(h:p:=by
 unfold execOp;rw [ho]
 simp [hx,hy,eqGuard,binOp,Op.intArith]):p:=h
theorem Bz103(h:p:=by
 refine (congrArg (fun z=>bitOp .or .i64 z _) (shl6 (by omega))).trans ?_
 rw [or_add (by omega) (by omega)]
 obtain ⟨i,rfl⟩:∃ j,i=j+1:=⟨i-1,by omega⟩
 rfl):p:=h
theorem Bz104(h:p:=by
 unfold Oper.wp
 rw [eval_St,hrun]
 refine Calls.mono hc ?_
 rintro e w' ⟨v,rfl,hv⟩
 show K ((St n f).put o.dst v) w'
 refine hK _ _ ?_
 rw [hd,put_St]
 exact h v w' hv):p:=h
theorem Bz105(h:p:=by
 first | exact ⟨_,rfl,-n,hs0,hs2,hs5,hs7,hs8,rfl,rfl,by omega,by omega,cx⟩ | exact ⟨_,rfl,n,hs0,hs2,hs5,hs7,hs8,rfl,rfl,by omega,by omega,cx⟩):p:=h
theorem Bz106(h:p:=by
 cases h
 have:=hρ _ _ hx
 simp only [VR] at this
 exact ⟨this.choose,this.choose_spec.1⟩):p:=h
theorem Bz107(h:p:=by
 refine cx.row_keep (List.mem_cons_of_mem _ hr) hgr.os hgr.tape hgr.output hgr.size fun q hq hv=>hgr.block q hq fun e=>?_
 exact hpw0 r hr q (by rw [e];rfl) hv):p:=h
theorem Bz108(h:p:=by
 unfold Oper.wp
 rw [hent]
 refine Calls.mono (hcf f az h n _ h' n' hc m w vals hH hd hv) ?_
 rintro e w' ⟨m',u1,u2,u3,v',rfl,u4⟩
 exact hq m' w' v' u1 u2 u3 u4):p:=h
theorem Bz109(h:p:=by
 refine K1 ?_
 refine ret_tmp Tryz.results345 rfl ?_
 exact ⟨cx.ext,_,rfl,by omega,by omega⟩):p:=h
theorem Bz110(h:p:=by
 intro q hq
 rcases List.mem_append.1 hq with hq | hq
 · exact List.mem_cons_of_mem _ (hm q hq)
 · obtain rfl:=List.mem_singleton.1 hq;exact List.mem_cons_self ..):p:=h
theorem Bz111(h:p:=by
 simp only [Bool.false_eq_true,if_false]
 refine hK _ _ ?_
 rw [hd,put_St]
 have h:=h undef w cx (Below.refl _ _) (fun e=>by cases e)
 unfold gv at h
 exact h):p:=h
theorem Bz112(h:p:=by
 unfold execOp;rw [ho]
 have:=run_unNil (P:=P) (w:=w) hu h
 unfold unNil at h
 split at h <;> first | (cases h;done) | simp [eqGuard,binOp,hx,hy,this]):p:=h
theorem Bz113(h:p:=by
 obtain ⟨h',hk,_⟩:=Tr.setK_some hr
 exact .inl ⟨_,_,_,hk⟩):p:=h
theorem Bz114(h:p:=by
 unfold execOp;rw [ho]
 have e:c.args.map τ=(c.args.toList.map τ).toArray:=by apply Array.ext';simp
 simp [resolve,hc,hv,Deferred.ofValue,invoke,e]):p:=h
theorem Bz115(h:p:=by
 obtain ⟨i,hi⟩:=List.getElem?_of_mem hc
 have hlt:=(List.getElem?_eq_some_iff.1 hi).1
 exact (hlv i list[i] c (List.getElem?_eq_getElem (by omega)) hi).len):p:=h
theorem Bz116(h:p:=by
 refine K0 ?_
 exact ⟨_,rfl,n,_,hs0,hs1,hs8,hs9,hs10,hs11,hs12,hs13,rfl,hs99,hs100,hs101,cx⟩):p:=h
theorem Bz117(h:p:=by
 first | exact ⟨_,rfl,q24,_,_,e24,by omega,by omega,hs0,hs1,hs4,hs5,cx⟩ | exact ⟨_,rfl,q,_,_,e,by omega,by omega,hs0,hs1,hs4,hs5,cx⟩):p:=h
theorem Bz118(h:p:=by
 first | exact ⟨_,rfl,q25,_,_,e25,by omega,by omega,hs0,hs1,hs4,hs5,cx⟩ | exact ⟨_,rfl,q,_,_,e,by omega,by omega,hs0,hs1,hs4,hs5,cx⟩):p:=h
theorem Bz119(h:p:=by
 refine Kq ?_
 show (_:Bool)=chN r
 rw [Bool.eq_iff_iff,chN_iff]
 simp only [Bool.and_eq_true,Bool.or_eq_true,decide_eq_true_eq]
 omega):p:=h
theorem Bz120(h:p:=by
 exact ⟨_,rfl,_,_,hs1,rfl,rfl,by simp only [List.length_append,List.length_take,List.length_drop,List.length_cons,List.length_nil];omega,cx⟩):p:=h
theorem Bz121(h:p:=by
 simp only [VR] at h2
 subst h2
 simp only [Option.some.injEq] at h;subst h
 simp only [yielded,ht,Option.bind_some,h1]
 cases q <;> cases want <;> rfl):p:=h
theorem Bz122(h:p:=by
 unfold lk
 rw [Array.getD_eq_getD_getElem?,Array.getElem?_replicate]
 split <;> rfl):p:=h
theorem Bz123(h:p:=by
 rcases hcase with ⟨hi,hb4⟩ | ⟨c,hki,hsg,hbc,hb3,hb9⟩ | ⟨c,t,hki,hsg,htl,hb9⟩
 · exfalso
   omega
 · exact ⟨c,hki,hsg,hbc⟩
 · exfalso
   omega):p:=h
theorem Bz124(h:p:=by
 refine K1 ?_
 refine ret_tmp Tryz.results305 rfl ?_
 exact ⟨cx.ext,_,rfl,trivial⟩):p:=h
theorem Bz125(h:p:=by
 refine K1 ?_
 refine ret_tmp Tryz.results218 rfl ?_
 exact ⟨cx.ext,_,rfl,trivial⟩):p:=h
theorem Bz126(h:p:=by
 first | exact ⟨_,rfl,_,_,7,_,rfl,rfl,rfl,rfl,rfl,.inr rfl,h0,cx⟩ | exact ⟨_,rfl,_,_,6,_,rfl,rfl,rfl,rfl,rfl,.inl rfl,h0,cx⟩):p:=h
theorem Bz127(h:p:=by
 first | exact ⟨_,rfl,E2,hs0,hs1,hs2,hs3,hs4,hs18,hs20,hs24,hp2,cx⟩ | exact ⟨_,rfl,E,hs0,hs1,hs2,hs3,hs4,hs18,hs20,hs24,hp,cx⟩):p:=h
theorem Bz128(h:p:=by
 first | exact ⟨_,rfl,E2,hs0,hs1,hs2,hs3,hs4,hs18,hs20,rfl,hp2,cx⟩ | exact ⟨_,rfl,E,hs0,hs1,hs2,hs3,hs4,hs18,hs20,rfl,hp,cx⟩):p:=h
theorem Bz129(h:p:=by
 simp only [accN,Nat.zero_add,chN_iff]
 unfold wdN
 repeat' split
 all_goals omega):p:=h
theorem Bz130(h:p:=by
 refine ⟨cx.ext,_,rfl,fun _=>⟨by omega,?_⟩,fun _=>rfl⟩
 have e:i=l.length:=by omega
 subst e
 rw [List.take_length] at hall
 exact hall):p:=h
theorem Bz131(h:p:=by
 rcases mem_take_succ hx hy with h | rfl
 · exact hall y h
 · unfold colBad
   rintro (h | h)
   · rw [hcB.1] at h;cases h
   · have:=hcB.2;omega):p:=h
theorem Bz132(h:p:=by
 first | exact ⟨_,rfl,_,b2,by omega,by omega,hs2,hs4,hs6,rfl,cx⟩ | exact ⟨_,rfl,x7,b2,by omega,by omega,hs2,hs4,hs6,hs7,cx⟩):p:=h
theorem Bz133(h:p:=by
 simp [hx,hy,Instr.storeAt,Instr.sureAddr,storeVar,run_size (w:=w) hs,hc,storeCells,run_store P w _ v _ h1,add_addr,hcell,hfr]):p:=h
theorem Bz134(h:p:=by
 unfold execOp;rw [ho]
 simp only [hv,Instr.typeAssert,Sem.run_bind,run_underlying hu,Result.andThen_ok]
 cases u <;> simp_all [notI]):p:=h
theorem Bz135(h:p:=by
 refine Kq ?_
 have hi1:i=l.length:=by omega
 subst hi1
 rw [List.take_length] at hnod
 exact (colsE_0 hall hnod).symm):p:=h
theorem Bz136(h:p:=by
 refine Kq ?_
 show (0:Int)=chkX x
 rw [chkX_e hh hce]
 exact (entsE_end fun j e hj he=>hpast j e (by omega) he).symm):p:=h
theorem Bz137(h:p:=by
 first | exact ⟨_,rfl,_,_,by rw [List.length_drop];omega,rfl,rfl,rfl,cx⟩ | exact ⟨_,rfl,s,_,by omega,rfl,rfl,rfl,cx⟩):p:=h
theorem Bz138(h:p:=by
 refine Kq ?_
 show (2:Int)=chkX x
 rw [chkX_e hh hce]
 exact (entsE_at he hpast (entE_2 hnb hbr) (by decide)).symm):p:=h
theorem Bz139(h:p:=by
 first | exact ⟨_,rfl,1,_,rfl,rfl,rfl,by omega,by omega,cx⟩ | exact ⟨_,rfl,0,_,rfl,rfl,rfl,by omega,by omega,cx⟩):p:=h
theorem Bz140(h:p:=by
 refine Kq ?_
 show (21:Int)=chkX x
 rw [chkX_e hh hce]
 exact (entsE_at he hpast (entE_21 hbd) (by decide)).symm):p:=h
theorem Bz141(h:p:=by
 simp only [VR] at h2
 subst h2
 simp only [Option.some.injEq] at h;subst h
 simp only [yielded,ht,Option.bind_some,h1]
 rfl):p:=h
theorem Bz142(h:p:=by
 obtain ⟨b,o,hs,hr⟩:=hp
 exact ⟨b,o,hs.mono fun _ hb=>Nat.lt_of_lt_of_le hb h.size,fun i x hx=>(hr i x hx).up h⟩):p:=h
theorem Bz143(h:p:=by
 have:=hg m' a' w' e hu hs' ho
 obtain ⟨v,rfl,_⟩:=ho
 exact this):p:=h
theorem Bz144(h:p:=by
 rw [hgr.block p.1 (cx.lt p hp') (fun e=>hoff0 p.1 (by rw [e];rfl) (List.mem_map.2 ⟨p,hp',rfl⟩))]
 exact cx.own p hp'):p:=h
theorem Bz145(h:p:=by
 rcases hv with rfl | rfl | rfl | rfl | rfl | rfl | rfl | rfl | rfl | rfl | rfl | rfl | rfl <;> first | rfl | assumption):p:=h
theorem Bz146(h:p:=by
 rcases Nat.lt_or_ge m 12 with h | h
 · omega
 · have h2:moF y m=lenF y:=by rw [show m=12 by omega];rfl
   omega):p:=h
theorem Bz147(h:p:=by
 simp only [List.length_cons,List.length_append] at h4
 rcases hc68 with h7 | h7
 · rw [h] at h7;exact h7 rfl
 · omega):p:=h
theorem Bz148(h:p:=by
 first | exact ⟨_,rfl,rfl,by rw [ldp_T hx0 hc11];rfl,cx⟩ | exact ⟨_,rfl,rfl,by rw [ldp_F hx0 hc11];rfl,cx⟩):p:=h
theorem Bz149(h:p:=by
 simp only [List.append_assoc,List.cons_append,List.nil_append]):p:=h
theorem Bz150(h:p:=by
 rw [List.foldlM_cons,Sem.run_bind,Sem.run_bind,e,Result.andThen_ok,Sem.run_pure,Result.andThen_ok,h4]
 simp):p:=h
theorem Bz151(h:p:=by
 rw [List.map_append,List.sum_append]
 simp only [List.map_cons,List.map_nil,List.sum_cons,List.sum_nil]
 omega):p:=h
theorem Bz152(h:p:=by
 refine .inl ⟨_,h1,fun K Q hK=>?_⟩
 exact hop K Q fun m' w' v hu hr hd hx=>hK m' _ w' hu (h2 hu hr hd hx)):p:=h
theorem Bz153(h:p:=by
 first | exact ⟨_,rfl,n,hn,rfl,rfl,rfl,cx⟩ | exact ⟨_,rfl,1099511627776,by omega,rfl,rfl,rfl,cx⟩):p:=h
theorem Bz154(h:p:=by
 exfalso
 rw [hc] at hpf
 exact absurd (pre_cqt hpf) (by decide)):p:=h
theorem Bz155(h:p:=by
 first | exact ⟨_,rfl,_,_,_,_,0,rfl,rfl,rfl,cx⟩ | exact ⟨_,rfl,_,_,_,_,dn,rfl,rfl,rfl,cx⟩):p:=h
theorem Bz156(h:p:=by
 cases B with
 | nil=>exfalso;simp only [List.length_nil] at hAB;omega
 | cons p B'=>exact ⟨p,B',rfl⟩):p:=h
theorem Bz157(h:p:=by
 rcases Nat.lt_or_ge i l0.length with h | h
 · exact absurd (h5.symm.trans hr0) (rstS_ne l0 i h)
 · omega):p:=h
theorem Bz158(h:p:=by
 unfold rngBad
 rcases Nat.eq_zero_or_pos i with h | h
 · have:=hlz h;omega
 · have:=(hpv h).2;omega):p:=h
theorem Bz159(h:p:=by
 have:a.eval (.tmp t)=v:=by simp [Act.eval,Array.getD_eq_getD_getElem?,h1]
 rw [this];exact h2):p:=h
theorem Bz160(h:p:=by
 simp only [Option.some.injEq] at hmd;subst hmd
 simp only [OutR] at ho;subst ho
 exact hleave _ rfl):p:=h
theorem Bz161(h:p:=by
 refine cSp rfl (fun hc11=>?_) (fun hc11=>?_)
 ·
  refine K2 ?_
  exact Bz2
 refine K3 ?_
 refine cSp rfl (fun hc16=>?_) (fun hc16=>?_)
 ·
  refine K0 ?_
  exact Bz2
 refine K3 ?_
 refine cSp rfl (fun hc18=>?_) (fun hc18=>?_)
 ·
  refine K0 ?_
  exact Bz2
 refine K3 ?_
 refine cSp rfl (fun hc20=>?_) (fun hc20=>?_)
 ·
  refine K0 ?_
  exact Bz2
 refine K3 ?_
 refine cSp rfl (fun hc22=>?_) (fun hc22=>?_)
 ·
  refine K3 ?_
  refine w_loop (fun k f w1=>∃ m:Nat,k+m=5∧3≤m∧f 0=.string (bs s)∧f 4=.int .i64 m∧Ctx w0 w1 []) (2) ?_ ?_
  ·
   exact Ez3
  intro gk15 f w hJ
  obtain ⟨m,hk,hm,hs0,hs4,cx⟩:=hJ
  refine K4k ?_
  refine K4z ?_
  refine Ks ?_
  refine K2 ?_
  refine cSp rfl (fun hc31=>?_) (fun hc31=>?_)
  ·
   refine K3 ?_
   refine K1j ?_
   refine K4l ?_
   refine cSp rfl (fun hc42=>?_) (fun hc42=>?_)
   ·
    refine Km ?_
    refine Ke ?_
    refine K2i ?_
    refine s_fn cx (c322w ((s.take (Int.toNat (m:Int))).drop (Int.toNat 2)) _ (by rw [List.length_drop,List.length_take,Int.toNat_natCast];omega) (hE.up cx.ext)) Tryz.func322 rfl rfl rfl rfl rfl rfl ?_;intro q47 w cx hw47 hp47
    obtain ⟨n,u,rfl,hu⟩:=hp47
    obtain ⟨cu,hcu⟩:=u8w n
    refine K7 ?_
    refine s_val rfl rfl (v_isNil Tryz.underlying184 rfl rfl rfl hu) ?_
    refine SS ?_
    refine c_split rfl (fun hc51=>?_) (fun hc51=>?_)
    ·
     refine K1 ?_
     refine Kag ?_
     refine K22 ?_
     exact Bz2
    exact Bz15
   exact Bz15
  refine K1 ?_
  exact Bz2
 refine K1 ?_
 exact Bz2):p:=h
theorem Bz162(h:p:=by
 refine Kg ?_
 refine K2u ?_
 refine K2b ?_
 refine K8 ?_
 refine K2e ?_
 refine c_split rfl (fun hc56=>?_) (fun hc56=>?_)
 ·
  exact Bz7
 try simp only [bsl] at hc56
 have hne:0<(s.drop (Int.toNat 10)).length:=List.length_pos_iff.2 hc56
 refine K7 ?_
 refine K2w ?_
 refine K2 ?_
 refine K5x ?_
 refine c_split rfl (fun hc75=>?_) (fun hc75=>?_)
 ·
  exact Bz24
 try simp only [bsl] at hc75
 refine K3 ?_
 refine s_fn cx (c275 ((s.drop (Int.toNat 10)).drop (Int.toNat 1)) _ peq) Tryz.func275 rfl rfl rfl rfl rfl rfl ?_;intro q80 w cx hw80 hp80
 obtain ⟨n,r,b1,b2,rfl,hr⟩:=hp80
 exact Bz1):p:=h
theorem Bz163(h:p:=by
 refine x_two (i:=12) (j:=13) p1q rfl rfl ?_ ?_
 ·
  refine K17 ?_
  refine x_two (i:=13) (j:=15) p1q rfl rfl ?_ ?_
  ·
   exact Bz192
  exact Bz194
 refine K17 ?_
 refine K3d ?_
 exact Bz192):p:=h
theorem Bz164(h:p:=by
 refine Kd ?_
 refine x_two (i:=10) (j:=14) p1q rfl rfl ?_ ?_
 ·
  refine Kci ?_
  refine Kd ?_
  refine x_two (i:=11) (j:=14) p1q rfl rfl ?_ ?_
  ·
   refine Kcj ?_
   refine Kd ?_
   refine K2u ?_
   refine H6 ?_;intro q75 w cx hw75 hp75
   subst hp75
   exact Bz3
  refine H6 ?_;intro q75 w cx hw75 hp75
  subst hp75
  exact Bz193
 refine H6 ?_;intro q75 w cx hw75 hp75
 subst hp75
 exact Bz200):p:=h
theorem Bz165(h:p:=by
 refine Kd ?_
 refine x_two (i:=7) (j:=10) p1q rfl rfl ?_ ?_
 ·
  refine Kt ?_
  refine Kd ?_
  refine K1r ?_
  refine H7 ?_;intro q38 w cx hw38 hp38
  obtain ⟨tz,rfl,htz⟩:=hp38
  refine Kg ?_
  exact Bz191
 refine H7 ?_;intro q38 w cx hw38 hp38
 obtain ⟨tz,rfl,htz⟩:=hp38
 refine Kg ?_
 exact Bz202):p:=h
theorem Bz166(h:p:=by
 refine K1 ?_
 refine ret_cell2 Tryz.results199 rfl rfl (cx.at 0 rfl) Tryz.underlying78 rfl sz78 ?_
 exact ⟨cx.ext,_,_,_,_,_,rfl⟩):p:=h
theorem Bz167(h:p:=by
 refine K0 ?_
 refine K1w ?_
 refine K1 ?_
 exact Bz12):p:=h
theorem Bz168(h:p:=by
 refine Kd ?_
 refine K1c ?_
 refine K4m ?_
 refine K1r ?_
 refine K2b ?_
 refine SS ?_
 refine ret_tmp Tryz.results161 rfl ?_
 exact Bz5):p:=h
theorem Bz169(h:p:=by
 refine K17 ?_
 refine K2u ?_
 refine H8 ?_;intro b5 w cx hb5 hw5
 refine K44 ?_
 exact Bz203):p:=h
theorem Bz170(h:p:=by
 refine K1 ?_
 refine ret_tmp Tryz.results219 rfl ?_
 exact ⟨cx.ext,_,rfl,fun _=>by omega⟩):p:=h
theorem Bz171(h:p:=by
 refine K1s ?_
 refine K4m ?_
 refine K1h ?_
 exact Bz201):p:=h
theorem Bz172(h:p:=by
 refine K1 ?_
 refine ret_tmp Tryz.results161 rfl ?_
 exact Bz5):p:=h
theorem Bz173(h:p:=by
 refine s_val rfl rfl (v_mkI Tryz.underlying319 rfl rfl) ?_
 exact Bz13):p:=h
theorem Bz174(h:p:=by
 refine Kd ?_
 refine K1s ?_
 refine Kck ?_
 exact Bz9):p:=h
theorem Bz175(h:p:=by
 refine SS ?_
 refine ret_tmp Tryz.results221 rfl ?_
 exact Bz20):p:=h
theorem Bz176(h:p:=by
 refine K1 ?_
 refine ret_cell2 Tryz.results199 hs2 rfl (cx.at 1 rfl) Tryz.underlying78 rfl sz78 ?_
 exact ⟨cx.ext,_,_,_,_,_,rfl⟩):p:=h
theorem Bz177(h:p:=by
 refine Kt ?_
 refine K1 ?_
 refine ret_tmp Tryz.results237 rfl ?_
 exact Bz5):p:=h
theorem Bz178(h:p:=by
 refine K1 ?_
 exact Bz8):p:=h
theorem Bz179(h:p:=by
 refine SS ?_
 refine ret_tmp Tryz.results159 rfl ?_
 exact Bz20):p:=h
theorem Bz180(h:p:=by
 simp only [Option.some.injEq,Prod.mk.injEq] at h
 obtain ⟨rfl,rfl⟩:=h
 refine ihx s m w a _ _ _ hs h1 ?_
 intro m' a' w' e hu hs' ho
 exact Bz55):p:=h
theorem Bz181(h:p:=by
 simp only [Option.some.injEq,Prod.mk.injEq] at h
 obtain ⟨rfl,rfl⟩:=h
 refine hf s m w a _ _ _ hs h1 ?_
 intro m' a' w' e hu hs' ho
 exact Bz55):p:=h
theorem Bz182(h:p:=by
 have hn:=chk.idx
 rw [he] at hn
 rw [hB] at hq
 by_cases e2:q=r
 · rw [e2,hv] at hqv;cases hqv
 · refine nodup_ne hn ?_ e
   exact Bz45):p:=h
theorem Bz183(h:p:=by
 refine ⟨cx.ext,_,_,ByteArray.empty,rfl,⟨0,false,false,ByteArray.empty,0,0,0,0,0,_,_,_,rfl,rfl,rfl,rfl⟩,by decide⟩):p:=h
theorem Bz184(h:p:=by
 refine K1 ?_
 refine ret_tmp Tryz.results231 rfl ?_
 exact Bz5):p:=h
theorem Bz185(h:p:=by
 refine K1 ?_
 refine ret_tmp Tryz.results236 rfl ?_
 exact Bz5):p:=h
theorem Bz186(h:p:=by
 refine K1 ?_
 refine ret_tmp Tryz.results300 rfl ?_
 exact Bz5):p:=h
theorem Bz187(h:p:=by
 refine K1 ?_
 refine ret_tmp Tryz.results222 rfl ?_
 exact Bz5):p:=h
theorem Bz188(h:p:=by
 have h:=cx'.permR ((List.Perm.refl _).cons _ |>.trans (List.Perm.cons _ (List.Perm.swap _ _ _)))
 exact Bz94):p:=h
theorem Bz189(h:p:=by
 simp [resolve,invoke,builtin,hs,hx,hrun,Result.andThen]):p:=h
theorem Bz190(h:p:=by
 rw [show cs.map Value.string++[.string c]=(cs++[c]).map Value.string by simp] at h
 exact Bz94):p:=h
theorem Bz191(h:p:=by
 refine K2t ?_
 refine K4m ?_
 refine K3d ?_
 exact Bz201):p:=h
theorem Bz192(h:p:=by
 refine K17 ?_
 exact Bz203):p:=h
theorem Bz193(h:p:=by
 refine Kd ?_
 refine K2t ?_
 refine Kcj ?_
 exact Bz3):p:=h
theorem Bz194(h:p:=by
 refine H9 ?_;intro w cx hwS5
 refine Kg ?_
 refine K3e ?_
 refine SS ?_
 exact Bz0):p:=h
theorem Bz195(h:p:=by
 refine K17 ?_
 refine K3e ?_
 refine SS ?_
 exact Bz162):p:=h
theorem Bz196(h:p:=by
 refine K5y ?_
 exact Bz175):p:=h
theorem Bz197(h:p:=by
 refine K2t ?_
 refine K17 ?_
 exact Bz163):p:=h
theorem Bz198(h:p:=by
 refine K2b ?_
 exact Bz179):p:=h
theorem Bz199(h:p:=by
 refine K2b ?_
 exact Bz175):p:=h
theorem Bz200(h:p:=by
 refine Kd ?_
 refine K1r ?_
 refine Kci ?_
 exact Bz193):p:=h
theorem Bz201(h:p:=by
 refine K2b ?_
 refine SS ?_
 refine ret_tmp Tryz.results222 rfl ?_
 exact Bz5):p:=h
theorem Bz202(h:p:=by
 refine K1s ?_
 refine Kt ?_
 refine Kd ?_
 exact Bz191):p:=h
theorem Bz203(h:p:=by
 refine K43 ?_
 refine H9 ?_;intro w cx hwS5
 exact Bz0):p:=h
end
end Go
section
namespace Go.Dk
open Go Go.RowKit
def upd (f:Nat→Value)(d:Nat)(v:Value):Nat→Value:=fun i=>bif Nat.beq i d then v else f i
def ofL:List Value→Nat→Value
 | [],_=>undef
 | x::_,0=>x
 | _::l,i+1=>ofL l i
def St (n:Nat)(f:Nat→Value):Act:=⟨Array.ofFn (n:=n) fun i=>f i.val,[]⟩
def ev (n:Nat)(f:Nat→Value):Operand→Value
 | .tmp t=>bif Nat.blt t n then f t else undef
 | .const v=>v
 | .global g=>.pointer (some ⟨g,0,none⟩)
 | .func k=>.func (.func k) #[] #[]
theorem blt_iff (a b:Nat):Nat.blt a b=decide (a<b):=by
 rw [Bool.eq_iff_iff];simp [Nat.blt_eq]
theorem upd_eq (f:Nat→Value)(d:Nat)(v:Value)(i:Nat):upd f d v i=if i=d then v else f i:=by
 unfold upd
 cases h:Nat.beq i d
 · have h':i≠d:=by intro e;rw [e,Nat.beq_refl] at h;cases h
   simp [h']
 · have h':i=d:=Nat.eq_of_beq_eq_true h
   simp [h']
theorem eval_St (n:Nat)(f:Nat→Value):(St n f).eval=ev n f:=by
 funext x
 cases x with
 | tmp t =>
  show (St n f).tmps.getD t undef=bif Nat.blt t n then f t else undef
  rw [blt_iff]
  unfold St
  by_cases h:t<n <;> simp [h,Array.getD]
 | _=>rfl
theorem put_St (n:Nat)(f:Nat→Value)(d:Nat)(v:Value):(St n f).put (some d) v=St n (upd f d v):=by
 simp only [Act.put,St]
 congr 1
 apply Array.ext
 · simp
 · intro i h1 h2
   have hi:i<n:=by simpa using h2
   rw [Array.getElem_ofFn]
   simp only [upd_eq]
   by_cases hd:i=d
   · subst hd;simp
   · rw [if_neg hd,Array.getElem_setIfInBounds_ne p2fq (Ne.symm hd),Array.getElem_ofFn]
theorem enter_St (l:List Value)(n:Nat)(h:l.length≤n) :
  ({ tmps:=l.toArray++Array.replicate (n-l.toArray.size) undef,defers:=[]}:Act)=St n (ofL l):=by
 have key:∀ (l:List Value) (i:Nat),ofL l i=l.getD i undef:=by
  intro l
  induction l with
  | nil=>intro i;simp [ofL]
  | cons x l ih=>intro i;cases i with
   | zero=>simp [ofL]
   | succ i=>simp [ofL,ih]
 simp only [St]
 congr 1
 apply Array.ext
 · simp;omega
 · intro i h1 h2
   simp only [Array.getElem_ofFn,key,Array.getElem_append]
   simp at h1 h2
   by_cases hi:i<l.length
   · simp [hi,List.getD]
   · simp [hi,List.getD]
def Ret (P:Program)(k:FuncId)(args:List Value)(w:World)(R:Value→World→Prop):Prop :=
 Calls P k args.toArray w fun e w'=>∃ v,e=.returned v∧R v w'
theorem Ret.mono {P:Program}{k:FuncId}{args:List Value}{w:World}{R R':Value→World→Prop}(h:Ret P k args w R)(hr:∀ v w',R v w'→R' v w'):Ret P k args w R' :=
 Calls.mono h fun _ _ ⟨v,he,hv⟩=>⟨v,he,hr _ _ hv⟩
theorem ret_enter {P:Program}{k:FuncId}{fn:Func}{c:Code}{l:List Value}{n:Nat}{w:World}{R:Value→World→Prop}
  (hf:P.funcs[k]?=some fn) (hb:fn.body=some c) (hn:fn.ntmps=n) (hl:Nat.ble l.length n=true)
  (h:c.wp P (bodyPost P fn fun e w'=>∃ v,e=.returned v∧R v w') (St n (ofL l)) w):Ret P k l w R:=by
 refine calls_of_wp hf hb ?_
 rw [hn,enter_St l n (Nat.le_of_ble_eq_true hl)]
 exact h
theorem ret_tmp {P:Program}{fn:Func}{R:Value→World→Prop}{n:Nat}{f:Nat→Value}{w:World}{t:Nat}{v:Value}
  (hr:fn.results=#[.tmp t]) (hv:ev n f (.tmp t)=v) (h:R v w):bodyPost P fn (fun e w'=>∃ v,e=.returned v∧R v w') .ret (St n f) w:=by
 refine ⟨rfl,v,?_,v,rfl,h⟩
 rw [results_tmp hr]
 rw [← hv,← eval_St];rfl
theorem ret_tmp2 {P:Program}{fn:Func}{R:Value→World→Prop}{n:Nat}{f:Nat→Value}{w:World}{t u:Nat}{v x:Value}
  (hr:fn.results=#[.tmp t,.tmp u]) (hv:ev n f (.tmp t)=v) (hx:ev n f (.tmp u)=x) (h:R (.tuple #[v,x]) w):bodyPost P fn (fun e w'=>∃ v,e=.returned v∧R v w') .ret (St n f) w:=by
 refine ⟨rfl,_,?_,_,rfl,h⟩
 rw [results_tmp2 hr]
 rw [← hv,← hx,← eval_St];rfl
section
variable {P:Program} {ops:Array Oper} {Q:Exit→Act→World→Prop} {rest:List Oper} {o:Oper} {n:Nat} {f:Nat→Value} {w:World}
theorem s_run {w':World}{v:Value}(hg:o.guard=none)(hv:(execOp (ev n f) o).run P w=.ok (.value v) w')
  (h:wpList P ops Q rest ((St n f).put o.dst v) w'):wpList P ops Q (o::rest) (St n f) w:=by
 refine wpList_plain hg fun K hK=>?_
 unfold Oper.wp
 rw [eval_St,hv]
 exact hK _ _ h
theorem s_val {v:Value}{d:Nat}(hg:o.guard=none)(hd:o.dst=some d)(hv:(execOp (ev n f) o).run P w=.ok (.value v) w)
  (h:wpList P ops Q rest (St n (upd f d v)) w):wpList P ops Q (o::rest) (St n f) w :=
 s_run hg hv (by rw [hd,put_St];exact h)
theorem s_new {w':World}{v:Value}{d:Nat}(hg:o.guard=none)(hd:o.dst=some d)(hv:(execOp (ev n f) o).run P w=.ok (.value v) w')
  (h:wpList P ops Q rest (St n (upd f d v)) w'):wpList P ops Q (o::rest) (St n f) w :=
 s_run hg hv (by rw [hd,put_St];exact h)
theorem s_put {w':World}(hg:o.guard=none)(hd:o.dst=none)(hv:(execOp (ev n f) o).run P w=.ok .skip w')
  (h:wpList P ops Q rest (St n f) w'):wpList P ops Q (o::rest) (St n f) w:=by
 refine wpList_plain hg fun K hK=>?_
 unfold Oper.wp
 rw [eval_St,hv]
 refine hK _ _ ?_
 rw [hd]
 exact h
def gv (c:Bool)(v:Value):Value:=bif c then v else undef
theorem gve {c:Bool}{x v:Value}(hc:c=true)(h:x=gv c v):x=v:=by rw [h,hc];rfl
theorem and_l {a b:Bool}(h:(a&&b)=true):a=true:=by cases a <;> simp_all
attribute [irreducible] gv
def WantB (v:Value)(pol c:Bool):Prop:=(match v with | .bool b=>b==pol | _=>false)=c
theorem w_tt {x:Value}{b:Bool}(h:x=.bool b):WantB x true b:=by subst h;cases b <;> rfl
theorem w_ff {x:Value}{b:Bool}(h:x=.bool b):WantB x false (!b):=by subst h;cases b <;> rfl
theorem w_gt {x:Value}{c b:Bool}(h:x=gv c (.bool b)):WantB x true (c&&b):=by subst h;unfold gv;cases b <;> cases c <;> rfl
theorem w_gf {x:Value}{c b:Bool}(h:x=gv c (.bool b)):WantB x false (c&&!b):=by subst h;unfold gv;cases b <;> cases c <;> rfl
theorem wanted_St {j dj:Nat}{pol c:Bool}(hg:o.guard=some (j,pol))(hj:(ops[j]?).bind (·.dst)=some dj)(hc:WantB (ev n f (.tmp dj)) pol c) :
  Region.wanted o (yielded ops (St n f).tmps)=c:=by
 have hy:(St n f).tmps[dj]?=if dj<n then some (f dj) else none:=by
  by_cases h:dj<n <;> simp [St,h]
 unfold Region.wanted yielded
 rw [hg]
 simp only [hj,Option.bind_some,hy]
 unfold WantB at hc
 rw [← hc]
 show _=(match (bif Nat.blt dj n then f dj else undef) with | .bool b=>b==pol | _=>false)
 rw [blt_iff]
 by_cases h:dj<n
 · simp only [h,if_true,decide_true,cond_true]
   cases f dj <;> simp
 · simp only [h,if_false,decide_false,cond_false]
   simp [undef]
theorem s_gval {v:Value}{j d dj:Nat}{pol c:Bool}(hg:o.guard=some (j,pol))(hd:o.dst=some d)(hj:(ops[j]?).bind (·.dst)=some dj)(hc:WantB (ev n f (.tmp dj)) pol c)
  (hv:c=true→(execOp (ev n f) o).run P w=.ok (.value v) w) (h:wpList P ops Q rest (St n (upd f d (gv c v))) w):wpList P ops Q (o::rest) (St n f) w:=by
 have hw:=wanted_St (o:=o) (ops:=ops) hg hj hc
 refine wpList_step fun K hK=>?_
 rw [hw]
 cases c with
 | true =>
  simp only [if_true]
  unfold Oper.wp
  rw [eval_St,hv rfl]
  refine hK _ _ ?_
  rw [hd,put_St]
  unfold gv at h
  exact h
 | false =>
  simp only [Bool.false_eq_true,if_false]
  refine hK _ _ ?_
  rw [hd,put_St]
  unfold gv at h
  exact h
variable {ρ:Operand→Value} {a:Operand}
theorem v_move {x:Operand}{v:Value}(ho:o.op=.move x)(hx:ρ x=v):(execOp ρ o).run P w=.ok (.value v) w:=by
 unfold execOp;rw [ho];simp [hx]
theorem v_assign {x:Operand}{v:Value}(ho:o.op=.assign x)(hx:ρ x=v):(execOp ρ o).run P w=.ok (.value v) w:=by
 unfold execOp;rw [ho];simp [hx]
theorem v_or {c x y:Operand}{p q:Bool}(ho:o.op=.pick c x y)(hc:ρ c=.bool p)(hx:ρ x=.bool true)(hy:ρ y=gv (!p) (.bool q)):(execOp ρ o).run P w=.ok (.value (.bool (p||q))) w:=by
 unfold execOp;rw [ho];simp only [hc,hx,hy,asBool];cases p <;> simp [gv]
theorem v_and {c x y:Operand}{p q:Bool}(ho:o.op=.pick c x y)(hc:ρ c=.bool p)(hx:ρ x=gv p (.bool q))(hy:ρ y=.bool false):(execOp ρ o).run P w=.ok (.value (.bool (p&&q))) w:=by
 unfold execOp;rw [ho];simp only [hc,hx,hy,asBool];cases p <;> simp [gv]
theorem v_or_g {c x y:Operand}{p q g:Bool}(hg:g=true)(ho:o.op=.pick c x y)(hc:ρ c=gv g (.bool p))(hx:ρ x=.bool true)(hy:ρ y=gv (g&&!p) (.bool q)):(execOp ρ o).run P w=.ok (.value (.bool (p||q))) w :=
 v_or ho (gve hg hc) hx (by rw [hy,hg,Bool.true_and])
theorem v_and_g {c x y:Operand}{p q g:Bool}(hg:g=true)(ho:o.op=.pick c x y)(hc:ρ c=gv g (.bool p))(hx:ρ x=gv (g&&p) (.bool q))(hy:ρ y=.bool false):(execOp ρ o).run P w=.ok (.value (.bool (p&&q))) w :=
 v_and ho (gve hg hc) (by rw [hx,hg,Bool.true_and]) hy
theorem v_cmp {op:BinOp}{t t':TypeId}{x y:Operand}{k:IntKind}{p q:Int}{b:Bool}(ho:o.op=.binOp op t x y t')(hx:ρ x=.int k p)(hy:ρ y=.int k q)
  (hop:(match op with | .lss=>some (decide (p<q)) | .leq=>some (decide (p≤q)) | .gtr=>some (decide (q<p)) | .geq=>some (decide (q≤p)) | .eql=>some (p==q) | .neq=>some (p != q) | _=>none)=some b) :
  (execOp ρ o).run P w=.ok (.value (.bool b)) w:=by
 unfold execOp
 rw [ho]
 simp only [hx,hy]
 cases op <;> simp at hop <;> subst hop <;> simp [eqGuard,binOp,Op.intCmp,bne]
theorem v_add {t t':TypeId}{x y:Operand}{p q:Int}(ho:o.op=.binOp .add t x y t')(hx:ρ x=.int .i64 p)(hy:ρ y=.int .i64 q)
  (h1:-9223372036854775808≤p+q) (h2:p+q≤9223372036854775807):(execOp ρ o).run P w=.ok (.value (.int .i64 (p+q))) w:=by
 unfold execOp
 rw [ho]
 have hw:IntKind.i64.wrap (p+q)=p+q:=IntWalk.i64_in _ (by omega)
 simp [hx,hy,eqGuard,binOp,Op.intArith,hw]
theorem v_sub {t t':TypeId}{x y:Operand}{p q:Int}(ho:o.op=.binOp .sub t x y t')(hx:ρ x=.int .i64 p)(hy:ρ y=.int .i64 q)
  (h1:-9223372036854775808≤p-q) (h2:p-q≤9223372036854775807):(execOp ρ o).run P w=.ok (.value (.int .i64 (p-q))) w:=by
 unfold execOp
 rw [ho]
 have hw:IntKind.i64.wrap (p-q)=p-q:=IntWalk.i64_in _ (by omega)
 simp [hx,hy,eqGuard,binOp,Op.intArith,hw]
theorem v_mul {t t':TypeId}{x y:Operand}{p q:Int}(ho:o.op=.binOp .mul t x y t')(hx:ρ x=.int .i64 p)(hy:ρ y=.int .i64 q)
  (h1:-9223372036854775808≤p*q) (h2:p*q≤9223372036854775807):(execOp ρ o).run P w=.ok (.value (.int .i64 (p*q))) w:=by
 unfold execOp
 rw [ho]
 have hw:IntKind.i64.wrap (p*q)=p*q:=IntWalk.i64_in _ ⟨h1,h2⟩
 simp [hx,hy,eqGuard,binOp,Op.intArith,hw]
theorem v_not {t:TypeId}{x:Operand}{b:Bool}(ho:o.op=.unOp .not t x)(hx:ρ x=.bool b):(execOp ρ o).run P w=.ok (.value (.bool (!b))) w:=by
 unfold execOp
 rw [ho]
 simp [hx,Op.unary]
theorem v_extract {x:Operand}{i:Nat}{vs:Array Value}{v:Value}(ho:o.op=.extract x i)(hx:ρ x=.tuple vs)(hv:vs[i]?=some v):(execOp ρ o).run P w=.ok (.value v) w:=by
 unfold execOp
 rw [ho]
 simp [hx,Instr.extract,hv]
theorem v_lenSlice {x:Operand}{t:TypeId}{ad:Option Addr}{l c:Nat}{e:TypeId}(ho:o.op=.call { callee:=.builtin .len,args:=#[x],argTypes:=#[t]})(hx:ρ x=.slice ad l c)(hu:P.underlying t=some (.slice e)) :
  (execOp ρ o).run P w=.ok (.value (.int .i64 l)) w:=by
 unfold execOp
 rw [ho]
 simp [resolve,hx,invoke,builtin,Builtin.len_,goInt,run_underlying hu]
theorem v_lenString {x:Operand}{t:TypeId}{s:ByteArray}(ho:o.op=.call { callee:=.builtin .len,args:=#[x],argTypes:=#[t]})(hx:ρ x=.string s)(hu:P.underlying t=some .string) :
  (execOp ρ o).run P w=.ok (.value (.int .i64 s.size)) w:=by
 unfold execOp
 rw [ho]
 simp [resolve,hx,invoke,builtin,Builtin.len_,goInt,run_underlying hu]
theorem bytes_eq (s u:ByteArray):(s.toList==u.toList)=decide (s=u):=by
 rw [Bool.eq_iff_iff]
 simp only [beq_iff_eq,decide_eq_true_eq,ByteArray.toList_eq]
 constructor
 · intro h;cases s;cases u;simp at h;simp [h]
 · intro h;rw [h]
theorem v_strEq {t t':TypeId}{x y:Operand}{s u:ByteArray}(ho:o.op=.binOp .eql t x y t')(hx:ρ x=.string s)(hy:ρ y=.string u) :
  (execOp ρ o).run P w=.ok (.value (.bool (decide (s=u)))) w:=by
 unfold execOp
 rw [ho]
 simp [hx,hy,eqGuard,binOp,Op.stringOp,bytes_eq]
theorem v_strNe {t t':TypeId}{x y:Operand}{s u:ByteArray}(ho:o.op=.binOp .neq t x y t')(hx:ρ x=.string s)(hy:ρ y=.string u) :
  (execOp ρ o).run P w=.ok (.value (.bool (!decide (s=u)))) w:=by
 unfold execOp
 rw [ho]
 simp [hx,hy,eqGuard,binOp,Op.stringOp,bytes_eq]
def RowAt (w:World)(b o:Nat)(l:List Value):Prop:=∀ j x,l[j]?=some x→w.cell? ⟨b,o+j,none⟩=some x
theorem RowAt.cell {b i:Nat}{l:List Value}{x:Value}(h:RowAt w b i l)(j:Nat)(hj:l[j]?=some x):w.cell? ⟨b,i+j,none⟩=some x:=h j x hj
theorem add_addr (b i j:Nat):(⟨b,i,none⟩:Addr).add j=⟨b,i+j,none⟩:=by
 unfold Addr.add
 split
 · rename_i h;subst h;rfl
 · rfl
def aggD:TypeDesc→Bool
 | .struct _ | .array _ _=>true
 | _=>false
theorem run_isAgg {t:TypeId}{d:TypeDesc}(hu:P.underlying t=some d):(isAgg t).run P w=.ok (aggD d) w:=by
 unfold isAgg
 rw [Sem.run_bind,run_underlying hu w]
 cases d <;> rfl
theorem run_size {t:TypeId}{k:Nat}(hs:(P.info? t).map (·.size)=some k):(sizeOf t).run P w=.ok k w:=by
 cases h:P.info? t with
 | none=>simp [h] at hs
 | some i=>simp [h] at hs;simp [sizeOf,typeInfo,h,hs]
theorem v_load1 {x:Operand}{t:TypeId}{d:TypeDesc}{b i:Nat}{v:Value}(ho:o.op=.load t x)(hx:ρ x=.pointer (some ⟨b,i,none⟩))(hu:P.underlying t=some d)(hd:aggD d=false)
  (hc:w.cell? ⟨b,i,none⟩=some v):(execOp ρ o).run P w=.ok (.value v) w:=by
 unfold execOp
 rw [ho]
 simp [hx,Instr.loadAt,Instr.sureAddr,loadVar,run_isAgg (w:=w) hu,hd,hc]
theorem v_load {x:Operand}{t:TypeId}{d:TypeDesc}{b i:Nat}{l:List Value}(ho:o.op=.load t x)(hx:ρ x=.pointer (some ⟨b,i,none⟩))(hu:P.underlying t=some d)(hd:aggD d=true)
  {k:Nat} (hs:(P.info? t).map (·.size)=some k) (hc:RowAt w b i l) (hk:l.length=k):(execOp ρ o).run P w=.ok (.value (.agg l.toArray)) w:=by
 unfold execOp
 rw [ho]
 subst hk
 have hl:=run_loadCells_list (P:=P) w ⟨b,i,none⟩ l (fun j v hv=>by rw [add_addr];exact hc j v hv)
 simp [hx,Instr.loadAt,Instr.sureAddr,loadVar,run_isAgg (w:=w) hu,hd,run_size (w:=w) hs,hl]
def FA (P:Program)(t:TypeId)(i off:Nat):Prop:=∀ (b k:Nat) (w:World),(Instr.fieldAt t (.pointer (some ⟨b,k,none⟩)) i).run P w=.ok (.pointer (some ⟨b,k+off,none⟩)) w
theorem fa_of {t:TypeId}{i s tt off:Nat}{fs:Array Field}(hu:P.underlying t=some (.struct fs))(hf:(fs[i]?).map (fun f=>(f.type,f.offset))=some (tt,off))(hs:(P.info? tt).map (·.size)=some s)(h0:Nat.blt 0 s=true):FA P t i off:=by
 intro b k w
 have h0':s≠0:=by intro e;subst e;cases h0
 cases hq:fs[i]? with
 | none=>simp [hq] at hf
 | some fl =>
  simp only [hq,Option.map_some,Option.some.injEq,Prod.mk.injEq] at hf
  obtain ⟨rfl,rfl⟩:=hf
  simp [Instr.fieldAt,run_underlying hu,hq,Instr.sureAddr,fieldPlace,run_size (w:=w) hs,add_addr,h0']
theorem v_fa {x:Operand}{t:TypeId}{i off b k:Nat}(h:FA P t i off)(ho:o.op=.fieldAddr t x i)(hx:ρ x=.pointer (some ⟨b,k,none⟩)) :
  (execOp ρ o).run P w=.ok (.value (.pointer (some ⟨b,k+off,none⟩))) w:=by
 unfold execOp
 rw [ho]
 simp [hx,h b k w]
theorem v_ia {x ix:Operand}{t e:TypeId}{s b k len cap:Nat}{m:Int}{kd:IntKind}(hu:P.underlying t=some (.slice e))(hs:(P.info? e).map (·.size)=some s)(ho:o.op=.indexAddr t x ix)
  (hx:ρ x=.slice (some ⟨b,k,none⟩) len cap) (hi:ρ ix=.int kd m) (h0:0≤m) (h1:m<len) :
  (execOp ρ o).run P w=.ok (.value (.pointer (some ⟨b,k+m.toNat*s,none⟩))) w:=by
 unfold execOp
 rw [ho]
 simp [hx,hi,Instr.indexAt,run_underlying hu,asIntOf,h0,h1,run_size (w:=w) hs,add_addr]
end
structure Row where
 e:Nat
 size:Nat
 v:Value
 n:Nat
 xs:List Value
structure Cxr (w0 w:World) (L:List (Nat×Obj)) (R:List Row):Prop where
 ext:Below w0.heap.size w0 w
 own:∀ p∈L,w.heap[p.1]?=some p.2
 lo:∀ p∈L,w0.heap.size≤p.1
 nd:(L.map (·.1)).Nodup
 rows:∀ r∈R,w.ownsRow w0.heap.size r.e r.size r.v r.n r.xs
 off:∀ r∈R,∀ k,r.v.ownBlock=some k→k∉L.map (·.1)
 pw:R.Pairwise fun r s=>∀ k,r.v.ownBlock=some k→s.v.ownBlock≠some k
abbrev Ctx (w0 w:World) (L:List (Nat×Obj)):Prop:=Cxr w0 w L []
theorem Ctx.start (w:World):Ctx w w []:=⟨Below.refl _ _,by simp,by simp,by simp,by simp,by simp,by simp⟩
section
variable {w0 w w':World} {L:List (Nat×Obj)} {R:List Row}
theorem Cxr.lt (h:Cxr w0 w L R):∀ p∈L,p.1<w.heap.size:=by
 intro p hp
 have:=h.own p hp
 rcases Nat.lt_or_ge p.1 w.heap.size with h' | h'
 · exact h'
 · simp [Array.getElem?_eq_none h'] at this
theorem Cxr.at (h:Cxr w0 w L R)(i:Nat){b:Nat}{o:Obj}(hi:L[i]?=some (b,o)):w.heap[b]?=some o :=
 h.own (b,o) (List.mem_of_getElem? hi)
theorem Cxr.row (h:Cxr w0 w L R)(i:Nat){b:Nat}{l:List Value}{t:TypeId}{fr:Nat×Nat}(hi:L[i]?=some (b,.cells l.toArray t fr)):RowAt w b 0 l:=by
 intro j x hj
 have:=h.at i hi
 rw [cell_of_row w b (0+j) _ t fr this]
 simpa using hj
theorem Cxr.cell (h:Cxr w0 w L R)(i:Nat){b j:Nat}{cs:Array Value}{x:Value}{t:TypeId}{fr:Nat×Nat}(hi:L[i]?=some (b,.cells cs t fr))(hj:cs.toList[j]?=some x):w.cell? ⟨b,j,none⟩=some x:=by
 have:=h.at i hi
 rw [cell_of_row w b j _ t fr this]
 simpa using hj
theorem mem_map_drop {k:Nat}{x:Nat}(h:x∈(L.drop k).map (·.1)):x∈L.map (·.1):=by
 obtain ⟨p,hp,rfl⟩:=List.mem_map.1 h
 exact List.mem_map.2 ⟨p,List.mem_of_mem_drop hp,rfl⟩
theorem Cxr.drop (h:Cxr w0 w L R)(k:Nat):Cxr w0 w (L.drop k) R :=
 ⟨h.ext,fun p hp=>h.own p (List.mem_of_mem_drop hp),fun p hp=>h.lo p (List.mem_of_mem_drop hp),by
  rw [List.map_drop];exact (List.drop_sublist k _).nodup h.nd,h.rows,fun r hr k' hk hm=>h.off r hr k' hk (mem_map_drop hm),h.pw⟩
theorem Cxr.dropR (h:Cxr w0 w L R)(k:Nat):Cxr w0 w L (R.drop k) :=
 ⟨h.ext,h.own,h.lo,h.nd,fun r hr=>h.rows r (List.mem_of_mem_drop hr),fun r hr=>h.off r (List.mem_of_mem_drop hr),h.pw.sublist (List.drop_sublist k R)⟩
theorem Cxr.row_keep {r:Row}(h:Cxr w0 w L R)(hr:r∈R)(ho:w'.os=w.os)(ht:w'.tape=w.tape)(hu:w'.output=w.output)(hs:w.heap.size≤w'.heap.size)(hk:∀ k,k<w.heap.size→r.v.ownBlock=some k→w'.heap[k]?=w.heap[k]?) :
  w'.ownsRow w0.heap.size r.e r.size r.v r.n r.xs:=by
 have hrow:=h.rows r hr
 refine ⟨hrow.1,?_⟩
 rcases hrow.2 with hn | ⟨g,cap,cur,hv,hb,hg,rest⟩
 · exact .inl hn
 · refine .inr ⟨g,cap,cur,hv,hb,?_,rest⟩
   rw [hk g (Array.getElem?_eq_some_iff.1 hg).1 (by rw [hv];rfl)]
   exact hg
theorem Cxr.call (h:Cxr w0 w L R)(hb:Below w.heap.size w w'):Cxr w0 w' L R :=
 ⟨h.ext.trans (hb.mono h.ext.size),fun p hp=>by rw [hb.block p.1 (h.lt p hp)];exact h.own p hp,h.lo,h.nd,
  fun r hr=>h.row_keep hr hb.os hb.tape hb.output hb.size fun k hk _=>hb.block k hk,h.off,h.pw⟩
theorem Cxr.draw (h:Cxr w0 w L R):Cxr w0 w.drew L R:=h.call ⟨rfl,rfl,rfl,Nat.le_refl _,fun _ _=>rfl⟩
theorem Cxr.alloc (h:Cxr w0 w L R)(o:Obj):Cxr w0 (w.alloc o) ((w.heap.size,o)::L) R:=by
 refine ⟨h.ext.alloc h.ext.size o,?_,?_,?_,?_,?_,h.pw⟩
 · intro p hp
   rcases List.mem_cons.1 hp with rfl | hp
   · exact heap_alloc_new w o
   · rw [Below.heap_alloc w o p.1 (h.lt p hp)];exact h.own p hp
 · intro p hp
   rcases List.mem_cons.1 hp with rfl | hp
   · exact h.ext.size
   · exact h.lo p hp
 · simp only [List.map_cons,List.nodup_cons]
   refine ⟨fun hm=>?_,h.nd⟩
   obtain ⟨p,hp,he⟩:=List.mem_map.1 hm
   have:=h.lt p hp
   omega
 · intro r hr
   exact (h.rows r hr).alloc o
 · intro r hr k hk hm
   simp only [List.map_cons,List.mem_cons] at hm
   rcases hm with rfl | hm
   · have:=((h.rows r hr).lt _ hk).2;omega
   · exact h.off r hr k hk hm
theorem Cxr.turn (h:Cxr w0 w L R)(i:Nat){b:Nat}{o o':Obj}(hi:L[i]?=some (b,o))(hos:w'.os=w.os)(ht:w'.tape=w.tape)(hou:w'.output=w.output)
  (hsz:w.heap.size≤w'.heap.size) (hb:w'.heap[b]?=some o') (hoth:∀ k,k<w.heap.size→k≠b→w'.heap[k]?=w.heap[k]?):Cxr w0 w' (L.set i (b,o')) R:=by
 have hmem:=List.mem_of_getElem? hi
 have hlo:=h.lo _ hmem
 have hmap:(L.set i (b,o')).map (·.1)=L.map (·.1):=by
  apply List.ext_getElem?
  intro j
  simp only [List.getElem?_map,List.getElem?_set]
  split
  · rename_i he;subst he;simp [hi];exact (List.getElem?_eq_some_iff.1 hi).1
  · rfl
 refine ⟨h.ext.trans ⟨hos,ht,hou,hsz,fun k hk=>hoth k (Nat.lt_of_lt_of_le hk h.ext.size) (by simp at hlo;omega)⟩,?_,?_,?_,?_,?_,h.pw⟩
 · intro p hp
   obtain ⟨j,hj⟩:=List.getElem?_of_mem hp
   rw [List.getElem?_set] at hj
   split at hj
   · split at hj
     · cases hj;exact hb
     · cases hj
   · rename_i hne
     have hp':=List.mem_of_getElem? hj
     rw [hoth p.1 (h.lt p hp') (fun he=>?_)]
     · exact h.own p hp'
     · have h1:(L.map (·.1))[i]?=some b:=by simp [hi]
       have h2:(L.map (·.1))[j]?=some b:=by simp [hj,he]
       have hlt:i<(L.map (·.1)).length:=(List.getElem?_eq_some_iff.1 h1).1
       exact hne ((List.getElem?_inj hlt h.nd).1 (h1.trans h2.symm))
 · intro p hp
   rcases List.mem_or_eq_of_mem_set hp with hp | hp
   · exact h.lo p hp
   · subst hp;exact hlo
 · rw [hmap];exact h.nd
 · intro r hr
   refine h.row_keep hr hos ht hou hsz fun k hk hv=>hoth k hk fun e=>?_
   subst e
   exact h.off r hr _ hv (List.mem_map.2 ⟨_,hmem,rfl⟩)
 · intro r hr k hk hm
   rw [hmap] at hm
   exact h.off r hr k hk hm
theorem Cxr.nilRow (h:Cxr w0 w L R)(e size:Nat):Cxr w0 w L (⟨e,size,.slice none 0 0,0,[]⟩::R) :=
 ⟨h.ext,h.own,h.lo,h.nd,fun r hr=>by
  rcases List.mem_cons.1 hr with rfl | hr
  · exact World.ownsRow_nil _ _ _ _
  · exact h.rows r hr,fun r hr k hk=>by
  rcases List.mem_cons.1 hr with rfl | hr
  · simp [Value.ownBlock] at hk
  · exact h.off r hr k hk,List.pairwise_cons.2 ⟨fun r _ k hk=>by simp [Value.ownBlock] at hk,h.pw⟩⟩
theorem Cxr.addRow (h:Cxr w0 w L R)(r:Row)(hrow:w.ownsRow w0.heap.size r.e r.size r.v r.n r.xs)(hoff:∀ k,r.v.ownBlock=some k→k∉L.map (·.1))(hr:∀ s∈R,∀ k,r.v.ownBlock=some k→s.v.ownBlock≠some k):Cxr w0 w L (r::R) :=
 ⟨h.ext,h.own,h.lo,h.nd,fun s hs=>by
  rcases List.mem_cons.1 hs with rfl | hs
  · exact hrow
  · exact h.rows s hs,fun s hs=>by
  rcases List.mem_cons.1 hs with rfl | hs
  · exact hoff
  · exact h.off s hs,List.pairwise_cons.2 ⟨hr,h.pw⟩⟩
theorem Cxr.callRow (h:Cxr w0 w L R)(hb:Below w.heap.size w w'){e size n:Nat}{v:Value}{xs:List Value}(hrow:w'.ownsRow w.heap.size e size v n xs):Cxr w0 w' L (⟨e,size,v,n,xs⟩::R):=by
 refine (h.call hb).addRow _ ⟨hrow.1,?_⟩ ?_ ?_
 · rcases hrow.2 with h2 | ⟨g,cap,cur,h1,h2,h3⟩
   · exact .inl h2
   · exact .inr ⟨g,cap,cur,h1,Nat.le_trans h.ext.size h2,h3⟩
 · intro k hk hm
   obtain ⟨p,hp,rfl⟩:=List.mem_map.1 hm
   have h1:=(hrow.lt _ hk).1
   have h2:=h.lt p hp
   omega
 · intro s hs k hk hk'
   have h1:=(hrow.lt _ hk).1
   have h2:=((h.rows s hs).lt _ hk').2
   omega
theorem Cxr.toRow {b e size k:Nat}{cs:List Value}(h:Cxr w0 w ((b,.cells cs.toArray e)::L) R)(hl:cs.length=k*size)(hk:k≤maxLen):Cxr w0 w L (⟨e,size,.slice (some ⟨b,0,none⟩) k k,k,cs⟩::R):=by
 refine (h.drop 1).addRow _ ⟨hl,.inr ⟨b,k,cs.toArray,rfl,h.lo (b,.cells cs.toArray e) (by simp),h.own (b,.cells cs.toArray e) (by simp),Nat.le_refl _,hk,by simpa using hl,?_⟩⟩ ?_ ?_
 · simp [← hl]
 · intro q hq
   simp only [Value.ownBlock,Option.some.injEq] at hq
   subst hq
   have:=h.nd
   simp only [List.map_cons,List.nodup_cons] at this
   exact this.1
 · intro s hs q hq hq'
   simp only [Value.ownBlock,Option.some.injEq] at hq
   subst hq
   exact h.off s hs _ hq' (by simp)
end
section
variable {P:Program} {ops:Array Oper} {Q:Exit→Act→World→Prop} {rest:List Oper} {o:Oper} {n:Nat} {f:Nat→Value} {w w0:World} {L:List (Nat×Obj)} {R:List Row}
theorem run_box (t:TypeId)(v:Value):(Instr.box t v).run P w=.ok (.pointer (some ⟨w.heap.size,0,none⟩)) (w.alloc (.cells v.cells t)):=by
 simp [Instr.box,newVar,newRow]
theorem s_box {d:Nat}{t:TypeId}{x:Operand}{v:Value}{cs:List Value}(cx:Cxr w0 w L R)(hg:o.guard=none)(hd:o.dst=some d)(ho:o.op=.box t x)(hx:ev n f x=v)(hv:v.cells=cs.toArray)
  (h:∀ b w',Cxr w0 w' ((b,.cells cs.toArray t)::L) R→w.heap.size=b→Below w.heap.size w w'→wpList P ops Q rest (St n (upd f d (.pointer (some ⟨b,0,none⟩)))) w'):wpList P ops Q (o::rest) (St n f) w:=by
 refine s_new (w':=w.alloc (.cells v.cells t)) (v:=.pointer (some ⟨w.heap.size,0,none⟩)) hg hd ?_ ?_
 · unfold execOp;rw [ho];simp [hx,run_box]
 · rw [hv];exact h _ _ (cx.alloc _) rfl ((Below.refl _ _).alloc (Nat.le_refl _) _)
def Zero (P:Program)(t:TypeId)(l:List Value):Prop:=∃ v,(∀ w,(zeroValue t).run P w=.ok v w)∧v.cells=l.toArray
theorem zero_of {t:TypeId}{v:Value}{l:List Value}(h:(P.info? t).map (·.zero)=some (some v))(hl:v.cells=l.toArray):Zero P t l:=by
 refine ⟨v,fun w=>?_,hl⟩
 cases hi:P.info? t with
 | none=>simp [hi] at h
 | some i=>simp [hi] at h;simp [zeroValue,typeInfo,hi,h]
theorem s_alloc {d:Nat}{t:TypeId}{cs:List Value}(cx:Cxr w0 w L R)(hz:Zero P t cs)(hg:o.guard=none)(hd:o.dst=some d)(ho:o.op=.alloc t)
  (h:∀ b w',Cxr w0 w' ((b,.cells cs.toArray t)::L) R→w.heap.size=b→Below w.heap.size w w'→wpList P ops Q rest (St n (upd f d (.pointer (some ⟨b,0,none⟩)))) w'):wpList P ops Q (o::rest) (St n f) w:=by
 obtain ⟨v,hv,hl⟩:=hz
 refine s_new (w':=w.alloc (.cells v.cells t)) (v:=.pointer (some ⟨w.heap.size,0,none⟩)) hg hd ?_ ?_
 · unfold execOp;rw [ho];simp [Instr.alloc,hv w,newVar,newRow]
 · rw [hl];exact h _ _ (cx.alloc _) rfl ((Below.refl _ _).alloc (Nat.le_refl _) _)
theorem setRow_ctx {b:Nat}{old new:Array Value}{t:TypeId}(cx:Cxr w0 w L R)(i:Nat)(hi:L[i]?=some (b,.cells old t)):Cxr w0 (w.setRow b new) (L.set i (b,.cells new t)) R:=by
 have hb:=cx.at i hi
 refine cx.turn i hi rfl rfl rfl (by simp) (setRow_heap w b old new t _ hb) fun k _ hne=>setRow_other w b k new hne
theorem s_storeAll {t T:TypeId}{x y:Operand}{b:Nat}{l cs:List Value}(cx:Cxr w0 w L R)(i:Nat)(hg:o.guard=none)(hd:o.dst=none)(ho:o.op=.store t x y)(hx:ev n f x=.pointer (some ⟨b,0,none⟩))(hy:ev n f y=.agg l.toArray)
  (hi:L[i]?=some (b,.cells cs.toArray T)) (hs:(P.info? t).map (·.size)=some l.length) (hlen:cs.length=l.length) (h1:l.all (·.oneCell')=true)
  (h:∀ w',Cxr w0 w' (L.set i (b,.cells l.toArray T)) R→w'.heap.size=w.heap.size→wpList P ops Q rest (St n f) w'):wpList P ops Q (o::rest) (St n f) w:=by
 have hb:=cx.at i hi
 refine s_put (w':=w.setRow b l.toArray) hg hd ?_ (h _ (setRow_ctx cx i hi) (by simp))
 have:=run_storeVar_row (P:=P) w b T t cs.toArray l.toArray hb p21q (by simpa using hlen) (by simpa using h1)
 unfold execOp;rw [ho]
 simp [hx,hy,Instr.storeAt,Instr.sureAddr,this]
theorem s_store1 {t T:TypeId}{x y:Operand}{b j:Nat}{cs:List Value}{v:Value}(cx:Cxr w0 w L R)(i:Nat)(hg:o.guard=none)(hd:o.dst=none)(ho:o.op=.store t x y)(hx:ev n f x=.pointer (some ⟨b,j,none⟩))(hy:ev n f y=v)(h1:v.oneCell'=true)
  (hi:L[i]?=some (b,.cells cs.toArray T)) (hj:Nat.blt j cs.length=true) (hs:(P.info? t).map (·.size)=some 1)
  (h:∀ w',Cxr w0 w' (L.set i (b,.cells (cs.set j v).toArray T)) R→w'.heap.size=w.heap.size→wpList P ops Q rest (St n f) w'):wpList P ops Q (o::rest) (St n f) w:=by
 have hb:=cx.at i hi
 have hj':j<cs.length:=by simpa [blt_iff] using hj
 have hc:v.cells=#[v]:=by cases v <;> first | rfl | simp [Value.oneCell'] at h1
 have hcell:w.cell? ⟨b,j,none⟩=some cs[j]:=by rw [cell_of_row w b j _ T _ hb];simp [hj']
 have hfr:w.frozen? ⟨b,j,none⟩=false:=frozen_of_row w b j _ T hb
 refine s_put (w':=w.setCell ⟨b,j,none⟩ v) hg hd ?_ (h _ ?_ (by simp))
 · unfold execOp;rw [ho]
   exact Bz133
 · refine cx.turn i hi rfl rfl rfl (by simp) ?_ fun k _ hne=>Below.heap_setCell w _ v k hne
   rw [heap_setCell_same w b j _ T v hb]
   simp
theorem s_call {d k : Nat} {az : Array Operand} {ats : Array TypeId} {fn : Func} {args : List Value} {R : Value → World → Prop} (hc : Ret P k args w R) (hf : P.funcs[k]? = some fn) (hb : fn.body.isNone = false) (hn : (fn.name == "runtime.NumGoroutine") = false)
  (hg:o.guard=none) (hd:o.dst=some d) (ho:o.op=.call { callee:=.value (.func k),args:=az,argTypes:=ats }) (hargs:az.toList.map (ev n f)=args)
  (h:∀ v w',R v w'→wpList P ops Q rest (St n (upd f d v)) w'):wpList P ops Q (o::rest) (St n f) w:=by
 refine wpList_plain hg fun K hK=>?_
 have hrun:(execOp (ev n f) o).run P w=.ok (.enter k args.toArray) w:=by
  exact Bz61
 exact Bz104
end
theorem least_of {p:Nat→Prop}(h:∃ k,p k):∃ k,p k∧∀ j,p j→k≤j:=by
 classical
 obtain ⟨k,hk⟩:=h
 induction k using Nat.strongRecOn with
 | _ k ih =>
  by_cases hj:∃ j,j<k∧p j
  · obtain ⟨j,hlt,hp⟩:=hj
    exact ih j hlt hp
  · exact ⟨k,hk,fun j hp=>Nat.le_of_not_lt fun hlt=>hj ⟨j,hlt,hp⟩⟩
theorem w_loop {P:Program}{c:Code}{Q:Exit→Act→World→Prop}{n:Nat}{f:Nat→Value}{w:World}(J:Nat→(Nat→Value)→World→Prop)(k0:Nat)(h0:J k0 f w)
  (round:∀ k f w,J k f w→c.wp P (Exit.then (fun a' w'=>∃ k' f',k'<k∧a'=St n f'∧J k' f' w') Q) (St n f) w):(Code.loop c).wp P Q (St n f) w:=by
 classical
 let ok:Act→World→Nat→Prop:=fun a w k=>∃ f',a=St n f'∧J k f' w
 let least:Act→World→Nat:=fun a w=>if h:∃ k,ok a w k then Classical.choose (least_of h) else 0
 refine wp_loop (fun a w=>∃ k,ok a w k) least ⟨k0,f,rfl,h0⟩ ?_
 intro a w hI
 have hl:=Classical.choose_spec (least_of hI)
 have hle:least a w=Classical.choose (least_of hI):=dif_pos hI
 obtain ⟨f1,ha,hJ⟩:=hl.1
 subst ha
 refine wp_mono (round _ f1 w hJ) ?_
 intro e a' w' hq
 cases e with
 | normal =>
  obtain ⟨k',f',hlt,ha',hJ'⟩:=hq
  have hI':∃ k,ok a' w' k:=⟨k',f',ha',hJ'⟩
  refine ⟨hI',?_⟩
  rw [hle]
  have hl':=Classical.choose_spec (least_of hI')
  have hle':least a' w'=Classical.choose (least_of hI'):=dif_pos hI'
  rw [hle']
  exact Nat.lt_of_le_of_lt (hl'.2 k' ⟨f',ha',hJ'⟩) hlt
 | _=>exact hq
end Go.Dk
end
section
namespace Go.Dk
open Go Go.RowKit
def Fc (P:Program)(k:FuncId)(args:List Value)(w:World)(R:Value→World→Prop):Prop :=
 Ret P k args w fun v w'=>Below w.heap.size w w'∧R v w'
theorem Fc.mono {P:Program}{k:FuncId}{args:List Value}{w:World}{R R':Value→World→Prop}(h:Fc P k args w R)(hr:∀ v w',Below w.heap.size w w'→R v w'→R' v w'):Fc P k args w R' :=
 Ret.mono h fun v w' ⟨a,b⟩=>⟨a,hr v w' a b⟩
section
variable {P:Program} {ops:Array Oper} {Q:Exit→Act→World→Prop} {rest:List Oper} {o:Oper} {n:Nat} {f:Nat→Value} {w w0:World} {L:List (Nat×Obj)} {R:List Row} {ρ:Operand→Value}
theorem run_callOp {k : Nat} {az : Array Operand} {ats : Array TypeId} {fn : Func} {args : List Value} (hf : P.funcs[k]? = some fn) (hb : fn.body.isNone = false) (hn : (fn.name == "runtime.NumGoroutine") = false)
  (ho:o.op=.call { callee:=.value (.func k),args:=az,argTypes:=ats }) (hargs:az.toList.map (ev n f)=args):(execOp (ev n f) o).run P w=.ok (.enter k args.toArray) w:=by
 exact Bz61
theorem s_fn {d k : Nat} {az : Array Operand} {ats : Array TypeId} {fn : Func} {args : List Value} {T : Value → World → Prop} (cx : Cxr w0 w L R) (hc : Fc P k args w T) (hf : P.funcs[k]? = some fn) (hb : fn.body.isNone = false) (hn : (fn.name == "runtime.NumGoroutine") = false)
  (hg:o.guard=none) (hd:o.dst=some d) (ho:o.op=.call { callee:=.value (.func k),args:=az,argTypes:=ats }) (hargs:az.toList.map (ev n f)=args)
  (h:∀ v w',Cxr w0 w' L R→Below w.heap.size w w'→T v w'→wpList P ops Q rest (St n (upd f d v)) w'):wpList P ops Q (o::rest) (St n f) w :=
 s_call hc hf hb hn hg hd ho hargs fun v w' ⟨hw,hr⟩=>h v w' (cx.call hw) hw hr
theorem s_gfn {d j dj k:Nat}{pol c:Bool}{az:Array Operand}{ats:Array TypeId}{fn:Func}{args:List Value}{T:Value→World→Prop}(cx:Cxr w0 w L R)(hg:o.guard=some (j,pol))(hd:o.dst=some d)(hj:(ops[j]?).bind (·.dst)=some dj)(hw:WantB (ev n f (.tmp dj)) pol c)
  (hc : c = true → Fc P k args w T) (hf : P.funcs[k]? = some fn) (hb : fn.body.isNone = false) (hn : (fn.name == "runtime.NumGoroutine") = false)
  (ho:o.op=.call { callee:=.value (.func k),args:=az,argTypes:=ats }) (hargs:c=true→az.toList.map (ev n f)=args)
  (h:∀ v w',Cxr w0 w' L R→Below w.heap.size w w'→(c=true→T v w')→wpList P ops Q rest (St n (upd f d (gv c v))) w'):wpList P ops Q (o::rest) (St n f) w:=by
 have hwant:=wanted_St (o:=o) (ops:=ops) hg hj hw
 refine wpList_step fun K hK=>?_
 rw [hwant]
 cases c with
 | true =>
  simp only [if_true]
  unfold Oper.wp
  rw [eval_St,run_callOp hf hb hn ho (hargs rfl)]
  exact Bz92
 | false =>
  exact Bz111
def IsB (p:Bool→Prop)(v:Value)(_:World):Prop:=∃ b,v=.bool b∧p b
def IsI (p:Int→Prop)(v:Value)(_:World):Prop:=∃ m,v=.int .i64 m∧p m
theorem s_fnB {d k : Nat} {az : Array Operand} {ats : Array TypeId} {fn : Func} {args : List Value} {p : Bool → Prop} (cx : Cxr w0 w L R) (hc : Fc P k args w (IsB p)) (hf : P.funcs[k]? = some fn) (hb : fn.body.isNone = false) (hn : (fn.name == "runtime.NumGoroutine") = false)
  (hg:o.guard=none) (hd:o.dst=some d) (ho:o.op=.call { callee:=.value (.func k),args:=az,argTypes:=ats }) (hargs:az.toList.map (ev n f)=args)
  (h:∀ b w',Cxr w0 w' L R→Below w.heap.size w w'→p b→wpList P ops Q rest (St n (upd f d (.bool b))) w'):wpList P ops Q (o::rest) (St n f) w :=
 s_fn cx hc hf hb hn hg hd ho hargs fun v w' hcx hw ⟨b,hv,hp⟩=>by subst hv;exact h b w' hcx hw hp
theorem s_fnI {d k : Nat} {az : Array Operand} {ats : Array TypeId} {fn : Func} {args : List Value} {p : Int → Prop} (cx : Cxr w0 w L R) (hc : Fc P k args w (IsI p)) (hf : P.funcs[k]? = some fn) (hb : fn.body.isNone = false) (hn : (fn.name == "runtime.NumGoroutine") = false)
  (hg:o.guard=none) (hd:o.dst=some d) (ho:o.op=.call { callee:=.value (.func k),args:=az,argTypes:=ats }) (hargs:az.toList.map (ev n f)=args)
  (h:∀ m w',Cxr w0 w' L R→Below w.heap.size w w'→p m→wpList P ops Q rest (St n (upd f d (.int .i64 m))) w'):wpList P ops Q (o::rest) (St n f) w :=
 s_fn cx hc hf hb hn hg hd ho hargs fun v w' hcx hw ⟨b,hv,hp⟩=>by subst hv;exact h b w' hcx hw hp
theorem s_gfnB {d j dj k:Nat}{pol c:Bool}{az:Array Operand}{ats:Array TypeId}{fn:Func}{args:List Value}{p:Bool→Prop}(cx:Cxr w0 w L R)(hg:o.guard=some (j,pol))(hd:o.dst=some d)(hj:(ops[j]?).bind (·.dst)=some dj)(hw:WantB (ev n f (.tmp dj)) pol c)
  (hc : c = true → Fc P k args w (IsB p)) (hf : P.funcs[k]? = some fn) (hb : fn.body.isNone = false) (hn : (fn.name == "runtime.NumGoroutine") = false)
  (ho:o.op=.call { callee:=.value (.func k),args:=az,argTypes:=ats }) (hargs:c=true→az.toList.map (ev n f)=args)
  (h:∀ b w',Cxr w0 w' L R→Below w.heap.size w w'→(c=true→p b)→wpList P ops Q rest (St n (upd f d (gv c (.bool b)))) w'):wpList P ops Q (o::rest) (St n f) w:=by
 refine s_gfn cx hg hd hj hw hc hf hb hn ho hargs fun v w' hcx hbel hr=>?_
 cases c with
 | true =>
  obtain ⟨b,rfl,hp⟩:=hr rfl
  exact h b w' hcx hbel fun _=>hp
 | false =>
  have h:=h false w' hcx hbel fun e=>by cases e
  unfold gv at h ⊢
  exact h
theorem s_gfnI {d j dj k:Nat}{pol c:Bool}{az:Array Operand}{ats:Array TypeId}{fn:Func}{args:List Value}{p:Int→Prop}(cx:Cxr w0 w L R)(hg:o.guard=some (j,pol))(hd:o.dst=some d)(hj:(ops[j]?).bind (·.dst)=some dj)(hw:WantB (ev n f (.tmp dj)) pol c)
  (hc : c = true → Fc P k args w (IsI p)) (hf : P.funcs[k]? = some fn) (hb : fn.body.isNone = false) (hn : (fn.name == "runtime.NumGoroutine") = false)
  (ho:o.op=.call { callee:=.value (.func k),args:=az,argTypes:=ats }) (hargs:c=true→az.toList.map (ev n f)=args)
  (h:∀ m w',Cxr w0 w' L R→Below w.heap.size w w'→(c=true→p m)→wpList P ops Q rest (St n (upd f d (gv c (.int .i64 m)))) w'):wpList P ops Q (o::rest) (St n f) w:=by
 refine s_gfn cx hg hd hj hw hc hf hb hn ho hargs fun v w' hcx hbel hr=>?_
 cases c with
 | true =>
  obtain ⟨b,rfl,hp⟩:=hr rfl
  exact h b w' hcx hbel fun _=>hp
 | false =>
  have h:=h 0 w' hcx hbel fun e=>by cases e
  unfold gv at h ⊢
  exact h
theorem v_conv {s t:TypeId}{x:Operand}{k k':IntKind}{m:Int}{d:TypeDesc}(ho:o.op=.convert s t x)(hx:ρ x=.int k' m)(hs:P.underlying s=some d)(ht:P.underlying t=some (.int k)) :
  (execOp ρ o).run P w=.ok (.value (.int k (k.wrap m))) w:=by
 unfold execOp;rw [ho]
 simp [hx,convert,run_underlying hs,run_underlying ht,Conv.intToInt]
theorem wrap_u8 {m:Int}(h0:0≤m)(h1:m<256):IntKind.i64.wrap m=m:=IntWalk.i64_in _ (by omega)
theorem v_ofByte {s t:TypeId}{x:Operand}{m:Int}{d:TypeDesc}(ho:o.op=.convert s t x)(hx:ρ x=.int .u8 m)(hs:P.underlying s=some d)(ht:P.underlying t=some (.int .i64))(h0:0≤m)(h1:m<256) :
  (execOp ρ o).run P w=.ok (.value (.int .i64 m)) w:=by
 have:=v_conv (w:=w) ho hx hs ht
 rwa [wrap_u8 h0 h1] at this
def bitOp (op:BinOp)(k:IntKind)(x y:Int):Int :=
 match op with
 | .and=>k.wrap (BitVec.ofInt k.bits x &&& BitVec.ofInt k.bits y).toNat
 | .or=>k.wrap (BitVec.ofInt k.bits x ||| BitVec.ofInt k.bits y).toNat
 | _=>0
theorem v_band {t t':TypeId}{x y:Operand}{k:IntKind}{p q:Int}(ho:o.op=.binOp .and t x y t')(hx:ρ x=.int k p)(hy:ρ y=.int k q):(execOp ρ o).run P w=.ok (.value (.int k (bitOp .and k p q))) w:=by
 unfold execOp;rw [ho]
 simp [hx,hy,eqGuard,binOp,Op.intBits,bitOp]
theorem v_bor {t t':TypeId}{x y:Operand}{k:IntKind}{p q:Int}(ho:o.op=.binOp .or t x y t')(hx:ρ x=.int k p)(hy:ρ y=.int k q):(execOp ρ o).run P w=.ok (.value (.int k (bitOp .or k p q))) w:=by
 unfold execOp;rw [ho]
 simp [hx,hy,eqGuard,binOp,Op.intBits,bitOp]
def shl (k:IntKind)(x:Int)(y:Nat):Int:=k.wrap (x*2^min y k.bits)
def shr (k:IntKind)(x:Int)(y:Nat):Int:=x.fdiv (2^min y k.bits)
theorem v_shl {t t':TypeId}{x y:Operand}{k k':IntKind}{p q:Int}(ho:o.op=.binOp .shl t x y t')(hx:ρ x=.int k p)(hy:ρ y=.int k' q)(h0:0≤q):(execOp ρ o).run P w=.ok (.value (.int k (shl k p q.toNat))) w:=by
 unfold execOp;rw [ho]
 have:¬ q<0:=by omega
 simp [hx,hy,eqGuard,binOp,Op.shift,shl,this]
theorem v_shr {t t':TypeId}{x y:Operand}{k k':IntKind}{p q:Int}(ho:o.op=.binOp .shr t x y t')(hx:ρ x=.int k p)(hy:ρ y=.int k' q)(h0:0≤q):(execOp ρ o).run P w=.ok (.value (.int k (shr k p q.toNat))) w:=by
 unfold execOp;rw [ho]
 have:¬ q<0:=by omega
 simp [hx,hy,eqGuard,binOp,Op.shift,shr,this]
def byteAt (s:ByteArray)(m:Int):Int:=((s.data.toList.getD m.toNat 0).toNat:Int)
theorem byteAt_lo (s:ByteArray)(m:Int):0≤byteAt s m:=by unfold byteAt;omega
theorem byteAt_hi (s:ByteArray)(m:Int):byteAt s m<256:=by
 unfold byteAt;have:=(s.data.toList.getD m.toNat 0).toNat_lt;omega
theorem v_idxStr {t:TypeId}{x y:Operand}{s:ByteArray}{k:IntKind}{m:Int}(ho:o.op=.index t x y)(hx:ρ x=.string s)(hy:ρ y=.int k m)(hu:P.underlying t=some .string)(h0:0≤m)(h1:m<s.size) :
  (execOp ρ o).run P w=.ok (.value (.int .u8 (byteAt s m))) w:=by
 unfold execOp;rw [ho]
 have hlt:m.toNat<s.size:=by omega
 have e:s[m.toNat]?=some s[m.toNat]:=ByteArray.getElem?_lt' s _ hlt
 have hlt':m.toNat<s.data.size:=hlt
 have e2:(s.data.toList.getD m.toNat 0)=s[m.toNat]:=by
  rw [List.getD,List.getElem?_eq_getElem (by simpa using hlt')];rfl
 unfold byteAt
 rw [e2]
 simp [hx,hy,Instr.index,asIntOf,run_underlying hu,h0,e]
theorem v_subStr {t:TypeId}{x y z:Operand}{s:ByteArray}{k k':IntKind}{m l:Int}(ho:o.op=.slice t x (some y) (some z) none)(hx:ρ x=.string s)(hy:ρ y=.int k m)(hz:ρ z=.int k' l)(hu:P.underlying t=some .string)(h0:0≤m)(h1:m≤l)(h2:l≤s.size) :
  (execOp ρ o).run P w=.ok (.value (.string (s.extract m.toNat l.toNat))) w:=by
 unfold execOp;rw [ho]
 have h3:0≤l:=by omega
 simp [hx,hy,hz,Instr.sliceAt,Instr.slice,Instr.sliceBounds,Instr.sliceBound,asIntOf,run_underlying hu,h0,h2,h3]
 intro h4
 omega
def EI (P:Program)(e size bytes:Nat):Prop:=∃ i z,P.info? e=some i∧i.zero=some z∧i.size=size∧i.bytes=bytes∧z.cells.size=size∧0<size∧0<bytes
theorem ei_of {e size bytes:Nat}{z:Value}(h:(P.info? e).map (fun i=>(i.zero,i.size,i.bytes))=some (some z,size,bytes))(hz:z.cells.size=size)(h0:Nat.blt 0 size=true)(h1:Nat.blt 0 bytes=true):EI P e size bytes:=by
 obtain ⟨i,hi,hzz⟩:=Option.map_eq_some_iff.1 h
 simp only [Prod.mk.injEq] at hzz
 rw [blt_iff] at h0 h1
 exact ⟨i,z,hi,hzz.1,hzz.2.1,hzz.2.2,hz,by simpa using h0,by simpa using h1⟩
theorem run_append_new {t ty e size bytes:Nat}{v:Value}{k m c base:Nat}{ad:Addr}{xs news:List Value}(ei:EI P e size bytes)(ht:P.underlying t=some (.slice e))(hown:w.ownsRow base e size v k xs)
  (hl:news.length=m*size) (hnews:∀ j u,news[j]?=some u→w.cell? (ad.add j)=some u) (h1:∀ u∈news,u.oneCell'=true) (hb:(k+m)*bytes≤140737488355328) (hbase:base≤w.heap.size) :
  ∃ v' w',(Builtin.append_ #[t,t] ty #[v,.slice (some ad) m c]).run P w=.ok v' w'∧w'.ownsRow base e size v' (k+m) (xs++news)∧w.grownBy w' v.ownBlock ∧
   (∀ q,v'.ownBlock=some q→v.ownBlock=some q∨w.heap.size≤q):=by
 obtain ⟨i,z,hi,hz,hsz,hby,hzs,hp,hpb⟩:=ei
 have hle:k+m≤(k+m)*bytes:=Nat.le_mul_of_pos_right _ hpb
 obtain ⟨v',w',hrun,hrow,hgr,hnil⟩:=run_append_own (P:=P) w base t ty e i z size bytes ht hi hz hsz hby hzs hp v k xs hown ad m c news hl hnews h1 p2bq hb hbase
 refine ⟨v',w',hrun,hrow,hgr,?_⟩
 intro q hq
 subst hsz
 subst hby
 rcases hown.2 with ⟨rfl,rfl⟩ | ⟨g,cap,cur,rfl,hbg,hg,hnc,hcm,hcs,htake⟩
 · by_cases hm:m=0
   · rw [hnil.2 ⟨rfl,hm⟩] at hq
     simp [Value.ownBlock] at hq
   · have hr:=run_append_nil (P:=P) w t ty e i z ht hi hz ad m c news hl hnews (by omega) (by omega) (by simp only [Nat.zero_add] at hb;omega)
     exact Bz67
 · by_cases hroom:k+m≤cap
   · have hfit:k*i.size+news.length≤cur.size:=by rw [hl,hcs,← Nat.add_mul];exact Nat.mul_le_mul_right _ hroom
     have hr:=run_append_room (P:=P) w t ty e i ht hi g k cap cur hg ad m c news hl hnews h1 hroom hfit
     rw [hr] at hrun
     cases hrun
     exact .inl hq
   · have holds:∀ j u,xs[j]?=some u→w.cell? ((⟨g,0,none⟩:Addr).add j)=some u:=hown.cells (g:=g) rfl
     have hr:=run_append_grow (P:=P) w t ty e i z ht hi hz ⟨g,0,none⟩ k cap xs hown.1 holds ad m c news hl hnews (by omega) (by omega) (growslice_fits (by omega) hb)
     exact Bz67
theorem s_append' {s x:Operand}{t e size bytes:Nat}{v:Value}{k m c d:Nat}{ad:Addr}{xs news:List Value}(cx:Cxr w0 w L (⟨e,size,v,k,xs⟩::R))(ei:EI P e size bytes)(ht:P.underlying t=some (.slice e))
  (hg:o.guard=none) (hd:o.dst=some d) (ho:o.op=.call { callee:=.builtin .append,args:=#[s,x],argTypes:=#[t,t]}) (hs:ev n f s=v) (hx:ev n f x=.slice (some ad) m c)
  (hr:∀ j u,news[j]?=some u→w.cell? (ad.add j)=some u) (hl:news.length=m*size) (h1:news.all (·.oneCell')=true) (hb:(k+m)*bytes≤140737488355328)
  (h:∀ v' w',Cxr w0 w' L (⟨e,size,v',k+m,xs++news⟩::R)→w.grownBy w' v.ownBlock→wpList P ops Q rest (St n (upd f d v')) w'):wpList P ops Q (o::rest) (St n f) w:=by
 have hrow0:=cx.rows _ (List.mem_cons_self ..)
 have hoff0:=cx.off _ (List.mem_cons_self ..)
 have hpw0:=(List.pairwise_cons.1 cx.pw).1
 simp only at hrow0 hoff0
 obtain ⟨v',w',hrun,hrow,hgr,hnew⟩:=run_append_new (P:=P) (ty:=o.type) (c:=c) (ad:=ad) ei ht hrow0 hl hr (by simpa using h1) hb cx.ext.size
 exact Bz21
theorem s_append {s x:Operand}{t e size bytes:Nat}{v:Value}{k m c b off d:Nat}{xs news:List Value}(cx:Cxr w0 w L (⟨e,size,v,k,xs⟩::R))(ei:EI P e size bytes)(ht:P.underlying t=some (.slice e))
  (hg:o.guard=none) (hd:o.dst=some d) (ho:o.op=.call { callee:=.builtin .append,args:=#[s,x],argTypes:=#[t,t]}) (hs:ev n f s=v) (hx:ev n f x=.slice (some ⟨b,off,none⟩) m c)
  (hr:RowAt w b off news) (hl:news.length=m*size) (h1:news.all (·.oneCell')=true) (hb:(k+m)*bytes≤140737488355328)
  (h:∀ v' w',Cxr w0 w' L (⟨e,size,v',k+m,xs++news⟩::R)→w.grownBy w' v.ownBlock→wpList P ops Q rest (St n (upd f d v')) w'):wpList P ops Q (o::rest) (St n f) w :=
 s_append' cx ei ht hg hd ho hs hx (fun j u hj=>by rw [add_addr];exact hr j u hj) hl h1 hb h
theorem s_append0 {s x:Operand}{t e size bytes:Nat}{v:Value}{k d:Nat}{xs:List Value}(cx:Cxr w0 w L (⟨e,size,v,k,xs⟩::R))(ei:EI P e size bytes)(ht:P.underlying t=some (.slice e))
  (hg:o.guard=none) (hd:o.dst=some d) (ho:o.op=.call { callee:=.builtin .append,args:=#[s,x],argTypes:=#[t,t]}) (hs:ev n f s=v) (hx:ev n f x=.slice none 0 0)
  (h:wpList P ops Q rest (St n (upd f d v)) w):wpList P ops Q (o::rest) (St n f) w:=by
 obtain ⟨i,z,hi,hz,hsz,hby,hzs,hp,hpb⟩:=ei
 have hrun:=run_append_owned_none (P:=P) w w0.heap.size t o.type e i size ht hi v k xs (cx.rows _ (List.mem_cons_self ..))
 refine s_val (v:=v) hg hd ?_ h
 unfold execOp;rw [ho]
 exact Bz189
theorem fold_set (c:List Value):∀ (i:Nat) (z:Array Value),z.size=i+c.length→((c.zipIdx i).foldl (fun cs (p:Value×Nat)=>cs.setIfInBounds p.2 p.1) z)=(z.toList.take i++c).toArray:=by
 induction c with
 | nil =>
  intro i z h
  simp at h
  apply Array.ext'
  simp only [← h,List.append_nil]
  rw [List.take_of_length_le (by simp)]
  simp
 | cons x c ih =>
  intro i z h
  simp only [List.zipIdx_cons,List.foldl_cons]
  rw [ih (i+1) _ (by simp at h ⊢;omega)]
  congr 1
  simp at h
  have hi:i<z.toList.length:=by simp;omega
  rw [Array.toList_setIfInBounds,List.set_eq_take_append_cons_drop,if_pos hi]
  have h1:(List.take i z.toList).length=i:=by simp;omega
  rw [List.take_append,h1,List.take_take,Nat.min_eq_right (by omega)]
  simp
theorem s_bsl1 {t e size d:Nat}{x:Operand}{v:Value}{cs zs:List Value}(cx:Cxr w0 w L R)(ht:P.underlying t=some (.slice e))(hs:(P.info? e).map (·.size)=some size)(hz:Zero P e zs)(hsm:Nat.ble size 1000=true)(hp:Nat.blt 0 size=true)
  (hg:o.guard=none) (hd:o.dst=some d) (ho:o.op=.buildSlice t 1 #[(0,x)]) (hx:ev n f x=v) (hv:v.cells=cs.toArray) (hl:cs.length=size)
  (h:∀ b w',Cxr w0 w' ((b,.cells cs.toArray e)::L) R→w.heap.size=b→Below w.heap.size w w'→wpList P ops Q rest (St n (upd f d (.slice (some ⟨b,0,none⟩) 1 1))) w'):wpList P ops Q (o::rest) (St n f) w:=by
 obtain ⟨z,hz1,hz2⟩:=hz
 have hp':0<size:=by simpa [blt_iff] using hp
 have hsm':size≤1000:=Nat.le_of_ble_eq_true hsm
 refine s_new (w':=w.alloc (.cells cs.toArray e)) (v:=.slice (some ⟨w.heap.size,0,none⟩) 1 1) hg hd ?_ (h _ _ (cx.alloc _) rfl ((Below.refl _ _).alloc (Nat.le_refl _) _))
 have hfill:Instr.fill (fun i=>some (i*size,size)) ((Array.range (1*size)).map (z.cells[·%z.cells.size]!)) [(0,v)]=some cs.toArray:=by
  have hsz:((Array.range (1*size)).map (z.cells[·%z.cells.size]!)).size=size:=by simp
  generalize (Array.range (1*size)).map (z.cells[·%z.cells.size]!)=zz at hsz
  have:=fold_set cs 0 zz (by omega)
  have hvs:v.cells.size=size:=by rw [hv];simpa using hl
  simp only [Instr.fill,Nat.zero_mul,Nat.zero_add,hvs,hsz]
  simp only [hv]
  simp at this ⊢
  exact this
 unfold execOp;rw [ho]
 have h0:¬ (size=0):=by omega
 have h1:¬ (16777216<size):=by omega
 simp only [Nat.one_mul] at hfill
 simp [Instr.buildSlice,hx,run_underlying ht,run_size (w:=w) hs,h0,h1,hz1 w,hfill,newRow]
theorem s_bsl0 {t e size d:Nat}(cx:Cxr w0 w L R)(ht:P.underlying t=some (.slice e))(hs:(P.info? e).map (·.size)=some size)(hg:o.guard=none)(hd:o.dst=some d)(ho:o.op=.buildSlice t 0 #[])
  (h:∀ b w',Cxr w0 w' ((b,.cells #[] e)::L) R→w.heap.size=b→Below w.heap.size w w'→wpList P ops Q rest (St n (upd f d (.slice (some ⟨b,0,none⟩) 0 0))) w'):wpList P ops Q (o::rest) (St n f) w:=by
 refine s_new (w':=w.alloc (.cells #[] e)) (v:=.slice (some ⟨w.heap.size,0,none⟩) 0 0) hg hd ?_ (h _ _ (cx.alloc _) rfl ((Below.refl _ _).alloc (Nat.le_refl _) _))
 unfold execOp;rw [ho]
 have e0:Array.map (fun _:Nat=>(default:Value)) (Array.range 0)=#[]:=by simp [Array.range]
 simp [Instr.buildSlice,run_underlying ht,run_size (w:=w) hs,Instr.fill,newRow,e0]
theorem s_bsl2 {t e d:Nat}{x y:Operand}{v u:Value}{z:Value}(cx:Cxr w0 w L R)(ht:P.underlying t=some (.slice e))(hs:(P.info? e).map (·.size)=some 1)(hz:Zero P e [z])
  (hg:o.guard=none) (hd:o.dst=some d) (ho:o.op=.buildSlice t 2 #[(0,x),(1,y)]) (hx:ev n f x=v) (hy:ev n f y=u) (hv:v.cells=#[v]) (hu:u.cells=#[u])
  (h:∀ b w',Cxr w0 w' ((b,.cells #[v,u] e)::L) R→w.heap.size=b→Below w.heap.size w w'→wpList P ops Q rest (St n (upd f d (.slice (some ⟨b,0,none⟩) 2 2))) w'):wpList P ops Q (o::rest) (St n f) w:=by
 obtain ⟨zv,hz1,hz2⟩:=hz
 refine s_new (w':=w.alloc (.cells #[v,u] e)) (v:=.slice (some ⟨w.heap.size,0,none⟩) 2 2) hg hd ?_ (h _ _ (cx.alloc _) rfl ((Below.refl _ _).alloc (Nat.le_refl _) _))
 unfold execOp;rw [ho]
 simp [Instr.buildSlice,hx,hy,run_underlying ht,run_size (w:=w) hs,hz1 w,hz2,Instr.fill,hv,hu,newRow,Array.range,Array.zipIdx]
 rfl
theorem s_bsl3 {t e d:Nat}{x y y':Operand}{v u u':Value}{z:Value}(cx:Cxr w0 w L R)(ht:P.underlying t=some (.slice e))(hs:(P.info? e).map (·.size)=some 1)(hz:Zero P e [z])
  (hg:o.guard=none) (hd:o.dst=some d) (ho:o.op=.buildSlice t 3 #[(0,x),(1,y),(2,y')]) (hx:ev n f x=v) (hy:ev n f y=u) (hy':ev n f y'=u') (hv:v.cells=#[v]) (hu:u.cells=#[u]) (hu':u'.cells=#[u'])
  (h:∀ b w',Cxr w0 w' ((b,.cells #[v,u,u'] e)::L) R→w.heap.size=b→Below w.heap.size w w'→wpList P ops Q rest (St n (upd f d (.slice (some ⟨b,0,none⟩) 3 3))) w'):wpList P ops Q (o::rest) (St n f) w:=by
 obtain ⟨zv,hz1,hz2⟩:=hz
 refine s_new (w':=w.alloc (.cells #[v,u,u'] e)) (v:=.slice (some ⟨w.heap.size,0,none⟩) 3 3) hg hd ?_ (h _ _ (cx.alloc _) rfl ((Below.refl _ _).alloc (Nat.le_refl _) _))
 unfold execOp;rw [ho]
 simp [Instr.buildSlice,hx,hy,hy',run_underlying ht,run_size (w:=w) hs,hz1 w,hz2,Instr.fill,hv,hu,hu',newRow,Array.range,Array.zipIdx]
 rfl
theorem s_bsl4 {t e d:Nat}{x y y' y'':Operand}{v u u' u'':Value}{z:Value}(cx:Cxr w0 w L R)(ht:P.underlying t=some (.slice e))(hs:(P.info? e).map (·.size)=some 1)(hz:Zero P e [z])
  (hg:o.guard=none) (hd:o.dst=some d) (ho:o.op=.buildSlice t 4 #[(0,x),(1,y),(2,y'),(3,y'')]) (hx:ev n f x=v) (hy:ev n f y=u) (hy':ev n f y'=u') (hy'':ev n f y''=u'') (hv:v.cells=#[v]) (hu:u.cells=#[u]) (hu':u'.cells=#[u']) (hu'':u''.cells=#[u''])
  (h:∀ b w',Cxr w0 w' ((b,.cells #[v,u,u',u''] e)::L) R→w.heap.size=b→Below w.heap.size w w'→wpList P ops Q rest (St n (upd f d (.slice (some ⟨b,0,none⟩) 4 4))) w'):wpList P ops Q (o::rest) (St n f) w:=by
 obtain ⟨zv,hz1,hz2⟩:=hz
 refine s_new (w':=w.alloc (.cells #[v,u,u',u''] e)) (v:=.slice (some ⟨w.heap.size,0,none⟩) 4 4) hg hd ?_ (h _ _ (cx.alloc _) rfl ((Below.refl _ _).alloc (Nat.le_refl _) _))
 unfold execOp;rw [ho]
 simp [Instr.buildSlice,hx,hy,hy',hy'',run_underlying ht,run_size (w:=w) hs,hz1 w,hz2,Instr.fill,hv,hu,hu',hu'',newRow,Array.range,Array.zipIdx]
 rfl
def strOf (ns:List Int):ByteArray:=ns.foldl (fun r n=>r.push (UInt8.ofNat n.toNat)) ByteArray.empty
theorem v_b2s {s t e:TypeId}{x:Operand}{b off c:Nat}{ns:List Int}(ho:o.op=.convert s t x)(hs:P.underlying s=some (.slice e))(he:P.underlying e=some (.int .u8))(ht:P.underlying t=some .string)
  (hr:RowAt w b off (ns.map (Value.int .u8))) {m:Nat} (hm:ns.length=m) (hx:ρ x=.slice (some ⟨b,off,none⟩) m c):(execOp ρ o).run P w=.ok (.value (.string (strOf ns))) w:=by
 unfold execOp;rw [ho]
 subst hm
 have hl:=run_loadCells_list (P:=P) w ⟨b,off,none⟩ (ns.map (Value.int .u8)) (fun j v hv=>by rw [add_addr];exact hr j v hv)
 simp only [List.length_map] at hl
 have:=run_bytesToString (P:=P) w ⟨b,off,none⟩ ns.length c ns hl
 simp [hx,run_convert_bytes_string w s t e _ _ _ hs he ht,this,strOf]
end
theorem w_cut {P:Program}{x y:Code}{Q:Exit→Act→World→Prop}{n:Nat}{f:Nat→Value}{w:World}(J:(Nat→Value)→World→Prop)
  (h1:x.wp P (Exit.then (fun a w=>∃ f,a=St n f∧J f w) Q) (St n f) w) (h2:∀ f w,J f w→y.wp P Q (St n f) w):(Code.seq x y).wp P Q (St n f) w:=by
 refine wp_seq (wp_mono h1 ?_)
 intro e a w hq
 cases e with
 | normal =>
  obtain ⟨f',rfl,hJ⟩:=hq
  exact h2 f' w hJ
 | _=>exact hq
theorem c_split {P:Program}{x y:Code}{Q:Exit→Act→World→Prop}{n:Nat}{f:Nat→Value}{w:World}{t:Nat}{b:Bool}(hc:ev n f (.tmp t)=.bool b)(ht:b=true→x.wp P Q (St n f) w)(hf:b=false→y.wp P Q (St n f) w) :
  (Code.cond (.tmp t) x y).wp P Q (St n f) w:=wp_cond_split (by rw [eval_St];exact hc) ht hf
theorem cSp {P:Program}{x y:Code}{Q:Exit→Act→World→Prop}{n:Nat}{f:Nat→Value}{w:World}{t:Nat}{b:Bool}{p1 p2:Prop}(hc:ev n f (.tmp t)=.bool b)(ht:p1→x.wp P Q (St n f) w)(hf:p2→y.wp P Q (St n f) w)(e1:(b=true)=p1:=by (try simp only [bsl]);exact rfl)(e2:(b=false)=p2:=by (try simp only [bsl]);exact rfl):(Code.cond (.tmp t) x y).wp P Q (St n f) w:=c_split hc (fun h=>ht (e1▸h)) (fun h=>hf (e2▸h))
theorem cons_eq {a b:Value}{l l':List Value}(h:a=b)(t:l=l'):a::l=b::l':=by rw [h,t]
end Go.Dk
end
section
namespace Go.Dk
open Go Go.RowKit Go.Lib
def bs (l:List UInt8):ByteArray:=⟨l.toArray⟩
theorem bs_append (a b:List UInt8):bs a++bs b=bs (a++b):=by
 apply ByteArray.ext
 rw [ByteArray.data_append]
 apply Array.ext'
 simp [bs]
theorem bs_size (l:List UInt8):(bs l).size=l.length:=by simp [bs,ByteArray.size]
theorem bs_of (s:ByteArray):bs s.data.toList=s:=by cases s;rfl
def bv (x:UInt8):Value:=.int .u8 x.toNat
theorem cells_bs (l:List UInt8):strCells (bs l)=l.map bv:=rfl
theorem u8t {n:Nat}(h:n<256):(UInt8.ofNat n).toNat=n:=by rw [UInt8.toNat_ofNat'];omega
def EI8 (P:Program)(e:Nat):Prop:=∃ i,P.info? e=some i∧i.zero=some (.int .u8 0)∧i.size=1∧i.bytes=1
theorem ei8_of {P:Program}{e:Nat}(h:(P.info? e).map (fun i=>(i.zero,i.size,i.bytes))=some (some (.int .u8 0),1,1)):EI8 P e:=by
 obtain ⟨i,hi,hzz⟩:=Option.map_eq_some_iff.1 h
 simp only [Prod.mk.injEq] at hzz
 exact ⟨i,hi,hzz.1,hzz.2.1,hzz.2.2⟩
section
variable {P:Program} {ops:Array Oper} {Q:Exit→Act→World→Prop} {rest:List Oper} {o:Oper} {n:Nat} {f:Nat→Value} {w w0:World} {L:List (Nat×Obj)} {R:List Row} {ρ:Operand→Value}
theorem run_append_newS {t u ty e:Nat}{v:Value}{k base:Nat}{xs:List Value}{s:ByteArray}(ei:EI8 P e)(ht:P.underlying t=some (.slice e))(hu:P.underlying u=some .string)(hown:w.ownsRow base e 1 v k xs)(hb:k+s.size≤140737488355328)(hbase:base≤w.heap.size) :
  ∃ v' w',(Builtin.append_ #[t,u] ty #[v,.string s]).run P w=.ok v' w'∧w'.ownsRow base e 1 v' (k+s.size) (xs++strCells s)∧w.grownBy w' v.ownBlock∧(∀ q,v'.ownBlock=some q→v.ownBlock=some q∨w.heap.size≤q):=by
 obtain ⟨i,hi,hz,hsz,hby⟩:=ei
 obtain ⟨v',w',hrun,hrow,hgr,hnil⟩:=run_append_own_string (P:=P) w base t u ty e i ht hu hi hz hsz hby v k xs hown s p2bq hb hbase
 refine ⟨v',w',hrun,hrow,hgr,?_⟩
 intro q hq
 rcases hown.2 with ⟨rfl,rfl⟩ | ⟨g,cap,cur,rfl,hbg,hg,hnc,hcm,hcs,htake⟩
 · by_cases hm:s.size=0
   · rw [hnil.2 ⟨rfl,hm⟩] at hq
     simp [Value.ownBlock] at hq
   · have hr:=run_append_nil_string (P:=P) w t u ty e i (.int .u8 0) ht hu hi hz s (by omega) (by omega) (by rw [hby];omega)
     exact Bz67
 · by_cases hroom:k+s.size≤cap
   · have hr:=run_append_room_string (P:=P) w t u ty e i ht hu hi hsz g k cap cur hg s hroom (by omega)
     rw [hr] at hrun
     cases hrun
     exact .inl hq
   · have holds:∀ j u,xs[j]?=some u→w.cell? ((⟨g,0,none⟩:Addr).add j)=some u:=hown.cells (g:=g) rfl
     have hr:=run_append_grow_string (P:=P) w t u ty e i (.int .u8 0) ht hu hi hz ⟨g,0,none⟩ k cap xs (by rw [hsz];exact hown.1) holds s (by omega) (by omega) (by rw [hby];exact growslice_fits (by omega) (by omega))
     exact Bz67
theorem s_appendS {x y:Operand}{t u e:Nat}{v:Value}{k d:Nat}{xs:List Value}{s:ByteArray}(cx:Cxr w0 w L (⟨e,1,v,k,xs⟩::R))(ei:EI8 P e)(ht:P.underlying t=some (.slice e))(hu:P.underlying u=some .string)
  (hg:o.guard=none) (hd:o.dst=some d) (ho:o.op=.call { callee:=.builtin .append,args:=#[x,y],argTypes:=#[t,u]}) (hs:ev n f x=v) (hx:ev n f y=.string s) (hb:k+s.size≤140737488355328)
  (h:∀ v' w',Cxr w0 w' L (⟨e,1,v',k+s.size,xs++strCells s⟩::R)→w.grownBy w' v.ownBlock→wpList P ops Q rest (St n (upd f d v')) w'):wpList P ops Q (o::rest) (St n f) w:=by
 have hrow0:=cx.rows _ (List.mem_cons_self ..)
 have hoff0:=cx.off _ (List.mem_cons_self ..)
 have hpw0:=(List.pairwise_cons.1 cx.pw).1
 simp only at hrow0 hoff0
 obtain ⟨v',w',hrun,hrow,hgr,hnew⟩:=run_append_newS (P:=P) (ty:=o.type) (s:=s) ei ht hu hrow0 hb cx.ext.size
 exact Bz21
theorem v_strAdd {t t':TypeId}{x y:Operand}{s u:ByteArray}(ho:o.op=.binOp .add t x y t')(hx:ρ x=.string s)(hy:ρ y=.string u)(h:s.size+u.size≤9223372036854775807):(execOp ρ o).run P w=.ok (.value (.string (s++u))) w:=by
 unfold execOp;rw [ho]
 have:¬ (9223372036854775807:Int)<(s.size:Int)+(u.size:Int):=by omega
 simp [hx,hy,eqGuard,binOp,Op.stringOp,this]
theorem v_strAddB {t t':TypeId}{x y:Operand}{a b:List UInt8}(ho:o.op=.binOp .add t x y t')(hx:ρ x=.string (bs a))(hy:ρ y=.string (bs b))(h:a.length+b.length≤9223372036854775807):(execOp ρ o).run P w=.ok (.value (.string (bs (a++b)))) w:=by
 rw [← bs_append]
 exact v_strAdd ho hx hy (by rw [bs_size,bs_size];exact h)
theorem s_appendB {x y:Operand}{t u e:Nat}{v:Value}{k d:Nat}{xs:List Value}{l:List UInt8}(cx:Cxr w0 w L (⟨e,1,v,k,xs⟩::R))(ei:EI8 P e)(ht:P.underlying t=some (.slice e))(hu:P.underlying u=some .string)
  (hg:o.guard=none) (hd:o.dst=some d) (ho:o.op=.call { callee:=.builtin .append,args:=#[x,y],argTypes:=#[t,u]}) (hs:ev n f x=v) (hx:ev n f y=.string (bs l)) (hb:k+l.length≤140737488355328)
  (h:∀ v' w',Cxr w0 w' L (⟨e,1,v',k+l.length,xs++l.map bv⟩::R)→w.grownBy w' v.ownBlock→wpList P ops Q rest (St n (upd f d v')) w'):wpList P ops Q (o::rest) (St n f) w :=
 s_appendS cx ei ht hu hg hd ho hs hx (by rw [bs_size];exact hb) fun v' w' cx' hgr=>h v' w' (by rw [bs_size] at cx';exact cx') hgr
theorem Cxr.row_eq {e sz n n':Nat}{v:Value}{xs xs':List Value}(h:Cxr w0 w L (⟨e,sz,v,n,xs⟩::R))(hn:n=n')(hx:xs=xs'):Cxr w0 w L (⟨e,sz,v,n',xs'⟩::R):=by subst hn hx;exact h
theorem v_quo {t t':TypeId}{x y:Operand}{p q:Nat}(ho:o.op=.binOp .quo t x y t')(hx:ρ x=.int .i64 p)(hy:ρ y=.int .i64 q)(hp:p≤9223372036854775807)(hq:q≠0):(execOp ρ o).run P w=.ok (.value (.int .i64 ((p / q:Nat):Int))) w:=by
 unfold execOp;rw [ho]
 have h1:((p:Int).tdiv q)=((p / q:Nat):Int):=by rw [← Int.ofNat_tdiv]
 have h2:p / q≤p:=Nat.div_le_self _ _
 have h3:IntKind.i64.wrap ((p:Int) / (q:Int))=(p:Int) / (q:Int):=by
  rw [← Int.natCast_ediv]
  generalize p / q=z at h2
  exact Ez4
 simp [hx,hy,eqGuard,binOp,Op.intDiv,hq,h1,h3]
theorem v_rem {t t':TypeId}{x y:Operand}{p q:Nat}(ho:o.op=.binOp .rem t x y t')(hx:ρ x=.int .i64 p)(hy:ρ y=.int .i64 q)(hq:q≠0):(execOp ρ o).run P w=.ok (.value (.int .i64 ((p%q:Nat):Int))) w:=by
 unfold execOp;rw [ho]
 have h1:((p:Int).tmod q)=((p%q:Nat):Int):=by rw [← Int.ofNat_tmod]
 simp [hx,hy,eqGuard,binOp,Op.intDiv,hq,h1]
theorem v_preSl {t e:TypeId}{x y:Operand}{a:Option Addr}{len cap:Nat}{k:IntKind}{m:Int}(ho:o.op=.slice t x none (some y) none)(hx:ρ x=.slice a len cap)(hy:ρ y=.int k m)(hu:P.underlying t=some (.slice e)){sz:Nat}(hs:(P.info? e).map (·.size)=some sz)(h0:0≤m)(h1:m≤cap) :
  (execOp ρ o).run P w=.ok (.value (.slice a m.toNat cap)) w:=by
 unfold execOp;rw [ho]
 have ha:Option.map (fun x:Addr=>x.add 0) a=a:=by
  cases a with
  | none=>rfl
  | some a=>simp [Addr.add]
 simp [hx,hy,Instr.sliceAt,Instr.slice,Instr.sliceBounds,Instr.sliceBound,asIntOf,run_underlying hu,h0,h1,run_size (w:=w) hs,ha]
theorem v_iaA {x ix:Operand}{t e:TypeId}{s b k len:Nat}{m:Int}{kd:IntKind}(hu:P.underlying t=some (.array len e))(hs:(P.info? e).map (·.size)=some s)(ho:o.op=.indexAddr t x ix)
  (hx:ρ x=.pointer (some ⟨b,k,none⟩)) (hi:ρ ix=.int kd m) (h0:0≤m) (h1:m<len) :
  (execOp ρ o).run P w=.ok (.value (.pointer (some ⟨b,k+m.toNat*s,none⟩))) w:=by
 unfold execOp
 rw [ho]
 simp [hx,hi,Instr.indexAt,Instr.sureAddr,run_underlying hu,asIntOf,h0,h1,run_size (w:=w) hs,add_addr]
end
theorem toList_inj (a b:ByteArray):a.toList=b.toList↔a=b:=by
 have:=bytes_eq a b
 by_cases h:a=b
 · simp [h]
 · simp only [h,decide_false,beq_eq_false_iff_ne] at this
   exact ⟨fun e=>absurd e this,fun e=>absurd e h⟩
section
variable {P:Program} {o:Oper} {w:World} {ρ:Operand→Value}
theorem v_agg {op:BinOp}{t t':TypeId}{x y:Operand}{xs ys:Array Value}{r:Bool}(hg:P.eqGuardType P.depth t=false)(h:∀ w,(binOp op t (.agg xs) (.agg ys)).run P w=.ok (.bool r) w)(ho:o.op=.binOp op t x y t')
  (hx:ρ x=.agg xs) (hy:ρ y=.agg ys):(execOp ρ o).run P w=.ok (.value (.bool r)) w:=by
 unfold execOp;rw [ho]
 simp [hx,hy,run_eqGuard_agg w op t x y xs ys hg,h w]
theorem v_build {t:TypeId}{ps:Array (Nat×Operand)}{qs:List (Nat×Value)}{v:Value}(h:∀ w,(Instr.build t qs.toArray).run P w=.ok v w)(ho:o.op=.build t ps)(hq:ps.toList.map (fun p=>(p.1,ρ p.2))=qs):(execOp ρ o).run P w=.ok (.value v) w:=by
 unfold execOp;rw [ho]
 have e:ps.map (fun p=>(p.1,ρ p.2))=qs.toArray:=by rw [← hq];apply Array.ext';simp
 simp [e,h w]
end
theorem RowAt.sub {w:World}{b o:Nat}{l:List Value}(k:Nat){l':List Value}(h:RowAt w b o l)(h':(l.drop k).take l'.length=l'):RowAt w b (o+k) l':=by
 intro j y hj
 rw [Nat.add_assoc]
 refine h _ _ ?_
 rw [← h'] at hj
 rw [List.getElem?_take] at hj
 split at hj
 · rwa [List.getElem?_drop] at hj
 · cases hj
theorem tup_sz {r:Int}{z m:Nat}{x y:Value}(h:z=m)(hx:x=.int .i64 r)(hy:y=.int .i64 m):Value.tuple #[x,y]=.tuple #[.int .i64 r,.int .i64 z]:=by subst h hx hy;rfl
theorem tup_s {a b:ByteArray}{m k:Int}{x y:Value}(h:a=b)(h2:m=k)(hx:x=.string a)(hy:y=.int .i64 m):Value.tuple #[x,y]=.tuple #[.string b,.int .i64 k]:=by subst h h2 hx hy;rfl
theorem tup_b {b c:Bool}{x y:Value}(h:b=c)(hy:y=.bool b):Value.tuple #[x,y]=.tuple #[x,.bool c]:=by subst h hy;rfl
theorem tup_i {r m k:Int}{x y:Value}(h:m=k)(hx:x=.int .i64 r)(hy:y=.int .i64 m):Value.tuple #[x,y]=.tuple #[.int .i64 r,.int .i64 k]:=by subst h hx hy;rfl
theorem Ctx.sub0 {w0 w:World}{L:List (Nat×Obj)}{R:List Row}(h:Cxr w0 w L R):Ctx w0 w []:=⟨h.ext,by simp,by simp,by simp,by simp,by simp,by simp⟩
end Go.Dk
end
section
namespace Go.Dk
open Go Go.RowKit Go.Lib
def SliceAt (A:Nat→Prop)(s:Value)(n b o:Nat):Prop:=(n=0∧s=.slice none 0 0)∨∃ ad cap,s=.slice (some ad) n cap∧n≤cap∧(0<n→ad=⟨b,o,none⟩∧A b)
theorem SliceAt.inA {A:Nat→Prop}{s:Value}{n b o:Nat}(h:SliceAt A s n b o)(hn:0<n):A b:=by
 rcases h with ⟨h0,_⟩ | ⟨_,_,_,_,h⟩
 · omega
 · exact (h hn).2
theorem SliceAt.mono {A A':Nat→Prop}{s:Value}{n b o:Nat}(h:SliceAt A s n b o)(hA:∀ b,A b→A' b):SliceAt A' s n b o:=by
 rcases h with h | ⟨ad,cap,h1,h2,h3⟩
 · exact .inl h
 · exact .inr ⟨ad,cap,h1,h2,fun hn=>⟨(h3 hn).1,hA _ (h3 hn).2⟩⟩
theorem SliceAt.form {A:Nat→Prop}{s:Value}{n b o:Nat}(h:SliceAt A s n b o):∃ a c,s=.slice a n c∧(0<n→a=some ⟨b,o,none⟩):=by
 rcases h with ⟨rfl,rfl⟩ | ⟨ad,cap,rfl,_,h⟩
 · exact ⟨none,0,rfl,fun h=>by omega⟩
 · exact ⟨some ad,cap,rfl,fun hn=>by rw [(h hn).1]⟩
theorem RowAt.up {w w':World}{b o:Nat}{l:List Value}(h:RowAt w b o l)(hb:Below w.heap.size w w'):RowAt w' b o l:=fun j x hj=>by
 have h1:=h j x hj
 have h2:=block_lt_of_cell h1
 have h3:=hb.block b (by simpa using h2)
 have h4:w'.cell? ⟨b,o+j,none⟩=w.cell? ⟨b,o+j,none⟩:=by simp [World.cell?,h3]
 rw [h4];exact h1
structure Stp where
 byIndex:Bool
 key:ByteArray
 index:Int
def srow (s:Stp):List Value:=[.bool s.byIndex,.string s.key,.int .i64 s.index]
def Pth (w:World)(s:Value)(l:List Stp):Prop:=∃ b o,SliceAt (fun b=>b<w.heap.size) s l.length b o∧∀ i x,l[i]?=some x→RowAt w b (o+i*3) (srow x)
theorem Pth.up {w w':World}(h:Below w.heap.size w w'){s:Value}{l:List Stp}(hp:Pth w s l):Pth w' s l:=by
 exact Bz142
theorem Pth.form {w:World}{s:Value}{l:List Stp}(h:Pth w s l):∃ a c b o,s=.slice a l.length c∧(0<l.length→a=some ⟨b,o,none⟩)∧∀ i x,l[i]?=some x→RowAt w b (o+i*3) (srow x):=by
 exact Bz100
theorem Pth.sl {w:World}{s:Value}{l:List Stp}(h:Pth w s l):∃ a c,s=.slice a l.length c∧l.length≤c:=by
 obtain ⟨b,o,hs,hr⟩:=h
 rcases hs with ⟨h0,h1⟩ | ⟨ad,cap,h1,h2,h3⟩
 · exact ⟨none,0,by rw [h1,h0],by omega⟩
 · exact ⟨some ad,cap,h1,h2⟩
structure Lss where
 kind:Int
 path:List Stp
def hexd (n:Nat):UInt8:=if n<10 then UInt8.ofNat (48+n) else UInt8.ofNat (87+n)
def hexs (n:Nat):List UInt8:=if n<16 then [hexd n] else [hexd (n / 16),hexd (n%16)]
def sgn (b:UInt8):List UInt8 :=
 if b=34∨b=92 then [92,b] else if b=10 then [92,110] else if b=9 then [92,116] else if b=13 then [92,114]
 else if b<32∨b=127 then [92,117,123]++hexs b.toNat++[125] else [b]
theorem sgn_len (b:UInt8):(sgn b).length≤6:=by
 unfold sgn hexs
 split
 · simp
 · split
   · simp
   · split
     · simp
     · split
       · simp
       · split
         · split <;> simp
         · simp
theorem u8eq (c:UInt8)(n:Nat)(h:n<256):c=UInt8.ofNat n↔c.toNat=n:=by
 constructor
 · rintro rfl;exact u8t h
 · rintro rfl;exact UInt8.ofNat_toNat.symm
theorem sgn_a {c:UInt8}(h:c.toNat=34∨c.toNat=92):sgn c=[92,c]:=by
 have:c=34∨c=92:=h.imp (u8eq c 34 (by decide)).2 (u8eq c 92 (by decide)).2
 unfold sgn;rw [if_pos this]
theorem sgn_ne {c:UInt8}{n:Nat}(hn:n<256)(h:c.toNat≠n):c≠UInt8.ofNat n:=fun e=>h ((u8eq c n hn).1 e)
theorem sgn_10 {c:UInt8}(h:c.toNat=10):sgn c=[92,110]:=by
 have:c=10:=(u8eq c 10 (by decide)).2 h
 subst this;decide
theorem sgn_9 {c:UInt8}(h:c.toNat=9):sgn c=[92,116]:=by
 have:c=9:=(u8eq c 9 (by decide)).2 h
 subst this;decide
theorem sgn_13 {c:UInt8}(h:c.toNat=13):sgn c=[92,114]:=by
 have:c=13:=(u8eq c 13 (by decide)).2 h
 subst this;decide
theorem sgn_u {c:UInt8}(h1:c.toNat≠10)(h2:c.toNat≠9)(h3:c.toNat≠13)(h:c.toNat<32∨c.toNat=127):sgn c=[92,117,123]++hexs c.toNat++[125]:=by
 have e1:¬ (c=34∨c=92):=by rintro (e | e) <;> (subst e;revert h;decide)
 have e5:c<32∨c=127:=by
  rcases h with h | h
  · exact .inl (by rw [UInt8.lt_iff_toNat_lt];exact h)
  · exact .inr ((u8eq c 127 (by decide)).2 h)
 unfold sgn
 rw [if_neg e1,if_neg (show c≠10 from sgn_ne (n:=10) (by decide) h1),if_neg (show c≠9 from sgn_ne (n:=9) (by decide) h2),if_neg (show c≠13 from sgn_ne (n:=13) (by decide) h3),if_pos e5]
theorem sgn_o {c:UInt8}(h0:¬ (c.toNat=34∨c.toNat=92))(h:¬ (c.toNat<32∨c.toNat=127)):sgn c=[c]:=by
 have e1:¬ (c=34∨c=92):=fun e=>h0 (e.imp (u8eq c 34 (by decide)).1 (u8eq c 92 (by decide)).1)
 have e5:¬ (c<32∨c=127):=fun e=>h (e.imp (fun e=>by rw [UInt8.lt_iff_toNat_lt] at e;exact e) (u8eq c 127 (by decide)).1)
 have n1:c.toNat≠10:=by omega
 have n2:c.toNat≠9:=by omega
 have n3:c.toNat≠13:=by omega
 unfold sgn
 rw [if_neg e1,if_neg (show c≠10 from sgn_ne (n:=10) (by decide) n1),if_neg (show c≠9 from sgn_ne (n:=9) (by decide) n2),if_neg (show c≠13 from sgn_ne (n:=13) (by decide) n3),if_neg e5]
theorem hexs_len (n:Nat):(hexs n).length≤2:=by unfold hexs;split <;> simp
def lowc (c:Int):Prop:=(97≤c∧c≤122)∨(65≤c∧c≤90)∨c=95
def digc (c:Int):Prop:=48≤c∧c≤57
def isNm (s:ByteArray):Prop:=0<s.size∧∀ j:Nat,j<s.size→lowc (byteAt s j)∨(0<j∧digc (byteAt s j))
theorem isNm_iff (s:ByteArray):isNm s↔(∀ j:Nat,j<s.size→lowc (byteAt s j)∨digc (byteAt s j))∧0<s.size∧¬ digc (byteAt s (0:Nat)):=by
 constructor
 · rintro ⟨h0,h⟩
   refine ⟨fun j hj=>(h j hj).imp id (·.2),h0,fun hd=>?_⟩
   rcases h 0 h0 with h1 | h1
   · unfold lowc at h1;unfold digc at hd;omega
   · omega
 · rintro ⟨h,h0,hn⟩
   refine ⟨h0,fun j hj=>?_⟩
   rcases h j hj with h1 | h1
   · exact .inl h1
   · rcases Nat.eq_zero_or_pos j with h2 | h2
     · subst h2;exact absurd h1 hn
     · exact .inr ⟨h2,h1⟩
def qtd (l:List UInt8):List UInt8:=l.flatMap sgn
theorem qtd_len (l:List UInt8):(qtd l).length≤6*l.length:=by
 induction l with
 | nil=>simp [qtd]
 | cons b l ih =>
  have:=sgn_len b
  simp only [qtd,List.flatMap_cons,List.length_append,List.length_cons] at ih ⊢
  omega
theorem qtd_take (s:ByteArray)(i:Nat)(hi:i<s.size):qtd (s.data.toList.take (i+1))=qtd (s.data.toList.take i)++sgn (s.data.toList.getD i 0):=by
 have hi':i<s.data.toList.length:=by simpa using hi
 rw [List.take_succ_eq_append_getElem hi']
 simp [qtd,List.getD,List.getElem?_eq_getElem hi']
open Classical in
noncomputable def stpT (s:Stp):List UInt8:=if s.byIndex then [91]++itoa s.index++[93] else if isNm s.key then 46::s.key.data.toList else [46,34]++qtd s.key.data.toList++[34]
noncomputable def pathT (l:List Stp):List UInt8:=match l with
 | []=>[46]
 | s::_=>(if s.byIndex then [46] else [])++l.flatMap stpT
def GdS (s:Stp):Prop:=(s.byIndex=true→0≤s.index∧s.index≤65536)∧(s.byIndex=false→s.key.size≤1024)
theorem decDigits_len:∀ (k n:Nat),n<10^(k+1)→(decDigits n).length≤k+1
 | 0,n,h=>by unfold decDigits;rw [dif_pos (by omega)];simp
 | k+1,n,h=>by
  unfold decDigits
  split
  · simp
  · have:=decDigits_len k (n / 10) (by rw [Nat.pow_succ] at h;omega)
    simp only [List.length_append,List.length_singleton]
    omega
theorem itoa_nat (n:Nat):itoa (n:Int)=decDigits n:=by
 unfold itoa
 rw [if_neg (by omega)]
 simp
theorem stepT_len {s:Stp}(h:GdS s):(stpT s).length≤6200:=by
 unfold stpT
 split
 · rename_i hi
   obtain ⟨h1,h2⟩:=h.1 hi
   have h3:s.index=((s.index.toNat:Nat):Int):=by omega
   rw [h3,itoa_nat]
   have:=decDigits_len 5 s.index.toNat (by omega)
   simp only [List.length_append,List.length_singleton]
   omega
 · rename_i hi
   have h1:=h.2 p2fq
   split
   · simp only [List.length_cons,Array.length_toList]
     have:s.key.data.size=s.key.size:=rfl
     omega
   · have h2:=qtd_len s.key.data.toList
     have:s.key.data.size=s.key.size:=rfl
     simp only [List.length_append,List.length_cons,List.length_nil,Array.length_toList] at h2 ⊢
     omega
theorem flat_len {l:List Stp}(h:∀ s∈l,GdS s):(l.flatMap stpT).length≤6200*l.length:=by
 induction l with
 | nil=>simp
 | cons s l ih =>
  have h1:=stepT_len (h s (by simp))
  have h2:=ih fun x hx=>h x (by simp [hx])
  simp only [List.flatMap_cons,List.length_append,List.length_cons]
  omega
theorem pathT_len {l:List Stp}(h:∀ s∈l,GdS s):(pathT l).length≤6200*l.length+1:=by
 unfold pathT
 split
 · simp
 · rename_i s t
   have:=flat_len h
   simp only [List.length_append]
   split <;> simp only [List.length_cons,List.length_nil] at this ⊢ <;> omega
theorem flat_take (l:List Stp)(i:Nat)(x:Stp)(hx:l[i]?=some x):(l.take (i+1)).flatMap stpT=(l.take i).flatMap stpT++stpT x:=by
 obtain ⟨hi,e⟩:=List.getElem?_eq_some_iff.1 hx
 rw [List.take_succ_eq_append_getElem hi]
 simp [e]
def dgs (n:Nat):List UInt8:=if n=0 then [] else decDigits n
theorem dgs_pos (n:Nat)(h:0<n):dgs n=dgs (n / 10)++[UInt8.ofNat (48+n%10)]:=by
 unfold dgs
 rw [if_neg (by omega)]
 by_cases h1:n<10
 · have e:n / 10=0:=by omega
   rw [e,if_pos rfl]
   unfold decDigits
   rw [dif_pos h1,show n%10=n by omega]
   rfl
 · rw [if_neg (by omega)]
   conv=>lhs;unfold decDigits
   rw [dif_neg h1]
end Go.Dk
end
section
namespace Go.Dk
open Go Go.RowKit Go.Lib
theorem sgn_preF:∀ a b:Fin 256,(sgn (UInt8.ofNat a.val)).isPrefixOf (sgn (UInt8.ofNat b.val))=true→a=b:=by decide +kernel
theorem sgn_pre (a b:UInt8)(h:(sgn a).isPrefixOf (sgn b)=true):a=b:=by
 have h1:=sgn_preF ⟨a.toNat,a.toNat_lt⟩ ⟨b.toNat,b.toNat_lt⟩
 simp only [UInt8.ofNat_toNat] at h1
 have h2:=h1 h
 simp only [Fin.mk.injEq] at h2
 exact UInt8.toNat_inj.1 h2
theorem sgn_headF:∀ a:Fin 256,(sgn (UInt8.ofNat a.val)).head?≠some 34∧sgn (UInt8.ofNat a.val)≠[]:=by decide +kernel
theorem sgn_head (a:UInt8):(sgn a).head?≠some 34∧sgn a≠[]:=by
 have h1:=sgn_headF ⟨a.toNat,a.toNat_lt⟩
 simpa only [UInt8.ofNat_toNat] using h1
theorem sgn_cancel {a b:UInt8}{x y:List UInt8}(h:sgn a++x=sgn b++y):a=b∧x=y:=by
 have hab:a=b:=by
  have p1:sgn a <+: sgn a++x:=⟨x,rfl⟩
  have p2:sgn b <+: sgn a++x:=⟨y,h.symm⟩
  rcases Nat.le_total (sgn a).length (sgn b).length with hl | hl
  · exact sgn_pre a b (List.isPrefixOf_iff_prefix.2 (List.prefix_of_prefix_length_le p1 p2 hl))
  · exact (sgn_pre b a (List.isPrefixOf_iff_prefix.2 (List.prefix_of_prefix_length_le p2 p1 hl))).symm
 subst hab
 exact ⟨rfl,List.append_cancel_left h⟩
theorem sgn_quote (a:UInt8)(x y:List UInt8):sgn a++x≠34::y:=by
 intro h
 obtain ⟨h1,h2⟩:=sgn_head a
 cases hs:sgn a with
 | nil=>exact h2 hs
 | cons c t =>
  rw [hs] at h h1
  simp only [List.cons_append,List.cons.injEq] at h
  exact h1 (by simp [h.1])
theorem qtd_cancel:∀ (k l:List UInt8) (x y:List UInt8),qtd k++34::x=qtd l++34::y→k=l∧x=y
 | [],[],x,y,h=>by simpa [qtd] using h
 | [],b::l,x,y,h=>by
  simp only [qtd,List.flatMap_nil,List.nil_append,List.flatMap_cons,List.append_assoc] at h
  exact absurd h.symm (sgn_quote b _ _)
 | a::k,[],x,y,h=>by
  simp only [qtd,List.flatMap_nil,List.nil_append,List.flatMap_cons,List.append_assoc] at h
  exact absurd h (sgn_quote a _ _)
 | a::k,b::l,x,y,h=>by
  simp only [qtd,List.flatMap_cons,List.append_assoc] at h
  obtain ⟨rfl,h2⟩:=sgn_cancel h
  obtain ⟨rfl,rfl⟩:=qtd_cancel k l x y (by simpa only [qtd] using h2)
  exact Ez5
theorem span_cancel (p:UInt8→Prop):∀ (A B x y:List UInt8),(∀ c∈A,p c)→(∀ c∈B,p c)→(∀ c t,x=c::t→¬ p c)→(∀ c t,y=c::t→¬ p c)→A++x=B++y→A=B∧x=y
 | [],[],x,y,_,_,_,_,h=>⟨rfl,by simpa using h⟩
 | [],b::B,x,y,_,hB,hx,_,h=>absurd (hB b (by simp)) (hx b (B++y) p19q)
 | a::A,[],x,y,hA,_,_,hy,h=>absurd (hA a (by simp)) (hy a (A++x) (by simpa using h.symm))
 | a::A,b::B,x,y,hA,hB,hx,hy,h=>by
  simp only [List.cons_append,List.cons.injEq] at h
  obtain ⟨rfl,h2⟩:=h
  obtain ⟨rfl,rfl⟩:=span_cancel p A B x y (fun c hc=>hA c (by simp [hc])) (fun c hc=>hB c (by simp [hc])) hx hy h2
  exact Ez5
def dgc (c:UInt8):Prop:=48≤c.toNat∧c.toNat≤57
theorem dec_dgc (n:Nat):∀ c∈decDigits n,dgc c:=by
 induction n using Nat.strongRecOn with
 | _ n ih =>
  unfold decDigits
  split
  · intro c hc
    obtain rfl:=List.mem_singleton.1 hc
    have:(UInt8.ofNat (48+n)).toNat=48+n:=u8t (by omega)
    unfold dgc;omega
  · intro c hc
    rcases List.mem_append.1 hc with hc | hc
    · exact ih (n / 10) (by omega) c hc
    · obtain rfl:=List.mem_singleton.1 hc
      have:(UInt8.ofNat (48+n%10)).toNat=48+n%10:=u8t (by omega)
      unfold dgc;omega
def valD (l:List UInt8):Nat:=l.foldl (fun a c=>10*a+(c.toNat-48)) 0
theorem valD_dec (n:Nat):valD (decDigits n)=n:=by
 induction n using Nat.strongRecOn with
 | _ n ih =>
  unfold decDigits
  split
  · have:(UInt8.ofNat (48+n)).toNat=48+n:=u8t (by omega)
    simp only [valD,List.foldl_cons,List.foldl_nil,this];omega
  · have h1:=ih (n / 10) (by omega)
    have:(UInt8.ofNat (48+n%10)).toNat=48+n%10:=u8t (by omega)
    unfold valD at h1 ⊢
    rw [List.foldl_append,h1]
    simp only [List.foldl_cons,List.foldl_nil,this];omega
theorem dec_inj {m n:Nat}(h:decDigits m=decDigits n):m=n:=by rw [← valD_dec m,← valD_dec n,h]
def nmc (c:UInt8):Prop:=lowc c.toNat∨digc c.toNat
theorem isNm_all {s:ByteArray}(h:isNm s):∀ c∈s.data.toList,nmc c:=by
 intro c hc
 obtain ⟨j,hj⟩:=List.getElem?_of_mem hc
 have hlt:=(List.getElem?_eq_some_iff.1 hj).1
 have h1:=h.2 j (by simpa using hlt)
 have e:byteAt s j=(c.toNat:Int):=by
  unfold byteAt
  simp only [Int.toNat_natCast,List.getD,hj,Option.getD_some]
 rw [e] at h1
 exact h1.imp id (·.2)
theorem isNm_ne {s:ByteArray}(h:isNm s):s.data.toList≠[]:=by
 intro e
 have h0:=h.1
 have:s.data.toList.length=s.size:=by simp
 rw [e] at this
 simp at this;omega
def Vs (s:Stp):Prop:=(s.byIndex=true→s.key=⟨#[]⟩∧0≤s.index)∧(s.byIndex=false→s.index=0)
theorem step_head (s:Stp):∃ t,stpT s=(if s.byIndex then 91 else 46)::t:=by
 unfold stpT
 split
 · rename_i h;exact ⟨itoa s.index++[93],by simp [h]⟩
 · rename_i h
   split
   · exact ⟨s.key.data.toList,by simp [h]⟩
   · exact ⟨34::(qtd s.key.data.toList++[34]),by simp [h]⟩
theorem flat_head {l:List Stp}{c:UInt8}{t:List UInt8}(h:l.flatMap stpT=c::t):c=46∨c=91:=by
 cases l with
 | nil=>simp at h
 | cons s l =>
  obtain ⟨u,hu⟩:=step_head s
  simp only [List.flatMap_cons,hu,List.cons_append,List.cons.injEq] at h
  rw [← h.1]
  split <;> simp
theorem ba_ext {a b:ByteArray}(h:a.data.toList=b.data.toList):a=b:=by
 cases a;cases b;congr 1;exact Array.toList_inj.1 h
theorem step_cancel {s u:Stp}{x y:List UInt8}(hs:Vs s)(hu:Vs u)(hx:∀ c t,x=c::t→c=46∨c=91)(hy:∀ c t,y=c::t→c=46∨c=91)(h:stpT s++x=stpT u++y):s=u∧x=y:=by
 have np:∀ c:UInt8,(c=46∨c=91)→¬ nmc c:=by
  rintro c (rfl | rfl) <;> unfold nmc lowc digc <;> decide
 obtain ⟨si,sk,sx⟩:=s
 obtain ⟨ui,uk,ux⟩:=u
 have hh:si=ui:=by
  obtain ⟨t1,h1⟩:=step_head ⟨si,sk,sx⟩
  obtain ⟨t2,h2⟩:=step_head ⟨ui,uk,ux⟩
  rw [h1,h2] at h
  simp only [List.cons_append,List.cons.injEq] at h
  cases si <;> cases ui <;> simp at h ⊢
 subst hh
 cases si with
 | true =>
  obtain ⟨hk1,hi1⟩:=hs.1 rfl
  obtain ⟨hk2,hi2⟩:=hu.1 rfl
  simp only at hk1 hi1 hk2 hi2
  subst hk1;subst hk2
  unfold stpT at h
  simp only [if_true,List.append_assoc,List.cons_append,List.nil_append,List.cons.injEq,true_and] at h
  obtain ⟨m,rfl⟩:∃ m:Nat,sx=m:=⟨sx.toNat,by omega⟩
  obtain ⟨n,rfl⟩:∃ n:Nat,ux=n:=⟨ux.toNat,by omega⟩
  rw [itoa_nat,itoa_nat] at h
  obtain ⟨e1,e2⟩:=span_cancel dgc _ _ _ _ (dec_dgc m) (dec_dgc n) (by intro c t he;simp only [List.cons.injEq] at he;rw [← he.1];unfold dgc;decide) (by intro c t he;simp only [List.cons.injEq] at he;rw [← he.1];unfold dgc;decide) h
  simp only [List.cons.injEq,true_and] at e2
  rw [dec_inj e1]
  exact ⟨rfl,e2⟩
 | false =>
  have e1:=hs.2 rfl
  have e2:=hu.2 rfl
  simp only at e1 e2
  subst e1;subst e2
  unfold stpT at h
  simp only [Bool.false_eq_true,if_false] at h
  by_cases c1:isNm sk <;> by_cases c2:isNm uk
  · rw [if_pos c1,if_pos c2] at h
    simp only [List.cons_append,List.cons.injEq,true_and] at h
    obtain ⟨e1,e2⟩:=span_cancel nmc _ _ _ _ (isNm_all c1) (isNm_all c2) (fun c t he=>np c (hx c t he)) (fun c t he=>np c (hy c t he)) h
    rw [ba_ext e1]
    exact ⟨rfl,e2⟩
  · exfalso
    rw [if_pos c1,if_neg c2] at h
    simp only [List.cons_append,List.cons.injEq,true_and,List.append_assoc,List.nil_append] at h
    cases hl:sk.data.toList with
    | nil=>exact isNm_ne c1 hl
    | cons c t =>
     rw [hl] at h
     simp only [List.cons_append,List.cons.injEq] at h
     have:=isNm_all c1 c (by rw [hl];simp)
     rw [h.1] at this
     unfold nmc lowc digc at this
     revert this;decide
  · exfalso
    rw [if_neg c1,if_pos c2] at h
    simp only [List.cons_append,List.cons.injEq,true_and,List.append_assoc,List.nil_append] at h
    cases hl:uk.data.toList with
    | nil=>exact isNm_ne c2 hl
    | cons c t =>
     rw [hl] at h
     simp only [List.cons_append,List.cons.injEq] at h
     have:=isNm_all c2 c (by rw [hl];simp)
     rw [← h.1] at this
     unfold nmc lowc digc at this
     revert this;decide
  · rw [if_neg c1,if_neg c2] at h
    simp only [List.cons_append,List.cons.injEq,true_and,List.append_assoc,List.nil_append] at h
    obtain ⟨e1,e2⟩:=qtd_cancel _ _ _ _ h
    rw [ba_ext e1]
    exact ⟨rfl,e2⟩
theorem flat_inj:∀ (k l:List Stp),(∀ s∈k,Vs s)→(∀ s∈l,Vs s)→k.flatMap stpT=l.flatMap stpT→k=l
 | [],[],_,_,_=>rfl
 | [],u::l,_,_,h=>by
  obtain ⟨t,ht⟩:=step_head u
  rw [List.flatMap_cons,ht] at h
  simp at h
 | s::k,[],_,_,h=>by
  obtain ⟨t,ht⟩:=step_head s
  rw [List.flatMap_cons,ht] at h
  simp at h
 | s::k,u::l,hk,hl,h=>by
  rw [List.flatMap_cons,List.flatMap_cons] at h
  obtain ⟨rfl,h2⟩:=step_cancel (hk s (by simp)) (hl u (by simp)) (fun c t he=>flat_head he) (fun c t he=>flat_head he) h
  rw [flat_inj k l (fun x hx=>hk x (by simp [hx])) (fun x hx=>hl x (by simp [hx])) h2]
theorem step_two (s:Stp):2≤(stpT s).length:=by
 unfold stpT
 split
 · simp
 · split
   · rename_i h
     have:=isNm_ne h
     cases hl:s.key.data.toList with
     | nil=>exact absurd hl this
     | cons c t=>simp
   · simp
theorem path_inj {k l:List Stp}(hk:∀ s∈k,Vs s)(hl:∀ s∈l,Vs s)(h:pathT k=pathT l):k=l:=by
 cases k with
 | nil =>
  cases l with
  | nil=>rfl
  | cons u l =>
   exfalso
   have h1:=congrArg List.length h
   have h2:=step_two u
   simp only [pathT,List.flatMap_cons,List.length_append,List.length_singleton] at h1
   omega
 | cons s k =>
  cases l with
  | nil =>
   exfalso
   have h1:=congrArg List.length h
   have h2:=step_two s
   simp only [pathT,List.flatMap_cons,List.length_append,List.length_singleton] at h1
   omega
  | cons u l =>
   refine flat_inj _ _ hk hl ?_
   unfold pathT at h
   simp only at h
   by_cases c1:s.byIndex=true <;> by_cases c2:u.byIndex=true
   · simpa [c1,c2] using h
   · exfalso
     rw [if_pos c1,if_neg c2] at h
     obtain ⟨t1,h1⟩:=step_head s
     simp only [List.flatMap_cons,h1,c1,if_true,List.cons_append,List.nil_append] at h
     have h5:=step_two u
     unfold stpT at h h5
     rw [if_neg c2] at h h5
     split at h
     · rename_i hn
       cases hq:u.key.data.toList with
       | nil=>exact isNm_ne hn hq
       | cons c t =>
        rw [hq] at h
        simp only [List.cons_append,List.cons.injEq,true_and] at h
        have:=isNm_all hn c (by rw [hq];simp)
        rw [← h.1] at this
        unfold nmc lowc digc at this
        revert this;decide
     · simp at h
   · exfalso
     rw [if_neg c1,if_pos c2] at h
     obtain ⟨t1,h1⟩:=step_head u
     simp only [List.flatMap_cons,h1,c2,if_true,List.cons_append,List.nil_append] at h
     unfold stpT at h
     rw [if_neg c1] at h
     split at h
     · rename_i hn
       cases hq:s.key.data.toList with
       | nil=>exact isNm_ne hn hq
       | cons c t =>
        rw [hq] at h
        simp only [List.cons_append,List.cons.injEq,true_and] at h
        have:=isNm_all hn c (by rw [hq];simp)
        rw [h.1] at this
        unfold nmc lowc digc at this
        revert this;decide
     · simp at h
   · simpa [c1,c2] using h
end Go.Dk
end
