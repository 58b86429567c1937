/-
  Several texts in one: Ba, Bb, Bc, Ga, Mp, Bd
-/
import Derived.WalkKit
import Derived.WalkSpells
import Derived.WalkLawsBesides
import Derived.Laws.CopyOwn
import Derived.Lib.AppendStr
import Derived.Test.YthiafbkolhnadaaGreatDoorProg
import Derived.KernelRfl
import Derived.ProofKit
import Derived.MapKept
import Derived.Still
import Derived.Deep.Quiet
open Go.Proofs.Tryz renaming prog->W,underlying9->aF,underlying72->de,underlying3->dq,underlying70->dx,underlying5->en,underlying83->fb,underlying79->fk,underlying28->lp,underlying33->mc,underlying148->mV,underlying32->oA,underlying80->oB,underlying159->po,underlying4->pr,underlying81->qd,underlying25->q3,underlying35->q4,underlying23->r9,underlying78->sa
open List renaming length_append->aQ,length_drop->bC,mem_cons_of_mem->bP,getElem?_eq_getElem->bS,getElem?_eq_some_iff->bT,mem_cons_self->b9,mem_of_getElem?->cb,length_cons->cf,append_nil->cH,length_nil->dC,length_take->dS,append_assoc->eB,length->eC,getElem?_map->eF,mem_cons->eX,length_map->fT,flatMap_cons->gE,length_pos_iff->gF,nil_append->gG,cons_append->gT,getD_eq_getElem?_getD->hZ,mem_append_left->iM,map_cons->jk,getElem?_of_mem->jX,map_append->kc,length_singleton->ll,mem_map->lm,take_of_length_le->lQ,getD->l8,take_length->nG,drop_eq_getElem_cons->ph,flatten_cons->pi,all_eq_true->p7,getElem?_drop->tc,getElem?_take->te,foldl_cons->yl,nodup_cons->ym,any_eq_true->DJ,findIdx_cons->Hi
open UInt8 renaming ofNat->bM
open Nat renaming zero_le->bU,le_refl->bV,beq->gU,zero_add->gV,lt_or_ge->ma,add_assoc->mU,le_trans->nI,blt->qb,eq_zero_or_pos->tg
open Int renaming toNat->dw,toNat_natCast->gD
open Bool renaming and_eq_true->fS,or_eq_true->hW,eq_iff_iff->jE,not_eq_true'->kP,noConfusion->qR,false_eq_true->r0,or_eq_false_iff->uB
open Option renaming bind_some->ke,map_eq_some_iff->nJ,map_some->ti
open Option.some renaming injEq->kS,inj->mb
open Classical renaming not_not->nB,choose_spec->QQ
open Array renaming range->wg,replicate->CV
set_option linter.unusedSimpArgs false
set_option linter.unusedVariables false
set_option maxHeartbeats 4000000
set_option maxRecDepth 100000
namespace Go
theorem B.{u}{α:Sort u}{a:α}:a=a:=Eq.refl a
theorem I {p:Prop}(h:p:=by omega):p:=h
theorem O.{u}{α:Sort u}{c:Prop}{h:Decidable c}(vo:¬c){t e:α}:ite c t e=e:=if_neg vo
theorem U.{u}{α:Sort u}{c:Prop}{h:Decidable c}(hc:c){t e:α}:ite c t e=t:=if_pos hc
theorem aD.{u,v}{α:Sort u}{z6:Sort v}{a b:α}(f:α->z6)(h:a=b):f a=f b:=congrArg f h
structure Wd (q:Prop):Prop where
  o:q
theorem dy:(∀ a b:Bool,((a&&b)=true)=(a=true/\b=true))/\(∀ a b:Bool,((a||b)=true)=(a=true\/b=true))/\(∀ a b:Bool,((a&&b)=false)↔(a=false\/b=false))/\(∀ a b:Bool,((a||b)=false)↔(a=false/\b=false))/\(∀ b:Bool,((!b)=true)=(b=false))/\(∀ b:Bool,((!b)=false)=(b=true))/\(∀ (p:Prop) [Decidable p],(decide p=true)=p)/\(∀ (p:Prop) [Decidable p],(decide p=false)↔¬ p) /\
    (∀ {α:Type} [BEq α] [LawfulBEq α] (a b:α),((a==b)=true)↔a=b)/\(∀ {α:Type} [BEq α] [LawfulBEq α] (a b:α),((a==b)=false)↔a≠b)/\(∀ {α:Type} [BEq α] [LawfulBEq α] (a b:α),((a != b)=true)↔a≠b)/\(∀ {α:Type} [BEq α] [LawfulBEq α] (a b:α),((a != b)=false)↔a=b)/\(∀ {α:Type} (a b:α),(a≠b)=¬ (a=b))/\(∀ p:Prop,¬ ¬ p↔p) :=
  ⟨λ_ _=>fS _ _,λ_ _=>hW _ _,λ_ _=>Bool.and_eq_false_iff,λ_ _=>uB,λ_=>kP _,λ_=>Bool.not_eq_false' _,λ_ _=>decide_eq_true_eq,λ_ _=>decide_eq_false_iff_not,λ_ _=>beq_iff_eq,λ_ _=>beq_eq_false_iff_ne,λ_ _=>bne_iff_ne,λ_ _=>bne_eq_false_iff_eq,λ_ _=>ne_eq _ _,λ_=>nB⟩
theorem a8 {p:Prop}(h:p:=by first | exact cHi rfl | exact cHj rfl):p:=h
theorem aO {p:Prop}(h:p:=by first | exact F8 rfl | exact cHk rfl):p:=h
theorem ay {α:Type}{a b:α}(h:a=b:=by first | exact fV hc rfl | exact fV (uN hc) rfl | exact fV (uN (uN hc)) rfl | rfl):a=b:=h
section
variable {p q:Prop}
theorem aJ(h:p:=by first | rfl | exact aD (Value.int .i64) (by omega)):p:=h
theorem ac(h:p:=by kernel_rfl):p:=h
theorem fO(h:p:=by first | omega | (simp only [dy] at hc;omega) | (simp only [dy] at hc;exact gF.2 hc) | (simp only [dy] at hc;exact gF.2 hc.1)):p:=h
theorem cR(h:p:=by first | assumption | omega | (simp only [bC,dS,cf,aQ,dC];omega)):p:=h
theorem eJ(h:p:=by first | omega | (simp only [dy] at hc;omega)):p:=h
theorem mB(h:p:=by (try simp only [aQ,cf,dC]);omega):p:=h
theorem nr(h:p:=by rw [rb] at *;omega):p:=h
theorem o5(h:p:=by first | (rw [dS];omega) | (unfold sub;rw [dS];omega)):p:=h
theorem cj(h:p:=by assumption):p:=h
theorem jx(h:p:=by rw [bC];omega):p:=h
theorem l2(h:p:=by first | exact fV hc rfl | rfl):p:=h
theorem FK(h:p:=by simp only [aQ,dS,bC,cf,dC];omega):p:=h
theorem o7(h:p:=by first | exact lD | exact qm | exact tJ):p:=h
theorem pdq(h:p:=by first | omega | (rw [aHy hb];omega) | (rw [aHw hb];omega) | (rw [aHz hb];omega)):p:=h
theorem aT8(h:p:=by simp only [aQ,cf,dC];omega):p:=h
theorem gk(h:p:=by rw [g0];omega):p:=h
theorem J6(h:p:=by rw [show 0+dw ((i:Nat):Int)*1=0+i by omega];exact aOn.up G.ext i _ aOm):p:=h
theorem sK(h:p:=by rw [aQ,ll]):p:=h
theorem jU(h:p:=by simp only;omega):p:=h
theorem bZx(h:p:=by show 0+dw ((n:Nat):Int)*5+5<=(n+1)*5;rw [gD];omega):p:=h
theorem bZy(h:p:=by rw [cD9 (by omega)];rfl):p:=h
theorem ku(h:p:=by simpa using h):p:=h
theorem J7(h:p:=by first | exact Cxr.keepF (A:=[]) G | exact Cxr.keepF (A:=[]) (G.drop 1)):p:=h
theorem sL(h:p:=by unfold ja;rw [g0];omega):p:=h
theorem Pv(h:p:=by first | assumption | decide | omega):p:=h
theorem Pw(h:p:=by unfold decodeN;rw [O (by omega),O (by omega),O (by omega),O (by omega)]):p:=h
theorem vC(h:p:=by rw [gI];omega):p:=h
theorem vD(h:p:=by rw [dS];omega):p:=h
theorem Px(h:p:=by rw [aQ];rfl):p:=h
theorem X4(h:p:=by rw [gD,bMb hP];omega):p:=h
theorem J8(h:p:=by rw [aQ,ll];omega):p:=h
theorem X5(h:p:=by rw [List.flatten_append,pi,List.flatten_nil,cH];exact b9 ..):p:=h
theorem bZz(h:p:=by first | exact G | exact G.drop 1):p:=h
theorem ug(h:p:=by simpa using hs):p:=h
theorem uh(h:p:=by unfold ja;omega):p:=h
theorem J9(h:p:=by rw [cf];omega):p:=h
theorem X7(h:p:=by first | exact fV hc rfl | exact fV (uN hc) rfl | rfl):p:=h
theorem bZ0(h:p:=by simp only [aQ,cf,dC] at oU ie ⊢;omega):p:=h
theorem Ka(h:p:=by (try simp only [bC]);omega):p:=h
theorem FG(h:p:=by rw [BA];simp only;omega):p:=h
theorem Cr(h:p:=by rw [g0];unfold pun;omega):p:=h
theorem Py(h:p:=by rw [aQ,ll,zi]):p:=h
theorem bZ1(h:p:=by rw [rb];exact Go.Dk.and31 (i7 _ _)):p:=h
theorem bZ2(h:p:=by rw [rb];exact Go.Dk.and15 (i7 _ _)):p:=h
theorem Kb(h:p:=by rw [aQ,gh];rfl):p:=h
theorem bZ3(h:p:=by rw [rb];exact Go.Dk.and7 (i7 _ _)):p:=h
theorem Kc(h:p:=by rw [dj];exact qR):p:=h
theorem Kd(h:p:=by rw [aQ];omega):p:=h
theorem bZ4(h:p:=by rw [<- EP];exact jd):p:=h
theorem bZ6(h:p:=by rw [<- EP,jd];simp):p:=h
theorem bZ7(h:p:=by rw [rb];exact and31 (i7 _ _)):p:=h
theorem bZ8(h:p:=by rw [rb];exact and15 (i7 _ _)):p:=h
theorem bZ9(h:p:=by rw [rb];exact and7 (i7 _ _)):p:=h
theorem Ke(h:p:=by rw [<- bJd bm];exact he):p:=h
theorem aT0(h:p:=by rw [kc,jk,List.map_nil,aMb _ _ _ _ (by rw [fT,lf.hfc])];rfl):p:=h
theorem cAa(h:p:=by first | exact bZg (λj ax=>hb j (by omega)) | exact bZf (by first | exact e1 | simpa using e1)):p:=h
theorem cAb(h:p:=by first | exact wG _ _ | omega):p:=h
theorem cAc(h:p:=by first | exact wF _ _ | omega):p:=h
theorem FH(h:p:=by unfold maxLen;omega):p:=h
theorem hO {α:Type}{a b:α}(h:a=b:=by first | assumption | exact fV hc rfl | exact fV (uN hc) rfl | exact fV (uN (uN hc)) rfl | rfl):a=b:=h
theorem eg {α:Type}{a b:α}(h:a=b:=by first | assumption | rfl):a=b:=h
theorem nt(h:p:=by omega):p:=h
theorem oj (h:p:=by with_reducible first | exact dq | exact aF | exact dx | exact de | exact fb | exact mV | exact lp | exact qd | exact po | exact Tryz.underlying150 | exact mc | exact oA | exact oB | exact en | exact pr | exact q3 | exact r9 | exact Tryz.underlying107 | exact fk | exact q4 | exact Tryz.underlying48 | exact sa | exact Tryz.underlying76 | exact Tryz.underlying167 | exact Tryz.underlying52 | exact Tryz.underlying243 | exact Tryz.underlying36 | exact Tryz.underlying102 | exact Tryz.underlying98 | exact Tryz.underlying30):p:=h
theorem Ba (h:p:=by with_reducible first | exact yH | exact u0 | exact T9 | exact bKv | exact Ie | exact bLr | exact aL7 | exact Ua | exact uZ | exact Ed | exact u1 | exact bKi | exact T8 | exact bKu | exact aL8 | exact bLt | exact M6 | exact aL5 | exact Bb | exact bJ9 | exact bKt | exact Ug | exact Uc | exact bKw | exact bLn | exact Uf | exact bKd | exact Ud | exact Ue | exact bLs | exact aL2 | exact bJ8 | exact M5 | exact bK1 | exact bK2 | exact bK3 | exact Ub | exact Ia | exact bLo | exact Ib | exact aL6 | exact bK0 | exact bLc | exact Ic | exact bKc | exact bKo | exact bKq | exact bLx | exact bLk | exact bK4 | exact bK5 | exact bLq | exact Uh | exact Ui | exact aL3 | exact aL4 | exact bKf | exact bLg | exact bLh | exact bLi | exact bLl | exact bLm | exact bKg | exact bKh | exact bKk | exact M4 | exact bKs | exact bKr | exact bKy | exact bK8 | exact bKe | exact bLd | exact bLe | exact bLf | exact bLj | exact bLp | exact bKm | exact bKn | exact bKj | exact bKl | exact bKp | exact bKz | exact bKx | exact aL9 | exact bK7 | exact bK9 | exact bLa | exact bLu | exact bLv | exact bLw | exact bKa | exact bKb | exact bK6 | exact bLb):p:=h
theorem Zn (h:p:=by with_reducible first | exact bA | exact c6 | exact gz | exact bN | exact nv | exact og | exact pW | exact pV | exact o9 | exact sT | exact oi | exact gA | exact lM | exact vQ | exact xM | exact qO | exact zJ | exact mJ | exact zK | exact CE | exact xL | exact FZ | exact FY | exact mK | exact zL | exact CF | exact aWi | exact YK | exact aWj):p:=h
theorem AT (h:p:=by first | exact G.cell 0 rfl rfl | exact G.cell 1 rfl rfl | exact G.cell 2 rfl rfl | exact G.cell 3 rfl rfl | exact G.cell 4 rfl rfl | exact G.cell 5 rfl rfl | exact G.cell 6 rfl rfl | exact G.cell 7 rfl rfl | exact G.cell 8 rfl rfl):p:=h
theorem Yv (h:p:=by first | exact G.row 0 rfl | exact G.row 1 rfl | exact G.row 2 rfl | exact G.row 3 rfl | exact G.row 4 rfl | exact G.row 5 rfl | exact G.row 6 rfl | exact G.row 7 rfl | exact G.row 8 rfl):p:=h
theorem Yu {α:Type}{a b:α}(h:a=b:=by rfl):a=b:=h
theorem ab (h:q)(f:Wd q->p:=by intro K;first | exact wp_seq K.1 | exact wp_region_lit K.1 | exact wpList_nil K.1 | exact S rfl rfl (cU rfl eg) K.1 | exact S rfl rfl (gQ rfl eg eg rfl) K.1 | exact S rfl rfl (av rfl eg) K.1 | exact S rfl rfl (Qe rfl rfl rfl) K.1 | exact S rfl rfl (br rfl eg oj rfl AT) K.1 | exact S rfl rfl (bO Ba rfl eg) K.1 | exact S rfl rfl (rX rfl eg eg nt nt) K.1 | exact S rfl rfl (cG rfl eg oj rfl Zn Yv Yu) K.1 | exact S rfl rfl (CK rfl rfl rfl rfl) K.1 | exact S rfl rfl (zS rfl rfl rfl rfl) K.1 | exact S rfl rfl (uq rfl eg) K.1 | exact S rfl rfl (oo rfl eg aF) K.1 | exact S rfl rfl (sZ rfl eg eg nt nt) K.1 | exact S rfl rfl (vZ rfl eg) K.1 | exact S rfl rfl (KE rfl eg eg nt nt) K.1 | exact S rfl rfl (hJ rfl eg oj) K.1 | exact aN rfl rfl rfl a8 (λhc=>cU rfl hO) K.1 | exact aN rfl rfl rfl aO (λhc=>cU rfl hO) K.1 | exact aN rfl rfl rfl a8 (λhc=>gQ rfl hO hO rfl) K.1 | exact aN rfl rfl rfl aO (λhc=>gQ rfl hO hO rfl) K.1 | exact aN rfl rfl rfl a8 (λhc=>br rfl hO oj rfl AT) K.1 | exact aN rfl rfl rfl aO (λhc=>br rfl hO oj rfl AT) K.1 | exact aN rfl rfl rfl a8 (λhc=>bO Ba rfl hO) K.1 | exact aN rfl rfl rfl aO (λhc=>bO Ba rfl hO) K.1 | exact aN rfl rfl rfl a8 (λhc=>oo rfl hO aF) K.1 | exact aN rfl rfl rfl aO (λhc=>oo rfl hO aF) K.1 | exact aN rfl rfl rfl a8 (λhc=>vZ rfl hO) K.1 | exact aN rfl rfl rfl aO (λhc=>vZ rfl hO) K.1 | exact aN rfl rfl rfl a8 (λhc=>CJ hc rfl rfl rfl rfl) K.1 | exact aN rfl rfl rfl aO (λhc=>CJ hc rfl rfl rfl rfl) K.1 | exact aN rfl rfl rfl a8 (λhc=>zU hc rfl rfl rfl rfl) K.1 | exact aN rfl rfl rfl aO (λhc=>zU hc rfl rfl rfl rfl) K.1 | exact aN rfl rfl rfl a8 (λhc=>hJ rfl hO oj) K.1 | exact aN rfl rfl rfl aO (λhc=>hJ rfl hO oj) K.1 | exact wp_ret K.1 | exact wp_skip K.1 | exact wp_block K.1 | exact wp_exit K.1):p:=f ⟨h⟩
theorem ST (h:q)(f:Wd q->p:=by intro K;first | exact zM K.1 | exact dP rfl rfl (cU rfl eg) K.1 | exact dP rfl rfl (gQ rfl eg eg rfl) K.1 | exact dP rfl rfl (av rfl eg) K.1 | exact dP rfl rfl (Qe rfl rfl rfl) K.1 | exact dP rfl rfl (br rfl eg oj rfl AT) K.1 | exact dP rfl rfl (bO Ba rfl eg) K.1 | exact dP rfl rfl (rX rfl eg eg nt nt) K.1 | exact dP rfl rfl (cG rfl eg oj rfl Zn Yv Yu) K.1 | exact dP rfl rfl (CK rfl rfl rfl rfl) K.1 | exact dP rfl rfl (zS rfl rfl rfl rfl) K.1 | exact dP rfl rfl (uq rfl eg) K.1 | exact dP rfl rfl (oo rfl eg aF) K.1 | exact dP rfl rfl (sZ rfl eg eg nt nt) K.1 | exact dP rfl rfl (vZ rfl eg) K.1 | exact dP rfl rfl (KE rfl eg eg nt nt) K.1 | exact dP rfl rfl (hJ rfl eg oj) K.1 | exact dk rfl rfl rfl a8 (λhc=>cU rfl hO) K.1 | exact dk rfl rfl rfl aO (λhc=>cU rfl hO) K.1 | exact dk rfl rfl rfl a8 (λhc=>gQ rfl hO hO rfl) K.1 | exact dk rfl rfl rfl aO (λhc=>gQ rfl hO hO rfl) K.1 | exact dk rfl rfl rfl a8 (λhc=>br rfl hO oj rfl AT) K.1 | exact dk rfl rfl rfl aO (λhc=>br rfl hO oj rfl AT) K.1 | exact dk rfl rfl rfl a8 (λhc=>bO Ba rfl hO) K.1 | exact dk rfl rfl rfl aO (λhc=>bO Ba rfl hO) K.1 | exact dk rfl rfl rfl a8 (λhc=>oo rfl hO aF) K.1 | exact dk rfl rfl rfl aO (λhc=>oo rfl hO aF) K.1 | exact dk rfl rfl rfl a8 (λhc=>vZ rfl hO) K.1 | exact dk rfl rfl rfl aO (λhc=>vZ rfl hO) K.1 | exact dk rfl rfl rfl a8 (λhc=>CJ hc rfl rfl rfl rfl) K.1 | exact dk rfl rfl rfl aO (λhc=>CJ hc rfl rfl rfl rfl) K.1 | exact dk rfl rfl rfl a8 (λhc=>zU hc rfl rfl rfl rfl) K.1 | exact dk rfl rfl rfl aO (λhc=>zU hc rfl rfl rfl rfl) K.1 | exact dk rfl rfl rfl a8 (λhc=>hJ rfl hO oj) K.1 | exact dk rfl rfl rfl aO (λhc=>hJ rfl hO oj) K.1):p:=f ⟨h⟩
theorem eY (h:q)(f:Wd q->p:=by intro K;first | exact bw rfl (bx rfl) (λw G=>cU rfl eg) K.1 | exact bw rfl (bx rfl) (λw G=>gQ rfl eg eg rfl) K.1 | exact bw rfl (bx rfl) (λw G=>av rfl eg) K.1 | exact bw rfl (bx rfl) (λw G=>Qe rfl rfl rfl) K.1 | exact bw rfl (bx rfl) (λw G=>br rfl eg oj rfl AT) K.1 | exact bw rfl (bx rfl) (λw G=>bO Ba rfl eg) K.1 | exact bw rfl (bx rfl) (λw G=>rX rfl eg eg nt nt) K.1 | exact bw rfl (bx rfl) (λw G=>cG rfl eg oj rfl Zn Yv Yu) K.1 | exact bw rfl (bx rfl) (λw G=>CK rfl rfl rfl rfl) K.1 | exact bw rfl (bx rfl) (λw G=>zS rfl rfl rfl rfl) K.1 | exact bw rfl (bx rfl) (λw G=>uq rfl eg) K.1 | exact bw rfl (bx rfl) (λw G=>oo rfl eg aF) K.1 | exact bw rfl (bx rfl) (λw G=>sZ rfl eg eg nt nt) K.1 | exact bw rfl (bx rfl) (λw G=>vZ rfl eg) K.1 | exact bw rfl (bx rfl) (λw G=>KE rfl eg eg nt nt) K.1 | exact bw rfl (bx rfl) (λw G=>hJ rfl eg oj) K.1):p:=f ⟨h⟩
theorem ag (h:q)(f:Wd q->p:=by intro K;(iterate 1 refine ab ?_);exact ab K.1):p:=f ⟨h⟩
theorem ae (h:q)(f:Wd q->p:=by intro K;(iterate 2 refine ab ?_);exact ab K.1):p:=f ⟨h⟩
theorem an (h:q)(f:Wd q->p:=by intro K;(iterate 3 refine ab ?_);exact ab K.1):p:=f ⟨h⟩
theorem aq (h:q)(f:Wd q->p:=by intro K;(iterate 4 refine ab ?_);exact ab K.1):p:=f ⟨h⟩
theorem az (h:q)(f:Wd q->p:=by intro K;(iterate 5 refine ab ?_);exact ab K.1):p:=f ⟨h⟩
theorem aG (h:q)(f:Wd q->p:=by intro K;(iterate 6 refine ab ?_);exact ab K.1):p:=f ⟨h⟩
theorem bz (h:q)(f:Wd q->p:=by intro K;(iterate 7 refine ab ?_);exact ab K.1):p:=f ⟨h⟩
theorem cK (h:q)(f:Wd q->p:=by intro K;(iterate 8 refine ab ?_);exact ab K.1):p:=f ⟨h⟩
theorem cF (h:q)(f:Wd q->p:=by intro K;(iterate 9 refine ab ?_);exact ab K.1):p:=f ⟨h⟩
theorem gp (h:q)(f:Wd q->p:=by intro K;(iterate 10 refine ab ?_);exact ab K.1):p:=f ⟨h⟩
theorem i6 (h:q)(f:Wd q->p:=by intro K;(iterate 11 refine ab ?_);exact ab K.1):p:=f ⟨h⟩
theorem kf (h:q)(f:Wd q->p:=by intro K;(iterate 12 refine ab ?_);exact ab K.1):p:=f ⟨h⟩
theorem kD (h:q)(f:Wd q->p:=by intro K;(iterate 13 refine ab ?_);exact ab K.1):p:=f ⟨h⟩
theorem oC (h:q)(f:Wd q->p:=by intro K;(iterate 14 refine ab ?_);exact ab K.1):p:=f ⟨h⟩
theorem aHp (h:q)(f:Wd q->p:=by intro K;(iterate 15 refine ab ?_);exact ab K.1):p:=f ⟨h⟩
theorem Mm (h:q)(f:Wd q->p:=by intro K;(iterate 16 refine ab ?_);exact ab K.1):p:=f ⟨h⟩
theorem Ht (h:q)(f:Wd q->p:=by intro K;(iterate 17 refine ab ?_);exact ab K.1):p:=f ⟨h⟩
theorem aHq (h:q)(f:Wd q->p:=by intro K;(iterate 18 refine ab ?_);exact ab K.1):p:=f ⟨h⟩
theorem cIj (h:q)(f:Wd q->p:=by intro K;(iterate 19 refine ab ?_);exact ab K.1):p:=f ⟨h⟩
theorem SO (h:q)(f:Wd q->p:=by intro K;(iterate 20 refine ab ?_);exact ab K.1):p:=f ⟨h⟩
theorem cIk (h:q)(f:Wd q->p:=by intro K;(iterate 21 refine ab ?_);exact ab K.1):p:=f ⟨h⟩
theorem AL (h:q)(f:Wd q->p:=by intro K;(iterate 22 refine ab ?_);exact ab K.1):p:=f ⟨h⟩
theorem SP (h:q)(f:Wd q->p:=by intro K;(iterate 23 refine ab ?_);exact ab K.1):p:=f ⟨h⟩
theorem aHr (h:q)(f:Wd q->p:=by intro K;(iterate 24 refine ab ?_);exact ab K.1):p:=f ⟨h⟩
theorem aY7 (h:q)(f:Wd q->p:=by intro K;(iterate 25 refine ab ?_);exact ab K.1):p:=f ⟨h⟩
theorem Mn (h:q)(f:Wd q->p:=by intro K;(iterate 26 refine ab ?_);exact ab K.1):p:=f ⟨h⟩
theorem cIl (h:q)(f:Wd q->p:=by intro K;(iterate 27 refine ab ?_);exact ab K.1):p:=f ⟨h⟩
theorem aY8 (h:q)(f:Wd q->p:=by intro K;(iterate 28 refine ab ?_);exact ab K.1):p:=f ⟨h⟩
theorem Mo (h:q)(f:Wd q->p:=by intro K;(iterate 29 refine ab ?_);exact ab K.1):p:=f ⟨h⟩
theorem dQ(h:q)(f:Wd q->p:=by intro K;exact hK ⟨.inr ac,K.1⟩):p:=f ⟨h⟩
theorem mO(h:q)(f:Wd q->p:=by intro K;exact kA (i:=11) ac B K.1):p:=f ⟨h⟩
theorem Rm(h:q)(f:Wd q->p:=by intro K;exact S B B (av (v:=(J o)) B B) K.1):p:=f ⟨h⟩
theorem Gs(h:q)(f:Wd q->p:=by intro K;exact hK ⟨.inl (G.pick2 0 3 B B B),K.1⟩):p:=f ⟨h⟩
theorem kQ(h:q)(f:Wd q->p:=by intro K;exact kA (i:=10) ac B K.1):p:=f ⟨h⟩
theorem pZ(h:q)(f:Wd q->p:=by intro K;exact kA (i:=13) ac B K.1):p:=f ⟨h⟩
theorem C6(h:q)(f:Wd q->p:=by intro K;exact kA (i:=14) ac B K.1):p:=f ⟨h⟩
theorem Af(h:q)(f:Wd q->p:=by intro K;exact kA (i:=15) ac B K.1):p:=f ⟨h⟩
theorem Gu(h:q)(f:Wd q->p:=by intro K;exact kA (i:=16) ac B K.1):p:=f ⟨h⟩
theorem Rn(h:q)(f:Wd q->p:=by intro K;exact cHu ac K.1):p:=f ⟨h⟩
theorem mP(h:q)(f:Wd q->p:=by intro K;exact kA (i:=8) ac B K.1):p:=f ⟨h⟩
theorem gS(h:q)(f:Wd q->p:=by intro K;exact hK ⟨.inl (G.pick1 0 B),K.1⟩):p:=f ⟨h⟩
theorem Ag(h:q)(f:Wd q->p:=by intro K;exact ⟨G.ext,aD (Value.int .i64) K.1⟩):p:=f ⟨h⟩
theorem r2(h:q)(f:Wd q->p:=by intro K;exact kA (i:=12) ac B K.1):p:=f ⟨h⟩
theorem mQ(h:q)(f:Wd q->p:=by intro K;exact S B B (av (v:=(J 0)) B B) K.1):p:=f ⟨h⟩
theorem Gw(h:q)(f:Wd q->p:=by intro K;exact S B B (av (v:=(J (i+1))) B B) K.1):p:=f ⟨h⟩
theorem Gx(h:q)(f:Wd q->p:=by intro K;exact hK ⟨.inl (G.pick2 3 2 B B B),K.1⟩):p:=f ⟨h⟩
theorem aDm(h:q)(f:Wd q->p:=by intro K;exact mG Tryz.results204 bb B B (G.at 1 B) mV B gz K.1):p:=f ⟨h⟩
theorem Le(h:q)(f:Wd q->p:=by intro K;exact S B B (Y9 B B B (by decide)) K.1):p:=f ⟨h⟩
theorem Ah(h:q)(f:Wd q->p:=by intro K;exact S B B (zT B B B aF I I) K.1):p:=f ⟨h⟩
theorem Ro(h:q)(f:Wd q->p:=by intro K;exact S B B (v7 B B en dq cAb cAc) K.1):p:=f ⟨h⟩
theorem p0(h:q)(f:Wd q->p:=by intro K;exact S B B (Y4 B B B) K.1):p:=f ⟨h⟩
theorem Rp(h:q)(f:Wd q->p:=by intro K;exact S B B (Qc B B B) K.1):p:=f ⟨h⟩
theorem ta(h:q)(f:Wd q->p:=by intro K;exact hK ⟨.inl (G.pick1 1 B),K.1⟩):p:=f ⟨h⟩
theorem qU(h:q)(f:Wd q->p:=by intro K;exact kA (i:=4) ac B K.1):p:=f ⟨h⟩
theorem kb(h:q)(f:Wd q->p:=by intro K;exact kA (i:=5) ac B K.1):p:=f ⟨h⟩
theorem kB(h:q)(f:Wd q->p:=by intro K;exact S B B (av B B) K.1):p:=f ⟨h⟩
theorem Ai(h:q)(f:Wd q->p:=by intro K;exact wp_ret K.1):p:=f ⟨h⟩
theorem aDn(h:q)(f:Wd q->p:=by intro K;exact S B B (av (v:=(J (h3 (gm (ba (s.take 4)) (ba (sub s 5 2)) (ba (sub s 8 2)))))) B B) K.1):p:=f ⟨h⟩
theorem pd(h:q)(f:Wd q->p:=by intro K;exact ⟨G.ext,aD Value.bool K.1⟩):p:=f ⟨h⟩
theorem ow(h:q)(f:Wd q->p:=by intro K;exact ⟨G.ext,_,B,K.1⟩):p:=f ⟨h⟩
theorem Rq(h:q)(f:Wd q->p:=by intro K;exact io Tryz.results199 aE B (G.at 0 B) sa B o9 K.1):p:=f ⟨h⟩
theorem aDo(h:q)(f:Wd q->p:=by intro K;exact S B B (iJ (a:=((itoa e.fr)++[32])) (b:=itoa e.tu) B B B mB) K.1):p:=f ⟨h⟩
theorem aDp(h:q)(f:Wd q->p:=by intro K;exact S B B (iJ (a:=(((itoa e.fr)++[32])++itoa e.tu)) (b:=[32]) B B B mB) K.1):p:=f ⟨h⟩
theorem qV(h:q)(f:Wd q->p:=by intro K;exact kA (i:=9) ac B K.1):p:=f ⟨h⟩
theorem p1(h:q)(f:Wd q->p:=by intro K;exact hK ⟨.inl (G.pick2 1 2 B B B),K.1⟩):p:=f ⟨h⟩
theorem Rr(h:q)(f:Wd q->p:=by intro K;exact aN B B B aO (λhc=>dm (s:=x) (i:=0) B ay B aF fO) K.1):p:=f ⟨h⟩
theorem lh(h:q)(f:Wd q->p:=by intro K;exact kA (i:=7) ac B K.1):p:=f ⟨h⟩
theorem li(h:q)(f:Wd q->p:=by intro K;exact kA (i:=6) ac B K.1):p:=f ⟨h⟩
theorem aDq(h:q)(f:Wd q->p:=by intro K;exact S B B (av (v:=(J bk)) B B) K.1):p:=f ⟨h⟩
theorem aDr(h:q)(f:Wd q->p:=by intro K;exact S B B (iJ (a:=((([105,110,100,101,120,32]++o3 x.fmt)++[32])++itoa x.size)) (b:=[32]) B B B mB) K.1):p:=f ⟨h⟩
theorem C7(h:q)(f:Wd q->p:=by intro K;exact hK ⟨.inl bZz,K.1⟩):p:=f ⟨h⟩
theorem Rt(h:q)(f:Wd q->p:=by intro K;exact j8 Tryz.results137 aL (G.at 2 B) fb B c6 K.1):p:=f ⟨h⟩
theorem nD(h:q)(f:Wd q->p:=by intro K;exact kA (i:=3) ac B K.1):p:=f ⟨h⟩
theorem mR(h:q)(f:Wd q->p:=by intro K;exact S B B (av (v:=(J i)) B B) K.1):p:=f ⟨h⟩
theorem uE(h:q)(f:Wd q->p:=by intro K;exact S B B (dm (s:=s) (i:=i) B B B aF I) K.1):p:=f ⟨h⟩
theorem Ru(h:q)(f:Wd q->p:=by intro K;exact S B B (av (v:=.int .u8 (((s.getD i 0).toNat:Nat):Int)) B B) K.1):p:=f ⟨h⟩
theorem Gy(h:q)(f:Wd q->p:=by intro K;exact aN B B B aO (λhc=>dm (s:=s) (i:=i) B ay ay aF fO) K.1):p:=f ⟨h⟩
theorem Lf(h:q)(f:Wd q->p:=by intro K;exact S B B (av (v:=(M s)) B B) K.1):p:=f ⟨h⟩
theorem Gz(h:q)(f:Wd q->p:=by intro K;exact be Tryz.results268 B K.1):p:=f ⟨h⟩
theorem C8(h:q)(f:Wd q->p:=by intro K;exact S B B (v7 B B en dq I I) K.1):p:=f ⟨h⟩
theorem Aj(h:q)(f:Wd q->p:=by intro K;exact S B B (av (v:=(J n)) B B) K.1):p:=f ⟨h⟩
theorem GA(h:q)(f:Wd q->p:=by intro K;exact dY Tryz.results212 B B K.1):p:=f ⟨h⟩
theorem x0(h:q)(f:Wd q->p:=by intro K;exact ⟨G.ext,K.1⟩):p:=f ⟨h⟩
theorem aDs(h:q)(f:Wd q->p:=by intro K;exact S B B (xR B B dq en) K.1):p:=f ⟨h⟩
theorem x1(h:q)(f:Wd q->p:=by intro K;exact S B B (Za B B B (by decide)) K.1):p:=f ⟨h⟩
theorem Ak(h:q)(f:Wd q->p:=by intro K;exact aN B B B a8 (λhc=>Qf B ay aF) K.1):p:=f ⟨h⟩
theorem x2(h:q)(f:Wd q->p:=by intro K;exact dY Tryz.results152 B B K.1):p:=f ⟨h⟩
theorem wk(h:q)(f:Wd q->p:=by intro K;exact S B B (Qf B B aF) K.1):p:=f ⟨h⟩
theorem Lg(h:q)(f:Wd q->p:=by intro K;exact aN B B B a8 (λhc=>rX B ay ay eJ eJ) K.1):p:=f ⟨h⟩
theorem aDt(h:q)(f:Wd q->p:=by intro K;exact aN B B B a8 (λhc=>aXj B ay ay ay aF eJ eJ eJ) K.1):p:=f ⟨h⟩
theorem Lh(h:q)(f:Wd q->p:=by intro K;exact dY Tryz.results95 B B K.1):p:=f ⟨h⟩
theorem Li(h:q)(f:Wd q->p:=by intro K;exact be Tryz.results193 B K.1):p:=f ⟨h⟩
theorem Lj(h:q)(f:Wd q->p:=by intro K;exact S B B (v7 B B en dq pdq pdq) K.1):p:=f ⟨h⟩
theorem GB(h:q)(f:Wd q->p:=by intro K;exact dY Tryz.results191 B B K.1):p:=f ⟨h⟩
theorem GC(h:q)(f:Wd q->p:=by intro K;exact dY Tryz.results121 B B K.1):p:=f ⟨h⟩
theorem GD(h:q)(f:Wd q->p:=by intro K;exact S B B (cT fk mJ B B B I I) K.1):p:=f ⟨h⟩
theorem aDu(h:q)(f:Wd q->p:=by intro K;exact S B B (av (v:=.int .i64 (((i:Nat):Int)-((1:Nat):Int))) B B) K.1):p:=f ⟨h⟩
theorem Lk(h:q)(f:Wd q->p:=by intro K;exact S B B (Za B B B I) K.1):p:=f ⟨h⟩
theorem jj(h:q)(f:Wd q->p:=by intro K;exact wp_seq K.1):p:=f ⟨h⟩
theorem nE(h:q)(f:Wd q->p:=by intro K;exact wp_region_lit K.1):p:=f ⟨h⟩
theorem eA(h:q)(f:Wd q->p:=by intro K;exact wpList_nil K.1):p:=f ⟨h⟩
theorem eW(h:q)(f:Wd q->p:=by intro K;exact S B B (cU B B) K.1):p:=f ⟨h⟩
theorem Al(h:q)(f:Wd q->p:=by intro K;exact S B B (ga (s:=s) (u:=([]:List UInt8)) B B B) K.1):p:=f ⟨h⟩
theorem GG(h:q)(f:Wd q->p:=by intro K;exact sP Tryz.results332 B B B K.1):p:=f ⟨h⟩
theorem iZ(h:q)(f:Wd q->p:=by intro K;exact wp_skip K.1):p:=f ⟨h⟩
theorem Am(h:q)(f:Wd q->p:=by intro K;exact S B B (dm (s:=s) (i:=0) B B B aF I) K.1):p:=f ⟨h⟩
theorem An(h:q)(f:Wd q->p:=by intro K;exact S B B (gQ B B B B) K.1):p:=f ⟨h⟩
theorem Rv(h:q)(f:Wd q->p:=by intro K;exact S B B (v7 B B en dq (Int.natCast_nonneg _) (cF4 _)) K.1):p:=f ⟨h⟩
theorem Rw(h:q)(f:Wd q->p:=by intro K;exact S B B (ka (s:=s) (i:=1) B B B aF I) K.1):p:=f ⟨h⟩
theorem Ao(h:q)(f:Wd q->p:=by intro K;exact S B B (Qe B B B) K.1):p:=f ⟨h⟩
theorem Rx(h:q)(f:Wd q->p:=by intro K;exact aN B B B a8 (λhc=>cU B B) K.1):p:=f ⟨h⟩
theorem Ll(h:q)(f:Wd q->p:=by intro K;exact aN B B B a8 (λhc=>gQ B ay B B) K.1):p:=f ⟨h⟩
theorem Ap(h:q)(f:Wd q->p:=by intro K;exact S B B (CK B B B B) K.1):p:=f ⟨h⟩
theorem ox(h:q)(f:Wd q->p:=by intro K;exact wp_block K.1):p:=f ⟨h⟩
theorem Ry(h:q)(f:Wd q->p:=by intro K;exact S B B (av (v:=(J j)) B B) K.1):p:=f ⟨h⟩
theorem oy(h:q)(f:Wd q->p:=by intro K;exact S B B (rX B B B I I) K.1):p:=f ⟨h⟩
theorem wl(h:q)(f:Wd q->p:=by intro K;exact S B B (cU B aB) K.1):p:=f ⟨h⟩
theorem Aq(h:q)(f:Wd q->p:=by intro K;exact S B B (oo (s:=s) B B aF) K.1):p:=f ⟨h⟩
theorem qW(h:q)(f:Wd q->p:=by intro K;exact S B B (cU B aL) K.1):p:=f ⟨h⟩
theorem Lm(h:q)(f:Wd q->p:=by intro K;exact S B B (sZ B B B I I) K.1):p:=f ⟨h⟩
theorem C9(h:q)(f:Wd q->p:=by intro K;exact S B B (cU B bF) K.1):p:=f ⟨h⟩
theorem aDv(h:q)(f:Wd q->p:=by intro K;exact S B B (Y8 G B fk en aF B) K.1):p:=f ⟨h⟩
theorem Ln(h:q)(f:Wd q->p:=by intro K;exact sP Tryz.results264 B B B K.1):p:=f ⟨h⟩
theorem aDw(h:q)(f:Wd q->p:=by intro K;exact S B B (av (v:=(J ((bL (s.drop (i+1))).1))) B B) K.1):p:=f ⟨h⟩
theorem Lo(h:q)(f:Wd q->p:=by intro K;exact S B B (av (v:=(J (dB (s.drop i)))) B B) K.1):p:=f ⟨h⟩
theorem Lq(h:q)(f:Wd q->p:=by intro K;exact S B B (av (v:=(J (i+dB (s.drop i)))) B B) K.1):p:=f ⟨h⟩
theorem Ar(h:q)(f:Wd q->p:=by intro K;exact dY Tryz.results328 B B K.1):p:=f ⟨h⟩
theorem GH(h:q)(f:Wd q->p:=by intro K;exact S B B (dm (s:=s) (i:=1) B B B aF I) K.1):p:=f ⟨h⟩
theorem aDx(h:q)(f:Wd q->p:=by intro K;exact aN B B B aO (λhc=>dm (s:=s) (i:=1) B ay B aF fO) K.1):p:=f ⟨h⟩
theorem Lr(h:q)(f:Wd q->p:=by intro K;exact dY Tryz.results327 B B K.1):p:=f ⟨h⟩
theorem GI(h:q)(f:Wd q->p:=by intro K;exact aN B B B a8 (λhc=>dm (s:=s) (i:=i) B ay ay aF fO) K.1):p:=f ⟨h⟩
theorem x3(h:q)(f:Wd q->p:=by intro K;exact sP Tryz.results260 B B B K.1):p:=f ⟨h⟩
theorem Rz(h:q)(f:Wd q->p:=by intro K;exact S B B (av (v:=(J H0)) B B) K.1):p:=f ⟨h⟩
theorem GJ(h:q)(f:Wd q->p:=by intro K;exact S B B (cd (qs:=[]) (bAb) B B) K.1):p:=f ⟨h⟩
theorem RA(h:q)(f:Wd q->p:=by intro K;exact io Tryz.results181 B B (G.at 0 B) Tryz.underlying150 B og K.1):p:=f ⟨h⟩
theorem GK(h:q)(f:Wd q->p:=by intro K;exact dY Tryz.results186 B B K.1):p:=f ⟨h⟩
theorem Ls(h:q)(f:Wd q->p:=by intro K;exact S B B (av (v:=(M Pm)) B B) K.1):p:=f ⟨h⟩
theorem GL(h:q)(f:Wd q->p:=by intro K;exact S B B (av (v:=(J yB)) B B) K.1):p:=f ⟨h⟩
theorem Da(h:q)(f:Wd q->p:=by intro K;exact S B B (av (v:=(J p)) B B) K.1):p:=f ⟨h⟩
theorem aDy(h:q)(f:Wd q->p:=by intro K;exact bw B (bx B) (λw G=>pb (s:=s) (i:=p) (j:=q) B B B B aF I I) K.1):p:=f ⟨h⟩
theorem RB(h:q)(f:Wd q->p:=by intro K;exact bw B (bx B) (λw G=>av (v:=(M (sub s p (q-p)))) B B) K.1):p:=f ⟨h⟩
theorem aDz(h:q)(f:Wd q->p:=by intro K;exact bw B (bx B) (λw G=>oo (s:=(sub s q n)) B B aF) K.1):p:=f ⟨h⟩
theorem aD0(h:q)(f:Wd q->p:=by intro K;exact cAz Tryz.results115 B aR (G.at 1 B) Tryz.underlying150 B og K.1):p:=f ⟨h⟩
theorem aD1(h:q)(f:Wd q->p:=by intro K;exact aN B B B a8 (λhc=>dm (s:=s) (i:=0) B ay B aF fO) K.1):p:=f ⟨h⟩
theorem Lt(h:q)(f:Wd q->p:=by intro K;exact aN B B B aO (λhc=>dm (s:=s) (i:=j) B ay ay aF fO) K.1):p:=f ⟨h⟩
theorem As(h:q)(f:Wd q->p:=by intro K;exact S B B (av (v:=(J (j+1))) B B) K.1):p:=f ⟨h⟩
theorem Db(h:q)(f:Wd q->p:=by intro K;exact aN B B B aO (λhc=>vY B ay ay aF eJ eJ) K.1):p:=f ⟨h⟩
theorem Lu(h:q)(f:Wd q->p:=by intro K;exact S B B (av (v:=(J (n+1))) B B) K.1):p:=f ⟨h⟩
theorem RC(h:q)(f:Wd q->p:=by intro K;exact S B B (av (v:=(M (cO s))) B B) K.1):p:=f ⟨h⟩
theorem aYq(h:q)(f:Wd q->p:=by intro K;exact S B B (cd (qs:=[]) (bAo) B B) K.1):p:=f ⟨h⟩
theorem RD(h:q)(f:Wd q->p:=by intro K;exact io Tryz.results283 B B (G.at 0 B) Tryz.underlying76 B sT K.1):p:=f ⟨h⟩
theorem RE(h:q)(f:Wd q->p:=by intro K;exact S B B (av (v:=(J (i0+aT (s.drop i0)))) B B) K.1):p:=f ⟨h⟩
theorem aD2(h:q)(f:Wd q->p:=by intro K;exact aN B B B a8 (λhc=>dm (s:=s) (i:=i0) B ay ay aF fO) K.1):p:=f ⟨h⟩
theorem r3(h:q)(f:Wd q->p:=by intro K;exact aN B B B aO (λhc=>rX B ay B eJ eJ) K.1):p:=f ⟨h⟩
theorem GM(h:q)(f:Wd q->p:=by intro K;exact io Tryz.results201 aE B (G.at 0 B) Tryz.underlying76 B sT K.1):p:=f ⟨h⟩
theorem aD3(h:q)(f:Wd q->p:=by intro K;exact S B B (av (v:=(J ((k+1)+aT (s.drop (k+1))))) B B) K.1):p:=f ⟨h⟩
theorem aD4(h:q)(f:Wd q->p:=by intro K;exact aN B B B a8 (λhc=>dm (s:=s) (i:=j) B ay ay aF fO) K.1):p:=f ⟨h⟩
theorem RF(h:q)(f:Wd q->p:=by intro K;exact aN B B B aO (λhc=>dm (s:=s) (i:=j+1) B ay ay aF fO) K.1):p:=f ⟨h⟩
theorem aD5(h:q)(f:Wd q->p:=by intro K;exact aN B B B a8 (λhc=>dm (s:=s) (i:=j+1) B ay ay aF fO) K.1):p:=f ⟨h⟩
theorem Lv(h:q)(f:Wd q->p:=by intro K;exact S B B (av (v:=(J (a+aT (s.drop a)))) B B) K.1):p:=f ⟨h⟩
theorem Lx(h:q)(f:Wd q->p:=by intro K;exact S B B (cGy B B I I) K.1):p:=f ⟨h⟩
theorem RG(h:q)(f:Wd q->p:=by intro K;exact S B B (CL (q:=8) B B B I (by decide)) K.1):p:=f ⟨h⟩
theorem aD6(h:q)(f:Wd q->p:=by intro K;exact S B B (s0 (r:=((7-i%8:Nat):Int)) B B B I I I) K.1):p:=f ⟨h⟩
theorem aD7(h:q)(f:Wd q->p:=by intro K;exact S B B (Y6 (m:=7-i%8) B B dq Tryz.underlying237 I) K.1):p:=f ⟨h⟩
theorem aD8(h:q)(f:Wd q->p:=by intro K;exact aN B B B aO (λhc=>v8 (q:=4) B l2 B (by decide)) K.1):p:=f ⟨h⟩
theorem x4(h:q)(f:Wd q->p:=by intro K;exact S B B (vY B B B aF I I) K.1):p:=f ⟨h⟩
theorem aD9(h:q)(f:Wd q->p:=by intro K;exact aN B B B a8 (λhc=>gQ B (fV hc B) ((fV hc B).trans (rG hc)) B) K.1):p:=f ⟨h⟩
theorem GN(h:q)(f:Wd q->p:=by intro K;exact cHn G mixed ac K.1):p:=f ⟨h⟩
theorem RH(h:q)(f:Wd q->p:=by intro K;exact fA B B (λw G cA=>cU B bF) K.1):p:=f ⟨h⟩
theorem GO(h:q)(f:Wd q->p:=by intro K;exact fA B B (λw G cA=>cU B B) K.1):p:=f ⟨h⟩
theorem RI(h:q)(f:Wd q->p:=by intro K;exact gy B B B aO (λhc w G cA=>cU B bF) K.1):p:=f ⟨h⟩
theorem aEa(h:q)(f:Wd q->p:=by intro K;exact gy B B B aO (λhc w G cA=>dm (s:=s) (i:=i) B ay ay aF fO) K.1):p:=f ⟨h⟩
theorem aEb(h:q)(f:Wd q->p:=by intro K;exact S B B (zV (p:=(s.getD i 0).toNat) (q:=48) B B B ⟨I,I⟩) K.1):p:=f ⟨h⟩
theorem aEc(h:q)(f:Wd q->p:=by intro K;exact S B B (v7 (m:=(((s.getD i 0).toNat-48:Nat):Int)) B B en dq I I) K.1):p:=f ⟨h⟩
theorem p2(h:q)(f:Wd q->p:=by intro K;exact kA (i:=2) ac B K.1):p:=f ⟨h⟩
theorem GP(h:q)(f:Wd q->p:=by intro K;exact hK ⟨.inl (Ctx.sub0 G),K.1⟩):p:=f ⟨h⟩
theorem aEd(h:q)(f:Wd q->p:=by intro K;exact aN B B B aO (λhc=>dm (s:=s.drop 8) (i:=n) B ay ay aF fO) K.1):p:=f ⟨h⟩
theorem aYr(h:q)(f:Wd q->p:=by intro K;exact S B B (cd (qs:=[]) (bAp) B B) K.1):p:=f ⟨h⟩
theorem RJ(h:q)(f:Wd q->p:=by intro K;exact io Tryz.results199 B B (G.at 0 B) sa B o9 K.1):p:=f ⟨h⟩
theorem aEe(h:q)(f:Wd q->p:=by intro K;exact aN B B B aO (λhc=>dm (s:=s.drop 10) (i:=0) B ay B aF fO) K.1):p:=f ⟨h⟩
theorem RL(h:q)(f:Wd q->p:=by intro K;exact io Tryz.results199 aE B (G.at 1 B) sa B o9 K.1):p:=f ⟨h⟩
theorem aEf(h:q)(f:Wd q->p:=by intro K;exact aN B B B a8 (λhc=>ga (s:=[48]) (u:=([]:List UInt8)) B ay B) K.1):p:=f ⟨h⟩
theorem aEg(h:q)(f:Wd q->p:=by intro K;exact aN B B B aO (λhc=>vY (s:=[48]) B (fV hc B) B aF (by decide) (by decide)) K.1):p:=f ⟨h⟩
theorem aEh(h:q)(f:Wd q->p:=by intro K;exact S B B (vY (s:=[48]) B B B aF (by decide) (by decide)) K.1):p:=f ⟨h⟩
theorem aEi(h:q)(f:Wd q->p:=by intro K;exact S B B (av (v:=(M (s.take (s.length-tz s)))) B B) K.1):p:=f ⟨h⟩
theorem RM(h:q)(f:Wd q->p:=by intro K;exact io Tryz.results388 B B (G.at 0 B) Tryz.underlying76 B sT K.1):p:=f ⟨h⟩
theorem GQ(h:q)(f:Wd q->p:=by intro K;exact dY Tryz.results188 B B K.1):p:=f ⟨h⟩
theorem p3(h:q)(f:Wd q->p:=by intro K;exact S B B (br B B aF B ((G.row 0 B).cell 0 B)) K.1):p:=f ⟨h⟩
theorem RN(h:q)(f:Wd q->p:=by intro K;exact aN B B B a8 (λhc=>uq B ay) K.1):p:=f ⟨h⟩
theorem Ly(h:q)(f:Wd q->p:=by intro K;exact S B B (aXc B B B aF I I) K.1):p:=f ⟨h⟩
theorem aEj(h:q)(f:Wd q->p:=by intro K;exact fA B B (λw G cA=>vY B B B aF I I) K.1):p:=f ⟨h⟩
theorem GR(h:q)(f:Wd q->p:=by intro K;exact aN B B B aO (λhc=>uq B ay) K.1):p:=f ⟨h⟩
theorem Lz(h:q)(f:Wd q->p:=by intro K;exact aN B B B aO (λhc=>br B ay aF B ((G.row 0 B).cell 0 B)) K.1):p:=f ⟨h⟩
theorem LA(h:q)(f:Wd q->p:=by intro K;exact be Tryz.results265 B K.1):p:=f ⟨h⟩
theorem RO(h:q)(f:Wd q->p:=by intro K;exact S B B (cd (qs:=[]) aIc B B) K.1):p:=f ⟨h⟩
theorem aEk(h:q)(f:Wd q->p:=by intro K;exact io Tryz.results189 B B (G.at 0 B) Tryz.underlying76 B sT K.1):p:=f ⟨h⟩
theorem aEl(h:q)(f:Wd q->p:=by intro K;exact S B B (ga (s:=x) (u:=[110,117,108,108]) B B B) K.1):p:=f ⟨h⟩
theorem aYs(h:q)(f:Wd q->p:=by intro K;exact S B B (cd (qs:=[]) (bBh) B B) K.1):p:=f ⟨h⟩
theorem Dc(h:q)(f:Wd q->p:=by intro K;exact S B B (ga (s:=x) (u:=[116,114,117,101]) B B B) K.1):p:=f ⟨h⟩
theorem aEm(h:q)(f:Wd q->p:=by intro K;exact S B B (ga (s:=x) (u:=[102,97,108,115,101]) B B B) K.1):p:=f ⟨h⟩
theorem aEn(h:q)(f:Wd q->p:=by intro K;exact S B B (cd (qs:=[(0,(J 1)),(1,.bool (decide (x=[116,114,117,101])))]) (bBi _ _) B B) K.1):p:=f ⟨h⟩
theorem Dd(h:q)(f:Wd q->p:=by intro K;exact io Tryz.results119 aE B (G.at 0 B) fb B c6 K.1):p:=f ⟨h⟩
theorem GS(h:q)(f:Wd q->p:=by intro K;exact S B B (dm (s:=x) (i:=0) B B B aF I) K.1):p:=f ⟨h⟩
theorem LB(h:q)(f:Wd q->p:=by intro K;exact S B B (ka (s:=x) (i:=1) B B B aF I) K.1):p:=f ⟨h⟩
theorem LC(h:q)(f:Wd q->p:=by intro K;exact io Tryz.results119 aE B (G.at 1 B) fb B c6 K.1):p:=f ⟨h⟩
theorem aEo(h:q)(f:Wd q->p:=by intro K;exact S B B (cd (qs:=[(0,(J 2)),(1,(M lead)),(2,(M (sub s a n)))]) (AQ _ _ _) B B) K.1):p:=f ⟨h⟩
theorem RP(h:q)(f:Wd q->p:=by intro K;exact S B B (cd (qs:=[(0,(J 5))]) (Hz _) B B) K.1):p:=f ⟨h⟩
theorem GU(h:q)(f:Wd q->p:=by intro K;exact bw B (bx B) (λw G=>cd (qs:=[]) (aH9) B B) K.1):p:=f ⟨h⟩
theorem aYt(h:q)(f:Wd q->p:=by intro K;exact S B B (cd (qs:=[]) (aH9) B B) K.1):p:=f ⟨h⟩
theorem GV(h:q)(f:Wd q->p:=by intro K;exact bXq Tryz.results26 B B B (G.at 2 B) (G.at 1 B) (G.at 0 B) de B bA dq B Tryz.underlying36 B K.1):p:=f ⟨h⟩
theorem aEp(h:q)(f:Wd q->p:=by intro K;exact cHq [{ target:=.fn (.func 64) #[ao bp 0,ao bH 0,ao bq 0],args:=#[]}] _ _ _ K.1):p:=f ⟨h⟩
theorem aEq(h:q)(f:Wd q->p:=by intro K;exact leaves_cons (f:=64) (args:=([ao bp 0,ao bH 0,ao bq 0]:List Value).toArray) (by simp) B K.1):p:=f ⟨h⟩
theorem LD(h:q)(f:Wd q->p:=by intro K;exact aI Tryz.func66 B Tryz.ntmps66 B K.1):p:=f ⟨h⟩
theorem RQ(h:q)(f:Wd q->p:=by intro K;exact S B B (cd (qs:=[(0,(J 6))]) (aId _) B B) K.1):p:=f ⟨h⟩
theorem aEr(h:q)(f:Wd q->p:=by intro K;exact S B B (cG (l:=nrow 5 [] [] (.slice (some ⟨lK,0,none⟩) ij dD) []) B B de B bA (cz.up G.ext) B) K.1):p:=f ⟨h⟩
theorem GW(h:q)(f:Wd q->p:=by intro K;exact bw B (bx B) (λw G=>cT dx bA B B B I I) K.1):p:=f ⟨h⟩
theorem LG(h:q)(f:Wd q->p:=by intro K;exact bw B (bx B) (λw G=>cG (l:=pc) B B de B bA (Ot.up G.ext) pM.len) K.1):p:=f ⟨h⟩
theorem RS(h:q)(f:Wd q->p:=by intro K;exact hK ⟨.inl (G.pick2 1 0 B B B),K.1⟩):p:=f ⟨h⟩
theorem aEs(h:q)(f:Wd q->p:=by intro K;exact j8 Tryz.results66 aE (G.at 1 B) fb B c6 K.1):p:=f ⟨h⟩
theorem LH(h:q)(f:Wd q->p:=by intro K;exact S B B (cT dx bA B B B I I) K.1):p:=f ⟨h⟩
theorem RT(h:q)(f:Wd q->p:=by intro K;exact S B B (cT dx bA B B B (by decide) (by show (0:Int)<((1:Nat):Int);decide)) K.1):p:=f ⟨h⟩
theorem RU(h:q)(f:Wd q->p:=by intro K;exact S B B (cd (qs:=[]) (bAv) B B) K.1):p:=f ⟨h⟩
theorem aEt(h:q)(f:Wd q->p:=by intro K;exact mG Tryz.results27 B B B (G.at 1 B) fb B c6 K.1):p:=f ⟨h⟩
theorem aEu(h:q)(f:Wd q->p:=by intro K;exact S B B (av (v:=(J (lead.length+text.length+tail.length))) B B) K.1):p:=f ⟨h⟩
theorem LI(h:q)(f:Wd q->p:=by intro K;exact S B B (cG (l:=nrow cy.kind cy.lead cy.text (.slice bj bg b4) cy.tail) B B de B bA (cz.up G.ext) B) K.1):p:=f ⟨h⟩
theorem aEv(h:q)(f:Wd q->p:=by intro K;exact S B B (cd (qs:=[(0,.bool (true)),(2,(J i))]) (SZ _ _) B B) K.1):p:=f ⟨h⟩
theorem aEw(h:q)(f:Wd q->p:=by intro K;exact bw B (bx B) (λw G=>cT qd Ku B bPr B I I) K.1):p:=f ⟨h⟩
theorem LJ(h:q)(f:Wd q->p:=by intro K;exact dP B B (dm (s:=s) (i:=i) B B B aF I) K.1):p:=f ⟨h⟩
theorem RV(h:q)(f:Wd q->p:=by intro K;exact dk B B B a8 (λhc=>uq B ay) K.1):p:=f ⟨h⟩
theorem At(h:q)(f:Wd q->p:=by intro K;exact dk B B B aO (λhc=>uq B ay) K.1):p:=f ⟨h⟩
theorem RW(h:q)(f:Wd q->p:=by intro K;exact dk B B B aO (λhc=>dm (s:=s) (i:=p) B ay ay aF fO) K.1):p:=f ⟨h⟩
theorem LK(h:q)(f:Wd q->p:=by intro K;exact be Tryz.results194 B K.1):p:=f ⟨h⟩
theorem De(h:q)(f:Wd q->p:=by intro K;exact be Tryz.results125 B K.1):p:=f ⟨h⟩
theorem aEx(h:q)(f:Wd q->p:=by intro K;exact ei G (G.pick1 0 B) mixed [(0,76),(1,77),(2,78),(3,79),(4,80),(5,81),(6,82),(7,83),(8,84),(9,85),(10,86),(11,87),(12,88)] #[true,true,true,true,true,true,true,true,true,true,true,true,true,false] ac ac ac ac K.1):p:=f ⟨h⟩
theorem aEy(h:q)(f:Wd q->p:=by intro K;exact dk B B B a8 (λhc=>dm (s:=x) (i:=0) B ay B aF fO) K.1):p:=f ⟨h⟩
theorem GX(h:q)(f:Wd q->p:=by intro K;exact S B B (av (v:=(M x)) B B) K.1):p:=f ⟨h⟩
theorem RX(h:q)(f:Wd q->p:=by intro K;exact S B B (cGp G B fk en aF B) K.1):p:=f ⟨h⟩
theorem aEz(h:q)(f:Wd q->p:=by intro K;exact S B B (pb (s:=x) (i:=1) (j:=x.length-1) B B B (aD (Value.int .i64) I) aF I I) K.1):p:=f ⟨h⟩
theorem aE0(h:q)(f:Wd q->p:=by intro K;exact S B B (iJ (a:=[d.quo]) (b:=[d.quo]) B B B FK) K.1):p:=f ⟨h⟩
theorem aE1(h:q)(f:Wd q->p:=by intro K;exact S B B (av (v:=(M (iO d.quo.toNat (sub x 1 (x.length-1-1))))) B B) K.1):p:=f ⟨h⟩
theorem aE2(h:q)(f:Wd q->p:=by intro K;exact io Tryz.results124 B B (G.at 1 B) de B bA K.1):p:=f ⟨h⟩
theorem RY(h:q)(f:Wd q->p:=by intro K;exact io Tryz.results124 aM B (G.at 1 B) de B bA K.1):p:=f ⟨h⟩
theorem RZ(h:q)(f:Wd q->p:=by intro K;exact hK ⟨.inl (G.pick2 1 3 B B B),K.1⟩):p:=f ⟨h⟩
theorem x5(h:q)(f:Wd q->p:=by intro K;exact aN B B B aO (λhc=>cU B B) K.1):p:=f ⟨h⟩
theorem Df(h:q)(f:Wd q->p:=by intro K;exact S B B (zS B B B B) K.1):p:=f ⟨h⟩
theorem LL(h:q)(f:Wd q->p:=by intro K;exact S B B (vZ B B) K.1):p:=f ⟨h⟩
theorem LM(h:q)(f:Wd q->p:=by intro K;exact aN B B B aO (λhc=>vZ B ay) K.1):p:=f ⟨h⟩
theorem Au(h:q)(f:Wd q->p:=by intro K;exact dP B B (gQ B B B B) K.1):p:=f ⟨h⟩
theorem Dg(h:q)(f:Wd q->p:=by intro K;exact dP B B (cU B B) K.1):p:=f ⟨h⟩
theorem GY(h:q)(f:Wd q->p:=by intro K;exact dk B B B aO (λhc=>gQ B ay ay B) K.1):p:=f ⟨h⟩
theorem Dh(h:q)(f:Wd q->p:=by intro K;exact dP B B (zS B B B B) K.1):p:=f ⟨h⟩
theorem aE3(h:q)(f:Wd q->p:=by intro K;exact bw B (bx B) (λw G=>cG B aS de B bA (G.row 0 B) B) K.1):p:=f ⟨h⟩
theorem GZ(h:q)(f:Wd q->p:=by intro K;exact bw B (bx B) (λw G=>cU B aB) K.1):p:=f ⟨h⟩
theorem R0(h:q)(f:Wd q->p:=by intro K;exact S B B (cG B aS de B bA (G.row 1 B) B) K.1):p:=f ⟨h⟩
theorem LN(h:q)(f:Wd q->p:=by intro K;exact io Tryz.results72 aM B (G.at 2 B) de B bA K.1):p:=f ⟨h⟩
theorem LO(h:q)(f:Wd q->p:=by intro K;exact S B B (bO yH B aS) K.1):p:=f ⟨h⟩
theorem aE4(h:q)(f:Wd q->p:=by intro K;exact S B B (br B B dx B (G.cell 0 B B)) K.1):p:=f ⟨h⟩
theorem R1(h:q)(f:Wd q->p:=by intro K;exact S B B (hJ B B dx) K.1):p:=f ⟨h⟩
theorem qX(h:q)(f:Wd q->p:=by intro K;exact S B B (uq B B) K.1):p:=f ⟨h⟩
theorem R2(h:q)(f:Wd q->p:=by intro K;exact mG Tryz.results29 B B B (G.at 0 B) de B bA K.1):p:=f ⟨h⟩
theorem aE5(h:q)(f:Wd q->p:=by intro K;exact S B B (av (v:=.int .i64 (if Fj<s.length then (Fj:Int) else -1)) B B) K.1):p:=f ⟨h⟩
theorem Di(h:q)(f:Wd q->p:=by intro K;exact hK ⟨.inl (G.pick1 2 B),K.1⟩):p:=f ⟨h⟩
theorem R3(h:q)(f:Wd q->p:=by intro K;exact bw B (bx B) (λw G=>cU B aM) K.1):p:=f ⟨h⟩
theorem aE6(h:q)(f:Wd q->p:=by intro K;exact hK ⟨.inl (by first | exact Cxr.pickF (A:=rs) G 1 B | exact Cxr.pickF (A:=_::rs) G 1 B),K.1⟩):p:=f ⟨h⟩
theorem R4(h:q)(f:Wd q->p:=by intro K;exact S B B (cd (qs:=[]) (bAh) B B) K.1):p:=f ⟨h⟩
theorem aE7(h:q)(f:Wd q->p:=by intro K;exact S B B (cG (l:=[.int .i64 (bD),.int .i64 (bK),.int .i64 (af),.int .i64 (aj),.int .i64 (ak)]) B B r9 B pV ((G.row 3 B).sub 0 B) B) K.1):p:=f ⟨h⟩
theorem R5(h:q)(f:Wd q->p:=by intro K;exact mG Tryz.results9 bb B B (G.at 3 B) q4 B oi K.1):p:=f ⟨h⟩
theorem R6(h:q)(f:Wd q->p:=by intro K;exact S B B (cG (l:=[.int .i64 (bD),.int .i64 (bK),.int .i64 (af),.int .i64 (aj),.int .i64 (ak)]) B B r9 B pV ((G.row 4 B).sub 0 B) B) K.1):p:=f ⟨h⟩
theorem LP(h:q)(f:Wd q->p:=by intro K;exact be Tryz.results409 B K.1):p:=f ⟨h⟩
theorem LQ(h:q)(f:Wd q->p:=by intro K;exact S B B (dm (s:=s) (i:=a+i) B B B aF I) K.1):p:=f ⟨h⟩
theorem LS(h:q)(f:Wd q->p:=by intro K;exact S B B (av (v:=(J (a+i+1))) B B) K.1):p:=f ⟨h⟩
theorem aE8(h:q)(f:Wd q->p:=by intro K;exact S B B (av (v:=(J ((bJ (s.drop (a+2))).2))) B B) K.1):p:=f ⟨h⟩
theorem aE9(h:q)(f:Wd q->p:=by intro K;exact S B B (av (v:=(J ((bJ (s.drop (a+2))).1))) B B) K.1):p:=f ⟨h⟩
theorem G0(h:q)(f:Wd q->p:=by intro K;exact sP Tryz.results389 B B B K.1):p:=f ⟨h⟩
theorem aFa(h:q)(f:Wd q->p:=by intro K;exact S B B (av (v:=(J ((bJ (s.drop (a+8))).1))) B B) K.1):p:=f ⟨h⟩
theorem wm(h:q)(f:Wd q->p:=by intro K;exact sP Tryz.results350 B B B K.1):p:=f ⟨h⟩
theorem G1(h:q)(f:Wd q->p:=by intro K;exact S B B (dm (s:=s) (i:=a+1) B B B aF I) K.1):p:=f ⟨h⟩
theorem R7(h:q)(f:Wd q->p:=by intro K;exact j8 Tryz.results134 B (G.at 0 B) mV B gz K.1):p:=f ⟨h⟩
theorem aFb(h:q)(f:Wd q->p:=by intro K;exact j8 Tryz.results79 B (G.at 0 B) mV B gz K.1):p:=f ⟨h⟩
theorem x6(h:q)(f:Wd q->p:=by intro K;exact aN B B B aO (λhc=>gQ B ay B B) K.1):p:=f ⟨h⟩
theorem wo(h:q)(f:Wd q->p:=by intro K;exact S B B (cU B aM) K.1):p:=f ⟨h⟩
theorem G2(h:q)(f:Wd q->p:=by intro K;exact dY Tryz.results133 B B K.1):p:=f ⟨h⟩
theorem R8(h:q)(f:Wd q->p:=by intro K;exact aN B B B a8 (λhc=>cU B aB) K.1):p:=f ⟨h⟩
theorem aFc(h:q)(f:Wd q->p:=by intro K;exact aN B B B a8 (λhc=>cU B ay) K.1):p:=f ⟨h⟩
theorem aYu(h:q)(f:Wd q->p:=by intro K;exact aN B B B a8 (λhc=>CJ hc B B B B) K.1):p:=f ⟨h⟩
theorem R9(h:q)(f:Wd q->p:=by intro K;exact aN B B B aO (λhc=>cU B aB) K.1):p:=f ⟨h⟩
theorem aFd(h:q)(f:Wd q->p:=by intro K;exact S B B (av (v:=(J (i0+aT (s.drop i0)+1+aT (s.drop (i0+aT (s.drop i0)+1))))) B B) K.1):p:=f ⟨h⟩
theorem Sa(h:q)(f:Wd q->p:=by intro K;exact S B B (av (v:=(J (a+1))) B B) K.1):p:=f ⟨h⟩
theorem Av(h:q)(f:Wd q->p:=by intro K;exact dY Tryz.results284 B B K.1):p:=f ⟨h⟩
theorem Sb(h:q)(f:Wd q->p:=by intro K;exact aN B B B aO (λhc=>dm (s:=s) (i:=a+1) B ay ay aF fO) K.1):p:=f ⟨h⟩
theorem LU(h:q)(f:Wd q->p:=by intro K;exact aN B B B aO (λhc=>dm (s:=s) (i:=a+i) B ay ay aF fO) K.1):p:=f ⟨h⟩
theorem aFe(h:q)(f:Wd q->p:=by intro K;exact aN B B B aO (λhc=>dm (s:=s) (i:=a+i+1) B ay ay aF fO) K.1):p:=f ⟨h⟩
theorem aFf(h:q)(f:Wd q->p:=by intro K;exact aN B B B a8 (λhc=>dm (s:=s) (i:=a+i) B ay ay aF fO) K.1):p:=f ⟨h⟩
theorem LV(h:q)(f:Wd q->p:=by intro K;exact S B B (av (v:=(J (a+i))) B B) K.1):p:=f ⟨h⟩
theorem Se(h:q)(f:Wd q->p:=by intro K;exact S B B (dm (s:=s) (i:=a) B B B aF I) K.1):p:=f ⟨h⟩
theorem r5(h:q)(f:Wd q->p:=by intro K;exact sP Tryz.results202 B B B K.1):p:=f ⟨h⟩
theorem aFg(h:q)(f:Wd q->p:=by intro K;exact S B B (av (v:=(J (if A1=0 then a+O7 else 0))) B B) K.1):p:=f ⟨h⟩
theorem aFh(h:q)(f:Wd q->p:=by intro K;exact S B B (av (v:=(J (if AZ=0 then a+O5 else 0))) B B) K.1):p:=f ⟨h⟩
theorem aFi(h:q)(f:Wd q->p:=by intro K;exact S B B (av (v:=(J (if A0=0 then a+1+O6 else 0))) B B) K.1):p:=f ⟨h⟩
theorem aFj(h:q)(f:Wd q->p:=by intro K;exact io Tryz.results131 B B (G.at 0 B) Tryz.underlying150 B og K.1):p:=f ⟨h⟩
theorem G3(h:q)(f:Wd q->p:=by intro K;exact dY Tryz.results198 B B K.1):p:=f ⟨h⟩
theorem Sf(h:q)(f:Wd q->p:=by intro K;exact aVi Tryz.results77 aE B aM (G.at 2 B) (G.at 1 B) mV B gz Tryz.underlying150 B og K.1):p:=f ⟨h⟩
theorem G4(h:q)(f:Wd q->p:=by intro K;exact hK ⟨.inl (G.pick2 3 0 B B B),K.1⟩):p:=f ⟨h⟩
theorem LW(h:q)(f:Wd q->p:=by intro K;exact be Tryz.results78 B K.1):p:=f ⟨h⟩
theorem aFk(h:q)(f:Wd q->p:=by intro K;exact aN B B B a8 (λhc=>ga (s:=x) (u:=[102,97,108,115,101]) B ay B) K.1):p:=f ⟨h⟩
theorem aYv(h:q)(f:Wd q->p:=by intro K;exact io Tryz.results127 B B (G.at 0 B) fb B c6 K.1):p:=f ⟨h⟩
theorem LX(h:q)(f:Wd q->p:=by intro K;exact io Tryz.results127 B B (G.at 1 B) fb B c6 K.1):p:=f ⟨h⟩
theorem aFl(h:q)(f:Wd q->p:=by intro K;exact Ko Tryz.results80 bb b6 (G.at 2 B) (G.at 1 B) mV B gz de B bA K.1):p:=f ⟨h⟩
theorem Sg(h:q)(f:Wd q->p:=by intro K;exact Ko Tryz.results135 aL aS (G.at 4 B) (G.at 3 B) mV B gz de B bA K.1):p:=f ⟨h⟩
theorem Sh(h:q)(f:Wd q->p:=by intro K;exact S B B (cT dx bA B (show _=Value.slice (some ⟨lb,0,none⟩) ks.length lc by rw [<- ez I];rfl) B I I) K.1):p:=f ⟨h⟩
theorem aFm(h:q)(f:Wd q->p:=by intro K;exact aN B B B aO (λhc=>cG B ay de B bA (G.row 0 B) B) K.1):p:=f ⟨h⟩
theorem aFn(h:q)(f:Wd q->p:=by intro K;exact aN B B B a8 (λhc=>hJ B X7 dx) K.1):p:=f ⟨h⟩
theorem x7(h:q)(f:Wd q->p:=by intro K;exact dY Tryz.results76 B B K.1):p:=f ⟨h⟩
theorem LY(h:q)(f:Wd q->p:=by intro K;exact S B B (av (v:=(J Fi)) B B) K.1):p:=f ⟨h⟩
theorem aFo(h:q)(f:Wd q->p:=by intro K;exact mG Tryz.results33 aM B B (G.at 3 B) de B bA K.1):p:=f ⟨h⟩
theorem Si(h:q)(f:Wd q->p:=by intro K;exact aI Tryz.func75 B Tryz.ntmps75 B K.1):p:=f ⟨h⟩
theorem aFp(h:q)(f:Wd q->p:=by intro K;exact S B B (cT dx bA B (show _=Value.slice (some ⟨lb,0,none⟩) l.length lc by rw [<- ez I];rfl) B I I) K.1):p:=f ⟨h⟩
theorem Sj(h:q)(f:Wd q->p:=by intro K;exact S B B (br B B dx B ((cz.up G.ext).cell 3 B)) K.1):p:=f ⟨h⟩
theorem aFq(h:q)(f:Wd q->p:=by intro K;exact j8 Tryz.results75 aE (G.at 1 B) fb B c6 K.1):p:=f ⟨h⟩
theorem aFr(h:q)(f:Wd q->p:=by intro K;exact mG Tryz.results32 B B B (G.at 1 B) fb B c6 K.1):p:=f ⟨h⟩
theorem aFs(h:q)(f:Wd q->p:=by intro K;exact dP B B (cT Tryz.underlying167 bN B (show _=Value.slice (some ⟨JG,0,none⟩) idx.length xu by rw [<- IS];rfl) B I I) K.1):p:=f ⟨h⟩
theorem aFt(h:q)(f:Wd q->p:=by intro K;exact dk B B B a8 (λhc=>cT Tryz.underlying167 bN B ((fV hc B).trans (show Value.slice JF idx.length xu=Value.slice (some ⟨JG,0,none⟩) idx.length xu by rw [<- IS])) (fV hc B) I I) K.1):p:=f ⟨h⟩
theorem aFu(h:q)(f:Wd q->p:=by intro K;exact dk B B B a8 (λhc=>br B (fV hc B) dq B J6) K.1):p:=f ⟨h⟩
theorem aFv(h:q)(f:Wd q->p:=by intro K;exact dk B B B a8 (λhc=>hJ B l2 dx) K.1):p:=f ⟨h⟩
theorem aFw(h:q)(f:Wd q->p:=by intro K;exact bw B (bx B) (λw G=>cT Tryz.underlying167 bN B (show _=Value.slice (some ⟨JG,0,none⟩) idx.length xu by rw [<- IS];rfl) B I I) K.1):p:=f ⟨h⟩
theorem aFx(h:q)(f:Wd q->p:=by intro K;exact bw B (bx B) (λw G=>br B B dq B J6) K.1):p:=f ⟨h⟩
theorem Sk(h:q)(f:Wd q->p:=by intro K;exact bw B (bx B) (λw G=>cT dx bA B (show _=Value.slice (some ⟨lb,0,none⟩) c.kids.length lc by rw [<- ez I];rfl) B I I) K.1):p:=f ⟨h⟩
theorem aFy(h:q)(f:Wd q->p:=by intro K;exact bw B (bx B) (λw G=>cG (l:=nrow cC.kind cC.lead cC.text (.slice JV cC.kids.length Ft) cC.tail) B B de B bA (cz.up G.ext) B) K.1):p:=f ⟨h⟩
theorem aFz(h:q)(f:Wd q->p:=by intro K;exact S B B (cT dx bA B (show _=Value.slice (some ⟨lb,0,none⟩) c.kids.length lc by rw [<- ez I];rfl) B I I) K.1):p:=f ⟨h⟩
theorem LZ(h:q)(f:Wd q->p:=by intro K;exact be Tryz.results15 B K.1):p:=f ⟨h⟩
theorem Sl(h:q)(f:Wd q->p:=by intro K;exact S B B (cT lp lM B B B I I) K.1):p:=f ⟨h⟩
theorem aF0(h:q)(f:Wd q->p:=by intro K;exact S B B (br B B pr B ((lZ.up G.ext).cell 0 B)) K.1):p:=f ⟨h⟩
theorem aF1(h:q)(f:Wd q->p:=by intro K;exact aN B B B aO (λhc=>cT lp lM B ay ay eJ eJ) K.1):p:=f ⟨h⟩
theorem L0(h:q)(f:Wd q->p:=by intro K;exact aN B B B a8 (λhc=>cT lp lM B ay ay eJ eJ) K.1):p:=f ⟨h⟩
theorem aF2(h:q)(f:Wd q->p:=by intro K;exact aN B B B a8 (λhc=>br B ay dq B ((lZ.up G.ext).cell 2 B)) K.1):p:=f ⟨h⟩
theorem aF3(h:q)(f:Wd q->p:=by intro K;exact aN B B B a8 (λhc=>br B ay aF B ((lZ.up G.ext).cell 1 B)) K.1):p:=f ⟨h⟩
theorem L1(h:q)(f:Wd q->p:=by intro K;exact be Tryz.results40 B K.1):p:=f ⟨h⟩
theorem aF4(h:q)(f:Wd q->p:=by intro K;exact S B B (cG B B Tryz.underlying107 B lM (lZ.up G.ext) B) K.1):p:=f ⟨h⟩
theorem G5(h:q)(f:Wd q->p:=by intro K;exact bw B (bx B) (λw G=>cT lp lM B (show _=Value.slice (some ⟨vG,uj,none⟩) p.length eV by rw [<- jP I];rfl) B I I) K.1):p:=f ⟨h⟩
theorem aF5(h:q)(f:Wd q->p:=by intro K;exact S B B (cG (l:=nrow t.kind t.lead t.text (.slice aSa t.kids.length aSb) t.tail) B B de B bA (nY.up G.ext) B) K.1):p:=f ⟨h⟩
theorem L2(h:q)(f:Wd q->p:=by intro K;exact S B B (cT lp lM B (show _=Value.slice (some ⟨vG,uj,none⟩) p.length eV by rw [<- jP I];rfl) B I I) K.1):p:=f ⟨h⟩
theorem aF6(h:q)(f:Wd q->p:=by intro K;exact bw B (bx B) (λw G=>cT qd Ku B (show _=Value.slice (some ⟨oN,0,none⟩) v.fields.length iR by rw [<- oT I];rfl) B I I) K.1):p:=f ⟨h⟩
theorem Sm(h:q)(f:Wd q->p:=by intro K;exact j8 Tryz.results83 B (G.at 0 B) po B nv K.1):p:=f ⟨h⟩
theorem Dj(h:q)(f:Wd q->p:=by intro K;exact be Tryz.results142 B K.1):p:=f ⟨h⟩
theorem Sn(h:q)(f:Wd q->p:=by intro K;exact S B B (bO u0 B B) K.1):p:=f ⟨h⟩
theorem Dm(h:q)(f:Wd q->p:=by intro K;exact S B B (br B B dq B (G.cell 1 B B)) K.1):p:=f ⟨h⟩
theorem G6(h:q)(f:Wd q->p:=by intro K;exact dP B B (br B B dq B (G.cell 1 B B)) K.1):p:=f ⟨h⟩
theorem G7(h:q)(f:Wd q->p:=by intro K;exact dP B B (br B B aF B (G.cell 1 B B)) K.1):p:=f ⟨h⟩
theorem So(h:q)(f:Wd q->p:=by intro K;exact dP B B (oo (s:=s) B B aF) K.1):p:=f ⟨h⟩
theorem Dn(h:q)(f:Wd q->p:=by intro K;exact dk B B B aO (λhc=>br B ay aF B (G.cell 1 B B)) K.1):p:=f ⟨h⟩
theorem Dq(h:q)(f:Wd q->p:=by intro K;exact dk B B B aO (λhc=>br B ay dq B (G.cell 1 B B)) K.1):p:=f ⟨h⟩
theorem Sp(h:q)(f:Wd q->p:=by intro K;exact dk B B B aO (λhc=>bO Ua B ay) K.1):p:=f ⟨h⟩
theorem L3(h:q)(f:Wd q->p:=by intro K;exact dk B B B aO (λhc=>br B ay en B (G.cell 1 B B)) K.1):p:=f ⟨h⟩
theorem L4(h:q)(f:Wd q->p:=by intro K;exact dP B B (bO u0 B aK) K.1):p:=f ⟨h⟩
theorem L5(h:q)(f:Wd q->p:=by intro K;exact dP B B (bO uZ B aK) K.1):p:=f ⟨h⟩
theorem G8(h:q)(f:Wd q->p:=by intro K;exact dk B B B aO (λhc=>bO uZ B aK) K.1):p:=f ⟨h⟩
theorem G9(h:q)(f:Wd q->p:=by intro K;exact dk B B B aO (λhc=>bO u0 B aK) K.1):p:=f ⟨h⟩
theorem L6(h:q)(f:Wd q->p:=by intro K;exact dk B B B aO (λhc=>dm (s:=s) (i:=i) B ay ay aF fO) K.1):p:=f ⟨h⟩
theorem Sq(h:q)(f:Wd q->p:=by intro K;exact dk B B B aO (λhc=>bO M5 B aK) K.1):p:=f ⟨h⟩
theorem aF7(h:q)(f:Wd q->p:=by intro K;exact dP B B (br B B en B (G.cell 1 B B)) K.1):p:=f ⟨h⟩
theorem uF(h:q)(f:Wd q->p:=by intro K;exact S B B (bO u0 B aK) K.1):p:=f ⟨h⟩
theorem aF8(h:q)(f:Wd q->p:=by intro K;exact S B B (br B B aF B (G.cell 1 B B)) K.1):p:=f ⟨h⟩
theorem aF9(h:q)(f:Wd q->p:=by intro K;exact S B B (cG B aK po B nv (G.row 1 B) B) K.1):p:=f ⟨h⟩
theorem L7(h:q)(f:Wd q->p:=by intro K;exact io Tryz.results140 aE B (G.at 0 B) po B nv K.1):p:=f ⟨h⟩
theorem aGa(h:q)(f:Wd q->p:=by intro K;exact ei G (G.pick1 1 B) mixed [(0,148),(1,149),(2,150),(3,151),(4,152),(5,153),(6,154)] #[true,true,true,true,true,true,true,false,false] ac ac ac ac K.1):p:=f ⟨h⟩
theorem aGb(h:q)(f:Wd q->p:=by intro K;exact bw B (bx B) (λw G=>cG B aK po B nv (G.row 0 B) B) K.1):p:=f ⟨h⟩
theorem aGc(h:q)(f:Wd q->p:=by intro K;exact bw B (bx B) (λw G=>br B B aF B (G.cell 0 B B)) K.1):p:=f ⟨h⟩
theorem aGd(h:q)(f:Wd q->p:=by intro K;exact bw B (bx B) (λw G=>br B B dq B (G.cell 0 B B)) K.1):p:=f ⟨h⟩
theorem L8(h:q)(f:Wd q->p:=by intro K;exact j8 Tryz.results141 B (G.at 0 B) po B nv K.1):p:=f ⟨h⟩
theorem aGe(h:q)(f:Wd q->p:=by intro K;exact aVh Tryz.results84 aL aS B (G.at 2 B) (G.at 1 B) po B nv de B bA K.1):p:=f ⟨h⟩
theorem Ha(h:q)(f:Wd q->p:=by intro K;exact hK ⟨.inl (G.pick2 4 1 B B B),K.1⟩):p:=f ⟨h⟩
theorem Sr(h:q)(f:Wd q->p:=by intro K;exact aVh Tryz.results84 aL aS B (G.at 3 B) (G.at 2 B) po B nv de B bA K.1):p:=f ⟨h⟩
theorem aGf(h:q)(f:Wd q->p:=by intro K;exact mG Tryz.results35 B B B (G.at 0 B) de B bA K.1):p:=f ⟨h⟩
theorem aGg(h:q)(f:Wd q->p:=by intro K;exact mG Tryz.results35 aL B B (G.at 2 B) de B bA K.1):p:=f ⟨h⟩
theorem Ss(h:q)(f:Wd q->p:=by intro K;exact hK ⟨.inl (G.pick2 0 1 B B B),K.1⟩):p:=f ⟨h⟩
theorem St(h:q)(f:Wd q->p:=by intro K;exact S B B (cT dx bA B (show _=Value.slice (some ⟨lb,0,none⟩) l.length lc by rw [<- hv.la I];rfl) B I I) K.1):p:=f ⟨h⟩
theorem Su(h:q)(f:Wd q->p:=by intro K;exact S B B (br B B dx B ((xk.up G.ext).cell 3 B)) K.1):p:=f ⟨h⟩
theorem aGh(h:q)(f:Wd q->p:=by intro K;exact bw B (bx B) (λw G=>cT dx bA B (show _=Value.slice (some ⟨lb,0,none⟩) l.length lc by rw [<- hv.la I];rfl) B I I) K.1):p:=f ⟨h⟩
theorem aGi(h:q)(f:Wd q->p:=by intro K;exact j8 Tryz.results137 B (G.at 1 B) fb B c6 K.1):p:=f ⟨h⟩
theorem aGj(h:q)(f:Wd q->p:=by intro K;exact bw B (bx B) (λw G=>cT mc gA B (show Value.slice jw (nmD d l).length iX=.slice (some ⟨nq,0,none⟩) (nmD d l).length iX by rw [I6 I]) B I I) K.1):p:=f ⟨h⟩
theorem aGk(h:q)(f:Wd q->p:=by intro K;exact S B B (br B B dq B (((cu 0 dA ap).up G.ext).cell 2 B)) K.1):p:=f ⟨h⟩
theorem aGl(h:q)(f:Wd q->p:=by intro K;exact mG Tryz.results34 B B B (G.at 1 B) fb B c6 K.1):p:=f ⟨h⟩
theorem Sv(h:q)(f:Wd q->p:=by intro K;exact aI Tryz.func38 B Tryz.ntmps38 B K.1):p:=f ⟨h⟩
theorem aGm(h:q)(f:Wd q->p:=by intro K;exact j8 Tryz.results38 B (G.at 1 B) Tryz.underlying52 B qO K.1):p:=f ⟨h⟩
theorem Sw(h:q)(f:Wd q->p:=by intro K;exact S B B (cd (qs:=[]) (bA6) B B) K.1):p:=f ⟨h⟩
theorem L9(h:q)(f:Wd q->p:=by intro K;exact S B B (bO aL6 B B) K.1):p:=f ⟨h⟩
theorem aGn(h:q)(f:Wd q->p:=by intro K;exact mG Tryz.results10 B B B (G.at 4 B) q4 B oi K.1):p:=f ⟨h⟩
theorem aGo(h:q)(f:Wd q->p:=by intro K;exact S B B (cG B B fb B c6 (G.row 0 B) B) K.1):p:=f ⟨h⟩
theorem aGp(h:q)(f:Wd q->p:=by intro K;exact S B B (cG (l:=[.int .i64 (bD),.int .i64 (bK),.int .i64 (af),.int .i64 (aj),.int .i64 (ak)]) B B r9 B pV ((G.row 5 B).sub 0 B) B) K.1):p:=f ⟨h⟩
theorem aGq(h:q)(f:Wd q->p:=by intro K;exact S B B (cG (l:=[.int .u8 ((d.sep.toNat:Nat):Int),.int .u8 ((d.quo.toNat:Nat):Int),.bool (d.hdr),.bool (d.typ)]) B B q3 B pW ((G.row 5 B).sub 5 B) B) K.1):p:=f ⟨h⟩
theorem Ma(h:q)(f:Wd q->p:=by intro K;exact S B B (cU B Jp) K.1):p:=f ⟨h⟩
theorem aGr(h:q)(f:Wd q->p:=by intro K;exact dP B B (cT lp lM B B B I I) K.1):p:=f ⟨h⟩
theorem Sy(h:q)(f:Wd q->p:=by intro K;exact S B B (br B B aF B ((lZ.up G.ext).cell 0 B)) K.1):p:=f ⟨h⟩
theorem kR(h:q)(f:Wd q->p:=by intro K;exact wp_cond_false (show (aC _ _).eval _=_ by rw [eS];rfl) K.1):p:=f ⟨h⟩
theorem Mb(h:q)(f:Wd q->p:=by intro K;exact wp_cond_true (show (aC _ _).eval _=_ by rw [eS];rfl) K.1):p:=f ⟨h⟩
theorem Dr(h:q)(f:Wd q->p:=by intro K;exact S B B (xR B B dq Tryz.underlying237) K.1):p:=f ⟨h⟩
theorem aGs(h:q)(f:Wd q->p:=by intro K;exact S B B (zT B B B aF I (by show _<(36:Int);omega)) K.1):p:=f ⟨h⟩
theorem Sz(h:q)(f:Wd q->p:=by intro K;exact S B B (aXe Tryz.underlying360 aWk B cV B (by decide) (by decide)) K.1):p:=f ⟨h⟩
theorem aGt(h:q)(f:Wd q->p:=by intro K;exact S B B (cG5 B cV B Tryz.underlying360 aWk (by decide) (by decide)) K.1):p:=f ⟨h⟩
theorem Hb(h:q)(f:Wd q->p:=by intro K;exact aN B B B aO (λhc=>zT B ay ay aF eJ eJ) K.1):p:=f ⟨h⟩
theorem aGu(h:q)(f:Wd q->p:=by intro K;exact aN B B B a8 (λhc=>zT B ay ay aF eJ eJ) K.1):p:=f ⟨h⟩
theorem Hc(h:q)(f:Wd q->p:=by intro K;exact S B B (iJ B B B aT8) K.1):p:=f ⟨h⟩
theorem aGv(h:q)(f:Wd q->p:=by intro K;exact gy B B B (by exact F8 B) (λhc w G cA=>bO T8 B B) K.1):p:=f ⟨h⟩
theorem aGw(h:q)(f:Wd q->p:=by intro K;exact gy B B B (by exact F8 B) (λhc w G cA=>br B (fV hc B) aF B (G.cell 0 B B)) K.1):p:=f ⟨h⟩
theorem aYw(h:q)(f:Wd q->p:=by intro K;exact be Tryz.results13 B K.1):p:=f ⟨h⟩
theorem aGx(h:q)(f:Wd q->p:=by intro K;exact S B B (cG B B Tryz.underlying52 B qO (lZ.up G.ext) B) K.1):p:=f ⟨h⟩
theorem Ds(h:q)(f:Wd q->p:=by intro K;exact S B B (br B B dq B (G.cell 0 B B)) K.1):p:=f ⟨h⟩
theorem aGy(h:q)(f:Wd q->p:=by intro K;exact aN B B B a8 (λhc=>br B ay dq B (G.cell 1 B B)) K.1):p:=f ⟨h⟩
theorem Mc(h:q)(f:Wd q->p:=by intro K;exact aN B B B a8 (λhc=>br B ay dq B (G.cell 0 B B)) K.1):p:=f ⟨h⟩
theorem Md(h:q)(f:Wd q->p:=by intro K;exact aN B B B a8 (λhc=>gQ B ay ay B) K.1):p:=f ⟨h⟩
theorem aGz(h:q)(f:Wd q->p:=by intro K;exact aN B B B a8 (λhc=>hJ B ay mc) K.1):p:=f ⟨h⟩
theorem aG0(h:q)(f:Wd q->p:=by intro K;exact aN B B B a8 (λhc=>hJ B ay oA) K.1):p:=f ⟨h⟩
theorem aG1(h:q)(f:Wd q->p:=by intro K;exact fA B B (λw G cA=>cT mc gA B B B I I) K.1):p:=f ⟨h⟩
theorem aG2(h:q)(f:Wd q->p:=by intro K;exact fA B B (λw G cA=>cT oA qO B B B I I) K.1):p:=f ⟨h⟩
theorem aG3(h:q)(f:Wd q->p:=by intro K;exact gy B B B a8 (λhc w G cA=>cT oA qO B ay ay eJ eJ) K.1):p:=f ⟨h⟩
theorem Me(h:q)(f:Wd q->p:=by intro K;exact S B B (bO aL3 B B) K.1):p:=f ⟨h⟩
theorem SA(h:q)(f:Wd q->p:=by intro K;exact S B B (br B B Tryz.underlying243 B (G.cell 0 B B)) K.1):p:=f ⟨h⟩
theorem Mf(h:q)(f:Wd q->p:=by intro K;exact S B B (bO aL4 B B) K.1):p:=f ⟨h⟩
theorem aG4(h:q)(f:Wd q->p:=by intro K;exact S B B (br B B fk B (G.cell 0 B B)) K.1):p:=f ⟨h⟩
theorem Hd(h:q)(f:Wd q->p:=by intro K;exact S B B (bO M6 B B) K.1):p:=f ⟨h⟩
theorem aG5(h:q)(f:Wd q->p:=by intro K;exact aN B B B aO (λhc=>cG B l2 Tryz.underlying76 B sT (l:=[.bool false,.string ByteArray.empty,.int .i64 0]) ((G.row 0 B).sub 2 B) B) K.1):p:=f ⟨h⟩
theorem aG6(h:q)(f:Wd q->p:=by intro K;exact aN B B B aO (λhc=>cG B l2 sa B o9 (l:=[.int .i64 0,.int .i64 0,.int .i64 0,.int .i64 0]) ((G.row 0 B).sub 5 B) B) K.1):p:=f ⟨h⟩
theorem aG7(h:q)(f:Wd q->p:=by intro K;exact aN B B B aO (λhc=>br B ay aF B (G.cell 0 B B)) K.1):p:=f ⟨h⟩
theorem aG8(h:q)(f:Wd q->p:=by intro K;exact S B B (br B B aF B (G.cell 0 B B)) K.1):p:=f ⟨h⟩
theorem aG9(h:q)(f:Wd q->p:=by intro K;exact S B B (br B B qd B (G.cell 0 B B)) K.1):p:=f ⟨h⟩
theorem SB(h:q)(f:Wd q->p:=by intro K;exact ⟨h8-1,_,I,B,i+1,I,aB,aK,B,h.eq K.1⟩):p:=f ⟨h⟩
theorem aHa(h:q)(f:Wd q->p:=by intro K;exact S B B (iJ (a:=(([105,110,100,101,120,32]++o3 x.fmt)++[32])) (b:=itoa x.size) B B B mB) K.1):p:=f ⟨h⟩
theorem SC(h:q)(f:Wd q->p:=by intro K;exact S B B (iJ (a:=(itoa e.fr)) (b:=[32]) B B B mB) K.1):p:=f ⟨h⟩
theorem dR(h:q)(f:Wd q->p:=by intro K;refine jj ?_;exact nE K.1):p:=f ⟨h⟩
theorem lj(h:q)(f:Wd q->p:=by intro K;refine ST ?_;exact ST K.1):p:=f ⟨h⟩
theorem kC(h:q)(f:Wd q->p:=by intro K;refine eY ?_;exact eY K.1):p:=f ⟨h⟩
theorem jF(h:q)(f:Wd q->p:=by intro K;refine kB ?_;exact eA K.1):p:=f ⟨h⟩
theorem eR(h:q)(f:Wd q->p:=by intro K;refine dR ?_;exact eW K.1):p:=f ⟨h⟩
theorem hY(h:q)(f:Wd q->p:=by intro K;refine dQ ?_;exact Rn K.1):p:=f ⟨h⟩
theorem ej(h:q)(f:Wd q->p:=by intro K;refine ab ?_;exact dQ K.1):p:=f ⟨h⟩
theorem oz(h:q)(f:Wd q->p:=by intro K;refine lj ?_;exact lj K.1):p:=f ⟨h⟩
theorem i1(h:q)(f:Wd q->p:=by intro K;refine kC ?_;exact kC K.1):p:=f ⟨h⟩
theorem qY(h:q)(f:Wd q->p:=by intro K;refine jF ?_;exact Ai K.1):p:=f ⟨h⟩
theorem x8(h:q)(f:Wd q->p:=by intro K;refine Gw ?_;exact ab K.1):p:=f ⟨h⟩
theorem pe(h:q)(f:Wd q->p:=by intro K;refine kB ?_;exact qY K.1):p:=f ⟨h⟩
theorem p4(h:q)(f:Wd q->p:=by intro K;refine eA ?_;exact jj K.1):p:=f ⟨h⟩
theorem l5(h:q)(f:Wd q->p:=by intro K;refine An ?_;exact eA K.1):p:=f ⟨h⟩
theorem l6(h:q)(f:Wd q->p:=by intro K;refine hY ?_;exact ab K.1):p:=f ⟨h⟩
theorem lk(h:q)(f:Wd q->p:=by intro K;refine kC ?_;exact eY K.1):p:=f ⟨h⟩
theorem Dt(h:q)(f:Wd q->p:=by intro K;refine dR ?_;exact kB K.1):p:=f ⟨h⟩
theorem l7(h:q)(f:Wd q->p:=by intro K;refine An ?_;exact eW K.1):p:=f ⟨h⟩
theorem nF(h:q)(f:Wd q->p:=by intro K;refine jj ?_;exact dR K.1):p:=f ⟨h⟩
theorem wq(h:q)(f:Wd q->p:=by intro K;refine oz ?_;exact oz K.1):p:=f ⟨h⟩
theorem pf(h:q)(f:Wd q->p:=by intro K;refine An ?_;exact jF K.1):p:=f ⟨h⟩
theorem pg(h:q)(f:Wd q->p:=by intro K;refine Rm ?_;exact aDq K.1):p:=f ⟨h⟩
theorem x9(h:q)(f:Wd q->p:=by intro K;refine lj ?_;exact ST K.1):p:=f ⟨h⟩
theorem Mg(h:q)(f:Wd q->p:=by intro K;refine Dt ?_;exact pe K.1):p:=f ⟨h⟩
theorem aYx(h:q)(f:Wd q->p:=by intro K;refine eW ?_;exact Ao K.1):p:=f ⟨h⟩
theorem p5(h:q)(f:Wd q->p:=by intro K;refine aYx ?_;exact Ao K.1):p:=f ⟨h⟩
theorem ya(h:q)(f:Wd q->p:=by intro K;refine p4 ?_;exact eR K.1):p:=f ⟨h⟩
theorem p6(h:q)(f:Wd q->p:=by intro K;refine eW ?_;exact oy K.1):p:=f ⟨h⟩
theorem qZ(h:q)(f:Wd q->p:=by intro K;refine an ?_;exact x8 K.1):p:=f ⟨h⟩
theorem r6(h:q)(f:Wd q->p:=by intro K;refine ag ?_;exact aYs K.1):p:=f ⟨h⟩
theorem He(h:q)(f:Wd q->p:=by intro K;refine Rp ?_;exact aDs K.1):p:=f ⟨h⟩
theorem Mh(h:q)(f:Wd q->p:=by intro K;refine Ll ?_;exact Ap K.1):p:=f ⟨h⟩
theorem tb(h:q)(f:Wd q->p:=by intro K;refine iZ ?_;exact dR K.1):p:=f ⟨h⟩
theorem Hf(h:q)(f:Wd q->p:=by intro K;refine iZ ?_;exact jj K.1):p:=f ⟨h⟩
theorem uG(h:q)(f:Wd q->p:=by intro K;refine wl ?_;exact Aq K.1):p:=f ⟨h⟩
theorem uH(h:q)(f:Wd q->p:=by intro K;refine eA ?_;exact dR K.1):p:=f ⟨h⟩
theorem Hg(h:q)(f:Wd q->p:=by intro K;refine hY ?_;exact ae K.1):p:=f ⟨h⟩
theorem wt(h:q)(f:Wd q->p:=by intro K;refine ag ?_;exact aYq K.1):p:=f ⟨h⟩
theorem wu(h:q)(f:Wd q->p:=by intro K;refine ag ?_;exact aYt K.1):p:=f ⟨h⟩
theorem Aw(h:q)(f:Wd q->p:=by intro K;refine wp_exit ?_;exact dR K.1):p:=f ⟨h⟩
theorem aHb(h:q)(f:Wd q->p:=by intro K;refine S B B (av (v:=(J ((gB s).2))) B B) ?_;exact S B B (av (v:=(J ((gB s).1))) B B) K.1):p:=f ⟨h⟩
theorem Hh(h:q)(f:Wd q->p:=by intro K;refine x0 ?_;exact cFv K.1 h2 B B):p:=f ⟨h⟩
theorem yb(h:q)(f:Wd q->p:=by intro K;refine Rx ?_;exact Mh K.1):p:=f ⟨h⟩
theorem yc(h:q)(f:Wd q->p:=by intro K;refine eA ?_;exact Ai K.1):p:=f ⟨h⟩
theorem SD(h:q)(f:Wd q->p:=by intro K;refine eW ?_;exact eA K.1):p:=f ⟨h⟩
theorem yd(h:q)(f:Wd q->p:=by intro K;refine iZ ?_;exact nE K.1):p:=f ⟨h⟩
theorem ye(h:q)(f:Wd q->p:=by intro K;refine wq ?_;exact x9 K.1):p:=f ⟨h⟩
theorem yf(h:q)(f:Wd q->p:=by intro K;refine i1 ?_;exact i1 K.1):p:=f ⟨h⟩
theorem yg(h:q)(f:Wd q->p:=by intro K;refine jF ?_;exact eR K.1):p:=f ⟨h⟩
theorem SE(h:q)(f:Wd q->p:=by intro K;refine Ll ?_;exact aFc K.1):p:=f ⟨h⟩
theorem yh(h:q)(f:Wd q->p:=by intro K;refine aYu ?_;exact Ap K.1):p:=f ⟨h⟩
theorem yi(h:q)(f:Wd q->p:=by intro K;refine kR ?_;exact dR K.1):p:=f ⟨h⟩
theorem aHc(h:q)(f:Wd q->p:=by intro K;refine S B B (av (v:=.int .i64 (o)) B B) ?_;exact S B B (av (v:=.int .i64 (e)) B B) K.1):p:=f ⟨h⟩
theorem yj(h:q)(f:Wd q->p:=by intro K;refine aq ?_;exact x8 K.1):p:=f ⟨h⟩
theorem aHd(h:q)(f:Wd q->p:=by intro K;refine dY Tryz.results216 cp B ?_;exact ⟨G.ext,_,aD (λz=>Value.tuple #[_,Value.string z]) K.1⟩):p:=f ⟨h⟩
theorem aHe(h:q)(f:Wd q->p:=by intro K;refine S B B (av (v:=(J bYa)) B B) ?_;exact S B B (av (v:=(J bIj)) B B) K.1):p:=f ⟨h⟩
theorem aHf(h:q)(f:Wd q->p:=by intro K;refine S B B (av (v:=(J Pc)) B B) ?_;exact S B B (av (v:=(J MU)) B B) K.1):p:=f ⟨h⟩
theorem aHg(h:q)(f:Wd q->p:=by intro K;refine S B B (av (v:=(J aTk)) B B) ?_;exact S B B (av (v:=(J aKz)) B B) K.1):p:=f ⟨h⟩
theorem aHh(h:q)(f:Wd q->p:=by intro K;refine S B B (av (v:=(J aTl)) B B) ?_;exact S B B (av (v:=(J aK0)) B B) K.1):p:=f ⟨h⟩
theorem Ax(h:q)(f:Wd q->p:=by intro K;refine p0 ?_;exact He K.1):p:=f ⟨h⟩
theorem Ay(h:q)(f:Wd q->p:=by intro K;refine ya ?_;exact l5 K.1):p:=f ⟨h⟩
theorem Az(h:q)(f:Wd q->p:=by intro K;refine ab ?_;exact Gs K.1):p:=f ⟨h⟩
theorem AA(h:q)(f:Wd q->p:=by intro K;refine ag ?_;exact aYr K.1):p:=f ⟨h⟩
theorem AB(h:q)(f:Wd q->p:=by intro K;refine ab ?_;exact l6 K.1):p:=f ⟨h⟩
theorem AC(h:q)(f:Wd q->p:=by intro K;refine ae ?_;exact aYv K.1):p:=f ⟨h⟩
theorem Du(h:q)(f:Wd q->p:=by intro K;refine dQ ?_;exact C6 K.1):p:=f ⟨h⟩
theorem Dv(h:q)(f:Wd q->p:=by intro K;refine dQ ?_;exact qV K.1):p:=f ⟨h⟩
theorem Dw(h:q)(f:Wd q->p:=by intro K;refine cF ?_;exact Gy K.1):p:=f ⟨h⟩
theorem Dx(h:q)(f:Wd q->p:=by intro K;refine Mg ?_;exact GG K.1):p:=f ⟨h⟩
theorem Dy(h:q)(f:Wd q->p:=by intro K;refine eA ?_;exact eR K.1):p:=f ⟨h⟩
theorem Dz(h:q)(f:Wd q->p:=by intro K;refine SD ?_;exact ox K.1):p:=f ⟨h⟩
theorem DA(h:q)(f:Wd q->p:=by intro K;refine Hf ?_;exact ox K.1):p:=f ⟨h⟩
theorem DB(h:q)(f:Wd q->p:=by intro K;refine jF ?_;exact dR K.1):p:=f ⟨h⟩
theorem DC(h:q)(f:Wd q->p:=by intro K;refine dR ?_;exact wl K.1):p:=f ⟨h⟩
theorem DD(h:q)(f:Wd q->p:=by intro K;refine Df ?_;exact eA K.1):p:=f ⟨h⟩
theorem DE(h:q)(f:Wd q->p:=by intro K;refine Mg ?_;exact G0 K.1):p:=f ⟨h⟩
theorem DF(h:q)(f:Wd q->p:=by intro K;refine Hg ?_;exact x8 K.1):p:=f ⟨h⟩
theorem DG(h:q)(f:Wd q->p:=by intro K;refine Dm ?_;exact oy K.1):p:=f ⟨h⟩
theorem DH(h:q)(f:Wd q->p:=by intro K;refine aYw ?_;exact ow K.1):p:=f ⟨h⟩
theorem aYy(h:q)(f:Wd q->p:=by intro K;refine eW ?_;exact aFc K.1):p:=f ⟨h⟩
theorem DI(h:q)(f:Wd q->p:=by intro K;refine aYy ?_;exact SE K.1):p:=f ⟨h⟩
theorem aHi(h:q)(f:Wd q->p:=by intro K;refine dP B B (bO M5 B aK) ?_;exact dP B B (bO Ua B B) K.1):p:=f ⟨h⟩
theorem aHj(h:q)(f:Wd q->p:=by intro K;refine dP B B (ga (s:=x) (u:=([]:List UInt8)) B B B) ?_;exact lj K.1):p:=f ⟨h⟩
theorem Gi(h:q)(f:Wd q->p:=by intro K;exact vL G oB c6 aYc B B B B B B B B K.1):p:=f ⟨h⟩
theorem aCi(h:q)(f:Wd q->p:=by intro K;exact cC6 G nN D8 mB fk aF B B B B B K.1):p:=f ⟨h⟩
theorem pY(h:q)(f:Wd q->p:=by intro K;exact bn G 0 B B B B B B og B B K.1):p:=f ⟨h⟩
theorem Rd(h:q)(f:Wd q->p:=by intro K;exact cDo G B B B B B bA bZx B K.1):p:=f ⟨h⟩
theorem Rh(h:q)(f:Wd q->p:=by intro K;exact bR (v:=.slice (some ⟨pB,0,none⟩) (n+1) mY) G 1 B B B B B B B B mK K.1):p:=f ⟨h⟩
theorem aDf(h:q)(f:Wd q->p:=by intro K;exact nu G TZ lp B B B B B (G.row 0 B) B B I K.1):p:=f ⟨h⟩
theorem K9(h:q)(f:Wd q->p:=by intro K;exact bR (v:=.bool true) G 0 B B B B B B B B xM K.1):p:=f ⟨h⟩
theorem Gr(h:q)(f:Wd q->p:=by intro K;exact bG G (bFh _ _ _ (hp.up G.ext) (λs hs=>(Bz.2 s hs).gds) Bz.1 (ht.up G.ext)) Tryz.func41 B B B B B B K.1):p:=f ⟨h⟩
theorem dv(h:q)(f:Wd q->p:=by intro K;exact kN G z72 B B B K.1):p:=f ⟨h⟩
theorem ov(h:q)(f:Wd q->p:=by intro K;exact kN G cH7 B B B K.1):p:=f ⟨h⟩
theorem aDg(h:q)(f:Wd q->p:=by intro K;exact bW (Tp t0.print d 48 65536 1048576 1024 65536 _ I) Tryz.func35 B B B B B B K.1):p:=f ⟨h⟩
theorem s7(h:q)(f:Wd q->p:=by intro K;exact bn G 0 B B B B B B bA B (lL B) K.1):p:=f ⟨h⟩
theorem La(h:q)(f:Wd q->p:=by intro K;exact bo G (bFl _) Tryz.func60 B B B B B B K.1):p:=f ⟨h⟩
theorem qT(h:q)(f:Wd q->p:=by intro K;exact vL G fk mJ z5 B B B B B B B B K.1):p:=f ⟨h⟩
theorem Ri(h:q)(f:Wd q->p:=by intro K;exact aVs G fk mJ z5 B B B B B B B K.1):p:=f ⟨h⟩
theorem C4(h:q)(f:Wd q->p:=by intro K;exact vL G Tryz.underlying167 bN z3 B B B B B B B B K.1):p:=f ⟨h⟩
theorem Rj(h:q)(f:Wd q->p:=by intro K;exact nu G bIx Tryz.underlying167 B B B B B (G.row 0 B) B B I K.1):p:=f ⟨h⟩
theorem Rk(h:q)(f:Wd q->p:=by intro K;exact bG G (aIq (bs s) i _ vC vC) Tryz.func121 B B B B B B K.1):p:=f ⟨h⟩
theorem bE(h:q)(f:Wd q->p:=by intro K;exact cC9 G B B B B B K.1):p:=f ⟨h⟩
theorem aDh(h:q)(f:Wd q->p:=by intro K;exact bR (v:=(J (nodes+1))) G 1 B B B B B B B B bN K.1):p:=f ⟨h⟩
theorem iu(h:q)(f:Wd q->p:=by intro K;exact cHo G mixed ac K.1):p:=f ⟨h⟩
theorem cW(h:q)(f:Wd q->p:=by intro K;exact cBc K.1):p:=f ⟨h⟩
theorem aDi(h:q)(f:Wd q->p:=by intro K;exact bG G (bCh s q _ cR I) Tryz.func181 B B B B B B K.1):p:=f ⟨h⟩
theorem aDj(h:q)(f:Wd q->p:=by intro K;exact bR (v:=(J (q+(sub s q n).length))) G 2 B B B B B B B B bN K.1):p:=f ⟨h⟩
theorem lg(h:q)(f:Wd q->p:=by intro K;exact vL G dx bA z72 B B B B B B B B K.1):p:=f ⟨h⟩
theorem s8(h:q)(f:Wd q->p:=by intro K;exact nu G D7 dx B B B B B (G.row 0 B) B B I K.1):p:=f ⟨h⟩
theorem aDk(h:q)(f:Wd q->p:=by intro K;exact bo G (bEo s _ I) Tryz.func352 B B B B B B K.1):p:=f ⟨h⟩
theorem wj(h:q)(f:Wd q->p:=by intro K;exact kN G z76 B B B K.1):p:=f ⟨h⟩
theorem s9(h:q)(f:Wd q->p:=by intro K;exact bn G 0 B B B B B B sT B B K.1):p:=f ⟨h⟩
theorem C5(h:q)(f:Wd q->p:=by intro K;exact bn G 0 B B B aE B B sT B B K.1):p:=f ⟨h⟩
theorem xY(h:q)(f:Wd q->p:=by intro K;exact nu G bIz fk B B B B B (G.row 0 B) B B I K.1):p:=f ⟨h⟩
theorem aDl(h:q)(f:Wd q->p:=by intro K;exact bG G (aJh y m _ I I) Tryz.func312 B B B B B B K.1):p:=f ⟨h⟩
theorem Ac(h:q)(f:Wd q->p:=by intro K;exact kN G cIh B B B K.1):p:=f ⟨h⟩
theorem xZ(h:q)(f:Wd q->p:=by intro K;exact bn G 0 B B B B B B o9 B B K.1):p:=f ⟨h⟩
theorem Lb(h:q)(f:Wd q->p:=by intro K;exact bn G 0 B B B aE B B o9 B B K.1):p:=f ⟨h⟩
theorem Ld(h:q)(f:Wd q->p:=by intro K;exact bn G 1 B B B aE B B o9 B B K.1):p:=f ⟨h⟩
theorem aCj(h:q)(f:Wd q->p:=by intro K;exact bR (v:=.int .i64 (Ch:Nat)) G 1 B B B B B B B B bN K.1):p:=f ⟨h⟩
theorem aCk(h:q)(f:Wd q->p:=by intro K;exact bW (DX aA _ b jI k7 _ R G I 2 (by decide)) Tryz.func378 B B B B B B K.1):p:=f ⟨h⟩
theorem aCl(h:q)(f:Wd q->p:=by intro K;exact bR (v:=.int .i64 (Cf:Nat)) G 1 B B B B B B B B bN K.1):p:=f ⟨h⟩
theorem aCm(h:q)(f:Wd q->p:=by intro K;exact bW (DX aA _ b nM pU _ R G I 2 (by decide)) Tryz.func378 B B B B B B K.1):p:=f ⟨h⟩
theorem aCn(h:q)(f:Wd q->p:=by intro K;exact bR (v:=.int .i64 (kr:Nat)) G 1 B B B B B B B B bN K.1):p:=f ⟨h⟩
theorem fD(h:q)(f:Wd q->p:=by intro K;exact kN G aYc B B B K.1):p:=f ⟨h⟩
theorem lO(h:q)(f:Wd q->p:=by intro K;exact bn G 0 B B B B B B c6 B B K.1):p:=f ⟨h⟩
theorem z8(h:q)(f:Wd q->p:=by intro K;exact bn G 0 B B B aE B B c6 B B K.1):p:=f ⟨h⟩
theorem aCo(h:q)(f:Wd q->p:=by intro K;exact bG G (Tc (x.drop 1) _ cR) Tryz.func186 B B B B B B K.1):p:=f ⟨h⟩
theorem K1(h:q)(f:Wd q->p:=by intro K;exact bn G 1 B B B aE B B c6 B B K.1):p:=f ⟨h⟩
theorem hX(h:q)(f:Wd q->p:=by intro K;exact bn G 0 B B B B B B bA B B K.1):p:=f ⟨h⟩
theorem K2(h:q)(f:Wd q->p:=by intro K;exact bn G 1 B B B B B B bA B B K.1):p:=f ⟨h⟩
theorem Gj(h:q)(f:Wd q->p:=by intro K;exact cDh G B B B K.1):p:=f ⟨h⟩
theorem QU(h:q)(f:Wd q->p:=by intro K;exact bn G 1 B B B B B B og B B K.1):p:=f ⟨h⟩
theorem aCp(h:q)(f:Wd q->p:=by intro K;exact nu G D7 dx B B B B B (G.row 0 B) B (lL B) I K.1):p:=f ⟨h⟩
theorem Gk(h:q)(f:Wd q->p:=by intro K;exact bn G 2 B B B B B B bA B B K.1):p:=f ⟨h⟩
theorem QV(h:q)(f:Wd q->p:=by intro K;exact bR (v:=(J 0)) G 1 B B B B B B B B bN K.1):p:=f ⟨h⟩
theorem aCq(h:q)(f:Wd q->p:=by intro K;exact bW (ih y tZ _ pc (pM.up G.ext)) Tryz.func66 B B B B B B K.1):p:=f ⟨h⟩
theorem aCr(h:q)(f:Wd q->p:=by intro K;exact nu G MV oB B B B B B (G.row 0 B) B (mM gM gi iV) I K.1):p:=f ⟨h⟩
theorem aCs(h:q)(f:Wd q->p:=by intro K;exact bn G 1 B B B aE B B c6 B (mM (s:=⟨6,false,false,ByteArray.empty,0,0,0,0,0,ByteArray.empty⟩) B G.oneS B) K.1):p:=f ⟨h⟩
theorem QW(h:q)(f:Wd q->p:=by intro K;exact vL G qd Ku cH5 B B B B B B B B K.1):p:=f ⟨h⟩
theorem aCt(h:q)(f:Wd q->p:=by intro K;exact nu G aLd qd B B B B B (G.row 0 B) B (aMn (mM gM gi iV)) I K.1):p:=f ⟨h⟩
theorem aCu(h:q)(f:Wd q->p:=by intro K;exact bn G 1 B B B aE B B c6 B (mM (s:=⟨7,false,false,ByteArray.empty,0,0,0,0,0,ByteArray.empty⟩) B B G.oneS) K.1):p:=f ⟨h⟩
theorem aCv(h:q)(f:Wd q->p:=by intro K;exact bn G 0 B B B B B B c6 B (mM (s:=sc) B B B) K.1):p:=f ⟨h⟩
theorem aCw(h:q)(f:Wd q->p:=by intro K;exact bn G 1 B B B B B B c6 B (mM (s:=sc) B B B) K.1):p:=f ⟨h⟩
theorem wh(h:q)(f:Wd q->p:=by intro K;exact bn G 1 B B B B B B c6 B B K.1):p:=f ⟨h⟩
theorem QX(h:q)(f:Wd q->p:=by intro K;exact bn G 1 B B B B B B c6 B (mM (s:=v.sc) gM gi iV) K.1):p:=f ⟨h⟩
theorem aCx(h:q)(f:Wd q->p:=by intro K;exact Yz (G.nilRow 107 3) TZ lp B B B B xr UU (λh=>Jn _ (G.ext) h) (If _) (aMe _) I K.1):p:=f ⟨h⟩
theorem K3(h:q)(f:Wd q->p:=by intro K;exact vL G lp lM aX8 B B B B B B B B K.1):p:=f ⟨h⟩
theorem aCy(h:q)(f:Wd q->p:=by intro K;exact vL G oA qO aX9 B B B B B B B B K.1):p:=f ⟨h⟩
theorem aCz(h:q)(f:Wd q->p:=by intro K;exact nu G bI0 oA B B B B B (G.row 0 B) B (bJq B) I K.1):p:=f ⟨h⟩
theorem K4(h:q)(f:Wd q->p:=by intro K;exact kN G aX8 B B B K.1):p:=f ⟨h⟩
theorem aC0(h:q)(f:Wd q->p:=by intro K;exact bW (bFv p _ dA _ (hp.pth G.tailF) I) Tryz.func68 B B B B B B K.1):p:=f ⟨h⟩
theorem QY(h:q)(f:Wd q->p:=by intro K;exact bR (v:=(J (p+1))) G 0 B B B B B B B B bN K.1):p:=f ⟨h⟩
theorem QZ(h:q)(f:Wd q->p:=by intro K;exact bR (v:=(J (i+1))) G 0 B B B B B B B B bN K.1):p:=f ⟨h⟩
theorem aC1(h:q)(f:Wd q->p:=by intro K;exact bo G (bFy (sub x 1 (x.length-1-1)) d.quo _ (jr.up G.ext) (by have:=vO x 1 (x.length-1-1);omega) aPi) Tryz.func73 B B B B B B K.1):p:=f ⟨h⟩
theorem Q0(h:q)(f:Wd q->p:=by intro K;exact bn G 1 B B B aM B B bA B B K.1):p:=f ⟨h⟩
theorem Gl(h:q)(f:Wd q->p:=by intro K;exact bn G 2 B B B aM B B bA B B K.1):p:=f ⟨h⟩
theorem K5(h:q)(f:Wd q->p:=by intro K;exact bn G 0 B B B B B B lM B B K.1):p:=f ⟨h⟩
theorem Aa(h:q)(f:Wd q->p:=by intro K;exact kN G cIe B B B K.1):p:=f ⟨h⟩
theorem Ab(h:q)(f:Wd q->p:=by intro K;exact bn G 0 B B B B B B oi B B K.1):p:=f ⟨h⟩
theorem Q1(h:q)(f:Wd q->p:=by intro K;exact bn G 0 B B B B B B c6 B (mM (s:=dn.sc) gM gi iV) K.1):p:=f ⟨h⟩
theorem Gm(h:q)(f:Wd q->p:=by intro K;exact vL G mc gA z9 B B B B B B B B K.1):p:=f ⟨h⟩
theorem Gn(h:q)(f:Wd q->p:=by intro K;exact nu G bI2 mc B B B B B (G.row 0 B) B B I K.1):p:=f ⟨h⟩
theorem aC2(h:q)(f:Wd q->p:=by intro K;exact bo G (bFg (s.getD (a+i) 0) _) Tryz.func409 B B B B B B K.1):p:=f ⟨h⟩
theorem wi(h:q)(f:Wd q->p:=by intro K;exact kN G cH6 B B B K.1):p:=f ⟨h⟩
theorem C1(h:q)(f:Wd q->p:=by intro K;exact bn G 0 B B B B B B gz B B K.1):p:=f ⟨h⟩
theorem Q2(h:q)(f:Wd q->p:=by intro K;exact bn G 2 B B B aE B B gz B B K.1):p:=f ⟨h⟩
theorem Q3(h:q)(f:Wd q->p:=by intro K;exact bn G 1 B B B aM B B og B B K.1):p:=f ⟨h⟩
theorem aC3(h:q)(f:Wd q->p:=by intro K;exact bG G (Td (x.drop 1) _ cR) Tryz.func198 B B B B B B K.1):p:=f ⟨h⟩
theorem Q4(h:q)(f:Wd q->p:=by intro K;exact bn G 1 B B B bb B B gz B B K.1):p:=f ⟨h⟩
theorem Q5(h:q)(f:Wd q->p:=by intro K;exact bn G 5 B B B aR B B gz B B K.1):p:=f ⟨h⟩
theorem Q6(h:q)(f:Wd q->p:=by intro K;exact bn G 4 B B B aL B B gz B B K.1):p:=f ⟨h⟩
theorem aC4(h:q)(f:Wd q->p:=by intro K;exact bn G 3 B B B aS B B bA B (lL (G.swapQ).oneS) K.1):p:=f ⟨h⟩
theorem Q7(h:q)(f:Wd q->p:=by intro K;exact bn G 2 B B B b6 B B gz B B K.1):p:=f ⟨h⟩
theorem aC5(h:q)(f:Wd q->p:=by intro K;exact bo G (bCv t0 _ _ (hv.up G.ext) jL I I) Tryz.func207 B B B B B B K.1):p:=f ⟨h⟩
theorem Q8(h:q)(f:Wd q->p:=by intro K;exact bo G (aUb t0.count t0 (bV _) I I _ _ (hv.up G.ext)) Tryz.func208 B B B B B B K.1):p:=f ⟨h⟩
theorem aC6(h:q)(f:Wd q->p:=by intro K;exact bW (ih y tZ _ pc (pM.up G.ext)) Tryz.func75 B B B B B B K.1):p:=f ⟨h⟩
theorem C2(h:q)(f:Wd q->p:=by intro K;exact kN G s5 B B B K.1):p:=f ⟨h⟩
theorem Q9(h:q)(f:Wd q->p:=by intro K;exact bn G 0 B B B B B B vQ B B K.1):p:=f ⟨h⟩
theorem aC7(h:q)(f:Wd q->p:=by intro K;exact hg G B B B a8 (λhc=>aIz _ p _ (hp.up G.ext) I aH) Tryz.func15 B B B (λhc=>(aX ay B)) K.1):p:=f ⟨h⟩
theorem aC8(h:q)(f:Wd q->p:=by intro K;exact Yz G bIw Tryz.underlying98 B B B B B aQo (λh=>⟨ol,0,aQp h,aQs J9⟩) J9 (by rw [List.all_cons,aP1,qt.one cq.tail0];rfl) I K.1):p:=f ⟨h⟩
theorem C3(h:q)(f:Wd q->p:=by intro K;exact kN G cH8 B B B K.1):p:=f ⟨h⟩
theorem xW(h:q)(f:Wd q->p:=by intro K;exact bn G 0 B B B B B B nv B B K.1):p:=f ⟨h⟩
theorem Ra(h:q)(f:Wd q->p:=by intro K;exact bR (v:=(J (i+1))) G 1 B B B B B B B B bN K.1):p:=f ⟨h⟩
theorem K6(h:q)(f:Wd q->p:=by intro K;exact bn G 0 B B B aE B B nv B B K.1):p:=f ⟨h⟩
theorem Gp(h:q)(f:Wd q->p:=by intro K;exact bn G 3 B B B aR B B nv B B K.1):p:=f ⟨h⟩
theorem Rb(h:q)(f:Wd q->p:=by intro K;exact bn G 3 B B B aL B B nv B B K.1):p:=f ⟨h⟩
theorem Rc(h:q)(f:Wd q->p:=by intro K;exact bn G 2 B B B aS B B bA B B K.1):p:=f ⟨h⟩
theorem aC9(h:q)(f:Wd q->p:=by intro K;exact bR (v:=.slice JQ (n+1) JR) G 1 B B B B B B B B mK K.1):p:=f ⟨h⟩
theorem aDa(h:q)(f:Wd q->p:=by intro K;exact bo G (bB1 l d la lc lb _ (hv.up G.ext)) Tryz.func143 B B B B B B K.1):p:=f ⟨h⟩
theorem aDb(h:q)(f:Wd q->p:=by intro K;exact bo G (aIu x d _ I) Tryz.func136 B B B B B B K.1):p:=f ⟨h⟩
theorem K7(h:q)(f:Wd q->p:=by intro K;exact bn G 2 B B B aL B B c6 B B K.1):p:=f ⟨h⟩
theorem aDc(h:q)(f:Wd q->p:=by intro K;exact aVu G Tryz.underlying167 bN z3 B B B B B B B B B K.1):p:=f ⟨h⟩
theorem Gq(h:q)(f:Wd q->p:=by intro K;exact kN G aX9 B B B K.1):p:=f ⟨h⟩
theorem aDd(h:q)(f:Wd q->p:=by intro K;exact bn G 1 B B B B B B c6 B (mM (s:=dn.sc) gM gi iV) K.1):p:=f ⟨h⟩
theorem aDe(h:q)(f:Wd q->p:=by intro K;exact PR G (bDv _ (ht.up G.ext)) Tryz.func293 B B B B B B K.1):p:=f ⟨h⟩
theorem K8(h:q)(f:Wd q->p:=by intro K;exact Kq G D8 fk aF B B B B B aT8 K.1):p:=f ⟨h⟩
theorem xX(h:q)(f:Wd q->p:=by intro K;exact bG G (bFj _ _ (ht.up G.ext) I I) Tryz.func47 B B B B B B K.1):p:=f ⟨h⟩
theorem Re(h:q)(f:Wd q->p:=by intro K;exact Kq G D8 fk aF B B B B B bZ0 K.1):p:=f ⟨h⟩
theorem Rf(h:q)(f:Wd q->p:=by intro K;exact bW (Th aA _ b L R _ _ h I I mB) Tryz.func225 B B B B B B K.1):p:=f ⟨h⟩
theorem Rg(h:q)(f:Wd q->p:=by intro K;exact bW (Th aA _ b L R _ _ h (wG _ _) (wF _ _) mB) Tryz.func225 B B B B B B K.1):p:=f ⟨h⟩
theorem KY(h:p:=by exact IntWalk.i64_in _ I):p:=h
theorem aB0(h:p:=by exact ⟨G.ext,aD (λn:Nat=>Value.int .i64 (n:Int)) e.symm⟩):p:=h
theorem gC(h:p:=by exact ⟨G.ext,B⟩):p:=h
theorem CZ(h:p:=by exact ⟨G.ext,by rw [e];rfl⟩):p:=h
theorem aB1(h:p:=by exact ⟨1,I,I,aB,aK,aS,bb,B,G⟩):p:=h
theorem aB2(h:p:=by exact ⟨G.ext,3,[],B,(λk m eG h hm=>absurd eG I),bU _⟩):p:=h
theorem qS(h:p:=by exact λv w h=>h.elim):p:=h
theorem aB3(h:p:=by exact ⟨G.ext,aD (λn:Nat=>Value.int .i64 (n:Int)) (by rw [e];omega)⟩):p:=h
theorem aB4(h:p:=by exact ⟨G.ext,aD (Value.int .i64) (cGm I I hb).symm⟩):p:=h
theorem aB5(h:p:=by exact ⟨G.ext,aD (Value.int .i64) (cGn λj ax=>hb j I).symm⟩):p:=h
theorem aB6(h:p:=by exact ⟨G.ext,_,aD (λn:Nat=>Value.tuple #[_,.int .i64 (n:Int)]) hv.symm⟩):p:=h
theorem aB7(h:p:=by exact ⟨0,0,B,bU _,B,(by decide),aJ,aJ,B,B,G⟩):p:=h
theorem QR(h:p:=by exact ⟨G.ext,_,_,_,_,3,B,he.symm⟩):p:=h
theorem aB8(h:p:=by exact ⟨_,B,_,_,_,_,_,(by rw [aOx,rB]),B,aE,b6,B,G⟩):p:=h
theorem aB9(h:p:=by exact ⟨G.ext,aD (λl=>(M l)) (by subst aQg;rfl)⟩):p:=h
theorem Ge(h:p:=by exact absurd dG (by decide)):p:=h
theorem QS(h:p:=by exact ⟨0,B,bU _,aJ,B,B,G⟩):p:=h
theorem aCa(h:p:=by exact ⟨0,I,(λj h=>I),B,B,B,B,G⟩):p:=h
theorem aCb(h:p:=by first | exact ⟨_,B,_,_,_,aE,aS,G.noR.pick2 0 3 B B B⟩):p:=h
theorem KZ(h:p:=by exact ⟨_,B,B,B,B,B,B,G⟩):p:=h
theorem K0(h:p:=by exact absurd e1 (by decide)):p:=h
theorem Gf(h:p:=by exact absurd ef (by decide)):p:=h
theorem aCc(h:p:=by exact .inr ⟨t,tail,v,_,rs2,B,dc,mw,dH,(G.drop 3).leftQ⟩):p:=h
theorem aCd(h:p:=by exact cHa hc (List.mem_map_of_mem hy) (cb Y)):p:=h
theorem aCe(h:p:=by exact key _ 0 _ λj e h=>by rw [gV];exact h):p:=h
theorem C0(h:p:=by exact ⟨G.ext,H8 e (by decide) B B B⟩):p:=h
theorem aCf(h:p:=by exact ⟨0,B,I,λj h=>I,aJ,B,B,B,B,B,G⟩):p:=h
theorem QT(h:p:=by exact ⟨_,B,_,B,B,B,B,B,B,G⟩):p:=h
theorem aCg(h:p:=by exact ⟨G.ext,i,[],hi,.inr ⟨by rw [ql];simp,B,bGm ql⟩⟩):p:=h
theorem KS(h:p:=by
 refine dQ ?_;refine mO ?_;refine Rm ?_;exact ZD):p:=h
theorem z7(h:p:=by
 refine be Tryz.results302 B ?_
 first | (exfalso;omega) | exact ⟨G.ext,aD (Value.int .u8) (CA 8 I).symm⟩ | exact ⟨G.ext,aD (Value.int .u8) (CA 12 I).symm⟩ | exact ⟨G.ext,aD (Value.int .u8) (CA 10 I).symm⟩ | exact ⟨G.ext,aD (Value.int .u8) (CA 13 I).symm⟩ | exact ⟨G.ext,aD (Value.int .u8) (CA 9 I).symm⟩ | exact ⟨G.ext,aD (Value.int .u8) bZy⟩ | (refine ⟨G.ext,aD (Value.int .u8) ?_⟩;rcases (show (c.toNat:Int)=34\/(c.toNat:Int)=92 by omega) with h | h <;> (rw [h];first | (rw [CA 34 h];rfl) | (rw [CA 92 h];rfl)))):p:=h
theorem Z6(h:p:=by
 refine Gs ?_;refine kQ ?_;refine Az ?_;refine mO ?_;refine Az ?_;refine pZ ?_;refine bG G (bBw (c2 d x) ((!decide (x=([]:List UInt8)))&&((((x.getD 0 0).toNat:Nat):Int)==((d.quo.toNat:Nat):Int))) d _ (nI (bHc d _) I)) Tryz.func137 B B B B B B ?_;intro aUr w G WX Wf;obtain ⟨PS,rfl,bQi,bQj⟩:=Wf;refine Gs ?_;refine C6 ?_;refine Gi ?_;intro cJh w G cLz bU8;refine hK ⟨.inl (G.pick2 1 4 B B B),?_⟩;refine Af ?_;refine nu G MV oB B B B B B (G.row 0 B) B (mM (s:=PS) B B B) I ?_;intro v70 w G cNv;replace G:=G.drop 1;refine dQ ?_;refine Gu ?_;refine ej ?_;refine kA (i:=17) ac B ?_;refine bR (v:=v70) G 0 B B B B B G.oneS B B zL ?_;intro w G l0;refine hY ?_;replace G:=(mg (n':=(sl++[PS]).length) (xs':=j7 (sl++[PS])) G Px (by rw [bXf])).swapQ;exact ⟨_,B,_,PS,_,⟨bQi,bQj⟩,B,aE,aR,aM,bF,aL,aS,bb,cp,G⟩):p:=h
theorem aYn(h:p:=by
 refine Rm ?_;refine dQ ?_;refine mP ?_;refine ab ?_;exact ZD):p:=h
theorem aAj(h:p:=by
 refine gS ?_;refine Af ?_;refine S B B (iJ (a:=((((itoa e.fr)++[32])++itoa e.tu)++[32])) (b:=jy e.path) B B B mB) ?_;refine gS ?_;refine Gu ?_;refine S B B (iJ (a:=(((((itoa e.fr)++[32])++itoa e.tu)++[32])++jy e.path)) (b:=[10]) B B B mB) ?_;refine gS ?_;refine kA (i:=17) ac B ?_;replace G:=G.drop 1;refine aCi ?_;intro cKo cJ3 cKl cJ1 w G nN;refine dQ ?_;refine kA (i:=18) ac B ?_;refine ab ?_;refine hY ?_;exact ⟨_,B,b1,_,_,_,_,_,aK,B,Oh,EZ,E0,G,by rw [cFh he];exact nN⟩):p:=h
theorem KV(h:p:=by
 refine pZ ?_;refine pY ?_;intro w G jh;exact ZC):p:=h
theorem CX(h:p:=by
 refine be Tryz.results312 B ?_;refine Ag ?_;unfold o2
 first
 | (exfalso;omega)
 | (rw [U I];rfl)
 | (rw [O I,U I];rfl)
 | (rw [O I,O I,U I];rfl)
 | (rw [O I,O I,O I,U I,U bZ4];rfl)
 | (rw [O I,O I,O I,U I,O bZ6];rfl)
 | (rw [O I,O I,O I,O I];rfl)):p:=h
theorem aA9(h:p:=by
 have Iu:cX w'\/∀ p∈bi,dO (cN.setIfInBounds i true) p.1=true:=aM5.imp id λhl p km=>by
  rw [qw,hW];exact .inl (Mv j1 12 p.1 i BC (p7.1 hl p km))
 refine ih k _ _ eb _ w' I ug (by simpa using hl) ?_ UW lY Iu ?_ hx2
 . intro j ax
   rw [XK I,qw,hm j ax];cases dO cN j <;> cases gU i j <;> simp
 . intro p km tO
   rw [qw,uB] at tO;obtain ⟨vB,v,gM,hv,Xd,hE⟩:=hp p km tO.1;obtain ⟨ik,gi,Vk,U1,aw⟩:=wK dj p km;obtain rfl:vB=ik:=by rw [gM] at gi;exact mb gi
   have iC:∀ d,o.dst=some d->d≠p.2/\d∉vB.looksAt ops:=by
    intro d hd;rcases (aw i o au).1 d hd with he | ⟨Y,ar⟩
    ·subst he;simp at tO
    . refine ⟨Y,?_⟩
      rcases ar with ar | ar | ar
      ·rw [N4] at ar;cases ar
      ·exact ar
      . have:=Mv j1 12 p.1 i BC ar
        rw [tO.1] at this;cases this
   refine ⟨vB,v,gM,?_,(wanted_put (ops:=ops) vB { b with defers:=df } o.dst u λd hd=>(iC d hd).2).trans Xd,λxT bNg=>?_⟩
   . cases hd:o.dst with
     | none=>simpa [Act.put,hd] using hv
     | some d=>simp only [Act.put];rw [Array.getElem?_setIfInBounds_ne (iC d hd).1];exact hv
   . rw [<- hE xT bNg]
     congr 1
     refine execOp_congr vB (λcs bl=>Region.noSelect_spec (MJ dj) p.1 vB cs bl gM) λx hx=>?_
     refine (Act.eval_put (a:={ b with defers:=df }) λd hd B6=>(iC d hd).2 ?_).trans (by cases x <;> rfl);subst B6;exact iM _ (List.mem_filterMap.2 ⟨.tmp d,by simpa using hx,B⟩)):p:=h
theorem aBh(h:p:=by
 refine gS ?_;refine mO ?_;refine S B B (iJ (a:=(((([105,110,100,101,120,32]++o3 x.fmt)++[32])++itoa x.size)++[32])) (b:=itoa x.depth) B B B mB) ?_;refine dQ ?_;refine r2 ?_;refine S B B (iJ (a:=((((([105,110,100,101,120,32]++o3 x.fmt)++[32])++itoa x.size)++[32])++itoa x.depth)) (b:=[10]) B B B mB) ?_;refine dQ ?_;refine pZ ?_;refine cDp G mB aF fk en B B B B ?_;intro g cg c7 cap w G nN;refine Du ?_;refine ab ?_;refine hY ?_;exact ⟨_,B,_,_,_,_,_,_,aK,B,G,nN⟩):p:=h
theorem aBo(h:p:=by
 obtain rfl:=Nat.eq_of_beq_eq_true rH;obtain ⟨vB,v,gM,hv,Xd,hE⟩:=hp p km yZ;obtain ⟨ik,gi,Vk,U1,aw⟩:=wK dj p km;obtain rfl:o=vB:=by rw [au] at gM;exact mb gM
 obtain rfl:o=ik:=by rw [au] at gi;exact mb gi
 have xq:Region.wanted o (yielded ops a.tmps)=true:=(J0 hr I2).2.trans Xd;rw [U xq];refine .inl ?_;unfold Oper.wp;have aM6:cX w:=lz.resolve_right λh=>by rw [h p km] at yZ;cases yZ
 rw [execOp_congr o rF (J0 hr I2).1,hE w aM6,Oper.upon_value,U1];refine ih k _ l _ b w I ug hl ?_ UW ⟨hr.df,by simp [Act.put,hr.sz],λx hx=>?_⟩ (.inl aM6) ?_ hx
 . intro j ax
   rw [qw,hm j ax];by_cases y0:p.1=j
   ·subst y0;simp [zd]
   . have:gU p.1 j=false:=by
       cases hb:gU p.1 j
       ·rfl
       ·exact absurd (Nat.eq_of_beq_eq_true hb) y0
     rw [this];simp
 . simp only [Act.put,Array.getElem?_setIfInBounds]
   split
   . rename_i he
     subst he;rw [U (by rw [hr.sz];exact (Array.getElem?_eq_some_iff.1 hv).1),hv]
   . rename_i bt
     refine hr.tm x ?_;rintro ⟨p',kJ,rfl,tO⟩;refine hx ⟨p',kJ,B,?_⟩;rw [qw,tO];cases hb:gU p.1 p'.1
     ·rfl
     . exfalso
       have he:=Nat.eq_of_beq_eq_true hb;obtain ⟨cSb,iV,_,aN1,_⟩:=wK dj p' kJ;rw [<- he,au] at iV;obtain rfl:=mb iV;rw [U1] at aN1;exact bt (mb aN1)
 . intro p' kJ tO
   rw [qw,uB] at tO;exact hp p' kJ tO.1):p:=h
theorem Zq(h:p:=by
 refine dQ ?_;refine kQ ?_;refine mQ ?_;refine hY ?_;refine az ?_;refine Z (λgY=>?_) (λgY=>?_)
 ·exfalso;omega
 refine an ?_;refine bG G (bC1 x bj _ pO w0 _ G.ext hv aPw) Tryz.func211 B B B B B B ?_;intro PC w G B0 xd;obtain ⟨mN,rfl,Jw⟩:=xd;obtain ⟨cTv,cT0,cTy,rfl,_⟩:=Jw.form;refine bn G 1 B B B aE B B c6 B Jw.one ?_;intro w G oY;refine qZ ?_;exact ⟨_,_,I,B,i+1,bj,_,_,_,B,I,Jw,bPn,aJ,aK,aE,aM,G⟩):p:=h
theorem Zy(h:p:=by
 first
 | exact ⟨_,rfl,4,aY s a%8,by unfold ib;rw [U nr],rfl,rfl,rfl,aD (Value.int .i64) bZ3,G⟩
 | exact ⟨_,rfl,3,aY s a%16,by unfold ib;rw [O nr,U nr],rfl,rfl,rfl,aD (Value.int .i64) bZ2,G⟩
 | exact ⟨_,rfl,2,aY s a%32,by unfold ib;rw [O nr,O nr,U nr],rfl,rfl,rfl,aD (Value.int .i64) bZ1,G⟩
 | exact ⟨_,rfl,1,aY s a,by unfold ib;rw [O nr,O nr,O nr],rfl,rfl,rfl,rfl,G⟩):p:=h
theorem ZG(h:p:=by
 first
 | exact ⟨_,rfl,4,aY s a%8,by unfold ib;rw [U nr],rfl,rfl,rfl,aD (Value.int .i64) bZ9,G⟩
 | exact ⟨_,rfl,3,aY s a%16,by unfold ib;rw [O nr,U nr],rfl,rfl,rfl,aD (Value.int .i64) bZ8,G⟩
 | exact ⟨_,rfl,2,aY s a%32,by unfold ib;rw [O nr,O nr,U nr],rfl,rfl,rfl,aD (Value.int .i64) bZ7,G⟩
 | exact ⟨_,rfl,1,aY s a,by unfold ib;rw [O nr,O nr,O nr],rfl,rfl,rfl,rfl,G⟩):p:=h
theorem aYj(h:p:=by
 refine pY ?_;intro w G jh;refine dQ ?_;refine mO ?_;refine ab ?_;exact ZC):p:=h
theorem ZU(h:p:=by
 refine dQ ?_;refine fR (i:=7) (j:=9) ac B B ?_ ?_
 ·refine Rd ?_;intro w G _ _;replace G:=G.row_eq B (Yx (l:=nrow 5 [] [] (.slice o0 jQ.length o1) []) X4 B);exact ZB
 refine Rh ?_;intro w G lI;exact ZA):p:=h
theorem Z3(h:p:=by
 have IH:Cxr w0 w' L R:=by
  refine ⟨G.ext.grown fx G.ext.size (λk hk=>(nY.lt k hk).1),?_,G.lo,G.nd,?_,λr hr=>G.off r (bP _ hr),(List.pairwise_cons.1 G.pw).2⟩
  . intro p kJ
    rw [fx.block p.1 (G.lt p kJ) (λe=>sw p.1 e.symm (lm.2 ⟨p,kJ,B⟩))];exact G.own p kJ
  . intro r hr
    refine G.row_keep (bP _ hr) fx.os fx.tape fx.output fx.size λq aw hv=>fx.block q aw λe=>?_
    exact vq r hr q e.symm hv
 refine od (w':=w') (v:=hh) aH hd ?_ (h hh w' (IH.addRow _ cz ?_ ?_) fx)
 . unfold execOp;rw [au]
   exact Qv
 . intro q aw hm
   obtain ⟨p,kJ,rfl⟩:=lm.1 hm;rcases sv _ aw with h2 | h2
   ·exact sw _ h2 (lm.2 ⟨p,kJ,B⟩)
   ·have:=G.lt p kJ;omega
 . intro r hr q aw EV
   rcases sv _ aw with h2 | h2
   ·exact vq r hr q h2 EV
   ·have:=((G.rows r (bP _ hr)).lt _ EV).2;omega):p:=h
theorem Z4(h:p:=by
 refine Gx ?_;refine kQ ?_;refine ab ?_;refine Gx ?_;refine mO ?_;refine S B B (av (v:=(M kp)) B B) ?_;refine l6 ?_;refine aDm ?_;subst fe ly;rw [N2] at g4;exact ⟨_,_,_,_,[.mk 6 lead (sub s a n) [] [],.mk 11 (sub s (a+n) (a76-(a+n))) [58] [] []],[nrow 6 lead (sub s a n) (al) [],nrow 11 (sub s (a+n) (a76-(a+n))) [58] (al) []],kp,B,(G.drop 4).row_eq B (by rw [N2];rfl),((NL.nil []).snoc (NR.leaf _ _ _ _ _)).snoc (NR.leaf _ _ _ _ _),bV _,aPo,.inr ⟨dt,iU,g3.trans Us,a76,OU,J2,jN,JO jN eN IU IV,Ik,Ij,g4,jc,B,B⟩⟩):p:=h
theorem Qy(h:p:=by
 have aw:n8 l++(l.take (i+1)).flatMap fZ=(n8 l++(l.take i).flatMap fZ)++fZ x:=by rw [bMd l i x hx,eB]
 rw [nZ] at aw;refine ⟨qi-1,_,I,B,i+1,_,I,jf,sA,B,B,cCt (G.drop 1) aw ?_ ?_⟩
 ·simp only [aQ,cf,dC] <;> omega
 ·exact aD (λz=>(n8 l++(l.take i).flatMap fZ).map bv++z) B):p:=h
theorem Z5(h:p:=by
 try simp only [dy] at gq
 refine aq ?_;refine Le ?_;refine an ?_;refine Ah ?_;refine Ro ?_;refine p0 ?_;refine Rp ?_;refine aG ?_;refine ⟨Ej-1,_,I,B,i+1,I,I,aB,aK,aS,aD (Value.int .i64) ?_,B,G⟩;rw [show ((a:Int)+(i:Int))=((a+i:Nat):Int) by omega,rb,aZl (i7 _ _)];exact ZH):p:=h
theorem CW(h:p:=by
 try simp only [dy] at co
 first | have yK:=lA.1 co | skip
 refine ab ?_;exact ⟨_,B,_,B,B,B,B,by (try simp only [beq_iff_eq]);omega,G⟩):p:=h
theorem Z7(h:p:=by
 have hall:=cCj dj hs ap;have Bg:a=b:=by
  obtain ⟨cE5,bHk⟩:=a;obtain ⟨lN,bHm⟩:=b;have h1:bHk=bHm:=hr.df;have h2:cE5=lN:=by
   apply Array.ext_getElem?;intro x;refine hr.tm x ?_;rintro ⟨p,hp,_,hf⟩;obtain ⟨o,au,_⟩:=wK dj p hp;rw [hall p.1 (Array.getElem?_eq_some_iff.1 au).1] at hf;cases hf
  rw [h1,h2]
 subst Bg
 cases k with
 | zero=>exact hx.elim
 | succ k =>
  refine hx.1 ?_
  cases dH:Region.ready .any ops l with
  | nil=>rfl
  | cons x xs =>
   have hx:x∈Region.ready .any ops l:=by rw [dH];exact b9 ..
   obtain ⟨h1,h2,_⟩:=(Cv hl).1 hx;rw [hm x h1,hall x h1] at h2;cases h2):p:=h
theorem Qz(h:p:=by
 have aw:=PF s i I;rw [Bu,nZ] at aw;refine ⟨gJ-1,_,I,B,i+1,_,I,aB,bb,B,B,Kp G aw ?_ ?_⟩
 ·simp only [aQ,cf,dC,nf,gD] <;> omega
 ·exact aD (λz=>(34::jz (s.data.toList.take i)).map bv++z) (B)):p:=h
theorem Z8(h:p:=by
 refine ab ?_;have bP0:dB (s.drop p)=(oH s p).2:=by
  rw [aXs BB,O];intro h;have h1:(oH s p).1=65533:=by rw [h]
  have h2:(oH s p).2=1:=by rw [h]
  omega
 have aPw:=bGq s p;have j2:=us (l:=s.drop p) (by intro e;have:=aD eC e;rw [bC] at this;simp only [dC] at this;omega);rw [bC] at j2;have aZ:Cj s p=p+(oH s p).2:=by unfold Cj;rw [U BB]
 rw [aZ] at G;exact ⟨_,_,I,B,p+(oH s p).2,B,I,λr h=>aw r (.more (by unfold fs gf;rw [O I,O I,bP0]) h),aB,bb,G⟩):p:=h
theorem uC(h:p:=by
 rcases h with h | h | h
 ·exact fX h
 ·exact e3 (.inl h)
 ·exact e3 (.inr h)):p:=h
theorem QA(h:p:=by
 have h1 : fn.name ≠ "runtime.NumGoroutine" := by simpa using hn
 have h2:¬ fn.body=none:=by intro e;simp [e] at hb
 unfold execOp;rw [au];have e:fF.map (aW n f)=args.toArray:=by rw [<- hA];apply Array.ext';simp
 simp [resolve,e,aW,Deferred.ofValue,invoke,callFunc,hf,h1,h2]):p:=h
theorem Z9(h:p:=by
 refine ta ?_;refine qU ?_;refine aDf ?_;intro v9 w G cN3;replace G:=G.drop 1;refine dQ ?_;refine kb ?_;refine kB ?_;refine hY ?_;refine Ai ?_;refine be Tryz.results68 B ?_;exact ZK):p:=h
theorem aAa(h:p:=by
 obtain ⟨o,_,_,_⟩:=wK dj p km;obtain ⟨gu,tS,_⟩:∃ o,l.toArray[p.1]?=some o/\True:=⟨o,by assumption,trivial⟩;refine ⟨gu,g p.2,tS,?_,?_,λw' hw=>?_⟩
 . simp only [aC,Array.getElem?_ofFn]
   rw [dif_pos (hn p km)]
 . obtain ⟨ik,h2,Y⟩:=aRh p km
   obtain rfl:gu=ik:=by rw [List.getElem?_toArray] at tS;rw [tS] at h2;exact mb h2
   exact Y
 . obtain ⟨ik,h2,Y⟩:=hp w' hw p km
   obtain rfl:gu=ik:=by rw [List.getElem?_toArray] at tS;rw [tS] at h2;exact mb h2
   rw [eS];exact Y):p:=h
theorem aAb(h:p:=by
 refine Du ?_;refine aDn ?_;refine hY ?_;exact ⟨_,B,_,aJ,aJ,B,B,B,G⟩):p:=h
theorem aAc(h:p:=by
 have jn:(prints ((l.map (·.1)).take (i+1))).length=(prints ((l.map (·.1)).take i)).length+y.1.print.length:=by
  rw [List.take_add_one,j0,sO,aQ];show _+(prints [y.1]).length=_;rw [hU,gx,cH]
 have bMs:y.1.print.length=(prints y.1.kids).length:=by
  obtain ⟨qh,mo,bMt,_⟩:=NF;rw [bMt,dX];simp [T.kids]
 rw [jn,hb,bMs];omega):p:=h
theorem QB(h:p:=by
 refine pd ?_;rw [jE];simp only [fS,hW,kP,decide_eq_true_eq,decide_eq_false_iff_not,beq_iff_eq,bne_iff_ne,ne_eq];unfold jR;omega):p:=h
theorem aAd(h:p:=by
 rcases tg p.length with ap | ap
 . obtain ⟨b,o,hs,_⟩:=hp
   rcases hs with ⟨h1,h2⟩ | ⟨ad,cap,h1,_,_⟩
   ·exact ⟨none,0,by rw [h2,ap],λ_=>rfl,λw _ h=>I⟩
   ·exact ⟨some ad,cap,h1,(λh=>by cases h),λw _ h=>I⟩
 . obtain ⟨b,o,c,h1,h2⟩:=hp.src ap
   exact ⟨_,c,h1,(λh=>by cases h),λw hb _=>⟨b,o,B,h2.up hb⟩⟩):p:=h
theorem aAe(h:p:=by
 refine ae ?_;refine jA (HC aA _ b s D N af aj ak p nodes _ _ (G.pick 3 B) hs I I dF dr k k (sub s a n) a eN) Tryz.func117 B B B B B (aX B (aX B B)) (λx w cc=>?_) ?_
 ·exact o8 cc λo e _ h=>by rw [show o=(unx s a k).1 by rw [<- h],show e=(unx s a k).2 by rw [<- h]];exact .vBad sp
 exact λv w h=>h.elim):p:=h
theorem aAf(h:p:=by
 first
 | exact ⟨_,rfl,n,.inr ⟨by rcases hn with ⟨h,h2⟩ | ⟨h,h2⟩ <;> omega,I⟩,aB,aR,aM,G⟩
 | (refine ⟨_,rfl,10*n+(IntKind.u8.wrap (((s.getD (dw (i:Int)) 0).toNat:Nat)-48)).toNat,.inl ⟨?_,I⟩,aB,aD (Value.int .i64) I,aM,G⟩
    rw [Nat.pow_succ];rcases hn with ⟨h,h2⟩ | ⟨h,h2⟩ <;> omega)):p:=h
theorem KT(h:p:=by
 exact ⟨G.ext,0,0,zO (e:=5) (show (bL s).1=5 by rw [e]) B B B,λh=>by rw [e] at h ⊢;exact absurd h Pv⟩):p:=h
theorem QC(h:p:=by
 try simp only [dy] at ct
 first | have Is:=Bi.1 ct | skip
 refine ab ?_;exact ⟨_,B,_,aB,aK,cv,B,by (try simp only [beq_iff_eq]);omega,G⟩):p:=h
theorem aAg(h:p:=by
 have h1 : fn.name ≠ "runtime.NumGoroutine" := by simpa using hn
 have h2:¬ fn.body=none:=by intro e;simp [e] at hb
 unfold execOp;rw [au];have e:pR.map (aW n f)=args.toArray:=by rw [<- hA];apply Array.ext';simp
 simp [resolve,e,hx,Deferred.ofValue,invoke,callFunc,hf,h1,h2]):p:=h
theorem aAh(h:p:=by
 have h1:(L.map (·.1))[i]?=some p.1:=by simp [hi]
 have h2:(L.map (·.1))[j]?=some p.1:=by simp [ax,e]
 have b8:i<(L.map (·.1)).length:=(bT.1 h1).1;have:=(List.getElem?_inj b8 h.nd).1 (h1.trans h2.symm);subst this;rw [Nat.beq_refl] at rA;cases rA):p:=h
theorem QD(h:p:=by
 exact ⟨G.ext,_,[],_,B,World.ownsRow_nil _ _ _ _,⟨λh=>absurd h (by decide),λh=>absurd h (bt)⟩,λh=>absurd h (by decide)⟩):p:=h
theorem KU(h:p:=by
 rw [hr] at hE;cases hE;simp only [Value.ownBlock,kS] at aw;exact .inr I):p:=h
theorem aAi(h:p:=by
 cases dH:Region.ready .any ops cN with
 | nil=>rfl
 | cons x xs =>
  have hx:x∈Region.ready .any ops cN:=by rw [dH];exact b9 ..
  obtain ⟨h1,h2,_⟩:=(Cv hs).1 hx;have:=TA (l:=cN) I h2;omega):p:=h
theorem aAk(h:p:=by
 exact ⟨G.ext,⟨4,false,false,ByteArray.empty,0,0,0,0,0,bs x⟩,B,(by decide:(4:Int)≠6),(by decide:(4:Int)≠7)⟩):p:=h
theorem aAl(h:p:=by
 obtain ⟨i,hi⟩:=jX hx;have b8:=(bT.1 hi).1;obtain ⟨y,hy⟩:∃ y,l[i]?=some y:=⟨_,bS I⟩;exact ih i y x hy hi D (d+2) (kid y (cb hy)) I):p:=h
theorem aAm(h:p:=by
 have h:(W.info? 5).map (λi=>(i.zero,i.size,i.bytes))=some (some (.int .u8 0),1,1):=by kernel_rfl
 obtain ⟨i,hi,hx⟩:=nJ.1 h;simp only [Prod.mk.injEq] at hx;exact ⟨i,_,hi,hx.1,hx.2.1,hx.2.2,B⟩):p:=h
theorem QE(h:p:=by
 exact ⟨G.ext,0,0,zO (e:=4) (show (bL s).1=4 by rw [e]) B B B,λh=>by rw [e] at h ⊢;exact absurd h Pv⟩):p:=h
theorem aAn(h:p:=by
 first | exact ⟨_,B,_,B,aD (λl=>(M l)) (show _=o3 x.fmt by unfold o3;rw [U ct]),G⟩ | exact ⟨_,B,_,B,aD (λl=>(M l)) (show _=o3 x.fmt by unfold o3;rw [O ct]),G⟩):p:=h
theorem aAo(h:p:=by
 refine pd ?_;rw [jE];simp only [fS,hW,kP,decide_eq_true_eq,decide_eq_false_iff_not,beq_iff_eq,bne_iff_ne,ne_eq];unfold jD;unfold jR bf;omega):p:=h
theorem aAp(h:p:=by
 refine pd ?_;rw [jE];simp only [fS,hW,kP,decide_eq_true_eq,decide_eq_false_iff_not,beq_iff_eq,bne_iff_ne,ne_eq];unfold bf;omega):p:=h
theorem aAq(h:p:=by
 rw [O a7] at h;by_cases eL:(u.getD s.1 0).toNat=92
 . rw [U eL] at h
   split at h
   ·rename_i he;cases h;exact absurd ap he
   ·cases h
 rw [O eL] at h;split at h
 ·cases h;simp at ap
 ·cases h):p:=h
theorem aAr(h:p:=by
 intro b
 revert b y5
 clear kI h
 induction more with
 | nil=>intro _ b;rfl
 | cons k ks Xo=>intro y5 b;rw [hM,O (by rw [y5 k (by simp)];decide),Xo λk hk=>y5 k (bP _ hk)];rfl):p:=h
theorem aAs(h:p:=by
 refine dY Tryz.results200 B B ?_;refine ⟨G.ext,_,[],_,B,World.ownsRow_nil _ _ _ _,?_⟩;exact ⟨⟨λh=>absurd h (by decide),λh=>absurd (yY.2 h) fJ⟩,λh=>absurd h (by decide)⟩):p:=h
theorem aAt(h:p:=by
 refine az ?_;refine K9 ?_;intro w G oY;refine az ?_;refine be Tryz.results336 B ?_;exact ⟨0,B,s,true,G,I,PZ cAa⟩):p:=h
theorem aAu(h:p:=by
 first | exact ⟨_,B,_,B,B,G.row_eq (by rw [aSe qz co];rfl) (by rw [aSe qz co];rfl)⟩ | exact ⟨_,B,_,B,B,G.row_eq (by rw [aSd qz co];rfl) (by rw [aSd qz co];rfl)⟩):p:=h
theorem aAv(h:p:=by
 exact ⟨⟨0,0,0,[],[]⟩,0,1,_,B,⟨al,al,B,A3 (t:=107) (ps:=[]) (es:=[]) (G.nilRow 52 3) B B (λq h=>by cases h),wL (cs:=[]) (G.nilRow 9 1) B⟩,.arg aNb,G.ext⟩):p:=h
theorem aAw(h:p:=by
 obtain ⟨o,m,h1,h2,Y⟩:=h;obtain ⟨gu,ud,tC,Bc,yJ⟩:=aU;have:=h1.det tC;simp only [Prod.mk.injEq] at this;obtain ⟨rfl,rfl,rfl⟩:=this;exact ⟨B,h2.trans Bc.symm,Y.trans yJ.symm⟩):p:=h
theorem aAx(h:p:=by
 exact ⟨⟨0,false,false,ByteArray.empty,0,0,0,0,0,ByteArray.empty⟩,[],none,0,0,0,[],B,(by decide:(0:Int)≠6),(by decide:(0:Int)≠7),.inl ⟨B,B⟩,aVz hw,G.drop 9⟩):p:=h
theorem aAy(h:p:=by
 refine St2.bind (r1:=(y,fa)) h1 ?_;refine St2.bind (r1:=(a,k7)) h2 ?_;refine St2.bind (r1:=(m,oc)) Y ?_;refine St2.bind (r1:=(b,pU)) ar ?_;exact St2.bind (r1:=(z,kx)) bd (St2.ret _ _)):p:=h
theorem aAz(h:p:=by
 refine Calls.mono (hc B) ?_;rintro e w' ⟨v,rfl,sq,hr⟩;show eu ((aC n f).put o.dst v) w';refine ep _ _ ?_;rw [hd,mC];have h:=h v w' (G.call sq) sq λ_=>hr
 unfold gv at h;exact h):p:=h
theorem aA0(h:p:=by
 refine pd ?_;rw [jE];simp only [kP,decide_eq_true_eq,decide_eq_false_iff_not];exact ⟨λh=>⟨h,λj ax=>hb j I⟩,λh=>h.1⟩):p:=h
theorem aA1(h:p:=by
 exact ⟨⟨1,_,false,ByteArray.empty,0,0,0,0,0,ByteArray.empty⟩,[],none,0,0,0,[],B,(by decide:(1:Int)≠6),(by decide:(1:Int)≠7),.inl ⟨B,B⟩,aVz hw,G.drop 9⟩):p:=h
theorem aA2(h:p:=by
 intro j ax e he;rw [qw,hW] at ax;rw [qw,hW];rcases ax with ax | ax
 ·exact .inl (j1 j ax e he)
 . obtain rfl:=Nat.eq_of_beq_eq_true ax
   exact .inl (BC e he)):p:=h
theorem Gd(h:p:=by
 simp only [results,hr];simp [Sem.run_bind,Result.andThen]):p:=h
theorem aA3(h:p:=by
 exact ⟨G.ext,OO ⟨(λh=>by cases h),λh=>absurd h bd⟩ (λ_=>⟨λh=>h6.2 (by simp only [beq_iff_eq] at h;omega),λh=>by have:=h6.1 h;simp only [beq_iff_eq];omega⟩)⟩):p:=h
theorem aA4(h:p:=by
 refine Ag ?_;have w5:i=ks.length:=I;rw [dX];simp only [aQ];rw [w5,lQ (bV _)];omega):p:=h
theorem QF(h:p:=by
 rw [ph hi];simp [hZ,bS hi]):p:=h
theorem aA5(h:p:=by
 rw [YL a6 FG,BA];simp only;rw [O];rintro ⟨bm,aZ⟩;rcases Et with h | h
 ·exact h (by rw [bm];rfl)
 . refine h ?_
   rw [aZ];exact bG6 I I):p:=h
theorem aA6(h:p:=by
 refine ep _ _ _ (Rl.put (a:={ a with defers:=d::a.defers }) (b:={ b with defers:=d::b.defers }) ⟨by simp [h.df],h.sz,h.tm⟩ _ _ hb) ⟨undef,d::b.defers,rfl⟩ H):p:=h
theorem QG(h:p:=by
 obtain ⟨b,o,hs,hr⟩:=h;obtain ⟨a,c,rfl,a6⟩:=hs.form;exact ⟨a,c,b,o,B,a6,hr⟩):p:=h
theorem QH(h:p:=by
 exact ⟨_,B,_,by simp only [beq_iff_eq];omega,B,B,B,B,B,B,B,G⟩):p:=h
theorem aA7(h:p:=by
 have:(aC n f).tmps.getD t undef=.pointer (some ⟨b,0,none⟩):=by rw [<- hv,<- eS];rfl
 exact results_cell_row hr _ w b T l.toArray fr d this hb aP Eu ug):p:=h
theorem aA8(h:p:=by
 unfold Oper.wp;rw [eS,hE];refine Calls.mono hc ?_;rintro e w' ⟨v,rfl,hv⟩;show eu ((aC n f).put o.dst v) w';refine ep _ _ ?_;rw [hd,mC];exact h v w' hv):p:=h
theorem aBa(h:p:=by
 refine G.row_keep (bP _ hr) fx.os fx.tape fx.output fx.size λq aw hv=>fx.block q aw λe=>?_
 exact vq r hr q (by rw [e];rfl) hv):p:=h
theorem aBb(h:p:=by
 have nU:s.take i=s:=lQ I;rw [nU] at hn;exact ⟨G.ext,aD (λn:Nat=>Value.tuple #[.int .i64 (n:Int),J 0]) hn⟩):p:=h
theorem KW(h:p:=by
 exact ⟨_,B,aJ,B,B,B,B,B,B,B,B,G⟩):p:=h
theorem aBc(h:p:=by
 simp only [r0,if_false];refine ep _ _ ?_;rw [hd,mC];have h:=h undef w G (Below.refl _ _) (λe=>by cases e);unfold gv at h;exact h):p:=h
theorem aBd(h:p:=by
 rintro t ht ⟨p,km,rfl,ff⟩;obtain ⟨_,_,_,_,aw⟩:=wK dj p km;have:=Mv j1 12 p.1 i BC ((aw i o au).2 ht);rw [this] at ff;cases ff):p:=h
theorem aBe(h:p:=by
 refine ow ?_;show (_:Bool)=e7 r;rw [jE,nL];simp only [fS,hW,decide_eq_true_eq];omega):p:=h
theorem QI(h:p:=by
 have vc:=hd (s.getD i 0) (Nc I);unfold bf at vc;exfalso;omega):p:=h
theorem aBf(h:p:=by
 refine ab ?_
 first | exact ⟨_,B,_,_,_,_,D4,.inr yU,B,B,B,G⟩ | exact ⟨_,B,_,_,_,_,0,.inl I,B,B,B,G⟩):p:=h
theorem QJ(h:p:=by
 simp only [kT,gV,nL];unfold s4
 repeat' split
 all_goals omega):p:=h
theorem aBg(h:p:=by
 have h1:=aD (λl:List ByteArray=>l[i]?) hn;simp only [eF,hx,hy,ti,kS] at h1;exact h1):p:=h
theorem aBi(h:p:=by
 refine ⟨G.ext,_,B,λ_=>⟨I,?_⟩,λ_=>rfl⟩;have e:i=l.length:=I;subst e;rw [nG] at hall;exact hall):p:=h
theorem aBj(h:p:=by
 exact ⟨G.ext,4,[],B,(λk m eG h hm=>by have:=h.len;rw [fm] at this;simp only [dC] at this;omega),bU _⟩):p:=h
theorem aBk(h:p:=by
 refine ae ?_;refine Rq ?_;exact ⟨G.ext,_,_,_,_,3,B,he.symm⟩):p:=h
theorem QK(h:p:=by
 exact ⟨(nL _).2 jU,by simp,by simp only;omega,by simp only;omega⟩):p:=h
theorem aBl(h:p:=by
 simp [hx,hy,Instr.storeAt,Instr.sureAddr,storeVar,sQ (w:=w) hs,hc,storeCells,run_store P w _ v _ h1,q7,NC,yW]):p:=h
theorem aBm(h:p:=by
 refine ⟨λap=>?_,?_⟩
 ·rw [hr] at ap;cases ap
 . rw [hr]
   intro j ax;obtain rfl:j=i:=by simpa using ax
   exact ⟨o,au,h⟩):p:=h
theorem QL(h:p:=by
 simp only [aQ,cf,dC];omega):p:=h
theorem QM(h:p:=by
 exact ⟨0,B,bU _,(λj h=>I),aJ,B,B,G⟩):p:=h
theorem aBn(h:p:=by
 refine bz ?_;refine aVj Tryz.results275 B B B B ?_;exact ⟨G.ext,_,[],_,_,B,.inl ⟨B,iC⟩,bU _⟩):p:=h
theorem QN(h:p:=by
 exact ⟨_,B,_,by simp only [beq_iff_eq];omega,B,aB,B,G⟩):p:=h
theorem aBp(h:p:=by
 refine pd ?_;rw [jE];simp only [fS,decide_eq_true_eq];unfold okL;omega):p:=h
theorem QO(h:p:=by
 exact ⟨0,B,bU _,λj h=>I,aJ,B,B,G⟩):p:=h
theorem aBq(h:p:=by
 obtain ⟨b,o,hs,hr⟩:=hp;exact ⟨b,o,hs.mono λ_ hb=>Nat.lt_of_lt_of_le hb h.size,λi x hx=>(hr i x hx).up h⟩):p:=h
theorem aBr(h:p:=by
 have h1:=kq (List.mem_map_of_mem (f:=λy:T×List UInt8×T=>y.1) hy);have h2:=H3 (he y hy);omega):p:=h
theorem aBs(h:p:=by
 rw [fx.block p.1 (G.lt p kJ) (λe=>sw p.1 (by rw [e];rfl) (lm.2 ⟨p,kJ,B⟩))];exact G.own p kJ):p:=h
theorem aBt(h:p:=by
 refine ag ?_;refine j8 Tryz.results211 B (G.at 0 B) fb B c6 ?_;exact ⟨G.ext,_,B,eO⟩):p:=h
theorem QP(h:p:=by
 simp only [eB,gT,gG]):p:=h
theorem aBu(h:p:=by
 have:=sO (ks.take i) (ks.drop i);rw [List.take_append_drop] at this;rw [this,aQ];omega):p:=h
theorem aBv(h:p:=by
 cases s with
 | nil=>decide
 | cons c t =>
  rw [yI (by simp)];split
  ·rw [D5 (by simp)]
  ·rfl):p:=h
theorem aBw(h:p:=by
 show (prints [dL,lK]).length=_;rw [hU,hU,gx,cH,aQ]):p:=h
theorem Zr(h:p:=by
 obtain ⟨j,ax⟩:=jX hm;exact Na j (by have:=(bT.1 ax).1;omega) ax):p:=h
theorem Zs(h:p:=by
 have h2:=aD fw h1;rw [bL1 (by have:=xz (s:=s) (j:=c4 s-1) I;omega)] at h2;omega):p:=h
theorem Zt(h:p:=by
 have vk:=(bT.1 hm).1;exact (hv m _ d (bS I) hm).len):p:=h
theorem Zu(h:p:=by
 by_cases e:e7 (kT s a im (i-1))=true
 ·exact e
 ·rw [O e] at h1;exact absurd h1 (by decide)):p:=h
theorem Zv(h:p:=by
 exact ⟨G.ext,0,aD (λn:Nat=>Value.tuple #[.int .i64 0,.int .i64 (n:Int)]) hv.symm⟩):p:=h
theorem Qq(h:p:=by
 refine Ga (i:=6) (j:=7) (m:=8) ac B B B ?_ ?_ ?_
 ·refine ej ?_;exact ZW
 ·refine ej ?_;exact ZX
 refine ej ?_;exact ZY):p:=h
theorem Zw(h:p:=by
 refine gS ?_;refine fR (i:=10) (j:=14) ac B B ?_ ?_
 ·refine aDo ?_;refine gS ?_;refine fR (i:=11) (j:=14) ac B B ?_ ?_
  ·refine aDp ?_;refine gS ?_;refine C6 ?_;refine Gr ?_;intro Ym w G OC BO;subst BO;exact aAj
  refine Gr ?_;intro Ym w G OC BO;subst BO;exact ZN
 refine Gr ?_;intro Ym w G OC BO;subst BO;exact ZZ):p:=h
theorem Qr(h:p:=by
 refine ej ?_;refine qV ?_;refine dv ?_;intro bH w G fl fg;refine p1 ?_;exact Z1):p:=h
theorem Zx(h:p:=by
 refine Z (λhR=>?_) (λhR=>?_)
 ·refine ae ?_;refine S B B (av (v:=.int .u8 ((c.toNat:Nat):Int)) B B) ?_;refine ag ?_;exact z7
 refine aq ?_;refine Z (λfm=>?_) (λfm=>?_)
 ·refine aq ?_;exact z7
 refine aq ?_;refine Z (λe1=>?_) (λe1=>?_)
 ·refine aq ?_;exact z7
 refine aq ?_;refine Z (λco=>?_) (λco=>?_)
 ·refine aq ?_;exact z7
 refine aq ?_;refine Z (λgK=>?_) (λgK=>?_)
 ·refine aq ?_;exact z7
 refine aq ?_;refine Z (λc8=>?_) (λc8=>?_)
 ·refine aq ?_;exact z7
 refine az ?_;exact z7):p:=h
theorem Qs(h:p:=by
 refine fR (i:=10) (j:=11) ac B B ?_ ?_
 ·refine ej ?_;exact ZP
 refine ej ?_;refine kQ ?_;refine ej ?_;exact KV):p:=h
theorem aYg(h:p:=by
 refine dv ?_;intro bH w G fl fg;refine p1 ?_;exact Qw):p:=h
theorem Zz(h:p:=by
 refine Az ?_;refine fR (i:=7) (j:=9) ac B B ?_ ?_
 ·refine Rr ?_;exact ZT
 exact ZO):p:=h
theorem aYh(h:p:=by
 refine dv ?_;intro bH w G fl fg;refine p1 ?_;exact Qx):p:=h
theorem ZA(h:p:=by
 refine dQ ?_;refine lh ?_;refine Rd ?_;intro w G _ _;replace G:=G.row_eq B (Yx (l:=nrow 5 [] [] (.slice o0 jQ.length o1) []) X4 B);exact ZV):p:=h
theorem aYi(h:p:=by
 refine dv ?_;intro bH w G fl fg;refine p1 ?_;refine li ?_;exact Gc):p:=h
theorem ZB(h:p:=by
 refine Dv ?_;refine Rh ?_;intro w G lI;exact ZV):p:=h
theorem ZC(h:p:=by
 refine Du ?_;refine S B B (av (v:=(J TP)) B B) ?_;refine hY ?_;exact ⟨_,B,bH,TP,aRx,aSr,aR7,aWt,aHu,aOq,OJ,B,aJ,aB,aR,aM,G⟩):p:=h
theorem ZD(h:p:=by
 refine dQ ?_;refine r2 ?_;refine aDq ?_;refine hY ?_;exact ⟨_,B,_,_,_,_,_,_,_,_,_,_,_,iU,c9,B,aJ,aJ,B,B,G⟩):p:=h
theorem ZE(h:p:=by
 refine gS ?_;refine lh ?_;refine aDr ?_;exact aBh):p:=h
theorem ZF(h:p:=by
 refine ej ?_;refine r2 ?_;refine ov ?_;intro bH w G fl fg;refine C7 ?_;exact KV):p:=h
theorem ZH(h:p:=by
 refine (aD (λz=>cQ .or .i64 z _) (cD6 I)).trans ?_;rw [bZr I I];obtain ⟨i,rfl⟩:∃ j,i=j+1:=⟨i-1,I⟩
 rfl):p:=h
theorem ZI(h:p:=by
 refine ej ?_;refine pZ ?_;refine S B B (av (v:=.int .i64 (AW)) B B) ?_;exact aAb):p:=h
theorem Qt(h:p:=by
 refine ag ?_;refine p0 ?_;refine ae ?_;exact Zy):p:=h
theorem Qu(h:p:=by
 refine ag ?_;refine p0 ?_;refine ae ?_;exact ZG):p:=h
theorem ZJ(h:p:=by
 refine ej ?_;refine qV ?_;refine S B B (av (v:=(J pO)) B B) ?_;exact Zq):p:=h
theorem ZK(h:p:=by
 refine mg (G.drop 1) I ?_;rw [gG,List.flatMap_append,gE,List.flatMap_nil,cH]):p:=h
theorem Qv(h:p:=by
 simp [resolve,invoke,builtin,hs,hx,hE,Result.andThen]):p:=h
theorem ZL(h:p:=by
 refine ag ?_;refine Rt ?_;exact aAk):p:=h
theorem Gc(h:p:=by
 refine ej ?_;exact Z1):p:=h
theorem ZM(h:p:=by
 refine p1 ?_;refine qU ?_;refine aDg ?_;rintro aW3 w ⟨k,cI,bl,ev,cB,n2,n3,o,bk,rs,rfl,cq,cu⟩;replace G:=G.callRows cq;simp only [cH] at G;obtain ⟨iU,_,l,xe,c9⟩:=cu.resolve_left (λh=>absurd (h.2.det dc) (by simp));have IJ:docD l=t0:=Sum.inr.inj (xe.det dc);rw [IJ] at c9;refine dQ ?_;refine kb ?_;refine ej ?_;exact Qq):p:=h
theorem aYk(h:p:=by
 refine s7 ?_;intro w G ig;exact Z2):p:=h
theorem aYl(h:p:=by
 refine s7 ?_;intro w G ig;refine dQ ?_;refine lh ?_;refine ab ?_;exact KS):p:=h
theorem aYm(h:p:=by
 refine s7 ?_;intro w G ig;refine dQ ?_;refine fR (i:=7) (j:=8) ac B B ?_ ?_
 ·refine ab ?_;exact Z2
 refine ej ?_;refine lh ?_;refine ab ?_;exact KS):p:=h
theorem ZN(h:p:=by
 refine gS ?_;refine mO ?_;refine aDp ?_;exact aAj):p:=h
theorem ZO(h:p:=by
 refine Az ?_;refine lh ?_;refine Rr ?_;exact Z6):p:=h
theorem ZP(h:p:=by
 refine fR (i:=11) (j:=13) ac B B ?_ ?_
 ·refine ej ?_;exact KV
 exact aYj):p:=h
theorem ZQ(h:p:=by
 refine ej ?_;refine fR (i:=8) (j:=9) ac B B ?_ ?_
 ·exact Qr
 exact aYg):p:=h
theorem ZR(h:p:=by
 refine ej ?_;refine fR (i:=7) (j:=9) ac B B ?_ ?_
 ·exact Qr
 exact aYh):p:=h
theorem ZS(h:p:=by
 refine ej ?_;refine fR (i:=6) (j:=9) ac B B ?_ ?_
 ·exact Qr
 exact aYi):p:=h
theorem ZT(h:p:=by
 refine Gs ?_;refine qV ?_;refine ab ?_;exact Z6):p:=h
theorem ZV(h:p:=by
 refine hY ?_;exact ⟨_,B,_,_,aB,aK,aM,aL,aS,B,G⟩):p:=h
theorem ZW(h:p:=by
 refine Ga (i:=7) (j:=8) (m:=10) ac B B B ?_ ?_ ?_
 ·refine ej ?_;exact Qw
 ·refine ej ?_;exact Qx
 exact aYm):p:=h
theorem ZX(h:p:=by
 refine fR (i:=6) (j:=8) ac B B ?_ ?_
 ·refine ej ?_;exact Qw
 refine ej ?_;refine li ?_;exact Gc):p:=h
theorem ZY(h:p:=by
 refine fR (i:=6) (j:=7) ac B B ?_ ?_
 ·refine ej ?_;exact Qx
 refine ej ?_;refine li ?_;exact Gc):p:=h
theorem ZZ(h:p:=by
 refine gS ?_;refine kQ ?_;refine aDo ?_;exact ZN):p:=h
theorem Z0(h:p:=by
 refine p1 ?_;refine nD ?_;refine La ?_;intro w G sC;exact ZM):p:=h
theorem Z1(h:p:=by
 refine kQ ?_;refine s7 ?_;intro w G ig;exact KS):p:=h
theorem Z2(h:p:=by
 refine dQ ?_;refine fR (i:=8) (j:=11) ac B B ?_ ?_
 ·refine ab ?_;exact KS
 exact aYn):p:=h
theorem Qw(h:p:=by
 refine fR (i:=8) (j:=10) ac B B ?_ ?_
 ·exact Gc
 exact aYk):p:=h
theorem Qx(h:p:=by
 refine fR (i:=7) (j:=10) ac B B ?_ ?_
 ·exact Gc
 exact aYl):p:=h
end
end Go
section
namespace Go.Dk
open Go Go.RowKit
variable {P:Program}{w:World}{n:Nat}
def eh (f:Nat->Value)(d:Nat)(v:Value):Nat->Value:=λi=>bif gU i d then v else f i
def rO:List Value->Nat->Value
 | [],_=>undef
 | x::_,0=>x
 | _::l,i+1=>rO l i
def aC (n:Nat)(f:Nat->Value):Act:=⟨Array.ofFn (n:=n) λi=>f i.val,[]⟩
def aW (n:Nat)(f:Nat->Value):Operand->Value
 | .tmp t=>bif qb t n then f t else undef
 | .const v=>v
 | .global g=>.pointer (some ⟨g,0,none⟩)
 | .func k=>.func (.func k) #[] #[]
theorem HA (a b:Nat):qb a b=decide (a<b):=by
 rw [jE];simp [Nat.blt_eq]
theorem YW (f:Nat->Value)(d:Nat)(v:Value)(i:Nat):eh f d v i=if i=d then v else f i:=by
 unfold eh;cases h:gU i d
 . have aU:i≠d:=by intro e;rw [e,Nat.beq_refl] at h;cases h
   simp [aU]
 . have aU:i=d:=Nat.eq_of_beq_eq_true h
   simp [aU]
theorem eS (n:Nat)(f:Nat->Value):(aC n f).eval=aW n f:=by
 funext x
 cases x with
 | tmp t =>
  show (aC n f).tmps.getD t undef=bif qb t n then f t else undef;rw [HA];unfold aC;by_cases h:t<n <;> simp [h,Array.getD]
 | _=>rfl
theorem mC (n:Nat)(f:Nat->Value)(d:Nat)(v:Value):(aC n f).put (some d) v=aC n (eh f d v):=by
 simp only [Act.put,aC]
 congr 1
 apply Array.ext
 ·simp
 . intro i h1 h2
   have hi:i<n:=by simpa using h2
   rw [Array.getElem_ofFn];simp only [YW];by_cases hd:i=d
   ·subst hd;simp
   ·rw [O hd,Array.getElem_setIfInBounds_ne (by simpa using hi) (Ne.symm hd),Array.getElem_ofFn]
theorem M0 (l:List Value)(n:Nat)(h:l.length<=n) :
  ({ tmps:=l.toArray++CV (n-l.toArray.size) undef,defers:=[]}:Act)=aC n (rO l):=by
 have key:∀ (l:List Value) (i:Nat),rO l i=l.getD i undef:=by
  intro l
  induction l with
  | nil=>intro i;simp [rO]
  | cons x l ih=>intro i;cases i with
   | zero=>simp [rO]
   | succ i=>simp [rO,ih]
 simp only [aC]
 congr 1
 apply Array.ext
 ·simp;omega
 . intro i h1 h2
   simp only [Array.getElem_ofFn,key,Array.getElem_append];simp at h1 h2;by_cases hi:i<l.length
   ·simp [hi,l8]
   ·simp [hi,l8]
def Ret (P:Program)(k:FuncId)(args:List Value)(w:World)(R:Value->World->Prop):Prop :=
 Calls P k args.toArray w λe w'=>∃ v,e=.returned v/\R v w'
theorem Ret.mono{k:FuncId}{args:List Value}{R gH:Value->World->Prop}(h:Ret P k args w R)(hr:∀ v w',R v w'->gH v w'):Ret P k args w gH :=
 Calls.mono h λ_ _ ⟨v,he,hv⟩=>⟨v,he,hr _ _ hv⟩
theorem aI{k:FuncId}{fn:Func}{c:Code}{l:List Value}{R:Value->World->Prop}
  (hf:P.funcs[k]?=some fn) (hb:fn.body=some c) (hn:fn.ntmps=n) (hl:Nat.ble l.length n=true)
  (h:c.wp P (bodyPost P fn λe w'=>∃ v,e=.returned v/\R v w') (aC n (rO l)) w):Ret P k l w R:=by
 refine calls_of_wp hf hb ?_;rw [hn,M0 l n (Nat.le_of_ble_eq_true hl)];exact h
theorem be{fn:Func}{R:Value->World->Prop}{f:Nat->Value}{t:Nat}{v:Value}
  (hr:fn.results=#[.tmp t]) (hv:aW n f (.tmp t)=v) (h:R v w):bodyPost P fn (λe w'=>∃ v,e=.returned v/\R v w') .ret (aC n f) w:=by
 refine ⟨B,v,?_,v,B,h⟩;rw [results_tmp hr];rw [<- hv,<- eS];rfl
theorem dY{fn:Func}{R:Value->World->Prop}{f:Nat->Value}{t u:Nat}{v x:Value}
  (hr:fn.results=#[.tmp t,.tmp u]) (hv:aW n f (.tmp t)=v) (hx:aW n f (.tmp u)=x) (h:R (.tuple #[v,x]) w):bodyPost P fn (λe w'=>∃ v,e=.returned v/\R v w') .ret (aC n f) w:=by
 refine ⟨B,_,?_,_,B,h⟩;rw [results_tmp2 hr];rw [<- hv,<- hx,<- eS];rfl
section
variable {P:Program} {ops:Array Oper} {Q:Exit->Act->World->Prop} {bh:List Oper} {o:Oper} {n:Nat} {f:Nat->Value} {w:World}
theorem aVy {w':World}{v:Value}(aH:o.guard=none)(hv:(execOp (aW n f) o).run P w=.ok (.value v) w')
  (h:wpList P ops Q bh ((aC n f).put o.dst v) w'):wpList P ops Q (o::bh) (aC n f) w:=by
 refine wpList_plain aH λeu ep=>?_
 unfold Oper.wp;rw [eS,hv];exact ep _ _ h
theorem S {v:Value}{d:Nat}(aH:o.guard=none)(hd:o.dst=some d)(hv:(execOp (aW n f) o).run P w=.ok (.value v) w)
  (h:wpList P ops Q bh (aC n (eh f d v)) w):wpList P ops Q (o::bh) (aC n f) w :=
 aVy aH hv (by rw [hd,mC];exact h)
theorem od {w':World}{v:Value}{d:Nat}(aH:o.guard=none)(hd:o.dst=some d)(hv:(execOp (aW n f) o).run P w=.ok (.value v) w')
  (h:wpList P ops Q bh (aC n (eh f d v)) w'):wpList P ops Q (o::bh) (aC n f) w :=
 aVy aH hv (by rw [hd,mC];exact h)
theorem FR {w':World}(aH:o.guard=none)(hd:o.dst=none)(hv:(execOp (aW n f) o).run P w=.ok .skip w')
  (h:wpList P ops Q bh (aC n f) w'):wpList P ops Q (o::bh) (aC n f) w:=by
 refine wpList_plain aH λeu ep=>?_
 unfold Oper.wp;rw [eS,hv];refine ep _ _ ?_;rw [hd];exact h
def gv (c:Bool)(v:Value):Value:=bif c then v else undef
theorem fV {c:Bool}{x v:Value}(hc:c=true)(h:x=gv c v):x=v:=by rw [h,hc];rfl
theorem uN {a b:Bool}(h:(a&&b)=true):a=true:=by cases a <;> simp_all
attribute [irreducible] gv
def oE (v:Value)(gP c:Bool):Prop:=(match v with | .bool b=>b==gP | _=>false)=c
theorem F8 {x:Value}{b:Bool}(h:x=.bool b):oE x true b:=by subst h;cases b <;> rfl
theorem cHi {x:Value}{b:Bool}(h:x=.bool b):oE x false (!b):=by subst h;cases b <;> rfl
theorem cHk {x:Value}{c b:Bool}(h:x=gv c (.bool b)):oE x true (c&&b):=by subst h;unfold gv;cases b <;> cases c <;> rfl
theorem cHj {x:Value}{c b:Bool}(h:x=gv c (.bool b)):oE x false (c&&!b):=by subst h;unfold gv;cases b <;> cases c <;> rfl
theorem CO {j fv:Nat}{gP c:Bool}(aH:o.guard=some (j,gP))(ax:(ops[j]?).bind (·.dst)=some fv)(hc:oE (aW n f (.tmp fv)) gP c) :
  Region.wanted o (yielded ops (aC n f).tmps)=c:=by
 have hy:(aC n f).tmps[fv]?=if fv<n then some (f fv) else none:=by
  by_cases h:fv<n <;> simp [aC,h]
 unfold Region.wanted yielded;rw [aH];simp only [ax,ke,hy];unfold oE at hc;rw [<- hc];show _=(match (bif qb fv n then f fv else undef) with | .bool b=>b==gP | _=>false);rw [HA];by_cases h:fv<n
 . simp only [h,if_true,decide_true,cond_true]
   cases f fv <;> simp
 . simp only [h,if_false,decide_false,cond_false]
   simp [undef]
theorem aN {v:Value}{j d fv:Nat}{gP c:Bool}(aH:o.guard=some (j,gP))(hd:o.dst=some d)(ax:(ops[j]?).bind (·.dst)=some fv)(hc:oE (aW n f (.tmp fv)) gP c)
  (hv:c=true->(execOp (aW n f) o).run P w=.ok (.value v) w) (h:wpList P ops Q bh (aC n (eh f d (gv c v))) w):wpList P ops Q (o::bh) (aC n f) w:=by
 have hw:=CO (o:=o) (ops:=ops) aH ax hc;refine wpList_step λeu ep=>?_
 rw [hw]
 cases c with
 | true =>
  simp only [if_true];unfold Oper.wp;rw [eS,hv B];refine ep _ _ ?_;rw [hd,mC];unfold gv at h;exact h
 | false =>
  simp only [r0,if_false];refine ep _ _ ?_;rw [hd,mC];unfold gv at h;exact h
variable {ρ:Operand->Value} {a:Operand}
theorem cU {x:Operand}{v:Value}(au:o.op=.move x)(hx:ρ x=v):(execOp ρ o).run P w=.ok (.value v) w:=by
 unfold execOp;rw [au];simp [hx]
theorem av {x:Operand}{v:Value}(au:o.op=.assign x)(hx:ρ x=v):(execOp ρ o).run P w=.ok (.value v) w:=by
 unfold execOp;rw [au];simp [hx]
theorem CK {c x y:Operand}{p q:Bool}(au:o.op=.pick c x y)(hc:ρ c=.bool p)(hx:ρ x=.bool true)(hy:ρ y=gv (!p) (.bool q)):(execOp ρ o).run P w=.ok (.value (.bool (p||q))) w:=by
 unfold execOp;rw [au];simp only [hc,hx,hy,asBool];cases p <;> simp [gv]
theorem zS {c x y:Operand}{p q:Bool}(au:o.op=.pick c x y)(hc:ρ c=.bool p)(hx:ρ x=gv p (.bool q))(hy:ρ y=.bool false):(execOp ρ o).run P w=.ok (.value (.bool (p&&q))) w:=by
 unfold execOp;rw [au];simp only [hc,hx,hy,asBool];cases p <;> simp [gv]
theorem zU {c x y:Operand}{p q g:Bool}(aH:g=true)(au:o.op=.pick c x y)(hc:ρ c=gv g (.bool p))(hx:ρ x=.bool true)(hy:ρ y=gv (g&&!p) (.bool q)):(execOp ρ o).run P w=.ok (.value (.bool (p||q))) w :=
 CK au (fV aH hc) hx (by rw [hy,aH,Bool.true_and])
theorem CJ {c x y:Operand}{p q g:Bool}(aH:g=true)(au:o.op=.pick c x y)(hc:ρ c=gv g (.bool p))(hx:ρ x=gv (g&&p) (.bool q))(hy:ρ y=.bool false):(execOp ρ o).run P w=.ok (.value (.bool (p&&q))) w :=
 zS au (fV aH hc) (by rw [hx,aH,Bool.true_and]) hy
theorem gQ {op:BinOp}{t ee:TypeId}{x y:Operand}{k:IntKind}{p q:Int}{b:Bool}(au:o.op=.binOp op t x y ee)(hx:ρ x=.int k p)(hy:ρ y=.int k q)
  (aPk:(match op with | .lss=>some (decide (p<q)) | .leq=>some (decide (p<=q)) | .gtr=>some (decide (q<p)) | .geq=>some (decide (q<=p)) | .eql=>some (p==q) | .neq=>some (p != q) | _=>none)=some b) :
  (execOp ρ o).run P w=.ok (.value (.bool b)) w:=by
 unfold execOp;rw [au];simp only [hx,hy];cases op <;> simp at aPk <;> subst aPk <;> simp [eqGuard,binOp,Op.intCmp,bne]
theorem rX {t ee:TypeId}{x y:Operand}{p q:Int}(au:o.op=.binOp .add t x y ee)(hx:ρ x=.int .i64 p)(hy:ρ y=.int .i64 q)
  (h1:-9223372036854775808<=p+q) (h2:p+q<=9223372036854775807):(execOp ρ o).run P w=.ok (.value (.int .i64 (p+q))) w:=by
 unfold execOp;rw [au];have hw:IntKind.i64.wrap (p+q)=p+q:=IntWalk.i64_in _ I;simp [hx,hy,eqGuard,binOp,Op.intArith,hw]
theorem sZ {t ee:TypeId}{x y:Operand}{p q:Int}(au:o.op=.binOp .sub t x y ee)(hx:ρ x=.int .i64 p)(hy:ρ y=.int .i64 q)
  (h1:-9223372036854775808<=p-q) (h2:p-q<=9223372036854775807):(execOp ρ o).run P w=.ok (.value (.int .i64 (p-q))) w:=by
 unfold execOp;rw [au];have hw:IntKind.i64.wrap (p-q)=p-q:=IntWalk.i64_in _ I;simp [hx,hy,eqGuard,binOp,Op.intArith,hw]
theorem KE {t ee:TypeId}{x y:Operand}{p q:Int}(au:o.op=.binOp .mul t x y ee)(hx:ρ x=.int .i64 p)(hy:ρ y=.int .i64 q)
  (h1:-9223372036854775808<=p*q) (h2:p*q<=9223372036854775807):(execOp ρ o).run P w=.ok (.value (.int .i64 (p*q))) w:=by
 unfold execOp;rw [au];have hw:IntKind.i64.wrap (p*q)=p*q:=IntWalk.i64_in _ ⟨h1,h2⟩;simp [hx,hy,eqGuard,binOp,Op.intArith,hw]
theorem vZ {t:TypeId}{x:Operand}{b:Bool}(au:o.op=.unOp .not t x)(hx:ρ x=.bool b):(execOp ρ o).run P w=.ok (.value (.bool (!b))) w:=by
 unfold execOp;rw [au];simp [hx,Op.unary]
theorem Qe {x:Operand}{i:Nat}{vs:Array Value}{v:Value}(au:o.op=.extract x i)(hx:ρ x=.tuple vs)(hv:vs[i]?=some v):(execOp ρ o).run P w=.ok (.value v) w:=by
 unfold execOp;rw [au];simp [hx,Instr.extract,hv]
theorem hJ {x:Operand}{t:TypeId}{ad:Option Addr}{l c:Nat}{e:TypeId}(au:o.op=.call { callee:=.builtin .len,args:=#[x],argTypes:=#[t]})(hx:ρ x=.slice ad l c)(aP:P.underlying t=some (.slice e)) :
  (execOp ρ o).run P w=.ok (.value (.int .i64 l)) w:=by
 unfold execOp;rw [au];simp [resolve,hx,invoke,builtin,Builtin.len_,goInt,run_underlying aP]
theorem Qf {x:Operand}{t:TypeId}{s:ByteArray}(au:o.op=.call { callee:=.builtin .len,args:=#[x],argTypes:=#[t]})(hx:ρ x=.string s)(aP:P.underlying t=some .string) :
  (execOp ρ o).run P w=.ok (.value (.int .i64 s.size)) w:=by
 unfold execOp;rw [au];simp [resolve,hx,invoke,builtin,Builtin.len_,goInt,run_underlying aP]
theorem S6 (s u:ByteArray):(s.toList==u.toList)=decide (s=u):=by
 rw [jE];simp only [beq_iff_eq,decide_eq_true_eq,ByteArray.toList_eq];constructor
 ·intro h;cases s;cases u;simp at h;simp [h]
 ·intro h;rw [h]
theorem aXi {t ee:TypeId}{x y:Operand}{s u:ByteArray}(au:o.op=.binOp .eql t x y ee)(hx:ρ x=.string s)(hy:ρ y=.string u) :
  (execOp ρ o).run P w=.ok (.value (.bool (decide (s=u)))) w:=by
 unfold execOp;rw [au];simp [hx,hy,eqGuard,binOp,Op.stringOp,S6]
theorem wa {t ee:TypeId}{x y:Operand}{s u:ByteArray}(au:o.op=.binOp .neq t x y ee)(hx:ρ x=.string s)(hy:ρ y=.string u) :
  (execOp ρ o).run P w=.ok (.value (.bool (!decide (s=u)))) w:=by
 unfold execOp;rw [au];simp [hx,hy,eqGuard,binOp,Op.stringOp,S6]
def RowAt (w:World)(b o:Nat)(l:List Value):Prop:=∀ j x,l[j]?=some x->w.cell? ⟨b,o+j,none⟩=some x
theorem RowAt.cell {b i:Nat}{l:List Value}{x:Value}(h:RowAt w b i l)(j:Nat)(ax:l[j]?=some x):w.cell? ⟨b,i+j,none⟩=some x:=h j x ax
theorem q7 (b i j:Nat):(⟨b,i,none⟩:Addr).add j=⟨b,i+j,none⟩:=by
 unfold Addr.add;split
 ·rename_i h;subst h;rfl
 ·rfl
def Hw:TypeDesc->Bool
 | .struct _ | .array _ _=>true
 | _=>false
theorem PO {t:TypeId}{d:TypeDesc}(aP:P.underlying t=some d):(isAgg t).run P w=.ok (Hw d) w:=by
 unfold isAgg;rw [Sem.run_bind,run_underlying aP w];cases d <;> rfl
theorem sQ {t:TypeId}{k:Nat}(hs:(P.info? t).map (·.size)=some k):(sizeOf t).run P w=.ok k w:=by
 cases h:P.info? t with
 | none=>simp [h] at hs
 | some i=>simp [h] at hs;simp [sizeOf,typeInfo,h,hs]
theorem br {x:Operand}{t:TypeId}{d:TypeDesc}{b i:Nat}{v:Value}(au:o.op=.load t x)(hx:ρ x=.pointer (some ⟨b,i,none⟩))(aP:P.underlying t=some d)(hd:Hw d=false)
  (hc:w.cell? ⟨b,i,none⟩=some v):(execOp ρ o).run P w=.ok (.value v) w:=by
 unfold execOp;rw [au];simp [hx,Instr.loadAt,Instr.sureAddr,loadVar,PO (w:=w) aP,hd,hc]
theorem cG {x:Operand}{t:TypeId}{d:TypeDesc}{b i:Nat}{l:List Value}(au:o.op=.load t x)(hx:ρ x=.pointer (some ⟨b,i,none⟩))(aP:P.underlying t=some d)(hd:Hw d=true)
  {k:Nat} (hs:(P.info? t).map (·.size)=some k) (hc:RowAt w b i l) (hk:l.length=k):(execOp ρ o).run P w=.ok (.value (.agg l.toArray)) w:=by
 unfold execOp;rw [au];subst hk;have hl:=run_loadCells_list (P:=P) w ⟨b,i,none⟩ l (λj v hv=>by rw [q7];exact hc j v hv);simp [hx,Instr.loadAt,Instr.sureAddr,loadVar,PO (w:=w) aP,hd,sQ (w:=w) hs,hl]
def bY (P:Program)(t:TypeId)(i off:Nat):Prop:=∀ (b k:Nat) (w:World),(Instr.fieldAt t (.pointer (some ⟨b,k,none⟩)) i).run P w=.ok (.pointer (some ⟨b,k+off,none⟩)) w
theorem b5 {t:TypeId}{i s tt off:Nat}{fs:Array Field}(aP:P.underlying t=some (.struct fs))(hf:(fs[i]?).map (λf=>(f.type,f.offset))=some (tt,off))(hs:(P.info? tt).map (·.size)=some s)(ap:qb 0 s=true):bY P t i off:=by
 intro b k w;have bMr:s≠0:=by intro e;subst e;cases ap
 cases aw:fs[i]? with
 | none=>simp [aw] at hf
 | some cKh =>
  simp only [aw,ti,kS,Prod.mk.injEq] at hf;obtain ⟨rfl,rfl⟩:=hf;simp [Instr.fieldAt,run_underlying aP,aw,Instr.sureAddr,fieldPlace,sQ (w:=w) hs,q7,bMr]
theorem bO {x:Operand}{t:TypeId}{i off b k:Nat}(h:bY P t i off)(au:o.op=.fieldAddr t x i)(hx:ρ x=.pointer (some ⟨b,k,none⟩)) :
  (execOp ρ o).run P w=.ok (.value (.pointer (some ⟨b,k+off,none⟩))) w:=by
 unfold execOp;rw [au];simp [hx,h b k w]
theorem cT {x JJ:Operand}{t e:TypeId}{s b k len cap:Nat}{m:Int}{kd:IntKind}(aP:P.underlying t=some (.slice e))(hs:(P.info? e).map (·.size)=some s)(au:o.op=.indexAddr t x JJ)
  (hx:ρ x=.slice (some ⟨b,k,none⟩) len cap) (hi:ρ JJ=.int kd m) (ap:0<=m) (h1:m<len) :
  (execOp ρ o).run P w=.ok (.value (.pointer (some ⟨b,k+m.toNat*s,none⟩))) w:=by
 unfold execOp;rw [au];simp [hx,hi,Instr.indexAt,run_underlying aP,asIntOf,ap,h1,sQ (w:=w) hs,q7]
end
structure Row where
 e:Nat
 size:Nat
 v:Value
 n:Nat
 xs:List Value
structure Cxr (w0 w:World) (L:List (Nat×Obj)) (R:List Row):Prop where
 ext:Below w0.heap.size w0 w
 own:∀ p∈L,w.heap[p.1]?=some p.2
 lo:∀ p∈L,w0.heap.size<=p.1
 nd:(L.map (·.1)).Nodup
 rows:∀ r∈R,w.ownsRow w0.heap.size r.e r.size r.v r.n r.xs
 off:∀ r∈R,∀ k,r.v.ownBlock=some k->k∉L.map (·.1)
 pw:R.Pairwise λr s=>∀ k,r.v.ownBlock=some k->s.v.ownBlock≠some k
abbrev Ctx (w0 w:World) (L:List (Nat×Obj)):Prop:=Cxr w0 w L []
theorem Ctx.start (w:World):Ctx w w []:=⟨Below.refl _ _,by simp,by simp,by simp,by simp,by simp,by simp⟩
section
variable {w0 w w':World} {L:List (Nat×Obj)} {R:List Row}
theorem Cxr.lt (h:Cxr w0 w L R):∀ p∈L,p.1<w.heap.size:=by
 intro p hp;have:=h.own p hp;rcases ma p.1 w.heap.size with aU | aU
 ·exact aU
 ·simp [Array.getElem?_eq_none aU] at this
theorem Cxr.at (h:Cxr w0 w L R)(i:Nat){b:Nat}{o:Obj}(hi:L[i]?=some (b,o)):w.heap[b]?=some o :=
 h.own (b,o) (cb hi)
theorem Cxr.row (h:Cxr w0 w L R)(i:Nat){b:Nat}{l:List Value}{t:TypeId}{fr:Nat×Nat}(hi:L[i]?=some (b,.cells l.toArray t fr)):RowAt w b 0 l:=by
 intro j x ax;have:=h.at i hi;rw [cell_of_row w b (0+j) _ t fr this];simpa using ax
theorem Cxr.cell (h:Cxr w0 w L R)(i:Nat){b j:Nat}{cs:Array Value}{x:Value}{t:TypeId}{fr:Nat×Nat}(hi:L[i]?=some (b,.cells cs t fr))(ax:cs.toList[j]?=some x):w.cell? ⟨b,j,none⟩=some x:=by
 have:=h.at i hi;rw [cell_of_row w b j _ t fr this];simpa using ax
theorem bXy {k:Nat}{x:Nat}(h:x∈(L.drop k).map (·.1)):x∈L.map (·.1):=by
 obtain ⟨p,hp,rfl⟩:=lm.1 h;exact lm.2 ⟨p,List.mem_of_mem_drop hp,B⟩
theorem Cxr.drop (h:Cxr w0 w L R)(k:Nat):Cxr w0 w (L.drop k) R :=
 ⟨h.ext,λp hp=>h.own p (List.mem_of_mem_drop hp),λp hp=>h.lo p (List.mem_of_mem_drop hp),by
  rw [List.map_drop];exact (List.drop_sublist k _).nodup h.nd,h.rows,λr hr j6 hk hm=>h.off r hr j6 hk (bXy hm),h.pw⟩
theorem Cxr.row_keep {r:Row}(h:Cxr w0 w L R)(hr:r∈R)(au:w'.os=w.os)(ht:w'.tape=w.tape)(aP:w'.output=w.output)(hs:w.heap.size<=w'.heap.size)(hk:∀ k,k<w.heap.size->r.v.ownBlock=some k->w'.heap[k]?=w.heap[k]?) :
  w'.ownsRow w0.heap.size r.e r.size r.v r.n r.xs:=by
 have cz:=h.rows r hr;refine ⟨cz.1,?_⟩;rcases cz.2 with hn | ⟨g,cap,cg,hv,hb,aH,bh⟩
 ·exact .inl hn
 . refine .inr ⟨g,cap,cg,hv,hb,?_,bh⟩
   rw [hk g (Array.getElem?_eq_some_iff.1 aH).1 (by rw [hv];rfl)];exact aH
theorem Cxr.call (h:Cxr w0 w L R)(hb:Below w.heap.size w w'):Cxr w0 w' L R :=
 ⟨h.ext.trans (hb.mono h.ext.size),λp hp=>by rw [hb.block p.1 (h.lt p hp)];exact h.own p hp,h.lo,h.nd,
  λr hr=>h.row_keep hr hb.os hb.tape hb.output hb.size λk hk _=>hb.block k hk,h.off,h.pw⟩
theorem Cxr.draw (h:Cxr w0 w L R):Cxr w0 w.drew L R:=h.call ⟨rfl,rfl,rfl,bV _,λ_ _=>rfl⟩
theorem Cxr.alloc (h:Cxr w0 w L R)(o:Obj):Cxr w0 (w.alloc o) ((w.heap.size,o)::L) R:=by
 refine ⟨h.ext.alloc h.ext.size o,?_,?_,?_,?_,?_,h.pw⟩
 . intro p hp
   rcases eX.1 hp with rfl | hp
   ·exact heap_alloc_new w o
   ·rw [Below.heap_alloc w o p.1 (h.lt p hp)];exact h.own p hp
 . intro p hp
   rcases eX.1 hp with rfl | hp
   ·exact h.ext.size
   ·exact h.lo p hp
 . simp only [jk,ym]
   refine ⟨λhm=>?_,h.nd⟩;obtain ⟨p,hp,he⟩:=lm.1 hm;have:=h.lt p hp;omega
 . intro r hr
   exact (h.rows r hr).alloc o
 . intro r hr k hk hm
   simp only [jk,eX] at hm;rcases hm with rfl | hm
   ·have:=((h.rows r hr).lt _ hk).2;omega
   ·exact h.off r hr k hk hm
theorem Cxr.turn (h:Cxr w0 w L R)(i:Nat){b:Nat}{o gu:Obj}(hi:L[i]?=some (b,o))(aPl:w'.os=w.os)(ht:w'.tape=w.tape)(aPm:w'.output=w.output)
  (ec:w.heap.size<=w'.heap.size) (hb:w'.heap[b]?=some gu) (VZ:∀ k,k<w.heap.size->k≠b->w'.heap[k]?=w.heap[k]?):Cxr w0 w' (L.set i (b,gu)) R:=by
 have BH:=cb hi;have j3:=h.lo _ BH;have aOy:(L.set i (b,gu)).map (·.1)=L.map (·.1):=by
  apply List.ext_getElem?;intro j;simp only [eF,List.getElem?_set];split
  ·rename_i he;subst he;simp [hi];exact (bT.1 hi).1
  ·rfl
 refine ⟨h.ext.trans ⟨aPl,ht,aPm,ec,λk hk=>VZ k (Nat.lt_of_lt_of_le hk h.ext.size) (by simp at j3;omega)⟩,?_,?_,?_,?_,?_,h.pw⟩
 . intro p hp
   obtain ⟨j,ax⟩:=jX hp;rw [List.getElem?_set] at ax;split at ax
   . split at ax
     ·cases ax;exact hb
     ·cases ax
   . rename_i bt
     have kJ:=cb ax;rw [VZ p.1 (h.lt p kJ) (λhe=>?_)]
     ·exact h.own p kJ
     . have h1:(L.map (·.1))[i]?=some b:=by simp [hi]
       have h2:(L.map (·.1))[j]?=some b:=by simp [ax,he]
       have b8:i<(L.map (·.1)).length:=(bT.1 h1).1;exact bt ((List.getElem?_inj b8 h.nd).1 (h1.trans h2.symm))
 . intro p hp
   rcases List.mem_or_eq_of_mem_set hp with hp | hp
   ·exact h.lo p hp
   ·subst hp;exact j3
 ·rw [aOy];exact h.nd
 . intro r hr
   refine h.row_keep hr aPl ht aPm ec λk hk hv=>VZ k hk λe=>?_
   subst e;exact h.off r hr _ hv (lm.2 ⟨_,BH,B⟩)
 . intro r hr k hk hm
   rw [aOy] at hm;exact h.off r hr k hk hm
theorem Cxr.nilRow (h:Cxr w0 w L R)(e size:Nat):Cxr w0 w L (⟨e,size,.slice none 0 0,0,[]⟩::R) :=
 ⟨h.ext,h.own,h.lo,h.nd,λr hr=>by
  rcases eX.1 hr with rfl | hr
  ·exact World.ownsRow_nil _ _ _ _
  ·exact h.rows r hr,λr hr k hk=>by
  rcases eX.1 hr with rfl | hr
  ·simp [Value.ownBlock] at hk
  ·exact h.off r hr k hk,List.pairwise_cons.2 ⟨λr _ k hk=>by simp [Value.ownBlock] at hk,h.pw⟩⟩
theorem Cxr.addRow (h:Cxr w0 w L R)(r:Row)(cz:w.ownsRow w0.heap.size r.e r.size r.v r.n r.xs)(NV:∀ k,r.v.ownBlock=some k->k∉L.map (·.1))(hr:∀ s∈R,∀ k,r.v.ownBlock=some k->s.v.ownBlock≠some k):Cxr w0 w L (r::R) :=
 ⟨h.ext,h.own,h.lo,h.nd,λs hs=>by
  rcases eX.1 hs with rfl | hs
  ·exact cz
  ·exact h.rows s hs,λs hs=>by
  rcases eX.1 hs with rfl | hs
  ·exact NV
  ·exact h.off s hs,List.pairwise_cons.2 ⟨hr,h.pw⟩⟩
theorem Cxr.callRow (h:Cxr w0 w L R)(hb:Below w.heap.size w w'){e size n:Nat}{v:Value}{xs:List Value}(cz:w'.ownsRow w.heap.size e size v n xs):Cxr w0 w' L (⟨e,size,v,n,xs⟩::R):=by
 refine (h.call hb).addRow _ ⟨cz.1,?_⟩ ?_ ?_
 . rcases cz.2 with h2 | ⟨g,cap,cg,h1,h2,Y⟩
   ·exact .inl h2
   ·exact .inr ⟨g,cap,cg,h1,nI h.ext.size h2,Y⟩
 . intro k hk hm
   obtain ⟨p,hp,rfl⟩:=lm.1 hm;have h1:=(cz.lt _ hk).1;have h2:=h.lt p hp;omega
 . intro s hs k hk bX
   have h1:=(cz.lt _ hk).1;have h2:=((h.rows s hs).lt _ bX).2;omega
theorem Cxr.toRow {b e size k:Nat}{cs:List Value}(h:Cxr w0 w ((b,.cells cs.toArray e)::L) R)(hl:cs.length=k*size)(hk:k<=maxLen):Cxr w0 w L (⟨e,size,.slice (some ⟨b,0,none⟩) k k,k,cs⟩::R):=by
 refine (h.drop 1).addRow _ ⟨hl,.inr ⟨b,k,cs.toArray,B,h.lo (b,.cells cs.toArray e) (by simp),h.own (b,.cells cs.toArray e) (by simp),bV _,hk,by simpa using hl,?_⟩⟩ ?_ ?_
 ·simp [<- hl]
 . intro q aw
   simp only [Value.ownBlock,kS] at aw;subst aw;have:=h.nd;simp only [jk,ym] at this;exact this.1
 . intro s hs q aw EV
   simp only [Value.ownBlock,kS] at aw;subst aw;exact h.off s hs _ EV (by simp)
end
section
variable {P:Program} {ops:Array Oper} {Q:Exit->Act->World->Prop} {bh:List Oper} {o:Oper} {n:Nat} {f:Nat->Value} {w w0:World} {L:List (Nat×Obj)} {R:List Row}
theorem cC2 (t:TypeId)(v:Value):(Instr.box t v).run P w=.ok (.pointer (some ⟨w.heap.size,0,none⟩)) (w.alloc (.cells v.cells t)):=by
 simp [Instr.box,newVar,newRow]
theorem cC9 {d:Nat}{t:TypeId}{x:Operand}{v:Value}{cs:List Value}(G:Cxr w0 w L R)(aH:o.guard=none)(hd:o.dst=some d)(au:o.op=.box t x)(hx:aW n f x=v)(hv:v.cells=cs.toArray)
  (h:∀ b w',Cxr w0 w' ((b,.cells cs.toArray t)::L) R->w.heap.size=b->Below w.heap.size w w'->wpList P ops Q bh (aC n (eh f d (.pointer (some ⟨b,0,none⟩)))) w'):wpList P ops Q (o::bh) (aC n f) w:=by
 refine od (w':=w.alloc (.cells v.cells t)) (v:=.pointer (some ⟨w.heap.size,0,none⟩)) aH hd ?_ ?_
 ·unfold execOp;rw [au];simp [hx,cC2]
 ·rw [hv];exact h _ _ (G.alloc _) B ((Below.refl _ _).alloc (bV _) _)
def Zero (P:Program)(t:TypeId)(l:List Value):Prop:=∃ v,(∀ w,(zeroValue t).run P w=.ok v w)/\v.cells=l.toArray
theorem ji {t:TypeId}{v:Value}{l:List Value}(h:(P.info? t).map (·.zero)=some (some v))(hl:v.cells=l.toArray):Zero P t l:=by
 refine ⟨v,λw=>?_,hl⟩
 cases hi:P.info? t with
 | none=>simp [hi] at h
 | some i=>simp [hi] at h;simp [zeroValue,typeInfo,hi,h]
theorem kN {d:Nat}{t:TypeId}{cs:List Value}(G:Cxr w0 w L R)(hz:Zero P t cs)(aH:o.guard=none)(hd:o.dst=some d)(au:o.op=.alloc t)
  (h:∀ b w',Cxr w0 w' ((b,.cells cs.toArray t)::L) R->w.heap.size=b->Below w.heap.size w w'->wpList P ops Q bh (aC n (eh f d (.pointer (some ⟨b,0,none⟩)))) w'):wpList P ops Q (o::bh) (aC n f) w:=by
 obtain ⟨v,hv,hl⟩:=hz;refine od (w':=w.alloc (.cells v.cells t)) (v:=.pointer (some ⟨w.heap.size,0,none⟩)) aH hd ?_ ?_
 ·unfold execOp;rw [au];simp [Instr.alloc,hv w,newVar,newRow]
 ·rw [hl];exact h _ _ (G.alloc _) B ((Below.refl _ _).alloc (bV _) _)
theorem cDs {b:Nat}{hT qI:Array Value}{t:TypeId}(G:Cxr w0 w L R)(i:Nat)(hi:L[i]?=some (b,.cells hT t)):Cxr w0 (w.setRow b qI) (L.set i (b,.cells qI t)) R:=by
 have hb:=G.at i hi;refine G.turn i hi B B B (by simp) (setRow_heap w b hT qI t _ hb) λk _ bt=>setRow_other w b k qI bt
theorem bn {t T:TypeId}{x y:Operand}{b:Nat}{l cs:List Value}(G:Cxr w0 w L R)(i:Nat)(aH:o.guard=none)(hd:o.dst=none)(au:o.op=.store t x y)(hx:aW n f x=.pointer (some ⟨b,0,none⟩))(hy:aW n f y=.agg l.toArray)
  (hi:L[i]?=some (b,.cells cs.toArray T)) (hs:(P.info? t).map (·.size)=some l.length) (kY:cs.length=l.length) (h1:l.all (·.oneCell')=true)
  (h:∀ w',Cxr w0 w' (L.set i (b,.cells l.toArray T)) R->w'.heap.size=w.heap.size->wpList P ops Q bh (aC n f) w'):wpList P ops Q (o::bh) (aC n f) w:=by
 have hb:=G.at i hi;refine FR (w':=w.setRow b l.toArray) aH hd ?_ (h _ (cDs G i hi) (by simp));have:=run_storeVar_row (P:=P) w b T t cs.toArray l.toArray hb ug (by simpa using kY) (by simpa using h1);unfold execOp;rw [au];simp [hx,hy,Instr.storeAt,Instr.sureAddr,this]
theorem bR {t T:TypeId}{x y:Operand}{b j:Nat}{cs:List Value}{v:Value}(G:Cxr w0 w L R)(i:Nat)(aH:o.guard=none)(hd:o.dst=none)(au:o.op=.store t x y)(hx:aW n f x=.pointer (some ⟨b,j,none⟩))(hy:aW n f y=v)(h1:v.oneCell'=true)
  (hi:L[i]?=some (b,.cells cs.toArray T)) (ax:qb j cs.length=true) (hs:(P.info? t).map (·.size)=some 1)
  (h:∀ w',Cxr w0 w' (L.set i (b,.cells (cs.set j v).toArray T)) R->w'.heap.size=w.heap.size->wpList P ops Q bh (aC n f) w'):wpList P ops Q (o::bh) (aC n f) w:=by
 have hb:=G.at i hi;have y0:j<cs.length:=by simpa [HA] using ax
 have hc:v.cells=#[v]:=by cases v <;> first | rfl | simp [Value.oneCell'] at h1
 have NC:w.cell? ⟨b,j,none⟩=some cs[j]:=by rw [cell_of_row w b j _ T _ hb];simp [y0]
 have yW:w.frozen? ⟨b,j,none⟩=false:=frozen_of_row w b j _ T hb;refine FR (w':=w.setCell ⟨b,j,none⟩ v) aH hd ?_ (h _ ?_ (by simp))
 . unfold execOp;rw [au]
   exact aBl
 . refine G.turn i hi B B B (by simp) ?_ λk _ bt=>Below.heap_setCell w _ v k bt
   rw [heap_setCell_same w b j _ T v hb];simp
theorem bW {d k : Nat} {fF : Array Operand} {gd : Array TypeId} {fn : Func} {args : List Value} {R : Value -> World -> Prop} (hc : Ret P k args w R) (hf : P.funcs[k]? = some fn) (hb : fn.body.isNone = false) (hn : (fn.name == "runtime.NumGoroutine") = false)
  (aH:o.guard=none) (hd:o.dst=some d) (au:o.op=.call { callee:=.value (.func k),args:=fF,argTypes:=gd }) (hA:fF.toList.map (aW n f)=args)
  (h:∀ v w',R v w'->wpList P ops Q bh (aC n (eh f d v)) w'):wpList P ops Q (o::bh) (aC n f) w:=by
 refine wpList_plain aH λeu ep=>?_
 have hE:(execOp (aW n f) o).run P w=.ok (.enter k args.toArray) w:=by
  exact QA
 exact aA8
end
theorem Fv {p:Nat->Prop}(h:∃ k,p k):∃ k,p k/\∀ j,p j->k<=j:=by
 classical
 obtain ⟨k,hk⟩:=h
 induction k using Nat.strongRecOn with
 | _ k ih =>
  by_cases ax:∃ j,j<k/\p j
  . obtain ⟨j,b8,hp⟩:=ax
    exact ih j b8 hp
  ·exact ⟨k,hk,λj hp=>Nat.le_of_not_lt λb8=>ax ⟨j,b8,hp⟩⟩
theorem bu {P:Program}{c:Code}{Q:Exit->Act->World->Prop}{n:Nat}{f:Nat->Value}{w:World}(Ae:Nat->(Nat->Value)->World->Prop)(l1:Nat)(ap:Ae l1 f w)
  (cCq:∀ k f w,Ae k f w->c.wp P (Exit.then (λeb w'=>∃ j6 uY,j6<k/\eb=aC n uY/\Ae j6 uY w') Q) (aC n f) w):(Code.loop c).wp P Q (aC n f) w:=by
 classical
 let ok:Act->World->Nat->Prop:=λa w k=>∃ uY,a=aC n uY/\Ae k uY w
 let XH:Act->World->Nat:=λa w=>if h:∃ k,ok a w k then Classical.choose (Fv h) else 0
 refine wp_loop (λa w=>∃ k,ok a w k) XH ⟨l1,f,B,ap⟩ ?_;intro a w yM;have hl:=QQ (Fv yM);have j2:XH a w=Classical.choose (Fv yM):=dif_pos yM;obtain ⟨db,a6,ai⟩:=hl.1;subst a6;refine wp_mono (cCq _ db w ai) ?_;intro e eb w' aw
 cases e with
 | normal =>
  obtain ⟨j6,uY,b8,Em,aM0⟩:=aw;have Nl:∃ k,ok eb w' k:=⟨j6,uY,Em,aM0⟩;refine ⟨Nl,?_⟩;rw [j2];have tO:=QQ (Fv Nl);have bQ6:XH eb w'=Classical.choose (Fv Nl):=dif_pos Nl;rw [bQ6];exact Nat.lt_of_le_of_lt (tO.2 j6 ⟨uY,Em,aM0⟩) b8
 | _=>exact aw
end Go.Dk
end
section
namespace Go.Dk
open Go Go.RowKit
def Fc (P:Program)(k:FuncId)(args:List Value)(w:World)(R:Value->World->Prop):Prop :=
 Ret P k args w λv w'=>Below w.heap.size w w'/\R v w'
theorem Fc.mono {P:Program}{k:FuncId}{args:List Value}{w:World}{R gH:Value->World->Prop}(h:Fc P k args w R)(hr:∀ v w',Below w.heap.size w w'->R v w'->gH v w'):Fc P k args w gH :=
 Ret.mono h λv w' ⟨a,b⟩=>⟨a,hr v w' a b⟩
section
variable {P:Program} {ops:Array Oper} {Q:Exit->Act->World->Prop} {bh:List Oper} {o:Oper} {n:Nat} {f:Nat->Value} {w w0:World} {L:List (Nat×Obj)} {R:List Row} {ρ:Operand->Value}
theorem Yy {k : Nat} {fF : Array Operand} {gd : Array TypeId} {fn : Func} {args : List Value} (hf : P.funcs[k]? = some fn) (hb : fn.body.isNone = false) (hn : (fn.name == "runtime.NumGoroutine") = false)
  (au:o.op=.call { callee:=.value (.func k),args:=fF,argTypes:=gd }) (hA:fF.toList.map (aW n f)=args):(execOp (aW n f) o).run P w=.ok (.enter k args.toArray) w:=by
 exact QA
theorem bG {d k : Nat} {fF : Array Operand} {gd : Array TypeId} {fn : Func} {args : List Value} {T : Value -> World -> Prop} (G : Cxr w0 w L R) (hc : Fc P k args w T) (hf : P.funcs[k]? = some fn) (hb : fn.body.isNone = false) (hn : (fn.name == "runtime.NumGoroutine") = false)
  (aH:o.guard=none) (hd:o.dst=some d) (au:o.op=.call { callee:=.value (.func k),args:=fF,argTypes:=gd }) (hA:fF.toList.map (aW n f)=args)
  (h:∀ v w',Cxr w0 w' L R->Below w.heap.size w w'->T v w'->wpList P ops Q bh (aC n (eh f d v)) w'):wpList P ops Q (o::bh) (aC n f) w :=
 bW hc hf hb hn aH hd au hA λv w' ⟨hw,hr⟩=>h v w' (G.call hw) hw hr
theorem FQ {d j fv k:Nat}{gP c:Bool}{fF:Array Operand}{gd:Array TypeId}{fn:Func}{args:List Value}{T:Value->World->Prop}(G:Cxr w0 w L R)(aH:o.guard=some (j,gP))(hd:o.dst=some d)(ax:(ops[j]?).bind (·.dst)=some fv)(hw:oE (aW n f (.tmp fv)) gP c)
  (hc : c = true -> Fc P k args w T) (hf : P.funcs[k]? = some fn) (hb : fn.body.isNone = false) (hn : (fn.name == "runtime.NumGoroutine") = false)
  (au:o.op=.call { callee:=.value (.func k),args:=fF,argTypes:=gd }) (hA:c=true->fF.toList.map (aW n f)=args)
  (h:∀ v w',Cxr w0 w' L R->Below w.heap.size w w'->(c=true->T v w')->wpList P ops Q bh (aC n (eh f d (gv c v))) w'):wpList P ops Q (o::bh) (aC n f) w:=by
 have xq:=CO (o:=o) (ops:=ops) aH ax hw;refine wpList_step λeu ep=>?_
 rw [xq]
 cases c with
 | true =>
  simp only [if_true];unfold Oper.wp;rw [eS,Yy hf hb hn au (hA B)];exact aAz
 | false =>
  exact aBc
def lP (p:Bool->Prop)(v:Value)(_:World):Prop:=∃ b,v=.bool b/\p b
def Ad (p:Int->Prop)(v:Value)(_:World):Prop:=∃ m,v=.int .i64 m/\p m
theorem xJ {d k : Nat} {fF : Array Operand} {gd : Array TypeId} {fn : Func} {args : List Value} {p : Bool -> Prop} (G : Cxr w0 w L R) (hc : Fc P k args w (lP p)) (hf : P.funcs[k]? = some fn) (hb : fn.body.isNone = false) (hn : (fn.name == "runtime.NumGoroutine") = false)
  (aH:o.guard=none) (hd:o.dst=some d) (au:o.op=.call { callee:=.value (.func k),args:=fF,argTypes:=gd }) (hA:fF.toList.map (aW n f)=args)
  (h:∀ b w',Cxr w0 w' L R->Below w.heap.size w w'->p b->wpList P ops Q bh (aC n (eh f d (.bool b))) w'):wpList P ops Q (o::bh) (aC n f) w :=
 bG G hc hf hb hn aH hd au hA λv w' jM hw ⟨b,hv,hp⟩=>by subst hv;exact h b w' jM hw hp
theorem PR {d k : Nat} {fF : Array Operand} {gd : Array TypeId} {fn : Func} {args : List Value} {p : Int -> Prop} (G : Cxr w0 w L R) (hc : Fc P k args w (Ad p)) (hf : P.funcs[k]? = some fn) (hb : fn.body.isNone = false) (hn : (fn.name == "runtime.NumGoroutine") = false)
  (aH:o.guard=none) (hd:o.dst=some d) (au:o.op=.call { callee:=.value (.func k),args:=fF,argTypes:=gd }) (hA:fF.toList.map (aW n f)=args)
  (h:∀ m w',Cxr w0 w' L R->Below w.heap.size w w'->p m->wpList P ops Q bh (aC n (eh f d (.int .i64 m))) w'):wpList P ops Q (o::bh) (aC n f) w :=
 bG G hc hf hb hn aH hd au hA λv w' jM hw ⟨b,hv,hp⟩=>by subst hv;exact h b w' jM hw hp
theorem Cy {d j fv k:Nat}{gP c:Bool}{fF:Array Operand}{gd:Array TypeId}{fn:Func}{args:List Value}{p:Bool->Prop}(G:Cxr w0 w L R)(aH:o.guard=some (j,gP))(hd:o.dst=some d)(ax:(ops[j]?).bind (·.dst)=some fv)(hw:oE (aW n f (.tmp fv)) gP c)
  (hc : c = true -> Fc P k args w (lP p)) (hf : P.funcs[k]? = some fn) (hb : fn.body.isNone = false) (hn : (fn.name == "runtime.NumGoroutine") = false)
  (au:o.op=.call { callee:=.value (.func k),args:=fF,argTypes:=gd }) (hA:c=true->fF.toList.map (aW n f)=args)
  (h:∀ b w',Cxr w0 w' L R->Below w.heap.size w w'->(c=true->p b)->wpList P ops Q bh (aC n (eh f d (gv c (.bool b)))) w'):wpList P ops Q (o::bh) (aC n f) w:=by
 refine FQ G aH hd ax hw hc hf hb hn au hA λv w' jM sq hr=>?_
 cases c with
 | true =>
  obtain ⟨b,rfl,hp⟩:=hr rfl;exact h b w' jM sq λ_=>hp
 | false =>
  have h:=h false w' jM sq λe=>by cases e
  unfold gv at h ⊢;exact h
theorem cDf {d j fv k:Nat}{gP c:Bool}{fF:Array Operand}{gd:Array TypeId}{fn:Func}{args:List Value}{p:Int->Prop}(G:Cxr w0 w L R)(aH:o.guard=some (j,gP))(hd:o.dst=some d)(ax:(ops[j]?).bind (·.dst)=some fv)(hw:oE (aW n f (.tmp fv)) gP c)
  (hc : c = true -> Fc P k args w (Ad p)) (hf : P.funcs[k]? = some fn) (hb : fn.body.isNone = false) (hn : (fn.name == "runtime.NumGoroutine") = false)
  (au:o.op=.call { callee:=.value (.func k),args:=fF,argTypes:=gd }) (hA:c=true->fF.toList.map (aW n f)=args)
  (h:∀ m w',Cxr w0 w' L R->Below w.heap.size w w'->(c=true->p m)->wpList P ops Q bh (aC n (eh f d (gv c (.int .i64 m)))) w'):wpList P ops Q (o::bh) (aC n f) w:=by
 refine FQ G aH hd ax hw hc hf hb hn au hA λv w' jM sq hr=>?_
 cases c with
 | true =>
  obtain ⟨b,rfl,hp⟩:=hr rfl;exact h b w' jM sq λ_=>hp
 | false =>
  have h:=h 0 w' jM sq λe=>by cases e
  unfold gv at h ⊢;exact h
theorem xR {s t:TypeId}{x:Operand}{k j6:IntKind}{m:Int}{d:TypeDesc}(au:o.op=.convert s t x)(hx:ρ x=.int j6 m)(hs:P.underlying s=some d)(ht:P.underlying t=some (.int k)) :
  (execOp ρ o).run P w=.ok (.value (.int k (k.wrap m))) w:=by
 unfold execOp;rw [au];simp [hx,convert,run_underlying hs,run_underlying ht,Conv.intToInt]
theorem cHr {m:Int}(ap:0<=m)(h1:m<256):IntKind.i64.wrap m=m:=IntWalk.i64_in _ I
theorem v7 {s t:TypeId}{x:Operand}{m:Int}{d:TypeDesc}(au:o.op=.convert s t x)(hx:ρ x=.int .u8 m)(hs:P.underlying s=some d)(ht:P.underlying t=some (.int .i64))(ap:0<=m)(h1:m<256) :
  (execOp ρ o).run P w=.ok (.value (.int .i64 m)) w:=by
 have:=xR (w:=w) au hx hs ht;rwa [cHr ap h1] at this
def cQ (op:BinOp)(k:IntKind)(x y:Int):Int :=
 match op with
 | .and=>k.wrap (BitVec.ofInt k.bits x &&& BitVec.ofInt k.bits y).toNat
 | .or=>k.wrap (BitVec.ofInt k.bits x ||| BitVec.ofInt k.bits y).toNat
 | _=>0
theorem Y4 {t ee:TypeId}{x y:Operand}{k:IntKind}{p q:Int}(au:o.op=.binOp .and t x y ee)(hx:ρ x=.int k p)(hy:ρ y=.int k q):(execOp ρ o).run P w=.ok (.value (.int k (cQ .and k p q))) w:=by
 unfold execOp;rw [au];simp [hx,hy,eqGuard,binOp,Op.intBits,cQ]
theorem Qc {t ee:TypeId}{x y:Operand}{k:IntKind}{p q:Int}(au:o.op=.binOp .or t x y ee)(hx:ρ x=.int k p)(hy:ρ y=.int k q):(execOp ρ o).run P w=.ok (.value (.int k (cQ .or k p q))) w:=by
 unfold execOp;rw [au];simp [hx,hy,eqGuard,binOp,Op.intBits,cQ]
def shl (k:IntKind)(x:Int)(y:Nat):Int:=k.wrap (x*2^min y k.bits)
def shr (k:IntKind)(x:Int)(y:Nat):Int:=x.fdiv (2^min y k.bits)
theorem Y9 {t ee:TypeId}{x y:Operand}{k j6:IntKind}{p q:Int}(au:o.op=.binOp .shl t x y ee)(hx:ρ x=.int k p)(hy:ρ y=.int j6 q)(ap:0<=q):(execOp ρ o).run P w=.ok (.value (.int k (shl k p q.toNat))) w:=by
 unfold execOp;rw [au];have:¬ q<0:=I;simp [hx,hy,eqGuard,binOp,Op.shift,shl,this]
theorem Za {t ee:TypeId}{x y:Operand}{k j6:IntKind}{p q:Int}(au:o.op=.binOp .shr t x y ee)(hx:ρ x=.int k p)(hy:ρ y=.int j6 q)(ap:0<=q):(execOp ρ o).run P w=.ok (.value (.int k (shr k p q.toNat))) w:=by
 unfold execOp;rw [au];have:¬ q<0:=I;simp [hx,hy,eqGuard,binOp,Op.shift,shr,this]
def fu (s:ByteArray)(m:Int):Int:=((s.data.toList.getD m.toNat 0).toNat:Int)
theorem wG (s:ByteArray)(m:Int):0<=fu s m:=by unfold fu;omega
theorem wF (s:ByteArray)(m:Int):fu s m<256:=by
 unfold fu;have:=(s.data.toList.getD m.toNat 0).toNat_lt;omega
theorem zT {t:TypeId}{x y:Operand}{s:ByteArray}{k:IntKind}{m:Int}(au:o.op=.index t x y)(hx:ρ x=.string s)(hy:ρ y=.int k m)(aP:P.underlying t=some .string)(ap:0<=m)(h1:m<s.size) :
  (execOp ρ o).run P w=.ok (.value (.int .u8 (fu s m))) w:=by
 unfold execOp;rw [au];have b8:m.toNat<s.size:=I;have e:s[m.toNat]?=some s[m.toNat]:=ByteArray.getElem?_lt' s _ b8;have VE:m.toNat<s.data.size:=b8;have aZ:(s.data.toList.getD m.toNat 0)=s[m.toNat]:=by
  rw [l8,bS (by simpa using VE)];rfl
 unfold fu;rw [aZ];simp [hx,hy,Instr.index,asIntOf,run_underlying aP,ap,e]
theorem aXj {t:TypeId}{x y z:Operand}{s:ByteArray}{k j6:IntKind}{m l:Int}(au:o.op=.slice t x (some y) (some z) none)(hx:ρ x=.string s)(hy:ρ y=.int k m)(hz:ρ z=.int j6 l)(aP:P.underlying t=some .string)(ap:0<=m)(h1:m<=l)(h2:l<=s.size) :
  (execOp ρ o).run P w=.ok (.value (.string (s.extract m.toNat l.toNat))) w:=by
 unfold execOp;rw [au];have Y:0<=l:=I;simp [hx,hy,hz,Instr.sliceAt,Instr.slice,Instr.sliceBounds,Instr.sliceBound,asIntOf,run_underlying aP,ap,h2,Y];intro ar;omega
def ot (P:Program)(e size bytes:Nat):Prop:=∃ i z,P.info? e=some i/\i.zero=some z/\i.size=size/\i.bytes=bytes/\z.cells.size=size/\0<size/\0<bytes
theorem uT {e size bytes:Nat}{z:Value}(h:(P.info? e).map (λi=>(i.zero,i.size,i.bytes))=some (some z,size,bytes))(hz:z.cells.size=size)(ap:qb 0 size=true)(h1:qb 0 bytes=true):ot P e size bytes:=by
 obtain ⟨i,hi,ua⟩:=nJ.1 h;simp only [Prod.mk.injEq] at ua;rw [HA] at ap h1;exact ⟨i,z,hi,ua.1,ua.2.1,ua.2.2,hz,by simpa using ap,by simpa using h1⟩
theorem cC0 {t ty e size bytes:Nat}{v:Value}{k m c lu:Nat}{ad:Addr}{xs jT:List Value}(nb:ot P e size bytes)(ht:P.underlying t=some (.slice e))(xc:w.ownsRow lu e size v k xs)
  (hl:jT.length=m*size) (NQ:∀ j u,jT[j]?=some u->w.cell? (ad.add j)=some u) (h1:∀ u∈jT,u.oneCell'=true) (hb:(k+m)*bytes<=140737488355328) (UK:lu<=w.heap.size) :
  ∃ hh w',(Builtin.append_ #[t,t] ty #[v,.slice (some ad) m c]).run P w=.ok hh w'/\w'.ownsRow lu e size hh (k+m) (xs++jT)/\w.grownBy w' v.ownBlock /\
   (∀ q,hh.ownBlock=some q->v.ownBlock=some q\/w.heap.size<=q):=by
 obtain ⟨i,z,hi,hz,ec,wU,aRp,hp,aPu⟩:=nb;have j2:k+m<=(k+m)*bytes:=Nat.le_mul_of_pos_right _ aPu;obtain ⟨hh,w',hE,cz,fx,y7⟩:=run_append_own (P:=P) w lu t ty e i z size bytes ht hi hz ec wU aRp hp v k xs xc ad m c jT hl NQ h1 FH hb UK;refine ⟨hh,w',hE,cz,fx,?_⟩;intro q aw;subst ec;subst wU;rcases xc.2 with ⟨rfl,rfl⟩ | ⟨g,cap,cg,rfl,tE,aH,vo,Bv,ia,Ju⟩
 . by_cases hm:m=0
   . rw [y7.2 ⟨B,hm⟩] at aw
     simp [Value.ownBlock] at aw
   . have hr:=run_append_nil (P:=P) w t ty e i z ht hi hz ad m c jT hl NQ I I (by simp only [gV] at hb;omega)
     exact KU
 . by_cases xl:k+m<=cap
   . have bPp:k*i.size+jT.length<=cg.size:=by rw [hl,ia,<- Nat.add_mul];exact Nat.mul_le_mul_right _ xl
     have hr:=run_append_room (P:=P) w t ty e i ht hi g k cap cg aH ad m c jT hl NQ h1 xl bPp;rw [hr] at hE;cases hE;exact .inl aw
   . have holds:∀ j u,xs[j]?=some u->w.cell? ((⟨g,0,none⟩:Addr).add j)=some u:=xc.cells (g:=g) B
     have hr:=run_append_grow (P:=P) w t ty e i z ht hi hz ⟨g,0,none⟩ k cap xs xc.1 holds ad m c jT hl NQ I I (growslice_fits I hb);exact KU
theorem aVr {s x:Operand}{t e size bytes:Nat}{v:Value}{k m c d:Nat}{ad:Addr}{xs jT:List Value}(G:Cxr w0 w L (⟨e,size,v,k,xs⟩::R))(nb:ot P e size bytes)(ht:P.underlying t=some (.slice e))
  (aH:o.guard=none) (hd:o.dst=some d) (au:o.op=.call { callee:=.builtin .append,args:=#[s,x],argTypes:=#[t,t]}) (hs:aW n f s=v) (hx:aW n f x=.slice (some ad) m c)
  (hr:∀ j u,jT[j]?=some u->w.cell? (ad.add j)=some u) (hl:jT.length=m*size) (h1:jT.all (·.oneCell')=true) (hb:(k+m)*bytes<=140737488355328)
  (h:∀ hh w',Cxr w0 w' L (⟨e,size,hh,k+m,xs++jT⟩::R)->w.grownBy w' v.ownBlock->wpList P ops Q bh (aC n (eh f d hh)) w'):wpList P ops Q (o::bh) (aC n f) w:=by
 have nY:=G.rows _ (b9 ..);have sw:=G.off _ (b9 ..);have vq:=(List.pairwise_cons.1 G.pw).1;simp only at nY sw;obtain ⟨hh,w',hE,cz,fx,sv⟩:=cC0 (P:=P) (ty:=o.type) (c:=c) (ad:=ad) nb ht nY hl hr (by simpa using h1) hb G.ext.size;exact Z3
theorem nu {s x:Operand}{t e size bytes:Nat}{v:Value}{k m c b off d:Nat}{xs jT:List Value}(G:Cxr w0 w L (⟨e,size,v,k,xs⟩::R))(nb:ot P e size bytes)(ht:P.underlying t=some (.slice e))
  (aH:o.guard=none) (hd:o.dst=some d) (au:o.op=.call { callee:=.builtin .append,args:=#[s,x],argTypes:=#[t,t]}) (hs:aW n f s=v) (hx:aW n f x=.slice (some ⟨b,off,none⟩) m c)
  (hr:RowAt w b off jT) (hl:jT.length=m*size) (h1:jT.all (·.oneCell')=true) (hb:(k+m)*bytes<=140737488355328)
  (h:∀ hh w',Cxr w0 w' L (⟨e,size,hh,k+m,xs++jT⟩::R)->w.grownBy w' v.ownBlock->wpList P ops Q bh (aC n (eh f d hh)) w'):wpList P ops Q (o::bh) (aC n f) w :=
 aVr G nb ht aH hd au hs hx (λj u ax=>by rw [q7];exact hr j u ax) hl h1 hb h
theorem cC7 {s x:Operand}{t e size bytes:Nat}{v:Value}{k d:Nat}{xs:List Value}(G:Cxr w0 w L (⟨e,size,v,k,xs⟩::R))(nb:ot P e size bytes)(ht:P.underlying t=some (.slice e))
  (aH:o.guard=none) (hd:o.dst=some d) (au:o.op=.call { callee:=.builtin .append,args:=#[s,x],argTypes:=#[t,t]}) (hs:aW n f s=v) (hx:aW n f x=.slice none 0 0)
  (h:wpList P ops Q bh (aC n (eh f d v)) w):wpList P ops Q (o::bh) (aC n f) w:=by
 obtain ⟨i,z,hi,hz,ec,wU,aRp,hp,aPu⟩:=nb;have hE:=run_append_owned_none (P:=P) w w0.heap.size t o.type e i size ht hi v k xs (G.rows _ (b9 ..));refine S (v:=v) aH hd ?_ h;unfold execOp;rw [au];exact Qv
theorem bMg (c:List Value):∀ (i:Nat) (z:Array Value),z.size=i+c.length->((c.zipIdx i).foldl (λcs (p:Value×Nat)=>cs.setIfInBounds p.2 p.1) z)=(z.toList.take i++c).toArray:=by
 induction c with
 | nil =>
  intro i z h;simp at h;apply Array.ext';simp only [<- h,cH];rw [lQ (by simp)];simp
 | cons x c ih =>
  intro i z h;simp only [List.zipIdx_cons,yl];rw [ih (i+1) _ (by simp at h ⊢;omega)]
  congr 1
  simp at h;have hi:i<z.toList.length:=by simp;omega
  rw [Array.toList_setIfInBounds,List.set_eq_take_append_cons_drop,U hi];have h1:(List.take i z.toList).length=i:=by simp;omega
  rw [List.take_append,h1,List.take_take,Nat.min_eq_right I];simp
theorem vL {t e size d:Nat}{x:Operand}{v:Value}{cs s6:List Value}(G:Cxr w0 w L R)(ht:P.underlying t=some (.slice e))(hs:(P.info? e).map (·.size)=some size)(hz:Zero P e s6)(bT8:Nat.ble size 1000=true)(hp:qb 0 size=true)
  (aH:o.guard=none) (hd:o.dst=some d) (au:o.op=.buildSlice t 1 #[(0,x)]) (hx:aW n f x=v) (hv:v.cells=cs.toArray) (hl:cs.length=size)
  (h:∀ b w',Cxr w0 w' ((b,.cells cs.toArray e)::L) R->w.heap.size=b->Below w.heap.size w w'->wpList P ops Q bh (aC n (eh f d (.slice (some ⟨b,0,none⟩) 1 1))) w'):wpList P ops Q (o::bh) (aC n f) w:=by
 obtain ⟨z,oZ,sG⟩:=hz;have kJ:0<size:=by simpa [HA] using hp
 have cPs:size<=1000:=Nat.le_of_ble_eq_true bT8;refine od (w':=w.alloc (.cells cs.toArray e)) (v:=.slice (some ⟨w.heap.size,0,none⟩) 1 1) aH hd ?_ (h _ _ (G.alloc _) B ((Below.refl _ _).alloc (bV _) _));have NH:Instr.fill (λi=>some (i*size,size)) ((wg (1*size)).map (z.cells[·%z.cells.size]!)) [(0,v)]=some cs.toArray:=by
  have ec:((wg (1*size)).map (z.cells[·%z.cells.size]!)).size=size:=by simp
  generalize (wg (1*size)).map (z.cells[·%z.cells.size]!)=uA at ec
  have:=bMg cs 0 uA I;have WO:v.cells.size=size:=by rw [hv];simpa using hl
  simp only [Instr.fill,Nat.zero_mul,gV,WO,ec];simp only [hv];simp at this ⊢;exact this
 unfold execOp;rw [au];have ap:¬ (size=0):=I;have h1:¬ (16777216<size):=I;simp only [Nat.one_mul] at NH;simp [Instr.buildSlice,hx,run_underlying ht,sQ (w:=w) hs,ap,h1,oZ w,NH,newRow]
theorem cDa {t e size d:Nat}(G:Cxr w0 w L R)(ht:P.underlying t=some (.slice e))(hs:(P.info? e).map (·.size)=some size)(aH:o.guard=none)(hd:o.dst=some d)(au:o.op=.buildSlice t 0 #[])
  (h:∀ b w',Cxr w0 w' ((b,.cells #[] e)::L) R->w.heap.size=b->Below w.heap.size w w'->wpList P ops Q bh (aC n (eh f d (.slice (some ⟨b,0,none⟩) 0 0))) w'):wpList P ops Q (o::bh) (aC n f) w:=by
 refine od (w':=w.alloc (.cells #[] e)) (v:=.slice (some ⟨w.heap.size,0,none⟩) 0 0) aH hd ?_ (h _ _ (G.alloc _) B ((Below.refl _ _).alloc (bV _) _));unfold execOp;rw [au];have e0:Array.map (λ_:Nat=>(default:Value)) (wg 0)=#[]:=by simp [wg]
 simp [Instr.buildSlice,run_underlying ht,sQ (w:=w) hs,Instr.fill,newRow,e0]
theorem aVs {t e d:Nat}{x y:Operand}{v u:Value}{z:Value}(G:Cxr w0 w L R)(ht:P.underlying t=some (.slice e))(hs:(P.info? e).map (·.size)=some 1)(hz:Zero P e [z])
  (aH:o.guard=none) (hd:o.dst=some d) (au:o.op=.buildSlice t 2 #[(0,x),(1,y)]) (hx:aW n f x=v) (hy:aW n f y=u) (hv:v.cells=#[v]) (aP:u.cells=#[u])
  (h:∀ b w',Cxr w0 w' ((b,.cells #[v,u] e)::L) R->w.heap.size=b->Below w.heap.size w w'->wpList P ops Q bh (aC n (eh f d (.slice (some ⟨b,0,none⟩) 2 2))) w'):wpList P ops Q (o::bh) (aC n f) w:=by
 obtain ⟨CU,oZ,sG⟩:=hz;refine od (w':=w.alloc (.cells #[v,u] e)) (v:=.slice (some ⟨w.heap.size,0,none⟩) 2 2) aH hd ?_ (h _ _ (G.alloc _) B ((Below.refl _ _).alloc (bV _) _));unfold execOp;rw [au];simp [Instr.buildSlice,hx,hy,run_underlying ht,sQ (w:=w) hs,oZ w,sG,Instr.fill,hv,aP,newRow,wg,Array.zipIdx]
 rfl
theorem aVu {t e d:Nat}{x y rZ:Operand}{v u nx:Value}{z:Value}(G:Cxr w0 w L R)(ht:P.underlying t=some (.slice e))(hs:(P.info? e).map (·.size)=some 1)(hz:Zero P e [z])
  (aH:o.guard=none) (hd:o.dst=some d) (au:o.op=.buildSlice t 3 #[(0,x),(1,y),(2,rZ)]) (hx:aW n f x=v) (hy:aW n f y=u) (Xj:aW n f rZ=nx) (hv:v.cells=#[v]) (aP:u.cells=#[u]) (WJ:nx.cells=#[nx])
  (h:∀ b w',Cxr w0 w' ((b,.cells #[v,u,nx] e)::L) R->w.heap.size=b->Below w.heap.size w w'->wpList P ops Q bh (aC n (eh f d (.slice (some ⟨b,0,none⟩) 3 3))) w'):wpList P ops Q (o::bh) (aC n f) w:=by
 obtain ⟨CU,oZ,sG⟩:=hz;refine od (w':=w.alloc (.cells #[v,u,nx] e)) (v:=.slice (some ⟨w.heap.size,0,none⟩) 3 3) aH hd ?_ (h _ _ (G.alloc _) B ((Below.refl _ _).alloc (bV _) _));unfold execOp;rw [au];simp [Instr.buildSlice,hx,hy,Xj,run_underlying ht,sQ (w:=w) hs,oZ w,sG,Instr.fill,hv,aP,WJ,newRow,wg,Array.zipIdx]
 rfl
theorem cDb {t e d:Nat}{x y rZ aXz:Operand}{v u nx Ky:Value}{z:Value}(G:Cxr w0 w L R)(ht:P.underlying t=some (.slice e))(hs:(P.info? e).map (·.size)=some 1)(hz:Zero P e [z])
  (aH:o.guard=none) (hd:o.dst=some d) (au:o.op=.buildSlice t 4 #[(0,x),(1,y),(2,rZ),(3,aXz)]) (hx:aW n f x=v) (hy:aW n f y=u) (Xj:aW n f rZ=nx) (bV4:aW n f aXz=Ky) (hv:v.cells=#[v]) (aP:u.cells=#[u]) (WJ:nx.cells=#[nx]) (bUh:Ky.cells=#[Ky])
  (h:∀ b w',Cxr w0 w' ((b,.cells #[v,u,nx,Ky] e)::L) R->w.heap.size=b->Below w.heap.size w w'->wpList P ops Q bh (aC n (eh f d (.slice (some ⟨b,0,none⟩) 4 4))) w'):wpList P ops Q (o::bh) (aC n f) w:=by
 obtain ⟨CU,oZ,sG⟩:=hz;refine od (w':=w.alloc (.cells #[v,u,nx,Ky] e)) (v:=.slice (some ⟨w.heap.size,0,none⟩) 4 4) aH hd ?_ (h _ _ (G.alloc _) B ((Below.refl _ _).alloc (bV _) _));unfold execOp;rw [au];simp [Instr.buildSlice,hx,hy,Xj,bV4,run_underlying ht,sQ (w:=w) hs,oZ w,sG,Instr.fill,hv,aP,WJ,bUh,newRow,wg,Array.zipIdx]
 rfl
def strOf (ns:List Int):ByteArray:=ns.foldl (λr n=>r.push (bM n.toNat)) ByteArray.empty
theorem sY {s t e:TypeId}{x:Operand}{b off c:Nat}{ns:List Int}(au:o.op=.convert s t x)(hs:P.underlying s=some (.slice e))(he:P.underlying e=some (.int .u8))(ht:P.underlying t=some .string)
  (hr:RowAt w b off (ns.map (Value.int .u8))) {m:Nat} (hm:ns.length=m) (hx:ρ x=.slice (some ⟨b,off,none⟩) m c):(execOp ρ o).run P w=.ok (.value (.string (strOf ns))) w:=by
 unfold execOp;rw [au];subst hm;have hl:=run_loadCells_list (P:=P) w ⟨b,off,none⟩ (ns.map (Value.int .u8)) (λj v hv=>by rw [q7];exact hr j v hv);simp only [fT] at hl;have:=run_bytesToString (P:=P) w ⟨b,off,none⟩ ns.length c ns hl;simp [hx,run_convert_bytes_string w s t e _ _ _ hs he ht,this,strOf]
end
theorem cw {P:Program}{x y:Code}{Q:Exit->Act->World->Prop}{n:Nat}{f:Nat->Value}{w:World}(Ae:(Nat->Value)->World->Prop)
  (h1:x.wp P (Exit.then (λa w=>∃ f,a=aC n f/\Ae f w) Q) (aC n f) w) (h2:∀ f w,Ae f w->y.wp P Q (aC n f) w):(Code.seq x y).wp P Q (aC n f) w:=by
 refine wp_seq (wp_mono h1 ?_);intro e a w aw
 cases e with
 | normal =>
  obtain ⟨uY,rfl,ai⟩:=aw;exact h2 uY w ai
 | _=>exact aw
theorem cn {P:Program}{x y:Code}{Q:Exit->Act->World->Prop}{n:Nat}{f:Nat->Value}{w:World}{t:Nat}{b:Bool}(hc:aW n f (.tmp t)=.bool b)(ht:b=true->x.wp P Q (aC n f) w)(hf:b=false->y.wp P Q (aC n f) w) :
  (Code.cond (.tmp t) x y).wp P Q (aC n f) w:=wp_cond_split (by rw [eS];exact hc) ht hf
theorem cJy {P:Program}{x y:Code}{Q:Exit->Act->World->Prop}{n:Nat}{f:Nat->Value}{w:World}{t:Nat}{b:Bool}{zB ch:Prop}(hc:aW n f (.tmp t)=.bool b)(ht:zB->x.wp P Q (aC n f) w)(hf:ch->y.wp P Q (aC n f) w)(bm:(b=true)=zB:=by (try simp only [dy]);exact rfl)(aZ:(b=false)=ch:=by (try simp only [dy]);exact rfl):(Code.cond (.tmp t) x y).wp P Q (aC n f) w:=cn hc (λh=>ht (bm▸h)) (λh=>hf (aZ▸h))
theorem Z {P:Program}{x y:Code}{Q:Exit->Act->World->Prop}{n:Nat}{f:Nat->Value}{w:World}{t:Nat}{b:Bool}{zB ch:Prop}(ht:zB->x.wp P Q (aC n f) w)(hf:ch->y.wp P Q (aC n f) w)(hc:aW n f (.tmp t)=.bool b:=by exact rfl)(bm:(b=true)=zB:=by (try simp only [dy]);exact rfl)(aZ:(b=false)=ch:=by (try simp only [dy]);exact rfl):(Code.cond (.tmp t) x y).wp P Q (aC n f) w:=cn hc (λh=>ht (bm▸h)) (λh=>hf (aZ▸h))
theorem aX {a b:Value}{l iE:List Value}(h:a=b)(t:l=iE):a::l=b::iE:=by rw [h,t]
end Go.Dk
end
section
namespace Go.Dk
open Go Go.RowKit Go.Lib
def bs (l:List UInt8):ByteArray:=⟨l.toArray⟩
theorem bA5 (a b:List UInt8):bs a++bs b=bs (a++b):=by
 apply ByteArray.ext;rw [ByteArray.data_append];apply Array.ext';simp [bs]
theorem gI (l:List UInt8):(bs l).size=l.length:=by simp [bs,ByteArray.size]
theorem aIi (s:ByteArray):bs s.data.toList=s:=by cases s;rfl
def bv (x:UInt8):Value:=.int .u8 x.toNat
theorem Ty (l:List UInt8):strCells (bs l)=l.map bv:=rfl
theorem sW {n:Nat}(h:n<256):(bM n).toNat=n:=by rw [UInt8.toNat_ofNat'];omega
def CY (P:Program)(e:Nat):Prop:=∃ i,P.info? e=some i/\i.zero=some (.int .u8 0)/\i.size=1/\i.bytes=1
theorem bI1 {P:Program}{e:Nat}(h:(P.info? e).map (λi=>(i.zero,i.size,i.bytes))=some (some (.int .u8 0),1,1)):CY P e:=by
 obtain ⟨i,hi,ua⟩:=nJ.1 h;simp only [Prod.mk.injEq] at ua;exact ⟨i,hi,ua.1,ua.2.1,ua.2.2⟩
section
variable {P:Program} {ops:Array Oper} {Q:Exit->Act->World->Prop} {bh:List Oper} {o:Oper} {n:Nat} {f:Nat->Value} {w w0:World} {L:List (Nat×Obj)} {R:List Row} {ρ:Operand->Value}
theorem cC1 {t u ty e:Nat}{v:Value}{k lu:Nat}{xs:List Value}{s:ByteArray}(nb:CY P e)(ht:P.underlying t=some (.slice e))(aP:P.underlying u=some .string)(xc:w.ownsRow lu e 1 v k xs)(hb:k+s.size<=140737488355328)(UK:lu<=w.heap.size) :
  ∃ hh w',(Builtin.append_ #[t,u] ty #[v,.string s]).run P w=.ok hh w'/\w'.ownsRow lu e 1 hh (k+s.size) (xs++strCells s)/\w.grownBy w' v.ownBlock/\(∀ q,hh.ownBlock=some q->v.ownBlock=some q\/w.heap.size<=q):=by
 obtain ⟨i,hi,hz,ec,wU⟩:=nb;obtain ⟨hh,w',hE,cz,fx,y7⟩:=run_append_own_string (P:=P) w lu t u ty e i ht aP hi hz ec wU v k xs xc s FH hb UK;refine ⟨hh,w',hE,cz,fx,?_⟩;intro q aw;rcases xc.2 with ⟨rfl,rfl⟩ | ⟨g,cap,cg,rfl,tE,aH,vo,Bv,ia,Ju⟩
 . by_cases hm:s.size=0
   . rw [y7.2 ⟨B,hm⟩] at aw
     simp [Value.ownBlock] at aw
   . have hr:=run_append_nil_string (P:=P) w t u ty e i (.int .u8 0) ht aP hi hz s I I (by rw [wU];omega)
     exact KU
 . by_cases xl:k+s.size<=cap
   . have hr:=run_append_room_string (P:=P) w t u ty e i ht aP hi ec g k cap cg aH s xl I
     rw [hr] at hE;cases hE;exact .inl aw
   . have holds:∀ j u,xs[j]?=some u->w.cell? ((⟨g,0,none⟩:Addr).add j)=some u:=xc.cells (g:=g) B
     have hr:=run_append_grow_string (P:=P) w t u ty e i (.int .u8 0) ht aP hi hz ⟨g,0,none⟩ k cap xs (by rw [ec];exact xc.1) holds s I I (by rw [wU];exact growslice_fits I I);exact KU
theorem cC8 {x y:Operand}{t u e:Nat}{v:Value}{k d:Nat}{xs:List Value}{s:ByteArray}(G:Cxr w0 w L (⟨e,1,v,k,xs⟩::R))(nb:CY P e)(ht:P.underlying t=some (.slice e))(aP:P.underlying u=some .string)
  (aH:o.guard=none) (hd:o.dst=some d) (au:o.op=.call { callee:=.builtin .append,args:=#[x,y],argTypes:=#[t,u]}) (hs:aW n f x=v) (hx:aW n f y=.string s) (hb:k+s.size<=140737488355328)
  (h:∀ hh w',Cxr w0 w' L (⟨e,1,hh,k+s.size,xs++strCells s⟩::R)->w.grownBy w' v.ownBlock->wpList P ops Q bh (aC n (eh f d hh)) w'):wpList P ops Q (o::bh) (aC n f) w:=by
 have nY:=G.rows _ (b9 ..);have sw:=G.off _ (b9 ..);have vq:=(List.pairwise_cons.1 G.pw).1;simp only at nY sw;obtain ⟨hh,w',hE,cz,fx,sv⟩:=cC1 (P:=P) (ty:=o.type) (s:=s) nb ht aP nY hb G.ext.size;exact Z3
theorem cG6 {t ee:TypeId}{x y:Operand}{s u:ByteArray}(au:o.op=.binOp .add t x y ee)(hx:ρ x=.string s)(hy:ρ y=.string u)(h:s.size+u.size<=9223372036854775807):(execOp ρ o).run P w=.ok (.value (.string (s++u))) w:=by
 unfold execOp;rw [au];have:¬ (9223372036854775807:Int)<(s.size:Int)+(u.size:Int):=I;simp [hx,hy,eqGuard,binOp,Op.stringOp,this]
theorem iJ {t ee:TypeId}{x y:Operand}{a b:List UInt8}(au:o.op=.binOp .add t x y ee)(hx:ρ x=.string (bs a))(hy:ρ y=.string (bs b))(h:a.length+b.length<=9223372036854775807):(execOp ρ o).run P w=.ok (.value (.string (bs (a++b)))) w:=by
 rw [<- bA5];exact cG6 au hx hy (by rw [gI,gI];exact h)
theorem Kq {x y:Operand}{t u e:Nat}{v:Value}{k d:Nat}{xs:List Value}{l:List UInt8}(G:Cxr w0 w L (⟨e,1,v,k,xs⟩::R))(nb:CY P e)(ht:P.underlying t=some (.slice e))(aP:P.underlying u=some .string)
  (aH:o.guard=none) (hd:o.dst=some d) (au:o.op=.call { callee:=.builtin .append,args:=#[x,y],argTypes:=#[t,u]}) (hs:aW n f x=v) (hx:aW n f y=.string (bs l)) (hb:k+l.length<=140737488355328)
  (h:∀ hh w',Cxr w0 w' L (⟨e,1,hh,k+l.length,xs++l.map bv⟩::R)->w.grownBy w' v.ownBlock->wpList P ops Q bh (aC n (eh f d hh)) w'):wpList P ops Q (o::bh) (aC n f) w :=
 cC8 G nb ht aP aH hd au hs hx (by rw [gI];exact hb) λhh w' pv fx=>h hh w' (by rw [gI] at pv;exact pv) fx
theorem Cxr.row_eq {e sz n n':Nat}{v:Value}{xs xs':List Value}(h:Cxr w0 w L (⟨e,sz,v,n,xs⟩::R))(hn:n=n')(hx:xs=xs'):Cxr w0 w L (⟨e,sz,v,n',xs'⟩::R):=by subst hn hx;exact h
theorem CL {t ee:TypeId}{x y:Operand}{p q:Nat}(au:o.op=.binOp .quo t x y ee)(hx:ρ x=.int .i64 p)(hy:ρ y=.int .i64 q)(hp:p<=9223372036854775807)(aw:q≠0):(execOp ρ o).run P w=.ok (.value (.int .i64 ((p / q:Nat):Int))) w:=by
 unfold execOp;rw [au];have h1:((p:Int).tdiv q)=((p / q:Nat):Int):=by rw [<- Int.ofNat_tdiv]
 have h2:p / q<=p:=Nat.div_le_self _ _;have Y:IntKind.i64.wrap ((p:Int) / (q:Int))=(p:Int) / (q:Int):=by
  rw [<- Int.natCast_ediv]
  generalize p / q=z at h2
  exact KY
 simp [hx,hy,eqGuard,binOp,Op.intDiv,aw,h1,Y]
theorem v8 {t ee:TypeId}{x y:Operand}{p q:Nat}(au:o.op=.binOp .rem t x y ee)(hx:ρ x=.int .i64 p)(hy:ρ y=.int .i64 q)(aw:q≠0):(execOp ρ o).run P w=.ok (.value (.int .i64 ((p%q:Nat):Int))) w:=by
 unfold execOp;rw [au];have h1:((p:Int).tmod q)=((p%q:Nat):Int):=by rw [<- Int.ofNat_tmod]
 simp [hx,hy,eqGuard,binOp,Op.intDiv,aw,h1]
theorem aXe {x JJ:Operand}{t e:TypeId}{s b k len:Nat}{m:Int}{kd:IntKind}(aP:P.underlying t=some (.array len e))(hs:(P.info? e).map (·.size)=some s)(au:o.op=.indexAddr t x JJ)
  (hx:ρ x=.pointer (some ⟨b,k,none⟩)) (hi:ρ JJ=.int kd m) (ap:0<=m) (h1:m<len) :
  (execOp ρ o).run P w=.ok (.value (.pointer (some ⟨b,k+m.toNat*s,none⟩))) w:=by
 unfold execOp;rw [au];simp [hx,hi,Instr.indexAt,Instr.sureAddr,run_underlying aP,asIntOf,ap,h1,sQ (w:=w) hs,q7]
end
theorem toList_inj (a b:ByteArray):a.toList=b.toList↔a=b:=by
 have:=S6 a b;by_cases h:a=b
 ·simp [h]
 . simp only [h,decide_false,beq_eq_false_iff_ne] at this
   exact ⟨λe=>absurd e this,λe=>absurd e h⟩
section
variable {P:Program} {o:Oper} {w:World} {ρ:Operand->Value}
theorem Qb {op:BinOp}{t ee:TypeId}{x y:Operand}{xs Zm:Array Value}{r:Bool}(aH:P.eqGuardType P.depth t=false)(h:∀ w,(binOp op t (.agg xs) (.agg Zm)).run P w=.ok (.bool r) w)(au:o.op=.binOp op t x y ee)
  (hx:ρ x=.agg xs) (hy:ρ y=.agg Zm):(execOp ρ o).run P w=.ok (.value (.bool r)) w:=by
 unfold execOp;rw [au];simp [hx,hy,run_eqGuard_agg w op t x y xs Zm aH,h w]
theorem cd {t:TypeId}{ps:Array (Nat×Operand)}{qs:List (Nat×Value)}{v:Value}(h:∀ w,(Instr.build t qs.toArray).run P w=.ok v w)(au:o.op=.build t ps)(aw:ps.toList.map (λp=>(p.1,ρ p.2))=qs):(execOp ρ o).run P w=.ok (.value v) w:=by
 unfold execOp;rw [au];have e:ps.map (λp=>(p.1,ρ p.2))=qs.toArray:=by rw [<- aw];apply Array.ext';simp
 simp [e,h w]
end
theorem RowAt.sub {w:World}{b o:Nat}{l:List Value}(k:Nat){iE:List Value}(h:RowAt w b o l)(aU:(l.drop k).take iE.length=iE):RowAt w b (o+k) iE:=by
 intro j y ax;rw [mU];refine h _ _ ?_;rw [<- aU] at ax;rw [te] at ax;split at ax
 ·rwa [tc] at ax
 ·cases ax
theorem vU {r:Int}{z m:Nat}{x y:Value}(h:z=m)(hx:x=.int .i64 r)(hy:y=.int .i64 m):Value.tuple #[x,y]=.tuple #[.int .i64 r,.int .i64 z]:=by subst h hx hy;rfl
theorem cFv {a b:ByteArray}{m k:Int}{x y:Value}(h:a=b)(h2:m=k)(hx:x=.string a)(hy:y=.int .i64 m):Value.tuple #[x,y]=.tuple #[.string b,.int .i64 k]:=by subst h h2 hx hy;rfl
theorem aWu {b c:Bool}{x y:Value}(h:b=c)(hy:y=.bool b):Value.tuple #[x,y]=.tuple #[x,.bool c]:=by subst h hy;rfl
theorem aWv {r m k:Int}{x y:Value}(h:m=k)(hx:x=.int .i64 r)(hy:y=.int .i64 m):Value.tuple #[x,y]=.tuple #[.int .i64 r,.int .i64 k]:=by subst h hx hy;rfl
theorem Ctx.sub0 {w0 w:World}{L:List (Nat×Obj)}{R:List Row}(h:Cxr w0 w L R):Ctx w0 w []:=⟨h.ext,by simp,by simp,by simp,by simp,by simp,by simp⟩
end Go.Dk
namespace Go
@[reducible] def J (n:Nat):Value:=.int .i64 ((n:Nat):Int)
@[reducible] def M (l:List UInt8):Value:=.string (Dk.bs l)
@[reducible] def ao (b k:Nat):Value:=.pointer (some ⟨b,k,none⟩)
@[reducible] def al:Value:=.slice none 0 0
@[reducible] def aa (t:Nat) (l:List Value):Obj:=.cells l.toArray t
end Go
end
section
namespace Go.Proofs.YthiafbkolhnadaaGreatDoor
open Go Go.Dk Go.RowKit Go.Lib
attribute [local irreducible] Go.wpList Go.Code.wp Go.bodyPost Go.wpStill
theorem bN:(W.info? 3).map (·.size)=some 1:=by kernel_rfl
theorem xM:(W.info? 4).map (·.size)=some 1:=by kernel_rfl
theorem mJ:(W.info? 5).map (·.size)=some 1:=by kernel_rfl
theorem gA:(W.info? 9).map (·.size)=some 1:=by kernel_rfl
theorem zK:(W.info? 28).map (·.size)=some 1:=by kernel_rfl
theorem lM:(W.info? 107).map (·.size)=some 3:=by kernel_rfl
theorem vQ:(W.info? 48).map (·.size)=some 2:=by kernel_rfl
theorem qO:(W.info? 52).map (·.size)=some 3:=by kernel_rfl
theorem CE:(W.info? 32).map (·.size)=some 1:=by kernel_rfl
theorem FY:(W.info? 33).map (·.size)=some 1:=by kernel_rfl
theorem oi:(W.info? 35).map (·.size)=some 5:=by kernel_rfl
theorem xL:(W.info? 36).map (·.size)=some 1:=by kernel_rfl
theorem bJ8:bY W 107 0 0:=b5 (tt:=4) Tryz.underlying107 rfl xM rfl
theorem T8:bY W 107 1 1:=b5 (tt:=9) Tryz.underlying107 rfl gA rfl
theorem bJ9:bY W 107 2 2:=b5 (tt:=3) Tryz.underlying107 rfl bN rfl
theorem bLn:bY W 48 0 0:=b5 (tt:=3) Tryz.underlying48 rfl bN rfl
theorem bLo:bY W 48 1 1:=b5 (tt:=3) Tryz.underlying48 rfl bN rfl
theorem Uf:bY W 52 0 0:=b5 (tt:=28) Tryz.underlying52 rfl zK rfl
theorem Ug:bY W 52 1 1:=b5 (tt:=48) Tryz.underlying52 rfl vQ rfl
theorem Uc:bY W 35 0 0:=b5 (tt:=3) q4 rfl bN rfl
theorem Ud:bY W 35 1 1:=b5 (tt:=3) q4 rfl bN rfl
theorem Ue:bY W 35 2 2:=b5 (tt:=3) q4 rfl bN rfl
theorem u1:bY W 35 3 3:=b5 (tt:=32) q4 rfl CE rfl
theorem Bb:bY W 35 4 4:=b5 (tt:=33) q4 rfl FY rfl
theorem z3:Zero W 3 [.int .i64 0]:=ji (v:=.int .i64 0) ac rfl
theorem bIx:ot W 3 1 8:=uT (z:=.int .i64 0) ac rfl rfl rfl
theorem z4:Zero W 4 [.bool false]:=ji (v:=.bool false) ac rfl
theorem z5:Zero W 5 [.int .u8 0]:=ji (v:=.int .u8 0) ac rfl
theorem bIz:ot W 5 1 1:=uT (z:=.int .u8 0) ac rfl rfl rfl
theorem z9:Zero W 9 [.string ByteArray.empty]:=ji (v:=.string ByteArray.empty) ac rfl
theorem bI2:ot W 9 1 16:=uT (z:=.string ByteArray.empty) ac rfl rfl rfl
theorem cIb:Zero W 28 [al]:=ji (v:=al) ac rfl
theorem bIw:ot W 28 1 24:=uT (z:=al) ac rfl rfl rfl
theorem aX8:Zero W 107 [.bool false,.string ByteArray.empty,.int .i64 0]:=ji (v:=.agg #[.bool false,.string ByteArray.empty,.int .i64 0]) ac rfl
theorem TZ:ot W 107 3 32:=uT (z:=.agg #[.bool false,.string ByteArray.empty,.int .i64 0]) ac rfl rfl rfl
theorem s5:Zero W 48 [.int .i64 0,.int .i64 0]:=ji (v:=.agg #[.int .i64 0,.int .i64 0]) ac rfl
theorem aX9:Zero W 52 [al,.int .i64 0,.int .i64 0]:=ji (v:=.agg #[al,.int .i64 0,.int .i64 0]) ac rfl
theorem bI0:ot W 52 3 40:=uT (z:=.agg #[al,.int .i64 0,.int .i64 0]) ac rfl rfl rfl
theorem cIc:Zero W 33 [al]:=ji (v:=al) ac rfl
theorem bIy:ot W 33 1 24:=uT (z:=al) ac rfl rfl rfl
theorem cIe:Zero W 35 [.int .i64 0,.int .i64 0,.int .i64 0,al,al]:=ji (v:=.agg #[.int .i64 0,.int .i64 0,.int .i64 0,al,al]) ac rfl
theorem cIf:Zero W 36 [.int .i64 0]:=ji (v:=.int .i64 0) ac rfl
theorem D8:CY W 5:=bI1 ac
theorem mixed:W.follows .mixedOrders=true:=by kernel_rfl
theorem bJk:W.eqGuardType W.depth 107=false:=by kernel_rfl
theorem bYg (kg b1:Bool)(a2 b2:ByteArray)(a3 b3:Int)(w:World) :
  (binOp .neq 107 (.agg #[.bool kg,.string a2,.int .i64 a3]) (.agg #[.bool b1,.string b2,.int .i64 b3])).run W w=.ok (.bool (!(kg==b1&&(decide (a2=b2)&&a3==b3)))) w:=by
 go_simp
 by_cases h1:kg=b1 <;> by_cases h2:a2=b2 <;> by_cases Y:a3=b3 <;> simp [h1,h2,Y,toList_inj]
theorem bJl:W.eqGuardType W.depth 48=false:=by kernel_rfl
end Go.Proofs.YthiafbkolhnadaaGreatDoor
end
section
namespace Go.Dk
open Go Go.RowKit
def jo (ks:List ByteArray)(k:ByteArray):Bool:=ks.any λx=>decide (x=k)
theorem Nn {ks:List ByteArray}{k:ByteArray}:jo ks k=true↔k∈ks:=by
 unfold jo;rw [DJ];simp
def ys (ks:List ByteArray)(k:ByteArray):List ByteArray:=if jo ks k then ks else ks++[k]
def lJ (ks:List ByteArray)(k:ByteArray):Nat:=ks.findIdx λx=>decide (x=k)
def ents:List ByteArray->(ByteArray->Value)->Nat->List MapEntry
 | [],_,_=>[]
 | k::ks,c,n=>⟨.string k,c k,n⟩::ents ks c (n+1)
def pa (c:ByteArray->Value)(k:ByteArray)(v:Value):ByteArray->Value:=λx=>if x=k then v else c x
theorem SX (a b:ByteArray):(a==b)=decide (a=b):=by
 rw [jE,decide_eq_true_eq];cases a;cases b;constructor
 . intro h
   exact aD ByteArray.mk (eq_of_beq (show ((_:Array UInt8)==_)=true from h))
 . intro h
   cases h;exact beq_self_eq_true (α:=Array UInt8) _
theorem aMc (k:ByteArray):∀ (ks:List ByteArray) (c:ByteArray->Value) (n j:Nat),Instr.findNow .string (.string k) (ents ks c n) j=some (if jo ks k then some (j+lJ ks k,c k) else none)
 | [],c,n,j=>rfl
 | x::ks,c,n,j=>by
  have ih:=aMc k ks c (n+1) (j+1);unfold ents Instr.findNow;simp only [Instr.sameNow];by_cases h:x=k
  . subst h
    rw [SX,decide_eq_true B];simp [jo,lJ,Hi]
  . have h2:(k==x)=false:=by rw [SX];exact decide_eq_false λe=>h e.symm
    rw [h2];simp only [ih];have bm:jo (x::ks) k=jo ks k:=by simp [jo,h]
    have aZ:lJ (x::ks) k=lJ ks k+1:=by simp [lJ,Hi,h]
    rw [bm,aZ,show j+1+lJ ks k=j+(lJ ks k+1) by omega]
theorem aLt {c c':ByteArray->Value}:∀ (ks:List ByteArray) (n:Nat),(∀ k∈ks,c k=c' k)->ents ks c n=ents ks c' n
 | [],_,_=>rfl
 | k::ks,n,h=>by
  unfold ents;rw [h k (by simp),aLt ks (n+1) λx hx=>h x (bP _ hx)]
theorem aLs (k:ByteArray):∀ (ks:List ByteArray) (c:ByteArray->Value) (n:Nat),jo ks k=true->(ents ks c n)[lJ ks k]?.map (·.key)=some (.string k)
 | [],c,n,h=>by simp [jo] at h
 | x::ks,c,n,h=>by
  by_cases hx:x=k
  . subst hx
    simp [lJ,ents,Hi]
  . have aZ:lJ (x::ks) k=lJ ks k+1:=by simp [lJ,Hi,hx]
    rw [aZ];have:=aLs k ks c (n+1) (by simpa [jo,hx] using h);simpa [ents] using this
theorem T6 (k:ByteArray)(v:Value):∀ (ks:List ByteArray) (c:ByteArray->Value) (n:Nat),ks.Nodup->jo ks k=true->(ents ks c n).modify (lJ ks k) (λe=>{ e with key:=.string k,val:=v })=ents ks (pa c k v) n
 | [],c,n,_,h=>by simp [jo] at h
 | x::ks,c,n,hn,h=>by
  obtain ⟨h1,h2⟩:=ym.1 hn;by_cases hx:x=k
  . subst hx
    have e0:lJ (x::ks) x=0:=by simp [lJ,Hi]
    rw [e0];show _::ents ks c (n+1)=_::ents ks (pa c x v) (n+1);rw [aLt (c:=c) (c':=pa c x v) ks (n+1) λy hy=>by
     unfold pa;rw [O];rintro rfl;exact h1 hy]
    simp [pa]
  . have aZ:lJ (x::ks) k=lJ ks k+1:=by simp [lJ,Hi,hx]
    rw [aZ];have:=T6 k v ks c (n+1) h2 (by simpa [jo,hx] using h);simp only [ents,List.modify_succ_cons,this];simp [pa,hx]
theorem aLu (k:ByteArray)(v:Value):∀ (ks:List ByteArray) (c:ByteArray->Value) (n:Nat),jo ks k=false->ents ks c n++[⟨.string k,v,n+ks.length⟩]=ents (ks++[k]) (pa c k v) n
 | [],c,n,_=>by simp [ents,pa]
 | x::ks,c,n,h=>by
  have hx:x≠k:=by rintro rfl;simp [jo] at h
  have:=aLu k v ks c (n+1) (by simpa [jo,hx] using h);rw [gT];unfold ents;rw [gT,<- this];simp [pa,hx];omega
section
variable {P:Program} {ops:Array Oper} {Q:Exit->Act->World->Prop} {bh:List Oper} {o:Oper} {n:Nat} {f:Nat->Value} {w w0:World} {L:List (Nat×Obj)} {R:List Row} {ρ:Operand->Value}
theorem cDh {d:Nat}{t:TypeId}(G:Cxr w0 w L R)(aH:o.guard=none)(hd:o.dst=some d)(au:o.op=.makeMap t none)
  (h:∀ b w',Cxr w0 w' ((b,.map (ents [] (λ_=>default) 0).toArray 0)::L) R->w.heap.size=b->Below w.heap.size w w'->wpList P ops Q bh (aC n (eh f d (.map (some b)))) w'):wpList P ops Q (o::bh) (aC n f) w:=by
 refine od (w':=w.alloc (.map (ents [] (λ_=>default) 0).toArray 0)) (v:=.map (some w.heap.size)) aH hd ?_ (h _ _ (G.alloc _) B ((Below.refl _ _).alloc (bV _) _));unfold execOp;rw [au];simp [Instr.makeMap,ents]
theorem aVn {kL:TypeId}{k:ByteArray}(e:Bool)(hk:P.underlying kL=some .string):(Instr.checkKey e 10000 kL (.string k)).run P w=.ok () w:=by
 rw [show (10000:Nat)=9999+1 from B,Instr.checkKey];simp [run_underlying hk]
theorem aVo {kL:TypeId}{k:ByteArray}{ks:List ByteArray}{c:ByteArray->Value}{m:Nat}(hk:P.underlying kL=some .string):(Instr.findKey kL (.string k) (ents ks c m)).run P w=.ok (if jo ks k then some (lJ ks k,c k) else none) w:=by
 have:=aMc k ks c m 0;rw [gV] at this;simp [Instr.findKey,run_underlying hk,this]
theorem cGx {t kL qg:TypeId}{x y:Operand}{b m:Nat}{k:ByteArray}{ks:List ByteArray}{c:ByteArray->Value}(au:o.op=.lookup t x y false)(hx:ρ x=.map (some b))(hy:ρ y=.string k)(ht:P.underlying t=some (.map kL qg))(hk:P.underlying kL=some .string)
  {z:Value} (hz:(zeroValue qg).run P w=.ok z w) (hb:w.heap[b]?=some (.map (ents ks c 0).toArray m)):(execOp ρ o).run P w=.ok (.value (if jo ks k then c k else z)) w:=by
 unfold execOp;rw [au];simp only [hx,hy];have h1:=MapKept.run_getObj_map (P:=P) hb;have h2:=λe=>aVn (P:=P) (w:=w) (k:=k) e hk
 have Y:=aVo (P:=P) (w:=w) (k:=k) (ks:=ks) (c:=c) (m:=0) hk;by_cases a1:jo ks k=true
 . rw [U a1] at Y ⊢
   simp [Instr.lookup,run_underlying ht,h1,h2,Y,Result.andThen]
 . rw [O a1] at Y ⊢
   simp [Instr.lookup,run_underlying ht,h1,h2,Y,hz,Result.andThen]
theorem cDi {t kL qg:TypeId}{x y z:Operand}{b:Nat}{k:ByteArray}{ks:List ByteArray}{c:ByteArray->Value}{v:Value}(G:Cxr w0 w L R)(i:Nat)(aH:o.guard=none)(hd:o.dst=none)(au:o.op=.mapUpdate t x y z)(hx:aW n f x=.map (some b))(hy:aW n f y=.string k)(hz:aW n f z=v)
  (ht:P.underlying t=some (.map kL qg)) (hk:P.underlying kL=some .string) (hn:ks.Nodup) (hi:L[i]?=some (b,.map (ents ks c 0).toArray ks.length))
  (h:∀ w',Cxr w0 w' (L.set i (b,.map (ents (ys ks k) (pa c k v) 0).toArray (ys ks k).length)) R->w.grownBy w' (some b)->wpList P ops Q bh (aC n f) w'):wpList P ops Q (o::bh) (aC n f) w:=by
 have hb:=G.at i hi;have b8:b<w.heap.size:=(Array.getElem?_eq_some_iff.1 hb).1;have h1:=MapKept.run_getObj_map (P:=P) hb;have h2:=aVn (P:=P) (w:=w) (k:=k) false hk;have Y:=aVo (P:=P) (w:=w) (k:=k) (ks:=ks) (c:=c) (m:=0) hk;have qw:∀ gu,(setObj b gu).run P w=.ok () { w with heap:=w.heap.setIfInBounds b gu }:=λgu=>MapKept.run_setObj_map gu hb
 have fx:∀ gu,w.grownBy { w with heap:=w.heap.setIfInBounds b gu } (some b):=λgu=>⟨rfl,rfl,rfl,by simp,λq _ bt=>by
  show (w.heap.setIfInBounds b gu)[q]?=_;rw [Array.getElem?_setIfInBounds_ne (λe=>bt (by rw [e]))]⟩
 have jM:∀ gu,Cxr w0 { w with heap:=w.heap.setIfInBounds b gu } (L.set i (b,gu)) R:=λgu=>G.turn i hi rfl rfl rfl (by simp) (by
  show (w.heap.setIfInBounds b gu)[b]?=_;simp [b8]) λq _ bt=>by
   show (w.heap.setIfInBounds b gu)[q]?=_;rw [Array.getElem?_setIfInBounds_ne (Ne.symm bt)]
 by_cases a1:jo ks k=true
 . rw [U a1] at Y
   have bm:ys ks k=ks:=by unfold ys;rw [U a1]
   have bQq:=aLs k ks c 0 a1;have ck:(Instr.keyThatStays (.string k) (.string k)).run P w=.ok (.string k) w:=by simp [Instr.keyThatStays,Instr.sameBits,SX]
   have aZ:(ents ks c 0).toArray.modify (lJ ks k) (λe=>{ e with key:=.string k,val:=v })=(ents ks (pa c k v) 0).toArray:=by
    rw [<- T6 k v ks c 0 hn a1];simp
   refine FR aH hd ?_ (h _ (by rw [bm];exact jM (.map (ents ks (pa c k v) 0).toArray ks.length)) (fx _));unfold execOp;rw [au];have bQr:((ents ks c 0)[lJ ks k]?.map (·.key)).getD (.string k)=.string k:=by rw [bQq];rfl
   simp [hx,hy,hz,Instr.mapUpdate,run_underlying ht,h1,h2,Y,bQr,ck,qw,Result.andThen];rw [T6 k v ks c 0 hn a1]
 . rw [O a1] at Y
   have bP7:jo ks k=false:=by simpa using a1
   have bm:ys ks k=ks++[k]:=by unfold ys;rw [O a1]
   have aZ:(ents ks c 0).toArray.push ⟨.string k,v,ks.length⟩=(ents (ks++[k]) (pa c k v) 0).toArray:=by
    rw [<- aLu k v ks c 0 bP7];simp
   refine FR aH hd ?_ (h _ (by rw [bm,aQ];exact jM (.map (ents (ks++[k]) (pa c k v) 0).toArray (ks.length+1))) (fx _));unfold execOp;rw [au];simp [hx,hy,hz,Instr.mapUpdate,run_underlying ht,h1,h2,Y,qw,Result.andThen];simp only [<- aZ];simp
end
end Go.Dk
end
section
namespace Go.Dk
open Go Go.RowKit
section
variable {P:Program} {ops:Array Oper} {Q:Act->Prop} {bh:List Oper} {o:Oper} {n:Nat} {f:Nat->Value} {w w0:World} {L:List (Nat×Obj)} {R:List Row}
theorem dP {v:Value}{d:Nat}(aH:o.guard=none)(hd:o.dst=some d)(hv:(execOp (aW n f) o).run P w=.ok (.value v) w)(h:wpStill P ops w Q bh (aC n (eh f d v))):wpStill P ops w Q (o::bh) (aC n f):=by
 unfold wpStill;rw [U (by simp [Region.wanted,aH])];unfold Oper.still;rw [eS,hv,Oper.stillUpon_value,hd,mC];exact h
theorem dk {v:Value}{j d fv:Nat}{gP c:Bool}(aH:o.guard=some (j,gP))(hd:o.dst=some d)(ax:(ops[j]?).bind (·.dst)=some fv)(hc:oE (aW n f (.tmp fv)) gP c)
  (hv:c=true->(execOp (aW n f) o).run P w=.ok (.value v) w) (h:wpStill P ops w Q bh (aC n (eh f d (gv c v)))):wpStill P ops w Q (o::bh) (aC n f):=by
 have hw:=CO (o:=o) (ops:=ops) aH ax hc;unfold wpStill;rw [hw]
 cases c with
 | true =>
  rw [U B];unfold Oper.still;rw [eS,hv B,Oper.stillUpon_value,hd,mC];unfold gv at h;exact h
 | false =>
  rw [O (by simp),hd,mC];unfold gv at h;exact h
theorem zM (h:Q (aC n f)):wpStill P ops w Q [] (aC n f):=h
theorem cHo {id:Nat}{Q:Exit->Act->World->Prop}{l:List Oper}(G:Cxr w0 w L R)(hm:P.follows .mixedOrders=true)(wS:Region.lexB .any l.toArray=true)
  (h:∀ w',Cxr w0 w' L R->Below w.heap.size w w'->wpStill P l.toArray w' (λeb=>Q .normal eb w') l (aC n f)):(Code.region id l.toArray true).wp P Q (aC n f) w :=
 wp_region_still_lit hm wS (h w.drew G.draw ⟨rfl,rfl,rfl,bV _,λ_ _=>rfl⟩)
end
def uD (w0 w:World)(L:List (Nat×Obj))(R:List Row)(w':World):Prop:=Cxr w0 w' L R/\Below w.heap.size w w'
section
variable {P:Program} {ops:Array Oper} {Q:Exit->Act->World->Prop} {eu:Act->Prop} {bh:List Oper} {o:Oper} {n:Nat} {f:Nat->Value} {w w0:World} {L:List (Nat×Obj)} {R:List Row}
theorem cHn {id:Nat}{l:List Oper}(G:Cxr w0 w L R)(hm:P.follows .mixedOrders=true)(wS:Region.lexB .any l.toArray=true)
  (h:wpQuiet P l.toArray (uD w0 w L R) (λeb=>∀ w',uD w0 w L R w'->Q .normal eb w') l (aC n f)):(Code.region id l.toArray true).wp P Q (aC n f) w :=
 wp_region_quiet (C:=uD w0 w L R) hm wS ⟨G.draw,⟨rfl,rfl,rfl,bV _,λ_ _=>rfl⟩⟩ ku
theorem fA {v:Value}{d:Nat}(aH:o.guard=none)(hd:o.dst=some d)(hv:∀ w',Cxr w0 w' L R->Below w.heap.size w w'->(execOp (aW n f) o).run P w'=.ok (.value v) w')
  (h:wpQuiet P ops (uD w0 w L R) eu bh (aC n (eh f d v))):wpQuiet P ops (uD w0 w L R) eu (o::bh) (aC n f):=by
 refine wpQuiet_step λK' ep=>?_
 have hw:Region.wanted o (yielded ops (aC n f).tmps)=true:=by simp [Region.wanted,aH]
 rw [hw];refine ⟨v,λw' hc=>?_,ep _ (by rw [hd,mC];exact h)⟩;unfold Oper.quietAt;rw [eS,hv w' hc.1 hc.2];exact ⟨B,B⟩
theorem gy {v:Value}{j d fv:Nat}{gP c:Bool}(aH:o.guard=some (j,gP))(hd:o.dst=some d)(ax:(ops[j]?).bind (·.dst)=some fv)(hc:oE (aW n f (.tmp fv)) gP c)
  (hv:c=true->∀ w',Cxr w0 w' L R->Below w.heap.size w w'->(execOp (aW n f) o).run P w'=.ok (.value v) w') (h:wpQuiet P ops (uD w0 w L R) eu bh (aC n (eh f d (gv c v)))):wpQuiet P ops (uD w0 w L R) eu (o::bh) (aC n f):=by
 have hw:=CO (o:=o) (ops:=ops) aH ax hc;refine wpQuiet_step λK' ep=>?_
 rw [hw]
 cases c with
 | true =>
  simp only [if_true];refine ⟨v,λw' hc=>?_,ep _ (by rw [hd,mC];unfold gv at h;exact h)⟩;unfold Oper.quietAt;rw [eS,hv B w' hc.1 hc.2];exact ⟨B,B⟩
 | false =>
  simp only [r0,if_false];refine ep _ ?_;rw [hd,mC];unfold gv at h;exact h
theorem Kl (h:eu (aC n f)):wpQuiet P ops (uD w0 w L R) eu [] (aC n f):=h
def aHo (P:Program)(ρ:Operand->Value)(o:Oper)(k:Nat)(args:List Value):Prop:=∀ w,(execOp ρ o).run P w=.ok (.enter k args.toArray) w
theorem aVq {k : Nat} {pR : Array Operand} {gd : Array TypeId} {fn : Func} {args : List Value} (hf : P.funcs[k]? = some fn) (hb : fn.body.isNone = false) (hn : (fn.name == "runtime.NumGoroutine") = false)
  (au:o.op=.call { callee:=.value (.func k),args:=pR,argTypes:=gd }) (hA:pR.toList.map (aW n f)=args):aHo P (aW n f) o k args:=λw=>Yy hf hb hn au hA
theorem aUt {d j fv k:Nat}{gP c:Bool}{args:List Value}{v:Value}(aH:o.guard=some (j,gP))(hd:o.dst=some d)(ax:(ops[j]?).bind (·.dst)=some fv)(hw:oE (aW n f (.tmp fv)) gP c)(hr:c=true->aHo P (aW n f) o k args)
  (hc:c=true->∀ w',Cxr w0 w' L R->Below w.heap.size w w'->Fc P k args w' (λu _=>u=v))
  (h:wpQuiet P ops (uD w0 w L R) eu bh (aC n (eh f d (gv c v)))):wpQuiet P ops (uD w0 w L R) eu (o::bh) (aC n f):=by
 have hw:=CO (o:=o) (ops:=ops) aH ax hw;refine wpQuiet_step λK' ep=>?_
 rw [hw]
 cases c with
 | true =>
  simp only [if_true];refine ⟨v,λw' jM=>?_,ep _ (by rw [hd,mC];unfold gv at h;exact h)⟩;unfold Oper.quietAt;rw [eS,hr B w'];refine ⟨B,Calls.mono (hc B w' jM.1 jM.2) ?_⟩;rintro e xT ⟨u,rfl,hb,rfl⟩;exact ⟨B,jM.1.call hb,jM.2.trans (hb.mono jM.2.size)⟩
 | false =>
  simp only [r0,if_false];refine ep _ ?_;rw [hd,mC];unfold gv at h;exact h
end
theorem aWd:∀ (l:List UInt8) (r:ByteArray),(l.map λx:UInt8=>(x.toNat:Int)).foldl (λr n=>r.push (bM n.toNat)) r=r++bs l
 | [],r=>by
  apply ByteArray.ext;simp [bs,ByteArray.data_append]
 | x::l,r=>by
  simp only [jk,yl];rw [aWd l];apply ByteArray.ext;simp [bs,ByteArray.data_append,ByteArray.push]
theorem CD (l:List UInt8):strOf (l.map λx:UInt8=>(x.toNat:Int))=bs l:=by
 unfold strOf;rw [aWd];apply ByteArray.ext;simp [bs]
theorem Cxr.bytes {w0 w:World}{L:List (Nat×Obj)}{R:List Row}{v:Value}{n:Nat}{xs:List Value}{l:List UInt8}(h:Cxr w0 w L (⟨5,1,v,n,xs⟩::R))(hn:n=l.length)(hx:xs=l.map bv)(ap:0<n):∃ g c,v=.slice (some ⟨g,0,none⟩) n c/\RowAt w g 0 (l.map bv):=by
 subst hx;have cz:=h.rows _ (b9 ..);simp only at cz;rcases cz.2 with ⟨_,h2⟩ | ⟨g,cap,cg,rfl,hb,aH,vo,Bv,ia,Ju⟩
 . exfalso
   have:=cz.1;rw [h2] at this;simp at this;omega
 . refine ⟨g,cap,B,λj x ax=>?_⟩
   have:=cz.cells (g:=g) B j x ax;rwa [q7] at this
theorem Kp {w0 w:World}{L:List (Nat×Obj)}{R:List Row}{v:Value}{n:Nat}{xs:List Value}{a:UInt8}{q q' sg:List UInt8}(G:Cxr w0 w L (⟨5,1,v,n,xs⟩::R))(aw:q'=q++sg)(hn:n=1+q.length+sg.length)(hx:xs=(a::q).map bv++sg.map bv) :
  Cxr w0 w L (⟨5,1,v,1+q'.length,(a::q').map bv⟩::R):=by
 subst aw;refine G.row_eq (by rw [hn,aQ];omega) (by rw [hx];simp)
theorem cCt {w0 w:World}{L:List (Nat×Obj)}{R:List Row}{v:Value}{n:Nat}{xs:List Value}{q q' sg:List UInt8}(G:Cxr w0 w L (⟨5,1,v,n,xs⟩::R))(aw:q'=q++sg)(hn:n=q.length+sg.length)(hx:xs=q.map bv++sg.map bv) :
  Cxr w0 w L (⟨5,1,v,q'.length,q'.map bv⟩::R):=by
 subst aw;refine G.row_eq (by rw [hn,aQ]) (by rw [hx];simp)
end Go.Dk
end
