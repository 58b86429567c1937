/-
  Several texts in one: N3, Is, Iv, Iz, Js, N4, N5, N6, N7, Xz, N8, K9, Op, K10, K11, Ye, Yg, Xe, K12, Xg, K13, K14, Jp, Nk
-/
import Derived.Test.YthiafbkolhnadaaGreatDoorVC
import Derived.Recover
open Go.Proofs.Tryz renaming prog->W,underlying9->aF,underlying72->de,underlying3->dq,underlying70->dx,underlying5->en,underlying83->fb,underlying79->fk,underlying28->lp,underlying33->mc,underlying148->mV,underlying32->oA,underlying80->oB,underlying159->po,underlying4->pr,underlying81->qd,underlying25->q3,underlying35->q4,underlying23->r9,underlying78->sa,func182->ww,func277->wx,underlying341->wy,func336->AG,func343->AH,func115->DL
open List renaming length_append->aQ,length_drop->bC,mem_cons_of_mem->bP,getElem?_eq_getElem->bS,getElem?_eq_some_iff->bT,mem_cons_self->b9,mem_of_getElem?->cb,length_cons->cf,append_nil->cH,length_nil->dC,length_take->dS,append_assoc->eB,length->eC,getElem?_map->eF,mem_cons->eX,drop_drop->fE,length_map->fT,flatMap_cons->gE,length_pos_iff->gF,nil_append->gG,cons_append->gT,getD_eq_getElem?_getD->hZ,mem_append_right->h0,mem_append->iv,mem_append_left->iM,map_cons->jk,getElem?_of_mem->jX,map_append->kc,length_singleton->ll,mem_map->lm,take_of_length_le->lQ,getD->l8,getElem?_append_left->l9,drop_zero->mS,not_mem_nil->mT,take_length->nG,drop_eq_getElem_cons->ph,flatten_cons->pi,getElem?_append_right->pj,all_eq_true->p7,eq_nil_of_length_eq_zero->p8,take_succ_eq_append_getElem->p9,nodup_cons->ym,getElem?_cons_zero->AE,any_eq_true->DJ
open UInt8 renaming ofNat->bM
open Nat renaming zero_le->bU,le_refl->bV,beq->gU,zero_add->gV,lt_or_ge->ma,le_trans->nI,pow_le_pow_right->pn,blt->qb,eq_zero_or_pos->tg,min_eq_left->yn,mod_eq_of_lt->yo,lt_irrefl->DK
open Int renaming toNat->dw,toNat_natCast->gD
open Bool renaming and_eq_true->fS,or_eq_true->hW,eq_iff_iff->jE,not_eq_true'->kP,noConfusion->qR,false_eq_true->r0,or_eq_false_iff->uB
open Option.some renaming injEq->kS,inj->mb
open Classical renaming byContradiction->nA,not_not->nB
open Option renaming map_eq_some_iff->nJ,map_some->ti
open Array renaming replicate->CV,getElem?_eq_getElem->KP
set_option linter.unusedSimpArgs false
set_option linter.unusedVariables false
set_option maxHeartbeats 4000000
set_option maxRecDepth 100000
section
namespace Go.Proofs.YthiafbkolhnadaaGreatDoor
open Go Go.Dk Go.RowKit Go.Lib
attribute [local irreducible] Go.wpList Go.Code.wp Go.bodyPost Go.wpStill Go.wpQuiet
theorem bAp  (w:World):(Instr.build 78 ([]:List (Nat×Value)).toArray).run W w=.ok (.agg #[J 0,J 0,J 0,J 0]) w:=by
 go_simp
 try rfl
theorem bAs (bj:Nat)(bg:Int)(w:World):(Instr.build 78 ([(0,(J bj)),(2,.int .i64 (bg))]:List (Nat×Value)).toArray).run W w=.ok (.agg #[J bj,J 0,.int .i64 (bg),J 0]) w:=by
 go_simp
 try rfl
theorem bAq (bj:Nat)(bg:Int)(w:World):(Instr.build 78 ([(0,(J bj)),(1,.int .i64 (bg))]:List (Nat×Value)).toArray).run W w=.ok (.agg #[J bj,.int .i64 (bg),J 0,J 0]) w:=by
 go_simp
 try rfl
theorem bAr (bj:Nat)(bg:Int)(b4:Int)(w:World):(Instr.build 78 ([(0,(J bj)),(1,.int .i64 (bg)),(2,.int .i64 (b4))]:List (Nat×Value)).toArray).run W w=.ok (.agg #[J bj,.int .i64 (bg),.int .i64 (b4),J 0]) w:=by
 go_simp
 try rfl
theorem bEz (y:Nat)(w0:World)(ap:1<=y)(h1:y<=9999):Fc W 371 [.int .i64 y] w0 (lP λb=>b=zq y):=by
 refine aI Tryz.func371 B Tryz.ntmps371 B ?_;have G:=Ctx.start w0;refine kD ?_;refine aD8 ?_;refine ae ?_;refine aN B B B aO (λhc=>v8 (q:=100) B l2 B (by decide)) ?_;refine an ?_;refine aN B B B a8 (λhc=>v8 (q:=400) B l2 B (by decide)) ?_;refine az ?_;refine be Tryz.results371 B ?_;refine ow ?_;show _=zq y;unfold zq;rw [jE];simp only [fS,hW,decide_eq_true_eq,beq_iff_eq,bne_iff_ne,ne_eq];omega
theorem aJh (y m:Nat)(w0:World)(hy:y<=1000000)(hm:m<=1000000):Fc W 312 [.int .i64 y,.int .i64 m] w0 (λv _=>v=.int .i64 (o2 y m:Nat)):=by
 refine aI Tryz.func312 B Tryz.ntmps312 B ?_;have G:=Ctx.start w0;refine kD ?_;refine Z (λe1=>?_) (λe1=>?_)
 ·refine aq ?_;exact CX
 refine aG ?_;refine cw (λf ah=>∃ b:Bool,f 0=.int .i64 y/\f 1=.int .i64 m/\f 11=.int .i64 m/\f 12=.bool b/\(b=true↔m=1\/m=3\/m=5\/m=7\/m=8\/m=10\/m=12)/\Ctx w0 ah []) ?_ ?_
 ·refine aq ?_;refine cn B (λco=>?_) (λco=>?_)
  ·exact CW
  try simp only [dy] at co
  first | have yK:¬ _:=λh=>by have h2:=lA.2 h;rw [co] at h2;cases h2 | skip
  refine aq ?_;refine cn B (λco=>?_) (λco=>?_)
  ·exact CW
  try simp only [dy] at co
  first | have yK:¬ _:=λh=>by have h2:=lA.2 h;rw [co] at h2;cases h2 | skip
  refine aq ?_;refine cn B (λco=>?_) (λco=>?_)
  ·exact CW
  try simp only [dy] at co
  first | have yK:¬ _:=λh=>by have h2:=lA.2 h;rw [co] at h2;cases h2 | skip
  refine aq ?_;refine cn B (λco=>?_) (λco=>?_)
  ·exact CW
  try simp only [dy] at co
  first | have yK:¬ _:=λh=>by have h2:=lA.2 h;rw [co] at h2;cases h2 | skip
  refine aq ?_;refine cn B (λco=>?_) (λco=>?_)
  ·exact CW
  try simp only [dy] at co
  first | have yK:¬ _:=λh=>by have h2:=lA.2 h;rw [co] at h2;cases h2 | skip
  refine aq ?_;refine cn B (λco=>?_) (λco=>?_)
  ·exact CW
  try simp only [dy] at co
  first | have yK:¬ _:=λh=>by have h2:=lA.2 h;rw [co] at h2;cases h2 | skip
  refine an ?_;exact ⟨_,B,_,B,B,B,B,by (try simp only [beq_iff_eq]);omega,G⟩
 intro f w ai;obtain ⟨b,aB,aK,cv,cV,lA,G⟩:=ai;refine cn cV (λco=>?_) (λco=>?_)
 ·try simp only [dy] at co
  first | have yK:=lA.1 co | skip
  refine aq ?_;exact CX
 try simp only [dy] at co
 first | have yK:¬ _:=λh=>by have h2:=lA.2 h;rw [co] at h2;cases h2 | skip
 refine cw (λf ah=>∃ b:Bool,f 0=.int .i64 y/\f 1=.int .i64 m/\f 11=.int .i64 m/\f 20=.bool b/\(b=true↔m=4\/m=6\/m=9\/m=11)/\Ctx w0 ah []) ?_ ?_
 ·refine aq ?_;refine cn B (λct=>?_) (λct=>?_)
  ·exact QC
  try simp only [dy] at ct
  first | have Is:¬ _:=λh=>by have h2:=Bi.2 h;rw [ct] at h2;cases h2 | skip
  refine aq ?_;refine cn B (λct=>?_) (λct=>?_)
  ·exact QC
  try simp only [dy] at ct
  first | have Is:¬ _:=λh=>by have h2:=Bi.2 h;rw [ct] at h2;cases h2 | skip
  refine aq ?_;refine cn B (λct=>?_) (λct=>?_)
  ·exact QC
  try simp only [dy] at ct
  first | have Is:¬ _:=λh=>by have h2:=Bi.2 h;rw [ct] at h2;cases h2 | skip
  refine an ?_;exact ⟨_,B,_,aB,aK,cv,B,by (try simp only [beq_iff_eq]);omega,G⟩
 intro f w ai;obtain ⟨cI2,aB,aK,cv,EY,Bi,G⟩:=ai;refine cn EY (λct=>?_) (λct=>?_)
 ·try simp only [dy] at ct
  first | have Is:=Bi.1 ct | skip
  refine aq ?_;exact CX
 try simp only [dy] at ct
 first | have Is:¬ _:=λh=>by have h2:=Bi.2 h;rw [ct] at h2;cases h2 | skip
 refine aq ?_;refine Z (λfI=>?_) (λfI=>?_)
 ·refine an ?_;refine xJ G (bEz y _ I I) Tryz.func371 B B B B B B ?_;intro aUk w G Ov EP;refine ab ?_;refine Z (λjd=>?_) (λjd=>?_)
  ·refine aq ?_;exact CX
  refine az ?_;exact CX
 refine az ?_;exact CX
theorem bD3 (y:Nat)(w0:World)(hy:y<=1000000):Fc W 311 [.int .i64 y] w0 (λv _=>v=.int .i64 (O2 y:Nat)):=by
 refine aI Tryz.func311 B Tryz.ntmps311 B ?_;have G:=Ctx.start w0;refine kD ?_;refine bu (λg f ah=>∃ m n:Nat,g+m=13/\1<=m/\n=Fx y (m-1)/\f 0=.int .i64 y/\f 3=.int .i64 n/\f 4=.int .i64 m/\Ctx w0 ah []) (12) ?_ ?_
 ·exact ⟨1,0,I,I,B,B,B,B,G⟩
 intro gJ f w ai;obtain ⟨m,n,aH,bRd,hn,aB,aR,aM,G⟩:=ai;have EI:=aSp y (m-1);refine az ?_;refine Z (λoS=>?_) (λoS=>?_)
 ·refine aG ?_;refine aDl ?_;intro cBe w G mx BL;subst BL;have VI:=O8 y m;refine bz ?_;refine ⟨gJ-1,_,I,B,m+1,n+o2 y m,I,I,?_,aB,B,B,G⟩;obtain ⟨k,rfl⟩:∃ k,m=k+1:=⟨m-1,I⟩;rw [hn]
  rfl
 refine aG ?_;refine be Tryz.results311 B ?_;refine Ag ?_;have bRe:m=13:=I;rw [bRe] at hn;exact aD Nat.cast hn
theorem bEn (Gb:Nat)(w0:World)(hy:Gb<=1000000):Fc W 351 [.int .i64 Gb] w0 (λv _=>∃ n:Nat,v=.int .i64 n/\n<=372*Gb+372):=by
 refine aI Tryz.func351 B Tryz.ntmps351 B ?_;have G:=Ctx.start w0;refine kD ?_;refine bu (λg f ah=>∃ y n:Nat,g+y=Gb+1/\n<=372*y/\f 0=.int .i64 Gb/\f 3=.int .i64 n/\f 4=.int .i64 y/\Ctx w0 ah []) (Gb) ?_ ?_
 ·exact ⟨1,0,I,I,B,B,B,G⟩
 intro gJ f w ai;obtain ⟨y,n,aH,hn,aB,aR,aM,G⟩:=ai;refine aG ?_;refine Z (λiB=>?_) (λiB=>?_)
 ·refine az ?_;refine bG G (bD3 y _ I) Tryz.func311 B B B B B B ?_;intro cBe w G mx BL;subst BL;have ie:=bXa y;refine bz ?_;exact ⟨gJ-1,_,I,B,y+1,n+O2 y,I,I,aB,B,B,G⟩
 refine aG ?_;refine be Tryz.results351 B ?_;exact ⟨G.ext,n,B,I⟩
theorem bDm (y mo d:Nat)(w0:World)(hy:y<=1000000)(hm:mo<=1000000)(hd:d<=1000000):Fc W 276 [.int .i64 y,.int .i64 mo,.int .i64 d] w0 (λv _=>∃ n:Int,v=.tuple #[.int .i64 n,J (h3 (gm y mo d))]):=by
 refine aI Tryz.func276 B Tryz.ntmps276 B ?_;have G:=Ctx.start w0;refine kD ?_;refine FQ G B B B a8 (λhc=>aJh y mo _ I I) Tryz.func312 B B B (λhc=>(aX l2 (aX l2 B))) ?_;intro Ki w G sD rG;refine aD9 ?_;refine ag ?_;refine Z (λhB=>?_) (λhB=>?_)
 ·have hv:h3 (gm y mo d)=2:=My (by unfold gm;rw [decide_eq_false_iff_not];omega);refine az ?_;refine dY Tryz.results276 B B ?_;exact Zv
 have hv:h3 (gm y mo d)=0:=Mz (by unfold gm;rw [decide_eq_true_eq];omega);refine an ?_;refine bG G (bEn y _ I) Tryz.func351 B B B B B B ?_;intro aUi w G aQx Jb;obtain ⟨nq,rfl,BI⟩:=Jb;refine bz ?_;refine bu (λg f ah=>∃ m n:Nat,g+m=mo+1/\n<=372*y+372+31*m/\f 0=.int .i64 y/\f 1=.int .i64 mo/\f 2=.int .i64 d/\f 8=.int .i64 n/\f 9=.int .i64 m/\Ctx w0 ah []) (mo) ?_ ?_
 ·exact ⟨1,nq,I,I,B,B,B,B,B,G⟩
 intro wR f w ai;obtain ⟨m,n,aH,hn,aB,aK,aE,bb,b6,G⟩:=ai;refine aG ?_;refine Z (λjK=>?_) (λjK=>?_)
 ·refine aG ?_;refine aDl ?_;intro cBl w G E9 V4;subst V4;have VI:=O8 y m;refine bz ?_;exact ⟨wR-1,_,I,B,m+1,n+o2 y m,I,I,aB,aK,aE,B,B,G⟩
 refine gp ?_;refine dY Tryz.results276 B B ?_;exact aB6
theorem MF (s p:List UInt8)(w0:World)(hs:s.length<=5000000)(hp:p.length<=1000):Fc W 274 [M s,M p] w0 (λv _=>v=.bool (cD p s)):=by
 refine aI Tryz.func274 B Tryz.ntmps274 B ?_;have G:=Ctx.start w0;refine kf ?_;refine Z (λe1=>?_) (λe1=>?_)
 ·have hf:cD p s=false:=by rw [Bool.eq_false_iff];intro h;have:=XJ h;omega
  refine aq ?_;refine be Tryz.results274 B ?_;exact ⟨G.ext,aD Value.bool hf.symm⟩
 refine aG ?_;refine bu (λg f ah=>∃ (i:Nat),g=p.length-i/\(i<=p.length)/\(∀ j,j<i->if (p.getD j 0).toNat=100 then bf (s.getD j 0) else (s.getD j 0).toNat=(p.getD j 0).toNat)/\f 5=J i/\f 0=M s/\f 1=M p/\Cxr w0 ah [] []) ((λ(i:Nat)=>p.length-i) 0) ?_ ?_
 ·exact QM
 intro pC f w ai;obtain ⟨i,EA,hi,hb,bF,aB,aK,G⟩:=ai;refine bz ?_;refine Z (λgK=>?_) (λgK=>?_)
 ·refine an ?_;refine GN ?_;refine fA B B (λw G cA=>cU B aK) ?_;refine RH ?_;refine fA B B (λw G cA=>dm (s:=p) (i:=i) B B B aF I) ?_;refine fA B B (λw G cA=>gQ B B B B) ?_;refine GO ?_;refine gy B B B aO (λhc w G cA=>cU B aB) ?_;refine RI ?_;refine aEa ?_;refine gy B B B aO (λhc w G cA=>gQ B ay B B) ?_;refine gy B B B aO (λhc w G cA=>cU B ay) ?_;refine gy B B B a8 (λhc w G cA=>cU B aB) ?_;refine gy B B B a8 (λhc w G cA=>cU B bF) ?_;refine gy B B B a8 (λhc w G cA=>dm (s:=s) (i:=i) B ay ay aF fO) ?_;refine gy B B B a8 (λhc w G cA=>gQ B ay B B) ?_;refine gy B B B aO (λhc w G cA=>zU hc B B B B) ?_;refine fA B B (λw G cA=>zS B B B B) ?_;refine GO ?_;refine gy B B B a8 (λhc w G cA=>cU B aK) ?_;refine gy B B B a8 (λhc w G cA=>cU B bF) ?_;refine gy B B B a8 (λhc w G cA=>dm (s:=p) (i:=i) B ay ay aF fO) ?_;refine gy B B B a8 (λhc w G cA=>gQ B ay B B) ?_;refine gy B B B a8 (λhc w G cA=>cU B ay) ?_;refine gy B B B aO (λhc w G cA=>cU B aB) ?_;refine RI ?_;refine aEa ?_;refine gy B B B aO (λhc w G cA=>cU B aK) ?_;refine RI ?_;refine gy B B B aO (λhc w G cA=>dm (s:=p) (i:=i) B ay ay aF fO) ?_;refine gy B B B aO (λhc w G cA=>gQ B ay ay B) ?_;refine gy B B B a8 (λhc w G cA=>CJ hc B B B B) ?_;refine fA B B (λw G cA=>CK B B B B) ?_;refine Kl ?_;rintro w ⟨G,bVm⟩;refine Z (λpI=>?_) (λpI=>?_)
  ·have hf:cD p s=false:=by
    rw [Bool.eq_false_iff];intro h;have h2:=((JZ p s).1 h).2 i I;split at h2
    ·unfold bf at h2;omega
    ·omega
   refine aq ?_;refine be Tryz.results274 B ?_;exact ⟨G.ext,aD Value.bool hf.symm⟩
  have oP:if (p.getD i 0).toNat=100 then bf (s.getD i 0) else (s.getD i 0).toNat=(p.getD i 0).toNat:=by
   split
   ·unfold bf;omega
   ·omega
  refine qZ ?_;exact ⟨_,_,I,B,i+1,B,I,(λj h=>by by_cases e:j=i;(subst e;exact oP);exact hb j I),aJ,aB,aK,G⟩
 refine az ?_;refine be Tryz.results274 B ?_;exact ⟨G.ext,aD Value.bool ((JZ p s).2 ⟨I,λj ax=>hb j I⟩).symm⟩
theorem wJ (s:List UInt8)(w0:World)(hs:s.length<=9)(hd:∀ c∈s,bf c):Fc W 277 [M s] w0 (λv _=>v=(J (ba s))):=by
 refine aI wx B Tryz.ntmps277 B ?_;have G:=Ctx.start w0;refine kD ?_;refine bu (λg f ah=>∃ (i n:Nat),g=s.length-i/\(i<=s.length)/\(n=ba (s.take i))/\(n<10^i)/\f 4=J i/\f 3=J n/\f 0=M s/\f 2=J 0/\Cxr w0 ah [] []) ((λ(i:Nat)=>s.length-i) 0) ?_ ?_
 ·exact aB7
 intro gJ f w ai;obtain ⟨i,n,qp,hi,hn,aP,aM,aR,aB,aE,G⟩:=ai;refine bz ?_;refine Z (λfm=>?_) (λfm=>?_)
 ·have vc:=hd (s.getD i 0) (Nc I);unfold bf at vc;have xh:10^i<=10^9:=pn (by decide) I;have Jg:10^9=1000000000:=by decide
  refine bz ?_;refine uE ?_;refine aEb ?_;refine aEc ?_;refine az ?_;refine x8 ?_;exact ⟨_,_,I,B,i+1,n*10+((s.getD i 0).toNat-48),B,I,(by rw [HO I,<- hn]),(by rw [Nat.pow_succ];omega),aJ,aJ,aB,aE,G⟩
 refine an ?_;refine Aj ?_;refine ag ?_;refine be Tryz.results277 B ?_;have nU:s.take i=s:=lQ I;rw [nU] at hn;exact ⟨G.ext,aD (λn:Nat=>Value.int .i64 (n:Int)) hn⟩
theorem aJb (s:List UInt8)(w0:World)(hs:s.length<=5000000):Fc W 275 [M s] w0 (λv _=>∃ (n:Int) (r:List UInt8) (f i:Bool),v=.tuple #[.int .i64 n,M r,.bool f,.bool i]/\((f=false/\l4 s=none)\/(f=true/\∃ x,l4 s=some (x,r)/\i=l3 x))/\r.length<=s.length):=by
 refine aI Tryz.func275 B Tryz.ntmps275 B ?_;have G:=Ctx.start w0;refine gp ?_;refine bo G (MF s ([100,100,58,100,100,58,100,100]) _ I (by decide)) Tryz.func274 B B B B B B ?_;intro w G mx;refine ag ?_;refine Z (λe8=>?_) (λe8=>?_)
 ·have BF:cD [100,100,58,100,100,58,100,100] s=false:=by simpa using e8
  have iC:l4 s=none:=cE3 BF;exact aBn
 have BF:cD [100,100,58,100,100,58,100,100] s=true:=by simpa using e8
 have tP:cD lS s=true:=BF;obtain ⟨cOq,lD,qm,tJ⟩:=bGw tP;have kW:(s.drop 8).length=s.length-8:=bC;refine ag ?_;refine ei G (Ctx.sub0 G) mixed [(0,14),(1,15),(3,17),(4,18),(6,20),(7,21)] #[true,true,false,true,true,false,true,true,false,false,false,false] ac ac ac ac ?_;refine eY ?_;refine bw B (bx B) (λw G=>xS (s:=s) (i:=2) B B B aF I) ?_;refine eY ?_;refine bw B (bx B) (λw G=>pb (s:=s) (i:=3) (j:=5) B B B B aF I I) ?_;refine eY ?_;refine bw B (bx B) (λw G=>pb (s:=s) (i:=6) (j:=8) B B B B aF I I) ?_;refine cW ?_;intro w G W4;refine p2 ?_;refine bo G (wJ (s.take 2) _ o5 o7) wx B B B B B B ?_;intro w G sD;have No:ba (s.take 2)<100:=wM (k:=2) o7 o5;refine GP ?_;refine kb ?_;refine bo G (wJ (sub s 3 2) _ o5 o7) wx B B B B B B ?_;intro w G BZ;have Np:ba (sub s 3 2)<100:=wM (k:=2) o7 o5;refine GP ?_;refine mP ?_;refine bo G (wJ (sub s 6 2) _ o5 o7) wx B B B B B B ?_;intro w G E7;have UJ:ba (sub s 6 2)<100:=wM (k:=2) o7 o5;refine Dv ?_;refine S B B (av (v:=(J (ba (s.take 2)))) B B) ?_;refine dQ ?_;refine kQ ?_;refine S B B (av (v:=(J (ba (sub s 3 2)))) B B) ?_;refine dQ ?_;refine mO ?_;refine S B B (av (v:=(J (ba (sub s 6 2)))) B B) ?_;refine Hg ?_;refine S B B (ka (s:=s) (i:=8) B B B aF I) ?_;refine S B B (av (v:=(M (s.drop 8))) B B) ?_;refine aq ?_;refine cw (λf ah=>∃ (r:List UInt8) (fr:Nat),(r.length<=s.length)/\(fr<1000000000)/\(l4 s=some ((ba (s.take 2),ba (sub s 3 2),ba (sub s 6 2)),r))/\f 0=M r/\f 9=J fr/\f 6=J (ba (s.take 2))/\f 7=J (ba (sub s 3 2))/\f 8=J (ba (sub s 6 2))/\Cxr w0 ah [] []) ?_ ?_
 ·refine aG ?_;refine aN B B B aO (λhc=>dm (s:=s.drop 8) (i:=0) B ay B aF fO) ?_;refine ae ?_;refine Z (λje=>?_) (λje=>?_)
  ·have oO:((s.drop 8).getD 0 0).toNat=46:=I;obtain ⟨hfn,Vh⟩:=cE2 tP oO;refine az ?_;refine bu (λg f ah=>∃ (n:Nat),g=(s.drop 8).length-n/\(1<=n)/\(n<=(s.drop 8).length)/\(∀ j,j<n-1->bf ((s.drop 9).getD j 0))/\f 10=J n/\f 0=M (s.drop 8)/\f 2=J 0/\f 3=M []/\f 4=.bool (false)/\f 5=.bool (false)/\f 6=J (ba (s.take 2))/\f 7=J (ba (sub s 3 2))/\f 8=J (ba (sub s 6 2))/\f 9=J 0/\Cxr w0 ah [] []) ((λ(n:Nat)=>(s.drop 8).length-n) 1) ?_ ?_
   ·exact ⟨1,B,bV _,I,(λj h=>I),aJ,B,B,B,B,B,B,B,B,B,G⟩
   intro Ni f w ai;obtain ⟨n,Vi,rE,lG,hb,cp,aB,aE,aR,aM,bF,aL,aS,bb,b6,G⟩:=ai;refine cF ?_;refine aEd ?_;refine aq ?_;refine aEd ?_;refine ae ?_;refine Z (λgq=>?_) (λgq=>?_)
   ·have UZ:bf ((s.drop 9).getD (n-1) 0):=by
     rw [du] at gq ⊢;rw [show 9+(n-1)=8+n by omega];unfold bf;omega
    refine aq ?_;refine Lu ?_;refine ab ?_;exact ⟨_,_,I,B,n+1,B,I,I,(λj h=>by by_cases e:j=n-1;(subst e;exact UZ);exact hb j I),aJ,aB,aE,aR,aM,bF,aL,aS,bb,b6,G⟩
   have EW:aT (s.drop 9)=n-1:=ob bf (s.drop 9) (n-1) jx hb (by
    rw [bC];rcases ma n (s.drop 8).length with h | h
    . refine .inr ?_
      simp only [du] at gq ⊢;rw [show 9+(n-1)=8+n by omega];unfold bf;omega
    ·exact .inl I)
   refine gp ?_;refine Z (λnQ=>?_) (λnQ=>?_)
   ·have iC:l4 s=none:=hfn I;exact aBn
   have qD:=Vh I;rw [EW,fE,show 9+(n-1)=8+n by omega] at qD;have aNt:∀ c∈(sub (s.drop 8) 1 (n-1)++[48,48,48,48,48,48,48,48,48]).take 9,bf c:=by
    intro c hc;rcases iv.1 (List.mem_of_mem_take hc) with h | h
    . have h2:=FO (s.drop 9) c
      rw [EW] at h2;unfold sub at h;rw [fE] at h;exact h2 h
    . have:∀ c∈([48,48,48,48,48,48,48,48,48]:List UInt8),bf c:=by decide
      exact this c h
   refine aq ?_;refine S B B (pb (s:=s.drop 8) (i:=1) (j:=n) B B B B aF I I) ?_;refine S B B (iJ (a:=sub (s.drop 8) 1 (n-1)) (b:=[48,48,48,48,48,48,48,48,48]) B B B (by have:=zI (s.drop 8) 1 (n-1);show _+9<=_;omega)) ?_;refine S B B (xS (s:=sub (s.drop 8) 1 (n-1)++[48,48,48,48,48,48,48,48,48]) (i:=9) B B B aF (by rw [aQ];show 9<=_+9;omega)) ?_;refine bo G (wJ ((sub (s.drop 8) 1 (n-1)++[48,48,48,48,48,48,48,48,48]).take 9) _ vD aNt) wx B B B B B B ?_;intro w G bU5;have aNj:ba ((sub (s.drop 8) 1 (n-1)++[48,48,48,48,48,48,48,48,48]).take 9)<1000000000:=wM (k:=9) aNt vD;refine aq ?_;refine S B B (ka (s:=s.drop 8) (i:=n) B B B aF I) ?_;refine S B B (av (v:=(M ((s.drop 8).drop n))) B B) ?_;refine ab ?_;exact ⟨_,B,(s.drop 8).drop n,_,jx,aNj,(by rw [fE];exact qD),B,aJ,aL,aS,bb,G⟩
  have oO:((s.drop 8).getD 0 0).toNat≠46:=λh=>by have:=nc (l:=s.drop 8) (j:=0) I;omega
  have aPb:=cE4 tP oO;refine ab ?_;exact ⟨_,B,s.drop 8,0,I,by decide,aPb,B,aJ,B,B,B,G⟩
 intro f w ai;obtain ⟨r,fr,hr,yW,j1,aB,b6,aL,aS,bb,G⟩:=ai;refine SP ?_;refine S B B (av (v:=(M r)) B B) ?_;refine an ?_;refine aVj Tryz.results275 B B B B ?_;exact ⟨G.ext,_,r,_,_,B,.inr ⟨B,_,j1,by unfold l3;rw [jE];simp only [fS,decide_eq_true_eq];omega⟩,hr⟩
theorem bDn (s:List UInt8)(w0:World)(hs:s.length<=5000000):Fc W 278 [M s] w0 (λv _=>∃ (n:Int) (f i:Bool),v=.tuple #[.int .i64 n,.bool f,.bool i]/\((f=false/\j9 s=none)\/(f=true/\j9 s=some i))):=by
 refine aI Tryz.func278 B Tryz.ntmps278 B ?_;have G:=Ctx.start w0;refine cF ?_;refine S B B (ga (s:=s) (u:=[90]) B B B) ?_;refine ag ?_;refine aN B B B a8 (λhc=>ga (s:=s) (u:=[122]) B ay B) ?_;refine ag ?_;refine Z (λe8=>?_) (λe8=>?_)
 ·have hz:j9 s=some true:=by unfold j9;rw [U e8]
  refine aG ?_;refine sP Tryz.results278 B B B ?_;exact ⟨G.ext,_,_,_,B,.inr ⟨B,hz⟩⟩
 have hz:¬ (s=[90]\/s=[122]):=λh=>by rcases h with h | h;exact e8.1 h;exact e8.2 h
 refine cK ?_;refine hg G B B B a8 (λhc=>MF s ([43,100,100,58,100,100]) _ I (by decide)) Tryz.func274 B B B (λhc=>(aX ay (aX B B))) ?_;intro w G BZ;refine ae ?_;refine hg G B B B aO (λhc=>MF s ([45,100,100,58,100,100]) _ I (by decide)) Tryz.func274 B B B (λhc=>(aX ay (aX B B))) ?_;intro w G zj;refine an ?_;refine Z (λlV=>?_) (λlV=>?_)
 ·have iC:j9 s=none:=by
   unfold j9;rw [O hz,O];rintro ⟨h1,h2⟩;rcases lV with h | h
   ·omega
   . rcases h2 with h2 | h2
     ·rw [show cD [43,100,100,58,100,100] s=true from h2] at h;exact absurd h.1 (by decide)
     ·rw [show cD [45,100,100,58,100,100] s=true from h2] at h;exact absurd h.2 (by decide)
  refine aG ?_;refine sP Tryz.results278 B B B ?_;exact ⟨G.ext,_,_,_,B,.inl ⟨B,iC⟩⟩
 have h6:s.length=6:=I;have tU:cD Cs s=true\/cD Ce s=true:=by
  rcases lV.2 with h | h
  ·exact .inl h
  ·exact .inr h
 obtain ⟨lD,qm⟩:=bY8 tU;have tJ:=qm;have qD:j9 s=some (xI (ba (sub s 1 2),ba (sub s 4 2))):=by unfold j9;rw [O hz,U ⟨h6,tU⟩];rfl
 refine ag ?_;refine ei G (Ctx.sub0 G) mixed [(0,27),(1,28),(3,30),(4,31)] #[true,true,false,true,true,false,false,false] ac ac ac ac ?_;refine eY ?_;refine bw B (bx B) (λw G=>pb (s:=s) (i:=1) (j:=3) B B B B aF I I) ?_;refine eY ?_;refine bw B (bx B) (λw G=>pb (s:=s) (i:=4) (j:=6) B B B B aF I I) ?_;refine cW ?_;intro w G JA;refine p2 ?_;refine bo G (wJ (sub s 1 2) _ o5 o7) wx B B B B B B ?_;intro w G E9;have bNv:ba (sub s 1 2)<100:=wM (k:=2) o7 o5;refine GP ?_;refine kb ?_;refine bo G (wJ (sub s 4 2) _ o5 o7) wx B B B B B B ?_;intro w G Ox;have Ep:ba (sub s 4 2)<100:=wM (k:=2) o7 o5;refine dQ ?_;refine li ?_;refine S B B (av (v:=(J (ba (sub s 1 2)))) B B) ?_;refine dQ ?_;refine lh ?_;refine S B B (av (v:=(J (ba (sub s 4 2)))) B B) ?_;refine hY ?_;refine bz ?_;refine cw (λf ah=>∃ (y:Int),f 7=.int .i64 (y)/\f 2=J 0/\f 3=.bool (false)/\f 4=.bool (false)/\f 5=J (ba (sub s 1 2))/\f 6=J (ba (sub s 4 2))/\Cxr w0 ah [] []) ?_ ?_
 ·refine ae ?_;refine Am ?_;refine ag ?_;refine Z (λpG=>?_) (λpG=>?_)
  ·refine ag ?_;refine Lx ?_;refine S B B (av (v:=.int .i64 (-((ba (sub s 1 2)*60+ba (sub s 4 2):Nat):Int))) B B) ?_;refine ab ?_;exact ⟨_,B,_,aJ,B,B,B,B,B,G⟩
  refine ab ?_;exact ⟨_,B,_,aJ,B,B,B,B,B,G⟩
 intro f w ai;obtain ⟨y,aS,aE,aR,aM,bF,aL,G⟩:=ai;refine cK ?_;refine S B B (av (v:=.int .i64 (y)) B B) ?_;refine an ?_;refine sP Tryz.results278 B B B ?_;exact ⟨G.ext,_,_,_,B,.inr ⟨B,qD.trans (aD some (by unfold xI;rw [jE];simp only [fS,decide_eq_true_eq];omega))⟩⟩
theorem aI4 (s:List UInt8)(w0:World)(hs:s.length<=5000000):Fc W 199 [M s] w0 (λv _=>∃ (k d n z:Int) (e:Nat),v=.tuple #[.agg #[.int .i64 k,.int .i64 d,.int .i64 n,.int .i64 z],J e]/\e=fL s):=by
 refine aI Tryz.func199 B Tryz.ntmps199 B ?_;have G:=Ctx.start w0;refine ag ?_;refine Ac ?_;intro b2 w G di e3;refine az ?_;refine bo G (MF s ([100,100,100,100,45,100,100,45,100,100]) _ I (by decide)) Tryz.func274 B B B B B B ?_;intro w G BZ;refine ag ?_;refine Z (λct=>?_) (λct=>?_)
 ·have BF:cD [100,100,100,100,45,100,100,45,100,100] s=false:=by simpa using ct
  have tP:cD na s=false:=BF;have EH:fL s=match l4 s with | none=>3 | some (x,q)=>if q=[] then h3 (l3 x) else 3:=by unfold fL;rw [O (by rw [tP];decide)];rfl
  refine ae ?_;refine bG G (aJb s _ Ka) Tryz.func275 B B B B B B ?_;intro aUj w G zj Jc;obtain ⟨Fy,aU1,cKe,cRt,rfl,aQk,cPj⟩:=Jc;refine aq ?_;refine S B B (av (v:=.int .i64 (Fy)) B B) ?_;refine S B B (av (v:=(M aU1)) B B) ?_;refine cF ?_;refine aN B B B a8 (λhc=>kO (s:=aU1) (u:=([]:List UInt8)) B ay B) ?_;refine ag ?_;refine Z (λml=>?_) (λml=>?_)
  ·have he:fL s=3:=by
    rw [EH];rcases aQk with ⟨_,h⟩ | ⟨h1,x,h,_⟩
    ·rw [h]
    . rw [h];simp only;rw [O];rcases ml with h2 | h2
      ·rw [h1] at h2;cases h2
      ·exact h2
   refine AA ?_;refine xZ ?_;intro w G hG;refine ae ?_;refine RJ ?_;exact QR
  obtain ⟨_,x,hx,rB⟩:=aQk.resolve_left (λh=>by rw [ml.1] at h;cases h.1);have he:fL s=h3 (l3 x):=by rw [EH,hx];simp only;rw [U ml.2]
  refine aG ?_;refine Z (λpF=>?_) (λpF=>?_)
  ·have ic:fL s=2:=by rw [he,<- rB];exact My (by simpa using pF)
   refine AA ?_;refine xZ ?_;intro w G jt;refine ae ?_;refine RJ ?_;exact ⟨G.ext,_,_,_,_,2,B,ic.symm⟩
  have ic:fL s=0:=by rw [he,<- rB];exact Mz (by simpa using pF)
  refine an ?_;refine S B B (cd (qs:=[(0,(J 2)),(2,.int .i64 (Fy))]) (bAs _ _) B B) ?_;refine xZ ?_;intro w G iD;refine ae ?_;refine RJ ?_;exact ⟨G.ext,_,_,_,_,0,B,ic.symm⟩
 have BF:cD [100,100,100,100,45,100,100,45,100,100] s=true:=by simpa using ct
 have tP:cD na s=true:=BF;obtain ⟨cOo,lD,qm,tJ⟩:=bHl tP;have kW:(s.drop 10).length=s.length-10:=bC;have EH:fL s=ue (gm (ba (s.take 4)) (ba (sub s 5 2)) (ba (sub s 8 2))) (s.drop 10):=by unfold fL;rw [U tP];rfl
 refine ab ?_;refine cw (λf ah=>∃ (AW:Int),f 8=.int .i64 (AW)/\f 9=J (h3 (gm (ba (s.take 4)) (ba (sub s 5 2)) (ba (sub s 8 2))))/\f 0=M s/\f 2=ao b2 0/\f 3=J 0/\Cxr w0 ah [(b2,aa 78 [J 0,J 0,J 0,J 0])] []) ?_ ?_
 ·refine ei G (Ctx.sub0 G) mixed [(0,41),(1,42),(3,44),(4,45),(6,47),(7,48)] #[true,true,false,true,true,false,true,true,false,false,false,false,false,false,false] ac ac ac ac ?_;refine eY ?_;refine bw B (bx B) (λw G=>xS (s:=s) (i:=4) B B B aF I) ?_;refine eY ?_;refine bw B (bx B) (λw G=>pb (s:=s) (i:=5) (j:=7) B B B B aF I I) ?_;refine eY ?_;refine bw B (bx B) (λw G=>pb (s:=s) (i:=8) (j:=10) B B B B aF I I) ?_;refine cW ?_;intro w G OG;refine p2 ?_;refine bo G (wJ (s.take 4) _ o5 o7) wx B B B B B B ?_;intro w G bU1;have cLo:ba (s.take 4)<10000:=wM (k:=4) o7 o5;refine GP ?_;refine kb ?_;refine bo G (wJ (sub s 5 2) _ o5 o7) wx B B B B B B ?_;intro w G cQu;have cLq:ba (sub s 5 2)<100:=wM (k:=2) o7 o5;refine GP ?_;refine mP ?_;refine bo G (wJ (sub s 8 2) _ o5 o7) wx B B B B B B ?_;intro w G cQw;have cLt:ba (sub s 8 2)<100:=wM (k:=2) o7 o5;refine Dv ?_;refine bG G (bDm (ba (s.take 4)) (ba (sub s 5 2)) (ba (sub s 8 2)) _ I I I) Tryz.func276 B B B B B B ?_;intro Yl w G OB BN;obtain ⟨AW,rfl⟩:=BN;refine dQ ?_;refine kQ ?_;refine ej ?_;refine fR (i:=11) (j:=12) ac B B ?_ ?_
  ·refine ej ?_;refine fR (i:=12) (j:=13) ac B B ?_ ?_
   ·exact ZI
   refine S B B (av (v:=.int .i64 (AW)) B B) ?_;refine dQ ?_;refine r2 ?_;refine ab ?_;exact aAb
  refine ej ?_;refine mO ?_;exact ZI
 intro f w ai;obtain ⟨AW,bb,b6,aB,aE,aR,G⟩:=ai;refine ae ?_;refine S B B (ka (s:=s) (i:=10) B B B aF I) ?_;refine S B B (av (v:=(M (s.drop 10))) B B) ?_;refine aq ?_;refine S B B (ga (s:=s.drop 10) (u:=([]:List UInt8)) B B B) ?_;refine ab ?_;refine Z (λnQ=>?_) (λnQ=>?_)
 ·have he:fL s=h3 (gm (ba (s.take 4)) (ba (sub s 5 2)) (ba (sub s 8 2))):=by rw [EH,ue,U nQ]
  refine az ?_;refine Z (λjq=>?_) (λjq=>?_)
  ·refine AA ?_;refine ab ?_;refine Lb ?_;intro w G n1;refine aDn ?_;refine ag ?_;refine Rq ?_;exact ⟨G.ext,_,_,_,_,_,B,he.symm⟩
  have iU:h3 (gm (ba (s.take 4)) (ba (sub s 5 2)) (ba (sub s 8 2)))=0:=I;refine an ?_;refine S B B (cd (qs:=[(0,(J 1)),(1,.int .i64 (AW))]) (bAq _ _) B B) ?_;refine Lb ?_;intro w G np;refine ae ?_;refine Rq ?_;exact ⟨G.ext,_,_,_,_,0,B,(he.trans iU).symm⟩
 have bt:0<(s.drop 10).length:=gF.2 nQ;refine aq ?_;refine S B B (dm (s:=s.drop 10) (i:=0) B B B aF I) ?_;refine ae ?_;refine aEe ?_;refine an ?_;refine aEe ?_;refine ae ?_;refine Z (λtG=>?_) (λtG=>?_)
 ·have he:fL s=3:=by rw [EH,ue,O nQ,U];unfold sS;omega
  refine AA ?_;refine Lb ?_;intro w G sF;exact aBk
 have bT9:¬ ¬ sS ((s.drop 10).getD 0 0):=by unfold sS;omega
 have vk:fL s=match l4 ((s.drop 10).drop 1) with | none=>3 | some (x,q)=>if q=[] then h3 (gm (ba (s.take 4)) (ba (sub s 5 2)) (ba (sub s 8 2))&&l3 x) else match j9 q with | none=>3 | some o=>h3 (gm (ba (s.take 4)) (ba (sub s 5 2)) (ba (sub s 8 2))&&(l3 x&&o)):=by rw [EH,ue,O nQ,O bT9];rfl
 refine an ?_;refine S B B (ka (s:=s.drop 10) (i:=1) B B B aF I) ?_;refine bG G (aJb ((s.drop 10).drop 1) _ Ka) Tryz.func275 B B B B B B ?_;intro cBz w G aRa Wi;obtain ⟨zw,Kn,cKf,cRu,rfl,aQl,bTk⟩:=Wi;refine aq ?_;refine S B B (av (v:=.int .i64 (zw)) B B) ?_;refine S B B (av (v:=(M Kn)) B B) ?_;refine cK ?_;refine Z (λwZ=>?_) (λwZ=>?_)
 ·have he:fL s=3:=by rw [vk];rcases aQl with ⟨_,h⟩ | ⟨h,_⟩;rw [h];rw [h] at wZ;cases wZ
  refine AA ?_;refine Lb ?_;intro w G xp;exact aBk
 obtain ⟨_,x,hx,rB⟩:=aQl.resolve_left (λh=>by rw [h.1] at wZ;cases wZ);have VH:fL s=if Kn=[] then h3 (gm (ba (s.take 4)) (ba (sub s 5 2)) (ba (sub s 8 2))&&l3 x) else match j9 Kn with | none=>3 | some o=>h3 (gm (ba (s.take 4)) (ba (sub s 5 2)) (ba (sub s 8 2))&&(l3 x&&o)):=by rw [vk,hx]
 refine aq ?_;refine S B B (cd (qs:=[(0,(J 3)),(1,.int .i64 (AW)),(2,.int .i64 (zw))]) (bAr _ _ _) B B) ?_;refine Ac ?_;intro yt w G Eo oX;refine xZ ?_;intro w G B3;refine ab ?_;refine cw (λf ah=>∃ (l1 sh jS z0:Int) (bl:Bool),(fL s=h3 (gm (ba (s.take 4)) (ba (sub s 5 2)) (ba (sub s 8 2))&&bl))/\f 13=.bool (bl)/\f 2=ao b2 0/\f 9=J (h3 (gm (ba (s.take 4)) (ba (sub s 5 2)) (ba (sub s 8 2))))/\f 14=ao yt 0/\Cxr w0 ah [(yt,aa 78 [.int .i64 (l1),.int .i64 (sh),.int .i64 (jS),.int .i64 (z0)]),(b2,aa 78 [J 0,J 0,J 0,J 0])] []) ?_ ?_
 ·refine ae ?_;refine S B B (kO (s:=Kn) (u:=([]:List UInt8)) B B B) ?_;refine ab ?_;refine Z (λyT=>?_) (λyT=>?_)
  ·refine ae ?_;refine bG G (bDn Kn _ (by (try simp only [bC] at bTk);omega)) Tryz.func278 B B B B B B ?_;intro cTc w G cQ1 bSv;obtain ⟨aSx,cKg,bWd,rfl,aQm⟩:=bSv;refine an ?_;refine S B B (av (v:=.int .i64 (aSx)) B B) ?_;refine cK ?_;refine Z (λBl=>?_) (λBl=>?_)
   ·have he:fL s=3:=by rw [VH,O yT];rcases aQm with ⟨_,h⟩ | ⟨h,_⟩;rw [h];rw [h] at Bl;cases Bl
    refine AA ?_;refine Ld ?_;intro w G W8;refine ae ?_;refine RL ?_;exact QR
   obtain ⟨_,bR2⟩:=aQm.resolve_left (λh=>by rw [h.1] at Bl;cases Bl);have aOx:fL s=h3 (gm (ba (s.take 4)) (ba (sub s 5 2)) (ba (sub s 8 2))&&(l3 x&&bWd)):=by rw [VH,O yT,bR2]
   refine an ?_;refine bR (v:=(J 4)) G 0 B B B B B B B B bN ?_;intro w G B4;refine aq ?_;refine bR (v:=.int .i64 (aSx)) G 0 B B B B B B B B bN ?_;intro w G Ff;refine bz ?_;exact aB8
  have aOx:fL s=h3 (gm (ba (s.take 4)) (ba (sub s 5 2)) (ba (sub s 8 2))&&l3 x):=by rw [VH,U yT]
  refine ab ?_;exact aB8
 intro f w ai;obtain ⟨l1,sh,jS,z0,bl,wT,kn,aE,b6,mu,G⟩:=ai;refine cF ?_;refine Z (λIB=>?_) (λIB=>?_)
 ·have ic:fL s=2:=by
   rw [wT];refine My ?_;rcases IB with h | h
   . cases hv:gm (ba (s.take 4)) (ba (sub s 5 2)) (ba (sub s 8 2)) with
     | true=>rw [hv] at h;exact absurd h (by decide)
     | false=>rfl
   ·rw [show bl=false by simpa using h,Bool.and_false]
  refine AA ?_;refine Ld ?_;intro w G aRg;refine ae ?_;refine RL ?_;exact ⟨G.ext,_,_,_,_,2,B,ic.symm⟩
 have ic:fL s=0:=by
  rw [wT];refine Mz ?_
  cases hv:gm (ba (s.take 4)) (ba (sub s 5 2)) (ba (sub s 8 2)) with
  | true=>rw [show bl=true by simpa using IB.2];rfl
  | false=>rw [hv] at IB;exact absurd IB.1 (by decide)
 refine an ?_;refine Ld ?_;intro w G Xa;refine ae ?_;refine RL ?_;exact ⟨G.ext,_,_,_,_,0,B,ic.symm⟩
end Go.Proofs.YthiafbkolhnadaaGreatDoor
end
section
namespace Go.Dk
open Go Go.RowKit Go.Lib
def aYp (s:Sc):Prop:=-400<=s.exp/\s.exp<=400
def Dp:Nat->V->Prop
 | 0,_=>False
 | d+1,.mk s _ l f=>aYp s/\(∀ v∈l,Dp d v)/\∀ kv∈f,Dp d kv.2
def vs:Nat->V->Nat
 | 0,_=>0
 | d+1,.mk s b l f=>1+s.text.size+s.dig.size+b.length+(l.map (vs d)).sum+(f.map λkv=>kv.1.size+vs d kv.2).sum
end Go.Dk
namespace Go.Dk
open Go Go.RowKit Go.Lib
structure LF (t u:Nat) (rs:List Row) (l:List V) (f:List (ByteArray×V)) (css fss:List (List Value)) (a:Nat):Prop where
 hlc:css.length=l.length
 hlv:∀ (i:Nat) (v:V) (cs:List Value),l[i]?=some v->css[i]?=some cs->RR t u rs v cs
 hfc:fss.length=f.length
 hfv:∀ (i:Nat) (kv:ByteArray×V) (cs:List Value),f[i]?=some kv->fss[i]?=some cs->RR t u rs kv.2 cs
 hcnt:l.length+f.length<=a
structure GF (D:Nat) (l:List V) (f:List (ByteArray×V)) (a:Nat):Prop where
 hl:∀ v∈l,Dp D v
 hf:∀ kv∈f,Dp D kv.2
 hs:1+(l.map (vs D)).sum+(f.map λkv=>kv.1.size+vs D kv.2).sum<=2*a
theorem zG {α:Type}{l:List α}{x y:α}{i:Nat}(h:(l++[x])[i]?=some y):(i<l.length/\l[i]?=some y)\/(i=l.length/\y=x):=by
 rcases ma i l.length with h1 | h1
 . rw [l9 h1] at h
   exact .inl ⟨h1,h⟩
 . rw [pj h1] at h
   cases h2:i-l.length with
   | zero =>
    rw [h2] at h;simp only [AE,kS] at h;exact .inr ⟨I,h.symm⟩
   | succ j=>rw [h2] at h;simp at h
theorem LF.addL {t u:Nat}{rs rs2:List Row}{l:List V}{f:List (ByteArray×V)}{css fss:List (List Value)}{a:Nat}(h:LF t u rs l f css fss a){v:V}{cs:List Value}(hr:RR t u rs2 v cs):LF t u (rs2++rs) (l++[v]) f (css++[cs]) fss (a+1):=by
 refine ⟨by simp [h.hlc],λi x c hx hc=>?_,h.hfc,λi kv c hx hc=>(h.hfv i kv c hx hc).mono λr hr=>h0 _ hr,by have:=h.hcnt;simp only [aQ,cf,dC];omega⟩;rcases zG hx with ⟨h1,h2⟩ | ⟨h1,h2⟩
 . rw [l9 (by rw [h.hlc];exact h1)] at hc
   exact (h.hlv i x c h2 hc).mono λr hr=>h0 _ hr
 . rcases zG hc with ⟨Y,ar⟩ | ⟨Y,ar⟩
   ·rw [h.hlc] at Y;omega
   ·rw [h2,ar];exact hr.mono λr hr=>iM _ hr
theorem LF.addF {t u:Nat}{rs rs2:List Row}{l:List V}{f:List (ByteArray×V)}{css fss:List (List Value)}{a:Nat}(h:LF t u rs l f css fss a){k:ByteArray}{v:V}{cs:List Value}(hr:RR t u rs2 v cs):LF t u (rs2++rs) l (f++[(k,v)]) css (fss++[cs]) (a+1):=by
 refine ⟨h.hlc,λi x c hx hc=>(h.hlv i x c hx hc).mono λr hr=>h0 _ hr,by simp [h.hfc],λi kv c hx hc=>?_,by have:=h.hcnt;simp only [aQ,cf,dC];omega⟩;rcases zG hx with ⟨h1,h2⟩ | ⟨h1,h2⟩
 . rw [l9 (by rw [h.hfc];exact h1)] at hc
   exact (h.hfv i kv c h2 hc).mono λr hr=>h0 _ hr
 . rcases zG hc with ⟨Y,ar⟩ | ⟨Y,ar⟩
   ·rw [h.hfc] at Y;omega
   ·rw [h2,ar];exact hr.mono λr hr=>iM _ hr
end Go.Dk
end
section
namespace Go.Dk
open Go Go.RowKit Go.Lib
variable {w:World}{css:List (List Value)}{cs:List Value}
def aYf (w:World)(u:Value)(l:List UInt8):Prop:=∃ (a:Option Addr) (c b:Nat),u=.slice a l.length c/\(0<l.length->a=some ⟨b,0,none⟩)/\∀ i,i<l.length->RowAt w b (0+i*1) [bv (l.getD i 0)]
def Lw (w:World)(u:Value)(l:List V):Prop:=∃ (a:Option Addr) (c b:Nat),u=.slice a l.length c/\l.length<=c/\(0<l.length->a=some ⟨b,0,none⟩)/\∀ i x,l[i]?=some x->∃ cs,RowAt w b (0+i*13) cs/\Vw w x cs
def Fw (w:World)(u:Value)(f:List (ByteArray×V)):Prop:=∃ (a:Option Addr) (c b:Nat),u=.slice a f.length c/\f.length<=c/\(0<f.length->a=some ⟨b,0,none⟩)/\∀ i kv,f[i]?=some kv->∃ cs,RowAt w b (0+i*14) (.string kv.1::cs)/\Vw w kv.2 cs
theorem bMc{b i:Nat}(h:RowAt w b 0 css.flatten)(hl:∀ c∈css,c.length=13)(hi:css[i]?=some cs):RowAt w b (0+i*13) cs:=by
 intro j x hx;have:=h (i*13+j) x (Uo css i j cs x hl hi hx);rwa [show 0+i*13+j=0+(i*13+j) by omega]
theorem bLy{b i:Nat}{ks:List ByteArray}{k:ByteArray}(h:RowAt w b 0 (fcells ks css))(hl:∀ c∈css,c.length=13)(hk:ks[i]?=some k)(hi:css[i]?=some cs):RowAt w b (0+i*14) (.string k::cs):=by
 intro j x hx;have:=h (i*14+j) x (Uj ks css i k cs hl hk hi j x hx);rwa [show 0+i*14+j=0+(i*14+j) by omega]
theorem Vw.lensF{f:List (ByteArray×V)}{fss:List (List Value)}(hfc:fss.length=f.length)(hfv:∀ (i:Nat) (kv:ByteArray×V) (cs:List Value),f[i]?=some kv->fss[i]?=some cs->Vw w kv.2 cs):∀ c∈fss,c.length=13:=by
 intro c hc;obtain ⟨i,hi⟩:=jX hc;have b8:=(bT.1 hi).1;exact (hfv i f[i] c (bS I) hi).len
theorem SlR.form2{v:Value}{n:Nat}{xs:List Value}(h:SlR w v n xs):∃ a c b,v=.slice a n c/\n<=c/\(0<n->a=some ⟨b,0,none⟩/\RowAt w b 0 xs):=by
 obtain ⟨b,hs,hr⟩:=h;rcases hs with ⟨rfl,rfl⟩ | ⟨ad,c,h1,h2,Y⟩
 ·exact ⟨none,0,b,B,bV _,λh=>I⟩
 ·exact ⟨some ad,c,b,h1,h2,λap=>⟨aD some (Y ap).1,hr ap⟩⟩
theorem Lw.of{u:Value}{l:List V}(hl:SlR w u l.length css.flatten)(hlc:css.length=l.length)(hlv:∀ (i:Nat) (v:V) (cs:List Value),l[i]?=some v->css[i]?=some cs->Vw w v cs):Lw w u l:=by
 obtain ⟨a,c,b,rfl,hc,a6⟩:=hl.form2;refine ⟨a,c,b,B,hc,λap=>(a6 ap).1,λi x hx=>?_⟩;have b8:=(bT.1 hx).1;have hi:css[i]?=some (css[i]'(I)):=bS I;exact ⟨_,bMc (a6 I).2 (Vw.lens hlc hlv) hi,hlv i x _ hx hi⟩
theorem Fw.of{u:Value}{f:List (ByteArray×V)}{fss:List (List Value)}(hf:SlR w u f.length (fcells (f.map (·.1)) fss))(hfc:fss.length=f.length)(hfv:∀ (i:Nat) (kv:ByteArray×V) (cs:List Value),f[i]?=some kv->fss[i]?=some cs->Vw w kv.2 cs):Fw w u f:=by
 obtain ⟨a,c,b,rfl,hc,a6⟩:=hf.form2;refine ⟨a,c,b,B,hc,λap=>(a6 ap).1,λi x hx=>?_⟩;have b8:=(bT.1 hx).1;have hi:fss[i]?=some (fss[i]'(I)):=bS I;exact ⟨_,bLy (a6 I).2 (Vw.lensF hfc hfv) (by rw [eF,hx];rfl) hi,hfv i x _ hx hi⟩
theorem Vw.form{v:V}(h:Vw w v cs):∃ ol uo um,cs=vrow v.sc ol uo um/\aYf w ol v.bytes/\Lw w uo v.list/\Fw w um v.fields:=by
 cases h with
 | mk s bytes list fields bs ls fs css fss hb hl hlc hlv hf hfc hfv =>
  refine ⟨bs,ls,fs,B,?_,Lw.of hl hlc hlv,Fw.of hf hfc hfv⟩;obtain ⟨a,c,b,rfl,a6⟩:=hb.form;refine ⟨a,c,b,B,λap=>(a6 ap).1,λi hi=>?_⟩;have dK:i<bytes.length:=hi;exact (a6 I).2.one (x:=bv (bytes.getD i 0)) (by rw [eF,getD_some dK];rfl)
theorem Vw.one{v:V}(h:Vw w v cs):cs.all (·.oneCell')=true:=by
 obtain ⟨ol,uo,um,rfl,⟨_,_,_,rfl,_⟩,⟨_,_,_,rfl,_⟩,⟨_,_,_,rfl,_⟩⟩:=h.form;exact mM B B B
end Go.Dk
end
section
namespace Go.Dk
open Go Go.RowKit Go.Lib
section
variable {P:Program} {ops:Array Oper} {Q:Exit->Act->World->Prop} {o:Oper} {bh:List Oper} {n:Nat} {f:Nat->Value} {w0 w:World} {L:List (Nat×Obj)} {R:List Row} {ρ:Operand->Value}
theorem Yz {s x:Operand}{t e size bytes:Nat}{v:Value}{k m c d:Nat}{a:Option Addr}{xs jT:List Value}(G:Cxr w0 w L (⟨e,size,v,k,xs⟩::R))(nb:ot P e size bytes)(ht:P.underlying t=some (.slice e))
  (aH:o.guard=none) (hd:o.dst=some d) (au:o.op=.call { callee:=.builtin .append,args:=#[s,x],argTypes:=#[t,t]}) (hs:aW n f s=v) (hx:aW n f x=.slice a m c) (hc:a=none->c=0)
  (hr:0<m->∃ b off,a=some ⟨b,off,none⟩/\RowAt w b off jT) (hl:jT.length=m*size) (h1:jT.all (·.oneCell')=true) (hb:(k+m)*bytes<=140737488355328)
  (h:∀ hh w',Cxr w0 w' L (⟨e,size,hh,k+m,xs++jT⟩::R)->wpList P ops Q bh (aC n (eh f d hh)) w'):wpList P ops Q (o::bh) (aC n f) w:=by
 cases a with
 | none =>
  have hm:m=0:=by
   rcases tg m with h2 | h2
   ·exact h2
   ·obtain ⟨b,off,Y,_⟩:=hr h2;cases Y
  subst hm;obtain rfl:=hc rfl;have hn:jT=[]:=p8 (by simpa using hl);subst hn;refine cC7 G nb ht aH hd au hs hx (h v w (G.row_eq B (by simp)))
 | some ad =>
  refine aVr G nb ht aH hd au hs hx (λj u ax=>?_) hl h1 hb λhh w' jM _=>h hh w' jM
  rcases tg m with h2 | h2
  . subst h2
    have hn:jT=[]:=p8 (by simpa using hl);rw [hn] at ax;simp at ax
  . obtain ⟨b,off,Y,ar⟩:=hr h2
    cases Y;rw [q7];exact ar j u ax
end
theorem Cxr.rowF {w0 w:World}{L:List (Nat×Obj)}{R:List Row}{e k n c:Nat}{a:Option Addr}{xs:List Value}(h:Cxr w0 w L (⟨e,k,.slice a n c,n,xs⟩::R)):∃ b,n<=c/\(a=none->c=0)/\(0<n->a=some ⟨b,0,none⟩)/\(0<xs.length->RowAt w b 0 xs):=by
 obtain ⟨b,hs,hr⟩:=h.rowA;rcases hs with ⟨h1,h2⟩ | ⟨ad,a7,h1,h2,Y⟩
 . cases h2
   exact ⟨b,bV _,λ_=>rfl,λh=>I,hr⟩
 . cases h1
   exact ⟨b,h2,λh=>by (first | cases h),λap=>aD some (Y ap).1,hr⟩
theorem cFa {α:Type}{l:List α}{f:α->Nat}{i:Nat}{x:α}(h:l[i]?=some x):((l.take (i+1)).map f).sum=((l.take i).map f).sum+f x:=by
 have hi:=(bT.1 h).1;rw [p9 hi,(bT.1 h).2];simp
abbrev aYo:=(ByteArray×V)×List Value
def zE (p:aYo):List Value:=.string p.1.1::p.2
end Go.Dk
end
section
namespace Go.Dk
open Go Go.RowKit Go.Lib
section
variable {P:Program} {ops:Array Oper} {Q:Exit->Act->World->Prop} {o:Oper} {bh:List Oper} {n:Nat} {f:Nat->Value} {aA w0 w w':World} {L:List (Nat×Obj)} {R:List Row} {ρ:Operand->Value}
theorem cC3 {k : Nat} {x : Operand} {pR : Array Operand} {gd : Array TypeId} {fn : Func} {args cap : List Value} (hf : P.funcs[k]? = some fn) (hb : fn.body.isNone = false) (hn : (fn.name == "runtime.NumGoroutine") = false)
  (au:o.op=.call { callee:=.value x,args:=pR,argTypes:=gd }) (hx:aW n f x=.func (.func k) #[] cap.toArray) (hA:pR.toList.map (aW n f)=args):(execOp (aW n f) o).run P w=.ok (.enter k (args++cap).toArray) w:=by
 exact aAg
theorem cDe {d k : Nat} {x : Operand} {pR : Array Operand} {gd : Array TypeId} {fn : Func} {args cap : List Value} {T : Value -> World -> Prop} (G : Cxr w0 w L R) (hc : Fc P k (args ++ cap) w T) (hf : P.funcs[k]? = some fn) (hb : fn.body.isNone = false) (hn : (fn.name == "runtime.NumGoroutine") = false)
  (aH:o.guard=none) (hd:o.dst=some d) (au:o.op=.call { callee:=.value x,args:=pR,argTypes:=gd }) (hx:aW n f x=.func (.func k) #[] cap.toArray) (hA:pR.toList.map (aW n f)=args)
  (h:∀ v w',Cxr w0 w' L R->Below w.heap.size w w'->T v w'->wpList P ops Q bh (aC n (eh f d v)) w'):wpList P ops Q (o::bh) (aC n f) w :=
 cDc hc hf hb hn aH hd au hx hA λv w' ⟨hw,hr⟩=>h v w' (G.call hw) hw hr
theorem cDg {d j fv k:Nat}{gP c:Bool}{x:Operand}{pR:Array Operand}{gd:Array TypeId}{fn:Func}{args cap:List Value}{T:Value->World->Prop}(G:Cxr w0 w L R)(aH:o.guard=some (j,gP))(hd:o.dst=some d)(ax:(ops[j]?).bind (·.dst)=some fv)(hw:oE (aW n f (.tmp fv)) gP c)
  (hc : c = true -> Fc P k (args ++ cap) w T) (hf : P.funcs[k]? = some fn) (hb : fn.body.isNone = false) (hn : (fn.name == "runtime.NumGoroutine") = false)
  (au:o.op=.call { callee:=.value x,args:=pR,argTypes:=gd }) (hx:c=true->aW n f x=.func (.func k) #[] cap.toArray) (hA:c=true->pR.toList.map (aW n f)=args)
  (h:∀ v w',Cxr w0 w' L R->Below w.heap.size w w'->(c=true->T v w')->wpList P ops Q bh (aC n (eh f d (gv c v))) w'):wpList P ops Q (o::bh) (aC n f) w:=by
 have xq:=CO (o:=o) (ops:=ops) aH ax hw;refine wpList_step λeu ep=>?_
 rw [xq]
 cases c with
 | true =>
  simp only [if_true];unfold Oper.wp;rw [eS,cC3 hf hb hn au (hx B) (hA B)];exact aAz
 | false =>
  exact aBc
theorem Cxr.callOwn (h:Cxr aA w L R){b:Nat}{o:Obj}(hc:Cxr w w' [(b,o)] []):Cxr aA w' ((b,o)::L) R:=by
 have h1:=h.call hc.ext;have hb:w.heap.size<=b:=hc.lo (b,o) (b9 ..);refine ⟨h1.ext,?_,?_,?_,h1.rows,?_,h1.pw⟩
 . intro p hp
   rcases eX.1 hp with rfl | hp
   ·exact hc.own _ (b9 ..)
   ·exact h1.own p hp
 . intro p hp
   rcases eX.1 hp with rfl | hp
   ·exact nI h.ext.size hb
   ·exact h1.lo p hp
 . rw [jk,ym]
   refine ⟨λhm=>?_,h1.nd⟩;obtain ⟨p,hp,he⟩:=lm.1 hm;have:=h.lt p hp;have h2:p.1=b:=he;omega
 . intro r hr k hk hm
   rw [jk,eX] at hm;rcases hm with hm | hm
   . have:=((h.rows r hr).lt _ hk).2
     rw [hm] at this;have h2:w.heap.size<=b:=hb;exact absurd this (by show ¬ b<_;omega)
   ·exact h1.off r hr k hk hm
end
theorem bA8 (m:Int):∃ x:UInt8,Value.int .u8 (IntKind.u8.wrap m)=bv x:=by
 have ap:0<=IntKind.u8.wrap m/\IntKind.u8.wrap m<256:=by simp [IntKind.wrap,IntKind.signed,IntKind.bits];omega
 obtain ⟨ap,h1⟩:=ap;refine ⟨bM (IntKind.u8.wrap m).toNat,aD (Value.int .u8) ?_⟩;rw [show (bM (IntKind.u8.wrap m).toNat).toNat=(IntKind.u8.wrap m).toNat by rw [UInt8.toNat_ofNat'];omega];omega
end Go.Dk
end
section
namespace Go.Proofs.YthiafbkolhnadaaGreatDoor
open Go Go.Dk Go.RowKit Go.Lib
attribute [local irreducible] Go.wpList Go.Code.wp Go.bodyPost Go.wpStill Go.wpQuiet
variable {s:List UInt8}{y m:Nat}
theorem bE4 (s:List UInt8)(w0:World)(hs:s.length<=1073741824):Fc W 384 [M s,.int .u8 ((48:Nat):Int)] w0 (λv _=>v=(M (cO s))):=by
 refine aI Tryz.func384 B Tryz.ntmps384 B ?_;have G:=Ctx.start w0;refine az ?_;refine bu (λg f ah=>∃ (t:List UInt8),g=t.length/\(t.length<=s.length)/\(cO t=cO s)/\f 0=M t/\f 1=.int .u8 ((48:Nat):Int)/\f 4=M []/\Cxr w0 ah [] []) ((λ(t:List UInt8)=>t.length) s) ?_ ?_
 ·exact ⟨s,B,bV _,B,B,B,B,G⟩
 intro Ng f w ai;obtain ⟨t,NI,ht,he,aB,aK,aM,G⟩:=ai;refine bz ?_;refine aN B B B aO (λhc=>dm (s:=t) (i:=0) B ay B aF fO) ?_;refine an ?_;refine Z (λe8=>?_) (λe8=>?_)
 ·refine an ?_;refine S B B (ka (s:=t) (i:=1) B B B aF I) ?_;refine S B B (av (v:=(M (t.drop 1))) B B) ?_;refine ab ?_;exact ⟨_,_,jx,B,t.drop 1,B,jx,((cEm (λe=>by rw [e] at e8;simp at e8) I).trans he),B,aK,aM,G⟩
 refine an ?_;refine S B B (av (v:=(M t)) B B) ?_;refine ag ?_;refine be Tryz.results384 B ?_;exact ⟨G.ext,aD (λl=>(M l)) ((aWa (by rcases e8 with h | h;exact .inl (p8 I);exact .inr I)).symm.trans he)⟩
theorem bFb (s:List UInt8)(w0:World)(hs:s.length<=1073741824):Fc W 390 [M s,.int .u8 ((48:Nat):Int)] w0 (λv _=>v=(M (s.take (s.length-tz s)))):=by
 refine aI Tryz.func390 B Tryz.ntmps390 B ?_;have G:=Ctx.start w0;refine az ?_;refine bu (λg f ah=>∃ (k:Nat) (t:List UInt8),g=k/\(t=s.take k)/\(k<=s.length)/\(∀ j,k<=j->j<s.length->(s.getD j 0).toNat=48)/\f 0=M t/\f 1=.int .u8 ((48:Nat):Int)/\f 4=M []/\Cxr w0 ah [] []) ((λ(k:Nat)=>k) s.length) ?_ ?_
 ·exact ⟨s.length,s,B,(nG).symm,bV _,(λj h h2=>I),B,B,B,G⟩
 intro Ng f w ai;obtain ⟨k,t,NI,j5,hk,hz,aB,aK,aM,G⟩:=ai;have lE:t.length=k:=by rw [j5,dS];omega
 refine cF ?_;refine aN B B B aO (λhc=>sZ B ay B eJ eJ) ?_;refine Db ?_;refine an ?_;refine Z (λc8=>?_) (λc8=>?_)
 ·rw [show dw (((t.length:Nat):Int)-1)=k-1 by omega] at c8;have w7:(s.getD (k-1) 0).toNat=48:=by
   have:=c8.2;rw [j5,sn _ _ _ I] at this;omega
  refine az ?_;refine S B B (s0 (r:=((k-1:Nat):Int)) B B B I I I) ?_;refine S B B (xS (s:=t) (i:=k-1) B B B aF I) ?_;refine S B B (av (v:=(M (t.take (k-1)))) B B) ?_;refine ab ?_;exact ⟨_,_,I,B,k-1,t.take (k-1),B,(by rw [j5,List.take_take,yn I]),I,(λj h h2=>by by_cases e:j=k-1;(subst e;exact w7);exact hz j I h2),B,aK,aM,G⟩
 rw [show dw (((t.length:Nat):Int)-1)=k-1 by omega] at c8;refine an ?_;refine S B B (av (v:=(M t)) B B) ?_;refine ag ?_;refine be Tryz.results390 B ?_;exact ⟨G.ext,aD (λl=>(M l)) (j5.trans (cF0 hk hz (by rcases c8 with h | h;exact .inl I;exact (tg k).imp id λap=>by rw [j5,sn _ _ _ I] at h;omega)))⟩
theorem aJp (s:List UInt8)(w0:World)(hs:s.length<=1073741824):Fc W 346 [M s,M [48]] w0 (λv _=>v=(M (cO s))):=by
 refine aI Tryz.func346 B Tryz.ntmps346 B ?_;have G:=Ctx.start w0;refine bz ?_;refine Al ?_;refine ag ?_;refine aEf ?_;refine ag ?_;refine Z (λco=>?_) (λco=>?_)
 ·have aQg:s=[]:=by rcases co with h | h;exact h;exact absurd h (by decide)
  refine ae ?_;refine Lf ?_;refine ag ?_;refine be Tryz.results346 B ?_;exact aB9
 refine cK ?_;refine aEg ?_;refine ae ?_;refine cn B (λdG=>?_) (λdG=>?_)
 ·try simp only [dy] at dG
  refine an ?_;refine aEh ?_;refine bo G (bE4 s _ I) Tryz.func384 B B B B B B ?_;intro w G tX;refine RC ?_;refine ag ?_;refine be Tryz.results346 B ?_;exact gC
 exact Ge
theorem bEt (s:List UInt8)(w0:World)(hs:s.length<=1073741824):Fc W 359 [M s,M [48]] w0 (λv _=>v=(M (s.take (s.length-tz s)))):=by
 refine aI Tryz.func359 B Tryz.ntmps359 B ?_;have G:=Ctx.start w0;refine bz ?_;refine Al ?_;refine ag ?_;refine aEf ?_;refine ag ?_;refine Z (λco=>?_) (λco=>?_)
 ·have aQg:s=[]:=by rcases co with h | h;exact h;exact absurd h (by decide)
  refine ae ?_;refine Lf ?_;refine ag ?_;refine be Tryz.results359 B ?_;exact aB9
 refine cK ?_;refine aEg ?_;refine ae ?_;refine cn B (λdG=>?_) (λdG=>?_)
 ·try simp only [dy] at dG
  refine an ?_;refine aEh ?_;refine bo G (bFb s _ I) Tryz.func390 B B B B B B ?_;intro w G tX;refine aEi ?_;refine ag ?_;refine be Tryz.results359 B ?_;exact gC
 exact Ge
theorem To (s:List UInt8)(w0:World)(hs:s.length<=1073741824):Fc W 344 [M s] w0 (λv _=>v=(J (aT s))):=by
 refine aI Tryz.func344 B Tryz.ntmps344 B ?_;have G:=Ctx.start w0;refine cF ?_;refine bu (λg f ah=>∃ (i:Nat),g=s.length-i/\(i<=s.length)/\(∀ j,j<i->bf (s.getD j 0))/\f 3=J i/\f 0=M s/\f 2=J 0/\Cxr w0 ah [] []) ((λ(i:Nat)=>s.length-i) 0) ?_ ?_
 ·exact QO
 intro h8 f w ai;obtain ⟨i,ni,hi,hb,aR,aB,aE,G⟩:=ai;refine Dw ?_;refine aq ?_;refine Gy ?_;refine ae ?_;refine Z (λeH=>?_) (λeH=>?_)
 ·refine yj ?_;exact ⟨_,_,I,B,i+1,B,I,λj ax=>by by_cases e:j=i;(subst e;unfold bf;omega);exact hb j I,aJ,aB,aE,G⟩
 refine an ?_;refine mR ?_;refine ag ?_;refine be Tryz.results344 B ?_;have e:aT s=i:=ob bf s i hi hb (by
  rcases ma i s.length with h | h
  ·exact .inr (by unfold bf;omega)
  ·exact .inl I)
 exact aB0
theorem bEs (s:List UInt8)(w0:World)(hs:s.length<=1073741824)(hd:∀ c∈s,bf c):Fc W 358 [M s] w0 (λv _=>v=.bool true):=by
 refine aI Tryz.func358 B Tryz.ntmps358 B ?_;have G:=Ctx.start w0;refine i6 ?_;refine bu (λg f ah=>∃ (i:Nat),g=s.length-i/\(i<=s.length)/\f 6=J i/\f 0=M s/\f 5=J s.length/\Cxr w0 ah [] []) ((λ(i:Nat)=>s.length-i) 0) ?_ ?_
 ·exact QS
 intro h8 f w ai;obtain ⟨i,ni,hi,aL,aB,bF,G⟩:=ai;refine aq ?_;refine Z (λiB=>?_) (λiB=>?_)
 ·refine az ?_;refine mR ?_;refine aq ?_;refine uE ?_;refine an ?_;refine GI ?_;refine ae ?_;refine Z (λhB=>?_) (λhB=>?_)
  ·exact QI
  refine aq ?_;exact ⟨_,_,I,B,i+1,B,I,aJ,aB,bF,G⟩
 refine az ?_;refine be Tryz.results358 B ?_;exact gC
theorem bDw (s:List UInt8)(w0:World)(hs:s.length<=600)(hd:∀ c∈s,bf c)(ap:s=[]\/(s.getD 0 0).toNat≠48):Fc W 294 [M s] w0 (λv _=>v=.bool true):=by
 refine aI Tryz.func294 B Tryz.ntmps294 B ?_;have G:=Ctx.start w0;refine gp ?_;refine hg G B B B aO (λhc=>bEs s _ I hd) Tryz.func358 B B B (λhc=>(aX ay B)) ?_;intro w G jg;refine ae ?_;refine aN B B B aO (λhc=>ga (s:=s) (u:=([]:List UInt8)) B ay B) ?_;refine ag ?_;refine aN B B B a8 (λhc=>dm (s:=s) (i:=0) B ay B aF (by have h:s≠[]:=(by simp only [fS,kP,decide_eq_false_iff_not] at hc;exact hc.2);exact gF.2 h)) ?_;refine az ?_;refine be Tryz.results294 B ?_;refine pd ?_;simp only [fS,hW,kP,decide_eq_true_eq,decide_eq_false_iff_not,beq_iff_eq,bne_iff_ne,ne_eq];refine ⟨⟨I,trivial⟩,?_⟩;rcases ap with ap | ap
 ·exact .inl ap
 ·exact .inr I
theorem bE3 (s:List UInt8)(w0:World)(hs:s.length<=12)(hd:∀ c∈s,bf c)(ap:s=[]\/(s.getD 0 0).toNat≠48):Fc W 383 [M s] w0 (λv _=>v=.tuple #[J (ba s),J 0]):=by
 refine aI Tryz.func383 B Tryz.ntmps383 B ?_;have G:=Ctx.start w0;refine cK ?_;refine bo G (bDw s _ I hd ap) Tryz.func294 B B B B B B ?_;intro w G jg;refine ag ?_;refine cn B (λhD=>?_) (λhD=>?_)
 ·exact absurd hD (by decide)
 try simp only [dy] at hD
 refine kf ?_;refine bu (λg f ah=>∃ (i n:Nat),g=s.length-i/\(i<=s.length)/\(n=ba (s.take i))/\(n<10^i)/\f 12=J i/\f 4=J n/\f 0=M s/\f 11=J s.length/\Cxr w0 ah [] []) ((λ(i:Nat)=>s.length-i) 0) ?_ ?_
 ·exact aB7
 intro wR f w ai;obtain ⟨i,n,IM,hi,hn,aP,cV,aM,aB,cv,G⟩:=ai;refine aq ?_;refine Z (λe8=>?_) (λe8=>?_)
 ·have vc:=hd (s.getD i 0) (Nc I);unfold bf at vc;have xh:10^i<=10^12:=pn (by decide) I;have BL:10^12=1000000000000:=by decide
  refine az ?_;refine mR ?_;refine aq ?_;refine uE ?_;refine aEb ?_;refine aEc ?_;refine S B B (av (v:=(J (((s.getD i 0).toNat-48)))) B B) ?_;refine az ?_;refine S B B (s0 (r:=((9223372036854775807-((s.getD i 0).toNat-48):Nat):Int)) B B B I I I) ?_;refine S B B (CL (p:=9223372036854775807-((s.getD i 0).toNat-48)) (q:=10) B B B I (by decide)) ?_;refine ag ?_;refine Z (λiS=>?_) (λiS=>?_)
  ·exfalso;omega
  refine i6 ?_;exact ⟨_,_,I,B,i+1,n*10+((s.getD i 0).toNat-48),B,I,(by rw [HO I,<- hn]),(by rw [Nat.pow_succ];omega),aJ,aJ,aB,cv,G⟩
 refine an ?_;refine Aj ?_;refine ae ?_;refine dY Tryz.results383 B B ?_;exact aBb
theorem bEj (x:Int)(d:Bool)(u:List UInt8)(w0:World)(hs:u.length<=1073741824)(qz:-1073741824<=x)(qA:x<=1073741824)(hw:∀ c∈u,bf c):Fc W 345 [.int .i64 x,.bool d,M (cO u)] w0 (λv _=>v=.int .i64 (if d=true then x-((pw 12 1099511627776 u:Nat):Int) else x+((pw 12 1099511627776 u:Nat):Int))):=by
 refine aI Tryz.func345 B Tryz.ntmps345 B ?_;have G:=Ctx.start w0;have WM:=Ks u;have xh:=Yg (k:=12) (far:=1099511627776) hw;have BL:10^12=1000000000000:=by decide
 refine bz ?_;refine cw (λf ah=>f 7=J (pw 12 1099511627776 u)/\f 0=.int .i64 (x)/\f 1=.bool (d)/\f 6=J 0/\Cxr w0 ah [] []) ?_ ?_
 ·refine az ?_;refine Z (λe1=>?_) (λe1=>?_)
  ·refine ag ?_;refine bo G (bE3 (cO u) _ I (λc hc=>hw c (P2 hc)) (P1 u)) Tryz.func383 B B B B B B ?_;intro w G qx;refine ae ?_;refine S B B (av (v:=(J (ba (cO u)))) B B) ?_;refine ab ?_;have BR:pw 12 1099511627776 u=ba (cO u):=by unfold pw;rw [O I,MQ]
   exact ⟨_,B,aJ,B,B,B,G⟩
  refine ab ?_;have BR:pw 12 1099511627776 u=1099511627776:=by unfold pw;rw [U I]
  exact ⟨_,B,aJ,B,B,B,G⟩
 intro f w ai;obtain ⟨aS,aB,aK,aL,G⟩:=ai;refine aq ?_;refine Z (λc8=>?_) (λc8=>?_)
 ·refine aq ?_;refine S B B (av (v:=.int .i64 ((x)-((pw 12 1099511627776 u:Nat):Int))) B B) ?_;refine ag ?_;refine be Tryz.results345 B ?_;exact ⟨G.ext,aD (Value.int .i64) (U c8).symm⟩
 refine az ?_;refine S B B (av (v:=.int .i64 ((x)+((pw 12 1099511627776 u:Nat):Int))) B B) ?_;refine ag ?_;refine be Tryz.results345 B ?_;exact ⟨G.ext,aD (Value.int .i64) (O (by rw [c8];decide)).symm⟩
theorem bE5 (nq:Bool)(s:List UInt8)(x:Int)(w0:World)(hs:s.length<=2000000)(hz:cO s=s)(qz:-40000000000000<=x)(qA:x<=40000000000000):Fc W 388 [.bool nq,M s,.int .i64 x] w0 (λv _=>∃ (b:Bool) (d:List UInt8) (y:Int) (e:Nat),v=.tuple #[.agg #[.bool b,M d,.int .i64 y],J e]/\e=iG s x):=by
 refine aI Tryz.func388 B Tryz.ntmps388 B ?_;have G:=Ctx.start w0;have vt:=YR s;have b8:(s.take (s.length-tz s)).length=s.length-tz s:=by rw [dS];omega
 refine ag ?_;refine wj ?_;intro bq w G gX hF;refine az ?_;refine Al ?_;refine ab ?_;refine Z (λe1=>?_) (λe1=>?_)
 ·refine wt ?_;refine s9 ?_;intro w G jh;refine ae ?_;refine RM ?_;exact ⟨G.ext,_,[],_,0,B,by unfold iG;rw [U (hz.trans e1)]⟩
 refine az ?_;refine bo G (bEt s _ I) Tryz.func359 B B B B B B ?_;intro w G sC;refine S B B (oo (s:=s.take (s.length-tz s)) B B aF) ?_;refine S B B (s0 (r:=((tz s:Nat):Int)) B B B I I I) ?_;refine S B B (av (v:=(J (tz s))) B B) ?_;refine aG ?_;refine S B B (s0 (r:=((s.length-tz s:Nat):Int)) B B B I I I) ?_;refine S B B (xS (s:=s) (i:=s.length-tz s) B B B aF I) ?_;refine aEi ?_;refine gp ?_;refine aN B B B a8 (λhc=>sZ B B ay eJ eJ) ?_;refine an ?_;refine aN B B B a8 (λhc=>oo (s:=s.take (s.length-tz s)) B ay aF) ?_;refine ae ?_;refine Z (λjp=>?_) (λjp=>?_)
 ·refine wt ?_;refine s9 ?_;intro w G jt;refine ae ?_;refine RM ?_;exact ⟨G.ext,_,[],_,2,B,by unfold iG;rw [hz,O e1,U I]⟩
 refine bz ?_;refine S B B (cd (qs:=[(0,.bool (nq)),(1,(M (s.take (s.length-tz s)))),(2,.int .i64 ((x)+((tz s:Nat):Int)))]) (aIb _ _ _) B B) ?_;refine s9 ?_;intro w G iD;refine ae ?_;refine RM ?_;exact ⟨G.ext,_,_,_,0,B,by unfold iG;rw [hz,O e1,O I]⟩
theorem bYu (l:List UInt8)(x:Int):iG (cO l) x=iG l x:=by unfold iG;rw [aWb]
theorem bEk (nq:Bool)(s:List UInt8)(x:Int)(w0:World)(hs:s.length<=2000000)(hd:∀ c∈s,bf c)(qz:-40000000000000<=x)(qA:x<=40000000000000):Fc W 347 [.bool nq,M s,.int .i64 x] w0 (λv _=>∃ (b:Bool) (d:List UInt8) (y:Int) (e:Nat),v=.tuple #[.agg #[.bool b,M d,.int .i64 y],J e]/\e=iG s x):=by
 refine aI Tryz.func347 B Tryz.ntmps347 B ?_;have G:=Ctx.start w0;have k0:=Ks s;refine ag ?_;refine wj ?_;intro bq w G gX hF;refine cF ?_;refine bu (λg f ah=>∃ (i:Nat),g=s.length-i/\(i<=s.length)/\f 11=J i/\f 0=.bool (nq)/\f 1=M s/\f 2=.int .i64 (x)/\f 6=ao bq 0/\f 10=J s.length/\Cxr w0 ah [(bq,aa 76 [.bool (false),M [],J 0])] []) ((λ(i:Nat)=>s.length-i) 0) ?_ ?_
 ·exact ⟨0,B,bU _,aJ,B,B,B,B,B,G⟩
 intro h8 f w ai;obtain ⟨i,ni,hi,cv,aB,aK,aE,aL,cp,G⟩:=ai;refine aq ?_;refine Z (λco=>?_) (λco=>?_)
 ·refine az ?_;refine mR ?_;refine aq ?_;refine uE ?_;refine an ?_;refine GI ?_;refine ae ?_;refine Z (λjK=>?_) (λjK=>?_)
  ·exact QI
  refine aq ?_;exact ⟨_,_,I,B,i+1,B,I,aJ,aB,aK,aE,aL,cp,G⟩
 refine aq ?_;refine bo G (aJp s _ I) Tryz.func346 B B B B B B ?_;intro w G Ov;refine ab ?_;refine bG G (bE5 nq (cO s) (x) _ I (aWb s) I I) Tryz.func388 B B B B B B ?_;intro aUl w G Ow V5;obtain ⟨aZr,bHh,cHz,aK1,rfl,bPb⟩:=V5;refine ag ?_;refine bn G 0 B B B aL B B sT B B ?_;intro w G iD;refine S B B (av (v:=(J aK1)) B B) ?_;refine ag ?_;refine io Tryz.results347 aL B (G.at 0 B) Tryz.underlying76 B sT ?_;exact ⟨G.ext,aZr,bHh,cHz,aK1,B,bPb.trans (bYu s x)⟩
theorem bHq:∀ c∈qG s++gO (eT s),bf c:=by
 intro c hc;rcases iv.1 hc with h | h
 ·exact FO _ c h
 . unfold gO at h
   split at h
   ·exact FO _ c h
   ·cases h
theorem aKu (s:List UInt8):(qG s++gO (eT s)).length<=2*s.length:=by
 have h1:=MM s;have h2:(eT s).length<=(bI s).length:=by unfold eT;rw [bC];omega
 have Y:(gO (eT s)).length<=(eT s).length:=by
  unfold gO;split
  ·rw [dS,bC];omega
  ·exact bU _
 have ar:(qG s).length<=(bI s).length:=by unfold qG;rw [dS];omega
 rw [aQ];omega
theorem TH (s:List UInt8):(gO (eT s)).length<=s.length:=by
 have h1:=MM s;have h2:(eT s).length<=(bI s).length:=by unfold eT;rw [bC];omega
 have Y:(gO (eT s)).length<=(eT s).length:=by
  unfold gO;split
  ·rw [dS,bC];omega
  ·exact bU _
 omega
theorem aTc(hn:numb s):kt (eT s):=hn.2.2
theorem aTb(hn:numb s):numE (kM (eT s)):=by
 have h:=aTc hn;unfold kt at h;unfold kM;split
 ·rw [U cj] at h;exact h.2
 ·rw [O cj] at h;exact h
theorem aTf {q:List UInt8}(h:numE q)(aw:q≠[]):((q.getD 0 0).toNat=101\/(q.getD 0 0).toNat=69)/\hj (q.drop 1)≠[]/\aT (hj (q.drop 1))=(hj (q.drop 1)).length:=h.resolve_left aw
theorem aTg {q:List UInt8}(h:aT (hj (q.drop 1))=(hj (q.drop 1)).length):∀ c∈hj (q.drop 1),bf c:=by
 have:=FO (hj (q.drop 1));rwa [h,nG] at this
theorem bHt(hn:numb s)(aw:kM (eT s)≠[])(hs:s.length<=1000000)(k far:Nat)(hk:9<=k)(hf:1000000000<=far):iG (qG s++gO (eT s)) (if decide (((((kM (eT s)).drop 1).getD 0 0).toNat)=45)=true then -(((gO (eT s)).length:Nat):Int)-((pw k far (hj ((kM (eT s)).drop 1)):Nat):Int) else -(((gO (eT s)).length:Nat):Int)+((pw k far (hj ((kM (eT s)).drop 1)):Nat):Int))=oK s:=by
 have B6:=aTg (aTf (aTb hn) aw).2.2;have h1:=aKu s;have h2:=TH s;obtain ⟨Y,ar⟩:=aS7 (l:=qG s++gO (eT s)) (w:=hj ((kM (eT s)).drop 1)) (k:=k) (far:=far) (f:=(gO (eT s)).length) I I B6 hk hf;unfold oK Fz;rw [O aw];by_cases ho:(((kM (eT s)).drop 1).getD 0 0).toNat=45
 . rw [U (by simpa using ho),U ho,<- ar]
   exact aD (iG _) I
 . rw [O (by simpa using ho),O ho,<- Y]
   exact aD (iG _) I
theorem bHs {w:List UInt8}{b:Bool}(hw:∀ c∈w,bf c)(hs:s.length<=1000000):-30000000000000<=(if b=true then -(((gO (eT s)).length:Nat):Int)-((pw 12 1099511627776 w:Nat):Int) else -(((gO (eT s)).length:Nat):Int)+((pw 12 1099511627776 w:Nat):Int))/\(if b=true then -(((gO (eT s)).length:Nat):Int)-((pw 12 1099511627776 w:Nat):Int) else -(((gO (eT s)).length:Nat):Int)+((pw 12 1099511627776 w:Nat):Int))<=30000000000000:=by
 have h2:=TH s;have Y:=Yg (k:=12) (far:=1099511627776) hw;have BL:10^12=1000000000000:=by decide
 cases b <;> simp only [if_true,r0,if_false] <;> omega
theorem bDi (s:List UInt8)(w0:World)(hs:s.length<=1000000)(hn:numb s):Fc W 269 [M s] w0 (λv _=>∃ (b:Bool) (d:List UInt8) (y:Int) (e:Nat),v=.tuple #[.agg #[.bool b,M d,.int .i64 y],J e]/\e=oK s):=by
 refine aI Tryz.func269 B Tryz.ntmps269 B ?_;have G:=Ctx.start w0;have j1:=MM s;have Oc:(eT s).length<=s.length:=by unfold eT;rw [bC];omega
 have nl:(kM (eT s)).length<=s.length:=by
  unfold kM;split
  ·rw [bC];omega
  ·exact Oc
 have bO7:=bHq (s:=s);have kW:=aKu s;have oU:=TH s;refine ag ?_;refine wj ?_;intro b2 w G di e3;refine aq ?_;refine bo G (HE s 45 45 _ cR B (by decide)) AH B B B B B B ?_;intro w G xn;refine ag ?_;refine cw (λf ah=>∃ (kw:List UInt8),(kw=bI s)/\(kw.length<=s.length)/\f 0=M kw/\f 2=ao b2 0/\f 3=J 0/\f 4=.bool (decide ((s.getD 0 0).toNat=45))/\Cxr w0 ah [(b2,aa 76 [.bool (false),M [],J 0])] []) ?_ ?_
 ·refine an ?_;refine Z (λfW=>?_) (λfW=>?_)
  ·have oW:=nc (l:=s) (j:=0) I;refine ag ?_;refine Rw ?_;refine S B B (av (v:=(M (s.drop 1))) B B) ?_;refine ab ?_;exact ⟨_,B,s.drop 1,(U fW).symm,jx,B,B,B,B,G⟩
  refine ab ?_;exact ⟨_,B,s,(O fW).symm,bV _,B,B,B,B,G⟩
 intro f w ai;obtain ⟨kw,sy,cPb,aB,aE,aR,aM,G⟩:=ai;refine ae ?_;refine bo G (To kw _ Ka) Tryz.func344 B B B B B B ?_;intro w G sC;have cPk:=mI kw;refine S B B (av (v:=(J (aT kw))) B B) ?_;refine gp ?_;refine aN B B B aO (λhc=>dm (s:=kw) (i:=0) B ay B aF fO) ?_;refine an ?_;refine Z (λlV=>?_) (λlV=>?_)
 ·exfalso;have h1:=hn.1;have h2:=hn.2.1;rw [<- sy] at h1 h2;rcases lV with h | h
  ·exact h1 I
  ·exact h2 ⟨I,I⟩
 refine aq ?_;refine S B B (xS (s:=kw) (i:=aT kw) B B B aF I) ?_;refine S B B (av (v:=(M (kw.take (aT kw)))) B B) ?_;refine ab ?_;refine cw (λf ah=>∃ (fi AX:List UInt8),(fi=eT s)/\(AX=qG s)/\(fi.length<=s.length)/\(AX.length<=s.length)/\f 0=M fi/\f 6=M AX/\f 2=ao b2 0/\f 3=J 0/\f 4=.bool (decide ((s.getD 0 0).toNat=45))/\f 5=J (aT kw)/\Cxr w0 ah [(b2,aa 76 [.bool (false),M [],J 0])] []) ?_ ?_
 ·refine ae ?_;refine S B B (ka (s:=kw) (i:=aT kw) B B B aF I) ?_;refine S B B (av (v:=(M (kw.drop (aT kw)))) B B) ?_;refine ab ?_;exact ⟨_,B,kw.drop (aT kw),kw.take (aT kw),(by rw [sy];rfl),(by rw [sy];rfl),jx,vD,B,B,aE,aR,aM,B,G⟩
 intro f w ai;obtain ⟨fi,AX,lH,lD,cPc,cMg,aB,aL,aE,aR,aM,bF,G⟩:=ai;refine an ?_;refine cw (λf ah=>∃ (hV dg:List UInt8) (c7:Nat),(hV=kM (eT s))/\(dg=qG s++gO (eT s))/\(c7=(gO (eT s)).length)/\f 0=M hV/\f 6=M dg/\f 7=.int .i64 (-((c7:Nat):Int))/\f 2=ao b2 0/\f 4=.bool (decide ((s.getD 0 0).toNat=45))/\Cxr w0 ah [(b2,aa 76 [.bool (false),M [],J 0])] []) ?_ ?_
 ·refine ae ?_;refine bo G (HE fi 46 46 _ cR B (by decide)) AH B B B B B B ?_;intro w G aQz;refine ab ?_;refine Z (λh9=>?_) (λh9=>?_)
  ·have VP:kt fi:=by rw [lH];exact aTc hn
   unfold kt at VP;rw [U h9] at VP;have Jo:=mI (fi.drop 1);rw [bC] at Jo;have oW:1<=fi.length:=by have:=nc (l:=fi) (j:=0) I;omega
   refine ae ?_;refine S B B (ka (s:=fi) (i:=1) B B B aF I) ?_;refine bo G (To (fi.drop 1) _ Ka) Tryz.func344 B B B B B B ?_;intro w G Oz;have cPm:=mI (fi.drop 1);refine S B B (av (v:=(J (aT (fi.drop 1)))) B B) ?_;refine aG ?_;refine Z (λiA=>?_) (λiA=>?_)
   ·exfalso;exact VP.1 I
   refine aG ?_;refine S B B (pb (s:=fi) (i:=1) (j:=aT (fi.drop 1)+1) B B B B aF I I) ?_;refine S B B (iJ (a:=AX) (b:=sub fi 1 (aT (fi.drop 1)+1-1)) B B B (by have:=zI fi 1 (aT (fi.drop 1)+1-1);omega)) ?_;refine S B B (av (v:=(M (AX++(sub fi 1 (aT (fi.drop 1)+1-1))))) B B) ?_;refine an ?_;refine Lx ?_;refine S B B (av (v:=.int .i64 (-((aT (fi.drop 1):Nat):Int))) B B) ?_;refine aq ?_;refine S B B (ka (s:=fi) (i:=aT (fi.drop 1)+1) B B B aF I) ?_;refine S B B (av (v:=(M (fi.drop (aT (fi.drop 1)+1)))) B B) ?_;refine ab ?_;exact ⟨_,B,_,_,aT (fi.drop 1),(by rw [<- lH];unfold kM;rw [U h9,Nat.add_comm 1]),(by rw [lD,<- lH];unfold gO;rw [U h9];rfl),(by rw [<- lH];unfold gO;rw [U h9,dS,bC];omega),B,B,aJ,aE,aM,G⟩
  refine ab ?_;exact ⟨_,B,fi,AX,0,(by rw [<- lH];unfold kM;rw [O h9]),(by rw [lD,<- lH];unfold gO;rw [O h9,cH]),(by rw [<- lH];unfold gO;rw [O h9];rfl),aB,aL,aJ,aE,aM,G⟩
 intro f w ai;obtain ⟨hV,dg,c7,Jk,vb,yX,aB,aL,aS,aE,aM,G⟩:=ai;have bO6:∀ c∈dg,bf c:=by rw [vb];exact bO7
 have cMh:dg.length<=2*s.length:=by rw [vb];exact kW
 have cMq:c7<=s.length:=by rw [yX];exact oU
 have cPd:hV.length<=s.length:=by rw [Jk];exact nl
 refine cw (λf ah=>∃ (y:Int),(iG dg y=oK s)/\(-30000000000000<=y/\y<=30000000000000)/\f 7=.int .i64 (y)/\f 2=ao b2 0/\f 4=.bool (decide ((s.getD 0 0).toNat=45))/\f 6=M dg/\Cxr w0 ah [(b2,aa 76 [.bool (false),M [],J 0])] []) ?_ ?_
 ·refine ae ?_;refine S B B (kO (s:=hV) (u:=([]:List UInt8)) B B B) ?_;refine ab ?_;refine Z (λkH=>?_) (λkH=>?_)
  ·have Ew:=aTf (q:=hV) (by rw [Jk];exact aTb hn) kH;have nV:1<=hV.length:=gF.2 kH;have qm:(hV.drop 1).length=hV.length-1:=bC;refine an ?_;refine S B B (dm (s:=hV) (i:=0) B B B aF I) ?_;refine ae ?_;refine aN B B B aO (λhc=>dm (s:=hV) (i:=0) B ay B aF fO) ?_;refine ae ?_;refine Z (λyR=>?_) (λyR=>?_)
   ·exfalso;omega
   refine an ?_;refine S B B (ka (s:=hV) (i:=1) B B B aF I) ?_;refine S B B (av (v:=(M (hV.drop 1))) B B) ?_;refine an ?_;refine bo G (HE (hV.drop 1) 45 45 _ cR B (by decide)) AH B B B B B B ?_;intro w G WX;refine ag ?_;refine cw (λf ah=>∃ (qL:List UInt8),(qL=hj (hV.drop 1))/\(qL.length<=hV.length)/\f 0=M qL/\f 2=ao b2 0/\f 4=.bool (decide ((s.getD 0 0).toNat=45))/\f 6=M dg/\f 7=.int .i64 (-((c7:Nat):Int))/\f 8=.bool (decide (((hV.drop 1).getD 0 0).toNat=45))/\Cxr w0 ah [(b2,aa 76 [.bool (false),M [],J 0])] []) ?_ ?_
   ·refine aq ?_;refine hg G B B B a8 (λhc=>HE (hV.drop 1) 43 43 _ cR B (by decide)) AH B B B (λhc=>(aX ay (aX B B))) ?_;intro w G WZ;refine ag ?_;refine Z (λBr=>?_) (λBr=>?_)
    ·have UA:((hV.drop 1).getD 0 0).toNat=45\/((hV.drop 1).getD 0 0).toNat=43:=by first | exact Br | omega
     have tU:hj (hV.drop 1)=(hV.drop 1).drop 1:=U UA;have NN:1<=(hV.drop 1).length:=by have:=nc (l:=hV.drop 1) (j:=0) I;omega
     refine ag ?_;refine S B B (ka (s:=hV.drop 1) (i:=1) B B B aF I) ?_;refine S B B (av (v:=(M ((hV.drop 1).drop 1))) B B) ?_;refine ab ?_;exact ⟨_,B,_,tU.symm,jx,B,aE,aM,aL,aS,B,G⟩
    have UA:¬ (((hV.drop 1).getD 0 0).toNat=45\/((hV.drop 1).getD 0 0).toNat=43):=by first | exact Br | omega
    have tU:hj (hV.drop 1)=hV.drop 1:=O UA;refine ab ?_;exact ⟨_,B,_,tU.symm,I,B,aE,aM,aL,aS,B,G⟩
   intro f w ai;obtain ⟨qL,Wq,cPe,aB,aE,aM,aL,aS,bb,G⟩:=ai;refine an ?_;refine S B B (ga (s:=qL) (u:=([]:List UInt8)) B B B) ?_;refine ag ?_;refine hg G B B B a8 (λhc=>To qL _ Ka) Tryz.func344 B B B (λhc=>(aX ay B)) ?_;intro w G aRa;have cPn:=mI qL;refine aq ?_;refine Z (λaNo=>?_) (λaNo=>?_)
   ·exfalso;have hx2:=Ew.2.1;have hx3:=Ew.2.2;rw [<- Wq] at hx2 hx3;rcases aNo with h | h
    ·exact hx2 h
    ·omega
   have B6:∀ c∈qL,bf c:=by rw [Wq];exact aTg Ew.2.2
   refine aq ?_;refine bo G (aJp qL _ I) Tryz.func346 B B B B B B ?_;intro w G bVd;refine bG G (bEj (-((c7:Nat):Int)) (decide (((hV.drop 1).getD 0 0).toNat=45)) qL _ I I I B6) Tryz.func345 B B B B B B ?_;intro cB0 w G bVe bSs;have y5:=bHt hn (by rw [<- Jk];exact kH) hs 12 1099511627776 (by decide) (by decide);rw [<- vb,<- yX,<- Jk,<- Wq] at y5;have aOz:=bHs (s:=s) (w:=qL) (b:=decide (((hV.drop 1).getD 0 0).toNat=45)) B6 hs;rw [<- yX] at aOz;obtain ⟨aX5,rfl,bV6,aRn⟩:∃ y:Int,cB0=.int .i64 y/\iG dg y=oK s/\(-30000000000000<=y/\y<=30000000000000):=⟨_,bSs,y5,aOz⟩;refine S B B (av (v:=.int .i64 (aX5)) B B) ?_;refine ab ?_;exact ⟨_,B,aX5,bV6,aRn,aJ,aE,aM,aL,G⟩
  refine ab ?_;exact ⟨_,B,_,(by unfold oK Fz;rw [<- vb,<- yX,<- Jk,U kH,Int.zero_sub]),⟨I,I⟩,aS,aE,aM,aL,G⟩
 intro f w ai;obtain ⟨y,hy,aRn,aS,aE,aM,aL,G⟩:=ai;refine aq ?_;refine bG G (bEk (decide ((s.getD 0 0).toNat=45)) dg (y) _ I bO6 I I) Tryz.func347 B B B B B B ?_;intro cB1 w G aRb Wj;obtain ⟨wE,bHj,cH2,aK8,rfl,bPf⟩:=Wj;refine ag ?_;refine C5 ?_;intro w G aRf;refine S B B (av (v:=(J aK8)) B B) ?_;refine ag ?_;refine io Tryz.results269 aE B (G.at 0 B) Tryz.underlying76 B sT ?_;exact ⟨G.ext,wE,bHj,cH2,aK8,B,bPf.trans hy⟩
theorem aJm (c:UInt8)(b:Nat)(w0:World)(hr:RowAt w0 b 0 [M fU]):Fc W 340 [.int .u8 ((c.toNat:Nat):Int),ao b 0] w0 (λv _=>v=.int .i64 (zR c)):=by
 refine aI Tryz.func340 B Tryz.ntmps340 B ?_;have G:=Ctx.start w0;have Iv:fU.length=64:=B;refine aG ?_;refine S B B (br B B aF B ((hr.up G.ext).cell 0 B)) ?_;refine an ?_;refine bu (λg f ah=>∃ i:Nat,g+i=fU.length/\(∀ j,j<i->(fU.getD j 0).toNat≠c.toNat)/\f 0=.int .u8 ((c.toNat:Nat):Int)/\f 1=ao b 0/\f 6=.int .i64 fU.length/\f 7=.int .i64 i/\Ctx w0 ah []) (fU.length) ?_ ?_
 ·exact aCa
 intro h8 f w ai;obtain ⟨i,aH,hb,aB,aK,aL,aS,G⟩:=ai;refine aq ?_;refine Z (λfm=>?_) (λfm=>?_)
 ·refine cF ?_;refine S B B (br B aK aF B ((hr.up G.ext).cell 0 B)) ?_;refine ab ?_;refine x4 ?_;refine ae ?_;refine Z (λgK=>?_) (λgK=>?_)
  ·refine az ?_;refine be Tryz.results340 B ?_;rw [gD] at gK;exact aB4
  refine aq ?_;rw [gD] at gK;exact ⟨h8-1,_,I,B,i+1,I,(λj h=>by by_cases e:j=i;(subst e;omega);exact hb j I),aB,aK,aL,B,G⟩
 refine az ?_;refine be Tryz.results340 B ?_;exact aB5
theorem bDh (w0:World):Ret W 267 [M fU] w0 (λv w'=>∃ b:Nat,v=.func (.func 340) #[] #[ao b 0]/\Ctx w0 w' [(b,aa 9 [M fU])]):=by
 refine aI Tryz.func267 B Tryz.ntmps267 B ?_;have G:=Ctx.start w0;refine ag ?_;refine bE ?_;intro b1 w G er fX;refine an ?_;refine S B B (cGu B B) ?_;refine ae ?_;refine be Tryz.results267 B ?_;exact ⟨_,B,G⟩
theorem bCk (s:List UInt8)(w0:World)(hs:s.length<=1073741824):Fc W 188 [M s,.bool true] w0 (λv w'=>∃ (u:Value) (l:List UInt8) (e:Nat),v=.tuple #[u,J e]/\w'.ownsRow w0.heap.size 5 1 u l.length (l.map bv)/\(e=0↔pu s)/\(e=0->l.length=6*c4 s / 8)):=by
 refine aI Tryz.func188 B Tryz.ntmps188 B ?_;have G:=Ctx.start w0;refine aG ?_;have AV:=G;refine bW (bDh _) Tryz.func267 B B B B B B ?_;rintro cGc w ⟨b,rfl,bOt⟩;replace G:=AV.callOwn bOt;refine bz ?_;refine bu (λg f ah=>∃ i:Nat,g+i=s.length/\i<=s.length/\(∀ j,j<i->sH (s.getD j 0))/\f 0=M s/\f 1=.bool true/\f 6=.func (.func 340) #[] #[ao b 0]/\f 7=J i/\Ctx w0 ah [(b,aa 9 [M fU])]) (s.length) ?_ ?_
 ·exact ⟨0,I,I,(λj h=>I),B,B,B,B,G⟩
 intro gJ f w ai;obtain ⟨i,aH,hi,hb,aB,aK,aL,aS,G⟩:=ai;refine gp ?_;refine Db ?_;refine cDg (args:=[.int .u8 (((s.getD (dw (i:Int)) 0).toNat:Nat):Int)]) (cap:=[ao b 0]) G B B B aO (λhc=>aJm (s.getD (dw (i:Int)) 0) b _ (G.row 0 B)) Tryz.func340 B B B (λhc=>fV hc B) (λhc=>(aX l2 B)) ?_;intro Kj w G tX vp;refine aN B B B aO (λhc=>gQ B ((fV hc B).trans (vp hc)) B B) ?_;refine ag ?_;refine Z (λgL=>?_) (λgL=>?_)
 ·refine aG ?_;exact ⟨gJ-1,_,I,B,i+1,I,I,(λj h=>by by_cases e:j=i;(subst e;exact (Qa _).1 gL.2);exact hb j I),aB,aK,aL,B,G⟩
 have I8:c4 s=i:=aSy hi hb (by
  rcases gL with h | h
  ·exact .inl I
  ·exact .inr λh2=>absurd ((Qa _).2 h2) (by rw [gD] at h;omega))
 refine az ?_;refine S B B (s0 (r:=((s.length-i:Nat):Int)) B B B I I I) ?_;refine cK ?_;refine bu (λg f ah=>∃ j:Nat,g+j=s.length/\i<=j/\(∀ t,i<=t->t<j->(s.getD t 0).toNat=61)/\f 0=M s/\f 1=.bool true/\f 6=.func (.func 340) #[] #[ao b 0]/\f 7=J i/\f 8=J (s.length-i)/\f 9=J j/\Ctx w0 ah [(b,aa 9 [M fU])]) (s.length-i) ?_ ?_
 ·exact ⟨i,I,I,(λt h h2=>I),aB,aK,aL,aS,B,B,G⟩
 intro qi f w ai;obtain ⟨j,bPx,rA,aMu,aB,aK,aL,aS,bb,b6,G⟩:=ai;refine bz ?_;refine Z (λjp=>?_) (λjp=>?_)
 ·refine aG ?_;refine x4 ?_;refine az ?_;refine Z (λgq=>?_) (λgq=>?_)
  ·refine az ?_;refine GQ ?_;have bt:¬ pu s:=λh=>by
    have h2:=h.1 (s.getD j 0) (by rw [I8];exact bJj rA I);rcases gq with gq | gq
    ·rw [gD] at gq;omega
    ·exact absurd gq (by decide)
   exact QD
  refine az ?_;have Uz:=gq.1;rw [gD] at Uz;exact ⟨qi-1,_,I,B,j+1,I,I,(λt h h2=>by by_cases e:t=j;(subst e;omega);exact aMu t h I),aB,aK,aL,aS,bb,B,G⟩
 have Wc:=aZg (s:=s) (i:=i) (λt h1 h2=>aMu t h1 I);have yY:=aZv (s:=s) (by rw [I8];exact Wc);rw [I8] at yY;refine Mm ?_;refine bu (λg f ah=>∃ (k:Nat) (et:List UInt8) (vW:Value),g+k=i/\et.length=6*k / 8/\f 0=M s/\f 1=.bool true/\f 6=.func (.func 340) #[] #[ao b 0]/\f 7=J i/\f 8=J (s.length-i)/\f 10=vW/\f 11=J (mz s k)/\f 12=J (6*k%8)/\f 49=J i/\f 50=J k/\Cxr w0 ah [(b,aa 9 [M fU])] [⟨5,1,vW,et.length,et.map bv⟩]) (i) ?_ ?_
 ·exact ⟨0,[],_,I,B,aB,aK,aL,aS,bb,B,B,B,B,B,G.nilRow 5 1⟩
 intro Ej f w ai;obtain ⟨k,et,vW,bPy,cY,aB,aK,aL,aS,bb,cp,cv,cV,Og,aQa,G⟩:=ai;refine aq ?_;refine Z (λID=>?_) (λID=>?_)
 ·refine cF ?_;have By:=hb k I;have ie:=bXg s k;have VY:cQ .or .i64 (shl .i64 ((mz s k:Nat):Int) (dw 6)) ((fw (s.getD k 0):Nat):Int)=((mz s k*64+fw (s.getD k 0):Nat):Int):=bZl ie.2 By;refine ab ?_;refine Le ?_;refine ae ?_;refine x4 ?_;refine cDe (args:=[.int .u8 (((s.getD (dw (k:Int)) 0).toNat:Nat):Int)]) (cap:=[ao b 0]) G (aJm (s.getD (dw (k:Int)) 0) b _ (G.row 0 B)) Tryz.func340 B B B B B B B ?_;intro cBu w G aQ5 N0;rw [gD,Y3 By] at N0;subst N0;refine S B B ((Qc B B B).trans (by rw [VY])) ?_;refine kf ?_;refine Z (λsr=>?_) (λsr=>?_)
  ·refine ae ?_;refine S B B (s0 (r:=((6*k%8-2:Nat):Int)) B B B I I I) ?_;refine an ?_;obtain ⟨aXy,bVt⟩:=bA8 (shr .i64 ((mz s k*64+fw (s.getD k 0):Nat):Int) (dw ((6*k%8-2:Nat):Int)));refine ae ?_;refine Lk ?_;refine S B B ((show (execOp _ _).run W _=.ok (.value (bv aXy)) _ from (xR B B dq en).trans (by rw [bVt]))) ?_;refine qT ?_;intro aZx w G bN1 WZ;refine xY ?_;intro Y0 w G bP5;replace G:=G.drop 1;refine ae ?_;have bRg:shl .i64 1 (dw ((6*k%8-2:Nat):Int))=((2^(6*k%8-2):Nat):Int):=aV3 I;have aPs:2^(6*k%8-2)<=16/\1<=2^(6*k%8-2):=⟨show 2^(6*k%8-2)<=2^4 from pn (by decide) I,Nat.one_le_two_pow⟩;have bNo:cQ .and .i64 ((mz s k*64+fw (s.getD k 0):Nat):Int) (((2^(6*k%8-2):Nat):Int)-1)=((mz s (k+1):Nat):Int):=by
    rw [<- aV3 I,aZm ie.2 By I,aSh,show 6*(k+1)%8=6*k%8-2 by omega]
   refine ag ?_;refine S B B ((Y9 B B B I).trans (by rw [bRg])) ?_;refine S B B (s0 (r:=((2^(6*k%8-2):Nat):Int)-1) B B B I I I) ?_;refine S B B ((Y4 B B B).trans (by rw [bNo])) ?_;refine az ?_;refine ⟨Ej-1,_,I,B,k+1,et++[aXy],_,I,by simp only [aQ,cf,dC];omega,aB,aK,aL,aS,bb,B,B,aD (Value.int .i64) I,Og,B,G.row_eq (by simp) (by rw [kc];rfl)⟩
  refine aq ?_;have kk:6*k%8=0:=I;have y1:mz s k=0:=by have:=ie.1;rw [kk] at this;omega
  have bQ2:mz s (k+1)=fw (s.getD k 0):=by rw [aSh,show 6*(k+1)%8=6 by omega,yo By]
  exact ⟨Ej-1,_,I,B,k+1,et,_,I,I,aB,aK,aL,aS,bb,cp,aD (Value.int .i64) (by rw [bQ2,y1];omega),aD (Value.int .i64) I,Og,B,G⟩
 refine an ?_;refine S B B (v8 (p:=i) (q:=4) B B B (by decide)) ?_;refine kD ?_;refine Z (λtH=>?_) (λtH=>?_)
 ·refine aG ?_;refine GQ ?_;exact ⟨G.ext,_,et,0,B,G.rows _ (b9 ..),⟨λ_=>yY.2 (.inl ⟨I,I⟩),λ_=>rfl⟩,λ_=>I⟩
 refine cF ?_;refine aN B B B a8 (λhc=>sZ B B ay eJ eJ) ?_;refine cK ?_;refine Z (λyS=>?_) (λyS=>?_)
 ·refine az ?_;refine GQ ?_;have bt:¬ pu s:=λh=>by
   have h2:=yY.1 h;have IW:k=i:=I;rw [IW] at yS;omega
  exact QD
 refine kf ?_;refine aN B B B aO (λhc=>sZ B B ay eJ eJ) ?_;refine aq ?_;refine Z (λNt=>?_) (λNt=>?_)
 ·refine az ?_;refine GQ ?_;have bt:¬ pu s:=λh=>by
   have h2:=yY.1 h;have IW:k=i:=I;rw [IW] at yS Nt;omega
  exact QD
 refine bz ?_;refine GQ ?_;have IW:k=i:=I;have Vg:2<=i%4/\s.length=i+(4-i%4)/\mz s i=0:=by
  rw [IW] at yS Nt;obtain ⟨h1,h2⟩:=Nt;have Y:=h2.resolve_left (by decide);omega
 exact ⟨G.ext,_,et,0,B,G.rows _ (b9 ..),⟨λ_=>yY.2 (.inr Vg),λ_=>rfl⟩,λ_=>I⟩
theorem aL7:bY W 339 0 0:=b5 (tt:=9) Tryz.underlying339 rfl gA rfl
theorem bLc:bY W 339 1 1:=b5 (tt:=4) Tryz.underlying339 rfl xM rfl
theorem bLd:bY W 341 0 0:=b5 (tt:=3) wy rfl bN rfl
theorem bLe:bY W 341 1 1:=b5 (tt:=3) wy rfl bN rfl
theorem bLf:bY W 341 2 2:=b5 (tt:=3) wy rfl bN rfl
theorem bLg:bY W 341 3 3:=b5 (tt:=3) wy rfl bN rfl
theorem bLh:bY W 341 4 4:=b5 (tt:=3) wy rfl bN rfl
theorem bLi:bY W 341 5 5:=b5 (tt:=3) wy rfl bN rfl
theorem bLj:bY W 341 6 6:=b5 (tt:=3) wy rfl bN rfl
theorem bLk:bY W 341 7 7:=b5 (tt:=5) wy rfl mJ rfl
theorem bLl:bY W 341 8 8:=b5 (tt:=3) wy rfl bN rfl
theorem bLm:bY W 341 9 9:=b5 (tt:=3) wy rfl bN rfl
theorem cId:Zero W 341 [.int .i64 0,.int .i64 0,.int .i64 0,.int .i64 0,.int .i64 0,.int .i64 0,.int .i64 0,.int .u8 0,.int .i64 0,.int .i64 0]:=ji (v:=.agg #[.int .i64 0,.int .i64 0,.int .i64 0,.int .i64 0,.int .i64 0,.int .i64 0,.int .i64 0,.int .u8 0,.int .i64 0,.int .i64 0]) ac rfl
theorem cIg:Zero W 398 [.int .i64 0,.int .i64 0,.int .i64 0,.int .i64 0,.int .i64 0,.int .i64 0,.int .i64 0,.int .i64 0,.int .i64 0,.int .i64 0,.int .i64 0,.int .i64 0]:=ji (v:=.agg #[.int .i64 0,.int .i64 0,.int .i64 0,.int .i64 0,.int .i64 0,.int .i64 0,.int .i64 0,.int .i64 0,.int .i64 0,.int .i64 0,.int .i64 0,.int .i64 0]) ac rfl
theorem cEz:(W.info? 398).map (·.size)=some 12:=by kernel_rfl
theorem bAg (s:ByteArray)(w:World):(Instr.build 339 ([(0,.string s)]:List (Nat×Value)).toArray).run W w=.ok (.agg #[.string s,.bool false]) w:=by
 go_simp
 try rfl
theorem bAj (w:World):(Instr.build 398 ([(0,.int .i64 31),(1,.int .i64 28),(2,.int .i64 31),(3,.int .i64 30),(4,.int .i64 31),(5,.int .i64 30),(6,.int .i64 31),(7,.int .i64 31),(8,.int .i64 30),(9,.int .i64 31),(10,.int .i64 30),(11,.int .i64 31)]:List (Nat×Value)).toArray).run W w=.ok (.agg #[.int .i64 31,.int .i64 28,.int .i64 31,.int .i64 30,.int .i64 31,.int .i64 30,.int .i64 31,.int .i64 31,.int .i64 30,.int .i64 31,.int .i64 30,.int .i64 31]) w:=by
 go_simp
 try rfl
theorem bAt (k:Int)(w:World):(Instr.build 78 ([(0,.int .i64 k)]:List (Nat×Value)).toArray).run W w=.ok (.agg #[.int .i64 k,.int .i64 0,.int .i64 0,.int .i64 0]) w:=by
 go_simp
 try rfl
structure Fm where
 y:Nat
 mo:Nat
 d:Nat
 h:Nat
 mi:Nat
 sc:Nat
 ns:Nat
 sg:Nat
 oh:Nat
 om:Nat
structure FBd (x:Fm):Prop where
 y:x.y<=290000
 mo:x.mo<=2900
 d:x.d<=2900
 h:x.h<=2900
 mi:x.mi<=2900
 sc:x.sc<=2900
 ns:x.ns<=29000000000
 sg:x.sg<256
 oh:x.oh<=2900
 om:x.om<=2900
theorem FBd.zero:FBd ⟨0,0,0,0,0,0,0,0,0,0⟩:=⟨by decide,by decide,by decide,by decide,by decide,by decide,by decide,by decide,by decide,by decide⟩
theorem aJs (y:Nat)(w0:World):Fc W 380 [.int .i64 y] w0 (lP λb=>b=true↔1<=y/\y<=9999):=by
 refine aI Tryz.func380 B Tryz.ntmps380 B ?_;have G:=Ctx.start w0;refine oC ?_;refine be Tryz.results380 B ?_;refine ow ?_;simp only [fS,decide_eq_true_eq];omega
theorem bE1 (y:Nat)(w0:World):Fc W 381 [.int .i64 y] w0 (lP λb=>b=true↔(1<=y/\y<=9999)/\zq y=true):=by
 refine aI Tryz.func381 B Tryz.ntmps381 B ?_;have G:=Ctx.start w0;refine aG ?_;refine xJ G ((aJs y _)) Tryz.func380 B B B B B B ?_;intro qL w G gN Jf;refine ag ?_;refine aN B B B aO (λhc=>v8 (q:=4) B (fV hc B) B (by decide)) ?_;refine an ?_;refine aN B B B aO (λhc=>v8 (q:=100) B (fV hc B) B (by decide)) ?_;refine ae ?_;refine aN B B B a8 (λhc=>v8 (q:=400) B (fV hc B) B (by decide)) ?_;refine az ?_;refine be Tryz.results381 B ?_;refine ow ?_;unfold zq;simp only [fS,hW,decide_eq_true_eq,beq_iff_eq,bne_iff_ne,ne_eq,Jf];omega
theorem bX6(hy:1<=y/\y<=9999)(ap:1<=m)(h1:m<=12)(hl:¬ (m=2/\zq y=true)):([.int .i64 31,.int .i64 28,.int .i64 31,.int .i64 30,.int .i64 31,.int .i64 30,.int .i64 31,.int .i64 31,.int .i64 30,.int .i64 31,.int .i64 30,.int .i64 31]:List Value)[m-1]?=some (J (o2 y m)):=by
 have h:m=1\/m=2\/m=3\/m=4\/m=5\/m=6\/m=7\/m=8\/m=9\/m=10\/m=11\/m=12:=I;have ju:¬ (y<1\/9999<y):=I;rcases h with rfl | rfl | rfl | rfl | rfl | rfl | rfl | rfl | rfl | rfl | rfl | rfl
 all_goals unfold o2;rw [O ju]
 all_goals first | rfl | (rw [O (by decide),O (by decide),U rfl,O (λh=>hl ⟨rfl,h⟩)];rfl)
theorem bX5(hy:1<=y/\y<=9999)(hm:m=2)(hl:zq y=true):o2 y m=29:=by
 subst hm;unfold o2;rw [O I,O (by decide),O (by decide),U B,U hl]
theorem aSq(h:¬ (1<=y/\y<=9999)\/m<1\/12<m):o2 y m=0:=by
 unfold o2;split
 ·rfl
 ·rw [O I,O I,O I]
theorem aJl (y m:Nat)(w0:World):Fc W 338 [.int .i64 y,.int .i64 m] w0 (λv _=>v=(J (o2 y m))):=by
 refine aI Tryz.func338 B Tryz.ntmps338 B ?_;have G:=Ctx.start w0;refine bz ?_;refine xJ G ((aJs y _)) Tryz.func380 B B B B B B ?_;intro Kk w G iW zb;refine cF ?_;refine Z (λc8=>?_) (λc8=>?_)
 ·refine aq ?_;refine be Tryz.results338 B ?_;exact ⟨G.ext,aD (λn:Nat=>Value.int .i64 (n:Int)) (aSq (by rcases c8 with (h | h) | h;exact .inl (λh2=>by rw [zb.2 h2] at h;cases h);exact .inr (.inl I);exact .inr (.inr I))).symm⟩
 have hy:=zb.1 c8.1.1;refine bz ?_;refine Cy G B B B aO (λhc=>(bE1 y _)) Tryz.func381 B B B (λhc=>(aX ay B)) ?_;intro Yi w G WR za;refine ag ?_;refine Z (λjJ=>?_) (λjJ=>?_)
 ·have bQ8:=(za (by simp;omega)).1 jJ.2;refine aq ?_;refine be Tryz.results338 B ?_;exact ⟨G.ext,aD (λn:Nat=>Value.int .i64 (n:Int)) (bX5 hy I bQ8.2).symm⟩
 have aO0:=bX6 (y:=y) (m:=m) hy I I (λh=>by
  rcases jJ with h2 | h2
  ·exact h2 I
  . have Y:=za (by simp;omega)
    have:=Y.2 ⟨hy,h.2⟩;rw [h2] at this;cases this)
 refine ae ?_;refine S B B (cd (qs:=[(0,.int .i64 31),(1,.int .i64 28),(2,.int .i64 31),(3,.int .i64 30),(4,.int .i64 31),(5,.int .i64 30),(6,.int .i64 31),(7,.int .i64 31),(8,.int .i64 30),(9,.int .i64 31),(10,.int .i64 30),(11,.int .i64 31)]) bAj B B) ?_;refine kN G cIg B B B ?_;intro bH w G fl fg;refine bn G 0 B B B B B B cEz B B ?_;intro w G rK;refine aq ?_;refine S B B (aXe Tryz.underlying398 bN B B B I I) ?_;refine S B B (br B B dq B (G.cell 0 B (by rw [show 0+dw ((m:Int)-1)*1=m-1 by omega];exact aO0))) ?_;refine ae ?_;refine be Tryz.results338 B ?_;exact gC
theorem bEf (y:Nat)(w0:World)(ap:1<=y)(h1:y<=9999):Fc W 339 [.int .i64 y] w0 (λv _=>∃ n:Nat,v=.int .i64 n/\n<=4000000):=by
 refine aI Tryz.func339 B Tryz.ntmps339 B ?_;have G:=Ctx.start w0;refine aG ?_;refine S B B (s0 (r:=((y-1:Nat):Int)) B B B I I I) ?_;refine aG ?_;refine S B B (CL (p:=y-1) (q:=4) B B B I (by decide)) ?_;refine ag ?_;refine S B B (CL (p:=y-1) (q:=100) B B B I (by decide)) ?_;refine ag ?_;refine S B B (CL (p:=y-1) (q:=400) B B B I (by decide)) ?_;refine an ?_;refine be Tryz.results339 B ?_;exact ⟨G.ext,365*(y-1)+(y-1) / 4-(y-1) / 100+(y-1) / 400,aD (Value.int .i64) I,I⟩
theorem bDg (y mo d:Nat)(w0:World)(hd:d<=1000000)(hm:mo<=1000000):Fc W 266 [.int .i64 y,.int .i64 mo,.int .i64 d] w0 (λv _=>∃ n:Int,v=.tuple #[.int .i64 n,J (h3 (gm y mo d))]):=by
 refine aI Tryz.func266 B Tryz.ntmps266 B ?_;have G:=Ctx.start w0;refine kD ?_;refine FQ G B B B a8 (λhc=>aJl y mo _) Tryz.func338 B B B (λhc=>(aX l2 (aX l2 B))) ?_;intro Ki w G sD rG;refine aD9 ?_;refine ag ?_;refine Z (λhB=>?_) (λhB=>?_)
 ·have hv:h3 (gm y mo d)=2:=My (by unfold gm;rw [decide_eq_false_iff_not];omega);refine az ?_;refine dY Tryz.results266 B B ?_;exact Zv
 have hv:h3 (gm y mo d)=0:=Mz (by unfold gm;rw [decide_eq_true_eq];omega);obtain ⟨aRm,Xk⟩:1<=y/\y<=9999:=by
  refine nA λh=>?_
  have:=aSq (m:=mo) (.inl h);omega
 refine an ?_;refine bG G (bEf y _ aRm Xk) Tryz.func339 B B B B B B ?_;intro aUi w G aQx Jb;obtain ⟨ns,rfl,rF⟩:=Jb;refine gp ?_;refine bu (λg f ah=>∃ m n:Nat,g+m=mo+1/\n<=5000000+31*m/\f 0=.int .i64 y/\f 1=.int .i64 mo/\f 8=.int .i64 n/\f 9=.int .i64 m/\Ctx w0 ah []) (mo) ?_ ?_
 ·exact ⟨1,ns+d-1,I,I,B,B,aD (Value.int .i64) I,B,G⟩
 intro wR f w ai;obtain ⟨m,n,aH,hn,aB,aK,bb,b6,G⟩:=ai;refine aG ?_;refine Z (λlV=>?_) (λlV=>?_)
 ·refine aG ?_;refine bG G (aJl y m _) Tryz.func338 B B B B B B ?_;intro cBm w G Ox V6;subst V6;have VI:=O8 y m;refine bz ?_;exact ⟨wR-1,_,I,B,m+1,n+o2 y m,I,I,aB,aK,B,B,G⟩
 refine bz ?_;refine dY Tryz.results266 B B ?_;exact aB6
theorem DX (aA w0:World)(b:Nat)(d:Bool)(s:List UInt8)(L:List (Nat×Obj))(R:List Row)(cM:Cxr aA w0 ((b,aa 339 [M s,.bool d])::L) R)(hs:s.length<=1073741824)(k:Nat)(hk:k<=9):Ret W 378 [ao b 0,.int .i64 k] w0 (λv w'=>∃ n:Nat,v=.int .i64 n/\n<10^k/\∃ (s':List UInt8) (iN:Bool),Cxr aA w' ((b,aa 339 [M s',.bool iN])::L) R/\s'.length<=s.length/\St2 d iN (cE k s) (n,s')):=by
 refine aI Tryz.func378 B Tryz.ntmps378 B ?_;have G:=cM;refine cF ?_;refine p3 ?_;refine an ?_;refine Z (λe8=>?_) (λe8=>?_)
 ·refine aq ?_;refine K9 ?_;intro w G jh;refine az ?_;refine be Tryz.results378 B ?_;exact ⟨0,B,Nat.pow_pos (by decide),s,true,G,I,PZ (aTd (.inl I))⟩
 have rD:k<=s.length:=I;refine i6 ?_;refine bu (λg f ah=>∃ i n:Nat,g+i=k/\n=ba (s.take i)/\n<10^i/\(∀ j,j<i->bf (s.getD j 0))/\f 0=ao b 0/\f 1=.int .i64 k/\f 17=.int .i64 k/\f 18=.int .i64 i/\f 5=.int .i64 n/\Cxr aA ah ((b,aa 339 [M s,.bool d])::L) R) (k) ?_ ?_
 ·exact ⟨0,0,I,B,by decide,(λj h=>I),B,B,B,B,B,G⟩
 intro Nh f w ai;obtain ⟨i,n,aH,hn,aP,hb,aB,aK,sA,sB,bF,G⟩:=ai;have xh:10^i<=10^9:=pn (by decide) I;have Jg:10^9=1000000000:=by decide
 refine aq ?_;refine Z (λeH=>?_) (λeH=>?_)
 ·refine kD ?_;refine p3 ?_;refine ab ?_;refine x4 ?_;refine ae ?_;refine RN ?_;refine ab ?_;refine aN B B B a8 (λhc=>br B ay aF B ((G.row 0 B).cell 0 B)) ?_;refine ab ?_;refine aN B B B a8 (λhc=>vY B ay ay aF eJ eJ) ?_;refine ae ?_;refine Z (λpF=>?_) (λpF=>?_)
  ·refine aq ?_;refine K9 ?_;intro w G oY;refine az ?_;refine be Tryz.results378 B ?_;rw [gD] at *;exact ⟨0,B,Nat.pow_pos (by decide),s,true,G,I,PZ (aTd (.inr ⟨i,I,I,by unfold bf;omega⟩))⟩
  refine aG ?_;refine p3 ?_;refine ab ?_;refine x4 ?_;refine S B B (zV (p:=(s.getD (dw ((i:Nat):Int)) 0).toNat) (q:=48) B B B ⟨I,I⟩) ?_;refine S B B (v7 (m:=(((s.getD (dw ((i:Nat):Int)) 0).toNat-48:Nat):Int)) B B en dq (Int.natCast_nonneg _) I) ?_;refine aG ?_;rw [gD] at *;refine ⟨Nh-1,_,I,B,i+1,ba (s.take (i+1)),I,B,by rw [HO I,<- hn,Nat.pow_succ];omega,(λj h=>by by_cases e:j=i;(subst e;unfold bf;omega);exact hb j I),aB,aK,sA,B,aD (Value.int .i64) (by rw [HO I,<- hn];omega),G⟩
 refine aG ?_;refine p3 ?_;refine ab ?_;refine Ly ?_;refine ag ?_;refine bR (v:=(M (s.drop k))) G 0 B B B B B (by rfl) B B gA ?_;intro w G np;refine aG ?_;refine be Tryz.results378 B ?_;have w5:k=i:=I;subst w5;exact ⟨n,B,aP,s.drop k,d,G,by rw [bC];omega,YH ((bYx rD hb).trans (by rw [hn]))⟩
theorem AS (aA w0:World)(b:Nat)(d:Bool)(s:List UInt8)(L:List (Nat×Obj))(R:List Row)(cM:Cxr aA w0 ((b,aa 339 [M s,.bool d])::L) R)(hs:s.length<=1073741824)(a:List UInt8)(a6:a.length<=1000):Ret W 336 [ao b 0,M a] w0 (λv w'=>∃ c:UInt8,v=.int .u8 ((c.toNat:Nat):Int)/\∃ (s':List UInt8) (iN:Bool),Cxr aA w' ((b,aa 339 [M s',.bool iN])::L) R/\s'.length<=s.length/\St2 d iN (dz a s) (c,s')):=by
 refine aI AG B Tryz.ntmps336 B ?_;have G:=cM;refine cF ?_;refine p3 ?_;refine S B B (kO (u:=[]) B B B) ?_;refine ab ?_;refine Z (λe1=>?_) (λe1=>?_)
 ·have bt:0<s.length:=gF.2 e1;refine aG ?_;refine bu (λg f ah=>∃ i:Nat,g+i=a.length/\(∀ j,j<i->(s.getD 0 0).toNat≠(a.getD j 0).toNat)/\f 0=ao b 0/\f 1=M a/\f 12=.int .i64 a.length/\f 13=.int .i64 i/\Cxr aA ah ((b,aa 339 [M s,.bool d])::L) R) (a.length) ?_ ?_
  ·exact aCa
  intro gJ f w ai;obtain ⟨i,aH,hb,aB,aK,cV,kn,G⟩:=ai;refine aq ?_;refine Z (λgK=>?_) (λgK=>?_)
  ·refine cK ?_;refine GN ?_;refine fA B B (λw G cA=>cU B aB) ?_;refine fA B B (λw G cA=>uq B B) ?_;refine fA B B (λw G cA=>bO aL7 B B) ?_;refine fA B B (λw G cA=>br B B aF B ((G.row 0 B).cell 0 B)) ?_;refine aEj ?_;refine fA B B (λw G cA=>cU B aK) ?_;refine GO ?_;refine aEj ?_;refine fA B B (λw G cA=>gQ B B B B) ?_;refine Kl ?_;rintro w ⟨G,cRe⟩;refine Z (λiS=>?_) (λiS=>?_)
   ·refine az ?_;refine p3 ?_;refine Ly ?_;refine ag ?_;refine bR (v:=(M (s.drop (dw 1)))) G 0 B B B B B (by rfl) B B gA ?_;intro w G jt;refine aq ?_;refine x4 ?_;refine ae ?_;refine be Tryz.results336 B ?_;have bMv:(((s.getD 0 0).toNat:Nat):Int)=(((a.getD i 0).toNat:Nat):Int):=iS;exact ⟨a.getD i 0,B,s.drop (dw 1),d,G,by rw [bC];omega,YH (bZe e1 I I)⟩
   refine aq ?_;have bMv:¬ (((s.getD 0 0).toNat:Nat):Int)=(((a.getD i 0).toNat:Nat):Int):=iS;exact ⟨gJ-1,_,I,B,i+1,I,(λj h=>by by_cases e:j=i;(subst e;omega);exact hb j I),aB,aK,cV,B,G⟩
  exact aAt
 exact aAt
theorem bE0 (aA w0:World)(b:Nat)(d:Bool)(s:List UInt8)(L:List (Nat×Obj))(R:List Row)(cM:Cxr aA w0 ((b,aa 339 [M s,.bool d])::L) R)(hs:s.length<=1073741824):Ret W 379 [ao b 0] w0 (λv w'=>∃ n:Nat,v=.int .i64 n/\n<=29000000000/\∃ (s':List UInt8) (iN:Bool),Cxr aA w' ((b,aa 339 [M s',.bool iN])::L) R/\s'.length<=s.length/\St2 d iN (FJ s) s'):=by
 refine aI Tryz.func379 B Tryz.ntmps379 B ?_;have G:=cM;refine gp ?_;refine bu (λg f ah=>∃ i n:Nat,g+i=s.length/\i<=s.length/\(∀ j,j<i->bf (s.getD j 0))/\(n+29<=29*10^i/\i<=9\/n+29<=29*10^9/\9<=i)/\f 0=ao b 0/\f 3=.int .i64 n/\f 4=.int .i64 i/\Cxr aA ah ((b,aa 339 [M s,.bool d])::L) R) (s.length) ?_ ?_
 ·exact ⟨0,0,I,I,(λj h=>I),.inl ⟨by simp,I⟩,B,B,B,G⟩
 intro h8 f w ai;obtain ⟨i,n,aH,hS,hb,hn,aB,aR,aM,G⟩:=ai;have xh:i<=9->10^i<=10^9:=λh=>pn (by decide) h
 have Jg:10^9=1000000000:=by decide
 have cRi:=Zl (((s.getD (dw (i:Int)) 0).toNat:Nat)-48);have BI:n<=29000000000:=by rcases hn with ⟨h,h2⟩ | ⟨h,h2⟩ <;> (try have:=xh h2) <;> omega
 refine aG ?_;refine p3 ?_;refine an ?_;refine GR ?_;refine ab ?_;refine Lz ?_;refine ab ?_;refine Db ?_;refine an ?_;refine GR ?_;refine ab ?_;refine Lz ?_;refine ab ?_;refine Db ?_;refine ae ?_;refine Z (λgY=>?_) (λgY=>?_)
 ·refine ag ?_;refine cw (λf ah=>∃ n:Nat,(n+29<=29*10^(i+1)/\i<9\/n+29<=29*10^9/\9<=i)/\f 0=ao b 0/\f 3=.int .i64 n/\f 4=.int .i64 i/\Cxr aA ah ((b,aa 339 [M s,.bool d])::L) R) ?_ ?_
  ·refine aq ?_;refine Z (λfJ=>?_) (λfJ=>?_)
   ·refine az ?_;refine p3 ?_;refine ab ?_;refine x4 ?_;refine S B B (Zb B B B) ?_;refine S B B (v7 B B en dq (Zl _).1 (Zl _).2) ?_;refine ae ?_;exact aAf
   refine ab ?_;exact aAf
  intro f w ai;obtain ⟨n2,nk,aB,aR,aM,G⟩:=ai;refine aq ?_;rw [gD] at gY;exact ⟨h8-1,_,I,rfl,i+1,n2,I,I,(λj h=>by by_cases e:j=i;(subst e;unfold bf;omega);exact hb j I),by rcases nk with ⟨h,h2⟩ | ⟨h,h2⟩ <;> omega,aB,aR,rfl,G⟩
 have EW:aT s=i:=ob bf s i hS hb (by
  rcases ma i s.length with h | h
  . refine .inr ?_
    rw [gD] at gY;unfold bf;omega
  ·exact .inl I)
 refine gp ?_;refine Z (λwX=>?_) (λwX=>?_)
 ·refine aq ?_;refine K9 ?_;intro w G iD;refine az ?_;refine be Tryz.results379 B ?_;exact ⟨0,B,I,s,true,G,I,PZ (by unfold FJ;rw [O];omega)⟩
 refine aG ?_;refine p3 ?_;refine ab ?_;refine Ly ?_;refine ag ?_;refine bR (v:=(M (s.drop (dw (i:Int))))) G 0 B B B B B (by rfl) B B gA ?_;intro w G oY;refine ae ?_;refine bu (λg f ah=>∃ j m:Nat,g+j=9/\m+29<=29*10^j/\f 3=.int .i64 m/\f 4=.int .i64 j/\Cxr aA ah ((b,aa 339 [M (s.drop (dw (i:Int))),.bool d])::L) R) (9-i) ?_ ?_
 ·have bRl:n+29<=29*10^i:=by
   rcases hn with ⟨h,h2⟩ | ⟨h,h2⟩
   ·exact h
   ·rw [show i=9 by omega];exact h
  exact ⟨i,n,I,bRl,aR,aM,G⟩
 intro Ut f w ai;obtain ⟨j,m,bPx,hm,aR,aM,G⟩:=ai;have cO8:10^j<=10^9:=pn (by decide) I;have cO4:10^9=1000000000:=by decide
 refine az ?_;refine Z (λsr=>?_) (λsr=>?_)
 ·refine kf ?_;exact ⟨Ut-1,_,I,B,j+1,m*10,I,by rw [Nat.pow_succ];omega,B,B,G⟩
 refine aG ?_;refine be Tryz.results379 B ?_;exact ⟨m,B,I,s.drop (dw (i:Int)),d,G,by rw [bC];omega,YH (by unfold FJ;rw [U I,EW];rfl)⟩
theorem bEd (aA w0:World)(b c:Nat)(d:Bool)(s:List UInt8)(x:Fm)(L:List (Nat×Obj))(R:List Row)(cM:Cxr aA w0 ((b,aa 339 [M s,.bool d])::(c,aa 341 [.int .i64 (x.y:Nat),.int .i64 (x.mo:Nat),.int .i64 (x.d:Nat),.int .i64 (x.h:Nat),.int .i64 (x.mi:Nat),.int .i64 (x.sc:Nat),.int .i64 (x.ns:Nat),.int .u8 (x.sg:Nat),.int .i64 (x.oh:Nat),.int .i64 (x.om:Nat)])::L) R)(hs:s.length<=1073741824)(hx:FBd x):Ret W 335 [ao b 0,ao c 0] w0 (λv w'=>v=.tuple #[]/\∃ (rZ ud K:Nat) (s':List UInt8) (iN:Bool),Cxr aA w' ((b,aa 339 [M s',.bool iN])::(c,aa 341 [.int .i64 (rZ:Nat),.int .i64 (ud:Nat),.int .i64 (K:Nat),.int .i64 (x.h:Nat),.int .i64 (x.mi:Nat),.int .i64 (x.sc:Nat),.int .i64 (x.ns:Nat),.int .u8 (x.sg:Nat),.int .i64 (x.oh:Nat),.int .i64 (x.om:Nat)])::L) R/\s'.length<=s.length/\rZ<=290000/\ud<=2900/\K<=2900/\St2 d iN (oa s) ((rZ,ud,K),s')):=by
 refine aI Tryz.func335 B Tryz.ntmps335 B ?_;have G:=cM;refine an ?_;refine bW (DX aA _ b d s _ R G I 4 (by decide)) Tryz.func378 B B B B B B ?_;rintro ny w ⟨Ch,rfl,I5,fa,cr,G,oW,BS⟩;replace I5:Ch<10000:=I5;refine ag ?_;refine aCj ?_;intro w G W5;refine an ?_;refine bW (AS aA _ b cr fa _ R G I [45] (by decide)) AG B B B B B B ?_;rintro vW w ⟨AR,rfl,k7,jI,G,nV,N5⟩;refine aq ?_;refine aCk ?_;rintro P7 w ⟨Cf,rfl,EJ,oc,fG,G,NN,N6⟩;replace EJ:Cf<100:=EJ;refine ag ?_;refine aCl ?_;intro w G jh;refine an ?_;refine bW (AS aA _ b fG oc _ R G I [45] (by decide)) AG B B B B B B ?_;rintro YY w ⟨bCg,rfl,pU,nM,G,VA,N7⟩;refine an ?_;refine aCm ?_;rintro v20 w ⟨kr,rfl,I4,kx,oJ,G,bQz,N8⟩;replace I4:kr<100:=I4;refine ag ?_;refine aCn ?_;intro w G hG;refine ab ?_;refine mH (.inr B) Tryz.results335 ?_;exact ⟨B,Ch,Cf,kr,kx,oJ,G,I,I,I,I,cAf BS N5 N6 N7 N8⟩
theorem aJk (aA w0:World)(b c:Nat)(d:Bool)(s:List UInt8)(x:Fm)(L:List (Nat×Obj))(R:List Row)(cM:Cxr aA w0 ((b,aa 339 [M s,.bool d])::(c,aa 341 [.int .i64 (x.y:Nat),.int .i64 (x.mo:Nat),.int .i64 (x.d:Nat),.int .i64 (x.h:Nat),.int .i64 (x.mi:Nat),.int .i64 (x.sc:Nat),.int .i64 (x.ns:Nat),.int .u8 (x.sg:Nat),.int .i64 (x.oh:Nat),.int .i64 (x.om:Nat)])::L) R)(hs:s.length<=1073741824)(hx:FBd x):Ret W 334 [ao b 0,ao c 0] w0 (λv w'=>v=.tuple #[]/\∃ (aU my c' n':Nat) (s':List UInt8) (iN:Bool),Cxr aA w' ((b,aa 339 [M s',.bool iN])::(c,aa 341 [.int .i64 (x.y:Nat),.int .i64 (x.mo:Nat),.int .i64 (x.d:Nat),.int .i64 (aU:Nat),.int .i64 (my:Nat),.int .i64 (c':Nat),.int .i64 (n':Nat),.int .u8 (x.sg:Nat),.int .i64 (x.oh:Nat),.int .i64 (x.om:Nat)])::L) R/\s'.length<=s.length/\aU<=2900/\my<=2900/\c'<=2900/\n'<=29000000000/\St2 d iN (vF s) ((aU,my,c'),s')):=by
 refine aI Tryz.func334 B Tryz.ntmps334 B ?_;have G:=cM;have bV0:=hx.ns;refine an ?_;refine bW (DX aA _ b d s _ R G I 2 (by decide)) Tryz.func378 B B B B B B ?_;rintro ny w ⟨Ch,rfl,I5,fa,cr,G,oW,BS⟩;replace I5:Ch<100:=I5;refine ag ?_;refine aCj ?_;intro w G W5;refine an ?_;refine bW (AS aA _ b cr fa _ R G I [58] (by decide)) AG B B B B B B ?_;rintro vW w ⟨AR,rfl,k7,jI,G,nV,N5⟩;refine aq ?_;refine aCk ?_;rintro P7 w ⟨Cf,rfl,EJ,oc,fG,G,NN,N6⟩;replace EJ:Cf<100:=EJ;refine ag ?_;refine aCl ?_;intro w G jh;refine an ?_;refine bW (AS aA _ b fG oc _ R G I [58] (by decide)) AG B B B B B B ?_;rintro YY w ⟨bCg,rfl,pU,nM,G,VA,N7⟩;refine aq ?_;refine aCm ?_;rintro v20 w ⟨kr,rfl,I4,kx,oJ,G,bQz,N8⟩;replace I4:kr<100:=I4;refine ag ?_;refine aCn ?_;intro w G hG;refine az ?_;refine p3 ?_;refine S B B (kO (u:=[]) B B B) ?_;refine ag ?_;refine GR ?_;refine ab ?_;refine Lz ?_;refine aN B B B aO (λhc=>vY B (fV hc B) B aF I (by simp only [bne_iff_ne,ne_eq,decide_eq_true_eq,kP,decide_eq_false_iff_not] at hc;have:=gF.2 hc;omega)) ?_;refine ae ?_;refine Z (λh9=>?_) (λh9=>?_)
 ·have bt:0<kx.length:=gF.2 h9.1;have oO:(kx.getD 0 0).toNat=46:=by have:=h9.2;rw [show dw 0=0 from B] at this;omega
  refine az ?_;refine p3 ?_;refine Ly ?_;refine ag ?_;refine bR (v:=(M (kx.drop (dw 1)))) G 0 B B B B B (by rfl) B B gA ?_;intro w G jt;refine an ?_;refine bW (bE0 aA _ b oJ (kx.drop (dw 1)) _ R G jx) Tryz.func379 B B B B B B ?_;rintro v46 w ⟨aSs,rfl,VL,PQ,HM,G,bQ0,bTb⟩;refine ag ?_;refine bR (v:=.int .i64 (aSs:Nat)) G 1 B B B B B B B B bN ?_;intro w G iD;refine ab ?_;refine mH (.inr B) Tryz.results334 ?_;exact ⟨B,Ch,Cf,kr,aSs,PQ,HM,G,by rw [bC] at bQ0;omega,I,I,I,I,cAe (aT3 BS N5 N6 N7 N8) oO bTb⟩
 have oO:(kx.getD 0 0).toNat≠46:=λh=>by
  rcases h9 with h2 | h2
  ·rw [h2] at h;exact absurd h (by decide)
  ·rw [show dw 0=0 from B] at h2;omega
 refine ab ?_;refine mH (.inr B) Tryz.results334 ?_;exact ⟨B,Ch,Cf,kr,x.ns,kx,oJ,G,I,I,I,I,I,cAd (aT3 BS N5 N6 N7 N8) oO⟩
theorem bEe (aA w0:World)(b c:Nat)(d:Bool)(s:List UInt8)(x:Fm)(L:List (Nat×Obj))(R:List Row)(cM:Cxr aA w0 ((b,aa 339 [M s,.bool d])::(c,aa 341 [.int .i64 (x.y:Nat),.int .i64 (x.mo:Nat),.int .i64 (x.d:Nat),.int .i64 (x.h:Nat),.int .i64 (x.mi:Nat),.int .i64 (x.sc:Nat),.int .i64 (x.ns:Nat),.int .u8 (x.sg:Nat),.int .i64 (x.oh:Nat),.int .i64 (x.om:Nat)])::L) R)(hs:s.length<=1073741824)(hx:FBd x)(au:x.oh=0/\x.om=0):Ret W 337 [ao b 0,ao c 0] w0 (λv w'=>v=.tuple #[]/\∃ (Eh aU my:Nat) (s':List UInt8) (iN:Bool),Cxr aA w' ((b,aa 339 [M s',.bool iN])::(c,aa 341 [.int .i64 (x.y:Nat),.int .i64 (x.mo:Nat),.int .i64 (x.d:Nat),.int .i64 (x.h:Nat),.int .i64 (x.mi:Nat),.int .i64 (x.sc:Nat),.int .i64 (x.ns:Nat),.int .u8 (Eh:Nat),.int .i64 (aU:Nat),.int .i64 (my:Nat)])::L) R/\s'.length<=s.length/\Eh<256/\aU<=2900/\my<=2900/\St2 d iN (o6 s) ((aU,my),s')):=by
 refine aI Tryz.func337 B Tryz.ntmps337 B ?_;have G:=cM;refine an ?_;refine bW (AS aA _ b d s _ R G I [90,122,43,45] (by decide)) AG B B B B B B ?_;rintro ny w ⟨tw,rfl,fa,cr,G,oW,BS⟩;refine ag ?_;refine bR (v:=.int .u8 (tw.toNat:Nat)) G 1 B B B B B B B B mJ ?_;intro w G W5;refine az ?_;refine S B B (br B B en B ((G.row 1 B).cell 7 B)) ?_;refine ae ?_;refine RN ?_;refine ab ?_;refine aN B B B a8 (λhc=>br B ay en B ((G.row 1 B).cell 7 B)) ?_;refine ae ?_;refine Z (λct=>?_) (λct=>?_)
 ·refine an ?_;refine bW (DX aA _ b cr fa _ R G I 2 (by decide)) Tryz.func378 B B B B B B ?_;rintro cGd w ⟨Fy,rfl,aO2,k7,jI,G,nV,bS7⟩;replace aO2:Fy<100:=aO2;refine ag ?_;refine bR (v:=.int .i64 (Fy:Nat)) G 1 B B B B B B B B bN ?_;intro w G jh;refine an ?_;refine bW (AS aA _ b jI k7 _ R G I [58] (by decide)) AG B B B B B B ?_;rintro v27 w ⟨aI9,rfl,oc,fG,G,NN,bS8⟩;refine an ?_;refine bW (DX aA _ b fG oc _ R G I 2 (by decide)) Tryz.func378 B B B B B B ?_;rintro cT8 w ⟨XQ,rfl,aO3,pU,nM,G,VA,bS9⟩;replace aO3:XQ<100:=aO3;refine ag ?_;refine bR (v:=.int .i64 (XQ:Nat)) G 1 B B B B B B B B bN ?_;intro w G hG;refine ab ?_;refine mH (.inr B) Tryz.results337 ?_;exact ⟨B,tw.toNat,Fy,XQ,pU,nM,G,I,tw.toNat_lt,I,I,cAk BS I bS7 bS8 bS9⟩
 refine ab ?_;refine mH (.inr B) Tryz.results337 ?_;exact ⟨B,tw.toNat,x.oh,x.om,fa,cr,G,I,tw.toNat_lt,I,I,by rw [au.1,au.2];exact cAj BS I⟩
theorem bDf (aA w0:World)(b c:Nat)(s:List UInt8)(L:List (Nat×Obj))(R:List Row)(cM:Cxr aA w0 ((b,aa 339 [M s,.bool false])::(c,aa 341 [J 0,J 0,J 0,J 0,J 0,J 0,J 0,.int .u8 ((0:Nat):Int),J 0,J 0])::L) R)(hs:s.length<=1073741824):Ret W 265 [ao b 0,ao c 0] w0 (λv w'=>∃ (n:Nat) (s':List UInt8) (iN:Bool) (jV:Fm),v=.int .i64 n/\Cxr aA w' ((b,aa 339 [M s',.bool iN])::(c,aa 341 [.int .i64 (jV.y:Nat),.int .i64 (jV.mo:Nat),.int .i64 (jV.d:Nat),.int .i64 (jV.h:Nat),.int .i64 (jV.mi:Nat),.int .i64 (jV.sc:Nat),.int .i64 (jV.ns:Nat),.int .u8 (jV.sg:Nat),.int .i64 (jV.oh:Nat),.int .i64 (jV.om:Nat)])::L) R/\FBd jV/\(n=2\/n=1\/n=3\/n=4)/\Gg s iN s' n (jV.y,jV.mo,jV.d) (jV.h,jV.mi,jV.sc) (jV.oh,jV.om)):=by
 refine aI Tryz.func265 B Tryz.ntmps265 B ?_;have G:=cM;refine cF ?_;refine p3 ?_;refine an ?_;refine GR ?_;refine ab ?_;refine Lz ?_;refine aN B B B aO (λhc=>vY B (fV hc B) B aF I (by simp only [decide_eq_true_eq] at hc;omega)) ?_;refine ae ?_;refine Z (λhB=>?_) (λhB=>?_)
 ·have jc:(s.getD 2 0).toNat=58:=by have:=hB.2;rw [show dw 2=2 from B] at this;omega
  refine an ?_;refine bW (aJk aA _ b c false s (⟨0,0,0,0,0,0,0,0,0,0⟩:Fm) L R G I FBd.zero) Tryz.func334 B B B B B B ?_;rintro v21 w ⟨cP2,h1,pO,cC,cB,fa,cr,G,oW,er,di,eE,gW,bS6⟩;refine az ?_;refine LA ?_;exact ⟨2,fa,cr,⟨0,0,0,h1,pO,cC,cB,0,0,0⟩,B,G,⟨bU _,bU _,bU _,er,di,eE,gW,(by decide:(0:Nat)<256),bU _,bU _⟩,.inl B,bMi jc bS6⟩
 have jc:(s.getD 2 0).toNat≠58:=λh=>by
  have Y:=nc (l:=s) (j:=2) I;rcases hB with h2 | h2
  ·omega
  ·rw [show dw 2=2 from B] at h2;omega
 refine aq ?_;refine bW (bEd aA _ b c false s (⟨0,0,0,0,0,0,0,0,0,0⟩:Fm) L R G I FBd.zero) Tryz.func335 B B B B B B ?_;rintro cT6 w ⟨cP3,dM,bD,pX,fa,cr,G,oW,er,di,eE,Wp⟩;refine aG ?_;refine p3 ?_;refine S B B (ga (u:=[]) B B B) ?_;refine ab ?_;refine Z (λgY=>?_) (λgY=>?_)
 ·refine aq ?_;refine LA ?_;exact ⟨1,fa,cr,⟨dM,bD,pX,0,0,0,0,0,0,0⟩,B,G,⟨er,di,eE,bU _,bU _,bU _,bU _,(by decide:(0:Nat)<256),bU _,bU _⟩,.inr (.inl B),bMj jc Wp gY⟩
 refine an ?_;refine bW (AS aA _ b cr fa _ R G I [84,116,32] (by decide)) AG B B B B B B ?_;rintro aW4 w ⟨MG,rfl,k7,jI,G,nV,N9⟩;refine aq ?_;refine bW (aJk aA _ b c jI k7 (⟨dM,bD,pX,0,0,0,0,0,0,0⟩:Fm) L R G I ⟨er,di,eE,bU _,bU _,bU _,bU _,(by decide:(0:Nat)<256),bU _,bU _⟩) Tryz.func334 B B B B B B ?_;rintro aW5 w ⟨cP4,Y,i3,eL,n3,oc,fG,G,NN,gW,fl,gX,nO,aPy⟩;refine aG ?_;refine p3 ?_;refine S B B (ga (u:=[]) B B B) ?_;refine ab ?_;refine Z (λpG=>?_) (λpG=>?_)
 ·refine aq ?_;refine LA ?_;exact ⟨3,oc,fG,⟨dM,bD,pX,Y,i3,eL,n3,0,0,0⟩,B,G,⟨er,di,eE,gW,fl,gX,nO,(by decide:(0:Nat)<256),bU _,bU _⟩,.inr (.inr (.inl B)),bMk jc Wp (.inl gY) (St2.bind (r1:=(MG,k7)) N9 aPy) pG⟩
 refine aq ?_;refine bW (bEe aA _ b c fG oc (⟨dM,bD,pX,Y,i3,eL,n3,0,0,0⟩:Fm) L R G I ⟨er,di,eE,gW,fl,gX,nO,(by decide:(0:Nat)<256),bU _,bU _⟩ ⟨B,B⟩) Tryz.func337 B B B B B B ?_;rintro cUd w ⟨cP5,g4,ar,i4,pU,nM,G,VA,lB,rp,En,bTa⟩;refine az ?_;refine LA ?_;exact ⟨4,pU,nM,⟨dM,bD,pX,Y,i3,eL,n3,g4,ar,i4⟩,B,G,⟨er,di,eE,gW,fl,gX,nO,lB,rp,En⟩,.inr (.inr (.inr B)),bMl jc Wp (.inl gY) (St2.bind (r1:=(MG,k7)) N9 aPy) (.inl pG) bTa⟩
theorem bCj (s:List UInt8)(w0:World)(hs:s.length<=1073741824):Fc W 187 [M s] w0 (λv _=>∃ (k d n z:Int) (e:Nat),v=.tuple #[.agg #[.int .i64 k,.int .i64 d,.int .i64 n,.int .i64 z],J e]/\e=fL s):=by
 refine aI Tryz.func187 B Tryz.ntmps187 B ?_;have G:=Ctx.start w0;refine ag ?_;refine Ac ?_;intro b2 w G di e3;refine aq ?_;refine S B B (cd (qs:=[(0,(M s))]) (bAg (bs s)) B B) ?_;refine bE ?_;intro eD w G lA mx;refine an ?_;refine kN G cId B B B ?_;intro bH w G fl fg;refine an ?_;replace G:=G.swapL;refine bW (bDf w0 _ eD bH s _ _ G hs) Tryz.func265 B B B B B B ?_;rintro F1 w ⟨zt,fa,cr,x,rfl,G,hx,lF,yW⟩;have ⟨OL,cRm,B6,cRj,cRl,cRp,bV0,cRq,cRn,cRo⟩:=hx;replace G:=G.swapL;refine bz ?_;refine S B B (br B B pr B ((G.row 1 B).cell 1 B)) ?_;refine ag ?_;refine RN ?_;refine ab ?_;refine aN B B B a8 (λhc=>br B ay aF B ((G.row 1 B).cell 0 B)) ?_;refine aN B B B a8 (λhc=>kO (u:=[]) B ay B) ?_;refine ag ?_;refine Z (λfI=>?_) (λfI=>?_)
 ·have he:fL s=3:=by
   rcases yW with ⟨_,h⟩ | ⟨h1,h2,_⟩
   ·exact h
   . rcases fI with h | h
     ·rw [h1] at h;cases h
     ·exact h2 ku
  refine ag ?_;refine RO ?_;refine bn G 2 B B B B B B o9 B B ?_;intro w G rK;refine ae ?_;refine io Tryz.results187 B B (G.at 2 B) sa B o9 ?_;exact QR
 have ss:fL s=sk zt (x.y,x.mo,x.d) (x.h,x.mi,x.sc) (x.oh,x.om):=by
  rcases yW with ⟨h1,_⟩ | ⟨h1,_,h2⟩
  ·rw [h1] at fI;exact absurd fI (by simp)
  ·exact h2 (by simpa using fI.2)
 refine an ?_;refine S B B (cd (qs:=[(0,.int .i64 (zt:Nat))]) (bAt zt) B B) ?_;refine Ac ?_;intro b7 w G nO iW;refine xZ ?_;intro w G jt;refine ab ?_;refine cw (λf ah=>∃ (b2 bH b7 eD:Nat) (D4:Int),(zt=2\/h3 (gm x.y x.mo x.d)=0)/\f 2=ao b2 0/\f 5=ao bH 0/\f 7=ao b7 0/\Ctx w0 ah [(b7,aa 78 [.int .i64 zt,.int .i64 D4,.int .i64 0,.int .i64 0]),(bH,aa 341 [.int .i64 (x.y:Nat),.int .i64 (x.mo:Nat),.int .i64 (x.d:Nat),.int .i64 (x.h:Nat),.int .i64 (x.mi:Nat),.int .i64 (x.sc:Nat),.int .i64 (x.ns:Nat),.int .u8 (x.sg:Nat),.int .i64 (x.oh:Nat),.int .i64 (x.om:Nat)]),(eD,aa 339 [M fa,.bool cr]),(b2,aa 78 [.int .i64 0,.int .i64 0,.int .i64 0,.int .i64 0])]) ?_ ?_
 ·refine aq ?_;refine Z (λnP=>?_) (λnP=>?_)
  ·refine bz ?_;refine bG G (bDg x.y x.mo x.d _ I I) Tryz.func266 B B B B B B ?_;intro aUn w G Oz V8;obtain ⟨D4,rfl⟩:=V8;refine i6 ?_;refine Z (λwW=>?_) (λwW=>?_)
   ·have he:fL s=2:=ss.trans (bL6 I I);refine ag ?_;refine RO ?_;refine bn G 3 B B B B B B o9 B B ?_;intro w G lI;refine ae ?_;refine io Tryz.results187 B B (G.at 3 B) sa B o9 ?_;exact ⟨G.ext,_,_,_,_,2,B,he.symm⟩
   have yU:h3 (gm x.y x.mo x.d)=0:=I;refine an ?_;refine bR (v:=.int .i64 (D4)) G 0 B B B B B B B B bN ?_;intro w G sE;exact aBf
  exact aBf
 intro f w ai;obtain ⟨b2,bH,b7,eD,D4,hv,aE,bF,aS,G⟩:=ai;refine Mn ?_;refine Z (λBq=>?_) (λBq=>?_)
 ·have he:fL s=2:=ss.trans (bL8 I);refine ag ?_;refine RO ?_;refine bn G 3 B B B aE B B o9 B B ?_;intro w G np;refine ae ?_;refine io Tryz.results187 aE B (G.at 3 B) sa B o9 ?_;exact ⟨G.ext,_,_,_,_,2,B,he.symm⟩
 have he:fL s=0:=ss.trans (bL7 hv I);refine Ht ?_;refine bR (v:=.int .i64 (((x.h*60+x.mi)*60+x.sc)*1000000000+x.ns)) G 0 B B B B B B B B bN ?_;intro w G l0;refine cF ?_;refine bR (v:=.int .i64 (x.oh*60+x.om)) G 0 B B B B B B B B bN ?_;intro w G sF;refine ab ?_;refine cw (λf ah=>∃ (b2 b7:Nat) (z:Int),f 2=ao b2 0/\f 7=ao b7 0/\Ctx w0 ah [(b7,aa 78 [.int .i64 zt,.int .i64 D4,.int .i64 (((x.h*60+x.mi)*60+x.sc)*1000000000+x.ns),.int .i64 z]),(b2,aa 78 [.int .i64 0,.int .i64 0,.int .i64 0,.int .i64 0])]) ?_ ?_
 ·refine az ?_;refine Z (λbOq=>?_) (λbOq=>?_)
  ·refine ae ?_;refine Lx ?_;refine ab ?_;refine bR (v:=.int .i64 (-((x.oh:Int)*60+x.om))) G 0 B B B B B B B B bN ?_;intro w G B2;refine ab ?_;exact aCb
  refine ab ?_;exact aCb
 intro f w ai;obtain ⟨b2,b7,z,aE,aS,G⟩:=ai;refine ae ?_;refine Ld ?_;intro w G xp;refine ae ?_;refine io Tryz.results187 aE B (G.at 1 B) sa B o9 ?_;exact ⟨G.ext,_,_,_,_,0,B,he.symm⟩
end Go.Proofs.YthiafbkolhnadaaGreatDoor
end
section
namespace Go.Proofs.YthiafbkolhnadaaGreatDoor
open Go Go.Dk Go.RowKit Go.Lib
variable {x o:List UInt8}{e e0:Nat}
open Classical in
noncomputable def cx:Sx:=⟨oK,fL,λo=>if 65536<o.length then 10 else 0,λo=>if pu o then (if 65536<6*c4 o / 8 then 10 else 0) else 3⟩
abbrev Words (x:List UInt8):Prop:=x=zX\/x=wc\/x=wb
def Hk (x:List UInt8)(e:Nat):Prop:=∀ k,TkK x k->starts x k->k≠4->ScR cx x e
theorem aVz(h:Words x):Hk x 0:=λk _ _ _=>by unfold ScR;rw [U h]
theorem PY{k:Nat}(hs:starts x k)(ar:k≠4)(hw:¬ Words x):k=5\/(k=6/\numb x):=by
 rcases hs with h | h | ⟨h,h2 | h2⟩
 ·exact absurd h.1 ar
 ·exact .inl h
 ·exact .inr ⟨h,h2⟩
 ·exact absurd h2 hw
def SQ (x:List UInt8)(e0:Nat)(o:List UInt8):Prop:=∀ k m,(x.getD 0 0).toNat=34->Quo x (0,k,m)->m=x.length->e0=0/\o=k
theorem PU(hw:¬ Words x)(eG:(x.getD 0 0).toNat=34)(aP:SQ x e0 o)(he:e0=0->e=if 65536<o.length then 10 else 0):Hk x e:=by
 intro k hk hs ar;rcases PY hs ar hw with rfl | ⟨rfl,hn⟩
 . rcases hk.q rfl with ⟨_,gu,aw⟩ | ⟨h,_⟩
   . obtain ⟨ap,rfl⟩:=aP _ _ eG aw rfl
     unfold ScR;rw [O hw,U eG];exact ⟨_,_,aw,he ap⟩
   ·omega
 . have:=(Ci hn).2
   unfold bf at this;omega
theorem aWs(hk:TkK x 5)(h:(x.getD 0 0).toNat=116\/(x.getD 0 0).toNat=98):(((x.drop 1).getD 0 0).toNat=34)/\∃ o,Quo (x.drop 1) (0,o,(x.drop 1).length):=by
 rcases hk.q rfl with ⟨h2,_⟩ | ⟨_,h2,_,Y⟩
 ·omega
 ·exact ⟨by rw [du];exact h2,Y⟩
theorem PV(hw:¬ Words x)(aMr:(x.getD 0 0).toNat=116)(aP:SQ (x.drop 1) e0 o)(he:e=fL o):Hk x e:=by
 intro k hk hs ar;rcases PY hs ar hw with rfl | ⟨rfl,hn⟩
 . obtain ⟨h1,gu,aw⟩:=aWs hk (.inl aMr)
   obtain ⟨_,rfl⟩:=aP _ _ h1 aw rfl;unfold ScR;rw [O hw,O I,U aMr];exact ⟨_,_,aw,he⟩
 . have:=(Ci hn).2
   unfold bf at this;omega
theorem FU(hw:¬ Words x)(aMw:(x.getD 0 0).toNat=98)(aP:SQ (x.drop 1) e0 o)(he:e=cx.b64 o):Hk x e:=by
 intro k hk hs ar;rcases PY hs ar hw with rfl | ⟨rfl,hn⟩
 . obtain ⟨h1,gu,aw⟩:=aWs hk (.inr aMw)
   obtain ⟨_,rfl⟩:=aP _ _ h1 aw rfl;unfold ScR;rw [O hw,O I,O I,U aMw];exact ⟨_,_,aw,he⟩
 . have:=(Ci hn).2
   unfold bf at this;omega
open Classical in
theorem aH0(h:pu o)(hl:¬ 65536<6*c4 o / 8):0=cx.b64 o:=by
 show 0=if pu o then (if 65536<6*c4 o / 8 then 10 else 0) else 3
 rw [U h,O hl]
open Classical in
theorem aH1(h:pu o)(hl:65536<6*c4 o / 8):10=cx.b64 o:=by
 show 10=if pu o then (if 65536<6*c4 o / 8 then 10 else 0) else 3
 rw [U h,U hl]
open Classical in
theorem aH2(h:¬ pu o):3=cx.b64 o:=by
 show 3=if pu o then (if 65536<6*c4 o / 8 then 10 else 0) else 3
 rw [O h]
theorem PT(hw:¬ Words x)(h:(x.getD 0 0).toNat≠34/\(x.getD 0 0).toNat≠116/\(x.getD 0 0).toNat≠98)(he:numb x->e=oK x):Hk x e:=by
 intro k hk hs ar;rcases PY hs ar hw with rfl | ⟨rfl,hn⟩
 . rcases hk.q rfl with ⟨h2,_⟩ | ⟨h2,_⟩
   ·omega
   ·omega
 . unfold ScR
   rw [O hw,O h.1,O h.2.1,O h.2.2];exact he hn
end Go.Proofs.YthiafbkolhnadaaGreatDoor
end
section
namespace Go.Proofs.YthiafbkolhnadaaGreatDoor
open Go Go.Dk Go.RowKit Go.Lib
attribute [local irreducible] Go.wpList Go.Code.wp Go.bodyPost Go.wpStill Go.wpQuiet
theorem bBh  (w:World):(Instr.build 83 ([]:List (Nat×Value)).toArray).run W w=.ok (.agg #[J 0,.bool (false),.bool (false),M [],J 0,J 0,J 0,J 0,J 0,M [],al,al,al]) w:=by
 go_simp
 try rfl
theorem bBi (bj:Nat)(bg:Bool)(w:World):(Instr.build 83 ([(0,(J bj)),(1,.bool (bg))]:List (Nat×Value)).toArray).run W w=.ok (.agg #[J bj,.bool (bg),.bool (false),M [],J 0,J 0,J 0,J 0,J 0,M [],al,al,al]) w:=by
 go_simp
 try rfl
theorem aIl (bj:Nat)(bg:List UInt8)(w:World):(Instr.build 83 ([(0,(J bj)),(4,(M bg))]:List (Nat×Value)).toArray).run W w=.ok (.agg #[J bj,.bool (false),.bool (false),M [],J 0,J 0,J 0,J 0,J 0,M bg,al,al,al]) w:=by
 go_simp
 try rfl
theorem aIk (bj:Nat)(bg:Int)(b4:Int)(fQ:Int)(ir:Int)(w:World):(Instr.build 83 ([(0,(J bj)),(3,.agg #[.int .i64 (bg),.int .i64 (b4),.int .i64 (fQ),.int .i64 (ir)])]:List (Nat×Value)).toArray).run W w=.ok (.agg #[J bj,.bool (false),.bool (false),M [],J 0,.int .i64 (bg),.int .i64 (b4),.int .i64 (fQ),.int .i64 (ir),M [],al,al,al]) w:=by
 go_simp
 try rfl
theorem aIj (bj:Nat)(bg:Bool)(b4:List UInt8)(fQ:Int)(w:World):(Instr.build 83 ([(0,(J bj)),(2,.agg #[.bool (bg),M b4,.int .i64 (fQ)])]:List (Nat×Value)).toArray).run W w=.ok (.agg #[J bj,.bool (false),.bool (bg),M b4,.int .i64 (fQ),J 0,J 0,J 0,J 0,M [],al,al,al]) w:=by
 go_simp
 try rfl
theorem bCl (s:List UInt8)(w0:World)(hs:s.length<=1000000):Fc W 189 [M s] w0 (λv _=>∃ (b:Bool) (d:List UInt8) (y:Int) (e:Nat),v=.tuple #[.agg #[.bool b,M d,.int .i64 y],J e]/\(numb s->e=oK s)):=by
 refine aI Tryz.func189 B Tryz.ntmps189 B ?_;have G:=Ctx.start w0;refine ag ?_;refine wj ?_;intro b2 w G di e3;refine az ?_;refine bo G (Tj s _ cR) Tryz.func268 B B B B B B ?_;intro w G fg;refine ag ?_;refine Z (λoS=>?_) (λoS=>?_)
 ·refine wt ?_;refine s9 ?_;intro w G jh;refine ae ?_;refine aEk ?_;exact ⟨G.ext,_,[],_,3,B,λhn=>by exfalso;first | exact oS hn | (simp at oS;exact oS hn)⟩
 have BI:numb s:=by first | exact oS | simpa using oS
 refine an ?_;refine bG G (bDi s _ I BI) Tryz.func269 B B B B B B ?_;intro cS8 w G tY Jg;obtain ⟨eZ,bHi,cH1,aK5,rfl,bPe⟩:=Jg;refine ag ?_;refine s9 ?_;intro w G ig;refine S B B (av (v:=(J aK5)) B B) ?_;refine ag ?_;refine aEk ?_;exact ⟨G.ext,eZ,bHi,cH1,aK5,B,λ_=>bPe⟩
theorem aIe (a:Option Addr)(n c:Nat)(w:World):(Instr.build 83 ([(0,(J 5)),(5,.slice a n c)]:List (Nat×Value)).toArray).run W w=.ok (.agg #[J 5,.bool false,.bool false,.string ByteArray.empty,.int .i64 0,.int .i64 0,.int .i64 0,.int .i64 0,.int .i64 0,.string ByteArray.empty,.slice a n c,al,al]) w:=by
 go_simp
 try rfl
theorem aIo (x:List UInt8)(w0:World)(hs:x.length<=1000000)(hx:x≠[]):Ret W 119 [M x] w0 (λu w'=>∃ (sc:Sc) (mX:List UInt8) (ix:Option Addr) (qf iy e:Nat) (rs:List Row),u=.tuple #[.agg (vrow sc (.slice ix qf iy) (al) (al)).toArray,J e]/\sc.kind≠6/\sc.kind≠7/\LR rs 5 1 (.slice ix qf iy) mX.length (mX.map bv)/\(∀ k,TkK x k->starts x k->k≠4->ScR cx x e)/\Cxr w0 w' [] rs):=by
 refine aI Tryz.func119 B Tryz.ntmps119 B ?_;have G:=Ctx.start w0;have B7:=gF.2 hx;have kW:(x.drop 1).length=x.length-1:=bC;refine ag ?_;refine fD ?_;intro b2 w G di e3;refine cF ?_;refine aEl ?_;refine ag ?_;refine Z (λhQ=>?_) (λhQ=>?_)
 ·have hw:Words x:=.inl hQ;refine r6 ?_;refine lO ?_;intro w G ig;refine ae ?_;refine io Tryz.results119 B B (G.at 0 B) fb B c6 ?_;exact aAx
 have fX:¬ x=zX:=hQ;refine cw (λf ah=>∃ (DV:Bool),(DV=true↔x=wc\/x=wb)/\f 20=.bool (DV)/\f 0=M x/\f 2=ao b2 0/\f 3=J 0/\Cxr w0 ah [(b2,aa 83 [J 0,.bool (false),.bool (false),M [],J 0,J 0,J 0,J 0,J 0,M [],al,al,al])] []) ?_ ?_
 ·refine ag ?_;refine Dc ?_;refine ag ?_;refine Z (λct=>?_) (λct=>?_)
  ·first | have hw:Words x:=.inr (Bk.1 ct) | skip
   refine ab ?_;exact ⟨_,B,_,⟨λ_=>.inl ct,λ_=>decide_eq_true ct⟩,B,B,B,B,G⟩
  first | have e3:¬ (x=wc\/x=wb):=(λh=>by have:=Bk.2 h;rw [ct] at this;cases this) | skip
  refine ab ?_;refine aEm ?_;refine ag ?_;exact ⟨_,B,_,⟨λh=>.inr (of_decide_eq_true h),λh=>decide_eq_true (h.resolve_left ct)⟩,B,B,B,B,G⟩
 intro f w ai;obtain ⟨DV,Bk,EY,aB,aE,aR,G⟩:=ai;refine cn EY (λct=>?_) (λct=>?_)
 ·try simp only [dy] at ct
  first | have hw:Words x:=.inr (Bk.1 ct) | skip
  refine ae ?_;refine Dc ?_;refine aEn ?_;refine z8 ?_;intro w G jt;refine ae ?_;refine Dd ?_;exact aA1
 try simp only [dy] at ct
 first | have e3:¬ (x=wc\/x=wb):=(λh=>by have:=Bk.2 h;rw [ct] at this;cases this) | skip
 refine aq ?_;refine GS ?_;refine aG ?_;refine Z (λjd=>?_) (λjd=>?_)
 ·refine ae ?_;refine bG G (Tc x _ cR) Tryz.func186 B B B B B B ?_;intro cBm w G Ox V6;obtain ⟨TQ,J4,rfl,aQq,cPv⟩:=V6;refine ae ?_;refine S B B (av (v:=(M J4)) B B) ?_;refine S B B (av (v:=(J TQ)) B B) ?_;refine ab ?_;refine cw (λf ah=>∃ (aZ:Nat),(TQ=0->aZ=if 65536<J4.length then 10 else 0)/\f 5=J aZ/\f 0=M x/\f 2=ao b2 0/\f 3=J 0/\f 4=M J4/\f 27=.int .u8 (((x.getD 0 0).toNat:Nat):Int)/\Cxr w0 ah [(b2,aa 83 [J 0,.bool (false),.bool (false),M [],J 0,J 0,J 0,J 0,J 0,M [],al,al,al])] []) ?_ ?_
  ·refine cF ?_;refine Z (λpH=>?_) (λpH=>?_)
   ·refine ae ?_;exact ⟨_,B,10,(λ_=>(U I).symm),aJ,aB,aE,aR,B,B,G⟩
   refine ab ?_;exact ⟨_,B,TQ,(λh=>by rw [O I];exact h),aJ,aB,aE,aR,B,B,G⟩
  intro f w ai;obtain ⟨aZ,ic,bF,aB,aE,aR,aM,Jq,G⟩:=ai;refine az ?_;refine Z (λkV=>?_) (λkV=>?_)
  ·refine r6 ?_;refine ab ?_;refine z8 ?_;intro w G np;refine S B B (av (v:=(J aZ)) B B) ?_;refine ag ?_;refine Dd ?_;have fo:¬ Words x:=λh=>by
    exact uC
   exact ⟨⟨0,false,false,ByteArray.empty,0,0,0,0,0,ByteArray.empty⟩,[],none,0,0,_,[],B,(by decide:(0:Int)≠6),(by decide:(0:Int)≠7),.inl ⟨B,B⟩,PU fo I aQq ic,G.drop 9⟩
  refine an ?_;refine S B B (cd (qs:=[(0,(J 4)),(4,(M J4))]) (aIl _ _) B B) ?_;refine z8 ?_;intro w G l0;refine ae ?_;refine Dd ?_;have fo:¬ Words x:=λh=>by
   exact uC
  exact ⟨⟨4,false,false,ByteArray.empty,0,0,0,0,0,bs J4⟩,[],none,0,0,0,[],B,(by decide:(4:Int)≠6),(by decide:(4:Int)≠7),.inl ⟨B,B⟩,PU fo I aQq (λh=>by have:=ic h;omega),G.drop 9⟩
 refine aq ?_;refine Z (λgq=>?_) (λgq=>?_)
 ·refine ae ?_;refine LB ?_;refine aCo ?_;intro cSv w G WT bSh;obtain ⟨bIi,aTn,rfl,aQu,cPy⟩:=bSh;refine ae ?_;refine S B B (av (v:=(M aTn)) B B) ?_;refine S B B (av (v:=(J bIi)) B B) ?_;refine an ?_;refine bG G (bCj aTn _ I) Tryz.func187 B B B B B B ?_;intro cBt w G WU NZ;obtain ⟨aR0,aX4,aSv,aYb,aK4,rfl,bPd⟩:=NZ;refine ae ?_;refine Ac ?_;intro cP w G lB jg;refine xZ ?_;intro w G B2;refine S B B (av (v:=(J aK4)) B B) ?_;refine aG ?_;refine Z (λnR=>?_) (λnR=>?_)
  ·refine r6 ?_;refine ab ?_;refine K1 ?_;intro w G B3;refine S B B (av (v:=(J aK4)) B B) ?_;refine ag ?_;refine LC ?_;have fo:¬ Words x:=λh=>by
    exact uC
   exact ⟨⟨0,false,false,ByteArray.empty,0,0,0,0,0,ByteArray.empty⟩,[],none,0,0,_,[],B,(by decide:(0:Int)≠6),(by decide:(0:Int)≠7),.inl ⟨B,B⟩,PV fo I aQu bPd,G.drop 9⟩
  refine an ?_;refine S B B (cd (qs:=[(0,(J 3)),(3,.agg #[.int .i64 (aR0),.int .i64 (aX4),.int .i64 (aSv),.int .i64 (aYb)])]) (aIk _ _ _ _ _) B B) ?_;refine K1 ?_;intro w G W6;refine ae ?_;refine LC ?_;have fo:¬ Words x:=λh=>by
   exact uC
  exact ⟨⟨3,false,false,ByteArray.empty,0,aR0,aX4,aSv,aYb,ByteArray.empty⟩,[],none,0,0,0,[],B,(by decide:(3:Int)≠6),(by decide:(3:Int)≠7),.inl ⟨B,B⟩,PV fo I aQu I,G.drop 9⟩
 refine aq ?_;refine Z (λUR=>?_) (λUR=>?_)
 ·refine ae ?_;refine LB ?_;refine aCo ?_;intro cS3 w G WZ bSn;obtain ⟨bIm,aTo,rfl,WK,cPz⟩:=bSn;refine ae ?_;refine S B B (av (v:=(M aTo)) B B) ?_;refine S B B (av (v:=(J bIm)) B B) ?_;refine an ?_;have AV:=G;refine bG G (bCk aTo _ I) Tryz.func188 B B B B B B ?_;intro cBy w G OD Wh;obtain ⟨cTr,OZ,yC,rfl,cz,Iy,aOt⟩:=Wh;replace G:=AV.callRow OD cz;obtain ⟨ix,iy,rfl⟩:=G.rowSl;refine ae ?_;refine S B B (av (v:=.slice ix OZ.length iy) B B) ?_;refine S B B (av (v:=(J yC)) B B) ?_;refine aG ?_;refine Z (λUT=>?_) (λUT=>?_)
  ·refine r6 ?_;refine z8 ?_;intro w G Ff;refine ae ?_;refine Dd ?_;have fo:¬ Words x:=λh=>by
    exact uC
   exact ⟨⟨0,false,false,ByteArray.empty,0,0,0,0,0,ByteArray.empty⟩,[],none,0,0,3,_,B,(by decide:(0:Int)≠6),(by decide:(0:Int)≠7),.inl ⟨B,B⟩,FU fo I WK (aH2 (λh=>by have:=Iy.2 h;omega)),G.drop 9⟩
  refine bz ?_;refine Z (λbOo=>?_) (λbOo=>?_)
  ·refine r6 ?_;refine z8 ?_;intro w G aRf;refine ae ?_;refine Dd ?_;have fo:¬ Words x:=λh=>by
    exact uC
   have ap:yC=0:=I;have hl:=aOt ap;exact ⟨⟨0,false,false,ByteArray.empty,0,0,0,0,0,ByteArray.empty⟩,[],none,0,0,10,_,B,(by decide:(0:Int)≠6),(by decide:(0:Int)≠7),.inl ⟨B,B⟩,FU fo I WK (aH1 (Iy.1 ap) I),G.drop 9⟩
  refine an ?_;refine S B B (cd (qs:=[(0,(J 5)),(5,.slice ix OZ.length iy)]) (aIe _ _ _) B B) ?_;refine z8 ?_;intro w G aRg;refine ae ?_;refine Dd ?_;have fo:¬ Words x:=λh=>by
   exact uC
  have ap:yC=0:=I;have hl:=aOt ap;exact ⟨⟨5,false,false,ByteArray.empty,0,0,0,0,0,ByteArray.empty⟩,OZ,ix,OZ.length,iy,0,_,B,(by decide:(5:Int)≠6),(by decide:(5:Int)≠7),.inr (b9 ..),FU fo I WK (aH0 (Iy.1 ap) I),G.drop 9⟩
 refine an ?_;refine bG G (bCl x _ I) Tryz.func189 B B B B B B ?_;intro cS9 w G bVf bSt;obtain ⟨aH3,aKn,aX6,aK6,rfl,aN2⟩:=bSt;refine ae ?_;refine wj ?_;intro yt w G Eo oX;refine s9 ?_;intro w G Xa;refine S B B (av (v:=(J aK6)) B B) ?_;refine aG ?_;refine Z (λbOr=>?_) (λbOr=>?_)
 ·refine r6 ?_;refine ab ?_;refine K1 ?_;intro w G OH;refine S B B (av (v:=(J aK6)) B B) ?_;refine ag ?_;refine LC ?_;have fo:¬ Words x:=λh=>by
   exact uC
  exact ⟨⟨0,false,false,ByteArray.empty,0,0,0,0,0,ByteArray.empty⟩,[],none,0,0,_,[],B,(by decide:(0:Int)≠6),(by decide:(0:Int)≠7),.inl ⟨B,B⟩,PT fo I aN2,G.drop 9⟩
 refine an ?_;refine S B B (cd (qs:=[(0,(J 2)),(2,.agg #[.bool (aH3),M aKn,.int .i64 (aX6)])]) (aIj _ _ _ _) B B) ?_;refine K1 ?_;intro w G bVp;refine ae ?_;refine LC ?_;have fo:¬ Words x:=λh=>by
  exact uC
 exact ⟨⟨2,false,aH3,bs aKn,aX6,0,0,0,0,ByteArray.empty⟩,[],none,0,0,0,[],B,(by decide:(2:Int)≠6),(by decide:(2:Int)≠7),.inl ⟨B,B⟩,PT fo I (λhn=>by have:=aN2 hn;omega),G.drop 9⟩
theorem bBl (x:List UInt8)(k:Nat)(w0:World)(hs:x.length<=1000000)(hk:TkK x k)(ck:starts x k)(ar:k≠4):Fc W 119 [M x] w0 (λv w'=>∃ (sc:Sc) (mX:List UInt8) (ix:Option Addr) (qf iy e:Nat),v=.tuple #[.agg (vrow sc (.slice ix qf iy) (al) (al)).toArray,J e]/\sc.kind≠6/\sc.kind≠7/\SlR w' (.slice ix qf iy) mX.length (mX.map bv)/\ScR cx x e):=by
 have bt:x≠[]:=hk.ne (by rcases ck with h | h | h <;> omega);refine (aIo x w0 hs bt).mono ?_;rintro v w' ⟨sc,mX,ix,qf,iy,e,rs,rfl,h6,h7,y2,Ok,G⟩;exact ⟨G.ext,sc,mX,ix,qf,iy,e,B,h6,h7,LR.slr G y2 (by decide),Ok k hk ck ar⟩
def Mq (depth:Nat):Prop:=∀ (aA w0:World) (b:Nat) (s:List UInt8) (D N:Nat) (af aj ak:Int) (p nodes:Nat) (L:List (Nat×Obj)) (R:List Row) (cM:Cxr aA w0 ((b,.cells (hH s D N af aj ak p nodes).toArray 129)::L) R) (hs:s.length<=1000000) (hp:p<=s.length) (kl:nodes<=1000000) (dF:D<=48) (dr:N<=65536) (lead:List UInt8) (a k n k5:Nat) (j5:Tok s k5 (0,a,k,n)) (kK:k5<=s.length) (jP:p=a+n),r8 W 116 [ao b 0,M lead,.agg #[J k,M (sub s a n),J a],J depth] w0 (λv w'=>∃ (t:T) (cs:List Value) (p' dI:Nat) (rs:List Row),v=.agg cs.toArray/\Pr cx s D N (.val lead a k n depth nodes) (.val t p' dI)/\NR rs t cs/\p<=p'/\p'<=s.length/\dI<=N/\Cxr aA w' ((b,.cells (hH s D N af aj ak p' dI).toArray 129)::L) (rs++R)) (q1 aA λo e=>Pr cx s D N (.val lead a k n depth nodes) (.err o e))
def aBz (depth:Nat):Prop:=∀ (m:Bool) (aA w0:World) (b:Nat) (s:List UInt8) (D N:Nat) (af aj ak:Int) (p nodes:Nat) (L:List (Nat×Obj)) (R:List Row) (cM:Cxr aA w0 ((b,.cells (hH s D N af aj ak p nodes).toArray 129)::L) R) (hs:s.length<=1000000) (hp:p<=s.length) (kl:nodes<=1000000) (dF:D<=48) (dr:N<=65536) (lead x:List UInt8) (hx:x=[opb m]) (aO4:nodes<=N),r8 W 184 [ao b 0,.agg #[J 2,M lead,M x,al,M []],J depth] w0 (λv w'=>∃ (kids:List T) (tail:List UInt8) (cs:List Value) (p' dI:Nat) (rs:List Row),v=.agg cs.toArray/\Pr cx s D N (.ents m depth [] [] p nodes) (.ents kids tail p' dI)/\NR rs (.mk (kdm m) lead [opb m] kids tail) cs/\p<=p'/\p'<=s.length/\dI<=N/\Cxr aA w' ((b,.cells (hH s D N af aj ak p' dI).toArray 129)::L) (rs++R)) (q1 aA λo e=>Pr cx s D N (.ents m depth [] [] p nodes) (.err o e))
theorem aIm (depth:Nat)(UY:depth<=1000)(cc:depth<=48->aBz depth):Mq depth:=by
 intro aA w0 b s D N af aj ak p nodes L R cM hs hp kl dF dr lead a k n k5 j5 kK jP;refine zC Tryz.func116 B Tryz.ntmps116 B ?_;have G:=cM;have eN:=vT j5 kK;have IA:=j5.len kK;have k0:(sub s a n).length=n:=qN IA.2.1;refine ag ?_;refine bE ?_;intro bq w G gX hF;refine dv ?_;intro cP w G lB jg;refine az ?_;refine aEo ?_;refine dv ?_;intro eZ w G rp tY;refine hX ?_;intro w G ko;refine ab ?_;refine cw (λf ah=>(starts (sub s a n) k/\k≠4)/\f 0=ao b 0/\f 3=J depth/\f 6=ao bq 0/\f 8=ao cP 0/\f 9=ao eZ 0/\Cxr aA ah ((eZ,aa 72 [J 2,M lead,M (sub s a n),al,M []])::(cP,aa 72 [J 0,M [],M [],al,M []])::(bq,aa 150 [J k,M (sub s a n),J a])::(b,.cells (hH s D N af aj ak p nodes).toArray 129)::L) (R)) ?_ ?_
 ·refine aq ?_;refine S B B (ga (s:=sub s a n) (u:=[91]) B B B) ?_;refine ae ?_;refine aN B B B a8 (λhc=>ga (s:=sub s a n) (u:=[123]) B ay B) ?_;refine ae ?_;refine Z (λc8=>?_) (λc8=>?_)
  ·obtain ⟨XN,I3⟩:∃ XN,sub s a n=[opb XN]:=by
    rcases c8 with h | h
    ·exact ⟨false,h⟩
    ·exact ⟨true,h⟩
   have rC:=bZh eN I3;have aQi:starts (sub s a n) k:=by rw [rC];exact PX I3
   refine aq ?_;refine jA (aI1 aA _ b s D N af aj ak p nodes _ _ (G.pick 3 B) hs I I dF dr k (sub s a n) a depth) Tryz.func183 B B B B B (aX B (aX B (aX B B))) (λx w cc=>?_) ?_
   ·exact o8 cc λo e _ h=>by rcases h with ⟨h1,rfl,rfl⟩ | ⟨h1,h2,rfl,rfl⟩;exact .vDepth aQi h1;exact .vNodes aQi h1 h2
   rintro KB w ⟨rfl,U0,aO7,G⟩;replace G:=G.unpick ((eZ,aa 72 [J 2,M lead,M (sub s a n),al,M []])::(cP,aa 72 [J 0,M [],M [],al,M []])::(bq,aa 150 [J k,M (sub s a n),J a])::(b,.cells (hH s D N af aj ak p nodes).toArray 129)::L) 3 B;refine az ?_;refine jA (cc (nI U0 dF) XN aA _ b s D N af aj ak p (nodes+1) _ _ (G.pick 3 B) hs I I dF dr lead (sub s a n) I3 I) Tryz.func184 B B B B B (aX B (aX B (aX B B))) (λx w cc=>?_) ?_
   ·subst rC;exact o8 cc λo e _ h=>.vEntsE I3 U0 aO7 (jP▸h)
   rintro cT9 w ⟨kids,tail,cs,p',dI,rs,rfl,cu,c9,xg,fp,lG,G⟩;replace G:=G.unpick ((eZ,aa 72 [J 2,M lead,M (sub s a n),al,M []])::(cP,aa 72 [J 0,M [],M [],al,M []])::(bq,aa 150 [J k,M (sub s a n),J a])::(b,.cells (hH s D N af aj ak p (nodes+1)).toArray 129)::L) 3 B;obtain ⟨cB,n2,n3,rfl⟩:=c9.formQ G;refine K2 ?_;intro w G hG;refine ag ?_;refine Kh Tryz.results116 B (G.at 1 B) de B bA ?_;subst rC;exact ⟨_,_,p',dI,rs,B,.vEnts I3 U0 aO7 (jP▸cu),c9,xg,fp,lG,G.drop 3⟩
  refine an ?_;refine S B B (ga (s:=sub s a n) (u:=([]:List UInt8)) B B B) ?_;refine aG ?_;refine Z (λml=>?_) (λml=>?_)
  ·have sp:¬ starts (sub s a n) k:=by
    rintro (⟨h,h2⟩ | h | ⟨h,_⟩)
    ·exact absurd h2 (by rintro (Y | Y);exact c8.1 Y;exact c8.2 Y)
    . rcases ml with Y | Y
      ·exact eN.ne I Y
      ·omega
    . rcases ml with Y | Y
      ·exact eN.ne I Y
      ·omega
   exact aAe
  refine bz ?_;refine aN B B B aO (λhc=>kO (s:=sub s a n) (u:=[110,117,108,108]) B ay B) ?_;refine an ?_;refine aN B B B aO (λhc=>kO (s:=sub s a n) (u:=[116,114,117,101]) B ay B) ?_;refine an ?_;refine aN B B B aO (λhc=>kO (s:=sub s a n) (u:=[102,97,108,115,101]) B ay B) ?_;refine ae ?_;refine Z (λiT=>?_) (λiT=>?_)
  ·refine an ?_;refine bo G (Tb (sub s a n) _ cR) Tryz.func185 B B B B B B ?_;intro w G bU7;refine ab ?_;refine Z (λBp=>?_) (λBp=>?_)
   ·have sp:¬ starts (sub s a n) k:=by
     have h6:k=6:=I;subst h6;exact bYv Bp iT.1.1.2 iT.1.2 iT.2
    exact aAe
   refine ab ?_;exact ⟨_,B,by
    have h6:k=6:=I;subst h6;exact ⟨aV6 eN (.inl Bp),by decide⟩,B,B,B,B,B,G⟩
  refine ab ?_;exact ⟨_,B,by
   rcases eN.kd with ap | ar | bd | h6
   ·exact absurd (eN.z ap) ml.1
   ·exact absurd ar I
   ·exact ⟨.inr (.inl bd),I⟩
   . subst h6
     refine ⟨aV6 eN (.inr ?_),by decide⟩;rcases iT with ((h | h) | h) | h
     ·exact absurd B h
     ·exact .inl h
     ·exact .inr (.inl h)
     ·exact .inr (.inr h),B,B,B,B,B,G⟩
 intro f w ai;obtain ⟨ck,aB,aR,aL,bb,b6,G⟩:=ai;refine aq ?_;refine jA (aI1 aA _ b s D N af aj ak p nodes _ _ (G.pick 3 B) hs I I dF dr k (sub s a n) a depth) Tryz.func183 B B B B B (aX B (aX B (aX B B))) (λx w cc=>?_) ?_
 ·exact o8 cc λo e _ h=>by rcases h with ⟨h1,rfl,rfl⟩ | ⟨h1,h2,rfl,rfl⟩;exact .vDepth ck.1 h1;exact .vNodes ck.1 h1 h2
 rintro Y0 w ⟨rfl,aNy,aO8,G⟩;replace G:=G.unpick ((eZ,aa 72 [J 2,M lead,M (sub s a n),al,M []])::(cP,aa 72 [J 0,M [],M [],al,M []])::(bq,aa 150 [J k,M (sub s a n),J a])::(b,.cells (hH s D N af aj ak p nodes).toArray 129)::L) 3 B;refine az ?_;refine bG G (bBl (sub s a n) k _ I eN ck.1 ck.2) Tryz.func119 B B B B B B ?_;intro cBy w G OD Wh;obtain ⟨sc,mX,ix,qf,iy,yC,rfl,cPo,cPp,cPq,aQd⟩:=Wh;refine ae ?_;refine fD ?_;intro lr w G En xn;refine lO ?_;intro w G sE;refine S B B (av (v:=(J yC)) B B) ?_;refine az ?_;refine Z (λUT=>?_) (λUT=>?_)
 ·have aNn:yC≠0:=I;refine an ?_;refine jA (wI a yC aA _ G.ext) ww B B B B B (aX B (aX B B)) (λx w cc=>?_) ?_
  ·exact Ye cc aNn (.vScE ck.1 aNy aO8 ck.2 aQd aNn)
  exact qS
 refine an ?_;refine bn G 2 B B B bb B B bA B B ?_;intro w G l0;refine ag ?_;refine Kh Tryz.results116 bb (G.at 2 B) de B bA ?_;have e0:yC=0:=I;subst e0;exact ⟨.mk 2 lead (sub s a n) [] [],_,p,nodes+1,[],B,jP▸.vSc ck.1 aNy aO8 ck.2 aQd,NR.leaf _ _ _ _ _,bV _,hp,I,G.drop 4⟩
end Go.Proofs.YthiafbkolhnadaaGreatDoor
end
section
namespace Go.Dk
open Go Go.RowKit Go.Lib Go.Proofs.YthiafbkolhnadaaGreatDoor
def Fin1 (Q:Exit->Act->World->Prop)(eu:Act->World->Prop):Exit->Act->World->Prop
 | .normal,a,w=>eu a w
 | .panic c,a,w=>∀ eb:Act,eb.defers=a.defers->Q (.panic c) eb w
 | _,_,_=>False
theorem Fin1.shut {Q:Exit->Act->World->Prop}{eu:Act->World->Prop}:¬ LetsOut (Fin1 Q eu):=λ⟨_,_,h⟩=>h
theorem bL5 {Q:Exit->Act->World->Prop}{eu:Act->World->Prop}{c:List PanicEntry}{a:Act}{w:World}(h:∀ eb:Act,eb.defers=a.defers->Q (.panic c) eb w):Fin1 Q eu (.panic c) a w:=h
def zY (P:Program)(ops:Array Oper)(bi:List (Nat×Nat))(Q:Exit->Act->World->Prop)(cX:World->Prop):Nat->Array Bool->Act->World->Prop
 | 0,_,_,_=>False
 | k+1,l,a,w=>(Region.ready .any ops l=[]->Q .normal a w) /\
  ∀ i∈Region.ready .any ops l,∃ o,ops[i]?=some o/\wpList P ops (Fin1 Q λeb w'=>(cX w'\/rM ops bi i=true)/\zY P ops bi Q cX k (l.setIfInBounds i true) eb w') [o] a w
section
variable {P:Program} {ops:Array Oper} {Q:Exit->Act->World->Prop} {cX:World->Prop} {bi:List (Nat×Nat)}
theorem cEl {o:Oper}{bad bad':Nat->Prop}{a b:Act}{w:World}{eu K':Act->World->Prop}(rF:∀ cs b,o.op≠.select cs b)(h:Rl bad a b)(hl:∀ t∈o.looksAt ops,¬ bad t)(hb:∀ x,¬ bad' x->o.dst=some x\/¬ bad x)
  (ep:∀ eb q8 w',Rl bad' eb q8->(∃ v df,q8=({ b with defers:=df }:Act).put o.dst v)->eu q8 w'->K' eb w') (H:wpList P ops (Fin1 Q eu) [o] b w) :
  if Region.wanted o (yielded ops a.tmps) then o.wp P a w K' Q else K' (a.put o.dst undef) w:=by
 obtain ⟨h1,h2⟩:=J0 h hl;unfold wpList at H;rw [<- h2] at H;split
 . rename_i hw
   rw [U hw] at H;rcases H with H | ⟨_,H⟩
   . unfold Oper.wp at *
     rw [execOp_congr o rF h1]
     generalize (execOp b.eval o).run P w=r at *
     cases r with
     | ok n w' =>
      cases n <;> simp only [Oper.upon] at H ⊢
      case value u=>exact ep _ _ _ (h.put _ _ hb) ⟨u,b.defers,rfl⟩ H
      case skip=>exact ep _ _ _ (h.put _ _ hb) ⟨undef,b.defers,rfl⟩ H
      case defer d =>
       exact aA6
      case enter f args =>
       refine Calls.mono H λe xT he=>?_
       cases e with
       | returned u=>exact ep _ _ _ (h.put _ _ hb) ⟨u,b.defers,rfl⟩ he
       | panicked c=>exact he a h.df
       | outgrown=>exact (Fin1.shut he).elim
      case row row args=>exact Rows.mono H λu xT he=>ep _ _ _ (h.put _ _ hb) ⟨u,b.defers,rfl⟩ he
     | halt x w' =>
      cases x <;> simp only [Oper.upon] at H ⊢
      case panic u=>exact H a h.df
   ·exact (Fin1.shut H).elim
 . rename_i hw
   rw [O hw] at H;exact ep _ _ _ (h.put _ _ hb) ⟨undef,b.defers,B⟩ H
theorem aTx (dj:mZ ops bi=true){k:Nat}{cN l:Array Bool}{a b:Act}{w:World}(hs:cN.size=ops.size)(hl:l.size=ops.size)
  (hm:∀ i,i<ops.size->dO l i=(dO cN i||bi.any (λq=>gU q.1 i))) (hr:Rl (λx=>∃ p∈bi,p.2=x/\dO cN p.1=false) a b) (hx:zY P ops bi Q cX k l b w) (ap:Region.ready .any ops cN=[]):Q .normal a w:=by
 exact Z7
theorem bZv (dj:mZ ops bi=true):∀ (pA k:Nat) (cN l:Array Bool) (a b:Act) (w:World),cN.toList.count false<=pA->cN.size=ops.size->l.size=ops.size ->
  (∀ i,i<ops.size->dO l i=(dO cN i||bi.any (λq=>gU q.1 i)))->(∀ j,dO cN j=true->∀ e∈rh ops j,dO cN e=true) ->
  Rl (λx=>∃ p∈bi,p.2=x/\dO cN p.1=false) a b->(cX w\/∀ p∈bi,dO cN p.1=true) ->
  (∀ p∈bi,dO cN p.1=false->∃ o v,ops[p.1]?=some o/\b.tmps[p.2]?=some v/\Region.wanted o (yielded ops b.tmps)=true/\∀ w',cX w'->(execOp b.eval o).run P w'=.ok (.value v) w') ->
  zY P ops bi Q cX k l b w->wpAny P .any ops Q pA cN a w:=by
 intro pA
 induction pA with
 | zero =>
  intro k cN l a b w hf hs hl hm j1 hr lz hp hx;have ap:Region.ready .any ops cN=[]:=by
   exact aAi
  exact ⟨ap,aTx dj hs hl hm hr hx ap⟩
 | succ pA ih =>
  intro k cN l a b w hf hs hl hm j1 hr lz hp hx;refine ⟨aTx dj hs hl hm hr hx,λi hi=>?_⟩;obtain ⟨BD,yZ,BC⟩:=(Cv hs).1 hi;have hcnt:=TA (l:=cN) I yZ;obtain ⟨o,au⟩:∃ o,ops[i]?=some o:=⟨_,KP BD⟩;have rF:∀ cs bl,o.op≠.select cs bl:=λcs bl=>Region.noSelect_spec (MJ dj) i o cs bl au
  have I2:∀ t∈o.looksAt ops,¬ ∃ p∈bi,p.2=t/\dO cN p.1=false:=by
   exact aBd
  have qw:∀ j,dO (cN.setIfInBounds i true) j=(dO cN j||gU i j):=λj=>XK I
  have UW:∀ j,dO (cN.setIfInBounds i true) j=true->∀ e∈rh ops j,dO (cN.setIfInBounds i true) e=true:=by
   exact aA2
  unfold wpOp;simp only [au];by_cases zd:bi.any (λq=>gU q.1 i)=true
  . obtain ⟨p,km,rH⟩:=DJ.1 zd
    exact aBo
  . have N4:bi.any (λq=>gU q.1 i)=false:=by
      cases a1:bi.any (λq=>gU q.1 i) with
      | true=>exact absurd a1 zd
      | false=>rfl
    cases k with
    | zero=>exact hx.elim
    | succ k =>
    have hS:i∈Region.ready .any ops l:=(Cv hl).2 ⟨BD,by rw [hm i BD,yZ,N4];rfl,λe he=>by
     rw [hm e (by have:=D1 dj i e he;omega),BC e he];rfl⟩
    obtain ⟨gu,tS,n5⟩:=hx.2 i hS;obtain rfl:o=gu:=by rw [au] at tS;exact mb tS
    have key:=cEl (Q:=Q) (bad':=λx=>∃ p∈bi,p.2=x/\dO (cN.setIfInBounds i true) p.1=false) (K':=wpAny P .any ops Q pA (cN.setIfInBounds i true)) rF hr I2 (λx hx=>.inr λsp=>by
      obtain ⟨p,km,ff,EQ⟩:=sp;refine hx ⟨p,km,ff,?_⟩;rw [qw,EQ];cases hb:gU i p.1
      ·rfl
      . exfalso
        refine zd (DJ.2 ⟨p,km,?_⟩);rw [Nat.eq_of_beq_eq_true hb,Nat.beq_refl]) ?_ n5
    . split
      ·rename_i hw;rw [U hw] at key;exact .inl key
      ·rename_i hw;rw [O hw] at key;exact key
    . rintro eb q8 w' lY ⟨u,df,rfl⟩ ⟨aM5,hx2⟩
      exact aA9
end
section
variable {P:Program} {Q:Exit->Act->World->Prop} {cX:World->Prop} {w w0:World} {L:List (Nat×Obj)} {R:List Row} {n:Nat} {f:Nat->Value}
theorem cHm {id:Nat}{l:List Oper}(G:Cxr w0 w L R)(hm:P.follows .mixedOrders=true)(bi:List (Nat×Nat))(m:Array Bool)(cX:World->Prop)(g:Nat->Value)
  (dj:mZ l.toArray bi=true) (mr:zr l.toArray bi m=true) (hn:∀ p∈bi,p.2<n) (pE:∀ x,(∀ p∈bi,p.2≠x)->f x=g x)
  (aRh:∀ p∈bi,∃ o,l[p.1]?=some o/\Region.wanted o (yielded l.toArray (aC n g).tmps)=true)
  (hp:∀ w',cX w'->∀ p∈bi,∃ o,l[p.1]?=some o/\(execOp (aW n g) o).run P w'=.ok (.value (g p.2)) w')
  (h:∀ w',Cxr w0 w' L R->Below w.heap.size w w'->w'.heap=w.heap->cX w'/\zY P l.toArray bi Q cX (l.length+1) m (aC n g) w'):(Code.region id l.toArray true).wp P Q (aC n f) w:=by
 refine wp_region_any hm ?_;obtain ⟨lz,rn⟩:=h w.drew G.draw ⟨rfl,rfl,rfl,bV _,λ_ _=>rfl⟩ rfl;unfold zr at mr;simp only [fS,Nat.beq_eq,p7,List.mem_range,beq_iff_eq] at mr;have ec:(CV l.toArray.size false).size=l.toArray.size:=by simp
 have hf:∀ j,dO (CV l.toArray.size false) j=false:=by
  intro j;unfold dO;by_cases ax:j<l.length <;> simp [ax]
 refine bZv dj _ _ _ m (aC n f) (aC n g) w.drew ?_ ec mr.1 (λi hi=>by rw [hf,mr.2 i hi];simp) (λj ax=>by rw [hf] at ax;cases ax) ⟨B,by simp [aC],λx hx=>?_⟩ (.inl lz) ?_ rn
 . have:=List.count_le_length (a:=false) (l:=(CV l.toArray.size false).toList)
   simp at this ⊢
 . simp only [aC,Array.getElem?_ofFn]
   split
   ·rw [pE x λp hp e=>hx ⟨p,hp,e,hf _⟩]
   ·rfl
 . intro p km _
   exact aAa
theorem cHl {id:Nat}{l:List Oper}{qa:List (Nat×Obj)}(G:Cxr w0 w L R)(HL:Cxr w0 w qa [])(hm:P.follows .mixedOrders=true)(bi:List (Nat×Nat))(m:Array Bool)
  (dj:mZ l.toArray bi=true) (mr:zr l.toArray bi m=true) (hn:bi.all (λp=>qb p.2 n)=true) (hi:Cb bi=true)
  (h:xU P l.toArray n (λw'=>Cxr w0 w' qa []) (λg=>∀ w',Cxr w0 w' L R->Below w.heap.size w w'->zY P l.toArray bi Q (λw'=>Cxr w0 w' qa []) (l.length+1) m (aC n g) w') bi f):(Code.region id l.toArray true).wp P Q (aC n f) w:=by
 obtain ⟨g,rm,pE,hall⟩:=Qi dj bi f (λ_ h=>h) hi h;refine cHm G hm bi m (λw'=>Cxr w0 w' qa []) g dj mr (λp hp=>by have:=p7.1 hn p hp;simpa using this) pE (λp hp=>?_) (λw' lz p hp=>?_) λw' hc hb he=>⟨HL.call hb,rm w' hc hb⟩
 ·obtain ⟨o,h1,h2,_⟩:=hall p hp;exact ⟨o,by simpa using h1,h2⟩
 ·obtain ⟨o,h1,_,h2⟩:=hall p hp;exact ⟨o,by simpa using h1,h2 w' lz⟩
variable {ops:Array Oper} {l:Array Bool} {k:Nat} {a:Act} {bi:List (Nat×Nat)}
theorem cH3 (hr:Region.ready .any ops l=[])(h:Q .normal a w):zY P ops bi Q cX (k+1) l a w:=by
 refine ⟨λ_=>h,?_⟩;rw [hr];intro i hi;cases hi
theorem KM {i:Nat}{o:Oper}(hr:Region.ready .any ops l=[i])(au:ops[i]?=some o)(h:wpList P ops (Fin1 Q λeb w'=>(cX w'\/rM ops bi i=true)/\zY P ops bi Q cX k (l.setIfInBounds i true) eb w') [o] a w):zY P ops bi Q cX (k+1) l a w:=by
 exact aBm
theorem cAw {P:Program}{fn:Func}{T E:Value->World->Prop}{a:Act}{w:World}{x:Value}(a6:a.defers=[])(h:E x w):bodyPost P fn (uI T E) (.panic (q2 x)) a w:=⟨a6,.inr ⟨x,rfl,h⟩⟩
theorem KL {eu:Act->World->Prop}(h:eu a w):wpList P ops (Fin1 Q eu) [] a w:=h
end
end Go.Dk
end
section
namespace Go.Proofs.YthiafbkolhnadaaGreatDoor
open Go Go.Dk Go.RowKit Go.Lib
attribute [local irreducible] Go.wpList Go.Code.wp Go.bodyPost Go.wpStill Go.wpQuiet
theorem Hz (bj:Nat)(w:World):(Instr.build 72 ([(0,(J bj))]:List (Nat×Value)).toArray).run W w=.ok (.agg #[J bj,M [],M [],al,M []]) w:=by
 go_simp
 try rfl
theorem cAy {P:Program}{fn:Func}{T:Value->World->Prop}{aA w:World}{x:Value}{a:Act}{A ea:Nat->Nat->Prop}(a6:a.defers=[])(h:q1 aA A x w)(hp:∀ o e,e≠0->A o e->ea o e):bodyPost P fn (uI T (q1 aA ea)) (.panic (q2 x)) a w:=by
 obtain ⟨o,e,hx,he,Em,hb⟩:=h;exact cAw a6 ⟨o,e,hx,he,hp o e he Em,hb⟩
theorem bCi (depth:Nat)(UY:depth<=48)(yN:Mq (depth+1)):aBz depth:=by
 intro m aA w0 b s D N af aj ak p nodes L R cM hs hp kl dF dr lead x hx aO4;subst hx;refine zC Tryz.func184 B Tryz.ntmps184 B ?_;have G:=cM;refine ag ?_;refine bE ?_;intro bp w G gW gN;refine dv ?_;intro bq w G gX hF;refine an ?_;refine bR (v:=(J 3)) G 1 B B B B B B B B bN ?_;intro w G ko;refine aq ?_;refine cw (λf ah=>f 7=M ([clb m])/\f 0=ao b 0/\f 2=J depth/\f 4=ao bp 0/\f 6=ao bq 0/\Cxr aA ah ((bq,aa 72 [J 0,M [],M [],al,M []])::(bp,aa 72 [J (kdm m),M lead,M ([opb m]),al,M []])::(b,.cells (hH s D N af aj ak p nodes).toArray 129)::L) (R)) ?_ ?_
 ·refine an ?_;refine S B B (ga (s:=[opb m]) (u:=[123]) B B B) ?_;refine ab ?_;refine Z (λef=>?_) (λef=>?_)
  ·have hm:m=true:=by cases m;exact absurd ef (by decide);rfl
   subst hm;refine ag ?_;refine bR (v:=(J 4)) G 1 B B B B B B B B bN ?_;intro w G hG;refine ag ?_;exact KZ
  have hm:m=false:=by cases m;rfl;exact absurd B ef
  subst hm;refine ab ?_;exact KZ
 intro f w ai;obtain ⟨aS,aB,aE,aM,aL,G⟩:=ai;refine ag ?_;refine Gj ?_;intro q9 w G aNg E6;refine ae ?_;refine bu (λg f ah=>∃ (q nd:Nat) (kids:List T) (keys:List (List UInt8)) (kv:Value) (css:List (List Value)) (rs:List Row),g=s.length-q/\(q<=s.length)/\(p<=q)/\(nd<=N)/\(keys.Nodup)/\(kids.length<=q)/\(NL rs kids css)/\(∀ r,Pr cx s D N (.ents m depth kids keys q nd) r->Pr cx s D N (.ents m depth [] [] p nodes) r)/\f 0=ao b 0/\f 2=J depth/\f 4=ao bp 0/\f 6=ao bq 0/\f 7=M ([clb m])/\f 8=.map (some q9)/\Cxr aA ah ((q9,fK keys)::(bq,aa 72 [J 0,M [],M [],al,M []])::(bp,aa 72 [J (kdm m),M lead,M ([opb m]),kv,M []])::(b,.cells (hH s D N af aj ak q nd).toArray 129)::L) (⟨72,5,kv,kids.length,css.flatten⟩::(rs++R))) ((λ(q:Nat)=>s.length-q) p) ?_ ?_
 ·exact ⟨p,nodes,[],[],al,[],[],B,hp,bV _,aO4,List.nodup_nil,bU _,NL.nil [],λr h=>h,aB,aE,aM,aL,aS,B,(G.nilRow 72 5)⟩
 intro Nh f w ai;obtain ⟨q,nd,kids,keys,kv,css,rs,aOe,aw,j4,xa,gh,bQm,hP,e2,aB,aE,aM,aL,aS,bb,G⟩:=ai;refine an ?_;refine jA (DW aA _ b s D N af aj ak q nd _ _ (G.pick 3 B) hs I I dF dr) DL B B B B B (aX B B) (λx w cc=>?_) ?_
 ·exact o8 cc λo e he h=>e2 _ (.eTok h he)
 rintro v20 w ⟨a20,Fp,kr,tW,rfl,G⟩;replace G:=G.unpick ((q9,fK keys)::(bq,aa 72 [J 0,M [],M [],al,M []])::(bp,aa 72 [J (kdm m),M lead,M ([opb m]),kv,M []])::(b,.cells (hH s D N af aj ak q nd).toArray 129)::L) 3 B;have Bi:=tW.len I;refine ae ?_;refine ov ?_;intro lr w G En xn;refine S B B (av (v:=(M (sub s q (a20-q)))) B B) ?_;refine pY ?_;intro w G jt;refine aG ?_;refine S B B (ga (s:=sub s a20 kr) (u:=[clb m]) B B B) ?_;refine ab ?_;refine Z (λlV=>?_) (λlV=>?_)
 ·refine an ?_;have j2:=vO s q (a20-q);refine S B B (iJ (a:=sub s q (a20-q)) (b:=[clb m]) B B B FK) ?_;refine ab ?_;refine bR (v:=(M ((sub s q (a20-q))++([clb m])))) G 3 B B B B B B B B gA ?_;intro w G qy;refine an ?_;refine bn G 2 B B B aL B B bA B (lL G.oneS) ?_;intro w G oY;refine ag ?_;refine Kh Tryz.results184 aL (G.at 2 B) de B bA ?_;exact ⟨kids,sub s q (a20-q)++[clb m],_,a20+kr,nd,_::rs,B,e2 _ (.eEnd tW lV),(hP.mono λr h=>bP _ h).node B (b9 ..) _ _ _ _,I,I,xa,G.drop 4⟩
 have B5:=lV;refine ae ?_;refine RP ?_;refine dv ?_;intro da w G tD pN;refine hX ?_;intro w G lI;refine ab ?_;refine cw (λf ah=>∃ (y:Kr) (k5:Nat) (aW:Value) (ecs:List (List Value)),(KeyP s keys (sub s q (a20-q)) a20 Fp kr m (.inr y))/\(y.keys.Nodup)/\(NL [] y.kids ecs)/\(y.kids.length<=2)/\(y.a+y.n<=s.length)/\(q<=y.a+y.n)/\(k5<=s.length)/\(Tok s k5 (0,y.a,y.k,y.n))/\f 9=M y.lead/\f 8=.map (some q9)/\f 0=ao b 0/\f 2=J depth/\f 4=ao bp 0/\f 6=ao bq 0/\f 7=M ([clb m])/\f 10=ao lr 0/\f 11=ao da 0/\Cxr aA ah ((da,aa 72 [J 5,M [],M [],aW,M []])::(lr,aa 150 [J y.k,M (sub s y.a y.n),J y.a])::(q9,fK y.keys)::(bq,aa 72 [J 0,M [],M [],al,M []])::(bp,aa 72 [J (kdm m),M lead,M ([opb m]),kv,M []])::(b,.cells (hH s D N af aj ak (y.a+y.n) nd).toArray 129)::L) (⟨72,5,aW,y.kids.length,ecs.flatten⟩::⟨72,5,kv,kids.length,css.flatten⟩::(rs++R))) ?_ ?_
 ·refine az ?_;refine Z (λh9=>?_) (λh9=>?_)
  ·have hm:m=true:=by cases m;exact absurd h9 (by decide);rfl
   refine az ?_;refine jA (bDe q9 keys aA _ b s D N af aj ak (a20+kr) nd _ _ ((G.pick 2 B).pick 5 B) hs I I dF dr (sub s q (a20-q)) a20 Fp kr q gh tW aw B) Tryz.func261 B B B B B (aX B (aX B (aX B (aX B B)))) (λx w cc=>?_) ?_
   ·exact o8 cc λo e _ h=>e2 _ (.eKey tW B5 (by rw [hm];exact h))
   rintro KC w ⟨key,a2,k2,n2,jN,vi,lE,kI,ht2,jc,G⟩;replace G:=G.unpick ((q9,fK (keys++[key]))::(da,aa 72 [J 5,M [],M [],al,M []])::(lr,aa 150 [J Fp,M (sub s a20 kr),J a20])::(bq,aa 72 [J 0,M [],M [],al,M []])::(bp,aa 72 [J (kdm m),M lead,M ([opb m]),kv,M []])::(b,.cells (hH s D N af aj ak (a20+kr) nd).toArray 129)::L) 5 B;replace G:=G.unpick ((da,aa 72 [J 5,M [],M [],al,M []])::(lr,aa 150 [J Fp,M (sub s a20 kr),J a20])::(q9,fK keys)::(bq,aa 72 [J 0,M [],M [],al,M []])::(bp,aa 72 [J (kdm m),M lead,M ([opb m]),kv,M []])::(b,.cells (hH s D N af aj ak (a2+n2) nd).toArray 129)::L) 2 B;have di:=ht2.len I;refine ab ?_;refine bR (v:=KC) G 0 B B B B B G.oneS B B mK ?_;intro w G n1;refine ae ?_;refine jA (DW aA _ b s D N af aj ak (a2+n2) nd _ _ (G.pick 5 B) hs I I dF dr) DL B B B B B (aX B B) (λx w cc=>?_) ?_
   ·exact o8 cc λo e he h=>e2 _ (.eKey (oe:=(o,e)) tW B5 (by rw [hm];exact .tokE jN vi lE kI ht2 jc h he))
   rintro aW6 w ⟨sb,JL,Cg,zg,rfl,G⟩;replace G:=G.unpick ((da,aa 72 [J 5,M [],M [],KC,M []])::(lr,aa 150 [J Fp,M (sub s a20 kr),J a20])::(q9,fK (keys++[key]))::(bq,aa 72 [J 0,M [],M [],al,M []])::(bp,aa 72 [J (kdm m),M lead,M ([opb m]),kv,M []])::(b,.cells (hH s D N af aj ak (a2+n2) nd).toArray 129)::L) 5 B;have Ix:=zg.len I;refine ae ?_;refine S B B (av (v:=(M (sub s (a2+n2) (sb-(a2+n2))))) B B) ?_;refine QU ?_;intro w G np;refine ab ?_;exact ⟨_,B,⟨[.mk 6 (sub s q (a20-q)) (sub s a20 kr) [] [],.mk 11 (sub s (a20+kr) (a2-(a20+kr))) [58] [] []],keys++[key],sub s (a2+n2) (sb-(a2+n2)),sb,JL,Cg⟩,a2+n2,KC,[nrow 6 (sub s q (a20-q)) (sub s a20 kr) (al) [],nrow 11 (sub s (a20+kr) (a2-(a20+kr))) [58] (al) []],(by rw [hm];exact .ok jN vi lE kI ht2 jc zg),Pj gh kI,((NL.nil []).snoc (NR.leaf _ _ _ _ _)).snoc (NR.leaf _ _ _ _ _),bV _,jU,jU,I,zg,B,bb,aB,aE,aM,aL,aS,B,B,(G.row_eq B (by simp))⟩
  have hm:m=false:=by cases m;rfl;exact absurd B h9
  refine ab ?_;exact ⟨_,B,⟨[],keys,sub s q (a20-q),a20,Fp,kr⟩,q,al,[],(by rw [hm];exact .list),gh,NL.nil [],bU _,jU,jU,aw,tW,B,bb,aB,aE,aM,aL,aS,B,B,(G.nilRow 72 5)⟩
 intro f w ai;obtain ⟨y,k5,aW,ecs,pK,EF,IZ,bQw,Xk,ju,kK,zh,b6,bb,aB,aE,aM,aL,aS,cp,cv,G⟩:=ai;refine ab ?_;refine cHl G (G.pick2 0 1 B B B) mixed [(0,47),(1,48),(2,49),(3,50),(4,51),(5,52),(6,53)] #[true,true,true,true,true,true,true,false,false,false,false,false] ac ac ac ac ?_;refine i1 ?_;refine lk ?_;refine cW ?_;intro w G Fb;refine KM (i:=7) ac B ?_;refine jA (yN aA _ b s D N af aj ak (y.a+y.n) nd _ _ (G.pick 5 B) hs I I dF dr y.lead y.a y.k y.n k5 zh kK B) Tryz.func116 B B B B B (aX B (aX B (aX B (aX B B)))) (λx w cc=>?_) ?_
 ·refine bL5 λa a6=>?_
  exact cAy a6 cc λo e _ h=>e2 _ (.eVal tW B5 pK h)
 rintro aW8 w ⟨t,cs,p',dI,rs2,rfl,cu,c9,xg,fp,lG,G⟩;replace G:=G.unpick ((da,aa 72 [J 5,M [],M [],aW,M []])::(lr,aa 150 [J y.k,M (sub s y.a y.n),J y.a])::(q9,fK y.keys)::(bq,aa 72 [J 0,M [],M [],al,M []])::(bp,aa 72 [J (kdm m),M lead,M ([opb m]),kv,M []])::(b,.cells (hH s D N af aj ak (y.a+y.n) nd).toArray 129)::L) 5 B;obtain ⟨cB,n2,n3,rfl⟩:=c9.formQ G;replace G:=G.grab2Q;refine KL ⟨.inl (G.pick2 0 1 B B B),?_⟩;refine KM (i:=8) ac B ?_;refine lg ?_;intro aZs w G bNw aQ3;refine KL ⟨.inl (G.pick2 1 2 B B B),?_⟩;refine KM (i:=9) ac B ?_;refine aCp ?_;intro zQ w G bP3;replace G:=G.drop 1;refine KL ⟨.inr ac,?_⟩;refine KM (i:=10) ac B ?_;refine ab ?_;refine KL ⟨.inr ac,?_⟩;refine KM (i:=11) ac B ?_;refine bR (v:=zQ) G 0 B B B B B G.oneS B B mK ?_;intro w G l0;refine KL ⟨.inr ac,?_⟩;refine cH3 ac ?_;refine ae ?_;refine jA (DW aA _ b s D N af aj ak p' dI _ _ (G.pick 5 B) hs I I dF dr) DL B B B B B (aX B B) (λx w cc=>?_) ?_
 ·exact o8 cc λo e he h=>e2 _ (.eTok2 tW B5 pK cu h he)
 rintro cUj w ⟨me,OT,zv,Jt,rfl,G⟩;replace G:=G.unpick ((da,aa 72 [J 5,M [],M [],zQ,M []])::(lr,aa 150 [J y.k,M (sub s y.a y.n),J y.a])::(q9,fK y.keys)::(bq,aa 72 [J 0,M [],M [],al,M []])::(bp,aa 72 [J (kdm m),M lead,M ([opb m]),kv,M []])::(b,.cells (hH s D N af aj ak p' dI).toArray 129)::L) 5 B;have bNx:=Jt.len I;refine ae ?_;refine S B B (av (v:=(M (sub s p' (me-p')))) B B) ?_;refine bn G 1 B B B cp B B og B B ?_;intro w G sF;refine az ?_;refine S B B (ga (s:=sub s me zv) (u:=[44]) B B B) ?_;refine ab ?_;refine Z (λva=>?_) (λva=>?_)
 ·have cOy:p'+1<=me+zv:=by
   have h1:=aD eC va;rw [qN I] at h1;have h2:zv=1:=h1;omega
  refine aq ?_;refine S B B (cd (qs:=[(0,(J 11)),(1,(M (sub s p' (me-p')))),(2,(M ([44])))]) (AQ _ _ _) B B) ?_;refine lg ?_;intro cJi w G cL0 WY;refine s8 ?_;intro P9 w G cNw;replace G:=G.drop 1;refine ab ?_;refine bR (v:=P9) G 0 B B B B B G.oneS B B mK ?_;intro w G B2;refine az ?_;refine lg ?_;intro cJj w G cL1 bVa;replace G:=G.swapQ;have bR1:=(G.swapQ).oneS;refine nu G D7 dx B B B B B (G.row 0 B) B (lL bR1) I ?_;intro cGl w G cNz;replace G:=G.drop 1;refine ab ?_;refine bR (v:=cGl) G 4 B B B B B G.oneS B B mK ?_;intro w G xp;refine ag ?_;have u2:NL (⟨72,5,P9,y.kids.length+1+1,ecs.flatten++nrow t.kind t.lead t.text (.slice cB n2 n3) t.tail++nrow 11 (sub s p' (me-p')) [44] (al) []⟩::(rs2++rs)) (kids++[.mk 5 [] [] (y.kids++[t,.mk 11 (sub s p' (me-p')) [44] [] []]) []]) (css++[nrow 5 [] [] P9 []]) :=
   (hP.mono λr h=>bP _ (h0 _ h)).snoc (IZ.ent2 (λr h=>absurd h mT) (c9.mono λr h=>bP _ (iM _ h)) (NR.leaf _ _ _ _ _) rfl (b9 ..))
  exact ⟨_,_,I,B,me+zv,dI,kids++[.mk 5 [] [] (y.kids++[t,.mk 11 (sub s p' (me-p')) [44] [] []]) []],y.keys,_,css++[nrow 5 [] [] P9 []],_::(rs2++rs),B,I,I,lG,EF,J8,u2,λr h=>e2 r (.eMore tW B5 pK cu Jt va h),aB,aE,aM,aL,aS,bb,((G.drop 2).row_eq sK (by rw [List.flatten_append,pi,List.flatten_nil,cH];rfl))⟩
 refine az ?_;refine lg ?_;intro cJl w G cL2 cQy;replace G:=G.swapQ;have bR0:=(G.swapQ).oneS;refine nu G D7 dx B B B B B (G.row 0 B) B (lL bR0) I ?_;intro aXb w G cN1;replace G:=G.drop 1;refine ab ?_;refine bR (v:=aXb) G 4 B B B B B G.oneS B B mK ?_;intro w G B3;refine aG ?_;refine S B B (kO (s:=sub s me zv) (u:=[clb m]) B B B) ?_;refine ab ?_;refine Z (λtI=>?_) (λtI=>?_)
 ·refine ae ?_;refine jA (HC aA _ b s D N af aj ak (me+zv) dI _ _ (G.pick 5 B) hs I I dF dr OT OT (sub s me zv) me (vT Jt fp)) Tryz.func117 B B B B B (aX B (aX B B)) (λx w cc=>?_) ?_
  ·exact o8 cc λo e _ h=>by rw [show o=(unx s me OT).1 by rw [<- h],show e=(unx s me OT).2 by rw [<- h]];exact e2 _ (.eBad tW B5 pK cu Jt tI va)
  exact qS
 refine aq ?_;have j2:=vO s p' (me-p');refine S B B (iJ (a:=sub s p' (me-p')) (b:=[clb m]) B B B FK) ?_;refine ab ?_;refine bR (v:=(M ((sub s p' (me-p'))++([clb m])))) G 4 B B B B B B B B gA ?_;intro w G Fe;refine an ?_;refine bn G 3 B B B aL B B bA B (lL G.oneS) ?_;intro w G W8;refine ag ?_;refine Kh Tryz.results184 aL (G.at 3 B) de B bA ?_;have u2:NL (⟨72,5,zQ,y.kids.length+1,ecs.flatten++nrow t.kind t.lead t.text (.slice cB n2 n3) t.tail⟩::(rs2++rs)) (kids++[.mk 5 [] [] (y.kids++[t]) []]) (css++[nrow 5 [] [] zQ []]) :=
  (hP.mono λr h=>bP _ (h0 _ h)).snoc (IZ.ent (λr h=>absurd h mT) (c9.mono λr h=>bP _ (iM _ h)) rfl (b9 ..))
 exact ⟨kids++[.mk 5 [] [] (y.kids++[t]) []],sub s p' (me-p')++[clb m],_,me+zv,dI,_::_::(rs2++rs),B,e2 _ (.eLast tW B5 pK cu Jt tI),(u2.mono λr h=>bP _ h).node (n:=kids.length+1) sK X5 _ _ _ _,I,I,lG,G.drop 5⟩
theorem aIa (bj:Nat)(bg KJ KK:Nat)(w:World):(Instr.build 72 ([(0,(J bj)),(3,.slice (some ⟨bg,0,none⟩) KJ KK)]:List (Nat×Value)).toArray).run W w=.ok (.agg #[J bj,M [],M [],.slice (some ⟨bg,0,none⟩) KJ KK,M []]) w:=by
 go_simp
 try rfl
theorem Zg:∀ k:Nat,Mq (49-k)
 | 0=>aIm 49 (by decide) (λh=>absurd h (by decide))
 | k+1=>by
  rcases ma k 49 with h | h
  ·exact aIm _ I (λh2=>bCi _ h2 (by rw [show 49-(k+1)+1=49-k by omega];exact Zg k))
  ·rw [show 49-(k+1)=49-k by omega];exact Zg k
theorem cHc:Mq 1:=Zg 48
theorem Tr (aA w0:World)(b:Nat)(s:List UInt8)(D N:Nat)(af aj ak:Int)(L:List (Nat×Obj))(R:List Row)(cM:Cxr aA w0 ((b,.cells (hH s D N af aj ak 0 0).toArray 129)::L) R)(hs:s.length<=1000000)(dF:D<=48)(dr:N<=65536):r8 W 65 [ao b 0] w0 (λv w'=>∃ (t:T) (cs:List Value) (p' dI:Nat) (rs:List Row),v=.agg cs.toArray/\Prs cx s D N (.inr t)/\NR rs t cs/\Cxr aA w' ((b,.cells (hH s D N af aj ak p' dI).toArray 129)::L) (rs++R)) (q1 aA λo e=>Prs cx s D N (.inl (o,e))):=by
 refine zC Tryz.func65 B Tryz.ntmps65 B ?_;have G:=cM;refine ag ?_;refine dv ?_;intro b2 w G di e3;refine an ?_;refine jA (DW aA _ b s D N af aj ak 0 0 _ _ (G.pick 1 B) hs I I dF dr) DL B B B B B (aX B B) (λx w cc=>?_) ?_
 ·exact o8 cc λo e he h=>.tok h he
 rintro vX w ⟨wD,Xu,J3,E5,rfl,G⟩;replace G:=G.unpick ((b2,aa 72 [J 0,M [],M [],al,M []])::(b,.cells (hH s D N af aj ak 0 0).toArray 129)::L) 1 B;have lB:=E5.len I;refine ae ?_;refine ov ?_;intro bp w G gW gN;refine S B B (av (v:=(M (sub s 0 (wD-0)))) B B) ?_;refine pY ?_;intro w G ko;refine az ?_;refine jA (cHc aA _ b s D N af aj ak (wD+J3) 0 _ _ (G.pick 2 B) hs I I dF dr (sub s 0 (wD-0)) wD Xu J3 0 E5 I B) Tryz.func116 B B B B B (aX B (aX B (aX B (aX B B)))) (λx w cc=>?_) ?_
 ·exact o8 cc λo e _ h=>.val E5 h
 rintro F1 w ⟨t,cs,p',dI,rs2,rfl,cu,c9,xg,fp,lG,G⟩;replace G:=G.unpick ((bp,aa 150 [J Xu,M (sub s wD J3),J wD])::(b2,aa 72 [J 0,M [],M [],al,M []])::(b,.cells (hH s D N af aj ak (wD+J3) 0).toArray 129)::L) 2 B;obtain ⟨cB,n2,n3,rfl⟩:=c9.formQ G;refine lg ?_;intro AO w G aNf sC;replace G:=G.toRow (size:=5) (k:=1) B (by decide);refine S B B (cd (qs:=[(0,(J 1)),(3,.slice (some ⟨AO,0,none⟩) 1 1)]) (aIa _ _ _ _) B B) ?_;refine dv ?_;intro bH w G fl fg;refine hX ?_;intro w G jh;refine an ?_;refine jA (DW aA _ b s D N af aj ak p' dI _ _ (G.pick 3 B) hs I I dF dr) DL B B B B B (aX B B) (λx w cc=>?_) ?_
 ·exact o8 cc λo e he h=>.tok2 E5 cu h he
 rintro P8 w ⟨DS,OS,XP,E4,rfl,G⟩;replace G:=G.unpick ((bH,aa 72 [J 1,M [],M [],.slice (some ⟨AO,0,none⟩) 1 1,M []])::(bp,aa 150 [J Xu,M (sub s wD J3),J wD])::(b2,aa 72 [J 0,M [],M [],al,M []])::(b,.cells (hH s D N af aj ak p' dI).toArray 129)::L) 3 B;have Np:=E4.len I;refine ae ?_;refine S B B (av (v:=(M (sub s p' (DS-p')))) B B) ?_;refine QU ?_;intro w G ig;refine az ?_;refine S B B (kO (s:=sub s DS XP) (u:=([]:List UInt8)) B B B) ?_;refine ab ?_;refine Z (λiS=>?_) (λiS=>?_)
 ·refine ae ?_;refine jA (HC aA _ b s D N af aj ak (DS+XP) dI _ _ (G.pick 3 B) hs I I dF dr OS OS (sub s DS XP) DS (vT E4 fp)) Tryz.func117 B B B B B (aX B (aX B B)) (λx w cc=>?_) ?_
  ·have NK:OS≠0:=λe=>iS ((vT E4 fp).z e)
   exact o8 cc λo e _ h=>by
    unfold unx at h;rw [O NK] at h;cases h;exact .more E5 cu E4 NK
  exact qS
 refine aq ?_;refine bR (v:=(M (sub s p' (DS-p')))) G 0 B B B B B B B B gA ?_;intro w G jt;refine an ?_;refine Gk ?_;intro w G iD;refine ag ?_;refine Kh Tryz.results65 B (G.at 2 B) de B bA ?_;have NK:OS=0:=nA λh=>(vT E4 fp).ne h iS
 subst NK;exact ⟨_,_,_,_,_::rs2,B,.ok E5 cu E4,(NL.snoc (NL.nil _) (c9.mono λr h=>bP _ h)).node (n:=1) B (by rw [gG,pi,List.flatten_nil,cH];exact b9 ..) _ _ _ _,G.drop 3⟩
end Go.Proofs.YthiafbkolhnadaaGreatDoor
end
section
namespace Go.Proofs.YthiafbkolhnadaaGreatDoor
open Go Go.Dk Go.RowKit Go.Lib
variable {x s:List UInt8}{k a n p D N:Nat}{t:T}
inductive Ck:Nat->T->Prop
 | mk {d kind:Nat} {lead text:List UInt8} {kids:List T} {tail:List UInt8} (hd:d<=192) (hk:1<=kind/\kind<=11) (hl:kind=2\/kind=6\/kind=10\/kind=11->kids=[]/\tail=[]) (h:∀ t∈kids,Ck (d+1) t):Ck d (.mk kind lead text kids tail)
def EntOk (m:Bool)(e:T)(key:List UInt8)(v:T):Prop :=
 ∃ qh more,e=.mk 5 [] [] (qh++v::more) []/\(more=[]\/∃ l,more=[.mk 11 l [44] [] []]) /\
  (match m with
   | true=>∃ gj x fh,qh=[.mk 6 gj x [] [],.mk 11 fh [58] [] []]/\KeyR x key/\(isBare x\/((x.getD 0 0).toNat=34/\∃ o,Quo x (0,o,x.length)))
   | false=>qh=[]/\key=[])
inductive Gt:T->Prop
 | sc {lead text:List UInt8} (h:text≠[]):Gt (.mk 2 lead text [] [])
 | coll {m:Bool} {lead tail:List UInt8} (l:List (T×List UInt8×T)) (h:∀ y∈l,EntOk m y.1 y.2.1 y.2.2) (hv:∀ y∈l,Gt y.2.2) (hk:∀ y∈l,y.2.1.length<=1024/\validD y.2.1=true) (hn:m=true->(l.map (·.2.1)).Nodup):Gt (.mk (kdm m) lead [opb m] (l.map (·.1)) tail)
theorem aZ1(h:isBare x):validD x=true:=by
 have:=aXm x [] (λb hb=>by
  obtain ⟨j,ax⟩:=jX hb;have tN:=(bT.1 ax).1;have e:x.getD j 0=b:=by rw [l8,ax];rfl
  have:=h.2 j tN;rw [e] at this;unfold oG jR bf at this;omega)
 rw [cH] at this;rw [this];rfl
theorem bWw {key:List UInt8}(h:keyT x k)(hk:KeyR x key):validD key=true/\(isBare x\/(x.getD 0 0).toNat=34):=by
 unfold KeyR at hk;rcases h with ⟨_,h⟩ | ⟨_,h⟩
 . rw [O (ra h)] at hk
   exact ⟨by rw [hk];exact aZ1 h,.inl h⟩
 . rw [U h] at hk
   obtain ⟨m,hm⟩:=hk;exact ⟨hm.len.2.2.1,.inr h⟩
theorem aR5(h:keyT x k)(hk:TkK x k):isBare x\/((x.getD 0 0).toNat=34/\∃ o,Quo x (0,o,x.length)):=by
 rcases h with ⟨_,h⟩ | ⟨bd,eG⟩
 ·exact .inl h
 . rcases hk.q bd with ⟨_,o,aw⟩ | ⟨h1,_⟩
   ·exact .inr ⟨eG,o,aw⟩
   ·omega
theorem dX (k:Nat)(a b:List UInt8)(ks:List T)(c:List UInt8):(T.mk k a b ks c).print=a++b++prints ks++c:=by rw [T.print]
theorem dT (k:Nat)(a b:List UInt8)(ks:List T)(c:List UInt8):(T.mk k a b ks c).count=1+counts ks:=by rw [T.count]
theorem gx:prints []=[]:=by rw [prints]
theorem hU (t:T)(ts:List T):prints (t::ts)=t.print++prints ts:=by rw [prints]
theorem kE:counts []=0:=by rw [counts]
theorem jH (t:T)(ts:List T):counts (t::ts)=t.count+counts ts:=by rw [counts]
theorem Kt{c:UInt8}(h:sub s a n=[c])(hl:a+n<=s.length):n=1:=by
 have:=aD eC h;rw [qN hl] at this;simpa using this
theorem qM{b c:Nat}(h1:a<=b)(h2:b<=c):sub s a (b-a)++sub s b (c-b)=sub s a (c-a):=by
 have:=aWe (s:=s) (a:=a) (m:=b-a) (n:=c-b);rw [show a+(b-a)=b by omega,show b-a+(c-b)=c-a by omega] at this;exact this
theorem FX(h1:p<=a)(h:sub s a n=x):sub s p (a-p)++x=sub s p (a+n-p):=by
 rw [<- h];have:=aWe (s:=s) (a:=p) (m:=a-p) (n:=n);rw [show p+(a-p)=a by omega,show a-p+n=a+n-p by omega] at this;exact this
theorem KeyP.len{keys:List (List UInt8)}{m:Bool}{y:Kr}(h:KeyP s keys (sub s p (a-p)) a k n m (.inr y))(ht:Tok s p (0,a,k,n))(hp:p<=s.length) :
  p<=y.a/\y.a+y.n<=s.length/\prints y.kids++y.lead=sub s p (y.a-p)/\(counts y.kids<=2*(y.a-p))/\(∀ t∈y.kids,∀ d:Nat,d<=192->Ck d t)/\(y.k=0↔y.n=0) /\
  (match m with
   | true=>∃ key gj x fh,y.kids=[.mk 6 gj x [] [],.mk 11 fh [58] [] []]/\KeyR x key/\(isBare x\/((x.getD 0 0).toNat=34/\∃ o,Quo x (0,o,x.length)))/\y.keys=keys++[key]/\key∉keys/\key.length<=1024/\validD key=true
   | false=>y.kids=[]/\y.keys=keys):=by
 have b1:=ht.len hp
 cases h with
 | list =>
  refine ⟨b1.1,b1.2.1,by simp [gx],by simp [kE],by simp,⟨λh=>(b1.2.2.1 h).2,λh=>nA λhk=>by have:=(b1.2.2.2 hk).2.2.1;simp only at h;omega⟩,B,B⟩
 | @ok key a2 k2 n2 a3 k3 n3 h hk hl hm ht2 hc ht3 =>
  have b2:=ht2.len b1.2.1;have nk:=Kt hc b2.2.1;subst nk;have b3:=ht3.len b2.2.1;have kk:k≠0:=by rcases h with h | h <;> omega
  have ms:=(b1.2.2.2 kk).2.2.1;refine ⟨by simp only;omega,by simp only;omega,?_,?_,?_,⟨λh=>(b3.2.2.1 h).2,λh=>nA λhk=>by have:=(b3.2.2.2 hk).2.2.1;simp only at h;omega⟩,?_⟩
  . simp only [hU,gx,dX,cH,eB]
    rw [<- eB (sub s p (a-p)),FX b1.1 B];rw [<- eB (sub s (a+n) _) [58],FX b2.1 hc];rw [qM I I,qM I I]
  ·simp only [jH,kE,dT];omega
  . intro t BH d hd
    simp only [eX,mT,or_false] at BH;rcases BH with rfl | rfl
    ·exact .mk hd I (λ_=>⟨B,B⟩) (by simp)
    ·exact .mk hd I (λ_=>⟨B,B⟩) (by simp)
  ·exact ⟨key,_,_,_,B,hk,aR5 h (vT ht hp),B,hm,hl,(bWw h hk).1⟩
def aY5 (s:List UInt8)(D:Nat):Cl->Rs->Prop
 | .val lead a k n depth nodes,.val t p nodes'=>a+n<=s.length->(k=0↔n=0)->t.print=lead++sub s a (p-a)/\a+n<=p/\a<p/\p<=s.length/\t.count+1<=2*(p-a)/\Gt t/\Ck (2*depth) t/\depth<=D
 | .ents m depth kids keys p nodes,.ents JS tail p' nodes'=>p<=s.length->depth<=48->(∀ t∈kids,Ck (2*depth+1) t)->(l:List (T×List UInt8×T))->kids=l.map (·.1)->(m=true->keys=l.map (·.2.1))->(∀ y∈l,EntOk m y.1 y.2.1 y.2.2/\Gt y.2.2/\y.2.1.length<=1024/\validD y.2.1=true)->(m=true->keys.Nodup) ->
   prints JS++tail=prints kids++sub s p (p'-p)/\p<p'/\p'<=s.length/\counts JS+1<=counts kids+2*(p'-p)/\(∀ t∈JS,Ck (2*depth+1) t)/\∃ iE:List (T×List UInt8×T),JS=iE.map (·.1)/\(∀ y∈iE,EntOk m y.1 y.2.1 y.2.2/\Gt y.2.2/\y.2.1.length<=1024/\validD y.2.1=true)/\(m=true->(iE.map (·.2.1)).Nodup)
 | _,_=>True
theorem aV7(h:starts x k):k≠0:=by rcases h with ⟨h,_⟩ | h | ⟨h,_⟩ <;> omega
theorem cEf(h:starts x 0):False:=aV7 h rfl
theorem aLo{m:Bool}{depth p':Nat}{keys:List (List UInt8)}{y:Kr}{l:List (T×List UInt8×T)}{more:List T}
  (hy:KeyP s keys (sub s p (a-p)) a k n m (.inr y)) (ht:Tok s p (0,a,k,n)) (hp:p<=s.length) (hd:depth+1<=48) (hv:t.print=y.lead++sub s y.a (p'-y.a)/\y.a+y.n<=p'/\y.a<p'/\p'<=s.length/\t.count+1<=2*(p'-y.a)/\Gt t/\Ck (2*(depth+1)) t)
  (hm:more=[]\/∃ l,more=[.mk 11 l [44] [] []]) (BE:m=true->keys=l.map (·.2.1)) (hl:∀ y∈l,EntOk m y.1 y.2.1 y.2.2/\Gt y.2.2/\y.2.1.length<=1024/\validD y.2.1=true) (hn:m=true->keys.Nodup) :
  prints (y.kids++[t])=sub s p (p'-p)/\p<p'/\counts (y.kids++[t])+1<=2*(p'-p)/\Ck (2*depth+1) (T.mk 5 [] [] (y.kids++t::more) []) /\
  ∃ key,(m=true->y.keys=(l++[(T.mk 5 [] [] (y.kids++t::more) [],key,t)]).map (·.2.1)/\y.keys.Nodup)/\(∀ z∈l++[(T.mk 5 [] [] (y.kids++t::more) [],key,t)],EntOk m z.1 z.2.1 z.2.2/\Gt z.2.2/\z.2.1.length<=1024/\validD z.2.1=true):=by
 obtain ⟨h1,h2,Y,ar,bd,h6,h7⟩:=hy.len ht hp;obtain ⟨sX,v2,v3,v4,v5,ny,rW⟩:=hv;have EI:∀ x∈more,Ck (2*depth+2) x:=by
  intro x hx;rcases hm with rfl | ⟨l,rfl⟩
  ·simp at hx
  . simp only [eX,mT,or_false] at hx
    subst hx;exact .mk I I (λ_=>⟨B,B⟩) (by simp)
 refine ⟨?_,I,?_,?_,?_⟩
 ·rw [sO,hU,gx,cH,sX,<- eB,Y,qM I I]
 ·rw [tx,jH,kE];omega
 . refine .mk I I (λh=>I) ?_
   intro x hx;rcases iv.1 hx with hx | hx
   ·exact bd x hx _ I
   . rcases eX.1 hx with rfl | hx
     ·exact rW
     ·exact EI x hx
 . cases m with
   | false =>
    obtain ⟨g1,dt⟩:=h7;refine ⟨[],(λh=>qR h),?_⟩;intro z hz;rcases iv.1 hz with hz | hz
    ·exact hl z hz
    . simp only [eX,mT,or_false] at hz
      subst hz;exact ⟨⟨y.kids,more,B,hm,g1,B⟩,ny,by simp,B⟩
   | true =>
    obtain ⟨key,gj,x,fh,g1,dt,g3,g4,fe,ly,Nb⟩:=h7;refine ⟨key,λ_=>⟨?_,?_⟩,?_⟩
    ·rw [g4,BE B];simp
    . rw [g4]
      refine List.nodup_append.2 ⟨hn B,by simp,?_⟩;intro c hc d hd e;simp only [eX,mT,or_false] at hd;subst hd e;exact fe hc
    . intro z hz
      rcases iv.1 hz with hz | hz
      ·exact hl z hz
      . simp only [eX,mT,or_false] at hz
        subst hz;exact ⟨⟨y.kids,more,B,hm,gj,x,fh,g1,dt,g3⟩,ny,ly,Nb⟩
theorem cA2 {X:Sx}(dF:D<=48){c:Cl}{r:Rs}(h:Pr X s D N c r):aY5 s D c r:=by
 induction h with
 | vSc h hd hn hk hs =>
  rename_i lead a k n depth nodes;intro a6 ap;have kk:=aV7 h;have rE:n≠0:=λe=>kk (ap.2 e)
  have bt:sub s a n≠[]:=by intro e;have:=aD eC e;rw [qN a6] at this;exact rE this
  refine ⟨?_,bV _,I,a6,?_,.sc bt,.mk I I (λ_=>⟨B,B⟩) (by simp),hd⟩
  ·rw [dX,gx,show a+n-a=n by omega];simp
  ·rw [dT,kE];omega
 | vEnts h hd hn t ih =>
  rename_i lead a n depth nodes m kids tail p nodes';intro a6 ap;have rE:=Kt h a6;obtain ⟨pO,i2,i3,i4,i5,iE,Xl,JE,Xm⟩:=ih a6 I (by simp) [] rfl (λ_=>rfl) (by simp) (λ_=>List.nodup_nil);refine ⟨?_,I,I,i3,?_,?_,?_,hd⟩
  ·rw [dX,eB,pO,gx,gG,eB,<- h,show sub s a n=sub s a (a+n-a) by rw [show a+n-a=n by omega],qM I I]
  ·rw [dT];rw [kE] at i4;omega
  . rw [Xl]
    exact .coll iE (λy hy=>(JE y hy).1) (λy hy=>(JE y hy).2.1) (λy hy=>(JE y hy).2.2) Xm
  ·exact .mk I (by cases m <;> simp [kdm]) (λh=>by cases m <;> simp [kdm] at h) i5
 | eEnd ht hx =>
  rename_i m depth kids keys p nodes a k n;intro hp hd jL l IY BE hl hn;have b1:=ht.len hp;have rE:=Kt hx b1.2.1;refine ⟨?_,I,b1.2.1,I,jL,l,IY,hl,λhm=>by rw [<- BE hm];exact hn hm⟩;rw [FX b1.1 hx]
 | eLast ht hx hk hv ht2 hx2 ih =>
  rename_i m depth kids keys p nodes a k n y t p' nodes' a2 k2 n2;intro hp hd jL l IY BE hl hn;have B9:=hk.len ht hp;obtain ⟨sX,v2,v3,v4,v5,ny,rW,vX⟩:=ih B9.2.1 B9.2.2.2.2.2.1;obtain ⟨bm,aZ,gg,e4,key,lv,si⟩:=aLo (more:=[]) hk ht hp I ⟨sX,v2,v3,v4,v5,ny,rW⟩ (.inl rfl) BE hl hn;have b2:=ht2.len v4;have rE:=Kt hx2 b2.2.1;refine ⟨?_,I,b2.2.1,?_,?_,_,?_,si,λhm=>by rw [<- (lv hm).1];exact (lv hm).2⟩
  . rw [sO,hU,gx,dX,bm]
    simp only [gG,cH,eB];rw [FX b2.1 hx2,qM I I]
  ·rw [tx,jH,kE,dT];omega
  . intro x hx
    rcases iv.1 hx with hx | hx
    ·exact jL x hx
    . simp only [eX,mT,or_false] at hx
      subst hx;exact e4
  ·rw [IY];simp
 | eMore ht hx hk hv ht2 hx3 hr ih n7 =>
  rename_i m depth kids keys p nodes a k n y t p' nodes' a2 k2 n2 r
  cases r with
  | err=>trivial
  | val=>trivial
  | ents JS cTj vE cSa =>
  intro hp hd jL l IY BE hl hn;have B9:=hk.len ht hp;obtain ⟨sX,v2,v3,v4,v5,ny,rW,vX⟩:=ih B9.2.1 B9.2.2.2.2.2.1;obtain ⟨bm,aZ,gg,e4,key,lv,si⟩:=aLo (more:=[.mk 11 (sub s p' (a2-p')) [44] [] []]) hk ht hp I ⟨sX,v2,v3,v4,v5,ny,rW⟩ (.inr ⟨_,rfl⟩) BE hl hn;have b2:=ht2.len v4;have rE:=Kt hx3 b2.2.1;obtain ⟨pO,i2,i3,i4,i5,iE,Xl,JE,Xm⟩:=n7 b2.2.1 hd (by
   intro x hx;rcases iv.1 hx with hx | hx
   ·exact jL x hx
   . simp only [eX,mT,or_false] at hx
     subst hx;exact e4) _ (by rw [IY];simp) (λhm=>(lv hm).1) si (λhm=>(lv hm).2)
  refine ⟨?_,I,i3,?_,i5,iE,Xl,JE,Xm⟩
  . rw [pO,sO,hU,gx,dX,show y.kids++[t,T.mk 11 (sub s p' (a2-p')) [44] [] []]=(y.kids++[t])++[T.mk 11 (sub s p' (a2-p')) [44] [] []] by simp,sO,bm,hU,gx,dX,gx]
    simp only [gG,cH,eB];rw [<- eB (sub s p' (a2-p')),FX b2.1 hx3,qM I I,qM I I]
  . rw [tx,jH,kE,dT,show y.kids++[t,T.mk 11 (sub s p' (a2-p')) [44] [] []]=(y.kids++[t])++[T.mk 11 (sub s p' (a2-p')) [44] [] []] by simp,tx,jH,kE,dT,kE] at i4
    omega
 | _=>trivial
theorem cA3 {X:Sx}{nC nH:Nat}(dF:D<=nC)(dr:N<=nH){c:Cl}{r:Rs}(h:Pr X s D N c r):(∀ o e,r≠.err o e)->Pr X s nC nH c r:=by
 induction h with
 | vSc h hd hn hk hs=>intro _;exact .vSc h I I hk hs
 | vEnts h hd hn t ih=>intro _;exact .vEnts h I I (ih (by simp))
 | eEnd ht hx=>intro _;exact .eEnd ht hx
 | eLast ht hx hk hv ht2 hx2 ih=>intro _;exact .eLast ht hx hk (ih (by simp)) ht2 hx2
 | eMore ht hx hk hv ht2 hx3 hr ih n7=>intro h;exact .eMore ht hx hk (ih (by simp)) ht2 hx3 (n7 h)
 | _=>intro h;exact absurd B (h _ _)
theorem cA8 {X:Sx}{nC nH:Nat}(dF:D<=nC)(dr:N<=nH)(h:Prs X s D N (.inr t)):Prs X s nC nH (.inr t):=by
 cases h with
 | ok ht hv ht2=>exact .ok ht (cA3 dF dr hv (by simp)) ht2
theorem aUe {X:Sx}(dF:D<=48)(h:Prs X s D N (.inr t)):t.print=s/\Ck 1 t/\t.count<=2*s.length+1/\∃ v tail,t=.mk 1 [] [] [v] tail/\Gt v:=by
 cases h with
 | @ok a k n v p nodes a2 n2 ht hv ht2 =>
  have b1:=ht.len (bU _);obtain ⟨sX,v2,v3,v4,v5,ny,rW,vX⟩:=cA2 dF hv b1.2.1 ⟨λh=>(b1.2.2.1 h).2,λh=>nA λhk=>by have:=(b1.2.2.2 hk).2.2.1;omega⟩;have b2:=ht2.len v4;have aZ:=b2.2.2.1 B;refine ⟨?_,.mk I I (λh=>I) ?_,?_,v,_,B,ny⟩
  . rw [dX,hU,gx,sX]
    simp only [gG,cH,eB];rw [show sub s 0 a=sub s 0 (a-0) by rw [Nat.sub_zero],qM I I,qM I I,aZ.1,Nat.sub_zero,aWf]
  . intro x hx
    simp only [eX,mT,or_false] at hx;subst hx;exact rW
  ·rw [dT,jH,kE];omega
def gf (s:List UInt8)(i:Nat):Sum Nat Nat :=
 if s.length<=i then .inr s.length else if dB (s.drop i)=0 then .inr i else .inl (i+dB (s.drop i))
def Bad (s:List UInt8)(i:Nat):Prop:=Lp (fs (gf s)) 0 i
theorem Bad.det{i j:Nat}(h:Bad s i)(aU:Bad s j):i=j:=Lp.det (M9 _) h aU
def okL (d n b a e:Int):Prop:=1<=d/\d<=48/\1<=n/\n<=65536/\1<=b/\b<=1048576/\0<=a/\a<=1024/\0<=e/\e<=65536
instance (d n b a e:Int):Decidable (okL d n b a e):=by unfold okL;infer_instance
inductive Pd (X:Sx) (s:List UInt8) (d n b a e:Int):Sum (Nat×Nat) T->Prop
 | lim (h:¬ okL d n b a e):Pd X s d n b a e (.inl (0,1))
 | size (h:okL d n b a e) (hs:b<(s.length:Int)):Pd X s d n b a e (.inl (0,10))
 | text (h:okL d n b a e) (hs:¬ b<(s.length:Int)) {i:Nat} (hb:Bad s i) (hi:i<s.length):Pd X s d n b a e (.inl (i,5))
 | doc (h:okL d n b a e) (hs:¬ b<(s.length:Int)) (hb:Bad s s.length) {r:Sum (Nat×Nat) T} (hr:Prs X s d.toNat n.toNat r):Pd X s d n b a e r
theorem Pd.det {X:Sx}{d n b a e:Int}{r fj:Sum (Nat×Nat) T}(h:Pd X s d n b a e r)(aU:Pd X s d n b a e fj):r=fj:=by
 cases h with
 | lim h=>cases aU with
  | lim _=>rfl
  | size h2 _ | text h2 _ _ _ | doc h2 _ _ _=>exact absurd h2 h
 | size h hs=>cases aU with
  | lim h2=>exact absurd h h2
  | size _ _=>rfl
  | text _ h2 _ _ | doc _ h2 _ _=>exact absurd hs h2
 | text h hs hb hi=>cases aU with
  | lim h2=>exact absurd h h2
  | size _ h2=>exact absurd h2 hs
  | text _ _ oQ _=>rw [hb.det oQ]
  | doc _ _ oQ _=>rw [hb.det oQ] at hi;exact absurd hi (DK _)
 | doc h hs hb hr=>cases aU with
  | lim h2=>exact absurd h h2
  | size _ h2=>exact absurd h2 hs
  | text _ _ oQ hi=>rw [<- hb.det oQ] at hi;exact absurd hi (DK _)
  | doc _ _ _ lY=>exact hr.det lY
end Go.Proofs.YthiafbkolhnadaaGreatDoor
end
section
namespace Go.Dk
open Go Go.RowKit Go.Lib Go.Proofs.YthiafbkolhnadaaGreatDoor
def oH (s:List UInt8)(p:Nat):Nat×Nat:=decodeN (s.length-p) (aY (bs s) p) (aY (bs s) (p+1)) (aY (bs s) (p+2)) (aY (bs s) (p+3))
theorem Nf (s:List UInt8)(p:Nat):((bs s).get! p).toNat=aY (bs s) p:=by
 unfold aY;rw [tp];have:=Io s 0 p;simp only [mS,gV] at this;rw [<- this];rfl
theorem bHp (s:List UInt8)(p:Nat):Utf8.decode (bs s) p=oH s p:=by
 rw [decode_at,Nf,Nf,Nf,Nf,gI];rfl
theorem aXs {s:List UInt8}{p:Nat}(h:p<s.length):dB (s.drop p)=if oH s p=(65533,1) then 0 else (oH s p).2:=by
 rw [<- xN];unfold fB iP oH;rw [gI]
theorem bHo {s:List UInt8}{p:Nat}(h:p<s.length):Lib.decodeGo (bs (s.drop p))=oH s p:=by
 have e:Lib.decodeGo (bs (s.drop p))=decodeL (s.drop p):=by
  unfold Lib.decodeGo decodeL;rw [O (by rw [gI,bC];omega)]
  rfl
 have:=TI (bs s) p (by rw [gI];exact h);rw [tp,gI] at this;rw [e,this];rfl
theorem bGq (s:List UInt8)(p:Nat):1<=(oH s p).2:=by
 unfold oH decodeN
 repeat' split
 all_goals simp
def xC (s:List UInt8)(p:Nat):Value:=if p<s.length then .tuple #[.bool true,.int .i64 ((p:Nat):Int),.int .i32 (((oH s p).1:Nat):Int)] else .tuple #[.bool false]
def Cj (s:List UInt8)(p:Nat):Nat:=if p<s.length then p+(oH s p).2 else p
section
variable {P:Program} {ops:Array Oper} {Q:Exit->Act->World->Prop} {bh:List Oper} {o:Oper} {n:Nat} {f:Nat->Value} {w w0:World} {L:List (Nat×Obj)} {R:List Row} {ρ:Operand->Value}
theorem cDn {d:Nat}{t:TypeId}{x:Operand}{s:List UInt8}(G:Cxr w0 w L R)(aH:o.guard=none)(hd:o.dst=some d)(au:o.op=.range t x)(hx:aW n f x=.string (bs s))(aP:P.underlying t=some .string)
  (h:∀ b w',Cxr w0 w' ((b,.stringIter (bs s) 0)::L) R->wpList P ops Q bh (aC n (eh f d (.pointer (some ⟨b,0,none⟩)))) w'):wpList P ops Q (o::bh) (aC n f) w:=by
 refine od (w':=w.alloc (.stringIter (bs s) 0)) (v:=.pointer (some ⟨w.heap.size,0,none⟩)) aH hd ?_ (h _ _ (G.alloc _));unfold execOp;rw [au];simp [Instr.range,hx,run_underlying aP]
theorem cDk {d:Nat}{t:Operand}{b p:Nat}{s:List UInt8}(G:Cxr w0 w L R)(i:Nat)(aH:o.guard=none)(hd:o.dst=some d)(au:o.op=.next t true)(hx:aW n f t=.pointer (some ⟨b,0,none⟩))(hi:L[i]?=some (b,.stringIter (bs s) p))
  (h:∀ w',Cxr w0 w' (L.set i (b,.stringIter (bs s) (Cj s p))) R->wpList P ops Q bh (aC n (eh f d (xC s p))) w'):wpList P ops Q (o::bh) (aC n f) w:=by
 have hb:=G.at i hi;have b8:=G.lt _ (cb hi);have Bj:b<w.heap.size:=b8;have aPh:w.heap[b]?=some (.stringIter (bs s) p):=hb;refine od (w':=if p<s.length then { w with heap:=w.heap.setIfInBounds b (.stringIter (bs s) (Cj s p))} else w) (v:=xC s p) aH hd ?_ (h _ ?_)
 . unfold execOp;rw [au]
   unfold xC Cj;have h1:(getObj b).run P w=.ok (.stringIter (bs s) p) w:=by simp [getObj,Sem.run,aPh]
   have h2:∀ gu,(setObj b gu).run P w=.ok () { w with heap:=w.heap.setIfInBounds b gu }:=λgu=>by simp [setObj,Sem.run,aPh]
   by_cases hp:p<s.length
   ·simp [Instr.next,hx,h1,h2,gI,hp,bHp,goInt,Result.andThen]
   ·simp [Instr.next,hx,h1,gI,hp,Result.andThen]
 . by_cases hp:p<s.length
   . rw [U hp]
     refine G.turn i hi B B B (by simp) (by simp [Bj]) λk hk bt=>?_
     simp [Array.getElem?_setIfInBounds,Ne.symm bt]
   . rw [O hp]
     have e:Cj s p=p:=by unfold Cj;rw [O hp]
     rw [e];have:L.set i (b,.stringIter (bs s) p)=L:=by
      apply List.ext_getElem?;intro j;rw [List.getElem?_set];split
      . rename_i ax;subst ax
        rw [U (bT.1 hi).1,hi]
      ·rfl
     rw [this];exact G
theorem cG1 {t:Operand}{s:List UInt8}{p:Nat}(au:o.op=.extract t 0)(hx:ρ t=xC s p):(execOp ρ o).run P w=.ok (.value (.bool (decide (p<s.length)))) w:=by
 unfold execOp;rw [au];unfold xC at hx;by_cases h:p<s.length
 ·rw [U h] at hx;simp [hx,Instr.extract,h]
 ·rw [O h] at hx;simp [hx,Instr.extract,h]
theorem cG2 {t:Operand}{s:List UInt8}{p:Nat}(au:o.op=.extract t 1)(hx:ρ t=xC s p)(h:p<s.length):(execOp ρ o).run P w=.ok (.value (.int .i64 ((p:Nat):Int))) w:=by
 unfold execOp;rw [au];unfold xC at hx;rw [U h] at hx;simp [hx,Instr.extract]
theorem cG3 {t:Operand}{s:List UInt8}{p:Nat}(au:o.op=.extract t 2)(hx:ρ t=xC s p)(h:p<s.length):(execOp ρ o).run P w=.ok (.value (.int .i32 (((oH s p).1:Nat):Int))) w:=by
 unfold execOp;rw [au];unfold xC at hx;rw [U h] at hx;simp [hx,Instr.extract]
theorem cDd {x:Operand}{lx:Fn}{fw cap:Array Value}(aH:o.guard=none)(hd:o.dst=none)(au:o.op=.defer { callee:=.value x,args:=#[],argTypes:=#[]})(hx:aW n f x=.func lx fw cap)
  (h:wpList P ops Q bh { aC n f with defers:=[{ target:=.fn lx cap,args:=fw }]} w):wpList P ops Q (o::bh) (aC n f) w:=by
 refine wpList_plain aH λeu ep=>?_
 unfold Oper.wp;rw [eS];have hE:(execOp (aW n f) o).run P w=.ok (.defer { target:=.fn lx cap,args:=fw }) w:=by
  unfold execOp;rw [au];simp [resolve,hx,Deferred.ofValue]
 rw [hE];refine ep _ _ ?_;rw [hd];exact h
end
theorem cHq {P:Program}{ops:Array Oper}{Q:Exit->Act->World->Prop}(jl:List Deferred):∀ (l:List Oper) (a:Act) (w:World),wpList P ops (λe a w=>Q e { a with defers:=a.defers++jl } w) l a w->wpList P ops Q l { a with defers:=a.defers++jl } w:=by
 intro l
 induction l with
 | nil=>intro a w h;exact h
 | cons o bh ih =>
  intro a w h;have EU:∀ (a:Act) (v:Value),({ a with defers:=a.defers++jl }:Act).put o.dst v={ (a.put o.dst v) with defers:=(a.put o.dst v).defers++jl }:=by
   intro a v;cases o.dst <;> rfl
  have EM:LetsOut (λe a w=>Q e { a with defers:=a.defers++jl } w)->LetsOut Q:=λ⟨a,w,h⟩=>⟨_,w,h⟩
  unfold wpList at h ⊢;show if Region.wanted o (yielded ops a.tmps) then _ else _
  split
  . rename_i hw
    rw [U hw] at h;rcases h with h | ⟨h,h2⟩
    . left
      unfold Oper.wp at h ⊢;show o.upon P _ _ _ ((execOp a.eval o).run P w)
      generalize (execOp a.eval o).run P w=r at h ⊢
      cases r with
      | ok pQ w' =>
       cases pQ <;> simp only [Oper.upon] at h ⊢
       case value u=>rw [EU];exact ih _ _ h
       case skip=>rw [EU];exact ih _ _ h
       case defer d =>
        have:=ih _ _ h;rw [<- EU] at this;exact this
       case enter g args =>
        refine Calls.mono h λe xT he=>?_
        cases e with
        | returned u =>
         show wpList P ops Q bh _ xT;rw [EU];exact ih _ _ he
        | panicked c=>exact he
        | outgrown=>exact EM he
       case row row args=>exact Rows.mono h λu xT he=>by rw [EU];exact ih _ _ he
      | halt x w' =>
       cases x <;> simp only [Oper.upon] at h ⊢
       case panic u=>exact h
    ·exact .inr ⟨h,EM h2⟩
  . rename_i hw
    rw [O hw] at h;rw [EU];exact ih _ _ h
theorem aJ5 {P:Program}{k:FuncId}{fn:Func}{o:Oper}{t id n:Nat}{bh:Code}{args:List Value}{u nx:FrameMode}{y:Value}{w:World}{yp:World->Prop}(hf:P.funcs[k]?=some fn)(hb:fn.body=some (.seq (.region id [o].toArray false) bh))
  (hn:fn.ntmps=n) (hl:Nat.ble args.length n=true) (bTn:fn.results=#[]) (aH:o.guard=none) (hd:o.dst=some t) (au:o.op=.call { callee:=.builtin .recover,args:=#[],argTypes:=#[]})
  (aP:(∃ x,y=x/\u=.panicking (q2 x)/\nx=.panicking [{ v:=x,recovered:=true }])\/(y=.nilIface/\u=.returning/\nx=.returning))
  (h:bh.wp P (bodyPost P fn λe w'=>∃ v,e=.returned v/\yp w') (aC n (eh (rO args) t y)) w):CallsD P k args.toArray u w λe cZ w'=>e=.returned (.tuple #[])/\cZ=nx/\yp w':=by
 refine callsD_of_wpS hf hb λMN cs hc=>?_
 refine wpS_seq (wpS_region ?_);rw [hn,M0 args n (Nat.le_of_ble_eq_true hl)];show wpOpsS P #[o] _ [0] _ _ _;have hE:(execOp (aC n (rO args)).eval o).run P w=.ok .recover w:=by
  unfold execOp;rw [au];simp [resolve,invoke,builtin]
 have xq:∀ y,Region.wanted o y=true:=λy=>by simp [Region.wanted,aH]
 have bPz:∀ (eu:Act->List Frame->World->Prop) (ea:Exit->Act->List Frame->World->Prop),eu ((aC n (rO args)).put (some t) y) ({ MN with mode:=nx }::cs) w->wpOpsS P #[o] (Exit.thenS eu ea) [0] (aC n (rO args)) (MN::cs) w:=by
  intro eu ea ep;simp only [wpOpsS,List.getElem?_toArray,AE,xq,if_true,hE,hd];rcases aP with ⟨x,rfl,rfl,rfl⟩ | ⟨rfl,rfl,rfl⟩
  . simp only [recoverD,hc,q2]
    exact ep
  . simp only [recoverD,hc]
    have e:({ MN with mode:=.returning }:Frame)=MN:=by rw [<- hc]
    rw [e] at ep;exact ep
 refine bPz _ _ (wpS_of_wp ?_);rw [mC];refine Code.wp_mono ?_ h;intro e a w' hp;have hr:(results fn a.tmps).run P w'=.ok (.tuple #[]) w':=by simp [results,bTn]
 cases e with
 | normal=>obtain ⟨h1,v,_,_,_,h2⟩:=hp;exact ⟨h1,nx,B,_,hr,B,B,h2⟩
 | ret=>obtain ⟨h1,v,_,_,_,h2⟩:=hp;exact ⟨h1,nx,B,_,hr,B,B,h2⟩
 | panic c=>obtain ⟨_,v,h2,_⟩:=hp;cases h2
 | outgrown=>obtain ⟨v,h2,_⟩:=hp;cases h2
 | exit _=>exact hp.elim
 | goto _=>exact hp.elim
end Go.Dk
end
section
namespace Go.Proofs.YthiafbkolhnadaaGreatDoor
open Go Go.Dk Go.RowKit Go.Lib
attribute [local irreducible] Go.wpList Go.Code.wp Go.bodyPost Go.wpStill Go.wpQuiet
theorem bBj (s:List UInt8)(w0:World)(ht:Tabs w0):Fc W 114 [M s] w0 (λv _=>v=.tuple #[.int .i32 (((Lib.decodeGo (bs s)).1:Nat):Int),J ((Lib.decodeGo (bs s)).2)]) :=
 Calls.mono (Go.Proofs.Tryz.utf8_DecodeRuneInString (bs s) w0 ht.utf) λe w' ⟨he,hb⟩=>⟨_,he,hb,rfl⟩
theorem bFn (s:List UInt8)(w0:World)(hs:s.length<=1000000)(ht:Tabs w0):Fc W 63 [M s] w0 (λv _=>∃ i:Nat,Bad s i/\i<=s.length/\v=.int .i64 (if i<s.length then (i:Int) else -1)):=by
 refine aI Tryz.func63 B Tryz.ntmps63 B ?_;have G:=Ctx.start w0;refine bz ?_;refine cDn G B B B B aF ?_;intro cP w G;refine ag ?_;refine bu (λg f ah=>∃ (p:Nat),g=s.length-p/\(p<=s.length)/\(∀ r,Lp (fs (gf s)) p r->Lp (fs (gf s)) 0 r)/\f 0=M s/\f 8=ao cP 0/\Cxr w0 ah [(cP,.stringIter (bs s) p)] []) ((λ(p:Nat)=>s.length-p) 0) ?_ ?_
 ·exact ⟨0,B,bU _,λr h=>h,B,B,G⟩
 intro h8 f w ai;obtain ⟨p,ni,hp,aw,aB,bb,G⟩:=ai;refine ag ?_;refine cDk G 0 B B B bb B ?_;intro w G;refine S B B (cG1 B B) ?_;refine ag ?_;refine Z (λe1=>?_) (λe1=>?_)
 ·have BB:=e1;refine an ?_;refine S B B (cG2 B B BB) ?_;refine S B B (cG3 B B BB) ?_;refine Da ?_;refine aG ?_;refine Z (λgK=>?_) (λgK=>?_)
  ·have bTj:=gK;refine an ?_;refine S B B (ka (s:=s) (i:=p) B B B aF I) ?_;refine bG G (bBj (s.drop p) _ (ht.up G.ext)) Tryz.func114 B B B B B B ?_;intro cBi w G BZ aPn;rw [bHo BB] at aPn;subst aPn;refine an ?_;refine S B B (av (v:=(J ((oH s p).2))) B B) ?_;refine az ?_;refine Z (λjK=>?_) (λjK=>?_)
   ·refine ae ?_;refine Da ?_;refine ag ?_;refine be Tryz.results63 B ?_;exact ⟨G.ext,p,aw _ (.done (by unfold fs gf;rw [O I,U (by rw [aXs BB,U (Prod.ext I I)])])),I,by rw [U BB];rfl⟩
   exact Z8
  have bTj:=gK;exact Z8
 refine az ?_;refine be Tryz.results63 B ?_;exact ⟨G.ext,s.length,aw _ (.done (by unfold fs gf;rw [U I])),bV _,by rw [O (DK _)];rfl⟩
theorem mY (d n b a e:Int)(w0:World):Fc W 62 [.agg #[.int .i64 d,.int .i64 n,.int .i64 b,.int .i64 a,.int .i64 e]] w0 (λv _=>v=.bool (decide (okL d n b a e))):=by
 refine aI Tryz.func62 B Tryz.ntmps62 B ?_;have G:=Ctx.start w0;refine ag ?_;refine bE ?_;intro b1 w G er fX;refine Mo ?_;refine aHr ?_;refine be Tryz.results62 B ?_;exact aBp
end Go.Proofs.YthiafbkolhnadaaGreatDoor
end
section
namespace Go.Dk
open Go Go.RowKit Go.Lib
section
variable {P:Program} {ρ:Operand->Value} {o:Oper} {w:World}
theorem cG0 {t ee u:TypeId}{x:Operand}{v:Value}{XO:Array (String×TypeId)}(aP:P.underlying t=some (.interface XO))(au:o.op=.binOp .eql t x (.const .nilIface) ee)(hx:ρ x=.iface u v)(hc:ρ (.const .nilIface)=.nilIface):(execOp ρ o).run P w=.ok (.value (.bool false)) w:=by
 unfold execOp;rw [au];have h:(binOp .eql t (.iface u v) .nilIface).run P w=.ok (.bool false) w:=by
  have h:(Op.equalIn 10000 t (.iface u v) .nilIface).run P w=.ok false w:=by
   unfold Op.equalIn;simp [run_underlying aP]
  simp [binOp,Op.equal,Op.maxDepth,h]
 have aH:eqGuard .eql t x (.const .nilIface) (.iface u v) .nilIface=pure ():=by cases x <;> rfl
 simp [hx,hc,aH,h]
theorem cGo {t cHx:TypeId}{x:Operand}{v:Value}{fs:Array Field}(au:o.op=.typeAssert x cHx t true)(hx:ρ x=.iface t v)(aP:P.underlying t=some (.struct fs)):(execOp ρ o).run P w=.ok (.value (.tuple #[v,.bool true])) w:=by
 unfold execOp;rw [au];simp [hx,Instr.typeAssert,run_underlying aP]
theorem cGv {k:Nat}{cs:Array Operand}{ls:List Value}(au:o.op=.makeFunc (.func k) #[] cs)(hc:cs.toList.map ρ=ls):(execOp ρ o).run P w=.ok (.value (.func (.func k) #[] ls.toArray)) w:=by
 unfold execOp;rw [au];have e:cs.map ρ=ls.toArray:=by rw [<- hc];apply Array.ext';simp
 have h:(Instr.makeFunc (.func k) #[] ls.toArray).run P w=.ok (.func (.func k) #[] ls.toArray) w:=B;simp [e,h]
end
theorem bXq {P:Program}{fn:Func}{n:Nat}{f:Nat->Value}{w:World}{R:Ending->World->Prop}{fC t2 t3 qc aY6 uK dM eQ ft b1 b2 b3:Nat}{l:List Value}{bg b4:Value}{cr jI fG:TypeDesc}
  (hr:fn.results=#[.cell fC dM,.cell t2 eQ,.cell t3 ft]) (h1:aW n f (.tmp fC)=.pointer (some ⟨b1,0,none⟩)) (h2:aW n f (.tmp t2)=.pointer (some ⟨b2,0,none⟩)) (Y:aW n f (.tmp t3)=.pointer (some ⟨b3,0,none⟩))
  (g1:w.heap[b1]?=some (.cells l.toArray qc)) (dt:w.heap[b2]?=some (.cells [bg].toArray aY6)) (g3:w.heap[b3]?=some (.cells [b4].toArray uK))
  (cS:P.underlying dM=some cr) (lD:(match cr with | .struct _ | .array _ _=>true | _=>false)=true) (hs:(P.info? dM).map (·.size)=some l.length)
  (cZ:P.underlying eQ=some jI) (qm:Hw jI=false) (c0:P.underlying ft=some fG) (tJ:Hw fG=false)
  (h:R (.returned (.tuple #[.agg l.toArray,bg,b4])) w):Leaves P fn (aC n f).tmps R [] .returning w:=by
 refine ⟨.tuple #[.agg l.toArray,bg,b4],?_,h⟩;have bm:(aC n f).tmps.getD fC undef=.pointer (some ⟨b1,0,none⟩):=by rw [<- h1,<- eS];rfl
 have aZ:(aC n f).tmps.getD t2 undef=.pointer (some ⟨b2,0,none⟩):=by rw [<- h2,<- eS];rfl
 have gg:(aC n f).tmps.getD t3 undef=.pointer (some ⟨b3,0,none⟩):=by rw [<- Y,<- eS];rfl
 have a7:w.cell? ⟨b2,0,none⟩=some bg:=by unfold World.cell?;simp [dt]
 have eL:w.cell? ⟨b3,0,none⟩=some b4:=by unfold World.cell?;simp [g3]
 have gj:=run_loadVar_row (P:=P) w b1 qc dM l.toArray _ cr g1 cS lD ug;have fh:(loadVar eQ ⟨b2,0,none⟩).run P w=.ok bg w:=by simp [loadVar,PO (w:=w) cZ,qm,a7]
 have af:(loadVar ft ⟨b3,0,none⟩).run P w=.ok b4 w:=by simp [loadVar,PO (w:=w) c0,tJ,eL]
 have hm:(results fn (aC n f).tmps).run P w=((asAddr ((aC n f).tmps.getD fC undef)).run P w).andThen λa uu=>((loadVar dM a).run P uu).andThen λv uv=>((asAddr ((aC n f).tmps.getD t2 undef)).run P uv).andThen λa2 CR=>((loadVar eQ a2).run P CR).andThen λv2 CS=>((asAddr ((aC n f).tmps.getD t3 undef)).run P CS).andThen λa3 cHs=>((loadVar ft a3).run P cHs).andThen λv3 cHt=>.ok (.tuple #[v,v2,v3]) cHt:=by
  exact Gd
 rw [hm,bm,aZ,gg];simp [asAddr,gj,fh,af,Result.andThen]
theorem mG {P:Program}{fn:Func}{n:Nat}{f:Nat->Value}{w:World}{R:Value->World->Prop}{fC t2 t3 qc dM b1:Nat}{l:List Value}{bg b4:Value}{cr:TypeDesc}
  (hr:fn.results=#[.cell fC dM,.tmp t2,.tmp t3]) (h1:aW n f (.tmp fC)=.pointer (some ⟨b1,0,none⟩)) (h2:aW n f (.tmp t2)=bg) (Y:aW n f (.tmp t3)=b4) (g1:w.heap[b1]?=some (.cells l.toArray qc))
  (cS:P.underlying dM=some cr) (lD:(match cr with | .struct _ | .array _ _=>true | _=>false)=true) (hs:(P.info? dM).map (·.size)=some l.length)
  (h:R (.tuple #[.agg l.toArray,bg,b4]) w):bodyPost P fn (λe w'=>∃ v,e=.returned v/\R v w') .ret (aC n f) w:=by
 refine ⟨B,.tuple #[.agg l.toArray,bg,b4],?_,_,B,h⟩;have bm:(aC n f).tmps.getD fC undef=.pointer (some ⟨b1,0,none⟩):=by rw [<- h1,<- eS];rfl
 have aZ:(aC n f).tmps.getD t2 undef=bg:=by rw [<- h2,<- eS];rfl
 have gg:(aC n f).tmps.getD t3 undef=b4:=by rw [<- Y,<- eS];rfl
 have gj:=run_loadVar_row (P:=P) w b1 qc dM l.toArray _ cr g1 cS lD ug;have hm:(results fn (aC n f).tmps).run P w=((asAddr ((aC n f).tmps.getD fC undef)).run P w).andThen λa uu=>((loadVar dM a).run P uu).andThen λv uv=>.ok (.tuple #[v,(aC n f).tmps.getD t2 undef,(aC n f).tmps.getD t3 undef]) uv:=by
  exact Gd
 rw [hm,bm,aZ,gg];simp [asAddr,gj,Result.andThen]
end Go.Dk
end
section
namespace Go.Proofs.YthiafbkolhnadaaGreatDoor
open Go Go.Dk Go.RowKit Go.Lib
attribute [local irreducible] Go.wpList Go.Code.wp Go.bodyPost Go.wpStill Go.wpQuiet
variable {P:Program}{w:World}
theorem aH9  (w:World):(Instr.build 72 ([]:List (Nat×Value)).toArray).run W w=.ok (.agg #[J 0,M [],M [],al,M []]) w:=by
 go_simp
 try rfl
theorem bHu{k:FuncId}{fn:Func}{c:Code}{l:List Value}{n:Nat}{R:Value->World->Prop}
  (hf:P.funcs[k]?=some fn) (hb:fn.body=some c) (hn:fn.ntmps=n) (hl:Nat.ble l.length n=true)
  (h:c.wp P (bodyPostD P fn λe w'=>∃ v,e=.returned v/\R v w') (aC n (rO l)) w):Ret P k l w R:=by
 refine calls_of_wp_defers hf hb ?_;rw [hn,M0 l n (Nat.le_of_ble_eq_true hl)];exact h
theorem bFp (o e:Nat)(aA w0:World)(bp bH bq:Nat)(L:List (Nat×Obj))(R:List Row)(fQ Qj Qn Qo Qp ir ld:Value)(cM:Cxr aA w0 ((bq,aa 36 [ld])::(bH,aa 3 [ir])::(bp,aa 72 [fQ,Qj,Qn,Qo,Qp])::L) R):CallsD W 64 ([ao bp 0,ao bH 0,ao bq 0]:List Value).toArray (.panicking (q2 (Ee o e))) w0 (λbk cZ w'=>bk=.returned (.tuple #[])/\cZ=.panicking [{ v:=Ee o e,recovered:=true }]/\Cxr aA w' ((bq,aa 36 [J e])::(bH,aa 3 [J o])::(bp,.cells (nrow 0 [] [] (al) []).toArray 72)::L) R):=by
  refine aJ5 (n:=17) (y:=Ee o e) Tryz.func64 B B B B B B B (.inl ⟨_,B,B,B⟩) ?_;have G:=cM;refine ae ?_;refine S B B (cG0 Tryz.underlying20 B B B) ?_;refine ab ?_;refine cn B (λfm=>?_) (λfm=>?_)
  ·exact absurd fm (by decide)
  refine ag ?_;refine S B B (cGo B B Tryz.underlying126) ?_;refine ae ?_;refine cn B (λe1=>?_) (λe1=>?_)
  ·refine ag ?_;refine kN G cH4 B B B ?_;intro bp w G gW gN;refine bn G 0 B B B B B B cEx B B ?_;intro w G jt;refine ab ?_;refine ei G (G.pick1 0 B) mixed [(0,12),(1,13),(2,14),(3,15),(4,16)] #[true,true,true,true,true,false,false,false] ac ac ac ac ?_;refine GU ?_;refine i1 ?_;refine cW ?_;intro w G JC;refine kb ?_;refine bn G 3 B B B B B B bA B B ?_;intro w G iD;refine gS ?_;refine li ?_;refine bR (v:=(J o)) G 2 B B B B B B B B bN ?_;intro w G iD;refine gS ?_;refine lh ?_;refine bR (v:=(J e)) G 1 B B B B B B B B xL ?_;intro w G iD;refine hY ?_;exact mH (.inr B) Tryz.results64 (G.drop 1)
  exact K0
theorem bFo (aA w0:World)(bp bH bq:Nat)(L:List (Nat×Obj))(R:List Row)(fQ Qj Qn Qo Qp ir ld:Value)(cM:Cxr aA w0 ((bq,aa 36 [ld])::(bH,aa 3 [ir])::(bp,aa 72 [fQ,Qj,Qn,Qo,Qp])::L) R):CallsD W 64 ([ao bp 0,ao bH 0,ao bq 0]:List Value).toArray (.returning) w0 (λbk cZ w'=>bk=.returned (.tuple #[])/\cZ=.returning/\Cxr aA w' ((bq,aa 36 [ld])::(bH,aa 3 [ir])::(bp,aa 72 [fQ,Qj,Qn,Qo,Qp])::L) R):=by
  refine aJ5 (n:=17) (y:=.nilIface) Tryz.func64 B B B B B B B (.inr ⟨B,B,B⟩) ?_;have G:=cM;refine ae ?_;refine S B B (cGz Tryz.underlying20 B B B) ?_;refine ab ?_;refine cn B (λfm=>?_) (λfm=>?_)
  ·refine ae ?_;exact mH (.inr B) Tryz.results64 (G.drop 0)
  exact absurd fm (by decide)
theorem aZ8 (bj:List UInt8)(bg:Nat)(b4:Nat)(fQ:Int)(ir:Int)(ld:Int)(w:World):(Instr.build 129 ([(0,(M bj)),(2,.agg #[J bg,J b4,.int .i64 (fQ),.int .i64 (ir),.int .i64 (ld)])]:List (Nat×Value)).toArray).run W w=.ok (.agg #[M bj,J 0,J bg,J b4,.int .i64 (fQ),.int .i64 (ir),.int .i64 (ld),J 0]) w:=by
 go_simp
 try rfl
theorem MP{fn:Func}{R:Ending->World->Prop}{a:Act}(h:Leaves P fn a.tmps R a.defers .returning w):bodyPostD P fn R .ret a w:=h
theorem bHz{fn:Func}{R:Ending->World->Prop}{a:Act}{c:List PanicEntry}(h:Leaves P fn a.tmps R a.defers (.panicking c) w):bodyPostD P fn R (.panic c) a w:=h
theorem bDc (s:List UInt8)(d n b a e:Int)(w0:World)(hs:s.length<=1000000)(ht:Tabs w0):Ret W 26 [M s,.agg #[.int .i64 d,.int .i64 n,.int .i64 b,.int .i64 a,.int .i64 e]] w0 (λv w'=>(∃ o bk:Nat,bk≠0/\v=.tuple #[.agg (nrow 0 [] [] (al) []).toArray,J o,J bk]/\Pd cx s d n b a e (.inl (o,bk))/\Below w0.heap.size w0 w')\/(∃ (t:T) (cs:List Value) (rs:List Row),v=.tuple #[.agg cs.toArray,J 0,J 0]/\Pd cx s d n b a e (.inr t)/\NR rs t cs/\Cxr w0 w' [] rs)):=by
 refine bHu Tryz.func26 B Tryz.ntmps26 B ?_;have G:=Ctx.start w0;refine ag ?_;refine bE ?_;intro b3 w G eE gr;refine dv ?_;intro bp w G gW gN;refine kN G z3 B B B ?_;intro bH w G fl fg;refine kN G cIf B B B ?_;intro bq w G gX hF;refine aq ?_;refine bo G (mY d n b a e _) Tryz.func62 B B B B B B ?_;intro w G xn;refine ag ?_;refine Z (λfW=>?_) (λfW=>?_)
 ·refine wu ?_;refine Gk ?_;intro w G jh;refine QV ?_;intro w G jh;refine bR (v:=(J 1)) G 0 B B B B B B B B xL ?_;intro w G jh;refine ag ?_;refine MP ?_;refine GV ?_;exact ⟨_,B,.inl ⟨0,1,by decide,B,.lim fW,G.ext⟩⟩
 have cY:=fW;unfold okL at cY;obtain ⟨D,rfl⟩:∃ D:Nat,d=D:=⟨d.toNat,I⟩;obtain ⟨N,rfl⟩:∃ N:Nat,n=N:=⟨n.toNat,I⟩;refine cF ?_;refine Z (λhQ=>?_) (λhQ=>?_)
 ·refine wu ?_;refine Gk ?_;intro w G hG;refine QV ?_;intro w G hG;refine bR (v:=(J 10)) G 0 B B B B B B B B xL ?_;intro w G hG;refine ag ?_;refine MP ?_;refine GV ?_;exact ⟨_,B,.inl ⟨0,10,by decide,B,.size fW I,G.ext⟩⟩
 refine aq ?_;refine bG G (bFn s _ cR (ht.up G.ext)) Tryz.func63 B B B B B B ?_;intro aUi w G aQx Jb;obtain ⟨i20,aNk,cN9,rfl⟩:=Jb;refine S B B (av (v:=.int .i64 (if i20<s.length then (i20:Int) else -1)) B B) ?_;refine az ?_;refine Z (λjJ=>?_) (λjJ=>?_)
 ·have Vn:i20<s.length:=by split at jJ <;> omega
  refine wu ?_;refine ab ?_;refine Gk ?_;intro w G iD;refine bR (v:=.int .i64 (if i20<s.length then (i20:Int) else -1)) G 1 B B B B B B B B bN ?_;intro w G iD;refine bR (v:=(J 5)) G 0 B B B B B B B B xL ?_;intro w G iD;refine ag ?_;refine MP ?_;refine GV ?_;rw [U Vn];exact ⟨_,B,.inl ⟨i20,5,by decide,B,.text fW I aNk Vn,G.ext⟩⟩
 have Vn:¬ i20<s.length:=by split at jJ <;> omega
 have lC:Bad s s.length:=by
  have:i20=s.length:=I;rw [<- this];exact aNk
 refine ae ?_;refine S B B (cGv B B) ?_;refine cDd B B B B ?_;refine ae ?_;refine aEp ?_;refine ab ?_;have qj:=G;replace G:=Ctx.start w;refine S B B (cG B B r9 B pV (qj.row 3 B) B) ?_;refine S B B (cd (qs:=[(0,(M s)),(2,.agg #[J D,J N,.int .i64 (b),.int .i64 (a),.int .i64 (e)])]) (aZ8 _ _ _ _ _ _) B B) ?_;refine bE ?_;intro aZq w G bNv E9;refine an ?_;refine aEp ?_;refine ab ?_;refine jA (Tr _ _ aZq s D N b a e _ _ G hs I I) Tryz.func65 B B B B B (aX B B) (λx w cc=>?_) ?_
 ·obtain ⟨o,bk,rfl,nS,Bw,sq⟩:=cc;have bM2:=qj.call sq;refine bHz ?_;refine aEq ?_;refine (bFp o bk w0 w bp bH bq _ _ _ _ _ _ _ _ _ bM2).mono ?_;rintro _ _ w ⟨rfl,rfl,G⟩;refine GV ?_;exact ⟨_,B,.inl ⟨o,bk,nS,B,.doc fW hQ lC Bw,G.ext⟩⟩
 rintro aW4 w ⟨t,cs,p',dI,rs,rfl,Bw,c9,G⟩;replace G:=qj.callRows (G.drop 1);simp only [cH] at G;obtain ⟨cB,n2,n3,rfl⟩:=c9.form G;refine Gk ?_;intro w G lI;refine QV ?_;intro w G lI;refine bR (v:=(J 0)) G 0 B B B B B B B B xL ?_;intro w G lI;refine ag ?_;refine MP ?_;refine aEq ?_;refine (bFo w0 w bp bH bq _ _ _ _ _ _ _ _ _ G).mono ?_;rintro _ _ w ⟨rfl,rfl,G⟩;refine GV ?_;exact ⟨_,B,.inr ⟨t,_,rs,B,.doc fW hQ lC Bw,c9,G.drop 4⟩⟩
end Go.Proofs.YthiafbkolhnadaaGreatDoor
end
section
namespace Go.Dk
open Go Go.RowKit Go.Lib
theorem LF.start0 (t u:Nat)(rs:List Row):LF t u rs [] [] [] [] 0:=⟨rfl,λi v cs h=>by simp at h,rfl,λi kv cs h=>by simp at h,by simp⟩
theorem LF.addL0 {t u:Nat}{rs rs2:List Row}{l:List V}{css:List (List Value)}(h:LF t u rs l [] css [] l.length){v:V}{cs:List Value}(hr:RR t u rs2 v cs):LF t u (rs2++rs) (l++[v]) [] (css++[cs]) [] (l++[v]).length:=by
 rw [aQ];exact h.addL hr
theorem LF.addF0 {t u:Nat}{rs rs2:List Row}{f:List (ByteArray×V)}{fss:List (List Value)}(h:LF t u rs [] f [] fss f.length){k:ByteArray}{v:V}{cs:List Value}(hr:RR t u rs2 v cs):LF t u (rs2++rs) [] (f++[(k,v)]) [] (fss++[cs]) (f++[(k,v)]).length:=by
 rw [aQ];exact h.addF hr
end Go.Dk
end
section
namespace Go.Dk
open Go Go.RowKit Go.Lib Go.Proofs.YthiafbkolhnadaaGreatDoor
variable {w:World}{cs:List Value}{e:T}{key:List UInt8}
theorem Um:∀ (css:List (List Value)) (i j:Nat) (cs:List Value) (x:Value),(∀ c∈css,c.length=5)->css[i]?=some cs->cs[j]?=some x->css.flatten[i*5+j]?=some x
 | [],i,j,cs,x,_,h,_=>by simp at h
 | c::css,0,j,cs,x,hl,h,hx=>by
  simp only [AE,kS] at h;subst h;have ax:=(bT.1 hx).1;rw [pi,show 0*5+j=j by omega,l9 ax];exact hx
 | c::css,i+1,j,cs,x,hl,h,hx=>by
  rw [pi,pj (by rw [hl c (by simp)];omega),hl c (by simp),show (i+1)*5+j-5=i*5+j by omega];exact Um css i j cs x (λc hc=>hl c (by simp [hc])) ku hx
theorem Nw.kids{k:Nat}{a b c:List UInt8}{ks:List T}(h:Nw w (.mk k a b ks c) cs) :
  ∃ (la:Option Addr) (lc lb:Nat),cs=nrow k a b (.slice la ks.length lc) c/\ks.length<=lc/\(0<ks.length->la=some ⟨lb,0,none⟩)/\∀ (i:Nat) (t:T),ks[i]?=some t->∃ ecs,Nw w t ecs/\RowAt w lb (0+i*5) ecs:=by
 cases h with
 | mk k a b ks c kv css hl hc hv =>
  obtain ⟨la,lc,lb,rfl,h1,h2⟩:=hl.form2;refine ⟨la,lc,lb,B,h1,λap=>(h2 ap).1,λi t hi=>?_⟩;have b8:=(bT.1 hi).1;have mq:css[i]?=some css[i]:=bS I;refine ⟨css[i],hv i t _ hi mq,λj x hx=>?_⟩;have Y:=(h2 I).2 (i*5+j) x (Um css i j _ x (λd hd=>?_) mq hx)
  ·rw [show 0+i*5+j=0+(i*5+j) by omega];exact Y
  . obtain ⟨m,hm⟩:=jX hd
    exact Zt
theorem Nw.form{t:T}(h:Nw w t cs):∃ a n c,cs=nrow t.kind t.lead t.text (.slice a n c) t.tail:=by
 cases h with
 | mk k a b ks c kv css hl hc hv =>
  obtain ⟨la,lc,lb,rfl,_⟩:=hl.form2;exact ⟨la,_,lc,B⟩
inductive Shp:T->V->Prop
 | sc {lead text:List UInt8} {v:V} (h6:v.sc.kind≠6) (h7:v.sc.kind≠7):Shp (.mk 2 lead text [] []) v
 | list {lead tail:List UInt8} (l:List (T×List UInt8×T)) (he:∀ y∈l,EntOk false y.1 y.2.1 y.2.2) {v:V} (hk:v.sc.kind=6) (hn:v.list.length=l.length) (hv:∀ (i:Nat) (y:T×List UInt8×T) (x:V),l[i]?=some y->v.list[i]?=some x->Shp y.2.2 x):Shp (.mk 3 lead [91] (l.map (·.1)) tail) v
 | map {lead tail:List UInt8} (l:List (T×List UInt8×T)) (he:∀ y∈l,EntOk true y.1 y.2.1 y.2.2) {v:V} (hk:v.sc.kind=7) (hn:v.fields.map (·.1)=l.map λy=>bs y.2.1) (hv:∀ (i:Nat) (y:T×List UInt8×T) (x:ByteArray×V),l[i]?=some y->v.fields[i]?=some x->Shp y.2.2 x.2):Shp (.mk 4 lead [123] (l.map (·.1)) tail) v
theorem yA (t:T):1<=t.count:=by cases t;rw [dT];omega
theorem kq {ks:List T}{t:T}(h:t∈ks):t.count<=counts ks/\t.print.length<=(prints ks).length:=by
 induction ks with
 | nil=>cases h
 | cons k ks ih =>
  rw [jH,hU,aQ];rcases eX.1 h with rfl | h
  ·omega
  ·have:=ih h;omega
theorem jv (ks:List T):ks.length<=counts ks:=by
 induction ks with
 | nil=>exact bU _
 | cons k ks ih=>rw [jH,cf];have:=yA k;omega
theorem H3 {m:Bool}{v:T}(h:EntOk m e key v):v.count<=e.count/\v.print.length<=e.print.length:=by
 obtain ⟨qh,more,rfl,_⟩:=h;have:=kq (t:=v) (ks:=qh++v::more) (by simp);rw [dT,dX];simp only [aQ];omega
theorem Nw.entF{v:T}(h:Nw w e cs)(he:EntOk false e key v):∃ (lK ij dD:Nat) (pc:List Value),cs=nrow 5 [] [] (.slice (some ⟨lK,0,none⟩) ij dD) []/\1<=ij/\ij<=dD/\Nw w v pc/\RowAt w lK 0 pc:=by
 obtain ⟨qh,more,rfl,_,rfl,rfl⟩:=he;obtain ⟨la,lc,lb,rfl,h1,h2,Y⟩:=h.kids;obtain ⟨pc,ar,bd⟩:=Y 0 v rfl;have ap:0<([]++v::more).length:=by simp
 rw [h2 ap];exact ⟨lb,_,lc,pc,B,ap,h1,ar,bd⟩
theorem Nw.entT{v:T}(h:Nw w e cs)(he:EntOk true e key v):∃ (lK ij dD:Nat) (kv:Value) (pc:List Value) (gj x:List UInt8),cs=nrow 5 [] [] (.slice (some ⟨lK,0,none⟩) ij dD) []/\3<=ij/\ij<=dD/\Nw w v pc/\RowAt w lK 10 pc/\RowAt w lK 0 (nrow 6 gj x kv [])/\x.length<=e.print.length/\KeyR x key/\(isBare x\/((x.getD 0 0).toNat=34/\∃ o,Quo x (0,o,x.length))):=by
 obtain ⟨qh,more,rfl,_,gj,x,fh,rfl,hk,hx⟩:=he;obtain ⟨la,lc,lb,rfl,h1,h2,Y⟩:=h.kids;obtain ⟨Fq,ar,bd⟩:=Y 0 _ rfl;obtain ⟨pc,h6,h7⟩:=Y 2 v rfl;have ap:3<=([T.mk 6 gj x [] [],.mk 11 fh [58] [] []]++v::more).length:=by simp
 rw [h2 I];obtain ⟨dL,dD,lK,rfl,_,_,_⟩:=ar.kids;exact ⟨lb,_,lc,_,pc,gj,x,B,ap,h1,h6,h7,bd,by simp only [dX,hU,aQ,gT];omega,hk,hx⟩
theorem aMn {k:ByteArray}(h:cs.all (·.oneCell')=true):(Value.string k::cs).all (·.oneCell')=true:=by
 rw [List.all_cons,h];rfl
theorem mg {w0:World}{L:List (Nat×Obj)}{R:List Row}{e sz n n':Nat}{v:Value}{xs xs':List Value}(h:Cxr w0 w L (⟨e,sz,v,n,xs⟩::R))(hn:n=n')(hx:xs=xs'):Cxr w0 w L (⟨e,sz,v,n',xs'⟩::R):=by subst hn hx;exact h
theorem bJq {v:Value}{a b:Int}(h:v.oneCell'=true):([v,.int .i64 a,.int .i64 b]:List Value).all (·.oneCell')=true:=by
 rw [List.all_cons,h];rfl
end Go.Dk
end
