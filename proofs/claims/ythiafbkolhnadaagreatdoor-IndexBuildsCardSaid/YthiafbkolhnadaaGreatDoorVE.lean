/-
  Several texts in one: K15, K16, K17, K18, Pl, K19, Za, M1, Xi, Xj, Zb, Xk, M2, Zc, M3, M4, Zd, M5, M6, Ze, M7, M8, Zf, Lq
-/
import Derived.Test.YthiafbkolhnadaaGreatDoorVD
import Derived.Lib.Replace
import Derived.Lib.CountLaws
import Derived.Laws.CopyRow
open Go.Proofs.Tryz renaming prog->W,underlying9->aF,underlying72->de,underlying3->dq,underlying70->dx,underlying5->en,underlying83->fb,underlying79->fk,underlying28->lp,underlying33->mc,underlying148->mV,underlying32->oA,underlying80->oB,underlying159->po,underlying4->pr,underlying81->qd,underlying25->q3,underlying35->q4,underlying23->r9,underlying78->sa,func123->tj,underlying140->yq,zeroValue4->yr
open List renaming length_append->aQ,length_drop->bC,mem_cons_of_mem->bP,getElem?_eq_getElem->bS,getElem?_eq_some_iff->bT,mem_cons_self->b9,mem_of_getElem?->cb,length_cons->cf,append_nil->cH,length_nil->dC,length_take->dS,append_assoc->eB,length->eC,getElem?_map->eF,mem_cons->eX,drop_drop->fE,length_map->fT,flatMap_cons->gE,length_pos_iff->gF,nil_append->gG,cons_append->gT,mem_singleton->hL,getD_eq_getElem?_getD->hZ,mem_append_right->h0,mem_append->iv,take_zero->iw,mem_append_left->iM,map_cons->jk,take_succ_cons->jG,getElem?_of_mem->jX,map_append->kc,length_singleton->ll,mem_map->lm,take_of_length_le->lQ,drop_zero->mS,not_mem_nil->mT,take_length->nG,drop_eq_getElem_cons->ph,flatten_cons->pi,all_eq_true->p7,eq_nil_of_length_eq_zero->p8,drop_eq_nil_of_le->q0,drop_succ_cons->r7,getElem?_drop->tc,getElem?_take->te,perm_middle->tf,drop_take->yk,foldl_cons->yl,drop_of_length_le->AD,size_toArray->Hj
open Nat renaming zero_le->bU,le_refl->bV,add_zero->gb,beq->gU,zero_add->gV,add_assoc->mU,le_trans->nI,blt->qb,eq_zero_or_pos->tg,min_eq_left->yn,zero_lt_one->AF,lt_irrefl->DK
open Int renaming toNat->dw,toNat_natCast->gD
open Bool renaming and_eq_true->fS,or_eq_true->hW,eq_iff_iff->jE,not_eq_true'->kP,noConfusion->qR,false_eq_true->r0,or_eq_false_iff->uB
open Option.some renaming injEq->kS,inj->mb
open Classical renaming byContradiction->nA,not_not->nB
open Option renaming map_eq_some_iff->nJ,map_some->ti
open UInt8 renaming toNat_inj->q5
open Array renaming range->wg,length_toList->KQ
set_option linter.unusedSimpArgs false
set_option linter.unusedVariables false
set_option maxHeartbeats 4000000
set_option maxRecDepth 100000
section
namespace Go.Proofs.YthiafbkolhnadaaGreatDoor
open Go Go.Dk Go.RowKit Go.Lib
attribute [local irreducible] Go.wpList Go.Code.wp Go.bodyPost Go.wpStill Go.wpQuiet
theorem aId (bj:Nat)(w:World):(Instr.build 83 ([(0,(J bj))]:List (Nat×Value)).toArray).run W w=.ok (.agg #[J bj,.bool (false),.bool (false),M [],J 0,J 0,J 0,J 0,J 0,M [],al,al,al]) w:=by
 go_simp
 try rfl
theorem aH6 (bj:List UInt8)(bg:Int)(b4:Bool)(fQ:Bool)(ir:Value)(ld:Int)(ux:Int)(uy:Int)(uz:Int)(uw:Int)(zZ:Value)(z1:Value)(KH:Value)(KI:Value)(w:World):(Instr.build 133 ([(0,(M bj)),(1,.agg #[.int .i64 (bg),.bool (b4),.bool (fQ),ir,.int .i64 (ld),.int .i64 (ux),.int .i64 (uy),.int .i64 (uz),.int .i64 (uw),zZ,z1,KH,KI])]:List (Nat×Value)).toArray).run W w=.ok (.agg #[M bj,.int .i64 (bg),.bool (b4),.bool (fQ),ir,.int .i64 (ld),.int .i64 (ux),.int .i64 (uy),.int .i64 (uz),.int .i64 (uw),zZ,z1,KH,KI]) w:=by
 go_simp
 try rfl
def uM (t:T)(cs:List Value)(w0:World):Prop:=Ret W 66 [.agg cs.toArray] w0 (λu w'=>∃ (v:V) (cells:List Value) (rs:List Row),u=.agg cells.toArray/\Shp t v/\RR 83 133 rs v cells/\Cxr w0 w' [] rs)
theorem bFr (lead tail:List UInt8)(l:List (T×List UInt8×T))(cs:List Value)(w0:World)(hv:Nw w0 (.mk 3 lead [91] (l.map (·.1)) tail) cs)(hn:l.length<=1000000)(he:∀ y∈l,EntOk false y.1 y.2.1 y.2.2)(ih:∀ y∈l,∀ (w:World) (cs:List Value),Nw w y.2.2 cs->uM y.2.2 cs w):uM (.mk 3 lead [91] (l.map (·.1)) tail) cs w0:=by
 obtain ⟨la,lc,lb,rfl,hlc,ez,dN⟩:=hv.kids;unfold uM;rw [fT] at hlc ez ⊢;refine LD ?_;have G:=Ctx.start w0;refine ag ?_;refine bE ?_;intro b1 w G er fX;refine fD ?_;intro b2 w G di e3;refine kf ?_;refine cn B (λef=>?_) (λef=>?_)
 ·exact Gf
 refine aq ?_;refine cn B (λjJ=>?_) (λjJ=>?_)
 ·refine ag ?_;refine RQ ?_;refine fD ?_;intro b3 w G eE gr;refine lO ?_;intro w G rK;refine cF ?_;refine bu (λg f ah=>∃ (i:Nat) (vl:List V) (css:List (List Value)) (k1:Value) (rs:List Row),g=l.length-i/\(i<=l.length)/\(vl.length=i)/\(LF 83 133 rs vl [] css [] vl.length)/\(∀ (j:Nat) (y:T×List UInt8×T) (x:V),l[j]?=some y->vl[j]?=some x->Shp y.2.2 x)/\f 28=J i/\f 26=.slice la l.length lc/\f 27=J l.length/\f 1=ao b1 0/\f 2=ao b2 0/\f 3=ao b3 0/\f 14=J 3/\Cxr w0 ah [(b3,aa 83 [J 6,.bool (false),.bool (false),M [],J 0,J 0,J 0,J 0,J 0,M [],al,k1,al]),(b2,aa 83 [J 0,.bool (false),.bool (false),M [],J 0,J 0,J 0,J 0,J 0,M [],al,al,al]),(b1,aa 72 [J 3,M lead,M ([91]),.slice la l.length lc,M tail])] (⟨83,13,k1,vl.length,css.flatten⟩::rs)) ((λ(i:Nat)=>l.length-i) 0) ?_ ?_
  ·exact ⟨0,[],[],al,[],B,bU _,B,LF.start0 83 133 [],λj y x h1 h2=>by simp at h2,aJ,B,aJ,B,B,B,B,(G.nilRow 83 13)⟩
  intro qi f w ai;obtain ⟨i,vl,css,k1,rs,IN,hi,zi,lf,mv,aP6,Oe,Jq,aK,aE,aR,mu,G⟩:=ai;refine aq ?_;refine Z (λgY=>?_) (λgY=>?_)
  ·have dK:i<l.length:=I;obtain ⟨y,hy⟩:∃ y,l[i]?=some y:=⟨_,bS I⟩;have tZ:=cb hy;obtain ⟨ecs,ds,cz⟩:=dN i y.1 (by rw [eF,hy];rfl);obtain ⟨lK,ij,dD,pc,rfl,eI,fy,pM,Ot⟩:=ds.entF (he y tZ);refine aq ?_;refine S B B (cT dx bA B (Oe.trans (by rw [ez I])) aP6 I I) ?_;refine aEr ?_;refine dv ?_;intro bH w G fl fg;refine hX ?_;intro w G qy;refine ab ?_;refine ei G (G.pick2 1 0 B B B) mixed [(0,32),(1,33),(2,34),(3,35),(4,36),(5,37)] #[true,true,true,true,true,true,false,false,false,false,false] ac ac ac ac ?_;refine i1 ?_;refine GW ?_;refine LG ?_;refine cW ?_;intro w G aRe;refine li ?_;refine aCq ?_;rintro cUb w ⟨v,cells,rs2,rfl,mw,dH,cq⟩;replace G:=G.callRows cq;obtain ⟨cS,cZ,c0,rfl,gM,gi,iV⟩:=dH.form cq;replace G:=G.permR tf;refine RS ?_;refine lh ?_;refine Gi ?_;intro cI7 w G cLk aQ0;refine hK ⟨.inl (G.pick2 2 1 B B B),?_⟩;refine mP ?_;refine aCr ?_;intro KC w G cNi;replace G:=G.drop 1;refine Dv ?_;refine ej ?_;refine kQ ?_;refine bR (v:=KC) G 1 B B B B B G.oneS B B zL ?_;intro w G oY;refine hY ?_;refine an ?_;exact ⟨_,_,I,B,i+1,vl++[v],css++[vrow v.sc cS cZ c0],_,rs2++rs,B,I,Py,lf.addL0 dH,λj eQ x h1 h2=>by
    rcases zG h2 with ⟨Y,ar⟩ | ⟨rfl,rfl⟩
    ·exact mv j eQ x h1 ar
    ·rw [zi] at h1;rw [hy] at h1;cases h1;exact mw,aJ,Oe,Jq,aK,aE,aR,mu,(G.drop 1).row_eq sK (by rw [List.flatten_append,pi,List.flatten_nil,cH])⟩
  refine an ?_;refine aCs ?_;intro w G sE;refine ag ?_;refine aEs ?_;exact ⟨.mk ⟨6,false,false,ByteArray.empty,0,0,0,0,0,ByteArray.empty⟩ [] vl [],_,_::rs,B,.list l he B (by show vl.length=_;omega) mv,RR.mk ⟨6,false,false,ByteArray.empty,0,0,0,0,0,ByteArray.empty⟩ [] vl [] _ _ _ css [] (.inl ⟨B,B⟩) (.inr (b9 ..)) lf.hlc (λi v cs h h2=>(lf.hlv i v cs h h2).mono λr hr=>bP _ hr) (.inl ⟨B,B⟩) B (λi kv cs h=>by simp at h),G.drop 3⟩
 exact absurd jJ (by decide)
theorem bFs (lead tail:List UInt8)(l:List (T×List UInt8×T))(cs:List Value)(w0:World)(hv:Nw w0 (.mk 4 lead [123] (l.map (·.1)) tail) cs)(hn:l.length<=1000000)(he:∀ y∈l,EntOk true y.1 y.2.1 y.2.2)(ih:∀ y∈l,∀ (w:World) (cs:List Value),Nw w y.2.2 cs->uM y.2.2 cs w)(lE:∀ y∈l,y.1.print.length<=1000000):uM (.mk 4 lead [123] (l.map (·.1)) tail) cs w0:=by
 obtain ⟨la,lc,lb,rfl,hlc,ez,dN⟩:=hv.kids;unfold uM;rw [fT] at hlc ez ⊢;refine LD ?_;have G:=Ctx.start w0;refine ag ?_;refine bE ?_;intro b1 w G er fX;refine fD ?_;intro b2 w G di e3;refine kf ?_;refine cn B (λef=>?_) (λef=>?_)
 ·exact Gf
 refine aq ?_;refine cn B (λjJ=>?_) (λjJ=>?_)
 ·exact absurd jJ (by decide)
 refine aq ?_;refine cn B (λoR=>?_) (λoR=>?_)
 ·refine ag ?_;refine S B B (cd (qs:=[(0,(J 7))]) (aId _) B B) ?_;refine fD ?_;intro bq w G gX hF;refine lO ?_;intro w G np;refine cF ?_;refine bu (λg f ah=>∃ (i:Nat) (jb:List (ByteArray×V)) (fss:List (List Value)) (lx:Value) (rs:List Row),g=l.length-i/\(i<=l.length)/\(jb.length=i)/\(jb.map (λkv:ByteArray×V=>kv.1)=(l.take i).map λy=>bs y.2.1)/\(LF 83 133 rs [] jb [] fss jb.length)/\(∀ (j:Nat) (y:T×List UInt8×T) (x:ByteArray×V),l[j]?=some y->jb[j]?=some x->Shp y.2.2 x.2)/\f 50=J i/\f 48=.slice la l.length lc/\f 49=J l.length/\f 1=ao b1 0/\f 2=ao b2 0/\f 6=ao bq 0/\Cxr w0 ah [(bq,aa 83 [J 7,.bool (false),.bool (false),M [],J 0,J 0,J 0,J 0,J 0,M [],al,al,lx]),(b2,aa 83 [J 0,.bool (false),.bool (false),M [],J 0,J 0,J 0,J 0,J 0,M [],al,al,al]),(b1,aa 72 [J 4,M lead,M ([123]),.slice la l.length lc,M tail])] (⟨133,14,lx,jb.length,fcells (jb.map λkv:ByteArray×V=>kv.1) fss⟩::rs)) ((λ(i:Nat)=>l.length-i) 0) ?_ ?_
  ·exact ⟨0,[],[],al,[],B,bU _,B,B,LF.start0 83 133 [],λj y x h1 h2=>by simp at h2,aJ,B,aJ,B,B,B,(G.nilRow 133 14)⟩
  intro Uu f w ai;obtain ⟨i,jb,fss,lx,rs,bPu,hi,zi,lW,lf,mv,aQa,aP9,Og,aK,aE,aL,G⟩:=ai;refine aq ?_;refine Z (λID=>?_) (λID=>?_)
  ·have dK:i<l.length:=I;obtain ⟨y,hy⟩:∃ y,l[i]?=some y:=⟨_,bS I⟩;have tZ:=cb hy;obtain ⟨ecs,ds,cz⟩:=dN i y.1 (by rw [eF,hy];rfl);obtain ⟨lK,ij,dD,bWy,pc,gj,x,rfl,eI,fy,pM,Ot,Vz,bVy,pJ,nj⟩:=ds.entT (he y tZ);refine aq ?_;refine S B B (cT dx bA B (aP9.trans (by rw [ez I])) aQa I I) ?_;refine aEr ?_;refine dv ?_;intro cP w G lB jg;refine hX ?_;intro w G xo;refine aq ?_;refine LH ?_;refine ab ?_;refine S B B (br B B aF B ((Vz.up G.ext).cell 2 B)) ?_;have B7:=lE y tZ;refine bG G (aIn x _ cR) Tryz.func118 B B B B B B ?_;intro cBv w G WV Wb;obtain ⟨OW,cSg,rfl,bQl,cOg,bQp⟩:=Wb;refine ae ?_;have Vx:OW=y.2.1:=by
    unfold KeyR at pJ;rcases nj with hb | ⟨eG,o,aw⟩
    ·rw [O (ra hb)] at pJ;rw [(bQl hb).2,pJ]
    . rw [U eG] at pJ
      obtain ⟨m,hm⟩:=pJ;have h:=(bQp o (λhb=>ra hb eG) eG aw).2;cases aw.det hm;exact h
   refine S B B (av (v:=(M OW)) B B) ?_;refine ag ?_;refine ei G (G.pick2 1 0 B B B) mixed [(0,63),(1,64),(2,65),(3,66),(4,67),(5,68),(6,69)] #[true,true,true,true,true,true,true,false,false,false,false,false,false] ac ac ac ac ?_;refine i1 ?_;refine eY ?_;refine GW ?_;refine LG ?_;refine cW ?_;intro w G bVj;refine lh ?_;refine aCq ?_;rintro v70 w ⟨v,cells,rs2,rfl,mw,dH,cq⟩;replace G:=G.callRows cq;obtain ⟨cS,cZ,c0,rfl,gM,gi,iV⟩:=dH.form cq;replace G:=G.permR tf;refine RS ?_;refine mP ?_;refine S B B (cd (qs:=[(0,(M OW)),(1,.agg #[.int .i64 (v.sc.kind),.bool (v.sc.b),.bool (v.sc.neg),.string v.sc.dig,.int .i64 (v.sc.exp),.int .i64 (v.sc.tk),.int .i64 (v.sc.td),.int .i64 (v.sc.tn),.int .i64 (v.sc.tz),.string v.sc.text,cS,cZ,c0])]) (aH6 _ _ _ _ _ _ _ _ _ _ _ _ _ _) B B) ?_;refine RS ?_;refine qV ?_;refine QW ?_;intro aZx w G bN1 WZ;refine hK ⟨.inl (G.pick2 2 1 B B B),?_⟩;refine kQ ?_;refine aCt ?_;intro Y0 w G bP5;replace G:=G.drop 1;refine dQ ?_;refine mO ?_;refine ej ?_;refine r2 ?_;refine bR (v:=Y0) G 1 B B B B B G.oneS B B CF ?_;intro w G xp;refine hY ?_;refine an ?_;exact ⟨_,_,I,B,i+1,jb++[(bs OW,v)],fss++[vrow v.sc cS cZ c0],_,rs2++rs,B,I,Py,(by rw [kc,lW,List.take_add_one,hy,kc,Vx];rfl),lf.addF0 dH,λj eQ z h1 h2=>by
    rcases zG h2 with ⟨Y,ar⟩ | ⟨rfl,rfl⟩
    ·exact mv j eQ z h1 ar
    ·rw [zi] at h1;rw [hy] at h1;cases h1;exact mw,aJ,aP9,Og,aK,aE,aL,(G.drop 1).row_eq sK aT0⟩
  refine an ?_;refine aCu ?_;intro w G W6;refine ag ?_;refine aEs ?_;exact ⟨.mk ⟨7,false,false,ByteArray.empty,0,0,0,0,0,ByteArray.empty⟩ [] [] jb,_,_::rs,B,.map l he B (by show jb.map (λkv:ByteArray×V=>kv.1)=_;rw [lW,lQ I]) mv,RR.mk ⟨7,false,false,ByteArray.empty,0,0,0,0,0,ByteArray.empty⟩ [] [] jb _ _ _ [] fss (.inl ⟨B,B⟩) (.inl ⟨B,B⟩) B (λi v cs h=>by simp at h) (.inr (b9 ..)) lf.hfc (λi kv cs h h2=>(lf.hfv i kv cs h h2).mono λr hr=>bP _ hr),G.drop 3⟩
 exact absurd oR (by decide)
theorem bFt (lead text:List UInt8)(cs:List Value)(w0:World)(hv:Nw w0 (.mk 2 lead text [] []) cs)(hs:text.length<=1000000)(hx:text≠[]):uM (.mk 2 lead text [] []) cs w0:=by
 obtain ⟨la,lc,lb,rfl,hlc,ez,dN⟩:=hv.kids;refine LD ?_;have G:=Ctx.start w0;refine ag ?_;refine bE ?_;intro b1 w G er fX;refine fD ?_;intro b2 w G di e3;refine kf ?_;refine cn B (λef=>?_) (λef=>?_)
 ·exact Gf
 refine aq ?_;refine cn B (λjJ=>?_) (λjJ=>?_)
 ·exact absurd jJ (by decide)
 refine aq ?_;refine cn B (λoR=>?_) (λoR=>?_)
 ·exact absurd oR (by decide)
 refine aq ?_;refine bW (aIo text _ hs hx) Tryz.func119 B B B B B B ?_;rintro cUn w ⟨sc,mX,ix,qf,iy,H0,rs,rfl,aL,aS,y2,Ok,cq⟩;replace G:=G.callRows cq;refine ae ?_;refine fD ?_;intro da w G tD pN;refine aCv ?_;intro w G W7;refine Rz ?_;refine an ?_;refine aCw ?_;intro w G Fe;refine ag ?_;refine j8 Tryz.results66 B (G.at 1 B) fb B c6 ?_;exact ⟨.mk sc mX [] [],_,rs,B,.sc aL aS,.mk sc mX [] [] _ _ _ [] [] y2 (.inl ⟨B,B⟩) B (λi v cs h=>by simp at h) (.inl ⟨B,B⟩) B (λi kv cs h=>by simp at h),by have:=G.drop 3;rw [cH] at this;exact this⟩
theorem cHb {t:T}(h:Gt t):t.count<=1000000->t.print.length<=1000000->∀ (w:World) (cs:List Value),Nw w t cs->uM t cs w:=by
 induction h with
 | sc hx =>
  rename_i lead text;intro hc hp w cs hv;rw [dX] at hp;simp only [aQ] at hp;exact bFt lead text cs w hv I hx
 | @coll m lead tail l he aH hk hn ih =>
  intro hc hp w cs hv;rw [dT] at hc;rw [dX] at hp;simp only [aQ] at hp;have ie:=jv (l.map (·.1));rw [fT] at ie;have ec:∀ y∈l,y.1.print.length<=1000000/\y.2.2.count<=1000000/\y.2.2.print.length<=1000000:=λy hy=>by
   exact aBr
  have n7:∀ y∈l,∀ (w:World) (cs:List Value),Nw w y.2.2 cs->uM y.2.2 cs w:=λy hy=>ih y hy (ec y hy).2.1 (ec y hy).2.2
  cases m with
  | false=>exact bFr lead tail l cs w hv I he n7
  | true=>exact bFs lead tail l cs w hv I he n7 λy hy=>(ec y hy).1
theorem bFq (t:T)(tail:List UInt8)(cs:List Value)(w0:World)(hv:Nw w0 (.mk 1 [] [] [t] tail) cs)(aH:Gt t)(hc:t.count<=1000000)(hp:t.print.length<=1000000):uM t cs w0:=by
 obtain ⟨la,lc,lb,rfl,hlc,ez,dN⟩:=hv.kids;obtain rfl:=ez AF;obtain ⟨ecs,ds,cz⟩:=dN 0 t rfl;refine LD ?_;have G:=Ctx.start w0;refine ag ?_;refine bE ?_;intro b1 w G er fX;refine fD ?_;intro b2 w G di e3;refine kf ?_;refine cn B (λef=>?_) (λef=>?_)
 ·refine an ?_;refine RT ?_;refine S B B (cG (l:=ecs) B B de B bA (cz.up G.ext) ds.len) ?_;refine bW (cHb aH hc hp _ ecs (ds.up G.ext)) Tryz.func66 B B B B B B ?_;rintro v21 w ⟨v,cells,rs2,rfl,mw,dH,cq⟩;replace G:=G.callRows cq;obtain ⟨cS,cZ,c0,rfl,gM,gi,iV⟩:=dH.form cq;refine bn G 0 B B B B B B c6 B (mM (s:=v.sc) gM gi iV) ?_;intro w G ig;refine ag ?_;refine j8 Tryz.results66 B (G.at 0 B) fb B c6 ?_;exact ⟨v,_,rs2,B,mw,dH,by have:=G.drop 2;rw [cH] at this;exact this⟩
 exact Gf
theorem bAv  (w:World):(Instr.build 83 ([]:List (Nat×Value)).toArray).run W w=.ok (.agg #[J 0,.bool (false),.bool (false),M [],J 0,J 0,J 0,J 0,J 0,M [],al,al,al]) w:=by
 go_simp
 try rfl
theorem aT7 {s:List UInt8}{d n b a e:Int}{t:T}(h:Pd cx s d n b a e (.inr t)):t.print=s/\Ck 1 t/\t.count<=2*s.length+1/\∃ v tail,t=.mk 1 [] [] [v] tail/\Gt v:=by
 cases h with
 | doc h hs hb hr =>
  unfold okL at h;exact aUe I hr
theorem aI8 (s:List UInt8)(d n b a e:Int)(w0:World)(hs:s.length<=1000000)(ht:Tabs w0):Ret W 26 [M s,.agg #[.int .i64 d,.int .i64 n,.int .i64 b,.int .i64 a,.int .i64 e]] w0 (λv w'=>∃ (k:Nat) (cI bl ev:List UInt8) (cB:Option Addr) (n2 n3 o bk:Nat) (rs:List Row),v=.tuple #[.agg (nrow k cI bl (.slice cB n2 n3) ev).toArray,J o,J bk]/\Cxr w0 w' [] rs/\((bk≠0/\Pd cx s d n b a e (.inl (o,bk)))\/(bk=0/\o=0/\∃ (t:T) (tail:List UInt8),Pd cx s d n b a e (.inr (.mk 1 [] [] [t] tail))/\Gt t/\t.count<=2*s.length/\t.print.length<=s.length/\NR rs (.mk 1 [] [] [t] tail) (nrow k cI bl (.slice cB n2 n3) ev)))):=by
 refine (bDc s d n b a e w0 hs ht).mono ?_;rintro v w' (⟨o,bk,he,rfl,hp,hb⟩ | ⟨t,cs,rs,rfl,hp,c9,G⟩)
 ·exact ⟨0,[],[],[],none,0,0,o,bk,[],B,⟨hb,by simp,by simp,by simp,by simp,by simp,by simp⟩,.inl ⟨he,hp⟩⟩
 . obtain ⟨cB,n2,n3,rfl⟩:=c9.form G
   obtain ⟨cu,_,ru,fC,tail,rfl,aH⟩:=aT7 hp;have h2:fC.print.length<=s.length:=by
    rw [<- cu,dX,hU];simp only [aQ];omega
   rw [dT,jH,kE] at ru;exact ⟨_,_,_,_,cB,n2,n3,0,0,rs,B,G,.inr ⟨B,B,fC,tail,hp,aH,I,h2,c9⟩⟩
theorem aI9 (s:List UInt8)(d n b a e:Int)(w0:World)(hs:s.length<=400000)(ht:Tabs w0):Ret W 27 [M s,.agg #[.int .i64 d,.int .i64 n,.int .i64 b,.int .i64 a,.int .i64 e]] w0 (λv w'=>(∃ o bk:Nat,bk≠0/\Pd cx s d n b a e (.inl (o,bk))/\∃ x,v=.tuple #[x,J o,J bk]/\Below w0.heap.size w0 w')\/(∃ (t:T) (tail:List UInt8) (x:V) (cells:List Value) (rs:List Row),v=.tuple #[.agg cells.toArray,J 0,J 0]/\Pd cx s d n b a e (.inr (.mk 1 [] [] [t] tail))/\Shp t x/\RR 83 133 rs x cells/\Cxr w0 w' [] rs)):=by
 refine aI Tryz.func27 B Tryz.ntmps27 B ?_;have G:=Ctx.start w0;refine ag ?_;refine bE ?_;intro b3 w G eE gr;refine fD ?_;intro bp w G gW gN;refine aG ?_;have aE:s.length<=1000000:=I;refine bW (aI8 s d n b a e _ aE (ht.up G.ext)) Tryz.func26 B B B B B B ?_;rintro P7 w ⟨k,cI,bl,ev,cB,n2,n3,o,bk,rs,rfl,cq,cu⟩;replace G:=G.callRows cq;refine an ?_;refine dv ?_;intro b7 w G nO iW;refine hX ?_;intro w G ko;refine pg ?_;refine aG ?_;refine Z (λhB=>?_) (λhB=>?_)
 ·obtain ⟨nS,dc⟩:=cu.resolve_right (λh=>I);refine ag ?_;refine RU ?_;refine ag ?_;refine wh ?_;intro w G ig;refine pg ?_;refine ag ?_;refine aEt ?_;exact .inl ⟨o,bk,nS,dc,_,B,G.ext⟩
 obtain ⟨_,_,t,tail,dc,qq,ru,sx,c9⟩:=cu.resolve_left (λh=>h.1 I);refine an ?_;refine bW (bFq t tail _ _ ((c9.mono λr h=>iM _ h).vw G) qq I I) Tryz.func66 B B B B B B ?_;rintro cGd w ⟨v,cells,rs2,rfl,mw,dH,oI⟩;replace G:=G.callRows oI;obtain ⟨cS,cZ,c0,rfl,gM,gi,iV⟩:=dH.form oI;refine QX ?_;intro w G hG;refine an ?_;refine aEt ?_;exact aCc
def SG (t:T)(cs:List Value)(w0:World):Prop:=Fc W 67 [.agg cs.toArray] w0 (λv _=>v=(J t.print.length))
theorem xG {ks:List T}{i:Nat}{k:T}(h:ks[i]?=some k):(prints (ks.take (i+1))).length=(prints (ks.take i)).length+k.print.length:=by
 rw [List.take_add_one,h,sO,aQ];show _+(prints [k]).length=_;rw [hU,gx,cH]
theorem vH (ks:List T)(i:Nat):(prints (ks.take i)).length<=(prints ks).length:=by
 exact aBu
theorem bFu (k:Nat)(lead text tail:List UInt8)(ks:List T)(cs:List Value)(w0:World)(hv:Nw w0 (.mk k lead text ks tail) cs)(hp:(T.mk k lead text ks tail).print.length<=1000000)(hn:ks.length<=1000000)(ih:∀ t∈ks,∀ (w:World) (cs:List Value),Nw w t cs->SG t cs w):SG (.mk k lead text ks tail) cs w0:=by
 obtain ⟨la,lc,lb,rfl,hlc,ez,dN⟩:=hv.kids;rw [dX] at hp;simp only [aQ] at hp;refine aI Tryz.func67 B Tryz.ntmps67 B ?_;have G:=Ctx.start w0;refine ag ?_;refine bE ?_;intro b1 w G er fX;refine oC ?_;refine aEu ?_;refine cF ?_;refine bu (λg f ah=>∃ (i:Nat),g=ks.length-i/\(i<=ks.length)/\f 3=J (lead.length+text.length+tail.length+(prints (ks.take i)).length)/\f 20=J i/\f 18=.slice la ks.length lc/\f 19=J ks.length/\f 2=J 0/\Cxr w0 ah [(b1,aa 72 [J k,M lead,M text,.slice la ks.length lc,M tail])] []) ((λ(i:Nat)=>ks.length-i) 0) ?_ ?_
 ·exact ⟨0,B,bU _,aJ,aJ,B,aJ,B,G⟩
 intro gJ f w ai;obtain ⟨i,qp,hi,aR,EY,sB,aP4,aE,G⟩:=ai;refine aq ?_;refine Z (λdG=>?_) (λdG=>?_)
 ·have dK:i<ks.length:=I;obtain ⟨cy,eI⟩:∃ k,ks[i]?=some k:=⟨_,bS dK⟩;have kI:=cb eI;have sx:=xG eI;have fp:=vH ks (i+1);obtain ⟨ecs,ds,cz⟩:=dN i cy eI;obtain ⟨bj,bg,b4,rfl⟩:=ds.form;refine aq ?_;refine S B B (cT dx bA B (sB.trans (by rw [ez I])) EY I I) ?_;refine LI ?_;refine dv ?_;intro bH w G fl fg;refine hX ?_;intro w G hG;refine ag ?_;refine ag ?_;refine bo G (ih cy kI _ _ (ds.up G.ext)) Tryz.func67 B B B B B B ?_;intro w G E8;refine aG ?_;exact ⟨_,_,I,B,i+1,B,I,aJ,aJ,sB,aP4,aE,G.drop 1⟩
 refine aG ?_;refine be Tryz.results67 B ?_;exact aA4
theorem S0 (bj:Nat)(bg:Nat)(w:World):(Instr.build 48 ([(0,(J bj)),(1,(J bg))]:List (Nat×Value)).toArray).run W w=.ok (.agg #[J bj,J bg]) w:=by
 go_simp
 try rfl
theorem bAk (bj aXw aXx:Nat)(bg:Nat)(b4:Nat)(w:World):(Instr.build 52 ([(0,.slice (some ⟨bj,0,none⟩) aXw aXx),(1,.agg #[J bg,J b4])]:List (Nat×Value)).toArray).run W w=.ok (.agg #[.slice (some ⟨bj,0,none⟩) aXw aXx,J bg,J b4]) w:=by
 go_simp
 try rfl
theorem O4:∀ (n:Nat) (t:T),t.count<=n->t.count<=1000000->t.print.length<=1000000->∀ (w:World) (cs:List Value),Nw w t cs->SG t cs w
 | 0,t,h,_,_,_,_,_=>by have:=yA t;omega
 | n+1,.mk k lead text ks tail,h,hc,hp,w,cs,hv=>by
  have ng:=hc;have ff:=hp;rw [dT] at h ng;rw [dX] at ff;simp only [aQ] at ff;have ie:=jv ks;refine bFu k lead text tail ks cs w hv hp I λt ht w cs hv=>?_
  have h1:=kq ht;exact O4 n t I I I w cs hv
theorem bFv (p:List Stp)(ed:Value)(s:Stp)(w0:World)(hp:Pth w0 ed p)(hl:p.length<=1000):Ret W 68 [ed,.agg (e6 s).toArray] w0 (λu w'=>Cxr w0 w' [] [⟨107,3,u,p.length+1,(p++[s]).flatMap e6⟩]):=by
 obtain ⟨la,lc,Wo,UU,Jn⟩:∃ (la:Option Addr) (lc:Nat),ed=.slice la p.length lc/\(la=none->lc=0)/\∀ w,Below w0.heap.size w0 w->0<p.length->∃ b off,la=some ⟨b,off,none⟩/\RowAt w b off (p.flatMap e6):=by
  exact aAd
 have xr:=Wo;refine aI Tryz.func68 B Tryz.ntmps68 B ?_;have G:=Ctx.start w0;refine dR ?_;refine bE ?_;intro b3 w G eE gr;refine jF ?_;refine jj ?_;refine ei G (G.pick1 0 B) mixed [(0,5),(2,7)] #[true,false,true,false,false,false] ac ac ac ac ?_;refine bw B (bx B) (λw G=>cU B B) ?_;refine bw B (bx B) (λw G=>cG B B Tryz.underlying107 B lM (G.row 0 B) B) ?_;refine cW ?_;intro w G OE;refine fR (i:=1) (j:=3) ac B B ?_ ?_
 ·refine aCx ?_;intro ny w G;refine gS ?_;refine nD ?_;refine K3 ?_;intro cP w G lB jg;exact Z9
 refine K3 ?_;intro cP w G lB jg;refine ta ?_;refine kA (i:=1) ac B ?_;refine aCx ?_;intro ny w G;exact Z9
theorem bLp:bY W 69 0 0:=b5 (tt:=3) Tryz.underlying69 rfl bN rfl
theorem bLq:bY W 69 1 1:=b5 (tt:=32) Tryz.underlying69 rfl CE rfl
theorem Ts (aA w0:World)(b dp fr Ii:Nat)(gR:Value)(Yd dE eV:Nat)(p:List Stp)(ps:List Value)(es:List Ent)(L:List (Nat×Obj))(R:List Row)(cM:Cxr aA w0 ((b,aa 69 [J dp,gR])::L) (⟨52,3,gR,es.length,iz ps es⟩::R))(hl:ps.length=es.length)(hn:es.length<=1000000):Ret W 69 [ao b 0,.slice (some ⟨Yd,0,none⟩) dE eV,J fr,J Ii] w0 (λu w'=>u=.tuple #[]/\∃ oq,Cxr aA w' ((b,aa 69 [J dp,oq])::L) (⟨52,3,oq,(es++[(⟨p,fr,Ii⟩:Ent)]).length,iz (ps++[.slice (some ⟨Yd,0,none⟩) dE eV]) (es++[(⟨p,fr,Ii⟩:Ent)])⟩::R)):=by
 refine aI Tryz.func69 B Tryz.ntmps69 B ?_;have G:=cM;refine cK ?_;refine S B B (cd (qs:=[(0,(J fr)),(1,(J Ii))]) (S0 _ _) B B) ?_;refine S B B (cd (qs:=[(0,.slice (some ⟨Yd,0,none⟩) dE eV),(1,.agg #[J fr,J Ii])]) (bAk _ _ _ _ _) B B) ?_;refine aCy ?_;intro uO w G bNt Ou;refine aCz ?_;intro P8 w G aOh;replace G:=G.drop 1;refine ag ?_;refine bR (v:=P8) G 0 B B B B B G.oneS B B CE ?_;intro w G W5;refine ab ?_;refine mH (.inr B) Tryz.results69 ?_;refine ⟨B,P8,?_⟩;refine mg G sK ?_;rw [TY _ _ _ _ hl];rfl
end Go.Proofs.YthiafbkolhnadaaGreatDoor
end
section
namespace Go.Dk
open Go Go.RowKit Go.Lib Go.Proofs.YthiafbkolhnadaaGreatDoor
section
variable {aA w0 w:World} {L:List (Nat×Obj)} {A F:List Row} {r:Row}
theorem Cxr.rightQ (h:Cxr aA w L (A++F)):Cxr aA w [] F :=
 ⟨h.ext,by simp,by simp,by simp,λr hr=>h.rows r (h0 _ hr),by simp,(List.pairwise_append.1 h.pw).2.1⟩
theorem Cxr.tailF (h:Cxr aA w L (r::(A++F))):Cxr aA w [] F:=Cxr.rightQ (A:=r::A) h
theorem LR.rowAt {e k n c lb:Nat}{xs:List Value}(G:Cxr aA w [] F)(hk:0<k)(hl:LR F e k (.slice (some ⟨lb,0,none⟩) n c) n xs)(ap:0<n):RowAt w lb 0 xs:=by
 obtain ⟨a,c',b,h1,h2,Y⟩:=(hl.slr G hk).form2;obtain ⟨ar,bd⟩:=Y ap;subst ar;cases h1;exact bd
theorem LR.sl2 {e k n:Nat}{v:Value}{xs:List Value}(G:Cxr aA w [] F)(hk:0<k)(hl:LR F e k v n xs):∃ (la:Option Addr) (lc lb:Nat),v=.slice la n lc/\n<=lc/\(0<n->la=some ⟨lb,0,none⟩)/\∀ w,Cxr aA w [] F->0<n->RowAt w lb 0 xs:=by
 obtain ⟨a,c',b,rfl,h2,Y⟩:=(hl.slr G hk).form2;refine ⟨a,c',b,B,h2,λh=>(Y h).1,λw pv h=>?_⟩;obtain ⟨rfl,_⟩:=Y h;exact hl.rowAt pv hk h
theorem NR.kids {k:Nat}{a b c:List UInt8}{ks:List T}{cs:List Value}(G:Cxr aA w0 [] F)(h:NR F (.mk k a b ks c) cs) :
  ∃ (la:Option Addr) (lc lb:Nat),cs=nrow k a b (.slice la ks.length lc) c/\ks.length<=lc/\(0<ks.length->la=some ⟨lb,0,none⟩)/\∀ (i:Nat) (t:T),ks[i]?=some t->∃ ecs,NR F t ecs/\∀ w,Cxr aA w [] F->RowAt w lb (0+i*5) ecs:=by
 cases h with
 | mk k a b ks c kv css hl hc hv =>
  obtain ⟨la,lc,lb,rfl,h1,h2,Y⟩:=hl.sl2 G (by decide);refine ⟨la,lc,lb,B,h1,h2,λi t hi=>?_⟩;have b8:=(bT.1 hi).1;have mq:css[i]?=some css[i]:=bS I;refine ⟨css[i],hv i t _ hi mq,λw pv j x hx=>?_⟩;have ar:=Y w pv I (i*5+j) x (Um css i j _ x (λd hd=>?_) mq hx)
  ·rw [show 0+i*5+j=0+(i*5+j) by omega];exact ar
  . obtain ⟨m,hm⟩:=jX hd
    exact Zt
theorem RR.parts {t u:Nat}{v:V}{cells:List Value}(G:Cxr aA w0 [] F)(h:RR t u F v cells) :
  ∃ (bs:Value) (la kF:Option Addr) (lc lb iR oN:Nat),bs.oneCell'=true/\cells=vrow v.sc bs (.slice la v.list.length lc) (.slice kF v.fields.length iR)/\(0<v.list.length->la=some ⟨lb,0,none⟩)/\(0<v.fields.length->kF=some ⟨oN,0,none⟩) /\
   (∀ (i:Nat) (x:V),v.list[i]?=some x->∃ mN,RR t u F x mN/\∀ w,Cxr aA w [] F->RowAt w lb (0+i*13) mN) /\
   (∀ (i:Nat) (x:ByteArray×V),v.fields[i]?=some x->∃ mN,RR t u F x.2 mN/\∀ w,Cxr aA w [] F->RowAt w oN (0+i*14) (.string x.1::mN)):=by
 cases h with
 | mk s bytes list fields bs ls fs css fss hb hl hlc hlv hf hfc hfv =>
  obtain ⟨la,lc,lb,rfl,h1,h2,Y⟩:=hl.sl2 G (by decide);obtain ⟨kF,iR,oN,rfl,g1,dt,g3⟩:=hf.sl2 G (by decide);have bW0:∀ d∈css,d.length=13:=λd hd=>by
   obtain ⟨m,hm⟩:=jX hd;have vk:=(bT.1 hm).1;exact (hlv m _ d (bS I) hm).len
  have bJ7:∀ d∈fss,d.length=13:=λd hd=>by
   obtain ⟨m,hm⟩:=jX hd;have vk:=(bT.1 hm).1;exact (hfv m _ d (bS I) hm).len
  refine ⟨bs,la,kF,lc,lb,iR,oN,hb.one G,B,h2,dt,λi x hi=>?_,λi x hi=>?_⟩
  . have dK:list[i]?=some x:=hi
    have b8:=(bT.1 dK).1;have mq:css[i]?=some css[i]:=bS I;refine ⟨css[i],hlv i x _ dK mq,λw pv j y hy=>?_⟩;have ar:=Y w pv I (i*13+j) y (Uo css i j _ y bW0 mq hy);rw [show 0+i*13+j=0+(i*13+j) by omega];exact ar
  . have dK:fields[i]?=some x:=hi
    have b8:=(bT.1 dK).1;have mq:fss[i]?=some fss[i]:=bS I;refine ⟨fss[i],hfv i x _ dK mq,λw pv j y hy=>?_⟩;have ar:=g3 w pv I (i*14+j) y (Uj _ fss i x.1 _ bJ7 (by rw [eF,dK];rfl) mq j y hy);rw [show 0+i*14+j=0+(i*14+j) by omega];exact ar
end
section
variable {aA w0 w:World} {L:List (Nat×Obj)} {A F:List Row} {r:Row}
theorem Cxr.pickF (h:Cxr w0 w L (r::(A++F)))(i:Nat){p:Nat×Obj}(hi:L[i]?=some p):Cxr w0 w [p] F:=by
 have hm:=cb hi;refine ⟨h.ext,λq aw=>?_,λq aw=>?_,by simp,λr hr=>h.rows r (bP _ (h0 _ hr)),λr hr k hk kI=>?_,(List.pairwise_append.1 (List.pairwise_cons.1 h.pw).2).2.1⟩
 ·obtain rfl:=hL.1 aw;exact h.own _ hm
 ·obtain rfl:=hL.1 aw;exact h.lo _ hm
 . simp only [jk,List.map_nil,hL] at kI
   exact h.off r (bP _ (h0 _ hr)) k hk (by rw [kI];exact List.mem_map_of_mem hm)
theorem LR.pth {e:Nat}{ed:Value}{p:List Stp}(G:Cxr aA w [] F)(h:LR F e 3 ed p.length (p.flatMap e6)):Pth w ed p:=by
 rcases tg p.length with ap | ap
 . obtain ⟨b,hs,_⟩:=h.slr G (by decide)
   rw [p8 ap] at hs ⊢;exact ⟨b,0,hs,λi x hx=>by simp at hx⟩
 . rcases h with ⟨h1,_⟩ | h
   ·omega
   ·exact aUf G h B ap
variable {P:Program} {Q:Exit->Act->World->Prop} {R:List Row} {n:Nat} {f:Nat->Value}
theorem CN {id:Nat}{l:List Oper}{qa:List (Nat×Obj)}(G:Cxr w0 w L R)(HL:Cxr w0 w qa F)(hm:P.follows .mixedOrders=true)(bi:List (Nat×Nat))(m:Array Bool)
  (dj:mZ l.toArray bi=true) (mr:zr l.toArray bi m=true) (hn:bi.all (λp=>qb p.2 n)=true) (hi:Cb bi=true)
  (h:xU P l.toArray n (λw'=>Cxr w0 w' qa F) (λg=>∀ w',Cxr w0 w' L R->Below w.heap.size w w'->k9 P l.toArray bi Q (λw'=>Cxr w0 w' qa F) (l.length+1) m (aC n g) w') bi f):(Code.region id l.toArray true).wp P Q (aC n f) w:=by
 obtain ⟨g,rm,pE,hall⟩:=Qi dj bi f (λ_ h=>h) hi h;refine Zj G hm bi m (λw'=>Cxr w0 w' qa F) g dj mr (λp hp=>by have:=p7.1 hn p hp;simpa using this) pE (λp hp=>?_) (λw' lz p hp=>?_) λw' hc hb he=>⟨HL.call hb,rm w' hc hb⟩
 ·obtain ⟨o,h1,h2,_⟩:=hall p hp;exact ⟨o,by simpa using h1,h2⟩
 ·obtain ⟨o,h1,_,h2⟩:=hall p hp;exact ⟨o,by simpa using h1,h2 w' lz⟩
theorem RowAt.tlQ {w:World}{b o:Nat}{x:Value}{l:List Value}(h:RowAt w b o (x::l)):RowAt w b (o+1) l:=λj y hy=>by
 have:=h (j+1) y (by simpa using hy);rwa [show o+(j+1)=o+1+j by omega] at this
end
def vkT (t:T):Bool:=t.kind==2||t.kind==3||t.kind==4
def iI (v:V)(i:Nat):Stp:=if v.sc.kind=7 then ⟨false,((v.fields[i]?).map (·.1)).getD ⟨#[]⟩,0⟩ else ⟨true,⟨#[]⟩,i⟩
def kidV (v:V)(i:Nat):V:=if v.sc.kind=7 then ((v.fields[i]?).map (·.2)).getD v else (v.list[i]?).getD v
def hM (f:T->V->Nat->List Stp->List Ent)(x:V)(q:List Stp):List T->Nat->List Ent
 | [],_=>[]
 | k::ks,a=>(if vkT k then ⟨q,((a+k.lead.length:Nat):Int),((a+k.print.length:Nat):Int)⟩::f k x a q else [])++hM f x q ks (a+k.print.length)
def ha (f:T->V->Nat->List Stp->List Ent)(v:V)(p:List Stp):Nat->List T->Nat->List Ent
 | _,[],_=>[]
 | i,e::es,a=>hM f (kidV v i) (p++[iI v i]) e.kids a++ha f v p (i+1) es (a+(prints e.kids).length)
def pT:Nat->T->V->Nat->List Stp->List Ent
 | 0,_,_,_,_=>[]
 | d+1,t,v,a,p=>ha (pT d) v p 0 t.kids (a+t.lead.length+t.text.length)
structure Sh2 (ks:List T) (v:V):Prop where
 ent:∀ (i:Nat) (e:T),ks[i]?=some e->∃ ek,e=.mk 5 [] [] ek []/\∀ k∈ek,vkT k=true->Shp k (kidV v i)
 m7:v.sc.kind=7->v.fields.length=ks.length
 m6:v.sc.kind≠7->0<ks.length->v.list.length=ks.length
theorem aLp {m:Bool}{e v:T}{key:List UInt8}(h:EntOk m e key v):∃ ek,e=.mk 5 [] [] ek []/\∀ k∈ek,vkT k=true->k=v:=by
 obtain ⟨qh,more,rfl,hm,hf⟩:=h;refine ⟨_,B,λk hk hv=>?_⟩;rcases iv.1 hk with hk | hk
 . cases m with
   | false=>obtain ⟨rfl,_⟩:=hf;cases hk
   | true =>
    obtain ⟨gj,x,fh,rfl,_⟩:=hf;simp only [eX,mT,or_false] at hk;rcases hk with rfl | rfl <;> cases hv
 . rcases eX.1 hk with rfl | hk
   ·rfl
   . rcases hm with rfl | ⟨l,rfl⟩
     ·cases hk
     . simp only [eX,mT,or_false] at hk
       subst hk;cases hv
theorem Shp.sh2 {k:Nat}{lead text tail:List UInt8}{ks:List T}{v:V}(h:Shp (.mk k lead text ks tail) v):Sh2 ks v:=by
 cases h with
 | sc h6 h7=>exact ⟨λi e h=>by simp at h,λh=>absurd h h7,λ_ h=>by simp at h⟩
 | list l he hk hn hv =>
  refine ⟨λi e hi=>?_,λh=>I,λ_ _=>by rw [hn,fT]⟩;rw [eF] at hi;obtain ⟨y,hy,rfl⟩:=nJ.1 hi;obtain ⟨ek,h1,h2⟩:=aLp (he y (cb hy));refine ⟨ek,h1,λk fy n0=>?_⟩;rw [h2 k fy n0];have b8:=(bT.1 hy).1;obtain ⟨x,hx⟩:∃ x,v.list[i]?=some x:=⟨_,bS I⟩;have e:kidV v i=x:=by unfold kidV;rw [O I,hx];rfl
  rw [e];exact hv i y x hy hx
 | map l he hk hn hv =>
  have nW:v.fields.length=l.length:=by have:=aD eC hn;simpa using this
  refine ⟨λi e hi=>?_,λh=>by rw [nW,fT],λh=>absurd hk h⟩;rw [eF] at hi;obtain ⟨y,hy,rfl⟩:=nJ.1 hi;obtain ⟨ek,h1,h2⟩:=aLp (he y (cb hy));refine ⟨ek,h1,λk fy n0=>?_⟩;rw [h2 k fy n0];have b8:=(bT.1 hy).1;obtain ⟨x,hx⟩:∃ x,v.fields[i]?=some x:=⟨_,bS I⟩;have e:kidV v i=x.2:=by unfold kidV;rw [U hk,hx];rfl
  rw [e];exact hv i y x hy hx
theorem TU {f:T->V->Nat->List Stp->List Ent}(hf:∀ k x a q,(f k x a q).length+1<=k.count)(x:V)(q:List Stp):∀ (ks:List T) (a:Nat),(hM f x q ks a).length<=counts ks
 | [],a=>bU _
 | k::ks,a=>by
  simp only [hM,jH,aQ];have h1:=TU hf x q ks (a+k.print.length);have h2:=hf k x a q;have Y:=yA k;split
  ·rw [cf];omega
  ·rw [dC];omega
theorem Ya {f:T->V->Nat->List Stp->List Ent}(hf:∀ k x a q,(f k x a q).length+1<=k.count)(v:V)(p:List Stp):∀ (es:List T) (i a:Nat),(ha f v p i es a).length<=counts es
 | [],i,a=>bU _
 | .mk k b c ks d::es,i,a=>by
  simp only [ha,jH,aQ];have h1:=Ya hf v p es (i+1) (a+(prints (T.mk k b c ks d).kids).length);have h2:=TU hf (kidV v i) (p++[iI v i]) (T.mk k b c ks d).kids a;have Y:(T.mk k b c ks d).count=1+counts (T.mk k b c ks d).kids:=dT k b c ks d;omega
theorem Kg:∀ (d:Nat) (t:T) (v:V) (a:Nat) (p:List Stp),(pT d t v a p).length+1<=t.count
 | 0,t,v,a,p=>by have:=yA t;simp only [pT,dC];omega
 | d+1,.mk k b c ks e,v,a,p=>by
  have:=Ya (f:=pT d) (λk x a q=>Kg d k x a q) v p ks 0 (a+b.length+c.length);rw [dT];show (ha (pT d) v p 0 ks (a+b.length+c.length)).length+1<=_;omega
theorem aLa (f:T->V->Nat->List Stp->List Ent)(x:V)(q:List Stp):∀ (ks:List T) (k:T) (a:Nat),hM f x q (ks++[k]) a=hM f x q ks a++(if vkT k then ⟨q,((a+(prints ks).length+k.lead.length:Nat):Int),((a+(prints ks).length+k.print.length:Nat):Int)⟩::f k x (a+(prints ks).length) q else [])
 | [],k,a=>by simp [hM,gx]
 | j::ks,k,a=>by
  rw [gT];simp only [hM];rw [aLa f x q ks k,eB,hU,aQ,mU a]
theorem aT4 (f:T->V->Nat->List Stp->List Ent)(v:V)(p:List Stp):∀ (es:List T) (e:T) (i a:Nat),ha f v p i (es++[e]) a=ha f v p i es a++hM f (kidV v (i+es.length)) (p++[iI v (i+es.length)]) e.kids (a+(es.map λe=>(prints e.kids).length).sum)
 | [],e,i,a=>by simp [ha]
 | j::es,e,i,a=>by
  rw [gT];simp only [ha];rw [aT4 f v p es e,eB,cf,jk,List.sum_cons,show i+1+es.length=i+(es.length+1) by omega,mU a]
theorem cEv {ks:List T}{i:Nat}{k:Nat}{b c t:List UInt8}{ek:List T}(h:ks[i]?=some (.mk k b c ek t)):((ks.take (i+1)).map λe=>(prints e.kids).length).sum=((ks.take i).map λe=>(prints e.kids).length).sum+(prints ek).length :=
 cFa (f:=λe:T=>(prints e.kids).length) h
theorem aWh:∀ ks:List T,(ks.map λe=>(prints e.kids).length).sum<=(prints ks).length
 | []=>bU _
 | .mk k b c ek t::ks=>by
  rw [jk,List.sum_cons,hU,aQ,dX];have:=aWh ks;simp only [aQ];show (prints ek).length+_<=_;omega
theorem cEw (ks:List T)(i:Nat):((ks.take i).map λe=>(prints e.kids).length).sum<=(prints ks).length:=by
 refine nI (aWh _) ?_;exact aBu
theorem TB {ks:List T}{i:Nat}{e:T}(h:ks[i]?=some e):counts (ks.take i)+e.count<=counts ks:=by
 have hi:=(bT.1 h).1;have h2:ks=ks.take i++e::ks.drop (i+1):=by
  rw [<- (bT.1 h).2];simp
 have Y:=aD counts h2;rw [tx,jH] at Y;omega
theorem cAh (d:Nat)(v:V)(p:List Stp)(ks:List T)(i a:Nat){ek:List T}(h:ks[i]?=some (.mk 5 [] [] ek [])):(ha (pT d) v p 0 (ks.take i) a).length+counts ek<=counts ks:=by
 have h1:=Ya (f:=pT d) (λk x a q=>Kg d k x a q) v p (ks.take i) 0 a;have h2:=TB h;rw [dT] at h2;omega
theorem bIr (d:Nat)(x:V)(q:List Stp)(ek:List T)(j a:Nat){k:T}(h:ek[j]?=some k):(hM (pT d) x q (ek.take j) a).length+k.count<=counts ek:=by
 have h1:=TU (f:=pT d) (λk x a q=>Kg d k x a q) x q (ek.take j) a;have h2:=TB h;omega
theorem aSf (k:T):k.lead.length<=k.print.length:=by
 cases k with
 | mk k b c ks t=>rw [dX];simp only [aQ];show b.length<=_;omega
theorem aUc (t:Nat):∀ (a b:List Value) (c d:List Ent),a.length=c.length->iH t (a++b) (c++d)=iH t a c++iH t b d
 | [],b,[],d,_=>rfl
 | x::a,b,y::c,d,h=>by
  simp only [gT,iH,aUc t a b c d ku]
 | [],_,_::_,_,h=>by simp at h
 | _::_,_,[],_,h=>by simp at h
theorem AU {w0 w:World}{L:List (Nat×Obj)}{R gH:List Row}(h:Cxr w0 w L R)(pD:R=gH):Cxr w0 w L gH:=pD▸h
theorem PB {t:Nat}{sN pn4:List Value}{oL e4:List Ent}{Q:Value}{X:Ent}{mE r4:List Row}(h2:sN.length=oL.length)(dt:∀ q∈iH t sN oL,q∈mE)(g4:∀ q∈iH t pn4 e4,q∈r4):∀ q∈iH t (sN++(Q::pn4)) (oL++(X::e4)),q∈r4++(vI t Q X::mE):=by
 intro q aw;rw [aUc t _ _ _ _ h2] at aw;rcases iv.1 aw with aw | aw
 ·exact h0 _ (bP _ (dt q aw))
 . simp only [iH] at aw
   rcases eX.1 aw with rfl | aw
   ·exact h0 _ (b9 ..)
   ·exact iM _ (g4 q aw)
end Go.Dk
end
section
namespace Go.Proofs.YthiafbkolhnadaaGreatDoor
open Go Go.Dk Go.RowKit Go.Lib
attribute [local irreducible] Go.wpList Go.Code.wp Go.bodyPost Go.wpStill Go.wpQuiet
theorem SZ (bj:Bool)(bg:Nat)(w:World):(Instr.build 107 ([(0,.bool (bj)),(2,(J bg))]:List (Nat×Value)).toArray).run W w=.ok (.agg #[.bool (bj),M [],J bg]) w:=by
 go_simp
 try rfl
def SJ (d:Nat):Prop:=∀ (aA w0:World) (b dp a:Nat) (gR ed:Value) (t:T) (v:V) (cs cells:List Value) (p:List Stp) (ps:List Value) (es:List Ent) (L:List (Nat×Obj)) (F:List Row) (cM:Cxr aA w0 ((b,aa 69 [J dp,gR])::L) (⟨52,3,gR,es.length,iz ps es⟩::F)) (hl:ps.length=es.length) (qn:es.length+t.count<=1000000) (dr:NR F t cs) (yN:RR 83 133 F v cells) (lz:Shp t v) (hp:LR F 107 3 ed p.length (p.flatMap e6)) (hd:d+p.length=dp) (aNx:dp<=48) (oP:a+t.print.length<=1000000) (hc:t.count<=1000000),Ret W 28 [ao b 0,.agg cs.toArray,.agg cells.toArray,J a,ed] w0 (λu w'=>u=.tuple #[]/\∃ (oq:Value) (dE:List Value) (rs:List Row),Cxr aA w' ((b,aa 69 [J dp,oq])::L) (⟨52,3,oq,(es++pT d t v a p).length,iz (ps++dE) (es++pT d t v a p)⟩::(rs++F))/\dE.length=(pT d t v a p).length/\∀ q∈iH 107 dE (pT d t v a p),q∈rs)
theorem aIf (k:ByteArray)(w:World):(Instr.build 107 ([(1,.string k)]:List (Nat×Value)).toArray).run W w=.ok (.agg #[.bool false,.string k,J 0]) w:=by
 go_simp
 try rfl
theorem aJd (d:Nat)(yM:∀ cr,d=cr+1->SJ cr):SJ d:=by
 intro aA w0 b dp a gR ed t v cs cells p ps es L F cM hl qn dr yN lz hp hd aNx oP hc;obtain ⟨k,lead,text,ks,tail⟩:=t;have Iu:=lz.sh2;have jZ:Cxr aA w0 [] F:=Cxr.tailF (A:=[]) cM;obtain ⟨la,lc,lb,rfl,hlc,ez,dN⟩:=dr.kids jZ;obtain ⟨F3,CM,kF,jB,cG9,iR,bL0,aQw,rfl,WN,oT,bUs,bUt⟩:=yN.parts jZ;rw [dX] at oP;simp only [aQ] at oP;rw [dT] at qn hc;have cOw:=jv ks;obtain ⟨fP,eV,vG,rfl,Wk,jP,cu⟩:=hp.sl2 jZ (by decide);refine aI Tryz.func28 B Tryz.ntmps28 B ?_;have G:=cM;refine ag ?_;refine bE ?_;intro bq w G gX hF;refine bE ?_;intro b7 w G nO iW;refine i6 ?_;refine Z (λiS=>?_) (λiS=>?_)
 ·have yU:d=0:=I;subst yU;refine ab ?_;refine mH (.inl B) Tryz.results28 ?_;exact ⟨rfl,gR,[],[],AU (G.drop 2) (by simp only [pT,cH,gG]),rfl,(λq h=>by cases h)⟩
 obtain ⟨cr,rfl⟩:∃ cr,d=cr+1:=⟨d-1,I⟩;refine i6 ?_;refine S B B (av (v:=(J (a+(lead.length+text.length)))) B B) ?_;refine cK ?_;refine bu (λg f ah=>∃ (i fc:Nat) (jC:Value) (dE:List Value) (dU:List Ent) (rs:List Row),g=ks.length-i/\(i<=ks.length)/\(fc=(a+lead.length+text.length)+((ks.take i).map λe=>(prints e.kids).length).sum)/\(dU=ha (pT cr) v p 0 (ks.take i) (a+lead.length+text.length))/\(dE.length=dU.length)/\(∀ q∈iH 107 dE dU,q∈rs)/\f 37=J i/\f 3=J fc/\f 35=.slice la ks.length lc/\f 36=J ks.length/\f 0=ao b 0/\f 4=.slice fP p.length eV/\f 7=ao b7 0/\Cxr aA ah ((b7,aa 83 [.int .i64 (v.sc.kind),.bool (v.sc.b),.bool (v.sc.neg),.string v.sc.dig,.int .i64 (v.sc.exp),.int .i64 (v.sc.tk),.int .i64 (v.sc.td),.int .i64 (v.sc.tn),.int .i64 (v.sc.tz),.string v.sc.text,F3,.slice CM v.list.length jB,.slice kF v.fields.length iR])::(bq,aa 72 [J k,M lead,M text,.slice la ks.length lc,M tail])::(b,aa 69 [J dp,jC])::L) (⟨52,3,jC,(es++dU).length,iz (ps++dE) (es++dU)⟩::(rs++F))) ((λ(i:Nat)=>ks.length-i) 0) ?_ ?_
 ·exact ⟨0,a+(lead.length+text.length),gR,[],[],[],rfl,bU _,(by simp only [iw,List.map_nil,List.sum_nil];omega),rfl,rfl,(λq h=>by cases h),aJ,aJ,rfl,aJ,rfl,rfl,rfl,(mg G (by rw [cH]) (by rw [cH,cH]))⟩
 intro pC f w ai;obtain ⟨i,fc,jC,dE,dU,rs,EA,hi,yO,ds,lX,qu,qv,aR,tV,rI,aB,aM,aS,G⟩:=ai;refine aq ?_;refine Z (λjp=>?_) (λjp=>?_)
 ·have dK:i<ks.length:=I;obtain ⟨e,he⟩:∃ e,ks[i]?=some e:=⟨_,bS dK⟩;obtain ⟨ek,rfl,E2⟩:=Iu.ent i e he;obtain ⟨ecs,vm,xi⟩:=dN i _ he;obtain ⟨iQ,hN,jm,rfl,II,vd,ve⟩:=vm.kids jZ;have cOs:=jv ek;have nT:=kq (cb he);rw [dT,dX] at nT;simp only [aQ,dC] at nT;have bUb:=cEv (ks:=ks) (i:=i) he;have cPr:=cEw ks (i+1);have cOt:dU.length+counts ek<=counts ks:=by
   rw [ds];exact cAh _ v p ks i _ he
  refine az ?_;refine S B B (cT dx bA B (tV.trans (by rw [ez I])) qv I I) ?_;refine S B B (cG (l:=nrow 5 [] [] (.slice iQ ek.length hN) []) B B de B bA (xi _ G.tailF) B) ?_;refine dv ?_;intro da w G tD pN;refine mR ?_;refine hX ?_;intro w G rK;refine an ?_;refine aEv ?_;refine RU ?_;refine K4 ?_;intro eD w G lA mx;refine fD ?_;intro jY w G Iw qx;refine bn G 1 B B B B B B lM B B ?_;intro w G jt;refine lO ?_;intro w G jt;refine ab ?_;refine cw (λf ah=>∃ (dA:Stp) (c1:V) (cS cZ c0:Value),(dA=iI v i)/\(c1=kidV v i)/\(RR 83 133 F c1 (vrow c1.sc cS cZ c0))/\(cS.oneCell'=true/\cZ.oneCell'=true/\c0.oneCell'=true)/\f 0=ao b 0/\f 3=J fc/\f 4=.slice fP p.length eV/\f 7=ao b7 0/\f 10=J i/\f 11=ao da 0/\f 12=ao eD 0/\f 13=ao jY 0/\f 35=.slice la ks.length lc/\f 36=J ks.length/\f 37=J i/\Cxr aA ah ((jY,aa 83 [.int .i64 (c1.sc.kind),.bool (c1.sc.b),.bool (c1.sc.neg),.string c1.sc.dig,.int .i64 (c1.sc.exp),.int .i64 (c1.sc.tk),.int .i64 (c1.sc.td),.int .i64 (c1.sc.tn),.int .i64 (c1.sc.tz),.string c1.sc.text,cS,cZ,c0])::(eD,aa 107 [.bool (dA.byIndex),.string dA.key,.int .i64 (dA.index)])::(da,aa 72 [J 5,M [],M [],.slice iQ ek.length hN,M []])::(b7,aa 83 [.int .i64 (v.sc.kind),.bool (v.sc.b),.bool (v.sc.neg),.string v.sc.dig,.int .i64 (v.sc.exp),.int .i64 (v.sc.tk),.int .i64 (v.sc.td),.int .i64 (v.sc.tn),.int .i64 (v.sc.tz),.string v.sc.text,F3,.slice CM v.list.length jB,.slice kF v.fields.length iR])::(bq,aa 72 [J k,M lead,M text,.slice la ks.length lc,M tail])::(b,aa 69 [J dp,jC])::L) (⟨52,3,jC,(es++dU).length,iz (ps++dE) (es++dU)⟩::(rs++F))) ?_ ?_
  ·refine az ?_;refine Z (λpI=>?_) (λpI=>?_)
   ·have h7:=Iu.m7 pI;obtain ⟨e9,nj⟩:∃ x,v.fields[i]?=some x:=⟨_,bS I⟩;obtain ⟨mN,qC,aOc⟩:=bUt i e9 nj;obtain ⟨cS,cZ,c0,rfl,gM,gi,iV⟩:=qC.form jZ;have bPr:(.slice kF v.fields.length iR:Value)=.slice (some ⟨bL0,0,none⟩) v.fields.length iR:=by rw [oT I]
    have ck:iI v i=⟨false,e9.1,0⟩:=by unfold iI;rw [U pI,nj];rfl
    have Vv:kidV v i=e9.2:=by unfold kidV;rw [U pI,nj];rfl
    refine CN G (G.pickF 3 B) mixed [(0,48),(1,49),(2,50),(3,51),(4,52),(5,53),(6,54),(7,55),(8,56),(9,57),(10,58),(11,59),(12,60)] #[true,true,true,true,true,true,true,true,true,true,true,true,true,false,false] ac ac ac ac ?_;refine lk ?_;refine aEw ?_;refine eY ?_;refine bw B (bx B) (λw G=>br B B aF B ((aOc _ (G.drop 1)).cell 0 B)) ?_;refine bw B (bx B) (λw G=>cd (qs:=[(1,.string e9.1)]) (aIf _) B B) ?_;refine lk ?_;refine aEw ?_;refine eY ?_;refine bw B (bx B) (λw G=>cG (l:=vrow e9.2.sc cS cZ c0) B B fb B c6 (aOc _ (G.drop 1)).tlQ B) ?_;refine cW ?_;intro w G OG;refine pZ ?_;refine bn G 1 B B B B B B lM B B ?_;intro w G qy;refine hK ⟨.inl (G.pickF 3 B),?_⟩;refine C6 ?_;refine bn G 0 B B B B B B c6 B (mM (s:=e9.2.sc) gM gi iV) ?_;intro w G qy;refine hY ?_;exact ⟨_,B,⟨false,e9.1,0⟩,e9.2,cS,cZ,c0,ck.symm,Vv.symm,qC,⟨gM,gi,iV⟩,aB,aR,aM,aS,B,B,B,B,tV,rI,qv,G⟩
   have h6:=Iu.m6 pI I;obtain ⟨x,hx⟩:∃ x,v.list[i]?=some x:=⟨_,bS I⟩;obtain ⟨mN,qC,bUr⟩:=bUs i x hx;obtain ⟨cS,cZ,c0,rfl,gM,gi,iV⟩:=qC.form jZ;have Jw:(.slice CM v.list.length jB:Value)=.slice (some ⟨cG9,0,none⟩) v.list.length jB:=by rw [WN I]
   have ck:iI v i=⟨true,⟨#[]⟩,i⟩:=by unfold iI;rw [O pI]
   have Vv:kidV v i=x:=by unfold kidV;rw [O pI,hx];rfl
   refine an ?_;refine S B B (cT oB c6 B Jw B I I) ?_;refine S B B (cG (l:=vrow x.sc cS cZ c0) B B fb B c6 (bUr _ G.tailF) B) ?_;refine bn G 0 B B B B B B c6 B (mM (s:=x.sc) gM gi iV) ?_;intro w G oY;refine ab ?_;exact ⟨_,B,⟨true,⟨#[]⟩,i⟩,x,cS,cZ,c0,ck.symm,Vv.symm,qC,⟨gM,gi,iV⟩,aB,aR,aM,aS,B,B,B,B,tV,rI,qv,G⟩
  intro f w ai;obtain ⟨dA,c1,cS,cZ,c0,WG,qz,bV1,au,aB,aR,aM,aS,cp,cv,cV,kn,tV,rI,qv,G⟩:=ai;refine bz ?_;refine bu (λg f ah=>∃ (j oF:Nat) (zW:Value) (sN:List Value) (oL:List Ent) (rs2:List Row),g=ek.length-j/\(j<=ek.length)/\(oF=fc+(prints (ek.take j)).length)/\(oL=dU++hM (pT cr) c1 (p++[dA]) (ek.take j) fc)/\(sN.length=oL.length)/\(∀ q∈iH 107 sN oL,q∈rs2)/\f 7=ao b7 0/\f 35=.slice la ks.length lc/\f 36=J ks.length/\f 69=J j/\f 3=J oF/\f 67=.slice iQ ek.length hN/\f 68=J ek.length/\f 0=ao b 0/\f 4=.slice fP p.length eV/\f 12=ao eD 0/\f 13=ao jY 0/\f 37=J i/\Cxr aA ah ((jY,aa 83 [.int .i64 (c1.sc.kind),.bool (c1.sc.b),.bool (c1.sc.neg),.string c1.sc.dig,.int .i64 (c1.sc.exp),.int .i64 (c1.sc.tk),.int .i64 (c1.sc.td),.int .i64 (c1.sc.tn),.int .i64 (c1.sc.tz),.string c1.sc.text,cS,cZ,c0])::(eD,aa 107 [.bool (dA.byIndex),.string dA.key,.int .i64 (dA.index)])::(da,aa 72 [J 5,M [],M [],.slice iQ ek.length hN,M []])::(b7,aa 83 [.int .i64 (v.sc.kind),.bool (v.sc.b),.bool (v.sc.neg),.string v.sc.dig,.int .i64 (v.sc.exp),.int .i64 (v.sc.tk),.int .i64 (v.sc.td),.int .i64 (v.sc.tn),.int .i64 (v.sc.tz),.string v.sc.text,F3,.slice CM v.list.length jB,.slice kF v.fields.length iR])::(bq,aa 72 [J k,M lead,M text,.slice la ks.length lc,M tail])::(b,aa 69 [J dp,zW])::L) (⟨52,3,zW,(es++oL).length,iz (ps++sN) (es++oL)⟩::(rs2++F))) ((λ(j:Nat)=>ek.length-j) 0) ?_ ?_
  ·exact ⟨0,fc,jC,dE,dU,rs,B,bU _,(by rw [iw,gx];rfl),(by rw [iw];exact (cH _).symm),lX,qu,aS,tV,rI,aJ,aR,B,aJ,aB,aM,cV,kn,qv,G⟩
  intro Ei f w ai;obtain ⟨j,oF,zW,sN,oL,rs2,aOd,ax,UI,w3,ET,Ww,aS,tV,rI,Oj,aR,Jr,Oi,aB,aM,cV,kn,qv,G⟩:=ai;refine aq ?_;refine Z (λtF=>?_) (λtF=>?_)
  ·have y0:j<ek.length:=I;obtain ⟨cy,eI⟩:∃ k,ek[j]?=some k:=⟨_,bS y0⟩;have aOp:=cb eI;have bS2:=xG eI;have cO6:=vH ek (j+1);have su:=kq aOp;have cOu:cy.lead.length<=cy.print.length:=aSf cy;obtain ⟨Fq,tQ,xj⟩:=ve j cy eI;obtain ⟨bj,bg,b4,rfl⟩:=(tQ.vw jZ).form;have xl:oL.length+cy.count<=dU.length+counts ek:=by
    rw [w3,aQ];have:=bIr cr c1 (p++[dA]) ek j fc eI;omega
   refine aq ?_;refine S B B (cT dx bA B (Jr.trans (by rw [vd I])) Oj I I) ?_;refine S B B (cG (l:=nrow cy.kind cy.lead cy.text (.slice bj bg b4) cy.tail) B B de B bA (xj _ G.tailF) B) ?_;refine dv ?_;intro AO w G aNf sC;refine hX ?_;intro w G n1;refine an ?_;refine bo G (O4 cy.count cy (bV _) I I _ _ (tQ.vw G.tailF)) Tryz.func67 B B B B B B ?_;intro w G cQx;refine S B B (av (v:=(J cy.print.length)) B B) ?_;refine ab ?_;refine cw (λf ah=>∃ (nz:Value) (ui:List Value) (px:List Ent) (rQ:List Row),(px=oL++(if vkT cy then ⟨p++[dA],((oF+cy.lead.length:Nat):Int),((oF+cy.print.length:Nat):Int)⟩::pT cr cy c1 oF (p++[dA]) else []))/\(ui.length=px.length)/\(∀ q∈iH 107 ui px,q∈rQ)/\f 0=ao b 0/\f 3=J oF/\f 4=.slice fP p.length eV/\f 7=ao b7 0/\f 12=ao eD 0/\f 13=ao jY 0/\f 16=J cy.print.length/\f 35=.slice la ks.length lc/\f 36=J ks.length/\f 37=J i/\f 67=.slice iQ ek.length hN/\f 68=J ek.length/\f 69=J j/\Cxr aA ah ((AO,aa 72 [J cy.kind,M cy.lead,M cy.text,.slice bj bg b4,M cy.tail])::(jY,aa 83 [.int .i64 (c1.sc.kind),.bool (c1.sc.b),.bool (c1.sc.neg),.string c1.sc.dig,.int .i64 (c1.sc.exp),.int .i64 (c1.sc.tk),.int .i64 (c1.sc.td),.int .i64 (c1.sc.tn),.int .i64 (c1.sc.tz),.string c1.sc.text,cS,cZ,c0])::(eD,aa 107 [.bool (dA.byIndex),.string dA.key,.int .i64 (dA.index)])::(da,aa 72 [J 5,M [],M [],.slice iQ ek.length hN,M []])::(b7,aa 83 [.int .i64 (v.sc.kind),.bool (v.sc.b),.bool (v.sc.neg),.string v.sc.dig,.int .i64 (v.sc.exp),.int .i64 (v.sc.tk),.int .i64 (v.sc.td),.int .i64 (v.sc.tn),.int .i64 (v.sc.tz),.string v.sc.text,F3,.slice CM v.list.length jB,.slice kF v.fields.length iR])::(bq,aa 72 [J k,M lead,M text,.slice la ks.length lc,M tail])::(b,aa 69 [J dp,nz])::L) (⟨52,3,nz,(es++px).length,iz (ps++ui) (es++px)⟩::(rQ++F))) ?_ ?_
   ·refine aHp ?_;refine Z (λBs=>?_) (λBs=>?_)
    ·have vu:vkT cy=true:=by unfold vkT;simp only [hW,beq_iff_eq];omega
     refine an ?_;refine aC0 ?_;rintro KD w re;obtain ⟨Ct,mD,rfl,aP0,_,_⟩:=re.rowS (by rw [If,aQ,ll];omega);replace re:=mg re (n':=(p++[dA]).length) sK B;replace G:=(G.callRows re).swapQ;refine kD ?_;refine bW (Ts aA _ b dp (oF+cy.lead.length) (oF+cy.print.length) zW Ct (p.length+1) mD (p++[dA]) (ps++sN) (es++oL) _ _ (G.pick 6 B) (by rw [aQ,aQ,hl,ET]) Kd) Tryz.func69 B B B B B B ?_;rintro cTl w ⟨rfl,nz,G⟩;replace G:=G.unpick ((AO,aa 72 [J cy.kind,M cy.lead,M cy.text,.slice bj bg b4,M cy.tail])::(jY,aa 83 [.int .i64 (c1.sc.kind),.bool (c1.sc.b),.bool (c1.sc.neg),.string c1.sc.dig,.int .i64 (c1.sc.exp),.int .i64 (c1.sc.tk),.int .i64 (c1.sc.td),.int .i64 (c1.sc.tn),.int .i64 (c1.sc.tz),.string c1.sc.text,cS,cZ,c0])::(eD,aa 107 [.bool (dA.byIndex),.string dA.key,.int .i64 (dA.index)])::(da,aa 72 [J 5,M [],M [],.slice iQ ek.length hN,M []])::(b7,aa 83 [.int .i64 (v.sc.kind),.bool (v.sc.b),.bool (v.sc.neg),.string v.sc.dig,.int .i64 (v.sc.exp),.int .i64 (v.sc.tk),.int .i64 (v.sc.td),.int .i64 (v.sc.tn),.int .i64 (v.sc.tz),.string v.sc.text,F3,.slice CM v.list.length jB,.slice kF v.fields.length iR])::(bq,aa 72 [J k,M lead,M text,.slice la ks.length lc,M tail])::(b,aa 69 [J dp,zW])::L) 6 B;refine aG ?_;refine bW (yM cr B aA _ b dp oF nz (.slice (some ⟨Ct,0,none⟩) (p.length+1) mD) cy c1 _ _ (p++[dA]) _ _ _ _ (G.pick 6 B) (by rw [aQ,aQ,aQ,aQ,hl,ET];rfl) (by rw [aQ,aQ,ll];omega) (tQ.mono λr h=>bP _ (h0 _ h)) (bV1.mono λr h=>bP _ (h0 _ h)) (by rw [qz];exact E2 cy aOp vu) (.inr (b9 ..)) J8 aNx I I) Tryz.func28 B B B B B B ?_;rintro cTm w ⟨rfl,Zf,pn4,FP,G,Wn,Wy⟩;replace G:=G.unpick ((AO,aa 72 [J cy.kind,M cy.lead,M cy.text,.slice bj bg b4,M cy.tail])::(jY,aa 83 [.int .i64 (c1.sc.kind),.bool (c1.sc.b),.bool (c1.sc.neg),.string c1.sc.dig,.int .i64 (c1.sc.exp),.int .i64 (c1.sc.tk),.int .i64 (c1.sc.td),.int .i64 (c1.sc.tn),.int .i64 (c1.sc.tz),.string c1.sc.text,cS,cZ,c0])::(eD,aa 107 [.bool (dA.byIndex),.string dA.key,.int .i64 (dA.index)])::(da,aa 72 [J 5,M [],M [],.slice iQ ek.length hN,M []])::(b7,aa 83 [.int .i64 (v.sc.kind),.bool (v.sc.b),.bool (v.sc.neg),.string v.sc.dig,.int .i64 (v.sc.exp),.int .i64 (v.sc.tk),.int .i64 (v.sc.td),.int .i64 (v.sc.tn),.int .i64 (v.sc.tz),.string v.sc.text,F3,.slice CM v.list.length jB,.slice kF v.fields.length iR])::(bq,aa 72 [J k,M lead,M text,.slice la ks.length lc,M tail])::(b,aa 69 [J dp,nz])::L) 6 B;refine ab ?_
     exact ⟨_,B,Zf,sN++((.slice (some ⟨Ct,0,none⟩) (p.length+1) mD)::pn4),oL++(⟨p++[dA],((oF+cy.lead.length:Nat):Int),((oF+cy.print.length:Nat):Int)⟩::pT cr cy c1 oF (p++[dA])),FP++(_::rs2),(by rw [U vu]),(by rw [aQ,aQ,cf,cf,ET,Wn]),PB ET Ww Wy,aB,aR,aM,aS,cV,kn,B,tV,rI,qv,Jr,Oi,Oj,AU G (by simp only [eB,gT,gG,vI])⟩
    have vu:vkT cy=false:=by unfold vkT;simp only [uB,beq_eq_false_iff_ne];omega
    refine ab ?_;exact ⟨_,B,zW,sN,oL,rs2,(by rw [O (by rw [vu];decide),cH]),ET,Ww,aB,aR,aM,aS,cV,kn,B,tV,rI,qv,Jr,Oi,Oj,G⟩
   intro f w ai;obtain ⟨nz,ui,px,rQ,U8,Wm,Wx,aB,aR,aM,aS,cV,kn,jf,tV,rI,qv,Jr,Oi,Oj,G⟩:=ai;refine an ?_;refine S B B (av (v:=(J (oF+cy.print.length))) B B) ?_;refine aq ?_;exact ⟨_,_,I,B,j+1,oF+cy.print.length,nz,ui,px,rQ,B,I,(by rw [UI,bS2];omega),(by rw [U8,w3,qP eI,aLa,<- UI,eB]),Wm,Wx,aS,tV,rI,aJ,aJ,Jr,Oi,aB,aM,cV,kn,qv,G.drop 1⟩
  refine aq ?_;have st:ek.take j=ek:=lQ I;exact ⟨_,_,I,B,i+1,oF,zW,sN,oL,rs2,B,I,(by rw [UI,st,yO,bUb];omega),(by rw [w3,st,ds,qP he,aT4,dS,yn I,gV,<- WG,<- qz,<- yO];rfl),ET,Ww,aJ,aR,tV,rI,aB,aM,aS,G.drop 3⟩
 refine ab ?_;have rD:ks.take i=ks:=lQ I;rw [rD] at ds;subst ds;refine mH (.inr B) Tryz.results28 ?_;exact ⟨B,jC,dE,rs,G.drop 2,lX,qu⟩
theorem uj:∀ d:Nat,SJ d
 | 0=>aJd 0 λcr h=>I
 | d+1=>aJd (d+1) λcr h=>by
  obtain rfl:cr=d:=I;exact uj cr
end Go.Proofs.YthiafbkolhnadaaGreatDoor
end
section
namespace Go.Proofs.YthiafbkolhnadaaGreatDoor
open Go Go.Dk Go.RowKit Go.Lib
variable {q i:Nat}{s:List UInt8}
structure Dl where
 sep:UInt8
 quo:UInt8
 hdr:Bool
 typ:Bool
def vN (c:UInt8):Prop:=jR c\/bf c\/c.toNat=43\/c.toNat=45\/c.toNat=46\/c.toNat=58
instance spcD (c:UInt8):Decidable (vN c):=by unfold vN;infer_instance
def okD (d:Dl):Prop:=(d.sep.toNat=9\/(32<=d.sep.toNat/\d.sep.toNat<=126))/\33<=d.quo.toNat/\d.quo.toNat<=126/\d.sep.toNat≠d.quo.toNat/\¬ vN d.sep/\¬ vN d.quo
instance okDD (d:Dl):Decidable (okD d):=by unfold okD;infer_instance
def gl (q:Nat):List UInt8->Option Nat
 | []=>none
 | [c]=>if c.toNat=q then some 1 else none
 | c::a7::t=>if c.toNat=q then (if a7.toNat=q then (gl q t).map (·+2) else some 1) else (gl q (a7::t)).map (·+1)
theorem aUv (q:Nat):gl q []=none:=rfl
theorem aUw(hi:i<s.length)(h:(s.getD i 0).toNat≠q):gl q (s.drop i)=(gl q (s.drop (i+1))).map (·+1):=by
 have e:s.drop i=s.getD i 0::s.drop (i+1):=by
  exact QF
 rw [e]
 generalize s.drop (i+1)=t
 cases t with
 | nil=>simp only [gl,O h,Option.map_none]
 | cons c t=>rw [gl,O h]
theorem aUu(hi:i<s.length)(h:(s.getD i 0).toNat=q)(h2:¬ (i+1<s.length/\(s.getD (i+1) 0).toNat=q)):gl q (s.drop i)=some 1:=by
 have e:s.drop i=s.getD i 0::s.drop (i+1):=by
  exact QF
 rw [e];have aZ:∀ c t,s.drop (i+1)=c::t->c.toNat≠q:=by
  intro c t hc aw;have hl:i+1<s.length:=by
   have:=aD eC hc;rw [bC,cf] at this;omega
  refine h2 ⟨hl,?_⟩;have:=aD (λl:List UInt8=>l.getD 0 0) hc;rw [du,gb] at this;rw [this];exact aw
 cases ht:s.drop (i+1) with
 | nil=>simp only [gl,U h]
 | cons c t=>rw [gl,U h,O (aZ c t ht)]
theorem aUx(hi:i+1<s.length)(h:(s.getD i 0).toNat=q)(h2:(s.getD (i+1) 0).toNat=q):gl q (s.drop i)=(gl q (s.drop (i+2))).map (·+2):=by
 have e:s.drop i=s.getD i 0::s.getD (i+1) 0::s.drop (i+2):=by
  rw [ph I,ph hi];simp [hZ,bS hi,bS (show i<s.length by omega)]
 rw [e,gl,U h,U h2]
theorem vJ (q:Nat):∀ (l:List UInt8) (n:Nat),gl q l=some n->1<=n/\n<=l.length
 | [],n,h=>by cases h
 | [c],n,h=>by
  rw [gl] at h;split at h
  ·cases h;simp
  ·cases h
 | c::a7::t,n,h=>by
  rw [gl] at h;simp only [cf];split at h
  . split at h
    . obtain ⟨m,h1,h2⟩:=nJ.1 h
      have:=vJ q t m h1;omega
    ·cases h;omega
  . obtain ⟨m,h1,h2⟩:=nJ.1 h
    have:=vJ q (a7::t) m h1;simp only [cf] at this;omega
def k8 (d:Dl)(c:UInt8):Prop:=c.toNat≠d.sep.toNat/\c.toNat≠10/\c.toNat≠13/\c.toNat≠d.quo.toNat
instance ucpD (d:Dl) (c:UInt8):Decidable (k8 d c):=by unfold k8;infer_instance
def cL (s:List UInt8)(d:Dl)(a:Nat):Nat×Nat :=
 if a<s.length/\(s.getD a 0).toNat=d.quo.toNat then
  match gl d.quo.toNat (s.drop (a+1)) with
  | none=>(4,s.length)
  | some n=>(0,a+1+n)
 else if a+pre (k8 d) (s.drop a)<s.length/\(s.getD (a+pre (k8 d) (s.drop a)) 0).toNat=d.quo.toNat then (3,a+pre (k8 d) (s.drop a))
 else (0,a+pre (k8 d) (s.drop a))
def iO (q:Nat):List UInt8->List UInt8
 | []=>[]
 | [c]=>[c]
 | c::a7::t=>if c.toNat=q then c::iO q t else c::iO q (a7::t)
def pP (x:List UInt8):List UInt8:=(x.drop 1).take (x.length-2)
def c2 (d:Dl)(x:List UInt8):List UInt8:=if x≠[]/\(x.getD 0 0).toNat=d.quo.toNat then iO d.quo.toNat (pP x) else x
def ci (s:List UInt8)(a:Nat):Nat×Nat×Nat :=
 if s.length<=a then (0,0,0)
 else if (s.getD a 0).toNat=10 then (0,0,1)
 else if (s.getD a 0).toNat=13 then
  if s.length<=a+1 then (4,s.length,0) else if (s.getD (a+1) 0).toNat=10 then (0,0,2) else (3,a,0)
 else (3,a,0)
def wN (x:List UInt8):T:=.mk 5 [] [] [.mk 2 [] x [] []] []
def uU (x:List UInt8)(sep:UInt8):T:=.mk 5 [] [] [.mk 2 [] x [] [],.mk 11 [] [sep] [] []] []
def n9 (h:Bool)(n:Nat):Nat:=if h then n else n+1
structure Rst where
 a:Nat
 nodes:Nat
 names:List (List UInt8)
 kids:List T
abbrev uJ:=Sum (Nat×Nat) (T×Nat×Nat×List (List UInt8))
def pS (s:List UInt8)(d:Dl)(D N:Nat)(h:Bool)(many:Nat)(x:Rst):Sum Rst uJ :=
 if 0<many/\many<=x.kids.length then .inr (.inl (x.a,10))
 else if h=false/\D<3 then .inr (.inl (x.a,9))
 else if h=false/\N<=x.nodes then .inr (.inl (x.a,10))
 else if (cL s d x.a).1≠0 then .inr (.inl ((cL s d x.a).2,(cL s d x.a).1))
 else if (h=true/\1024<(c2 d (sub s x.a ((cL s d x.a).2-x.a))).length)\/65536<(c2 d (sub s x.a ((cL s d x.a).2-x.a))).length then .inr (.inl (x.a,10))
 else if h=true/\c2 d (sub s x.a ((cL s d x.a).2-x.a))∈x.names then .inr (.inl (x.a,8))
 else if (cL s d x.a).2<s.length/\(s.getD (cL s d x.a).2 0).toNat=d.sep.toNat then
  .inl ⟨(cL s d x.a).2+1,n9 h x.nodes,x.names++[c2 d (sub s x.a ((cL s d x.a).2-x.a))],x.kids++[uU (sub s x.a ((cL s d x.a).2-x.a)) d.sep]⟩
 else if (ci s (cL s d x.a).2).1≠0 then .inr (.inl ((ci s (cL s d x.a).2).2.1,(ci s (cL s d x.a).2).1))
 else if x.kids.length+1<many then .inr (.inl ((cL s d x.a).2,10))
 else .inr (.inr (.mk 8 [] [] (x.kids++[wN (sub s x.a ((cL s d x.a).2-x.a))]) (sub s (cL s d x.a).2 (ci s (cL s d x.a).2).2.2),(cL s d x.a).2+(ci s (cL s d x.a).2).2.2,n9 h x.nodes,x.names++[c2 d (sub s x.a ((cL s d x.a).2-x.a))]))
def RcL (s:List UInt8)(d:Dl)(D N:Nat)(h:Bool)(many:Nat)(x:Rst)(r:uJ):Prop:=Lp (fs (pS s d D N h many)) x r
def RcR (s:List UInt8)(d:Dl)(D N:Nat)(h:Bool)(many a nodes:Nat)(r:uJ):Prop :=
 if h=false/\D<2 then r=.inl (a,9)
 else if h=false/\N<=nodes then r=.inl (a,10)
 else RcL s d D N h many ⟨a,n9 h nodes,[],[]⟩ r
theorem RcR.det{d:Dl}{D N:Nat}{h:Bool}{many a nodes:Nat}{r mE:uJ}(h1:RcR s d D N h many a nodes r)(h2:RcR s d D N h many a nodes mE):r=mE:=by
 unfold RcR at h1 h2;split at h1
 ·rw [U cj] at h2;rw [h1,h2]
 rw [O cj] at h2;split at h1
 ·rw [U cj] at h2;rw [h1,h2]
 rw [O cj] at h2;exact Lp.det (M9 _) h1 h2
structure Dst where
 a:Nat
 nodes:Nat
 recs:List T
 many:Nat
def tA (s:List UInt8)(d:Dl)(D N:Nat)(x:Dst)(y:Sum Dst (Sum (Nat×Nat) (List T))):Prop :=
 if s.length<=x.a then y=.inr (.inr x.recs)
 else ∃ r,RcR s d D N (d.hdr&&decide (x.recs=[])) x.many x.a x.nodes r/\y=match r with
  | .inl e=>.inr (.inl e)
  | .inr (t,a,n,_)=>.inl ⟨a,n,x.recs++[t],t.kids.length⟩
theorem MO (s:List UInt8)(d:Dl)(D N:Nat):∀ a x y,tA s d D N a x->tA s d D N a y->x=y:=by
 intro a x y h aU;unfold tA at h aU;split at h
 ·rw [U cj] at aU;rw [h,aU]
 . rw [O cj] at aU
   obtain ⟨r,h1,rfl⟩:=h;obtain ⟨fj,tC,rfl⟩:=aU;rw [h1.det tC]
def DcL (s:List UInt8)(d:Dl)(D N:Nat)(x:Dst)(r:Sum (Nat×Nat) (List T)):Prop:=Lp (tA s d D N) x r
def docD (recs:List T):T:=.mk 1 [] [] recs []
inductive Pq (s:List UInt8) (dl:Dl) (d n b a e:Int):Sum (Nat×Nat) T->Prop
 | dia (h:¬ okD dl):Pq s dl d n b a e (.inl (0,1))
 | lim (hd:okD dl) (h:¬ okL d n b a e):Pq s dl d n b a e (.inl (0,1))
 | size (hd:okD dl) (h:okL d n b a e) (hs:b<(s.length:Int)):Pq s dl d n b a e (.inl (0,10))
 | text (hd:okD dl) (h:okL d n b a e) (hs:¬ b<(s.length:Int)) {i:Nat} (hb:Bad s i) (hi:i<s.length):Pq s dl d n b a e (.inl (i,5))
 | err (hd:okD dl) (h:okL d n b a e) (hs:¬ b<(s.length:Int)) (hb:Bad s s.length) {x:Nat×Nat} (hr:DcL s dl d.toNat n.toNat ⟨0,1,[],0⟩ (.inl x)):Pq s dl d n b a e (.inl x)
 | doc (hd:okD dl) (h:okL d n b a e) (hs:¬ b<(s.length:Int)) (hb:Bad s s.length) {l:List T} (hr:DcL s dl d.toNat n.toNat ⟨0,1,[],0⟩ (.inr l)):Pq s dl d n b a e (.inr (docD l))
theorem Pq.det{dl:Dl}{d n b a e:Int}{r fj:Sum (Nat×Nat) T}(h:Pq s dl d n b a e r)(aU:Pq s dl d n b a e fj):r=fj:=by
 cases h with
 | dia h=>cases aU with
  | dia _=>rfl
  | lim h2 _ | size h2 _ _ | text h2 _ _ _ _ | err h2 _ _ _ _ | doc h2 _ _ _ _=>exact absurd h2 h
 | lim hd h=>cases aU with
  | dia h2=>exact absurd hd h2
  | lim _ _=>rfl
  | size _ h2 _ | text _ h2 _ _ _ | err _ h2 _ _ _ | doc _ h2 _ _ _=>exact absurd h2 h
 | size hd h hs=>cases aU with
  | dia h2=>exact absurd hd h2
  | lim _ h2=>exact absurd h h2
  | size _ _ _=>rfl
  | text _ _ h2 _ _ | err _ _ h2 _ _ | doc _ _ h2 _ _=>exact absurd hs h2
 | text hd h hs hb hi=>cases aU with
  | dia h2=>exact absurd hd h2
  | lim _ h2=>exact absurd h h2
  | size _ _ h2=>exact absurd h2 hs
  | text _ _ _ oQ _=>rw [hb.det oQ]
  | err _ _ _ oQ _ | doc _ _ _ oQ _=>rw [hb.det oQ] at hi;exact absurd hi (DK _)
 | err hd h hs hb hr=>cases aU with
  | dia h2=>exact absurd hd h2
  | lim _ h2=>exact absurd h h2
  | size _ _ h2=>exact absurd h2 hs
  | text _ _ _ oQ hi=>rw [<- hb.det oQ] at hi;exact absurd hi (DK _)
  | err _ _ _ _ lY=>exact aD Sum.inl (Sum.inl.inj (Lp.det (MO _ _ _ _) hr lY))
  | doc _ _ _ _ lY=>cases Lp.det (MO _ _ _ _) hr lY
 | doc hd h hs hb hr=>cases aU with
  | dia h2=>exact absurd hd h2
  | lim _ h2=>exact absurd h h2
  | size _ _ h2=>exact absurd h2 hs
  | text _ _ _ oQ hi=>rw [<- hb.det oQ] at hi;exact absurd hi (DK _)
  | err _ _ _ _ lY=>cases Lp.det (MO _ _ _ _) hr lY
  | doc _ _ _ _ lY=>cases Lp.det (MO _ _ _ _) hr lY;rfl
end Go.Proofs.YthiafbkolhnadaaGreatDoor
end
section
namespace Go.Proofs.YthiafbkolhnadaaGreatDoor
open Go Go.Dk Go.RowKit Go.Lib
attribute [local irreducible] Go.wpList Go.Code.wp Go.bodyPost Go.wpStill Go.wpQuiet
variable {s:List UInt8}{d:Dl}{a:Nat}
theorem aWi:(W.info? 102).map (·.size)=some 1:=by kernel_rfl
theorem pW:(W.info? 25).map (·.size)=some 4:=by kernel_rfl
theorem aL5:bY W 25 0 0:=b5 (tt:=5) q3 rfl mJ rfl
theorem Ua:bY W 25 1 1:=b5 (tt:=5) q3 rfl mJ rfl
theorem Ub:bY W 25 2 2:=b5 (tt:=4) q3 rfl xM rfl
theorem bK6:bY W 25 3 3:=b5 (tt:=4) q3 rfl xM rfl
theorem bKi:bY W 140 0 0:=b5 (tt:=9) yq rfl gA rfl
theorem aL2:bY W 140 1 1:=b5 (tt:=25) yq rfl pW rfl
theorem bKj:bY W 140 2 5:=b5 (tt:=23) yq rfl pV rfl
theorem T9:bY W 140 3 10:=b5 (tt:=3) yq rfl bN rfl
theorem bKk:bY W 140 4 11:=b5 (tt:=3) yq rfl bN rfl
theorem M4:bY W 140 5 12:=b5 (tt:=3) yq rfl bN rfl
theorem bKl:bY W 140 6 13:=b5 (tt:=102) yq rfl aWi rfl
theorem bKm:bY W 140 7 14:=b5 (tt:=3) yq rfl bN rfl
theorem bKn:bY W 140 8 15:=b5 (tt:=36) yq rfl xL rfl
theorem z25:Zero W 25 [.int .u8 0,.int .u8 0,.bool false,.bool false]:=ji (v:=.agg #[.int .u8 0,.int .u8 0,.bool false,.bool false]) ac rfl
def eK (s:List UInt8)(d:Dl)(D N:Nat)(af aj ak:Int)(p nd ca:Nat)(fM:Value)(dZ bB:Nat):List Value:=[M s,.int .u8 ((d.sep.toNat:Nat):Int),.int .u8 ((d.quo.toNat:Nat):Int),.bool d.hdr,.bool d.typ,J D,J N,.int .i64 af,.int .i64 aj,.int .i64 ak,J p,J nd,J ca,fM,J dZ,J bB]
theorem bCm (c:UInt8)(w0:World):Fc W 190 [.int .u8 ((c.toNat:Nat):Int)] w0 (λv _=>v=.bool (decide (jR c))):=by
 refine aI Tryz.func190 B Tryz.ntmps190 B ?_;have G:=Ctx.start w0;refine AL ?_;refine be Tryz.results190 B ?_;exact QB
theorem aIp (c:UInt8)(w0:World):Fc W 120 [.int .u8 ((c.toNat:Nat):Int)] w0 (λv _=>v=.bool (decide (vN c))):=by
 refine aI Tryz.func120 B Tryz.ntmps120 B ?_;have G:=Ctx.start w0;refine aG ?_;refine bo G (bCm c _) Tryz.func190 B B B B B B ?_;intro w G gN;refine Mn ?_;refine be Tryz.results120 B ?_;refine pd ?_;rw [jE];simp only [fS,hW,kP,decide_eq_true_eq,decide_eq_false_iff_not,beq_iff_eq,bne_iff_ne,ne_eq];unfold vN;unfold bf jR;omega
theorem tv (aA w0:World)(b:Nat)(s:List UInt8)(d:Dl)(D N:Nat)(af aj ak:Int)(p nd ca:Nat)(fM:Value)(dZ bB:Nat)(L:List (Nat×Obj))(R:List Row)(cM:Cxr aA w0 ((b,.cells (eK s d D N af aj ak p nd ca fM dZ bB).toArray 140)::L) R)(hs:s.length<=1000000)(hp:p<=s.length)(jO:nd<=1000000)(cY:okD d)(o e:Nat):Ret W 123 [ao b 0,J o,J e] w0 (λv w'=>v=.bool false/\Cxr aA w' ((b,.cells (eK s d D N af aj ak p nd ca fM o e).toArray 140)::L) R):=by
 refine aI tj B Tryz.ntmps123 B ?_;have G:=cM;refine i6 ?_;refine bR (v:=(J o)) G 0 B B B B B B B B bN ?_;intro w G ko;refine ag ?_;refine bR (v:=(J e)) G 0 B B B B B B B B xL ?_;intro w G ko;refine az ?_;refine be Tryz.results123 B ?_;exact ⟨B,G⟩
theorem yx (aA w0:World)(b:Nat)(s:List UInt8)(d:Dl)(D N:Nat)(af aj ak:Int)(p nd ca:Nat)(fM:Value)(dZ bB:Nat)(L:List (Nat×Obj))(R:List Row)(cM:Cxr aA w0 ((b,.cells (eK s d D N af aj ak p nd ca fM dZ bB).toArray 140)::L) R)(hs:s.length<=1000000)(hp:p<=s.length)(jO:nd<=1000000)(cY:okD d)(dp:Nat):Ret W 122 [ao b 0,J dp] w0 (λv w'=>∃ (bl:Bool) (bQ gn bc:Nat),v=.bool bl/\Cxr aA w' ((b,.cells (eK s d D N af aj ak p bQ ca fM gn bc).toArray 140)::L) R/\((bl=true/\bQ=nd+1/\dp<=D/\nd<N)\/(bl=false/\bQ=nd/\gn=p/\((bc=9/\D<dp)\/(bc=10/\dp<=D/\N<=nd))))):=by
 refine aI Tryz.func122 B Tryz.ntmps122 B ?_;have G:=cM;refine oC ?_;refine Z (λfW=>?_) (λfW=>?_)
 ·refine aG ?_;refine bW (tv aA _ b s d D N af aj ak p nd ca fM dZ bB _ _ G hs I I cY p 9) tj B B B B B (aX B (aX B (aX B B))) ?_;rintro YY w ⟨rfl,G⟩;replace G:=G.unpick ((b,.cells (eK s d D N af aj ak p nd ca fM dZ bB).toArray 140)::L) 0 B;refine ae ?_;refine be Tryz.results122 B ?_;exact ⟨false,nd,p,9,B,G,.inr ⟨B,B,B,.inl ⟨B,I⟩⟩⟩
 refine ae ?_;refine iu ?_;intro w G W4;refine ye ?_;refine Z (λgL=>?_) (λgL=>?_)
 ·refine aG ?_;refine bW (tv aA _ b s d D N af aj ak p nd ca fM dZ bB _ _ G hs I I cY p 10) tj B B B B B (aX B (aX B (aX B B))) ?_;rintro cGe w ⟨rfl,G⟩;replace G:=G.unpick ((b,.cells (eK s d D N af aj ak p nd ca fM dZ bB).toArray 140)::L) 0 B;refine ae ?_;refine be Tryz.results122 B ?_;exact ⟨false,nd,p,10,B,G,.inr ⟨B,B,B,.inr ⟨B,I,I⟩⟩⟩
 refine cF ?_;refine bR (v:=(J (nd+1))) G 0 B B B B B B B B bN ?_;intro w G rK;refine az ?_;refine be Tryz.results122 B ?_;exact ⟨true,nd+1,dZ,bB,B,G,.inl ⟨B,B,I,I⟩⟩
theorem bDj (aA w0:World)(b:Nat)(s:List UInt8)(d:Dl)(D N:Nat)(af aj ak:Int)(p nd ca:Nat)(fM:Value)(dZ bB:Nat)(L:List (Nat×Obj))(R:List Row)(cM:Cxr aA w0 ((b,.cells (eK s d D N af aj ak p nd ca fM dZ bB).toArray 140)::L) R)(hs:s.length<=1000000)(hp:p<=s.length)(jO:nd<=1000000)(cY:okD d)(fp:p<s.length):Ret W 270 [ao b 0] w0 (λv w'=>∃ (bl:Bool) (ch gn bc:Nat),v=.bool bl/\ch<=s.length/\Cxr aA w' ((b,.cells (eK s d D N af aj ak ch nd ca fM gn bc).toArray 140)::L) R/\((bl=true/\∃ n,gl d.quo.toNat (s.drop (p+1))=some n/\ch=p+1+n)\/(bl=false/\gl d.quo.toNat (s.drop (p+1))=none/\gn=s.length/\bc=4))):=by
 refine aI Tryz.func270 B Tryz.ntmps270 B ?_;have G:=cM;refine kD ?_;refine QY ?_;intro w G ko;refine ag ?_;refine bu (λg f ah=>∃ (i:Nat),g=s.length-i/\(i<=s.length)/\(p+1<=i)/\(gl d.quo.toNat (s.drop (p+1))=(gl d.quo.toNat (s.drop i)).map (·+(i-(p+1))))/\f 0=ao b 0/\Cxr aA ah ((b,.cells (eK s d D N af aj ak i nd ca fM dZ bB).toArray 140)::L) (R)) ((λ(i:Nat)=>s.length-i) (p+1)) ?_ ?_
 ·exact ⟨p+1,B,fp,bV _,(by rw [Nat.sub_self];simp),B,G⟩
 intro h8 f w ai;obtain ⟨i,ni,hi,rH,aw,aB,G⟩:=ai;refine ag ?_;refine iu ?_;intro w G W3;refine ye ?_;refine Z (λeH=>?_) (λeH=>?_)
 ·refine aq ?_;refine iu ?_;intro w G OF;refine wq ?_;refine LJ ?_;refine oz ?_;refine x9 ?_;refine Z (λpH=>?_) (λpH=>?_)
  ·refine cK ?_;refine QZ ?_;intro w G ig;refine ab ?_;exact ⟨_,_,I,B,i+1,B,I,I,(by rw [aw,aUw I I,Option.map_map];congr 1;funext x;simp only [Function.comp];omega),aB,G⟩
  refine cF ?_;refine QZ ?_;intro w G rK;refine ag ?_;refine iu ?_;intro w G JB;refine wq ?_;refine oz ?_;refine RV ?_;refine x9 ?_;refine RV ?_;refine lj ?_;refine dk B B B a8 (λhc=>dm (s:=s) (i:=i+1) B ay ay aF fO) ?_;refine ST ?_;refine RV ?_;refine oz ?_;refine lj ?_;refine Z (λtG=>?_) (λtG=>?_)
  ·refine aq ?_;refine be Tryz.results270 B ?_;exact ⟨true,i+1,dZ,bB,B,I,G,.inl ⟨B,i-p,by rw [aw,aUu I I (λh=>I)];show some (1+(i-(p+1)))=_;congr 1;omega,I⟩⟩
  refine cK ?_;refine bR (v:=(J (i+1+1))) G 0 B B B B B B B B bN ?_;intro w G ig;refine ab ?_;exact ⟨_,_,I,B,i+1+1,B,I,I,(by rw [aw,aUx I I I,Option.map_map];congr 1;funext x;simp only [Function.comp];omega),aB,G⟩
 refine cK ?_;refine bW (tv aA _ b s d D N af aj ak i nd ca fM dZ bB _ _ G hs I I cY s.length 4) tj B B B B B (aX B (aX B (aX B B))) ?_;rintro cUo w ⟨rfl,G⟩;replace G:=G.unpick ((b,.cells (eK s d D N af aj ak i nd ca fM dZ bB).toArray 140)::L) 0 B;refine ae ?_;refine be Tryz.results270 B ?_;have hS:i=s.length:=I;exact ⟨false,i,s.length,4,B,hi,G,.inr ⟨B,by rw [aw,hS,List.drop_length,aUv];rfl,B,B⟩⟩
theorem aJ8{n:Nat}(h:a<s.length/\(s.getD a 0).toNat=d.quo.toNat)(aw:gl d.quo.toNat (s.drop (a+1))=some n):cL s d a=(0,a+1+n):=by
 unfold cL;rw [U h,aw]
theorem aJ7(h:a<s.length/\(s.getD a 0).toNat=d.quo.toNat)(aw:gl d.quo.toNat (s.drop (a+1))=none):cL s d a=(4,s.length):=by
 unfold cL;rw [U h,aw]
theorem HG{i:Nat}(h:¬ (a<s.length/\(s.getD a 0).toNat=d.quo.toNat))(bNn:a<=i)(hi:i<=s.length)(hb:∀ j,a<=j->j<i->k8 d (s.getD j 0))(he:i=s.length\/¬ k8 d (s.getD i 0)):cL s d a=(if i<s.length/\(s.getD i 0).toNat=d.quo.toNat then (3,i) else (0,i)):=by
 have hp:pre (k8 d) (s.drop a)=i-a:=ob (k8 d) (s.drop a) (i-a) jx (λj ax=>by rw [du];exact hb _ I I) (by
  rw [du,bC,show a+(i-a)=i by omega];rcases he with h | h
  ·exact .inl I
  ·exact .inr h)
 unfold cL;rw [O h,hp,show a+(i-a)=i by omega]
theorem bCo (aA w0:World)(b:Nat)(s:List UInt8)(d:Dl)(D N:Nat)(af aj ak:Int)(p nd ca:Nat)(fM:Value)(dZ bB:Nat)(L:List (Nat×Obj))(R:List Row)(cM:Cxr aA w0 ((b,.cells (eK s d D N af aj ak p nd ca fM dZ bB).toArray 140)::L) R)(hs:s.length<=1000000)(hp:p<=s.length)(jO:nd<=1000000)(cY:okD d):Ret W 194 [ao b 0] w0 (λv w'=>∃ (bl:Bool) (ch gn bc:Nat),v=.bool bl/\ch<=s.length/\Cxr aA w' ((b,.cells (eK s d D N af aj ak ch nd ca fM gn bc).toArray 140)::L) R/\((bl=true/\cL s d p=(0,ch))\/(bl=false/\bc≠0/\cL s d p=(bc,gn)))):=by
 refine aI Tryz.func194 B Tryz.ntmps194 B ?_;have G:=cM;refine az ?_;refine iu ?_;intro w G OE;refine wq ?_;refine oz ?_;refine At ?_;refine x9 ?_;refine At ?_;refine lj ?_;refine RW ?_;refine ST ?_;refine At ?_;refine oz ?_;refine lj ?_;refine Z (λgY=>?_) (λgY=>?_)
 ·have j4:p<s.length/\(s.getD p 0).toNat=d.quo.toNat:=I;refine ae ?_;refine bW (bDj aA _ b s d D N af aj ak p nd ca fM dZ bB _ _ G hs I I cY I) Tryz.func270 B B B B B (aX B B) ?_;rintro aW4 w ⟨aZ2,bZ5,cHp,bJp,rfl,bSy,G,N9⟩;replace G:=G.unpick ((b,.cells (eK s d D N af aj ak p nd ca fM dZ bB).toArray 140)::L) 0 B;refine ae ?_;refine LK ?_;refine ⟨aZ2,bZ5,cHp,bJp,B,bSy,G,?_⟩;rcases N9 with ⟨h1,n,h2,Y⟩ | ⟨h1,h2,Y,ar⟩
  ·exact .inl ⟨h1,by rw [aJ8 j4 h2,Y]⟩
  ·exact .inr ⟨h1,I,by rw [aJ7 j4 h2,Y,ar]⟩
 have j4:¬ (p<s.length/\(s.getD p 0).toNat=d.quo.toNat):=I;refine ae ?_;refine bu (λg f ah=>∃ (i:Nat),g=s.length-i/\(i<=s.length)/\(p<=i)/\(∀ j,p<=j->j<i->k8 d (s.getD j 0))/\f 0=ao b 0/\Cxr aA ah ((b,.cells (eK s d D N af aj ak i nd ca fM dZ bB).toArray 140)::L) (R)) ((λ(i:Nat)=>s.length-i) p) ?_ ?_
 ·exact ⟨p,B,hp,bV _,λj h h2=>I,B,G⟩
 intro gJ f w ai;obtain ⟨i,qp,hi,rH,hb,aB,G⟩:=ai;refine ag ?_;refine iu ?_;intro w G W4;refine ye ?_;refine Z (λpH=>?_) (λpH=>?_)
 ·refine an ?_;refine iu ?_;intro w G JA;refine wq ?_;refine LJ ?_;refine ST ?_;refine ab ?_;refine cw (λf ah=>∃ (bl:Bool),(bl=true↔((s.getD i 0).toNat=d.sep.toNat\/(s.getD i 0).toNat=10\/(s.getD i 0).toNat=13))/\f 58=.bool (bl)/\f 0=ao b 0/\f 57=.int .u8 (((s.getD i 0).toNat:Nat):Int)/\Cxr aA ah ((b,.cells (eK s d D N af aj ak i nd ca fM dZ bB).toArray 140)::L) (R)) ?_ ?_
  ·refine cF ?_;refine Z (λjq=>?_) (λjq=>?_)
   ·refine ab ?_;exact QN
   refine aq ?_;refine Z (λjq=>?_) (λjq=>?_)
   ·refine ab ?_;exact QN
   refine an ?_;exact QN
  intro f w ai;obtain ⟨bl,wT,WB,aB,E0,G⟩:=ai;refine cn WB (λjq=>?_) (λjq=>?_)
  ·try simp only [dy] at jq
   refine aq ?_;refine LK ?_;have aNi:=wT.1 jq;have VW:d.sep.toNat≠d.quo.toNat/\33<=d.quo.toNat:=⟨cY.2.2.2.1,cY.2.1⟩;exact ⟨true,i,dZ,bB,B,hi,G,.inl ⟨B,by rw [HG j4 rH hi hb (.inr (λh=>by unfold k8 at h;omega)),O I]⟩⟩
  try simp only [dy] at jq
  refine cF ?_;refine Z (λUR=>?_) (λUR=>?_)
  ·have aNi:¬ ((s.getD i 0).toNat=d.sep.toNat\/(s.getD i 0).toNat=10\/(s.getD i 0).toNat=13):=λh=>by have:=wT.2 h;rw [jq] at this;cases this
   refine aG ?_;refine bW (tv aA _ b s d D N af aj ak i nd ca fM dZ bB _ _ G hs I I cY i 3) tj B B B B B (aX B (aX B (aX B B))) ?_;rintro Y2 w ⟨rfl,G⟩;replace G:=G.unpick ((b,.cells (eK s d D N af aj ak i nd ca fM dZ bB).toArray 140)::L) 0 B;refine ae ?_;refine LK ?_;exact ⟨false,i,i,3,B,hi,G,.inr ⟨B,by decide,by rw [HG j4 rH hi hb (.inr (λh=>by unfold k8 at h;omega)),U I]⟩⟩
  have aNi:¬ ((s.getD i 0).toNat=d.sep.toNat\/(s.getD i 0).toNat=10\/(s.getD i 0).toNat=13):=λh=>by have:=wT.2 h;rw [jq] at this;cases this
  refine cK ?_;refine QZ ?_;intro w G hG;refine ab ?_;exact ⟨_,_,I,B,i+1,B,I,I,λj h1 h2=>by by_cases e:j=i;(subst e;unfold k8;exact ⟨I,I,I,I⟩);exact hb j h1 I,aB,G⟩
 refine az ?_;refine LK ?_;exact ⟨true,i,dZ,bB,B,hi,G,.inl ⟨B,by rw [HG j4 rH hi hb (.inl I),O I]⟩⟩
end Go.Proofs.YthiafbkolhnadaaGreatDoor
end
section
namespace Go.Dk
open Go Go.RowKit Go.Lib Go.Proofs.YthiafbkolhnadaaGreatDoor
section
variable {w0 w:World} {L:List (Nat×Obj)} {A ea F:List Row} {r q z:Row}
theorem cAr {α:Type}(A ea:List α)(r q z:α):(A++(r::q::z::ea)).Perm (r::q::z::(A++ea)) :=
 (tf).trans (List.Perm.cons _ ((tf).trans (List.Perm.cons _ tf)))
theorem Cxr.grab3Q (h:Cxr w0 w L (A++(r::q::z::ea))):Cxr w0 w L (r::q::z::(A++ea)):=h.permR (cAr _ _ _ _ _)
theorem Cxr.rot1 (h:Cxr w0 w L (r::q::z::F)):Cxr w0 w L (q::z::r::F):=h.permR ((List.Perm.swap _ _ _).trans (List.Perm.cons _ (List.Perm.swap _ _ _)))
theorem Cxr.rot2 (h:Cxr w0 w L (r::q::z::F)):Cxr w0 w L (z::r::q::F):=h.rot1.rot1
end
end Go.Dk
end
section
namespace Go.Dk
open Go Go.RowKit Go.Lib Go.Proofs.YthiafbkolhnadaaGreatDoor
section
variable {P:Program} {ops:Array Oper} {Q:Exit->Act->World->Prop} {bh:List Oper} {o:Oper} {n:Nat} {f:Nat->Value} {w w0:World} {L:List (Nat×Obj)} {R:List Row}
theorem aMm (c:List Value)(off:Nat):∀ (i:Nat) (z:List Value),off+i+c.length<=z.length->((c.zipIdx i).foldl (λ(cs:Array Value) (p:Value×Nat)=>cs.setIfInBounds (off+p.2) p.1) z.toArray)=(z.take (off+i)++c++z.drop (off+i+c.length)).toArray:=by
 induction c with
 | nil=>intro i z h;simp
 | cons x c ih =>
  intro i z h;simp only [List.zipIdx_cons,yl];simp only [cf] at h;have e:z.toArray.setIfInBounds (off+i) x=(z.set (off+i) x).toArray:=by simp
  rw [e,ih (i+1) _ (by rw [List.length_set];omega)]
  congr 1
  have hi:off+i<z.length:=I;have gg:z.set (off+i) x=(z.take (off+i)++[x])++z.drop (off+i+1):=by
   rw [List.set_eq_take_append_cons_drop,U hi];simp
  have hl:(z.take (off+i)++[x]).length=off+i+1:=by simp;omega
  have e4:(z.set (off+i) x).take (off+(i+1))=z.take (off+i)++[x]:=by
   rw [gg];exact List.take_left' (by rw [hl];rfl)
  have lv:(z.set (off+i) x).drop (off+(i+1)+c.length)=z.drop (off+i+(c.length+1)):=by
   rw [gg,List.drop_append,hl,q0 (by rw [hl];omega),gG,fE]
   congr 1;omega
  rw [e4,lv,cf];simp
theorem aVt {t e d:Nat}{x y:Operand}{v u:Value}{kg a2 a3 a4 a5 b1 b2 b3 bp bH pX z2 z3 z4 z5:Value}(G:Cxr w0 w L R)(ht:P.underlying t=some (.slice e))(hs:(P.info? e).map (·.size)=some 5)(hz:Zero P e [pX,z2,z3,z4,z5])
  (aH:o.guard=none) (hd:o.dst=some d) (au:o.op=.buildSlice t 2 #[(0,x),(1,y)]) (hx:aW n f x=v) (hy:aW n f y=u) (hv:v.cells=#[kg,a2,a3,a4,a5]) (aP:u.cells=#[b1,b2,b3,bp,bH])
  (h:∀ b w',Cxr w0 w' ((b,.cells ([kg,a2,a3,a4,a5,b1,b2,b3,bp,bH]:List Value).toArray e)::L) R->w.heap.size=b->Below w.heap.size w w'->wpList P ops Q bh (aC n (eh f d (.slice (some ⟨b,0,none⟩) 2 2))) w'):wpList P ops Q (o::bh) (aC n f) w:=by
 obtain ⟨CU,oZ,sG⟩:=hz;refine od (w':=w.alloc (.cells ([kg,a2,a3,a4,a5,b1,b2,b3,bp,bH]:List Value).toArray e)) (v:=.slice (some ⟨w.heap.size,0,none⟩) 2 2) aH hd ?_ (h _ _ (G.alloc _) B ((Below.refl _ _).alloc (bV _) _));unfold execOp;rw [au];have bMn:∀ uA:List Value,uA.length=10->Instr.fill (λi=>some (i*5,5)) uA.toArray [(0,v),(1,u)]=some #[kg,a2,a3,a4,a5,b1,b2,b3,bp,bH]:=by
  intro uA hz;have h1:=aMm [kg,a2,a3,a4,a5] 0 0 uA (by simp;omega);have h2:=aMm [b1,b2,b3,bp,bH] 5 0 ([kg,a2,a3,a4,a5]++uA.drop 5) (by simp;omega);have hd:(([kg,a2,a3,a4,a5]++uA.drop 5).drop 10)=[]:=q0 (by simp;omega);have WO:v.cells.size=5:=by rw [hv];rfl
  have bUm:u.cells.size=5:=by rw [aP];rfl
  have bm:v.cells.zipIdx.foldl (λcs (c,j)=>cs.setIfInBounds (0*5+j) c) uA.toArray=([kg,a2,a3,a4,a5]++uA.drop 5).toArray:=by
   rw [hv];simpa using h1
  have aZ:u.cells.zipIdx.foldl (λcs (c,j)=>cs.setIfInBounds (1*5+j) c) ([kg,a2,a3,a4,a5]++uA.drop 5).toArray=#[kg,a2,a3,a4,a5,b1,b2,b3,bp,bH]:=by
   rw [aP];simp only [gb,cf,dC,Nat.reduceAdd] at h2;rw [hd] at h2;simpa using h2
  rw [Instr.fill];simp only [WO,Hj,hz];rw [O (by decide),bm,Instr.fill];simp only [bUm,Hj,aQ,bC,cf,dC,hz];rw [O (by decide),aZ,Instr.fill]
 have NH:Instr.fill (λi=>some (i*5,5)) ((wg 10).map (CU.cells[·%CU.cells.size]!)) [(0,v),(1,u)]=some #[kg,a2,a3,a4,a5,b1,b2,b3,bp,bH]:=by
  have:=bMn ((wg 10).map (CU.cells[·%CU.cells.size]!)).toList (by simp);simpa only [Array.toArray_toList] using this
 simp [Instr.buildSlice,hx,hy,run_underlying ht,sQ (w:=w) hs,oZ w,NH,newRow]
end
end Go.Dk
end
section
namespace Go.Proofs.YthiafbkolhnadaaGreatDoor
open Go Go.Dk Go.RowKit Go.Lib
variable {t hT:List UInt8}{a:UInt8}{d:Dl}
def mA (q:Nat):List UInt8->Prop
 | []=>True
 | [c]=>c.toNat≠q
 | c::a7::t=>if c.toNat=q then a7.toNat=q/\mA q t else mA q (a7::t)
theorem bZb {q:Nat}{c:UInt8}(h:c.toNat≠q)(ht:mA q t):mA q (c::t):=by
 cases t with
 | nil=>exact h
 | cons a t=>rw [mA,O h];exact ht
theorem X3 (q:Nat):∀ (l:List UInt8) (n:Nat),gl q l=some n->mA q (l.take (n-1))
 | [],n,h=>by cases h
 | [c],n,h=>by
  rw [gl] at h;split at h
  ·cases h;trivial
  ·cases h
 | c::a7::t,n,h=>by
  rw [gl] at h;split at h
  . rename_i aw
    split at h
    . rename_i lH
      obtain ⟨m,h1,h2⟩:=nJ.1 h;have hm:=vJ q t m h1;have e:n-1=(m-1)+1+1:=I;rw [e,jG,jG,mA,U aw];exact ⟨lH,X3 q t m h1⟩
    ·cases h;trivial
  . rename_i aw
    obtain ⟨m,h1,h2⟩:=nJ.1 h;have hm:=vJ q (a7::t) m h1;have e:n-1=(m-1)+1:=I;rw [e,jG];exact bZb aw (X3 q (a7::t) m h1)
theorem OM(h:hT.isPrefixOf (a::t)=false):Lib.index (a::t) hT=if Lib.index t hT==-1 then -1 else Lib.index t hT+1:=by
 rw [Lib.index,O (by rw [h];decide)]
theorem aVg{qI:List UInt8}(h:hT.isPrefixOf (a::t)=false)(k:Nat):Lib.replaceK hT qI k (a::t)=a::Lib.replaceK hT qI k t:=by
 cases k with
 | zero=>rfl
 | succ k =>
  rcases Lib.index_spec t hT with ⟨h1,_⟩ | ⟨i,h1,_⟩
  . have e:Lib.index (a::t) hT=-1:=by rw [OM h,h1];rfl
    rw [Lib.replaceK,U (by rw [e];rfl),Lib.replaceK,U (by rw [h1];rfl)]
  . have e:Lib.index (a::t) hT=((i+1:Nat):Int):=by
      rw [OM h,h1,O (by rw [beq_iff_eq];omega)];rfl
    rw [Lib.replaceK_hit hT qI k _ _ e,Lib.replaceK_hit hT qI k _ _ h1,jG,show i+1+hT.length=(i+hT.length)+1 by omega,r7]
    rfl
theorem bGz(bt:hT≠[])(h:hT.isPrefixOf (a::t)=false):Lib.count t hT=Lib.count (a::t) hT:=by
 rcases Lib.index_spec t hT with ⟨h1,_⟩ | ⟨i,h1,_⟩
 . have e:Lib.index (a::t) hT=-1:=by rw [OM h,h1];rfl
   rw [Lib.count_miss h1,Lib.count_miss e]
 . have e:Lib.index (a::t) hT=((i+1:Nat):Int):=by
     rw [OM h,h1,O (by rw [beq_iff_eq];omega)];rfl
   rw [Lib.count_hit bt h1,Lib.count_hit bt e,show i+1+hT.length=(i+hT.length)+1 by omega,r7]
theorem Yw {q:UInt8}:∀ (n:Nat) (l:List UInt8) (k:Nat),l.length<=n->mA q.toNat l->Lib.count l [q,q]<=k->Lib.replaceK [q,q] [q] k l=iO q.toNat l
 | _,[],k,_,_,_=>by cases k <;> rfl
 | 0,_::_,_,h,_,_=>absurd h (Nat.not_succ_le_zero _)
 | n+1,[c],k,hn,hk,hc=>by
  have aw:(q==c)=false:=by rw [beq_eq_false_iff_ne];intro e;subst e;exact hk B
  have hp:[q,q].isPrefixOf [c]=false:=by simp [List.isPrefixOf,aw]
  rw [aVg hp,iO];cases k <;> rfl
 | n+1,c::a7::t,k,hn,hk,hc=>by
  simp only [cf] at hn;rw [mA] at hk;by_cases h:c.toNat=q.toNat
  . rw [U h] at hk
    have bm:c=q:=q5.1 h;have aZ:a7=q:=q5.1 hk.1;subst bm aZ;have hi:Lib.index (a7::a7::t) [a7,a7]=((0:Nat):Int):=by
     rw [Lib.index,U (by simp [List.isPrefixOf])];rfl
    rw [Lib.count_hit (by simp) hi] at hc
    cases k with
    | zero=>omega
    | succ k =>
     rw [Lib.replaceK_hit _ _ _ _ _ hi,iO,U B];show a7::Lib.replaceK _ _ k t=_;rw [Yw n t k I hk.2 (by
      have e:(a7::a7::t).drop (0+[a7,a7].length)=t:=B;rw [e] at hc;omega)]
  . rw [O h] at hk
    have aw:(q==c)=false:=by rw [beq_eq_false_iff_ne];intro e;subst e;exact h B
    have hp:[q,q].isPrefixOf (c::a7::t)=false:=by simp [List.isPrefixOf,aw]
    rw [aVg hp,iO,O h,Yw n (a7::t) k (by simp only [cf];omega) hk (by rw [bGz (by simp) hp];exact hc)]
theorem cCm {q:UInt8}{l:List UInt8}(h:mA q.toNat l):Lib.replaceAll l [q,q] [q]=iO q.toNat l:=by
 rw [Lib.replaceAll,Lib.replace,O (by simp),Lib.replaceNum,U (.inl (by decide))];exact Yw _ l _ (bV _) h (bV _)
theorem TL (q:Nat):∀ (l:List UInt8),(iO q l).length<=l.length
 | []=>bV _
 | [c]=>bV _
 | c::a7::t=>by
  rw [iO];split
  . have:=TL q t
    simp only [cf];omega
  . have:=TL q (a7::t)
    simp only [cf] at this ⊢;omega
def cok (d:Dl)(x:List UInt8):Prop:=x≠[]/\(x.getD 0 0).toNat=d.quo.toNat->2<=x.length/\mA d.quo.toNat (pP x)
theorem bHc (d:Dl)(x:List UInt8):(c2 d x).length<=x.length:=by
 unfold c2;split
 . have h:=TL d.quo.toNat (pP x)
   have:(pP x).length<=x.length:=by unfold pP;rw [dS,bC];omega
   omega
 ·exact bV _
theorem aKk{x:List UInt8}(h:¬ (x≠[]/\(x.getD 0 0).toNat=d.quo.toNat)):c2 d x=x:=O h
theorem TC{x:List UInt8}(h:x≠[]/\(x.getD 0 0).toNat=d.quo.toNat):c2 d x=iO d.quo.toNat (pP x):=U h
theorem aJ6 {s:List UInt8}{a p:Nat}(h:cL s d a=(0,p)):cok d (sub s a (p-a)):=by
 intro hx;have Iv:a<s.length:=by
  apply nA;intro hn;apply hx.1;rw [sub,q0 I,List.take_nil]
 have ap:(s.getD a 0).toNat=d.quo.toNat:=by
  have h2:=hx.2;have xf:0<(sub s a (p-a)).length:=gF.2 hx.1;rw [sub,hZ,te] at h2;rw [sub,dS] at xf;rw [U I,tc,gb,<- hZ] at h2;exact h2
 unfold cL at h;rw [U ⟨Iv,ap⟩] at h
 cases aw:gl d.quo.toNat (s.drop (a+1)) with
 | none=>rw [aw] at h;cases h
 | some n =>
  rw [aw] at h;have hp:a+1+n=p:=(Prod.mk.inj h).2;have hn:=vJ _ _ _ aw;rw [bC] at hn;have hl:(sub s a (p-a)).length=n+1:=by rw [sub,dS,bC];omega
  refine ⟨I,?_⟩;have e:pP (sub s a (p-a))=(s.drop (a+1)).take (n-1):=by
   unfold pP;rw [hl,sub,yk,fE,List.take_take]
   congr 1
   omega
  rw [e];exact X3 _ _ _ aw
theorem HF {s:List UInt8}{a p:Nat}(a6:a<=s.length)(h:cL s d a=(0,p)):a<=p/\p<=s.length:=by
 unfold cL at h;split at h
 . rename_i hc
   cases aw:gl d.quo.toNat (s.drop (a+1)) with
   | none=>rw [aw] at h;cases h
   | some n =>
    rw [aw] at h;have hp:a+1+n=p:=(Prod.mk.inj h).2;have hn:=vJ _ _ _ aw;rw [bC] at hn;omega
 . have hp:=FL (k8 d) (s.drop a)
   rw [bC] at hp;split at h
   ·cases h
   . have:=(Prod.mk.inj h).2
     omega
end Go.Proofs.YthiafbkolhnadaaGreatDoor
end
section
namespace Go.Dk
open Go Go.RowKit Go.Lib Go.Proofs.YthiafbkolhnadaaGreatDoor
section
variable {P:Program} {ops:Array Oper} {Q:Exit->Act->World->Prop} {bh:List Oper} {o:Oper} {n:Nat} {f:Nat->Value} {w w0:World} {L:List (Nat×Obj)} {R:List Row}
theorem cDo {t:TypeId}{x y:Operand}{e size k cap g j:Nat}{xs l:List Value}(G:Cxr w0 w L (⟨e,size,.slice (some ⟨g,0,none⟩) k cap,k,xs⟩::R))(aH:o.guard=none)(hd:o.dst=none)(au:o.op=.store t x y)(hx:aW n f x=.pointer (some ⟨g,j,none⟩))(hy:aW n f y=.agg l.toArray)
  (hs:(P.info? t).map (·.size)=some l.length) (ax:j+l.length<=k*size) (h1:l.all (·.oneCell')=true)
  (h:∀ w',Cxr w0 w' L (⟨e,size,.slice (some ⟨g,0,none⟩) k cap,k,xs.take j++l++xs.drop (j+l.length)⟩::R)->w.grownBy w' (some g)->w'.heap.size=w.heap.size->wpList P ops Q bh (aC n f) w'):wpList P ops Q (o::bh) (aC n f) w:=by
 have nY:=G.rows _ (b9 ..);have sw:=G.off _ (b9 ..);have vq:=(List.pairwise_cons.1 G.pw).1;simp only at nY sw vq;rcases nY.2 with ⟨ap,_⟩ | ⟨Eh,cJz,cg,he,tE,aOf,ED,Bv,ia,Ju⟩
 ·cases ap
 simp only [Value.slice.injEq,kS,Addr.mk.injEq,and_true,true_and] at he;obtain ⟨rfl,rfl⟩:=he;have j2:k*size<=cap*size:=Nat.mul_le_mul_right _ ED;have hE:=run_storeCells_at P g j e l 0 cg w aOf (by rw [ia];omega) (λv hv=>p7.1 h1 v hv);simp only [gb] at hE;refine FR (w':=w.setRow g (cg.toList.take j++l++cg.toList.drop (j+l.length)).toArray) aH hd ?_ ?_
 . unfold execOp;rw [au]
   cases aw:P.info? t with
   | none=>simp [aw] at hs
   | some i =>
    have ze:l.length=i.size:=by simp [aw] at hs;omega
    simp [hx,hy,Instr.storeAt,Instr.sureAddr,storeVar,sizeOf,typeInfo,aw,Value.cells,ze,hE]
 . have fx:w.grownBy (w.setRow g (cg.toList.take j++l++cg.toList.drop (j+l.length)).toArray) (some g):=⟨B,B,B,by simp,λk _ bt=>setRow_other w g k _ λe=>bt (by rw [e])⟩
   refine h _ ?_ fx (by simp);have IH:Cxr w0 (w.setRow g (cg.toList.take j++l++cg.toList.drop (j+l.length)).toArray) L R:=by
    refine ⟨G.ext.grown fx G.ext.size (λk hk=>by simp at hk;omega),?_,G.lo,G.nd,?_,λr hr=>G.off r (bP _ hr),(List.pairwise_cons.1 G.pw).2⟩
    . intro p kJ
      exact aBs
    . intro r hr
      exact aBa
   refine IH.addRow _ ⟨?_,.inr ⟨g,cap,_,B,tE,setRow_heap w g cg _ _ _ aOf,ED,Bv,?_,?_⟩⟩ sw vq
   . have:=nY.1
     simp only [aQ,dS,bC];omega
   . simp only [Hj,aQ,dS,bC,KQ]
     omega
   . rw [<- Ju]
     have hl:cg.toList.length=cap*size:=by simpa using ia
     generalize cg.toList=c at hl
     apply List.ext_getElem?;intro i;simp only [te,List.getElem?_append,dS,tc,aQ];have bm:min j c.length=j:=I;have aZ:min j (min (k*size) c.length)=j:=I;rw [bm,aZ];by_cases hi:i<k*size
     . rw [U hi]
       by_cases h2:i<j+l.length
       . rw [U h2,U h2]
         by_cases Y:i<j
         ·rw [U Y,U Y,U Y,U Y,U hi]
         ·rw [O Y,O Y]
       ·rw [O h2,O h2,U I]
     ·rw [O hi,O I,O I]
end
section
variable {P:Program} {ops:Array Oper} {Q:Exit->Act->World->Prop} {bh:List Oper} {o:Oper} {n:Nat} {f:Nat->Value} {w w0:World} {L:List (Nat×Obj)} {R:List Row}
theorem aVv {d j fv k:Nat}{gP c:Bool}{fF:Array Operand}{gd:Array TypeId}{fn:Func}{args:List Value}{T:Value->World->Prop}(aH:o.guard=some (j,gP))(hd:o.dst=some d)(ax:(ops[j]?).bind (·.dst)=some fv)(hw:oE (aW n f (.tmp fv)) gP c)
  (hc : c = true -> Ret P k args w T) (hf : P.funcs[k]? = some fn) (hb : fn.body.isNone = false) (hn : (fn.name == "runtime.NumGoroutine") = false)
  (au:o.op=.call { callee:=.value (.func k),args:=fF,argTypes:=gd }) (hA:c=true->fF.toList.map (aW n f)=args)
  (h:∀ v w',(c=true/\T v w')\/(c=false/\v=.bool false/\w'=w)->wpList P ops Q bh (aC n (eh f d (gv c v))) w'):wpList P ops Q (o::bh) (aC n f) w:=by
 have xq:=CO (o:=o) (ops:=ops) aH ax hw;refine wpList_step λeu ep=>?_
 rw [xq]
 cases c with
 | true =>
  simp only [if_true];unfold Oper.wp;rw [eS,Yy hf hb hn au (hA B)];refine Calls.mono (hc B) ?_;rintro e w' ⟨v,rfl,hr⟩;show eu ((aC n f).put o.dst v) w';refine ep _ _ ?_;rw [hd,mC];have h:=h v w' (.inl ⟨B,hr⟩);unfold gv at h;exact h
 | false =>
  simp only [r0,if_false];refine ep _ _ ?_;rw [hd,mC];have h:=h (.bool false) w (.inr ⟨B,B,B⟩);unfold gv at h;exact h
theorem cGp {ρ:Operand->Value}{s t e:TypeId}{x:Operand}{b c:Nat}{a:UInt8}(G:Cxr w0 w ((b,.cells ([.int .u8 ((a.toNat:Nat):Int)]:List Value).toArray e)::L) R)(au:o.op=.convert s t x)(hs:P.underlying s=some (.slice e))(he:P.underlying e=some (.int .u8))(ht:P.underlying t=some .string)
  (hx:ρ x=.slice (some ⟨b,0,none⟩) 1 c):(execOp ρ o).run P w=.ok (.value (.string (bs [a]))) w:=by
 have h:=sY (ns:=[(a.toNat:Int)]) au hs he ht ((G.row 0 B).sub 0 B) (m:=1) B hx;have aZ:strOf [(a.toNat:Int)]=bs [a]:=CD [a];rw [aZ] at h;exact h
end
end Go.Dk
end
section
namespace Go.Proofs.YthiafbkolhnadaaGreatDoor
open Go Go.Dk Go.RowKit Go.Lib
attribute [local irreducible] Go.wpList Go.Code.wp Go.bodyPost Go.wpStill Go.wpQuiet
variable {s:List UInt8}{d:Dl}{a:Nat}
theorem bFy (l:List UInt8)(q:UInt8)(w0:World)(jr:Cnt w0)(hl:l.length<=1000000)(h:mA q.toNat l):Fc W 73 [M l,M ([q]++[q]),M [q]] w0 (λv _=>v=(M (iO q.toNat l))):=by
 obtain ⟨m,hm⟩:=jr;have hc:=Lib.count_le l [q,q];refine Calls.mono (Go.Proofs.Tryz.strings_ReplaceAll (bs l) (bs [q,q]) (bs [q]) m w0 vC hm (by rw [gI];exact Nat.le_succ 1) ?_) λe w' ⟨he,hw⟩=>⟨_,he,hw,?_⟩
 . show (bs l).size+Lib.count l [q,q]*(bs [q]).size<=_
   rw [gI,gI,ll,Nat.mul_one];omega
 . show (M (Lib.replaceAll l [q,q] [q]))=_
   rw [cCm h]
theorem aMq {aA w0 w:World}{b:Nat}{D N:Nat}{af aj ak:Int}{p nd ca:Nat}{fM:Value}{dZ bB:Nat}{L:List (Nat×Obj)}{R:List Row}(cM:Cxr aA w0 ((b,.cells (eK s d D N af aj ak p nd ca fM dZ bB).toArray 140)::L) R){c:Bool}{v:Value}{dp:Nat}(h:(c=true/\∃ (bl:Bool) (bQ gn bc:Nat),v=.bool bl/\Cxr aA w ((b,.cells (eK s d D N af aj ak p bQ ca fM gn bc).toArray 140)::L) R/\((bl=true/\bQ=nd+1/\dp<=D/\nd<N)\/(bl=false/\bQ=nd/\gn=p/\((bc=9/\D<dp)\/(bc=10/\dp<=D/\N<=nd)))))\/(c=false/\v=.bool false/\w=w0)) :
  ∃ (bl:Bool) (bQ gn bc:Nat),v=.bool bl/\Cxr aA w ((b,.cells (eK s d D N af aj ak p bQ ca fM gn bc).toArray 140)::L) R/\((c=true/\((bl=true/\bQ=nd+1/\dp<=D/\nd<N)\/(bl=false/\bQ=nd/\gn=p/\((bc=9/\D<dp)\/(bc=10/\dp<=D/\N<=nd)))))\/(c=false/\bl=false/\bQ=nd)):=by
 rcases h with ⟨h1,bl,bQ,gn,bc,h2,Y,ar⟩ | ⟨h1,h2,Y⟩
 ·exact ⟨bl,bQ,gn,bc,h2,Y,.inl ⟨h1,ar⟩⟩
 . subst Y
   exact ⟨false,nd,dZ,bB,h2,cM,.inr ⟨h1,B,B⟩⟩
theorem XL(h:s.length<=a):ci s a=(0,0,0):=by unfold ci;rw [U h]
theorem aSi(h:a<s.length)(h1:(s.getD a 0).toNat=10):ci s a=(0,0,1):=by unfold ci;rw [O I,U h1]
theorem aSk(h:a<s.length)(h1:(s.getD a 0).toNat=13)(h2:s.length<=a+1):ci s a=(4,s.length,0):=by unfold ci;rw [O I,O I,U h1,U h2]
theorem aSj(h:a+1<s.length)(h1:(s.getD a 0).toNat=13)(h2:(s.getD (a+1) 0).toNat=10):ci s a=(0,0,2):=by unfold ci;rw [O I,O I,U h1,O I,U h2]
theorem aSl(h:a+1<s.length)(h1:(s.getD a 0).toNat=13)(h2:(s.getD (a+1) 0).toNat≠10):ci s a=(3,a,0):=by unfold ci;rw [O I,O I,U h1,O I,O h2]
theorem aSn(h:a<s.length)(h1:(s.getD a 0).toNat≠10)(h2:(s.getD a 0).toNat≠13):ci s a=(3,a,0):=by unfold ci;rw [O I,O h1,O h2]
theorem bBo (aA w0:World)(b:Nat)(s:List UInt8)(d:Dl)(D N:Nat)(af aj ak:Int)(p nd ca:Nat)(fM:Value)(g:Nat)(kv:Value)(dZ bB:Nat)(L:List (Nat×Obj))(R:List Row)(cM:Cxr aA w0 ((b,.cells (eK s d D N af aj ak p nd ca fM dZ bB).toArray 140)::(g,aa 72 [J 8,M [],M [],kv,M []])::L) R)(hs:s.length<=1000000)(hp:p<=s.length)(jO:nd<=1000000)(cY:okD d):Ret W 125 [ao b 0,ao g 0] w0 (λv w'=>∃ (bl:Bool) (ch gn bc:Nat) (tl:List UInt8),v=.bool bl/\ch<=s.length/\Cxr aA w' ((b,.cells (eK s d D N af aj ak ch nd ca fM gn bc).toArray 140)::(g,aa 72 [J 8,M [],M [],kv,M tl])::L) R/\((bl=true/\∃ n,ci s p=(0,0,n)/\ch=p+n/\tl=sub s p n)\/(bl=false/\bc≠0/\ci s p=(bc,gn,0)))):=by
 refine aI Tryz.func125 B Tryz.ntmps125 B ?_;have G:=cM;refine cF ?_;refine Da ?_;refine ae ?_;refine iu ?_;intro w G W3;refine ye ?_;refine Z (λeH=>?_) (λeH=>?_)
 ·refine aq ?_;refine De ?_;exact ⟨true,p,dZ,bB,[],B,hp,G,.inl ⟨B,0,XL I,B,by rw [sub,iw]⟩⟩
 refine ae ?_;refine iu ?_;intro w G OF;refine wq ?_;refine dP B B (dm (s:=s) (i:=p) B B B aF I) ?_;refine ST ?_;refine i6 ?_;refine Z (λgY=>?_) (λgY=>?_)
 ·refine cF ?_;refine QY ?_;intro w G iD;refine ae ?_;refine iu ?_;intro w G OG;refine ye ?_;refine Z (λIC=>?_) (λIC=>?_)
  ·refine aG ?_;refine bW (tv aA _ b s d D N af aj ak (p+1) nd ca fM dZ bB _ _ G hs I I cY (p+1) 4) tj B B B B B (aX B (aX B (aX B B))) ?_;rintro cGh w ⟨rfl,G⟩;replace G:=G.unpick ((b,.cells (eK s d D N af aj ak (p+1) nd ca fM dZ bB).toArray 140)::(g,aa 72 [J 8,M [],M [],kv,M []])::L) 0 B;refine ae ?_;refine De ?_;exact ⟨false,p+1,p+1,4,[],B,I,G,.inr ⟨B,by decide,by rw [aSk I I I];congr 2;omega⟩⟩
  refine ag ?_;refine iu ?_;intro w G W1;refine wq ?_;refine dP B B (dm (s:=s) (i:=p+1) B B B aF I) ?_;refine lj ?_;refine Z (λva=>?_) (λva=>?_)
  ·refine an ?_;refine bW (tv aA _ b s d D N af aj ak (p+1) nd ca fM dZ bB _ _ G hs I I cY p 3) tj B B B B B (aX B (aX B (aX B B))) ?_;rintro cUm w ⟨rfl,G⟩;replace G:=G.unpick ((b,.cells (eK s d D N af aj ak (p+1) nd ca fM dZ bB).toArray 140)::(g,aa 72 [J 8,M [],M [],kv,M []])::L) 0 B;refine ae ?_;refine De ?_;exact ⟨false,p+1,p,3,[],B,I,G,.inr ⟨B,by decide,aSl I I I⟩⟩
  refine gp ?_;refine bR (v:=(J (p+1+1))) G 0 B B B B B B B B bN ?_;intro w G n1;refine ag ?_;refine aEx ?_;refine yf ?_;refine kC ?_;refine bw B (bx B) (λw G=>ur (s:=s) (i:=p) (n:=(1+1)) B B B B aF I) ?_;refine kC ?_;refine cW ?_;intro w G Jz;refine pZ ?_;refine bR (v:=(M (sub s p (1+1)))) G 1 B B B B B B B B gA ?_;intro w G np;refine hY ?_;refine aq ?_;refine De ?_;exact ⟨true,p+1+1,dZ,bB,_,B,I,G,.inl ⟨B,2,aSj I I I,B,B⟩⟩
 refine az ?_;refine Z (λfJ=>?_) (λfJ=>?_)
 ·refine gp ?_;refine QY ?_;intro w G n1;refine ag ?_;refine aEx ?_;refine yf ?_;refine kC ?_;refine bw B (bx B) (λw G=>ur (s:=s) (i:=p) (n:=1) B B B B aF I) ?_;refine kC ?_;refine cW ?_;intro w G Jz;refine pZ ?_;refine bR (v:=(M (sub s p 1))) G 1 B B B B B B B B gA ?_;intro w G np;refine hY ?_;refine aq ?_;refine De ?_;exact ⟨true,p+1,dZ,bB,_,B,I,G,.inl ⟨B,1,aSi I I,B,B⟩⟩
 refine az ?_;refine bW (tv aA _ b s d D N af aj ak p nd ca fM dZ bB _ _ G hs I I cY p 3) tj B B B B B (aX B (aX B (aX B B))) ?_;rintro cUq w ⟨rfl,G⟩;replace G:=G.unpick ((b,.cells (eK s d D N af aj ak p nd ca fM dZ bB).toArray 140)::(g,aa 72 [J 8,M [],M [],kv,M []])::L) 0 B;refine ae ?_;refine De ?_;exact ⟨false,p,p,3,[],B,I,G,.inr ⟨B,by decide,aSn I I I⟩⟩
theorem cFx {x:List UInt8}(h:¬ (x≠[]/\(x.getD 0 0).toNat=d.quo.toNat)):Value.tuple #[M x,.bool false]=.tuple #[M (c2 d x),.bool (decide (x≠[]/\(x.getD 0 0).toNat=d.quo.toNat))]:=by rw [aKk h,decide_eq_false h]
theorem cFy {x:List UInt8}(h:x≠[]/\(x.getD 0 0).toNat=d.quo.toNat):Value.tuple #[M (iO d.quo.toNat (sub x 1 (x.length-1-1))),.bool true]=.tuple #[M (c2 d x),.bool (decide (x≠[]/\(x.getD 0 0).toNat=d.quo.toNat))]:=by rw [TC h,decide_eq_true h];rfl
theorem bCp (x:List UInt8)(d:Dl)(w0:World)(jr:Cnt w0)(hx:x.length<=1000000)(jL:cok d x):Fc W 195 [M x,.agg #[.int .u8 ((d.sep.toNat:Nat):Int),.int .u8 ((d.quo.toNat:Nat):Int),.bool d.hdr,.bool d.typ]] w0 (λv _=>v=.tuple #[M (c2 d x),.bool (decide (x≠[]/\(x.getD 0 0).toNat=d.quo.toNat))]):=by
 refine aI Tryz.func195 B Tryz.ntmps195 B ?_;have G:=Ctx.start w0;refine ag ?_;refine bE ?_;intro b3 w G eE gr;refine aq ?_;refine iu ?_;intro w G OE;refine ST ?_;refine aHj ?_;refine aEy ?_;refine oz ?_;refine ST ?_;refine Z (λef=>?_) (λef=>?_)
 ·have iC:¬ (x≠[]/\(x.getD 0 0).toNat=d.quo.toNat):=λh=>by
   rcases ef with h1 | h1
   ·exact h.1 h1
   ·exact h1 (by rw [h.2])
  refine ae ?_;refine GX ?_;refine ae ?_;refine dY Tryz.results195 B B ?_;exact ⟨G.ext,cFx iC⟩
 have qD:x≠[]/\(x.getD 0 0).toNat=d.quo.toNat:=⟨ef.1,I⟩;have fy:=jL qD;have nV:=fy.1;have aPi:mA d.quo.toNat (sub x 1 (x.length-1-1)):=fy.2;refine aq ?_;refine qT ?_;intro cI1 w G Np BZ;refine RX ?_;refine S B B (av (v:=(M ([d.quo]))) B B) ?_;refine aG ?_;refine aEz ?_;refine ag ?_;refine aE0 ?_;refine ab ?_;refine aC1 ?_;intro w G Ow;refine aE1 ?_;refine ae ?_;refine dY Tryz.results195 B B ?_;exact ⟨G.ext,cFy qD⟩
end Go.Proofs.YthiafbkolhnadaaGreatDoor
end
section
namespace Go.Proofs.YthiafbkolhnadaaGreatDoor
open Go Go.Dk Go.RowKit Go.Lib
variable {s:List UInt8}{d:Dl}{D N nd p many c:Nat}{h:Bool}{nm:List (List UInt8)}
def eo (s:List UInt8)(d:Dl)(D N:Nat)(h:Bool)(names:List (List UInt8))(a nodes:Nat):Sum (Nat×Nat) Nat :=
 if h=false/\D<3 then .inl (a,9)
 else if h=false/\N<=nodes then .inl (a,10)
 else if (cL s d a).1≠0 then .inl ((cL s d a).2,(cL s d a).1)
 else if (h=true/\1024<(c2 d (sub s a ((cL s d a).2-a))).length)\/65536<(c2 d (sub s a ((cL s d a).2-a))).length then .inl (a,10)
 else if h=true/\c2 d (sub s a ((cL s d a).2-a))∈names then .inl (a,8)
 else .inr (cL s d a).2
theorem aLj{a:Nat}(h1:h=false)(h2:D<3):eo s d D N h nm a nd=.inl (a,9):=by
 unfold eo;rw [U ⟨h1,h2⟩]
theorem aLk{a:Nat}(h1:h=false)(h2:3<=D)(Y:N<=nd):eo s d D N h nm a nd=.inl (a,10):=by
 unfold eo;rw [O (λh=>I),U ⟨h1,Y⟩]
def entB (D N:Nat)(h:Bool)(nd:Nat):Prop:=h=true\/(3<=D/\nd<N)
theorem entB.a(hb:entB D N h nd):¬ (h=false/\D<3):=by
 rintro ⟨h1,h2⟩;rcases hb with h | h
 ·rw [h1] at h;cases h
 ·omega
theorem entB.b(hb:entB D N h nd):¬ (h=false/\N<=nd):=by
 rintro ⟨h1,h2⟩;rcases hb with h | h
 ·rw [h1] at h;cases h
 ·omega
theorem aLi{a e o:Nat}(hb:entB D N h nd)(he:e≠0)(hc:cL s d a=(e,o)):eo s d D N h nm a nd=.inl (o,e):=by
 unfold eo;rw [O hb.a,O hb.b,hc,U he]
theorem aLn{a:Nat}(hb:entB D N h nd)(hc:cL s d a=(0,p))(hl:(if h=true then 1024 else 65536)<(c2 d (sub s a (p-a))).length):eo s d D N h nm a nd=.inl (a,10):=by
 unfold eo;rw [O hb.a,O hb.b,hc];rw [O (by simp)];rw [U]
 cases h with
 | true=>exact .inl ⟨rfl,hl⟩
 | false=>exact .inr hl
theorem aLm{a:Nat}(hc:cL s d a=(0,p))(hl:¬ 1024<(c2 d (sub s a (p-a))).length)(hm:c2 d (sub s a (p-a))∈nm):eo s d D N true nm a nd=.inl (a,8):=by
 have hb:entB D N true nd:=.inl B;unfold eo;rw [O hb.a,O hb.b,hc];rw [O (by simp)];rw [O (by simp only [true_and];omega),U ⟨B,hm⟩]
theorem MY{a:Nat}(hb:entB D N h nd)(hc:cL s d a=(0,p))(hl:¬ (if h=true then 1024 else 65536)<(c2 d (sub s a (p-a))).length)(hm:h=true->c2 d (sub s a (p-a))∉nm):eo s d D N h nm a nd=.inr p:=by
 unfold eo;rw [O hb.a,O hb.b,hc];rw [O (by simp),O,O (λa1=>hm a1.1 a1.2)]
 cases h with
 | true=>simp only [if_true] at hl;simp only [true_and];omega
 | false=>simp only [r0,if_false] at hl;simp only [r0,false_and,false_or];exact hl
theorem PJ{x:Rst}(h1:0<many)(h2:many<=x.kids.length):pS s d D N h many x=.inr (.inl (x.a,10)):=by
 unfold pS;rw [U ⟨h1,h2⟩]
theorem PI{x:Rst}{e:Nat×Nat}(h1:¬ (0<many/\many<=x.kids.length))(he:eo s d D N h x.names x.a x.nodes=.inl e):pS s d D N h many x=.inr (.inl e):=by
 unfold pS;unfold eo at he;rw [O h1];split
 ·rw [U cj] at he;cases he;rfl
 rw [O cj] at he;split
 ·rw [U cj] at he;cases he;rfl
 rw [O cj] at he;split
 ·rw [U cj] at he;cases he;rfl
 rw [O cj] at he;split
 ·rw [U cj] at he;cases he;rfl
 rw [O cj] at he;split
 ·rw [U cj] at he;cases he;rfl
 rw [O cj] at he;cases he
theorem zF{x:Rst}(h1:¬ (0<many/\many<=x.kids.length))(he:eo s d D N h x.names x.a x.nodes=.inr c) :
  pS s d D N h many x=if c<s.length/\(s.getD c 0).toNat=d.sep.toNat then
   .inl ⟨c+1,n9 h x.nodes,x.names++[c2 d (sub s x.a (c-x.a))],x.kids++[uU (sub s x.a (c-x.a)) d.sep]⟩
  else if (ci s c).1≠0 then .inr (.inl ((ci s c).2.1,(ci s c).1))
  else if x.kids.length+1<many then .inr (.inl (c,10))
  else .inr (.inr (.mk 8 [] [] (x.kids++[wN (sub s x.a (c-x.a))]) (sub s c (ci s c).2.2),c+(ci s c).2.2,n9 h x.nodes,x.names++[c2 d (sub s x.a (c-x.a))])):=by
 unfold pS;unfold eo at he;rw [O h1];split
 ·rw [U cj] at he;cases he
 rw [O cj] at he;split
 ·rw [U cj] at he;cases he
 rw [O cj] at he;split
 ·rw [U cj] at he;cases he
 rw [O cj] at he;split
 ·rw [U cj] at he;cases he
 rw [O cj] at he;split
 ·rw [U cj] at he;cases he
 rw [O cj] at he;cases he
 rfl
theorem T3{a:Nat}(he:eo s d D N true nm a nd=.inr c):c2 d (sub s a (c-a))∉nm:=by
 unfold eo at he;split at he
 ·cases he
 split at he
 ·cases he
 split at he
 ·cases he
 split at he
 ·cases he
 split at he
 ·cases he
 cases he;intro h;exact (by assumption:¬ (true=true/\_)) ⟨B,h⟩
theorem H2{a:Nat}(he:eo s d D N h nm a nd=.inr c):cL s d a=(0,c)/\entB D N h nd:=by
 unfold eo at he;split at he
 ·cases he
 rename_i h1;split at he
 ·cases he
 rename_i h2;split at he
 ·cases he
 rename_i Y;split at he
 ·cases he
 split at he
 ·cases he
 cases he;have yJ:(cL s d a).1=0:=nA Y;refine ⟨by rw [<- yJ],?_⟩
 cases h with
 | true=>exact .inl rfl
 | false=>exact .inr ⟨by simp only [true_and] at h1;omega,by simp only [true_and] at h2;omega⟩
end Go.Proofs.YthiafbkolhnadaaGreatDoor
end
section
namespace Go.Proofs.YthiafbkolhnadaaGreatDoor
open Go Go.Dk Go.RowKit Go.Lib
attribute [local irreducible] Go.wpList Go.Code.wp Go.bodyPost Go.wpStill Go.wpQuiet
variable {h:Bool}{nm:List (List UInt8)}{x:List UInt8}{D N p nd:Nat}
theorem MC (bj:Nat)(bg:List UInt8)(w:World):(Instr.build 72 ([(0,(J bj)),(2,(M bg))]:List (Nat×Value)).toArray).run W w=.ok (.agg #[J bj,M [],M bg,al,M []]) w:=by
 go_simp
 try rfl
def zs (h:Bool):Nat:=if h=true then 1024 else 65536
theorem bX8(e:h=true):zs h=1024:=U e
theorem bX7(e:¬ h=true):zs h=65536:=O e
def xB (h:Bool)(nm:List (List UInt8))(x:List UInt8):List (List UInt8):=if h=true then nm++[x] else nm
theorem aS2(e:h=true):xB h nm x=nm++[x]:=U e
theorem bYn(e:¬ h=true):xB h nm x=nm:=O e
theorem bYo(hn:nm.Nodup)(hx:h=true->x∉nm):(xB h nm x).Nodup:=by
 unfold xB;split
 ·exact Pj hn (hx cj)
 ·exact hn
def VQ (D N p nd:Nat)(c:Bool)(bl:Bool)(bQ gn bc dp:Nat):Prop:=(c=true/\((bl=true/\bQ=nd+1/\dp<=D/\nd<N)\/(bl=false/\bQ=nd/\gn=p/\((bc=9/\D<dp)\/(bc=10/\dp<=D/\N<=nd)))))\/(c=false/\bl=false/\bQ=nd)
theorem VQ.ok {bQ gn bc:Nat}{bl:Bool}(hv:VQ D N p nd (!h) bl bQ gn bc 3)(hc:¬ (h=false/\bl=false)):entB D N h nd/\bQ=n9 h nd:=by
 rcases hv with ⟨h1,⟨h2,Y,ar,bd⟩ | ⟨h2,_⟩⟩ | ⟨h1,_,Y⟩
 . have h6:h=false:=by simpa using h1
   subst h6;exact ⟨.inr ⟨ar,bd⟩,Y⟩
 ·exact absurd ⟨by simpa using h1,h2⟩ hc
 . have h6:h=true:=by simpa using h1
   subst h6;exact ⟨.inl B,Y⟩
theorem VQ.err {s:List UInt8}{d:Dl}{bQ gn bc:Nat}{bl:Bool}(hv:VQ D N p nd (!h) bl bQ gn bc 3)(hc:h=false/\bl=false):eo s d D N h nm p nd=.inl (gn,bc):=by
 obtain ⟨rfl,rfl⟩:=hc;rcases hv with ⟨_,⟨h2,_⟩ | ⟨_,_,rfl,⟨rfl,ar⟩ | ⟨rfl,ar,bd⟩⟩⟩ | ⟨h1,_⟩
 ·cases h2
 ·exact aLj B ar
 ·exact aLk B ar bd
 ·cases h1
theorem bJf {s:List UInt8}{d:Dl}{a:Nat}(a1:h=true)(hc:cL s d a=(0,p))(hl:¬ zs h<(c2 d (sub s a (p-a))).length)(hm:c2 d (sub s a (p-a))∈nm):eo s d D N h nm a nd=.inl (a,8):=by
 subst a1;exact aLm hc hl hm
theorem bBn (aA w0:World)(b:Nat)(s:List UInt8)(d:Dl)(D N:Nat)(af aj ak:Int)(p nd ca dJ:Nat)(nm:List (List UInt8))(dZ bB:Nat)(L:List (Nat×Obj))(R:List Row)(cM:Cxr aA w0 ((b,.cells (eK s d D N af aj ak p nd ca (.map (some dJ)) dZ bB).toArray 140)::(dJ,fK nm)::L) R)(hs:s.length<=1000000)(hp:p<=s.length)(jO:nd<=900000)(cY:okD d)(jr:Cnt aA)(hn:nm.Nodup)(h:Bool):Ret W 124 [ao b 0,.bool h] w0 (λv w'=>∃ (bl:Bool) (kv:Value) (ks:List T) (css:List (List Value)) (ch bQ gn bc:Nat) (zy:List (List UInt8)),v=.tuple #[.agg (nrow 5 [] [] kv []).toArray,.bool bl]/\ch<=s.length/\Cxr aA w' ((b,.cells (eK s d D N af aj ak ch bQ ca (.map (some dJ)) gn bc).toArray 140)::(dJ,fK zy)::L) (⟨72,5,kv,ks.length,css.flatten⟩::R)/\NL [] ks css/\((bl=false/\eo s d D N h nm p nd=.inl (gn,bc))\/(bl=true/\∃ c,eo s d D N h nm p nd=.inr c/\bQ=n9 h nd/\zy=xB h nm (c2 d (sub s p (c-p)))/\p<=c/\c<=s.length/\((c<s.length/\(s.getD c 0).toNat=d.sep.toNat/\ch=c+1/\ks=[(.mk 2 [] (sub s p (c-p)) [] []),(.mk 11 [] [d.sep] [] [])])\/(¬ (c<s.length/\(s.getD c 0).toNat=d.sep.toNat)/\ch=c/\ks=[(.mk 2 [] (sub s p (c-p)) [] [])]))))):=by
 refine aI Tryz.func124 B Tryz.ntmps124 B ?_;have G:=cM;refine ag ?_;refine dv ?_;intro bp w G gW gN;refine an ?_;refine RP ?_;refine dv ?_;intro bq w G gX hF;refine hX ?_;intro w G ko;refine bz ?_;refine aVv B B B aO (λhc=>yx aA _ b s d D N af aj ak p nd ca (.map (some dJ)) dZ bB _ _ (G.pick 2 B) hs I I cY 3) Tryz.func122 B B B (λhc=>(aX l2 (aX B B))) ?_;rintro YY w bNh;obtain ⟨MA,o4,Qh,H4,rfl,G,Om⟩:=aMq (G.pick 2 rfl) bNh;replace Om:VQ D N p nd (!h) MA o4 Qh H4 3:=Om;replace G:=G.unpick ((bq,aa 72 [J 5,M [],M [],al,M []])::(bp,aa 72 [J 0,M [],M [],al,M []])::(b,.cells (eK s d D N af aj ak p nd ca (.map (some dJ)) dZ bB).toArray 140)::(dJ,fK nm)::L) 2 B;refine ae ?_;refine Z (λeH=>?_) (λeH=>?_)
 ·have a1:h=false/\MA=false:=by revert eH;cases h <;> cases MA <;> simp
  refine ae ?_;refine K2 ?_;intro w G ig;refine ae ?_;refine aE2 ?_;exact ⟨false,al,[],[],p,o4,Qh,H4,nm,B,hp,(G.drop 2).nilRow 72 5,NL.nil [],.inl ⟨B,VQ.err Om a1⟩⟩
 have u5:=VQ.ok Om (by revert eH;cases h <;> cases MA <;> simp);have cO1:o4<=nd+1:=by
  rw [u5.2];unfold n9;split <;> omega
 refine aG ?_;refine Da ?_;refine aq ?_;refine bW (bCo aA _ b s d D N af aj ak p o4 ca (.map (some dJ)) Qh H4 _ _ (G.pick 2 B) hs I I cY) Tryz.func194 B B B B B (aX B B) ?_;rintro rV w ⟨cJp,gZ,we,tB,rfl,N3,G,aPx⟩;replace G:=G.unpick ((bq,aa 72 [J 5,M [],M [],al,M []])::(bp,aa 72 [J 0,M [],M [],al,M []])::(b,.cells (eK s d D N af aj ak p o4 ca (.map (some dJ)) Qh H4).toArray 140)::(dJ,fK nm)::L) 2 B;refine ag ?_;refine Z (λgL=>?_) (λgL=>?_)
 ·have rr:tB≠0/\cL s d p=(tB,we):=by
   rcases aPx with ⟨h,_⟩ | ⟨_,h⟩
   ·exfalso;rw [h] at gL;simp at gL
   ·exact h
  refine ae ?_;refine K2 ?_;intro w G jt;refine ae ?_;refine aE2 ?_;exact ⟨false,al,[],[],gZ,o4,we,tB,nm,B,N3,(G.drop 2).nilRow 72 5,NL.nil [],.inl ⟨B,aLi u5.1 rr.1 rr.2⟩⟩
 have ql:cL s d p=(0,gZ):=by
  rcases aPx with ⟨_,h⟩ | ⟨h,_⟩
  ·exact h
  ·exfalso;rw [h] at gL;simp at gL
 have zc:=HF hp ql;refine ag ?_;refine iu ?_;intro w G JC;refine wq ?_;refine ST ?_;refine dP B B (pb (s:=s) (i:=p) (j:=gZ) B B B B aF I I) ?_;refine dP B B (av (v:=(M (sub s p (gZ-p)))) B B) ?_;refine ST ?_;refine az ?_;refine S B B (cG B B q3 B pW (l:=[.int .u8 ((d.sep.toNat:Nat):Int),.int .u8 ((d.quo.toNat:Nat):Int),.bool d.hdr,.bool d.typ]) ((G.row 2 B).sub 1 B) B) ?_;refine bo G (bCp (sub s p (gZ-p)) d _ (jr.up G.ext) (by have:=vO s p (gZ-p);omega) (aJ6 ql)) Tryz.func195 B B B B B B ?_;intro w G OA;refine ae ?_;refine S B B (av (v:=(M (c2 d (sub s p (gZ-p))))) B B) ?_;refine az ?_;refine cw (λf ah=>f 11=J (zs h)/\f 0=ao b 0/\f 1=.bool (h)/\f 4=ao bp 0/\f 5=.bool (false)/\f 6=ao bq 0/\f 7=J p/\f 8=M (sub s p (gZ-p))/\f 9=M (c2 d (sub s p (gZ-p)))/\Cxr aA ah ((bq,aa 72 [J 5,M [],M [],al,M []])::(bp,aa 72 [J 0,M [],M [],al,M []])::(b,.cells (eK s d D N af aj ak gZ o4 ca (.map (some dJ)) we tB).toArray 140)::(dJ,fK nm)::L) (R)) ?_ ?_
 ·refine an ?_;refine Z (λgq=>?_) (λgq=>?_)
  ·refine ae ?_;have bRf:=bX8 gq;exact KW
  refine ab ?_;have bRf:zs h=65536:=bX7 (by rw [gq];decide);exact KW
 intro f w ai;obtain ⟨cv,aB,aK,aM,bF,aL,aS,bb,b6,G⟩:=ai;refine an ?_;refine S B B (oo (s:=c2 d (sub s p (gZ-p))) B B aF) ?_;refine ae ?_;refine Z (λu9=>?_) (λu9=>?_)
 ·refine ab ?_;refine ei G (G.pick1 0 B) mixed [(0,53),(1,54),(2,55)] #[true,true,true,false,false,false] ac ac ac ac ?_;refine lk ?_;refine cW ?_;intro w G Jz;refine nD ?_;refine bW (tv aA _ b s d D N af aj ak gZ o4 ca (.map (some dJ)) we tB _ _ (G.pick 2 B) hs I I cY p 10) tj B B B B B (aX B (aX B (aX B B))) ?_;rintro zQ w ⟨rfl,G⟩;replace G:=G.unpick ((bq,aa 72 [J 5,M [],M [],al,M []])::(bp,aa 72 [J 0,M [],M [],al,M []])::(b,.cells (eK s d D N af aj ak gZ o4 ca (.map (some dJ)) we tB).toArray 140)::(dJ,fK nm)::L) 2 B;refine gS ?_;refine qU ?_;refine Q0 ?_;intro w G np;refine dQ ?_;refine kb ?_;refine AB ?_;refine RY ?_;exact ⟨false,al,[],[],gZ,o4,p,10,nm,B,N3,(G.drop 2).nilRow 72 5,NL.nil [],.inl ⟨B,aLn u5.1 ql (by have h2:=u9;unfold zs at h2;omega)⟩⟩
 refine ab ?_;refine cw (λf ah=>(h=true->c2 d (sub s p (gZ-p))∉nm)/\f 0=ao b 0/\f 4=ao bp 0/\f 6=ao bq 0/\f 8=M (sub s p (gZ-p))/\Cxr aA ah ((bq,aa 72 [J 5,M [],M [],al,M []])::(bp,aa 72 [J 0,M [],M [],al,M []])::(b,.cells (eK s d D N af aj ak gZ o4 ca (.map (some dJ)) we tB).toArray 140)::(dJ,fK (xB h nm (c2 d (sub s p (gZ-p)))))::L) (R)) ?_ ?_
 ·refine an ?_;refine Z (λBo=>?_) (λBo=>?_)
  ·refine bz ?_;refine S B B (aXf (keys:=nm) B B B Tryz.underlying102 aF (yr _) (G.at 3 B)) ?_;refine ab ?_;refine Z (λyR=>?_) (λyR=>?_)
   ·refine ab ?_;refine ei G (G.pick1 0 B) mixed [(0,64),(1,65),(2,66)] #[true,true,true,false,false,false] ac ac ac ac ?_;refine lk ?_;refine cW ?_;intro w G cQ2;refine nD ?_;refine bW (tv aA _ b s d D N af aj ak gZ o4 ca (.map (some dJ)) we tB _ _ (G.pick 2 B) hs I I cY p 8) tj B B B B B (aX B (aX B (aX B B))) ?_;rintro cUl w ⟨rfl,G⟩;replace G:=G.unpick ((bq,aa 72 [J 5,M [],M [],al,M []])::(bp,aa 72 [J 0,M [],M [],al,M []])::(b,.cells (eK s d D N af aj ak gZ o4 ca (.map (some dJ)) we tB).toArray 140)::(dJ,fK nm)::L) 2 B;refine gS ?_;refine qU ?_;refine Q0 ?_;intro w G xo;refine dQ ?_;refine kb ?_;refine AB ?_;refine RY ?_;exact ⟨false,al,[],[],gZ,o4,p,8,nm,B,N3,(G.drop 2).nilRow 72 5,NL.nil [],.inl ⟨B,bJf Bo ql I yR⟩⟩
   refine aG ?_;refine aVx (keys:=nm) G 3 B B B B B B Tryz.underlying102 aF hn B yR ?_;intro w G;refine ab ?_;exact ⟨_,B,λ_=>yR,aB,aM,aL,bb,(by rw [aS2 Bo];exact G)⟩
  refine ab ?_;exact ⟨_,B,(λh2=>absurd (Bo.symm.trans h2) (by decide)),aB,aM,aL,bb,(by rw [bYn (h:=h) (by rw [Bo];decide)];exact G)⟩
 intro f w ai;obtain ⟨sv,aB,aM,aL,bb,G⟩:=ai;refine aq ?_;refine S B B (cd (qs:=[(0,(J 2)),(2,(M (sub s p (gZ-p))))]) (MC _ _) B B) ?_;refine lg ?_;intro aZy w G Iy OD;replace G:=G.nilRow 72 5;refine s8 ?_;intro Y1 w G bP6;replace G:=G.drop 1;refine ab ?_;refine bR (v:=Y1) G 0 B B B B B G.oneS B B mK ?_;intro w G xp;refine ae ?_;refine iu ?_;intro w G cQ3;refine wq ?_;refine oz ?_;refine At ?_;refine x9 ?_;refine At ?_;refine lj ?_;refine dk B B B aO (λhc=>dm (s:=s) (i:=gZ) B ay ay aF fO) ?_;refine ST ?_;refine At ?_;refine oz ?_;refine lj ?_;refine Z (λbN8=>?_) (λbN8=>?_)
 ·refine cK ?_;refine bR (v:=(J (gZ+1))) G 2 B B B B B B B B bN ?_;intro w G W6;refine ab ?_;refine ei G (G.pick2 0 2 B B B) mixed [(0,114),(1,115),(2,116),(3,117),(4,118),(5,119),(6,120)] #[true,true,true,true,true,true,true,false,false,false,false,false,false,false] ac ac ac ac ?_;refine i1 ?_;refine lk ?_;refine cW ?_;intro w G cQ4;refine lh ?_;refine qT ?_;intro cIs w G cK7 cQc;refine RZ ?_;refine mP ?_;refine RX ?_;refine RZ ?_;refine qV ?_;refine S B B (cd (qs:=[(0,(J 11)),(2,(M ([d.sep])))]) (MC _ _) B B) ?_;refine RZ ?_;refine kQ ?_;refine lg ?_;intro cIt w G cK8 bUw;refine hK ⟨.inl (G.pick2 2 4 B B B),?_⟩;refine mO ?_;refine s8 ?_;intro aW2 w G cM1;replace G:=G.drop 1;refine dQ ?_;refine r2 ?_;refine ej ?_;refine pZ ?_;refine bR (v:=aW2) G 1 B B B B B G.oneS B B mK ?_;intro w G W7;refine Hg ?_;refine bn G 2 B B B aM B B bA B (lL G.oneS) ?_;intro w G Fe;refine ae ?_;refine io Tryz.results124 aM B (G.at 2 B) de B bA ?_;exact ⟨true,aW2,[.mk 2 [] (sub s p (gZ-p)) [] [],.mk 11 [] [d.sep] [] []],[nrow 2 [] (sub s p (gZ-p)) (al) [],nrow 11 [] [d.sep] (al) []],gZ+1,o4,we,tB,xB h nm (c2 d (sub s p (gZ-p))),B,I,(G.drop 3).row_eq B B,((NL.nil []).snoc (NR.leaf _ _ _ _ _)).snoc (NR.leaf _ _ _ _ _),.inr ⟨B,gZ,MY u5.1 ql (by have h2:=u9;unfold zs at h2;omega) sv,u5.2,B,zc.1,zc.2,.inl ⟨I,I,B,B⟩⟩⟩
 refine an ?_;refine bn G 1 B B B aM B B bA B (lL G.oneS) ?_;intro w G Fe;refine ae ?_;refine RY ?_;exact ⟨true,Y1,[.mk 2 [] (sub s p (gZ-p)) [] []],[nrow 2 [] (sub s p (gZ-p)) (al) []],gZ,o4,we,tB,xB h nm (c2 d (sub s p (gZ-p))),B,N3,(G.drop 2).row_eq B B,(NL.nil []).snoc (NR.leaf _ _ _ _ _),.inr ⟨B,gZ,MY u5.1 ql (by have h2:=u9;unfold zs at h2;omega) sv,u5.2,B,zc.1,zc.2,.inr ⟨I,B,B⟩⟩⟩
end Go.Proofs.YthiafbkolhnadaaGreatDoor
end
section
namespace Go.Proofs.YthiafbkolhnadaaGreatDoor
open Go Go.Dk Go.RowKit Go.Lib
attribute [local irreducible] Go.wpList Go.Code.wp Go.bodyPost Go.wpStill Go.wpQuiet
variable {d:Dl}{s:List UInt8}{D N nd:Nat}{h:Bool}
def mm (k:Nat)(d:Dl):Bool:=(((k:Nat):Int)==((0:Nat):Int))&&d.hdr
theorem bO2 {k:Nat}(h:mm k d=true):k=0:=by
 unfold mm at h;have:=(Bool.and_eq_true_iff.1 h).1;rw [beq_iff_eq] at this;omega
theorem Yx {X SR l:List Value}{j:Nat}(ax:j=X.length)(hz:SR.length=l.length):(X++SR).take j++l++(X++SR).drop (j+l.length)=X++l:=by
 rw [List.take_append_of_le_length I,ax,nG,AD Kd,cH]
theorem Ig {α:Type}(css:List (List α))(x:List α):css.flatten++x=(css++[x]).flatten:=by rw [List.flatten_append,pi,List.flatten_nil,cH]
theorem bXo{c n:Nat}(hc:c<s.length)(h:ci s c=(0,0,n)):1<=n:=by
 unfold ci at h;rw [O I] at h;split at h
 ·cases h;exact bV _
 split at h
 . split at h
   ·cases h
   split at h
   ·cases h;decide
   ·cases h
 ·cases h
theorem VQ.rerr{p bQ gn bc many:Nat}{bl:Bool}(hv:VQ D N p nd (!h) bl bQ gn bc 2)(hc:h=false/\bl=false):RcR s d D N h many p nd (.inl (gn,bc)):=by
 obtain ⟨rfl,rfl⟩:=hc;unfold RcR;rcases hv with ⟨_,⟨h2,_⟩ | ⟨_,_,rfl,⟨rfl,ar⟩ | ⟨rfl,ar,bd⟩⟩⟩ | ⟨h1,_⟩
 ·cases h2
 ·rw [U ⟨B,ar⟩]
 ·rw [O (λh=>I),U ⟨B,bd⟩]
 ·cases h1
theorem VQ.rok{p bQ gn bc many:Nat}{bl:Bool}(hv:VQ D N p nd (!h) bl bQ gn bc 2)(hc:¬ (h=false/\bl=false))(hn:nd<=N):bQ<=N/\∀ r,RcL s d D N h many ⟨p,bQ,[],[]⟩ r->RcR s d D N h many p nd r:=by
 unfold RcR;rcases hv with ⟨h1,⟨h2,Y,ar,bd⟩ | ⟨h2,_⟩⟩ | ⟨h1,_,Y⟩
 . have h6:h=false:=by simpa using h1
   subst h6 Y;refine ⟨I,λr hr=>?_⟩;rw [O (λh=>I),O (λh=>I)];exact hr
 ·exact absurd ⟨by simpa using h1,h2⟩ hc
 . have h6:h=true:=by simpa using h1
   subst h6 Y;refine ⟨hn,λr hr=>?_⟩;rw [O (λh=>by cases h.1),O (λh=>by cases h.1)];exact hr
theorem bJd{nm zy:List (List UInt8)}{a:Nat}(e:h=true->nm=zy):eo s d D N h nm a nd=eo s d D N h zy a nd:=by
 cases h with
 | true=>rw [e rfl]
 | false=>unfold eo;simp only [r0,false_and,if_false]
theorem bYm{nm nms:List (List UInt8)}{x:List UInt8}(e:h=true->nm=nms):h=true->xB h nm x=nms++[x]:=λa1=>by rw [aS2 a1,e a1]
theorem aS0(hb:entB D N h nd)(hn:nd<=N):n9 h nd<=N:=by
 unfold n9;split
 ·exact hn
 . rcases hb with hb | hb
   ·exact absurd hb cj
   ·omega
section
variable {s:List UInt8} {d:Dl} {D N many q nd c:Nat} {h:Bool} {nm nms:List (List UInt8)} {kids:List T}
theorem aVc {n:Nat}(hn:n=kids.length)(h1:0<many)(h2:many<=n):RcL s d D N h many ⟨q,nd,nms,kids⟩ (.inl (q,10)):=.done (PJ h1 (by subst hn;exact h2))
theorem aU9 {n:Nat}{e:Nat×Nat}(hn:n=kids.length)(h1:¬ (0<many/\many<=n))(bm:h=true->nm=nms)(he:eo s d D N h nm q nd=.inl e):RcL s d D N h many ⟨q,nd,nms,kids⟩ (.inl e) :=
 .done (PI (by subst hn;exact h1) Ke)
theorem aVd {n:Nat}{r:uJ}(hn:n=kids.length)(h1:¬ (0<many/\many<=n))(bm:h=true->nm=nms)(he:eo s d D N h nm q nd=.inr c)(Y:c<s.length)(ar:(s.getD c 0).toNat=d.sep.toNat)
  (hr:RcL s d D N h many ⟨c+1,n9 h nd,nms++[c2 d (sub s q (c-q))],kids++[uU (sub s q (c-q)) d.sep]⟩ r):RcL s d D N h many ⟨q,nd,nms,kids⟩ r:=by
 refine .more ?_ hr;show pS _ _ _ _ _ _ _=_;rw [zF (by subst hn;exact h1) Ke,U ⟨Y,ar⟩]
theorem aVb {n o e:Nat}(hn:n=kids.length)(h1:¬ (0<many/\many<=n))(bm:h=true->nm=nms)(he:eo s d D N h nm q nd=.inr c)(Y:¬ (c<s.length/\(s.getD c 0).toNat=d.sep.toNat))(ap:e≠0)(hl:ci s c=(e,o,0)) :
  RcL s d D N h many ⟨q,nd,nms,kids⟩ (.inl (o,e)):=by
 refine .done ?_;show pS _ _ _ _ _ _ _=_;rw [zF (by subst hn;exact h1) Ke,O Y,hl,U ap]
theorem aVa {n m:Nat}(hn:n=kids.length)(h1:¬ (0<many/\many<=n))(bm:h=true->nm=nms)(he:eo s d D N h nm q nd=.inr c)(Y:¬ (c<s.length/\(s.getD c 0).toNat=d.sep.toNat))(hl:ci s c=(0,0,m))(hm:n+1<many) :
  RcL s d D N h many ⟨q,nd,nms,kids⟩ (.inl (c,10)):=by
 refine .done ?_;show pS _ _ _ _ _ _ _=_;rw [zF (by subst hn;exact h1) Ke,O Y,hl,O (by simp),U (by subst hn;exact hm)]
theorem aU8 {n m:Nat}(hn:n=kids.length)(h1:¬ (0<many/\many<=n))(bm:h=true->nm=nms)(he:eo s d D N h nm q nd=.inr c)(Y:¬ (c<s.length/\(s.getD c 0).toNat=d.sep.toNat))(hl:ci s c=(0,0,m))(hm:¬ n+1<many) :
  RcL s d D N h many ⟨q,nd,nms,kids⟩ (.inr (.mk 8 [] [] (kids++[wN (sub s q (c-q))]) (sub s c m),c+m,n9 h nd,nms++[c2 d (sub s q (c-q))])):=by
 refine .done ?_;show pS _ _ _ _ _ _ _=_;rw [zF (by subst hn;exact h1) Ke,O Y,hl,O (by simp),O (by subst hn;exact hm)]
end
theorem Tt (aA w0:World)(b:Nat)(s:List UInt8)(d:Dl)(D N:Nat)(af aj ak:Int)(p nd ca dJ:Nat)(nm:List (List UInt8))(dZ bB:Nat)(L:List (Nat×Obj))(R:List Row)(cM:Cxr aA w0 ((b,.cells (eK s d D N af aj ak p nd ca (.map (some dJ)) dZ bB).toArray 140)::(dJ,fK nm)::L) R)(hs:s.length<=1000000)(hp:p<=s.length)(jO:nd<=N)(dr:N<=800000)(cY:okD d)(jr:Cnt aA)(hn:nm.Nodup)(k:Nat)(VR:k=0->nm=[])(kk:k=0↔ca=0)(fp:p<s.length)(hk:k<=1000000):Ret W 72 [ao b 0,J k] w0 (λv w'=>∃ (bl:Bool) (dL:Option Addr) (ij dD:Nat) (tl:List UInt8) (t:T) (ch bQ s3 gn bc:Nat) (zy:List (List UInt8)) (rs:List Row),v=.tuple #[.agg (nrow 8 [] [] (.slice dL ij dD) tl).toArray,.bool bl]/\ch<=s.length/\Cxr aA w' ((b,.cells (eK s d D N af aj ak ch bQ s3 (.map (some dJ)) gn bc).toArray 140)::(dJ,fK zy)::L) (rs++R)/\((bl=false/\RcR s d D N (mm k d) ca p nd (.inl (gn,bc)))\/(bl=true/\zy.Nodup/\bQ<=N/\s3=t.kids.length/\1<=s3/\p<ch/\∃ nms,RcR s d D N (mm k d) ca p nd (.inr (t,ch,bQ,nms))/\NR rs t (nrow 8 [] [] (.slice dL ij dD) tl)))):=by
 refine aI Tryz.func72 B Tryz.ntmps72 B ?_;have G:=cM;refine dR ?_;refine dv ?_;intro bp w G gW gN;refine yg ?_;refine l7 ?_;refine x5 ?_;refine GR ?_;refine aN B B B aO (λhc=>bO aL2 B ay) ?_;refine aN B B B aO (λhc=>bO Ub B ay) ?_;refine aN B B B aO (λhc=>br B ay pr B (G.cell 1 B B)) ?_;refine Df ?_;refine S B B (av (v:=.bool (mm k d)) B B) ?_;refine uH ?_;refine S B B (cd (qs:=[(0,(J 8))]) (Hz _) B B) ?_;refine dv ?_;intro b7 w G nO iW;refine hX ?_;intro w G jh;refine ya ?_;refine LL ?_;refine eW ?_;refine x5 ?_;refine aVv B B B aO (λhc=>yx aA _ b s d D N af aj ak p nd ca (.map (some dJ)) dZ bB _ _ (G.pick 2 B) hs I I cY 2) Tryz.func122 B B B (λhc=>(aX l2 (aX B B))) ?_;rintro v25 w bNi;obtain ⟨MB,XS,Zk,T7,rfl,G,On⟩:=aMq (G.pick 2 rfl) bNi;replace On:VQ D N p nd (!(mm k d)) MB XS Zk T7 2:=On;replace G:=G.unpick ((b7,aa 72 [J 8,M [],M [],al,M []])::(bp,aa 72 [J 0,M [],M [],al,M []])::(b,.cells (eK s d D N af aj ak p nd ca (.map (some dJ)) dZ bB).toArray 140)::(dJ,fK nm)::L) 2 B;refine LM ?_;refine DD ?_;refine Z (λgL=>?_) (λgL=>?_)
 ·have a1:mm k d=false/\MB=false:=by revert gL;cases mm k d <;> cases MB <;> simp
  refine dR ?_;refine S B B (cG B B de B bA (G.row 0 B) B) ?_;refine K2 ?_;intro w G hG;refine qY ?_;refine io Tryz.results72 B B (G.at 1 B) de B bA ?_;exact ⟨false,none,0,0,[],.mk 0 [] [] [] [],p,XS,ca,Zk,T7,nm,[],B,hp,G.drop 2,.inl ⟨B,VQ.rerr On a1⟩⟩
 have u5:=VQ.rok (s:=s) (d:=d) (many:=ca) On (by revert gL;cases mm k d <;> cases MB <;> simp) jO;refine DA ?_;refine bu (λg f ah=>∃ (q dI n dD F9 Eb:Nat) (dL:Option Addr) (kids:List T) (css:List (List Value)) (nms zx:List (List UInt8)) (rs:List Row),g=s.length-q/\(q<=s.length)/\(p<=q)/\(dI<=N)/\(n=kids.length)/\(n<=q)/\(NL rs kids css)/\(zx.Nodup)/\(mm k d=true->zx=nms)/\(∀ r,RcL s d D N (mm k d) ca ⟨q,dI,nms,kids⟩ r->RcR s d D N (mm k d) ca p nd r)/\f 0=ao b 0/\f 1=J k/\f 4=ao bp 0/\f 6=.bool (mm k d)/\f 7=ao b7 0/\Cxr aA ah ((b7,aa 72 [J 8,M [],M [],.slice dL n dD,M []])::(bp,aa 72 [J 0,M [],M [],al,M []])::(b,.cells (eK s d D N af aj ak q dI ca (.map (some dJ)) F9 Eb).toArray 140)::(dJ,fK zx)::L) (⟨72,5,.slice dL n dD,n,css.flatten⟩::(rs++R))) ((λ(q:Nat)=>s.length-q) p) ?_ ?_
 ·exact ⟨p,XS,0,0,Zk,T7,none,[],[],[],nm,[],B,hp,bV _,u5.1,B,bU _,NL.nil [],hn,(λh=>VR (bO2 h)),u5.2,B,B,B,B,B,(G.nilRow 72 5)⟩
 intro wR f w ai;obtain ⟨q,dI,n,dD,F9,Eb,dL,kids,css,nms,zx,rs,IM,aw,j4,I7,gh,aPd,hP,aO1,lW,e2,aB,aK,aM,aL,aS,G⟩:=ai;refine ox ?_;refine jj ?_;refine jj ?_;refine iu ?_;intro w G JA;refine dP B B (cU B aK) ?_;refine Au ?_;refine Dg ?_;refine dk B B B aO (λhc=>bO yH B aS) ?_;refine dk B B B aO (λhc=>br B ay dx B (G.cell 0 B B)) ?_;refine dk B B B aO (λhc=>hJ B ay dx) ?_;refine dk B B B aO (λhc=>cU B aB) ?_;refine At ?_;refine dk B B B aO (λhc=>bO M4 B ay) ?_;refine dk B B B aO (λhc=>br B ay dq B (G.cell 2 B B)) ?_;refine GY ?_;refine Dh ?_;refine zM ?_;refine Z (λiA=>?_) (λiA=>?_)
 ·have nX:0<ca/\ca<=n:=I;refine jj ?_;refine ei G (G.pick1 0 B) mixed [(0,41),(1,42),(2,43),(3,44),(4,45)] #[true,true,true,true,true,false,false,false,false] ac ac ac ac ?_;refine aE3 ?_;refine GZ ?_;refine GZ ?_;refine bw B (bx B) (λw G=>uq B B) ?_;refine bw B (bx B) (λw G=>bO T9 B B) ?_;refine cW ?_;intro w G JB;refine kb ?_;refine S B B (br B B dq B (G.cell 2 B B)) ?_;refine gS ?_;refine li ?_;refine bW (tv aA _ b s d D N af aj ak q dI ca (.map (some dJ)) F9 Eb _ _ (G.pick 2 B) hs I I cY q 10) tj B B B B B (aX B (aX B (aX B B))) ?_;rintro cGg w ⟨rfl,G⟩;replace G:=G.unpick ((b7,aa 72 [J 8,M [],M [],.slice dL n dD,M []])::(bp,aa 72 [J 0,M [],M [],al,M []])::(b,.cells (eK s d D N af aj ak q dI ca (.map (some dJ)) F9 Eb).toArray 140)::(dJ,fK zx)::L) 2 B;refine gS ?_;refine lh ?_;refine Q0 ?_;intro w G jt;refine dQ ?_;refine mP ?_;refine kB ?_;refine hY ?_;refine Ai ?_;refine io Tryz.results72 aM B (G.at 1 B) de B bA ?_;exact ⟨false,dL,n,dD,[],.mk 0 [] [] [] [],q,dI,ca,q,10,zx,_::rs,B,aw,G.drop 2,.inl ⟨B,e2 _ (aVc gh nX.1 nX.2)⟩⟩
 have nX:¬ (0<ca/\ca<=n):=I;refine tb ?_;refine wl ?_;refine qW ?_;refine bW (bBn aA _ b s d D N af aj ak q dI ca dJ zx F9 Eb _ _ ((G.pick 3 B).pick 3 B) hs aw I cY jr aO1 (mm k d)) Tryz.func124 B B B B B (aX B (aX B B)) ?_;rintro v51 w ⟨cJq,cRy,jQ,ML,sM,qH,CP,A6,rN,rfl,bSz,G,bNc,aMz⟩;replace G:=G.unpick ((dJ,fK rN)::(b7,aa 72 [J 8,M [],M [],.slice dL n dD,M []])::(bp,aa 72 [J 0,M [],M [],al,M []])::(b,.cells (eK s d D N af aj ak q dI ca (.map (some dJ)) F9 Eb).toArray 140)::L) 3 B;replace G:=G.unpick ((b7,aa 72 [J 8,M [],M [],.slice dL n dD,M []])::(bp,aa 72 [J 0,M [],M [],al,M []])::(b,.cells (eK s d D N af aj ak sM qH ca (.map (some dJ)) CP A6).toArray 140)::(dJ,fK rN)::L) 3 B;obtain ⟨o0,o1,rfl⟩:=G.rowSl;refine p5 ?_;refine dv ?_;intro cP w G lB jg;refine hX ?_;intro w G iD;refine jF ?_;refine jj ?_;refine eR ?_;refine LL ?_;refine eA ?_;refine Z (λkH=>?_) (λkH=>?_)
 ·have bM8:eo s d D N (mm k d) zx q dI=.inl (CP,A6):=by
   rcases aMz with ⟨_,h⟩ | ⟨h,_⟩
   ·exact h
   ·exfalso;rw [h] at kH;simp at kH
  refine dR ?_;refine R0 ?_;refine Gl ?_;intro w G oY;refine qY ?_;refine LN ?_;exact ⟨false,dL,n,dD,[],.mk 0 [] [] [] [],sM,qH,ca,CP,A6,rN,_::_::rs,B,bSz,G.drop 3,.inl ⟨B,e2 _ (aU9 gh nX lW bM8)⟩⟩
 rcases aMz with ⟨h,_⟩ | ⟨_,c,rl,VO,aPa,aP0,ia,Bt⟩
 ·exfalso;rw [h] at kH;simp at kH
 have BJ:qH<=N:=by rw [VO];exact aS0 (H2 rl).2 I7
 have NU:rN.Nodup:=by rw [aPa];exact bYo aO1 (λa1=>by rw [a1] at rl;exact T3 rl)
 have u2:NL (⟨72,5,.slice o0 jQ.length o1,jQ.length,ML.flatten⟩::rs) (kids++[.mk 5 [] [] jQ []]) (css++[nrow 5 [] [] (.slice o0 jQ.length o1) []]) :=
  (hP.mono λr h=>bP _ h).snoc ((bNc.mono λr h=>absurd h mT).node rfl (b9 ..) 5 [] [] [])
 refine iZ ?_;refine cw (λf ah=>∃ (pB mY:Nat),f 0=ao b 0/\f 1=J k/\f 4=ao bp 0/\f 6=.bool (mm k d)/\f 7=ao b7 0/\f 8=ao cP 0/\Cxr aA ah ((cP,aa 72 [J 5,M [],M [],.slice o0 jQ.length o1,M []])::(b7,aa 72 [J 8,M [],M [],.slice (some ⟨pB,0,none⟩) (n+1) mY,M []])::(bp,aa 72 [J 0,M [],M [],al,M []])::(b,.cells (eK s d D N af aj ak sM qH ca (.map (some dJ)) CP A6).toArray 140)::(dJ,fK rN)::L) (⟨72,5,.slice (some ⟨pB,0,none⟩) (n+1) mY,n+1,css.flatten++nrow 5 [] [] (.slice o0 jQ.length o1) []⟩::⟨72,5,.slice o0 jQ.length o1,jQ.length,ML.flatten⟩::(rs++R))) ?_ ?_
 ·refine ei G (G.pick2 0 1 B B B) mixed [(0,57),(1,58),(2,59),(3,60)] #[true,true,true,true,false,false,false,false,false,false] ac ac ac ac ?_;refine bw B (bx B) (λw G=>bO yH B aS) ?_;refine bw B (bx B) (λw G=>br B B dx B (G.cell 1 B B)) ?_;refine bw B (bx B) (λw G=>cG B B de B bA (G.row 0 B) B) ?_;refine bw B (bx B) (λw G=>hJ B B dx) ?_;refine cW ?_;intro w G W1;refine qU ?_;replace G:=G.swapQ;refine lg ?_;intro aZt w G bNy aQ6;refine p1 ?_;refine kb ?_;refine s8 ?_;intro cGk w G bP4;replace G:=G.drop 1;obtain ⟨pB,mY,rfl,_⟩:=G.rowS (by rw [aQ];exact Nat.lt_of_lt_of_le (by decide) (Nat.le_add_left _ _));refine dQ ?_;refine fR (i:=6) (j:=8) ac B B ?_ ?_
  ·refine LH ?_;refine dQ ?_;refine fR (i:=7) (j:=8) ac B B ?_ ?_
   ·refine Rd ?_;intro w G _ _;replace G:=G.row_eq B (Yx (l:=nrow 5 [] [] (.slice o0 jQ.length o1) []) X4 B);refine dQ ?_;refine mP ?_;refine LO ?_;exact ZB
   refine LO ?_;exact ZU
  refine LO ?_;refine dQ ?_;refine fR (i:=6) (j:=9) ac B B ?_ ?_
  ·refine LH ?_;exact ZU
  refine Rh ?_;intro w G lI;refine dQ ?_;refine li ?_;refine LH ?_;exact ZA
 intro f w ai;obtain ⟨pB,mY,aB,aK,aM,aL,aS,bb,G⟩:=ai;refine dR ?_;refine S B B (bO yH B bb) ?_;refine aE4 ?_;refine R1 ?_;refine l5 ?_;refine Z (λBq=>?_) (λBq=>?_)
 ·have w7:¬ (c<s.length/\(s.getD c 0).toNat=d.sep.toNat)/\sM=c/\jQ=[.mk 2 [] (sub s q (c-q)) [] []]:=by
   rcases Bt with ⟨_,_,_,h⟩ | h
   ·rw [h] at Bq;simp at Bq
   ·exact h
  clear Bt
  refine Aw ?_;refine wl ?_;refine qX ?_;refine S B B (bO T9 B B) ?_;refine S B B (br B B dq B (G.cell 3 B B)) ?_;refine S B B (av (v:=(J sM)) B B) ?_;refine p4 ?_;refine DC ?_;refine bW (bBo aA _ b s d D N af aj ak sM qH ca (.map (some dJ)) b7 _ CP A6 _ _ ((G.pick 1 B).pick 3 B) hs I I cY) Tryz.func125 B B B B B (aX B (aX aS B)) ?_;rintro aXa w ⟨cJs,xD,CQ,yF,vR,rfl,Wl,G,VC⟩;replace G:=G.unpick ((b7,aa 72 [J 8,M [],M [],.slice (some ⟨pB,0,none⟩) (n+1) mY,M vR])::(cP,aa 72 [J 5,M [],M [],.slice o0 jQ.length o1,M []])::(bp,aa 72 [J 0,M [],M [],al,M []])::(b,.cells (eK s d D N af aj ak sM qH ca (.map (some dJ)) CP A6).toArray 140)::(dJ,fK rN)::L) 3 B;replace G:=G.unpick ((cP,aa 72 [J 5,M [],M [],.slice o0 jQ.length o1,M []])::(b7,aa 72 [J 8,M [],M [],.slice (some ⟨pB,0,none⟩) (n+1) mY,M vR])::(bp,aa 72 [J 0,M [],M [],al,M []])::(b,.cells (eK s d D N af aj ak xD qH ca (.map (some dJ)) CQ yF).toArray 140)::(dJ,fK rN)::L) 1 B;refine LL ?_;refine eA ?_;refine Z (λtG=>?_) (λtG=>?_)
  ·have aOv:yF≠0/\ci s c=(yF,CQ,0):=by
    rcases VC with ⟨h,_⟩ | ⟨_,h1,h2⟩
    ·exfalso;rw [h] at tG;simp at tG
    ·rw [w7.2.1] at h2;exact ⟨h1,h2⟩
   refine dR ?_;refine R0 ?_;refine Gl ?_;intro w G l0;refine qY ?_;refine LN ?_;exact ⟨false,some ⟨pB,0,none⟩,n+1,mY,vR,.mk 0 [] [] [] [],xD,qH,ca,CQ,yF,rN,_::_::rs,B,Wl,G.drop 3,.inl ⟨B,e2 _ (aVb gh nX lW rl w7.1 aOv.1 aOv.2)⟩⟩
  obtain ⟨m,BG,bSo,vt⟩:∃ m,ci s c=(0,0,m)/\xD=c+m/\vR=sub s c m:=by
   rcases VC with ⟨_,h⟩ | ⟨h,_⟩
   ·rw [w7.2.1] at h;exact h
   ·exfalso;rw [h] at tG;simp at tG
  clear VC
  refine iZ ?_;refine cw (λf ah=>∃ (s3:Nat),(s3=if k=0 then n+1 else ca)/\f 0=ao b 0/\f 4=ao bp 0/\f 7=ao b7 0/\f 10=J sM/\Cxr aA ah ((cP,aa 72 [J 5,M [],M [],.slice o0 jQ.length o1,M []])::(b7,aa 72 [J 8,M [],M [],.slice (some ⟨pB,0,none⟩) (n+1) mY,M vR])::(bp,aa 72 [J 0,M [],M [],al,M []])::(b,.cells (eK s d D N af aj ak xD qH s3 (.map (some dJ)) CQ yF).toArray 140)::(dJ,fK rN)::L) (⟨72,5,.slice (some ⟨pB,0,none⟩) (n+1) mY,n+1,css.flatten++nrow 5 [] [] (.slice o0 jQ.length o1) []⟩::⟨72,5,.slice o0 jQ.length o1,jQ.length,ML.flatten⟩::(rs++R))) ?_ ?_
  ·refine dR ?_;refine S B B (cU B aK) ?_;refine l5 ?_;refine Z (λIE=>?_) (λIE=>?_)
   ·refine nE ?_;refine wl ?_;refine LO ?_;refine S B B (br B B dx B (G.cell 1 B B)) ?_;refine R1 ?_;refine qX ?_;refine S B B (bO M4 B B) ?_;refine bR (v:=(J (n+1))) G 3 B B B B B B B B bN ?_;intro w G xo;refine eA ?_;exact ⟨_,B,n+1,(by rw [U I]),aB,aM,aS,B,G⟩
   refine iZ ?_;exact ⟨_,B,ca,(by rw [O I]),aB,aM,aS,B,G⟩
  intro f w ai;obtain ⟨s3,OI,aB,aM,aS,cp,G⟩:=ai;refine jj ?_;refine jj ?_;refine iu ?_;intro w G bVi;refine dP B B (bO yH B aS) ?_;refine dP B B (br B B dx B (G.cell 1 B B)) ?_;refine dP B B (hJ B B dx) ?_;refine dP B B (cU B aB) ?_;refine dP B B (uq B B) ?_;refine dP B B (bO M4 B B) ?_;refine dP B B (br B B dq B (G.cell 3 B B)) ?_;refine Au ?_;refine zM ?_;refine Z (λyT=>?_) (λyT=>?_)
  ·have hw:n+1<ca:=by
    by_cases hk:k=0
    ·rw [U hk] at OI;omega
    ·rw [O hk] at OI;omega
   refine jj ?_;refine ei G (G.pick1 1 B) mixed [(0,93),(1,94),(2,95)] #[true,true,true,false,false,false] ac ac ac ac ?_;refine aE3 ?_;refine GZ ?_;refine bw B (bx B) (λw G=>cU B cp) ?_;refine cW ?_;intro w G bVj;refine nD ?_;refine bW (tv aA _ b s d D N af aj ak xD qH s3 (.map (some dJ)) CQ yF _ _ (G.pick 3 B) hs I I cY sM 10) tj B B B B B (aX B (aX B (aX B B))) ?_;rintro cUs w ⟨rfl,G⟩;replace G:=G.unpick ((cP,aa 72 [J 5,M [],M [],.slice o0 jQ.length o1,M []])::(b7,aa 72 [J 8,M [],M [],.slice (some ⟨pB,0,none⟩) (n+1) mY,M vR])::(bp,aa 72 [J 0,M [],M [],al,M []])::(b,.cells (eK s d D N af aj ak xD qH s3 (.map (some dJ)) CQ yF).toArray 140)::(dJ,fK rN)::L) 3 B;refine ta ?_;refine qU ?_;refine Gl ?_;intro w G xp;refine dQ ?_;refine kb ?_;refine kB ?_;refine hY ?_;refine Ai ?_;refine LN ?_;exact ⟨false,some ⟨pB,0,none⟩,n+1,mY,vR,.mk 0 [] [] [] [],xD,qH,s3,sM,10,rN,_::_::rs,B,Wl,G.drop 3,.inl ⟨B,by rw [w7.2.1];exact e2 _ (aVa gh nX lW rl w7.1 BG hw)⟩⟩
  have hw:s3=n+1/\¬ n+1<ca:=by
   by_cases hk:k=0
   ·rw [U hk] at OI;have:=kk.1 hk;omega
   ·rw [O hk] at OI;have:=(not_congr kk).1 hk;omega
  have xg:p<xD:=by
   by_cases h:c<s.length
   ·have:=bXo h BG;omega
   ·omega
  refine tb ?_;refine R0 ?_;refine Gl ?_;intro w G B3;refine qY ?_;refine LN ?_;exact ⟨true,some ⟨pB,0,none⟩,n+1,mY,vR,.mk 8 [] [] (kids++[.mk 5 [] [] jQ []]) vR,xD,qH,s3,CQ,yF,rN,_::_::rs,B,Wl,G.drop 3,.inr ⟨B,NU,BJ,by rw [hw.1];show n+1=(kids++[_]).length;rw [aQ,gh];rfl,I,xg,_,by rw [w7.2.2,vt,bSo,VO];exact e2 _ (aU8 gh nX lW rl w7.1 BG hw.2),(u2.mono λr h=>bP _ h).node (n:=n+1) Kb X5 8 [] [] vR⟩⟩
 have NS:c<s.length/\(s.getD c 0).toNat=d.sep.toNat/\sM=c+1/\jQ=[.mk 2 [] (sub s q (c-q)) [] [],.mk 11 [] [d.sep] [] []]:=by
  rcases Bt with h | ⟨_,_,h⟩
  ·exact h
  ·rw [h] at Bq;simp at Bq
 clear Bt
 refine iZ ?_;exact ⟨_,_,I,B,sM,qH,n+1,mY,CP,A6,some ⟨pB,0,none⟩,kids++[.mk 5 [] [] jQ []],css++[nrow 5 [] [] (.slice o0 jQ.length o1) []],nms++[c2 d (sub s q (c-q))],rN,⟨72,5,.slice o0 jQ.length o1,jQ.length,ML.flatten⟩::rs,B,I,I,BJ,Kb,I,u2,NU,(by rw [aPa];exact bYm lW),(λr hr=>e2 r (aVd gh nX lW rl NS.1 NS.2.1 (by rw [<- VO,show uU (sub s q (c-q)) d.sep=.mk 5 [] [] jQ [] by rw [NS.2.2.2];rfl,<- NS.2.2.1];exact hr))),aB,aK,aM,aL,aS,((G.drop 1).row_eq B (Ig _ _))⟩
end Go.Proofs.YthiafbkolhnadaaGreatDoor
end
section
namespace Go.Proofs.YthiafbkolhnadaaGreatDoor
open Go Go.Dk Go.RowKit Go.Lib
variable {s:List UInt8}{d:Dl}{D N many:Nat}{h:Bool}
theorem bJc{nm:List (List UInt8)}{a nd:Nat}{e:Nat×Nat}(he:eo s d D N h nm a nd=.inl e):e.2≠0:=by
 unfold eo at he;split at he
 ·cases he;simp
 split at he
 ·cases he;simp
 split at he
 ·cases he;assumption
 split at he
 ·cases he;simp
 split at he
 ·cases he;simp
 ·cases he
theorem cCd{x:Rst}{e:Nat×Nat}(hr:pS s d D N h many x=.inr (.inl e)):e.2≠0:=by
 by_cases h1:0<many/\many<=x.kids.length
 ·rw [PJ h1.1 h1.2] at hr;cases hr;simp
 . cases he:eo s d D N h x.names x.a x.nodes with
   | inl aZ =>
    rw [PI h1 he] at hr;cases hr;exact bJc he
   | inr c =>
    rw [zF h1 he] at hr;split at hr
    ·cases hr
    split at hr
    ·cases hr;assumption
    split at hr
    ·cases hr;simp
    ·cases hr
theorem RcL.e0{x:Rst}{r:uJ}(hr:RcL s d D N h many x r):∀ e,r=.inl e->e.2≠0:=by
 unfold RcL at hr
 induction hr with
 | done h1=>intro e he;subst he;exact cCd h1
 | more h1 _ ih=>exact ih
theorem RcR.e0{a nd o e:Nat}(hr:RcR s d D N h many a nd (.inl (o,e))):e≠0:=by
 unfold RcR at hr;split at hr
 ·cases hr;simp
 split at hr
 ·cases hr;simp
 ·exact hr.e0 _ B
section
variable {s:List UInt8} {d:Dl} {D N a nd many:Nat} {recs:List T}
theorem aKp (h:s.length<=a):DcL s d D N ⟨a,nd,recs,many⟩ (.inr recs):=by
 refine .done ?_;unfold tA;rw [U h]
theorem aKq {h:Bool}{o e:Nat}(a6:a<s.length)(a1:h=(d.hdr&&decide (recs=[])))(hr:RcR s d D N h many a nd (.inl (o,e))):DcL s d D N ⟨a,nd,recs,many⟩ (.inl (o,e)):=by
 refine .done ?_;unfold tA;rw [O jU];subst a1;exact ⟨_,hr,B⟩
theorem aKr {h:Bool}{t:T}{a2 n2:Nat}{nms:List (List UInt8)}{r:Sum (Nat×Nat) (List T)}(a6:a<s.length)(a1:h=(d.hdr&&decide (recs=[])))(hr:RcR s d D N h many a nd (.inr (t,a2,n2,nms)))(hx:DcL s d D N ⟨a2,n2,recs++[t],t.kids.length⟩ r):DcL s d D N ⟨a,nd,recs,many⟩ r:=by
 refine .more ?_ hx;unfold tA;rw [O jU];subst a1;exact ⟨_,hr,B⟩
end
end Go.Proofs.YthiafbkolhnadaaGreatDoor
end
section
namespace Go.Proofs.YthiafbkolhnadaaGreatDoor
open Go Go.Dk Go.RowKit Go.Lib
attribute [local irreducible] Go.wpList Go.Code.wp Go.bodyPost Go.wpStill Go.wpQuiet
variable {s:List UInt8}{dl:Dl}{b a e:Int}
theorem aNu {k:Nat}{d:Dl}{recs:List T}(h:k=recs.length):mm k d=(d.hdr&&decide (recs=[])):=by
 unfold mm;rw [Bool.and_comm]
 congr 1
 rw [jE,beq_iff_eq,decide_eq_true_eq,<- List.length_eq_zero_iff];omega
theorem bFx (s:List UInt8)(w0:World)(hs:s.length<=1000000):Fc W 71 [M s] w0 (λv _=>∃ i:Nat,Bad s i/\i<=s.length/\v=.int .i64 (if i<s.length then (i:Int) else -1)):=by
 refine aI Tryz.func71 B Tryz.ntmps71 B ?_;have G:=Ctx.start w0;refine cF ?_;refine bu (λg f ah=>∃ (i:Nat),g=s.length-i/\(i<=s.length)/\(∀ r,Lp (fs (gf s)) i r->Lp (fs (gf s)) 0 r)/\f 3=J i/\f 0=M s/\Cxr w0 ah [] []) ((λ(i:Nat)=>s.length-i) 0) ?_ ?_
 ·exact ⟨0,B,bU _,λr h=>h,aJ,B,G⟩
 intro h8 f w ai;obtain ⟨i,ni,hi,aw,aR,aB,G⟩:=ai;refine bz ?_;refine Z (λhD=>?_) (λhD=>?_)
 ·refine az ?_;refine Rk ?_;intro cBf w G qx EN;obtain ⟨cTd,EN⟩:=EN;rw [xN] at EN;subst EN;refine an ?_;refine Lo ?_;refine aG ?_;refine Z (λhQ=>?_) (λhQ=>?_)
  ·refine ae ?_;refine mR ?_;refine ag ?_;refine be Tryz.results71 B ?_;exact ⟨G.ext,i,aw _ (.done (by unfold fs gf;rw [O I,U I])),I,aD (Value.int .i64) (U (show i<s.length by omega)).symm⟩
  refine an ?_;have j2:=us (l:=s.drop i) (by intro e;have:=aD eC e;rw [bC] at this;simp only [dC] at this;omega);rw [bC] at j2;refine ab ?_;refine Lq ?_;refine ab ?_;exact ⟨_,_,I,B,i+dB (s.drop i),B,I,λr h=>aw r (.more (by unfold fs gf;rw [O I,O I]) h),aJ,aB,G⟩
 refine az ?_;refine be Tryz.results71 B ?_;exact ⟨G.ext,s.length,aw _ (.done (by unfold fs gf;rw [U I])),bV _,aD (Value.int .i64) (O (DK s.length)).symm⟩
theorem bFw (d:Dl)(w0:World):Fc W 70 [.agg #[.int .u8 ((d.sep.toNat:Nat):Int),.int .u8 ((d.quo.toNat:Nat):Int),.bool d.hdr,.bool d.typ]] w0 (λv _=>v=.bool (decide (okD d))):=by
 refine aI Tryz.func70 B Tryz.ntmps70 B ?_;have G:=Ctx.start w0;refine ag ?_;refine bE ?_;intro b1 w G er fX;refine aY8 ?_;refine Z (λfI=>?_) (λfI=>?_)
 ·refine aq ?_;refine be Tryz.results70 B ?_;refine pd ?_;rw [eq_comm,decide_eq_false_iff_not];unfold okD;omega
 refine gp ?_;refine hg G B B B aO (λhc=>aIp d.sep _) Tryz.func120 B B B (λhc=>(aX ay B)) ?_;intro w G B0;refine aq ?_;refine hg G B B B aO (λhc=>aIp d.quo _) Tryz.func120 B B B (λhc=>(aX ay B)) ?_;intro w G aQ1;refine aq ?_;refine be Tryz.results70 B ?_;refine pd ?_;rw [jE,decide_eq_true_eq];unfold okD;simp only [fS,kP,decide_eq_false_iff_not,bne_iff_ne,ne_eq];constructor
 . rintro ⟨⟨h1,h2⟩,Y⟩
   exact ⟨I,I,I,I,h2,Y⟩
 . rintro ⟨h1,h2,Y,ar,bd,h6⟩
   exact ⟨⟨I,bd⟩,h6⟩
theorem aZ9 (bj:List UInt8)(bg:Nat)(b4:Nat)(fQ:Bool)(ir:Bool)(ld:Int)(ux:Int)(uy:Int)(uz:Int)(uw:Int)(zZ:Nat)(z1:Nat)(w:World):(Instr.build 140 ([(0,(M bj)),(1,.agg #[.int .u8 ((bg:Nat):Int),.int .u8 ((b4:Nat):Int),.bool (fQ),.bool (ir)]),(2,.agg #[.int .i64 (ld),.int .i64 (ux),.int .i64 (uy),.int .i64 (uz),.int .i64 (uw)]),(4,(J zZ)),(6,.map (some z1))]:List (Nat×Value)).toArray).run W w=.ok (.agg #[M bj,.int .u8 ((bg:Nat):Int),.int .u8 ((b4:Nat):Int),.bool (fQ),.bool (ir),.int .i64 (ld),.int .i64 (ux),.int .i64 (uy),.int .i64 (uz),.int .i64 (uw),J 0,J zZ,J 0,.map (some z1),J 0,J 0]) w:=by
 go_simp
 try rfl
theorem aY4{d n:Int}(h:¬ okD dl\/¬ okL d n b a e):Pq s dl d n b a e (.inl (0,1)):=by
 by_cases h1:okD dl
 . by_cases h2:okL d n b a e
   . rcases h with h | h
     ·exact absurd h1 h
     ·exact absurd h2 h
   ·exact .lim h1 h2
 ·exact .dia h1
theorem aHm{D N:Nat}(hd:okD dl)(h:okL D N b a e)(hs:¬ b<(s.length:Int))(hb:Bad s s.length){x:Nat×Nat}(hr:DcL s dl D N ⟨0,1,[],0⟩ (.inl x)):Pq s dl D N b a e (.inl x):=.err hd h hs hb hr
theorem aHl{D N:Nat}(hd:okD dl)(h:okL D N b a e)(hs:¬ b<(s.length:Int))(hb:Bad s s.length){l:List T}(hr:DcL s dl D N ⟨0,1,[],0⟩ (.inr l)):Pq s dl D N b a e (.inr (docD l)):=.doc hd h hs hb hr
theorem _root_.Go.Dk.Cxr.grab1 {w0 w:World}{L:List (Nat×Obj)}{A ea:List Row}{r:Row}(h:Cxr w0 w L (A++(r::ea))):Cxr w0 w L (r::(A++ea)):=h.permR tf
theorem bDu (s:List UInt8)(d:Dl)(bD bK af aj ak:Int)(w0:World)(hs:s.length<=1000000)(jr:Cnt w0):Ret W 29 [M s,.agg #[.int .u8 ((d.sep.toNat:Nat):Int),.int .u8 ((d.quo.toNat:Nat):Int),.bool d.hdr,.bool d.typ],.agg #[.int .i64 bD,.int .i64 bK,.int .i64 af,.int .i64 aj,.int .i64 ak]] w0 (λv w'=>(∃ o bk:Nat,bk≠0/\v=.tuple #[.agg (nrow 0 [] [] (al) []).toArray,J o,J bk]/\Pq s d bD bK af aj ak (.inl (o,bk))/\Below w0.heap.size w0 w')\/(∃ (t:T) (cs:List Value) (rs:List Row),v=.tuple #[.agg cs.toArray,J 0,J 0]/\Pq s d bD bK af aj ak (.inr t)/\NR rs t cs/\Cxr w0 w' [] rs)):=by
 refine aI Tryz.func29 B Tryz.ntmps29 B ?_;have G:=Ctx.start w0;refine ag ?_;refine bE ?_;intro bp w G gW gN;refine bE ?_;intro bH w G fl fg;refine dv ?_;intro bq w G gX hF;refine aG ?_;refine bo G (bFw d _) Tryz.func70 B B B B B B ?_;intro w G sC;refine ag ?_;refine aN B B B a8 (λhc=>cG B ay r9 B pV (G.row 1 B) B) ?_;refine hg G B B B a8 (λhc=>mY bD bK af aj ak _) Tryz.func62 B B B (λhc=>(aX ay B)) ?_;intro w G BZ;refine ae ?_;refine Z (λdG=>?_) (λdG=>?_)
 ·have sp:¬ okD d\/¬ okL bD bK af aj ak:=by by_cases h1:okD d <;> by_cases h2:okL bD bK af aj ak <;> simp_all
  refine wu ?_;refine hX ?_;intro w G jh;refine an ?_;refine R2 ?_;exact .inl ⟨0,1,by decide,B,aY4 sp,G.ext⟩
 have cY:okD d:=by by_cases h1:okD d <;> simp_all
 have w8:okL bD bK af aj ak:=by by_cases h1:okL bD bK af aj ak <;> simp_all
 have BG:=w8;unfold okL at BG;obtain ⟨D,rfl⟩:∃ D:Nat,bD=D:=⟨bD.toNat,I⟩;obtain ⟨N,rfl⟩:∃ N:Nat,bK=N:=⟨bK.toNat,I⟩;refine cF ?_;refine Z (λgL=>?_) (λgL=>?_)
 ·refine wu ?_;refine hX ?_;intro w G hG;refine an ?_;refine R2 ?_;exact .inl ⟨0,10,by decide,B,.size cY w8 I,G.ext⟩
 refine aq ?_;refine bG G (bFx s _ I) Tryz.func71 B B B B B B ?_;intro aUl w G Ow V5;obtain ⟨Fj,aNl,cOa,rfl⟩:=V5;refine aE5 ?_;refine az ?_;refine Z (λje=>?_) (λje=>?_)
 ·have Vo:Fj<s.length:=by split at je <;> omega
  refine wu ?_;refine ab ?_;refine hX ?_;intro w G iD;refine aE5 ?_;refine ae ?_;refine R2 ?_;rw [U Vo];exact .inl ⟨Fj,5,by decide,B,.text cY w8 I aNl Vo,G.ext⟩
 have Vo:¬ Fj<s.length:=by split at je <;> omega
 have lC:Bad s s.length:=by
  have:Fj=s.length:=I;rw [<- this];exact aNl
 refine az ?_;refine Gj ?_;intro yu w G cLj Oz;refine S B B (cd (qs:=[(0,(M s)),(1,.agg #[.int .u8 ((d.sep.toNat:Nat):Int),.int .u8 ((d.quo.toNat:Nat):Int),.bool (d.hdr),.bool (d.typ)]),(2,.agg #[.int .i64 (((D:Nat):Int)),.int .i64 (((N:Nat):Int)),.int .i64 (af),.int .i64 (aj),.int .i64 (ak)]),(4,(J 1)),(6,.map (some yu))]) (aZ9 _ _ _ _ _ _ _ _ _ _ _ _) B B) ?_;refine bE ?_;intro Hy w G cLl aQ1;refine an ?_;refine S B B (cd (qs:=[(0,(J 1))]) (Hz _) B B) ?_;refine dv ?_;intro da w G tD pN;replace G:=G.nilRow 72 5;refine hX ?_;intro w G oY;refine ae ?_;refine bu (λg f ah=>∃ (p nd ca dZ bB n dD:Nat) (dL:Option Addr) (nm:List (List UInt8)) (recs:List T) (css:List (List Value)) (rs:List Row),g=s.length-p/\(p<=s.length)/\(nd<=N)/\(n=recs.length)/\(n<=p)/\(NL rs recs css)/\(nm.Nodup)/\(n=0->nm=[])/\(n=0↔ca=0)/\(∀ r,DcL s d D N ⟨p,nd,recs,ca⟩ r->DcL s d D N ⟨0,1,[],0⟩ r)/\f 0=M s/\f 6=ao bq 0/\f 10=ao Hy 0/\f 11=ao da 0/\Cxr w0 ah [(da,aa 72 [J 1,M [],M [],.slice dL n dD,M []]),(Hy,.cells (eK s d D N af aj ak p nd ca (.map (some yu)) dZ bB).toArray 140),(yu,fK nm),(bq,aa 72 [J 0,M [],M [],al,M []]),(bH,aa 23 [.int .i64 (((D:Nat):Int)),.int .i64 (((N:Nat):Int)),.int .i64 (af),.int .i64 (aj),.int .i64 (ak)]),(bp,aa 25 [.int .u8 ((d.sep.toNat:Nat):Int),.int .u8 ((d.quo.toNat:Nat):Int),.bool (d.hdr),.bool (d.typ)])] (⟨72,5,.slice dL n dD,n,css.flatten⟩::rs)) ((λ(p:Nat)=>s.length-p) 0) ?_ ?_
 ·exact ⟨0,1,0,0,0,0,0,none,[],[],[],[],B,bU _,I,B,bV _,NL.nil [],List.nodup_nil,λ_=>rfl,Iff.rfl,λr h=>h,B,B,B,B,G⟩
 intro Ut f w ai;obtain ⟨p,nd,ca,dZ,bB,n,dD,dL,nm,recs,css,rs,bPt,hp,xa,gh,aPb,hP,bRr,VR,kk,e2,aB,aL,cp,cv,G⟩:=ai;refine gp ?_;refine Z (λgq=>?_) (λgq=>?_)
 ·refine bz ?_;refine bW (Tt w0 _ Hy s d D N af aj ak p nd ca yu nm dZ bB _ _ ((G.pick 2 B).pick 2 B) hs hp xa I cY (jr) bRr n VR kk I I) Tryz.func72 B B B B B (aX B (aX B B)) ?_;rintro aW8 w ⟨cJr,bWu,bWz,bWv,cFl,t54,aT1,aSz,aXv,KG,H7,XU,cCw,rfl,bS0,G,aM2⟩;replace G:=G.unpick ((yu,fK XU)::(da,aa 72 [J 1,M [],M [],.slice dL n dD,M []])::(Hy,.cells (eK s d D N af aj ak p nd ca (.map (some yu)) dZ bB).toArray 140)::(bq,aa 72 [J 0,M [],M [],al,M []])::(bH,aa 23 [.int .i64 (((D:Nat):Int)),.int .i64 (((N:Nat):Int)),.int .i64 (af),.int .i64 (aj),.int .i64 (ak)])::(bp,aa 25 [.int .u8 ((d.sep.toNat:Nat):Int),.int .u8 ((d.quo.toNat:Nat):Int),.bool (d.hdr),.bool (d.typ)])::[]) 2 B;replace G:=G.unpick ((da,aa 72 [J 1,M [],M [],.slice dL n dD,M []])::(Hy,.cells (eK s d D N af aj ak aT1 aSz aXv (.map (some yu)) KG H7).toArray 140)::(yu,fK XU)::(bq,aa 72 [J 0,M [],M [],al,M []])::(bH,aa 23 [.int .i64 (((D:Nat):Int)),.int .i64 (((N:Nat):Int)),.int .i64 (af),.int .i64 (aj),.int .i64 (ak)])::(bp,aa 25 [.int .u8 ((d.sep.toNat:Nat):Int),.int .u8 ((d.quo.toNat:Nat):Int),.bool (d.hdr),.bool (d.typ)])::[]) 2 B;replace G:=G.grab1;refine ae ?_;refine dv ?_;intro eD w G lA mx;refine hX ?_;intro w G sE;refine bz ?_;refine Z (λjq=>?_) (λjq=>?_)
  ·have aM4:RcR s d D N (mm n d) ca p nd (.inl (KG,H7)):=by
    rcases aM2 with ⟨_,h⟩ | ⟨h,_⟩
    ·exact h
    ·exfalso;rw [h] at jq;simp at jq
   refine ab ?_;refine ei G (G.pick1 2 B) mixed [(0,59),(1,60),(2,61),(3,62),(4,63),(5,64),(6,65),(7,66),(8,67)] #[true,true,true,true,true,true,true,true,true,false,false,false] ac ac ac ac ?_;refine GU ?_;refine yf ?_;refine cW ?_;intro w G Jz;refine qV ?_;refine bn G 4 B B B aL B B bA B B ?_;intro w G np;refine Di ?_;refine kQ ?_;refine S B B (av (v:=(J KG)) B B) ?_;refine Di ?_;refine mO ?_;refine S B B (av (v:=(J H7)) B B) ?_;refine l6 ?_;refine mG Tryz.results29 aL B B (G.at 4 B) de B bA ?_;exact .inl ⟨KG,H7,aM4.e0,B,aHm cY w8 I lC (e2 _ (aKq I (aNu gh) aM4)),G.ext⟩
  rcases aM2 with ⟨h,_⟩ | ⟨_,NU,BJ,bVs,cRg,xg,nms,bNf,bNd⟩
  ·exfalso;rw [h] at jq;simp at jq
  refine aq ?_;refine lg ?_;intro aZw w G bN0 bU9;refine s8 ?_;intro v72 w G cNx;replace G:=G.drop 1;refine ab ?_;refine bR (v:=v72) G 1 B B B B B G.oneS B B mK ?_;intro w G l0;refine ab ?_;obtain ⟨a72,Tt,rfl⟩:=G.rowSl;exact ⟨_,_,I,B,aT1,aSz,aXv,KG,H7,n+1,Tt,a72,XU,recs++[t54],css++[nrow 8 [] [] (.slice bWu bWz bWv) cFl],cCw++rs,B,bS0,BJ,Kb,I,((hP.mono λr h=>h0 _ h).snoc (bNd.mono λr h=>iM _ h)),NU,λh=>I,I,(λr h=>e2 r (aKr I (aNu gh) bNf (by rw [<- bVs];exact h))),aB,aL,cp,cv,((G.drop 1).row_eq B (Ig _ _))⟩
 refine an ?_;refine bn G 3 B B B aL B B bA B B ?_;intro w G sF;refine an ?_;refine mG Tryz.results29 aL B B (G.at 3 B) de B bA ?_;exact .inr ⟨docD recs,_,_::rs,B,aHl cY w8 I lC (e2 _ (aKp I)),(hP.mono λr h=>bP _ h).node gh (b9 ..) 1 [] [] [],G.drop 6⟩
end Go.Proofs.YthiafbkolhnadaaGreatDoor
end
section
namespace Go.Dk
open Go Go.RowKit Go.Lib Go.Proofs.YthiafbkolhnadaaGreatDoor
def xP (e:T):List UInt8:=match e.kids with | k::_=>k.text | []=>[]
def mf (names:List (List UInt8))(i:Nat):Stp:=if names=[] then ⟨true,⟨#[]⟩,i⟩ else ⟨false,bs (names.getD i []),0⟩
def kU (names:List (List UInt8))(p:List Stp):Nat->List T->Nat->List Ent
 | _,[],_=>[]
 | i,e::es,a=>⟨p++[mf names i],((a:Nat):Int),((a+(xP e).length:Nat):Int)⟩::kU names p (i+1) es (a+e.print.length)
def mF (i:Nat):Stp:=⟨true,⟨#[]⟩,i⟩
def ii (hdr:Bool)(i:Nat):Nat:=if hdr then i-1 else i
def k6 (names:List (List UInt8))(hdr:Bool)(depth i:Nat)(r:T)(a:Nat):List Ent :=
 if hdr=true/\i=0 then [] else ⟨[mF (ii hdr i)],((a:Nat):Int),((a+r.print.length-r.tail.length:Nat):Int)⟩::(if 1<depth then kU names [mF (ii hdr i)] 0 r.kids a else [])
def rEs (names:List (List UInt8))(hdr:Bool)(depth:Nat):Nat->List T->Nat->List Ent
 | _,[],_=>[]
 | i,r::rs,a=>k6 names hdr depth i r a++rEs names hdr depth (i+1) rs (a+r.print.length)
theorem aJ4 (names:List (List UInt8))(p:List Stp):∀ (es:List T) (e:T) (i a:Nat),kU names p i (es++[e]) a=kU names p i es a++[⟨p++[mf names (i+es.length)],((a+(prints es).length:Nat):Int),((a+(prints es).length+(xP e).length:Nat):Int)⟩]
 | [],e,i,a=>by simp [kU,gx]
 | j::es,e,i,a=>by
  rw [gT];simp only [kU];rw [aJ4 names p es e,gT,cf,hU,aQ,show i+1+es.length=i+(es.length+1) by omega,mU a]
theorem aU6 (names:List (List UInt8))(hdr:Bool)(depth:Nat):∀ (es:List T) (e:T) (i a:Nat),rEs names hdr depth i (es++[e]) a=rEs names hdr depth i es a++k6 names hdr depth (i+es.length) e (a+(prints es).length)
 | [],e,i,a=>by simp [rEs,gx]
 | j::es,e,i,a=>by
  rw [gT];simp only [rEs];rw [aU6 names hdr depth es e,eB,cf,hU,aQ,show i+1+es.length=i+(es.length+1) by omega,mU a]
theorem Tw (names:List (List UInt8))(p:List Stp):∀ (es:List T) (i a:Nat),(kU names p i es a).length=es.length
 | [],_,_=>rfl
 | e::es,i,a=>by simp only [kU,cf,Tw names p es]
structure Eok (d:Dl) (e:T):Prop where
 form:∃ x m,e=.mk 5 [] [] (.mk 2 [] x [] []::m) []/\cok d x/\(m=[]\/m=[.mk 11 [] [d.sep] [] []])
structure Rok (d:Dl) (t:T):Prop where
 form:∃ ks tl,t=.mk 8 [] [] ks tl/\ks≠[]/\∀ e∈ks,Eok d e
theorem cB6 {d:Dl}(names:List (List UInt8))(hdr:Bool)(depth i:Nat)(r:T)(a:Nat):(k6 names hdr depth i r a).length<=r.count:=by
 obtain ⟨k,b,c,ks,e⟩:=r;rw [dT];have:=jv ks;unfold k6;split
 ·exact bU _
 . rw [cf]
   split
   . rw [Tw]
     show ks.length+1<=_;omega
   ·simp
theorem PH (names:List (List UInt8))(hdr:Bool)(depth:Nat):∀ (es:List T) (i a:Nat),(rEs names hdr depth i es a).length<=counts es
 | [],_,_=>bU _
 | e::es,i,a=>by
  simp only [rEs,aQ,jH];have h1:=cB6 (d:=⟨0,0,false,false⟩) names hdr depth i e a;have h2:=PH names hdr depth es (i+1) (a+e.print.length);omega
end Go.Dk
end
section
namespace Go.Proofs.YthiafbkolhnadaaGreatDoor
open Go Go.Dk Go.RowKit Go.Lib
attribute [local irreducible] Go.wpList Go.Code.wp Go.bodyPost Go.wpStill Go.wpQuiet
variable {names:List (List UInt8)}{hdr:Bool}{dp i a:Nat}{r:T}
theorem aRu {x:List UInt8}{d:Dl}(h:¬ (x≠[]/\(x.getD 0 0).toNat=d.quo.toNat)):(M x)=(M (c2 d x)):=by rw [aKk h]
theorem bWp {x:List UInt8}{d:Dl}(h:x≠[]/\(x.getD 0 0).toNat=d.quo.toNat):(M (iO d.quo.toNat (sub x 1 (x.length-1-1))))=(M (c2 d x)):=by rw [TC h];rfl
theorem bDy (x:List UInt8)(d:Dl)(w0:World)(jr:Cnt w0)(hx:x.length<=1000000)(jL:cok d x):Fc W 30 [M x,.int .u8 ((d.quo.toNat:Nat):Int)] w0 (λv _=>v=(M (c2 d x))):=by
 refine aI Tryz.func30 B Tryz.ntmps30 B ?_;have G:=Ctx.start w0;refine bz ?_;refine S B B (ga (s:=x) (u:=([]:List UInt8)) B B B) ?_;refine ag ?_;refine aN B B B a8 (λhc=>dm (s:=x) (i:=0) B ay B aF fO) ?_;refine an ?_;refine Z (λe8=>?_) (λe8=>?_)
 ·have iC:¬ (x≠[]/\(x.getD 0 0).toNat=d.quo.toNat):=λh=>by
   rcases e8 with h1 | h1
   ·exact h.1 h1
   ·exact h1 (by rw [h.2])
  refine ae ?_;refine GX ?_;refine ag ?_;refine be Tryz.results30 B ?_;exact ⟨G.ext,aRu iC⟩
 have qD:x≠[]/\(x.getD 0 0).toNat=d.quo.toNat:=⟨e8.1,I⟩;have fy:=jL qD;have nV:=fy.1;have aPi:mA d.quo.toNat (sub x 1 (x.length-1-1)):=fy.2;refine an ?_;refine qT ?_;intro sd w G No sD;refine RX ?_;refine S B B (av (v:=(M ([d.quo]))) B B) ?_;refine aG ?_;refine aEz ?_;refine ag ?_;refine aE0 ?_;refine ab ?_;refine aC1 ?_;intro w G zk;refine aE1 ?_;refine ag ?_;refine be Tryz.results30 B ?_;exact ⟨G.ext,bWp qD⟩
theorem S2 (k:ByteArray)(w:World):(Instr.build 107 ([(1,.string k)]:List (Nat×Value)).toArray).run W w=.ok (.agg #[.bool false,.string k,J 0]) w:=aIf k w
theorem bFz (aA w0:World)(b dp a:Nat)(gR ed sJ:Value)(eP:Nat)(lead text tail:List UInt8)(ks:List T)(cs:List Value)(names:List (List UInt8))(p:List Stp)(ps:List Value)(es:List Ent)(L:List (Nat×Obj))(F:List Row)(cM:Cxr aA w0 ((b,aa 69 [J dp,gR])::L) (⟨52,3,gR,es.length,iz ps es⟩::F))(hl:ps.length=es.length)(qn:es.length+ks.length<=900000)(dr:NR F (.mk eP lead text ks tail) cs)(cc:∀ e∈ks,∃ x m,e=.mk 5 [] [] (.mk 2 [] x [] []::m) [])(xb:LR F 9 1 sJ names.length (names.map λx=>(M x)))(lG:names=[]\/names.length=ks.length)(hp:LR F 107 3 ed p.length (p.flatMap e6))(fp:p.length<=48)(oP:a+(prints ks).length<=1000000)(ru:counts ks<=900000):Ret W 74 [ao b 0,.agg cs.toArray,sJ,J a,ed] w0 (λu w'=>u=.tuple #[]/\∃ (oq:Value) (dE:List Value) (rs:List Row),Cxr aA w' ((b,aa 69 [J dp,oq])::L) (⟨52,3,oq,(es++kU names p 0 ks a).length,iz (ps++dE) (es++kU names p 0 ks a)⟩::(rs++F))/\dE.length=(kU names p 0 ks a).length/\∀ q∈iH 107 dE (kU names p 0 ks a),q∈rs):=by
 have jZ:Cxr aA w0 [] F:=Cxr.tailF (A:=[]) cM;obtain ⟨la,lc,lb,rfl,hlc,ez,dN⟩:=dr.kids jZ;obtain ⟨jw,iX,nq,rfl,vo,I6,c9⟩:=xb.sl2 jZ (by decide);obtain ⟨fP,eV,vG,rfl,Wk,jP,cu⟩:=hp.sl2 jZ (by decide);have j1:ks.length<=counts ks:=jv ks;refine aI Tryz.func74 B Tryz.ntmps74 B ?_;have G:=cM;refine dR ?_;refine bE ?_;intro bq w G gX hF;refine uH ?_;refine S B B (bO yH B B) ?_;refine aE4 ?_;refine R1 ?_;refine Dz ?_;refine bu (λg f ah=>∃ (i fc:Nat) (jC:Value) (dE:List Value) (dU:List Ent) (rs:List Row),g=ks.length-i/\(i<=ks.length)/\(fc=a+(prints (ks.take i)).length)/\(dU=kU names p 0 (ks.take i) a)/\(dE.length=dU.length)/\(∀ q∈iH 107 dE dU,q∈rs)/\f 16=J i/\f 3=J fc/\f 0=ao b 0/\f 2=.slice jw names.length iX/\f 4=.slice fP p.length eV/\f 14=.slice la ks.length lc/\f 15=J ks.length/\Cxr aA ah ((bq,aa 72 [J eP,M lead,M text,.slice la ks.length lc,M tail])::(b,aa 69 [J dp,jC])::L) (⟨52,3,jC,(es++dU).length,iz (ps++dE) (es++dU)⟩::(rs++F))) ((λ(i:Nat)=>ks.length-i) 0) ?_ ?_
 ·exact ⟨0,a,gR,[],[],[],rfl,bU _,(by rw [iw,gx];rfl),rfl,rfl,(λq h=>by cases h),aJ,aJ,rfl,rfl,rfl,rfl,rfl,(mg G (by rw [cH]) (by rw [cH,cH]))⟩
 intro h8 f w ai;obtain ⟨i,fc,jC,dE,dU,rs,ni,hi,yO,ds,lX,qu,jf,aR,aB,aE,aM,mu,kZ,G⟩:=ai;refine dR ?_;refine S B B (gQ B jf kZ B) ?_;refine p4 ?_;refine Z (λhQ=>?_) (λhQ=>?_)
 ·have dK:i<ks.length:=I;obtain ⟨e,he⟩:∃ e,ks[i]?=some e:=⟨_,bS dK⟩;have nT:=cb he;obtain ⟨x,m,rfl⟩:=cc e nT;obtain ⟨ecs,vm,xi⟩:=dN i _ he;obtain ⟨iQ,hN,jm,rfl,II,vd,ve⟩:=vm.kids jZ;obtain ⟨Fq,tQ,xj⟩:=ve 0 _ rfl;obtain ⟨bj,bg,b4,rfl⟩:=(tQ.vw jZ).form;have sx:=xG he;have zc:=vH ks (i+1);have su:=kq nT;have BR:x.length<=(T.mk 5 [] [] (.mk 2 [] x [] []::m) []).print.length:=by rw [dX,hU,dX];simp only [aQ];omega
  have kY:dU.length<=ks.length:=by rw [ds,Tw,dS];omega
  refine DA ?_;refine dR ?_;refine S B B (cU B jf) ?_;refine S B B (cT dx bA B (mu.trans (by rw [ez I])) jf I I) ?_;refine S B B (cG (l:=nrow 5 [] [] (.slice iQ (m.length+1) hN) []) B B de B bA (xi _ G.tailF) B) ?_;refine dv ?_;intro da w G tD pN;refine mR ?_;refine hX ?_;intro w G ig;refine Dy ?_;refine aEv ?_;refine K4 ?_;intro eD w G lA mx;refine K5 ?_;intro w G hG;refine eA ?_;refine cw (λf ah=>∃ (dA:Stp),(dA=mf names i)/\f 0=ao b 0/\f 2=.slice jw names.length iX/\f 3=J fc/\f 4=.slice fP p.length eV/\f 10=J i/\f 11=ao da 0/\f 12=ao eD 0/\f 14=.slice la ks.length lc/\f 15=J ks.length/\f 16=J i/\Cxr aA ah ((eD,aa 107 [.bool (dA.byIndex),.string dA.key,.int .i64 (dA.index)])::(da,aa 72 [J 5,M [],M [],.slice iQ (m.length+1) hN,M []])::(bq,aa 72 [J eP,M lead,M text,.slice la ks.length lc,M tail])::(b,aa 69 [J dp,jC])::L) (⟨52,3,jC,(es++dU).length,iz (ps++dE) (es++dU)⟩::(rs++F))) ?_ ?_
  ·refine dR ?_;refine S B B (cU B aE) ?_;refine S B B (hJ B B mc) ?_;refine l5 ?_;refine Z (λfI=>?_) (λfI=>?_)
   ·have bt:names≠[]:=λh=>by rw [h] at fI;simp at fI
    have aO9:names.length=ks.length:=lG.resolve_left bt;obtain ⟨pQ,I9⟩:∃ pQ,names[i]?=some pQ:=⟨_,bS I⟩;have VT:(names.map λx=>(M x))[i]?=some (M pQ):=by rw [eF,I9];rfl
    have ia:mf names i=⟨false,bs pQ,0⟩:=by unfold mf;rw [O bt,hZ,I9];rfl
    refine nE ?_;refine S B B (cU B aE) ?_;refine eW ?_;refine S B B (cT mc gA B (show Value.slice jw names.length iX=.slice (some ⟨nq,0,none⟩) names.length iX by rw [I6 I]) B I I) ?_;refine S B B (br (v:=(M pQ)) B B aF B (by rw [gD,Nat.mul_one];exact (c9 _ (Cxr.tailF (A:=rs) (G.drop 2)) I).cell i VT)) ?_;refine S B B (cd (qs:=[(1,(M pQ))]) (S2 _) B B) ?_;refine K5 ?_;intro w G jt;refine eA ?_;exact ⟨_,B,⟨false,bs pQ,0⟩,ia.symm,aB,aE,aR,aM,B,B,B,mu,kZ,jf,G⟩
   have ia:mf names i=⟨true,⟨#[]⟩,i⟩:=by unfold mf;rw [U (p8 I)]
   refine iZ ?_;exact ⟨_,B,⟨true,⟨#[]⟩,i⟩,ia.symm,aB,aE,aR,aM,B,B,B,mu,kZ,jf,G⟩
  intro f w ai;obtain ⟨dA,bT0,aB,aE,aR,aM,cp,cv,cV,mu,kZ,jf,G⟩:=ai;refine jj ?_;refine CN G (Cxr.pickF (A:=rs) G 1 B) mixed [(0,31),(1,32),(4,35),(5,36),(6,37),(7,38),(8,39),(9,40),(10,41),(11,42),(12,43)] #[true,true,false,false,true,true,true,true,true,true,true,true,true,false] ac ac ac ac ?_;refine GZ ?_;refine R3 ?_;refine bw B (bx B) (λw G=>cU B aR) ?_;refine bw B (bx B) (λw G=>cU B aR) ?_;refine bw B (bx B) (λw G=>bO yH B cv) ?_;refine bw B (bx B) (λw G=>br B B dx B (G.cell 0 B B)) ?_;refine bw B (bx B) (λw G=>cT dx bA B (show Value.slice iQ (m.length+1) hN=.slice (some ⟨jm,0,none⟩) (m.length+1) hN by rw [vd (Nat.succ_pos _)]) B (by decide) I) ?_;refine bw B (bx B) (λw G=>bO aL8 B B) ?_;refine bw B (bx B) (λw G=>br B B aF B ((xj _ (G.drop 1)).cell 2 B)) ?_;refine bw B (bx B) (λw G=>oo (s:=x) B B aF) ?_;refine bw B (bx B) (λw G=>rX B B B I I) ?_;refine cW ?_;intro w G JC;refine p2 ?_;refine S B B (cG B cV Tryz.underlying107 B lM (G.row 0 B) B) ?_;refine aE6 ?_;refine nD ?_;refine aC0 ?_;rintro aW5 w re;obtain ⟨Ct,mD,rfl,aP0,_,_⟩:=re.rowS (by rw [If,aQ,ll];omega);replace re:=mg re (n':=(p++[dA]).length) sK B;replace G:=(G.callRows re).swapQ;refine aE6 ?_;refine pZ ?_;refine bW (Ts aA _ b dp fc (fc+x.length) jC Ct (p.length+1) mD (p++[dA]) (ps++dE) (es++dU) _ _ (G.pick 3 B) (by rw [aQ,aQ,hl,lX]) Kd) Tryz.func69 B B B B B B ?_;rintro cTp w ⟨rfl,nz,G⟩;replace G:=G.unpick ((eD,aa 107 [.bool (dA.byIndex),.string dA.key,.int .i64 (dA.index)])::(da,aa 72 [J 5,M [],M [],.slice iQ (m.length+1) hN,M []])::(bq,aa 72 [J eP,M lead,M text,.slice la ks.length lc,M tail])::(b,aa 69 [J dp,jC])::L) 3 B;refine hY ?_;refine nE ?_;refine S B B (cU B aR) ?_;refine S B B (cG B cv de B bA (G.row 1 B) B) ?_;refine bo G (O4 (T.mk 5 [] [] (.mk 2 [] x [] []::m) []).count _ (bV _) I I _ _ (vm.vw (Cxr.tailF (A:=_::rs) G))) Tryz.func67 B B B B B B ?_;intro w G Fa;refine oy ?_;refine S B B (av (v:=(J (fc+(T.mk 5 [] [] (.mk 2 [] x [] []::m) []).print.length))) B B) ?_;refine eA ?_;refine nE ?_;refine S B B (rX B jf B I I) ?_;refine SD ?_
  exact ⟨_,_,I,B,i+1,fc+(T.mk 5 [] [] (.mk 2 [] x [] []::m) []).print.length,nz,dE++[.slice (some ⟨Ct,0,none⟩) (p.length+1) mD],dU++[⟨p++[dA],((fc:Nat):Int),((fc+x.length:Nat):Int)⟩],vI 107 (.slice (some ⟨Ct,0,none⟩) (p.length+1) mD) ⟨p++[dA],((fc:Nat):Int),((fc+x.length:Nat):Int)⟩::rs,B,I,(by rw [sx,yO];omega),(by rw [qP he,aJ4,<- ds,dS,yn I,gV,<- bT0,<- yO];rfl),(by rw [aQ,aQ,lX];rfl),(PB (pn4:=[]) (e4:=[]) (r4:=[]) lX qu (λq h=>by cases h)),aJ,aJ,aB,aE,aM,mu,kZ,(AU (G.drop 2) (by rw [eB,eB];rfl))⟩
 refine wp_exit ?_;have rD:ks.take i=ks:=lQ I;rw [rD] at ds;subst ds;refine mH (.inr B) Tryz.results74 ?_;exact ⟨B,jC,dE,rs,G.drop 1,lX,qu⟩
theorem aZ6 (bj:Bool)(bg:Int)(w:World):(Instr.build 107 ([(0,.bool (bj)),(2,.int .i64 (bg))]:List (Nat×Value)).toArray).run W w=.ok (.agg #[.bool (bj),M [],.int .i64 (bg)]) w:=by
 go_simp
 try rfl
theorem cB8(h:hdr=true/\i=0):k6 names hdr dp i r a=[]:=by unfold k6;rw [U h]
theorem cB9(h:¬ (hdr=true/\i=0))(hd:¬ 1<dp):k6 names hdr dp i r a=[⟨[mF (ii hdr i)],((a:Nat):Int),((a+r.print.length-r.tail.length:Nat):Int)⟩]:=by unfold k6;rw [O h,O hd]
theorem cB7(h:¬ (hdr=true/\i=0))(hd:1<dp):k6 names hdr dp i r a=⟨[mF (ii hdr i)],((a:Nat):Int),((a+r.print.length-r.tail.length:Nat):Int)⟩::kU names [mF (ii hdr i)] 0 r.kids a:=by unfold k6;rw [O h,U hd]
theorem MG (aA w0:World)(b dp:Nat)(gR sJ:Value)(eP:Nat)(lead text tail:List UInt8)(ks:List T)(cs:List Value)(names:List (List UInt8))(hdr:Bool)(d:Dl)(ps:List Value)(es:List Ent)(L:List (Nat×Obj))(F:List Row)(cM:Cxr aA w0 ((b,aa 69 [J dp,gR])::L) (⟨52,3,gR,es.length,iz ps es⟩::F))(hl:ps.length=es.length)(qn:es.length+counts ks<=900000)(dr:NR F (.mk eP lead text ks tail) cs)(cc:∀ r∈ks,Rok d r)(xb:LR F 9 1 sJ names.length (names.map λx=>(M x)))(lG:names=[]\/∀ r∈ks,names.length=r.kids.length)(oP:(prints ks).length<=1000000):Ret W 31 [ao b 0,.agg cs.toArray,sJ,.bool hdr] w0 (λu w'=>u=.tuple #[]/\∃ (oq:Value) (dE:List Value) (rs:List Row),Cxr aA w' ((b,aa 69 [J dp,oq])::L) (⟨52,3,oq,(es++rEs names hdr dp 0 ks 0).length,iz (ps++dE) (es++rEs names hdr dp 0 ks 0)⟩::(rs++F))/\dE.length=(rEs names hdr dp 0 ks 0).length/\∀ q∈iH 107 dE (rEs names hdr dp 0 ks 0),q∈rs):=by
 have jZ:Cxr aA w0 [] F:=Cxr.tailF (A:=[]) cM;obtain ⟨la,lc,lb,rfl,hlc,ez,dN⟩:=dr.kids jZ;obtain ⟨jw,iX,nq,rfl,vo,I6,c9⟩:=xb.sl2 jZ (by decide);have j1:ks.length<=counts ks:=jv ks;refine aI Tryz.func31 B Tryz.ntmps31 B ?_;have G:=cM;refine ag ?_;refine bE ?_;intro bH w G fl fg;refine kf ?_;refine bu (λg f ah=>∃ (i fc:Nat) (jC:Value) (dE:List Value) (dU:List Ent) (rs:List Row),g=ks.length-i/\(i<=ks.length)/\(fc=(prints (ks.take i)).length)/\(dU=rEs names hdr dp 0 (ks.take i) 0)/\(dE.length=dU.length)/\(∀ q∈iH 107 dE dU,q∈rs)/\f 17=J i/\f 8=J fc/\f 0=ao b 0/\f 2=.slice jw names.length iX/\f 3=.bool (hdr)/\f 15=.slice la ks.length lc/\f 16=J ks.length/\Cxr aA ah ((bH,aa 72 [J eP,M lead,M text,.slice la ks.length lc,M tail])::(b,aa 69 [J dp,jC])::L) (⟨52,3,jC,(es++dU).length,iz (ps++dE) (es++dU)⟩::(rs++F))) ((λ(i:Nat)=>ks.length-i) 0) ?_ ?_
 ·exact ⟨0,0,gR,[],[],[],rfl,bU _,(by rw [iw,gx];rfl),rfl,rfl,(λq h=>by cases h),aJ,aJ,rfl,rfl,rfl,rfl,rfl,(mg G (by rw [cH]) (by rw [cH,cH]))⟩
 intro gJ f w ai;obtain ⟨i,fc,jC,dE,dU,rs,qp,hi,yO,ds,lX,qu,sA,bb,aB,aE,aR,kZ,jf,G⟩:=ai;refine aq ?_;refine Z (λhB=>?_) (λhB=>?_)
 ·have dK:i<ks.length:=I;obtain ⟨r,hr⟩:∃ r,ks[i]?=some r:=⟨_,bS dK⟩;have vr:=cb hr;obtain ⟨bZ,tl,rfl,_,Be⟩:=(cc r vr).form;obtain ⟨PK,tR,xk⟩:=dN i _ hr;obtain ⟨iQ,hN,jm,rfl,II,vd,ve⟩:=tR.kids jZ;have sx:=xG hr;have zc:=vH ks (i+1);have su:=kq vr;have BR:(T.mk 8 [] [] bZ tl).print.length=(prints bZ).length+tl.length:=by rw [dX];simp only [aQ,dC];omega
  have rr:(T.mk 8 [] [] bZ tl).count=1+counts bZ:=dT ..;have aNs:bZ.length<=counts bZ:=jv bZ;have xl:dU.length+counts bZ+1<=counts ks:=by
   have h1:=PH names hdr dp (ks.take i) 0 0;have h2:=TB hr;rw [<- ds] at h1;omega
  refine az ?_;refine S B B (cT dx bA B (kZ.trans (by rw [ez I])) sA I I) ?_;refine S B B (cG (l:=nrow 8 [] [] (.slice iQ bZ.length hN) tl) B B de B bA (xk _ G.tailF) B) ?_;refine dv ?_;intro lr w G En xn;refine mR ?_;refine hX ?_;intro w G hG;refine an ?_;refine bo G (O4 (T.mk 8 [] [] bZ tl).count _ (bV _) I I _ _ (tR.vw G.tailF)) Tryz.func67 B B B B B B ?_;intro w G zj;refine S B B (av (v:=(J ((T.mk 8 [] [] bZ tl).print.length))) B B) ?_;refine an ?_;refine mR ?_;refine ab ?_;refine cw (λf ah=>∃ (OY:Int),(OY=if hdr=true then (i:Int)-1 else i)/\f 12=.int .i64 (OY)/\f 0=ao b 0/\f 2=.slice jw names.length iX/\f 3=.bool (hdr)/\f 8=J fc/\f 9=J i/\f 10=ao lr 0/\f 11=J ((T.mk 8 [] [] bZ tl).print.length)/\f 15=.slice la ks.length lc/\f 16=J ks.length/\f 17=J i/\Cxr aA ah ((lr,aa 72 [J 8,M [],M [],.slice iQ bZ.length hN,M tl])::(bH,aa 72 [J eP,M lead,M text,.slice la ks.length lc,M tail])::(b,aa 69 [J dp,jC])::L) (⟨52,3,jC,(es++dU).length,iz (ps++dE) (es++dU)⟩::(rs++F))) ?_ ?_
  ·refine an ?_;refine Z (λfI=>?_) (λfI=>?_)
   ·refine ae ?_;refine aDu ?_;refine ab ?_;exact ⟨_,B,(i:Int)-1,(by rw [U fI]),aJ,aB,aE,aR,bb,B,B,B,kZ,jf,sA,G⟩
   refine ab ?_;exact ⟨_,B,(i:Int),(by rw [O (by rw [fI];decide)]),aJ,aB,aE,aR,bb,B,B,B,kZ,jf,sA,G⟩
  intro f w ai;obtain ⟨OY,NM,cV,aB,aE,aR,bb,b6,cp,cv,kZ,jf,sA,G⟩:=ai;refine cw (λf ah=>∃ (nz:Value) (ui:List Value) (px:List Ent) (rQ:List Row),(px=dU++k6 names hdr dp i (.mk 8 [] [] bZ tl) fc)/\(ui.length=px.length)/\(∀ q∈iH 107 ui px,q∈rQ)/\f 0=ao b 0/\f 2=.slice jw names.length iX/\f 3=.bool (hdr)/\f 8=J fc/\f 10=ao lr 0/\f 11=J ((T.mk 8 [] [] bZ tl).print.length)/\f 15=.slice la ks.length lc/\f 16=J ks.length/\f 17=J i/\Cxr aA ah ((lr,aa 72 [J 8,M [],M [],.slice iQ bZ.length hN,M tl])::(bH,aa 72 [J eP,M lead,M text,.slice la ks.length lc,M tail])::(b,aa 69 [J dp,nz])::L) (⟨52,3,nz,(es++px).length,iz (ps++ui) (es++px)⟩::(rQ++F))) ?_ ?_
  ·refine aq ?_;refine Z (λgY=>?_) (λgY=>?_)
   ·have iC:¬ (hdr=true/\i=0):=by rintro ⟨h1,h2⟩;rw [U h1] at NM;omega
    have hk:OY=((ii hdr i:Nat):Int):=by
     rw [NM];unfold ii
     cases hdr with
     | true=>have:i≠0:=λh=>iC ⟨rfl,h⟩;simp only [if_true];omega
     | false=>rfl
    subst hk;refine ae ?_;refine S B B (cd (qs:=[(0,.bool (true)),(2,.int .i64 (((ii hdr i:Nat):Int)))]) (aZ6 _ _) B B) ?_;refine K3 ?_;intro AP w G Ep Ox;replace G:=G.toRow (size:=3) (k:=1) B (by decide);refine an ?_;replace G:=G.swapQ;refine cF ?_;refine bW (Ts aA _ b dp fc (fc+(T.mk 8 [] [] bZ tl).print.length-tl.length) jC AP 1 1 [mF (ii hdr i)] (ps++dE) (es++dU) _ _ (G.pick 2 B) (by rw [aQ,aQ,hl,lX]) Kd) Tryz.func69 B B B B B (aX B (aX B (aX B (aX (aD (Value.int .i64) I) B)))) ?_;rintro cTo w ⟨rfl,nz,G⟩;replace G:=G.unpick ((lr,aa 72 [J 8,M [],M [],.slice iQ bZ.length hN,M tl])::(bH,aa 72 [J eP,M lead,M text,.slice la ks.length lc,M tail])::(b,aa 69 [J dp,jC])::L) 2 B;refine cK ?_;refine Z (λgq=>?_) (λgq=>?_)
    ·refine az ?_;refine bW (bFz aA _ b dp fc nz (.slice (some ⟨AP,0,none⟩) 1 1) _ 8 [] [] tl bZ _ names [mF (ii hdr i)] _ _ _ _ (G.pick 2 rfl) (by rw [aQ,aQ,aQ,aQ,hl,lX];rfl) (by rw [aQ,aQ,ll];omega) (tR.mono λr h=>bP _ (h0 _ h)) (λe he=>by obtain ⟨x,m,h1,_⟩:=(Be e he).form;exact ⟨x,m,h1⟩) (xb.mono λr h=>bP _ (h0 _ h)) (lG.imp_right λh=>h _ vr) (.inr (b9 ..)) (by show 1<=48;decide) I I) Tryz.func74 rfl rfl rfl rfl rfl rfl ?_;rintro cTq w ⟨rfl,Zf,pn4,FP,G,Wn,Wy⟩;replace G:=G.unpick ((lr,aa 72 [J 8,M [],M [],.slice iQ bZ.length hN,M tl])::(bH,aa 72 [J eP,M lead,M text,.slice la ks.length lc,M tail])::(b,aa 69 [J dp,nz])::L) 2 B;refine ab ?_;exact ⟨_,B,Zf,dE++((.slice (some ⟨AP,0,none⟩) 1 1)::pn4),dU++(⟨[mF (ii hdr i)],((fc:Nat):Int),((fc+(T.mk 8 [] [] bZ tl).print.length-tl.length:Nat):Int)⟩::kU names [mF (ii hdr i)] 0 bZ fc),FP++(vI 107 (.slice (some ⟨AP,0,none⟩) 1 1) ⟨[mF (ii hdr i)],((fc:Nat):Int),((fc+(T.mk 8 [] [] bZ tl).print.length-tl.length:Nat):Int)⟩::rs),(by rw [cB7 iC I];rfl),(by rw [aQ,aQ,cf,cf,lX,Wn]),(PB lX qu Wy),aB,aE,aR,bb,cp,cv,kZ,jf,sA,(AU G (by simp only [eB,gT,gG];rfl))⟩
    refine ab ?_;exact ⟨_,B,nz,dE++[(.slice (some ⟨AP,0,none⟩) 1 1)],dU++[⟨[mF (ii hdr i)],((fc:Nat):Int),((fc+(T.mk 8 [] [] bZ tl).print.length-tl.length:Nat):Int)⟩],vI 107 (.slice (some ⟨AP,0,none⟩) 1 1) ⟨[mF (ii hdr i)],((fc:Nat):Int),((fc+(T.mk 8 [] [] bZ tl).print.length-tl.length:Nat):Int)⟩::rs,(by rw [cB9 iC I];rfl),(by rw [aQ,aQ,lX];rfl),(PB (pn4:=[]) (e4:=[]) (r4:=[]) lX qu (λq h=>by cases h)),aB,aE,aR,bb,cp,cv,kZ,jf,sA,(AU G (by rw [eB,eB];rfl))⟩
   have qD:hdr=true/\i=0:=by
    cases hdr with
    | true=>rw [U rfl] at NM;exact ⟨B,I⟩
    | false=>rw [O (by decide)] at NM;omega
   refine ab ?_;exact ⟨_,B,jC,dE,dU,rs,(by rw [cB8 qD,cH]),lX,qu,aB,aE,aR,bb,cp,cv,kZ,jf,sA,G⟩
  intro f w ai;obtain ⟨nz,ui,px,rQ,U8,Wm,Wx,aB,aE,aR,bb,cp,cv,kZ,jf,sA,G⟩:=ai;refine an ?_;refine S B B (av (v:=(J (fc+(T.mk 8 [] [] bZ tl).print.length))) B B) ?_;refine aq ?_;exact ⟨_,_,I,B,i+1,fc+(T.mk 8 [] [] bZ tl).print.length,nz,ui,px,rQ,B,I,(by rw [sx,yO]),(by rw [U8,qP hr,aU6,<- ds,dS,yn I,gV,gV,<- yO]),Wm,Wx,aJ,aJ,aB,aE,aR,kZ,jf,G.drop 1⟩
 refine ab ?_;have rD:ks.take i=ks:=lQ I;rw [rD] at ds;subst ds;refine mH (.inr B) Tryz.results31 ?_;exact ⟨B,jC,dE,rs,G.drop 1,lX,qu⟩
end Go.Proofs.YthiafbkolhnadaaGreatDoor
end
section
namespace Go.Proofs.YthiafbkolhnadaaGreatDoor
open Go Go.Dk Go.RowKit Go.Lib
variable {s x:List UInt8}{d:Dl}{a c q D N many:Nat}{h:Bool}
theorem Qd:∀ (n:Nat) (l:List UInt8),l.length<=n->validD l=true->∀ i,i<=l.length->(i=l.length\/(l.getD i 0).toNat<128)->validD (l.take i)=true/\validD (l.drop i)=true
 | 0,l,hl,hv,i,hi,_=>by
  obtain rfl:=p8 (show l.length=0 by omega);simp only [List.take_nil,List.drop_nil];exact ⟨hv,hv⟩
 | n+1,l,hl,hv,i,hi,hc=>by
  by_cases ap:i=0
  ·subst ap;exact ⟨B,hv⟩
  . have bt:l≠[]:=λe=>by rw [e] at hi;simp at hi;exact ap hi
    obtain ⟨k,eI,lE,hk,cJ,hz⟩:=Ze l hv bt;by_cases w5:i<k
    . exfalso
      have fy:=hk.resolve_left I;have h1:(l.getD i 0).toNat<128:=hc.resolve_left I;have h2:=fy (l.getD i 0) (by
       rw [hZ,bS I];exact List.mem_iff_getElem.2 ⟨i,by rw [dS];omega,by rw [List.getElem_take];rfl⟩)
      omega
    . have ih:=Qd n (l.drop k) jx cJ (i-k) jx (by
        rw [bC,du,show k+(i-k)=i by omega];exact hc.imp (λh=>I) id)
      rw [fE,show k+(i-k)=i by omega] at ih;have e:l.take i=l.take k++(l.drop k).take (i-k):=by
       conv=>lhs;rw [show i=k+(i-k) by omega,List.take_add]
      rw [e,hz];exact ih
theorem TN{i:Nat}(hi:i<s.length):s.drop i=s.getD i 0::s.drop (i+1):=by
 exact QF
theorem KF{i:Nat}(hi:i<s.length)(hc:(s.getD i 0).toNat<128)(hv:validD (s.drop i)=true):validD (s.drop (i+1))=true:=by
 rw [TN hi,validD_cons _ _ hc] at hv;exact hv
theorem PE (q:Nat):∀ (l:List UInt8) (n:Nat),gl q l=some n->(l.getD (n-1) 0).toNat=q
 | [],n,h=>by cases h
 | [c],n,h=>by
  rw [gl] at h;split at h
  ·cases h;assumption
  ·cases h
 | c::a7::t,n,h=>by
  rw [gl] at h;split at h
  . split at h
    . obtain ⟨m,h1,h2⟩:=nJ.1 h
      have hm:=vJ q t m h1;have e:n-1=(m-1)+1+1:=I;rw [e];exact PE q t m h1
    ·cases h;assumption
  . obtain ⟨m,h1,h2⟩:=nJ.1 h
    have hm:=vJ q (a7::t) m h1;have e:n-1=(m-1)+1:=I;rw [e];exact PE q (a7::t) m h1
theorem okD.lt(h:okD d):d.sep.toNat<128/\d.quo.toNat<128:=by
 obtain ⟨h1,h2,Y,_⟩:=h;omega
theorem bGl(hd:okD d)(a6:a<=s.length)(hv:validD (s.drop a)=true)(h:cL s d a=(0,c)):validD (sub s a (c-a))=true/\validD (s.drop c)=true:=by
 have b8:=hd.lt;have j2:=HF a6 h;unfold cL at h;split at h
 . rename_i aw
   cases hn:gl d.quo.toNat (s.drop (a+1)) with
   | none=>rw [hn] at h;cases h
   | some n =>
    rw [hn] at h;have hc:a+1+n=c:=(Prod.mk.inj h).2;have h1:=vJ _ _ _ hn;rw [bC] at h1;have h2:=PE _ _ _ hn;rw [du,show a+1+(n-1)=a+n by omega] at h2;have Y:=Qd _ (s.drop a) (bV _) hv n jx (.inr (by rw [du];omega));rw [fE] at Y;have ar:=KF I I Y.2;refine ⟨?_,by rw [<- hc,show a+1+n=a+n+1 by omega];exact ar⟩;have e:sub s a (c-a)=(s.drop a).take n++[s.getD (a+n) 0]:=by
     rw [sub,show c-a=n+1 by omega,List.take_add_one,tc,hZ,bS I]
     rfl
    rw [e,Zd _ _ Y.1,validD_cons _ _ I]
    rfl
 . split at h
   ·cases h
   . rename_i lH
     have hc:a+pre (k8 d) (s.drop a)=c:=(Prod.mk.inj h).2;rw [hc] at lH;have h1:=PA (k8 d) (s.drop a);rw [du,hc,bC] at h1;have Y:=Qd _ (s.drop a) (bV _) hv (c-a) jx (by
      rw [bC,du,show a+(c-a)=c by omega];rcases h1 with h1 | h1
      ·exact .inl I
      . by_cases j1:c<s.length
        . refine .inr ?_
          unfold k8 at h1;omega
        ·exact .inl I)
     rw [fE,show a+(c-a)=c by omega] at Y;exact Y
theorem aKv{c:UInt8}{t:List UInt8}(h:c.toNat≠q):iO q (c::t)=c::iO q t:=by
 cases t with
 | nil=>rfl
 | cons a t=>rw [iO,O h]
theorem aKw:∀ (k:Nat) (l:List UInt8),k<=l.length->(∀ b∈l.take k,b.toNat≠q)->iO q l=l.take k++iO q (l.drop k)/\(mA q l->mA q (l.drop k))
 | 0,l,_,_=>⟨rfl,id⟩
 | k+1,[],h,_=>absurd h (Nat.not_succ_le_zero _)
 | k+1,c::t,h,hb=>by
  have hc:=hb c (by simp);have ih:=aKw k t ku (λb hm=>hb b (by simp [hm]));rw [aKv hc,ih.1];refine ⟨B,λau=>ih.2 ?_⟩
  cases t with
  | nil=>trivial
  | cons a t=>rw [mA,O hc] at au;exact au
theorem TM(aw:q<128):∀ (n:Nat) (l:List UInt8),l.length<=n->validD l=true->mA q l->validD (iO q l)=true
 | 0,l,hl,hv,_=>by
  obtain rfl:=p8 (show l.length=0 by omega);exact hv
 | n+1,l,hl,hv,au=>by
  cases l with
  | nil=>exact hv
  | cons c t =>
   by_cases hc:c.toNat=q
   . cases t with
     | nil=>exact hv
     | cons a7 t =>
      rw [mA,U hc] at au;rw [iO,U hc,validD_cons _ _ I];rw [validD_cons _ _ I,validD_cons _ _ I] at hv;exact TM aw n t (by simp only [cf] at hl;omega) hv au.2
   . obtain ⟨k,eI,lE,hk,cJ,hz⟩:=Ze (c::t) hv (by simp)
     have hb:∀ b∈(c::t).take k,b.toNat≠q:=by
      intro b hm;rcases hk with rfl | hk
      . simp only [jG,iw,hL] at hm
        subst hm;exact hc
      ·have:=hk b hm;omega
     have h2:=aKw k (c::t) lE hb;rw [h2.1,hz];exact TM aw n _ jx cJ (h2.2 au)
theorem bGk(a6:a<=s.length)(h:cL s d a=(0,c))(hx:sub s a (c-a)≠[]/\((sub s a (c-a)).getD 0 0).toNat=d.quo.toNat):((sub s a (c-a)).getD ((sub s a (c-a)).length-1) 0).toNat=d.quo.toNat:=by
 have j2:=HF a6 h;have hl:(sub s a (c-a)).length=c-a:=qN I;have xf:0<(sub s a (c-a)).length:=gF.2 hx.1;have ap:=hx.2;rw [P3 I,gb] at ap;rw [hl,P3 I];unfold cL at h;rw [U ⟨I,ap⟩] at h
 cases hn:gl d.quo.toNat (s.drop (a+1)) with
 | none=>rw [hn] at h;cases h
 | some n =>
  rw [hn] at h;have hc:a+1+n=c:=(Prod.mk.inj h).2;have h1:=vJ _ _ _ hn;have h2:=PE _ _ _ hn;rw [du] at h2;rw [show a+(c-a-1)=a+1+(n-1) by omega];exact h2
theorem bHd(hd:okD d)(hc:cok d x)(hl:x≠[]/\(x.getD 0 0).toNat=d.quo.toNat->(x.getD (x.length-1) 0).toNat=d.quo.toNat)(hv:validD x=true):validD (c2 d x)=true:=by
 have b8:=hd.lt;unfold c2;split
 . rename_i hx
   obtain ⟨h2,au⟩:=hc hx;have Y:=hl hx;refine TM b8.2 _ _ (bV _) ?_ au
   cases x with
   | nil=>exact absurd rfl hx.1
   | cons c t =>
    have cMd:c.toNat=d.quo.toNat:=hx.2;simp only [cf] at h2 Y;rw [validD_cons _ _ I] at hv;have ar:=Qd _ t (bV _) hv (t.length-1) I (.inr (by
     rw [show t.length+1-1=(t.length-1)+1 by omega,List.getD_cons_succ] at Y;omega))
    unfold pP;rw [r7,mS,cf,show t.length+1-2=t.length-1 by omega];exact ar.1
 ·exact hv
def nmE (d:Dl)(ks:List T):List (List UInt8):=ks.map λe=>c2 d (xP e)
structure RcI (s:List UInt8) (d:Dl) (h:Bool) (a0:Nat) (x:Rst):Prop where
 le:a0<=x.a
 len:x.a<=s.length
 txt:prints x.kids=sub s a0 (x.a-a0)
 ent:∀ e∈x.kids,Eok d e
 nms:x.names=nmE d x.kids
 nd:h=true->x.names.Nodup/\∀ n∈x.names,n.length<=1024
 sz:∀ n∈x.names,n.length<=65536
 vn:∀ n∈x.names,validD n=true
 val:validD (s.drop x.a)=true
 cnt:counts x.kids<=3*(x.a-a0)
 num:x.kids.length<=x.a-a0
structure RcF (s:List UInt8) (d:Dl) (h:Bool) (many a0:Nat) (t:T) (a:Nat) (nms:List (List UInt8)):Prop where
 ok:Rok d t
 le:a0<=a
 len:a<=s.length
 gt:a0<s.length->a0<a
 txt:t.print=sub s a0 (a-a0)
 names:nms=nmE d t.kids
 nd:h=true->nms.Nodup/\∀ n∈nms,n.length<=1024
 vn:∀ n∈nms,validD n=true
 val:validD (s.drop a)=true
 cnt:t.count<=4+3*(a-a0)
 mny:many=0\/t.kids.length=many
theorem bJh(h:cok d x):Eok d (wN x):=⟨x,[],rfl,h,.inl rfl⟩
theorem bJi(h:cok d x):Eok d (uU x d.sep):=⟨x,_,rfl,h,.inr rfl⟩
theorem aLl{nm:List (List UInt8)}{nd:Nat}(he:eo s d D N h nm a nd=.inr c):(h=true->(c2 d (sub s a (c-a))).length<=1024)/\(c2 d (sub s a (c-a))).length<=65536:=by
 unfold eo at he;split at he
 ·cases he
 split at he
 ·cases he
 split at he
 ·cases he
 split at he
 ·cases he
 rename_i ar;split at he
 ·cases he
 cases he;constructor
 . intro a1
   exact nA λbd=>ar (.inl ⟨a1,I⟩)
 ·exact nA λbd=>ar (.inr I)
theorem bXn(hc:c<=s.length)(hv:validD (s.drop c)=true)(h:(ci s c).1=0):c+(ci s c).2.2<=s.length/\validD (s.drop (c+(ci s c).2.2))=true/\(c<s.length->1<=(ci s c).2.2)/\(ci s c).2.2<=2:=by
 unfold ci at h ⊢;split
 ·refine ⟨hc,by simpa using hv,λh=>I,by show 0<=2;omega⟩
 rename_i h1;rw [O h1] at h;split
 . rename_i h2
   exact ⟨by show c+1<=_;omega,KF I I hv,λ_=>bV _,by show 1<=2;omega⟩
 rename_i h2;rw [O h2] at h;split
 . rename_i Y
   rw [U Y] at h;split
   . rename_i ar
     rw [U ar] at h;cases h
   rename_i ar;rw [O ar] at h;split
   . rename_i bd
     exact ⟨by show c+2<=_;omega,KF I I (KF I I hv),λ_=>by show 1<=2;omega,bV _⟩
   . rename_i bd
     rw [O bd] at h;cases h
 . rename_i Y
   rw [O Y] at h;cases h
theorem XX (d:Dl)(ks:List T)(e:T):nmE d (ks++[e])=nmE d ks++[c2 d (xP e)]:=by unfold nmE;rw [kc];rfl
theorem cA4 (x:List UInt8):(wN x).print=x:=by unfold wN;rw [dX,hU,dX,gx];simp
theorem cA5 (x:List UInt8)(c:UInt8):(uU x c).print=x++[c]:=by unfold uU;rw [dX,hU,hU,dX,dX,gx];simp
theorem bG7 (x:List UInt8):(wN x).count=2:=by unfold wN;rw [dT,jH,dT,kE]
theorem bG8 (x:List UInt8)(c:UInt8):(uU x c).count=3:=by unfold uU;rw [dT,jH,jH,dT,dT,kE]
theorem RcI.step{a0:Nat}(hd:okD d){x:Rst}(hi:RcI s d h a0 x){y:Sum Rst uJ}(hs:pS s d D N h many x=y) :
  match y with | .inl jV=>RcI s d h a0 jV | .inr (.inl _)=>True | .inr (.inr (t,a,_,nms))=>RcF s d h many a0 t a nms:=by
 by_cases h1:0<many/\many<=x.kids.length
 ·rw [PJ h1.1 h1.2] at hs;subst hs;trivial
 cases he:eo s d D N h x.names x.a x.nodes with
 | inl e=>rw [PI h1 he] at hs;subst hs;trivial
 | inr c =>
  have hc:=H2 he;have j2:=HF hi.len hc.1;have jL:=aJ6 hc.1;have IG:=bGl hd hi.len hi.val hc.1;have eO:=bHd hd jL (bGk hi.len hc.1) IG.1;have ec:=aLl he;have sv:h=true->c2 d (sub s x.a (c-x.a))∉x.names:=λa1=>by subst a1;exact T3 he
  have b8:=hd.lt;have k0:(sub s x.a (c-x.a)).length=c-x.a:=qN I;rw [zF h1 he] at hs;have jO:h=true->(x.names++[c2 d (sub s x.a (c-x.a))]).Nodup/\∀ n∈x.names++[c2 d (sub s x.a (c-x.a))],n.length<=1024:=λa1=>by
   refine ⟨Pj (hi.nd a1).1 (sv a1),λn hn=>?_⟩;rcases iv.1 hn with hn | hn
   ·exact (hi.nd a1).2 n hn
   ·rw [hL.1 hn];exact ec.1 a1
  have pM:∀ n∈x.names++[c2 d (sub s x.a (c-x.a))],validD n=true:=λn hn=>by
   rcases iv.1 hn with hn | hn
   ·exact hi.vn n hn
   ·rw [hL.1 hn];exact eO
  split at hs
  . rename_i rJ
    subst hs;refine ⟨by have:=hi.le;simp only;omega,by simp only;omega,?_,λe ic=>?_,?_,jO,λn hn=>?_,pM,KF rJ.1 I IG.2,?_,?_⟩
    . have:=hi.le
      simp only;rw [sO,hi.txt,hU,gx,cA5,cH,<- eB];have bm:sub s a0 (x.a-a0)++sub s x.a (c-x.a)=sub s a0 (c-a0):=qM hi.le j2.1;have aZ:sub s c (c+1-c)=[d.sep]:=by
       rw [show c+1-c=1 by omega,sub,TN rJ.1];simp only [jG,iw];rw [q5.1 rJ.2]
      rw [bm,<- aZ];exact qM I I
    . rcases iv.1 ic with h2 | h2
      ·exact hi.ent e h2
      ·rw [hL.1 h2];exact bJi jL
    . simp only
      rw [XX,hi.nms];rfl
    . rcases iv.1 hn with hn | hn
      ·exact hi.sz n hn
      ·rw [hL.1 hn];exact ec.2
    . have:=hi.cnt;have:=hi.le
      simp only;rw [tx,jH,kE,bG8];omega
    . have:=hi.num;have:=hi.le
      simp only;rw [aQ,ll];omega
  . split at hs
    ·subst hs;trivial
    . rename_i lG
      have aO9:(ci s c).1=0:=nA lG;have j3:=bXn j2.2 IG.2 aO9;split at hs
      ·subst hs;trivial
      . rename_i cMp
        subst hs;have rz:=hi.le;have mq:=hi.cnt;have cN6:=hi.num;refine ⟨⟨_,_,B,by simp,λe ic=>?_⟩,I,j3.1,λa1=>?_,?_,?_,jO,pM,j3.2.1,?_,?_⟩
        . rcases iv.1 ic with h2 | h2
          ·exact hi.ent e h2
          ·rw [hL.1 h2];exact bJh jL
        . by_cases j1:c<s.length
          ·have:=j3.2.2.1 j1;omega
          ·omega
        . rw [dX,sO,hi.txt,hU,gx,cA4]
          simp only [cH,gG];have bm:sub s a0 (x.a-a0)++sub s x.a (c-x.a)=sub s a0 (c-a0):=qM hi.le j2.1;rw [bm];have aZ:=qM (s:=s) (a:=a0) (b:=c) (c:=c+(ci s c).2.2) I I;rw [show c+(ci s c).2.2-c=(ci s c).2.2 by omega] at aZ;exact aZ
        . show _=nmE d (x.kids++[_])
          rw [XX,hi.nms];rfl
        ·rw [dT,tx,jH,kE,bG7];omega
        . show many=0\/(x.kids++[_]).length=many
          rw [aQ,ll];omega
theorem RcL.fact{a0:Nat}(hd:okD d){x:Rst}{r:uJ}(hr:RcL s d D N h many x r):RcI s d h a0 x->∀ t a n nms,r=.inr (t,a,n,nms)->RcF s d h many a0 t a nms:=by
 unfold RcL at hr
 induction hr with
 | done h1=>intro hi t a n nms he;subst he;exact RcI.step hd hi h1
 | more h1 _ ih=>intro hi;exact ih (RcI.step hd hi h1)
theorem RcR.fact{nd:Nat}(hd:okD d)(a6:a<=s.length)(hv:validD (s.drop a)=true){t:T}{a2 n:Nat}{nms:List (List UInt8)}(hr:RcR s d D N h many a nd (.inr (t,a2,n,nms))):RcF s d h many a t a2 nms:=by
 unfold RcR at hr;split at hr
 ·cases hr
 split at hr
 ·cases hr
 ·exact RcL.fact hd hr ⟨bV _,a6,by rw [gx,Nat.sub_self,vP],(λe he=>by cases he),B,(λ_=>⟨List.nodup_nil,λn hn=>(by cases hn)⟩),(λn hn=>by cases hn),(λn hn=>by cases hn),hv,by rw [kE];omega,by simp⟩ _ _ _ _ B
end Go.Proofs.YthiafbkolhnadaaGreatDoor
end
section
namespace Go.Dk
open Go Go.RowKit Go.Lib Go.Proofs.YthiafbkolhnadaaGreatDoor
variable {t u:T}{off:Nat}
def nav:T->List Nat->Option (T×Nat)
 | t,[]=>some (t,0)
 | t,i::is=>match t.kids[i]? with
  | none=>none
  | some c=>(nav c is).map λr=>(r.1,t.lead.length+t.text.length+(prints (t.kids.take i)).length+r.2)
theorem xA {c:T}{i:Nat}{is:List Nat}(h:t.kids[i]?=some c)(hn:nav c is=some (u,off)):nav t (i::is)=some (u,t.lead.length+t.text.length+(prints (t.kids.take i)).length+off):=by
 rw [nav,h];simp only [hn,ti]
theorem XR{i:Nat}{is:List Nat}(h:nav t (i::is)=some (u,off)):∃ c r,t.kids[i]?=some c/\nav c is=some (u,r)/\off=t.lead.length+t.text.length+(prints (t.kids.take i)).length+r:=by
 rw [nav] at h
 cases hc:t.kids[i]? with
 | none=>rw [hc] at h;cases h
 | some c =>
  rw [hc] at h;simp only [nJ] at h;obtain ⟨r,h1,h2⟩:=h;cases h2;exact ⟨c,r.2,B,h1,B⟩
inductive Lc:T->List Stp->List Nat->T->Nat->Prop
 | nil (t:T):Lc t [] [] t 0
 | list {lead tail:List UInt8} {l:List (T×List UInt8×T)} {i:Nat} {y:T×List UInt8×T} {p:List Stp} {idx:List Nat} {u:T} {off:Nat} (he:∀ y∈l,EntOk false y.1 y.2.1 y.2.2)
   (hy:l[i]?=some y) (h:Lc y.2.2 p idx u off):Lc (.mk 3 lead [91] (l.map (·.1)) tail) (⟨true,⟨#[]⟩,(i:Int)⟩::p) (i::0::idx) u (lead.length+1+(prints ((l.map (·.1)).take i)).length+off)
 | map {lead tail:List UInt8} {l:List (T×List UInt8×T)} {i:Nat} {y:T×List UInt8×T} {p:List Stp} {idx:List Nat} {u:T} {off:Nat} (he:∀ y∈l,EntOk true y.1 y.2.1 y.2.2) (hd:(l.map (·.2.1)).Nodup) (hs:∀ y∈l,y.2.1.length<=1024/\validD y.2.1=true)
   (hy:l[i]?=some y) (h:Lc y.2.2 p idx u off):Lc (.mk 4 lead [123] (l.map (·.1)) tail) (⟨false,bs y.2.1,0⟩::p) (i::2::idx) u (lead.length+1+(prints ((l.map (·.1)).take i)).length+(prints (y.1.kids.take 2)).length+off)
theorem A4 {e v:T}{key:List UInt8}(h:EntOk false e key v):e.lead=[]/\e.text=[]/\e.kids[0]?=some v/\∃ more,e.kids=v::more/\∀ k∈more,vkT k=false:=by
 obtain ⟨qh,more,rfl,hm,rfl,rfl⟩:=h;refine ⟨B,B,B,more,B,λk hk=>?_⟩;rcases hm with rfl | ⟨l,rfl⟩
 ·cases hk
 ·rw [hL] at hk;subst hk;rfl
theorem A5 {e v:T}{key:List UInt8}(h:EntOk true e key v):e.lead=[]/\e.text=[]/\e.kids[2]?=some v/\∃ a b more,e.kids=a::b::v::more/\vkT a=false/\vkT b=false/\∀ k∈more,vkT k=false:=by
 obtain ⟨qh,more,rfl,hm,gj,x,fh,rfl,_⟩:=h;refine ⟨B,B,B,_,_,more,B,B,B,λk hk=>?_⟩;rcases hm with rfl | ⟨l,rfl⟩
 ·cases hk
 ·rw [hL] at hk;subst hk;rfl
theorem Lc.nav{p:List Stp}{idx:List Nat}(h:Lc t p idx u off):Go.Dk.nav t idx=some (u,off):=by
 induction h with
 | nil t=>rfl
 | @list lead tail l i y p idx u off he hy h ih =>
  obtain ⟨h1,h2,Y,_⟩:=A4 (he y (cb hy));have ar:=xA Y ih;have bd:=xA (t:=.mk 3 lead [91] (l.map (·.1)) tail) (i:=i) (c:=y.1) (by show (l.map (·.1))[i]?=_;rw [eF,hy];rfl) ar;rw [bd,h1,h2,iw,gx];show some (u,lead.length+1+(prints ((l.map (·.1)).take i)).length+(0+0+0+off))=_;simp only [gV,gb]
 | @map lead tail l i y p idx u off he hd hs hy h ih =>
  obtain ⟨h1,h2,Y,_⟩:=A5 (he y (cb hy));have ar:=xA Y ih;have bd:=xA (t:=.mk 4 lead [123] (l.map (·.1)) tail) (i:=i) (c:=y.1) (by show (l.map (·.1))[i]?=_;rw [eF,hy];rfl) ar;rw [bd,h1,h2];show some (u,lead.length+1+(prints ((l.map (·.1)).take i)).length+(0+0+(prints (y.1.kids.take 2)).length+off))=_;simp only [gV,mU]
def dV:Nat->V->Prop
 | 0,v=>v.list=[]/\v.fields=[]
 | d+1,v=>(∀ x∈v.list,dV d x)/\∀ f∈v.fields,dV d f.2
def uV:Nat->V->List Stp->List (List Stp)
 | 0,_,p=>[p]
 | d+1,v,p=>p::((v.list.zipIdx.flatMap λx=>uV d x.1 (p++[⟨true,⟨#[]⟩,(x.2:Int)⟩]))++v.fields.flatMap λf=>uV d f.2 (p++[⟨false,f.1,0⟩]))
inductive Sd:T->V->Prop
 | sc {lead text:List UInt8} {v:V} (hl:v.list=[]) (hf:v.fields=[]) (h6:v.sc.kind≠6) (h7:v.sc.kind≠7):Sd (.mk 2 lead text [] []) v
 | list {lead tail:List UInt8} (l:List (T×List UInt8×T)) (he:∀ y∈l,EntOk false y.1 y.2.1 y.2.2) {v:V} (hk:v.sc.kind=6) (hf:v.fields=[]) (hn:v.list.length=l.length) (hv:∀ (i:Nat) (y:T×List UInt8×T) (x:V),l[i]?=some y->v.list[i]?=some x->Sd y.2.2 x):Sd (.mk 3 lead [91] (l.map (·.1)) tail) v
 | map {lead tail:List UInt8} (l:List (T×List UInt8×T)) (he:∀ y∈l,EntOk true y.1 y.2.1 y.2.2) {v:V} (hk:v.sc.kind=7) (hl:v.list=[]) (hn:v.fields.map (·.1)=l.map λy=>bs y.2.1) (hd:(l.map (·.2.1)).Nodup) (hs:∀ y∈l,y.2.1.length<=1024/\validD y.2.1=true) (hv:∀ (i:Nat) (y:T×List UInt8×T) (x:ByteArray×V),l[i]?=some y->v.fields[i]?=some x->Sd y.2.2 x.2):Sd (.mk 4 lead [123] (l.map (·.1)) tail) v
theorem Sd.lc{v:V}(h:Sd t v):∀ (D a:Nat) (q:List Stp) (e:Ent),e∈pT D t v a q->∃ p idx u off,Lc t p idx u off/\e=⟨q++p,((a+off+u.lead.length:Nat):Int),((a+off+u.print.length:Nat):Int)⟩:=by
 induction h with
 | sc hl hf h6 h7 =>
  intro D a q e h
  cases D with
  | zero=>cases h
  | succ D=>exact absurd h (by simp [pT,ha,T.kids])
 | @list lead tail l he v hk hf hn hv ih =>
  intro D a q e h
  cases D with
  | zero=>cases h
  | succ D =>
   have key:∀ (m:List (T×List UInt8×T)) (i b:Nat),(∀ j y,m[j]?=some y->l[i+j]?=some y)->b=a+lead.length+1+(prints ((l.map (·.1)).take i)).length->e∈ha (pT D) v q i (m.map (·.1)) b->∃ p idx u off,Lc (.mk 3 lead [91] (l.map (·.1)) tail) p idx u off/\e=⟨q++p,((a+off+u.lead.length:Nat):Int),((a+off+u.print.length:Nat):Int)⟩:=by
    intro m
    induction m with
    | nil=>intro i b _ _ h;cases h
    | cons y m Ca =>
     intro i b hm hb h;have hy:l[i]?=some y:=hm 0 y B;have hS:=(bT.1 hy).1;obtain ⟨x,hx⟩:∃ x,v.list[i]?=some x:=⟨_,bS I⟩;have NF:=he y (cb hy);obtain ⟨oW,bUe,kk,more,kI,y5⟩:=A4 NF;rw [jk,ha] at h;have dN:kidV v i=x:=by unfold kidV;rw [O I,hx];rfl
     have ck:iI v i=⟨true,⟨#[]⟩,(i:Int)⟩:=by unfold iI;rw [O I]
     rw [dN,ck] at h;rcases iv.1 h with h | h
     . rw [kI,hM] at h
       have VJ:∀ b,hM (pT D) x (q++[⟨true,⟨#[]⟩,(i:Int)⟩]) more b=[]:=by
        exact aAr
       rw [VJ,cH] at h;by_cases vu:vkT y.2.2=true
       . rw [U vu] at h
         rcases eX.1 h with rfl | h
         . refine ⟨_,_,_,_,.list he hy (.nil _),?_⟩
           have bm:b+y.2.2.lead.length=a+(lead.length+1+(prints ((l.map (·.1)).take i)).length+0)+y.2.2.lead.length:=I;have aZ:b+y.2.2.print.length=a+(lead.length+1+(prints ((l.map (·.1)).take i)).length+0)+y.2.2.print.length:=I;rw [bm,aZ]
         . obtain ⟨p,idx,u,off,h1,rfl⟩:=ih i y x hy hx D b _ e h
           refine ⟨_,_,_,_,.list he hy h1,?_⟩;have bm:b+off+u.lead.length=a+(lead.length+1+(prints ((l.map (·.1)).take i)).length+off)+u.lead.length:=I;have aZ:b+off+u.print.length=a+(lead.length+1+(prints ((l.map (·.1)).take i)).length+off)+u.print.length:=I;rw [bm,aZ,eB];rfl
       ·rw [O vu] at h;cases h
     . refine Ca (i+1) _ (λj z hz=>?_) ?_ h
       ·rw [show i+1+j=i+(j+1) by omega];exact hm (j+1) z (by simpa using hz)
       . have j0:(l.map (·.1))[i]?=some y.1:=by rw [eF,hy];rfl
         exact aAc
   refine key l 0 _ (λj y h=>by rwa [gV]) ?_ h;rw [iw,gx];rfl
 | @map lead tail l he v hk hl hn hd hs hv ih =>
  intro D a q e h
  cases D with
  | zero=>cases h
  | succ D =>
   have key:∀ (m:List (T×List UInt8×T)) (i b:Nat),(∀ j y,m[j]?=some y->l[i+j]?=some y)->b=a+lead.length+1+(prints ((l.map (·.1)).take i)).length->e∈ha (pT D) v q i (m.map (·.1)) b->∃ p idx u off,Lc (.mk 4 lead [123] (l.map (·.1)) tail) p idx u off/\e=⟨q++p,((a+off+u.lead.length:Nat):Int),((a+off+u.print.length:Nat):Int)⟩:=by
    intro m
    induction m with
    | nil=>intro i b _ _ h;cases h
    | cons y m Ca =>
     intro i b hm hb h;have hy:l[i]?=some y:=hm 0 y B;have hS:=(bT.1 hy).1;have oU:v.fields.length=l.length:=by have:=aD eC hn;simpa using this
     obtain ⟨x,hx⟩:∃ x,v.fields[i]?=some x:=⟨_,bS I⟩;have qA:x.1=bs y.2.1:=by
      exact aBg
     have hx2:v.fields[i]?=some (bs y.2.1,x.2):=by rw [hx,<- qA]
     have NF:=he y (cb hy);obtain ⟨oW,bUe,kk,dL,lK,more,kI,WN,aQw,y5⟩:=A5 NF;rw [jk,ha] at h;have dN:kidV v i=x.2:=by unfold kidV;rw [U hk,hx];rfl
     have ck:iI v i=⟨false,bs y.2.1,0⟩:=by unfold iI;rw [U hk,hx];simp [qA]
     rw [dN,ck] at h;rcases iv.1 h with h | h
     . have j5:(prints (y.1.kids.take 2)).length=dL.print.length+lK.print.length:=by
         rw [kI];exact aBw
       rw [kI,hM,O (by rw [WN];decide),hM,O (by rw [aQw];decide),hM,gG,gG] at h;have VJ:∀ b,hM (pT D) x.2 (q++[⟨false,bs y.2.1,0⟩]) more b=[]:=by
        exact aAr
       rw [VJ,cH] at h;by_cases vu:vkT y.2.2=true
       . rw [U vu] at h
         rcases eX.1 h with rfl | h
         . refine ⟨_,_,_,_,.map he hd hs hy (.nil _),?_⟩
           have bm:b+dL.print.length+lK.print.length+y.2.2.lead.length=a+(lead.length+1+(prints ((l.map (·.1)).take i)).length+(prints (y.1.kids.take 2)).length+0)+y.2.2.lead.length:=I;have aZ:b+dL.print.length+lK.print.length+y.2.2.print.length=a+(lead.length+1+(prints ((l.map (·.1)).take i)).length+(prints (y.1.kids.take 2)).length+0)+y.2.2.print.length:=I;rw [bm,aZ]
         . obtain ⟨p,idx,u,off,h1,rfl⟩:=ih i y x hy hx D _ _ e h
           refine ⟨_,_,_,_,.map he hd hs hy h1,?_⟩;have bm:b+dL.print.length+lK.print.length+off+u.lead.length=a+(lead.length+1+(prints ((l.map (·.1)).take i)).length+(prints (y.1.kids.take 2)).length+off)+u.lead.length:=I;have aZ:b+dL.print.length+lK.print.length+off+u.print.length=a+(lead.length+1+(prints ((l.map (·.1)).take i)).length+(prints (y.1.kids.take 2)).length+off)+u.print.length:=I;rw [bm,aZ,eB];rfl
       ·rw [O vu] at h;cases h
     . refine Ca (i+1) _ (λj z hz=>?_) ?_ h
       ·rw [show i+1+j=i+(j+1) by omega];exact hm (j+1) z (by simpa using hz)
       . have j0:(l.map (·.1))[i]?=some y.1:=by rw [eF,hy];rfl
         exact aAc
   refine key l 0 _ (λj y h=>by rwa [gV]) ?_ h;rw [iw,gx];rfl
end Go.Dk
end
