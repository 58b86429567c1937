/-
  Several texts in one: L13, L14, Lx, Gd, L15, L16, Ly, L17, L18, L19, L20, Xl, L21, L22, Zi, Zj, L23, Zk, L24, L25, L26
-/
import Derived.Test.YthiafbkolhnadaaGreatDoorVF
open Go.Proofs.Tryz renaming prog->W,underlying9->aF,underlying72->de,underlying3->dq,underlying70->dx,underlying5->en,underlying83->fb,underlying79->fk,underlying28->lp,underlying33->mc,underlying148->mV,underlying32->oA,underlying80->oB,underlying159->po,underlying4->pr,underlying81->qd,underlying25->q3,underlying35->q4,underlying23->r9,underlying78->sa,func139->uL,underlying163->SN
open List renaming length_append->aQ,length_drop->bC,mem_cons_of_mem->bP,getElem?_eq_getElem->bS,getElem?_eq_some_iff->bT,mem_cons_self->b9,mem_of_getElem?->cb,length_cons->cf,append_nil->cH,length_nil->dC,length_take->dS,append_assoc->eB,length->eC,getElem?_map->eF,mem_cons->eX,length_map->fT,flatMap_cons->gE,length_pos_iff->gF,nil_append->gG,cons_append->gT,mem_singleton->hL,getD_eq_getElem?_getD->hZ,mem_append_right->h0,mem_append->iv,take_zero->iw,mem_append_left->iM,map_cons->jk,take_succ_cons->jG,getElem?_of_mem->jX,map_append->kc,length_singleton->ll,mem_map->lm,take_of_length_le->lQ,getElem?_append_left->l9,drop_zero->mS,take_length->nG,drop_eq_getElem_cons->ph,flatten_cons->pi,getElem?_append_right->pj,all_eq_true->p7,eq_nil_of_length_eq_zero->p8,take_succ_eq_append_getElem->p9,drop_eq_nil_of_le->q0,getElem?_drop->tc,getElem?_take->te,perm_middle->tf,drop_of_length_le->AD
open Nat renaming zero_le->bU,le_refl->bV,beq->gU,zero_add->gV,lt_or_ge->ma,add_assoc->mU,le_trans->nI,eq_zero_or_pos->tg,min_eq_left->yn,zero_lt_one->AF
open Int renaming toNat->dw,toNat_natCast->gD
open Bool renaming and_eq_true->fS,or_eq_true->hW,eq_iff_iff->jE,not_eq_true'->kP,noConfusion->qR,false_eq_true->r0,or_eq_false_iff->uB
open Option.some renaming injEq->kS,inj->mb
open Classical renaming byContradiction->nA,not_not->nB
open Option renaming map_eq_some_iff->nJ,map_some->ti
open UInt8 renaming toNat_inj->q5
set_option linter.unusedSimpArgs false
set_option linter.unusedVariables false
set_option maxHeartbeats 4000000
set_option maxRecDepth 100000
section
namespace Go.Proofs.YthiafbkolhnadaaGreatDoor
open Go Go.Dk Go.RowKit Go.Lib
attribute [local irreducible] Go.wpList Go.Code.wp Go.bodyPost Go.wpStill Go.wpQuiet
variable {t:T}
theorem bAd (bj:Nat)(bg:Nat)(b4:Nat)(fQ:Nat)(ir:Nat)(w:World):(Instr.build 23 ([(0,(J bj)),(1,(J bg)),(2,(J b4)),(3,(J fQ)),(4,(J ir))]:List (Nat×Value)).toArray).run W w=.ok (.agg #[J bj,J bg,J b4,J fQ,J ir]) w:=by
 go_simp
 try rfl
theorem bFl (w0:World):Fc W 60 [] w0 (λv _=>v=.agg #[.int .i64 48,.int .i64 65536,.int .i64 1048576,.int .i64 1024,.int .i64 65536]):=by
 refine aI Tryz.func60 B Tryz.ntmps60 B ?_;have G:=Ctx.start w0;refine ag ?_;refine kN G cH9 B B B ?_;intro b0 w G u4 vv;refine ae ?_;refine S B B (cd (qs:=[(0,(J 48)),(1,(J 65536)),(2,(J 1048576)),(3,(J 1024)),(4,(J 65536))]) (bAd _ _ _ _ _) B B) ?_;refine bn G 0 B B B B B B pV B B ?_;intro w G ko;refine ag ?_;refine j8 Tryz.results60 B (G.at 0 B) r9 B pV ?_;exact gC
theorem bB3 (t0:T)(cs:List Value)(w0:World)(hv:Nw w0 t0 cs)(jL:Ck 1 t0)(hc:t0.count<=524288)(hp:t0.print.length<=400000)(dc:Pd cx t0.print 48 65536 1048576 1024 65536 (.inr t0)):Fc W 145 [.agg cs.toArray] w0 (λv _=>v=.bool true):=by
 obtain ⟨bj,bg,b4,rfl⟩:=hv.form;refine aI Tryz.func145 B Tryz.ntmps145 B ?_;have G:=Ctx.start w0;refine ag ?_;refine bE ?_;intro b1 w G er fX;refine az ?_;refine aC5 ?_;intro w G iW;refine ag ?_;refine Z (λfm=>?_) (λfm=>?_)
 ·exfalso;omega
 refine an ?_;refine Q8 ?_;intro w G pN;refine La ?_;intro w G mx;refine bW (Tm t0.print 48 65536 1048576 1024 65536 _ I) Tryz.func33 B B B B B B ?_;rintro P7 w ⟨k,cI,bl,ev,cB,n2,n3,o,bk,rs,rfl,cq,cu⟩;replace G:=G.callRows cq;obtain ⟨iU,_,t,tail,xe,qq,ru,sx,c9⟩:=cu.resolve_left (λh=>absurd (h.2.det dc) (by simp));have IJ:T.mk 1 [] [] [t] tail=t0:=Sum.inr.inj (xe.det dc);rw [IJ] at c9;refine an ?_;refine dv ?_;intro b3 w G eE gr;refine s7 ?_;intro w G ig;refine pg ?_;refine az ?_;refine aFm ?_;refine aN B B B aO (λhc=>cG B ay de B bA (G.row 1 B) B) ?_;refine hg G B B B aO (λhc=>YC t0.count t0 (bV _) I _ _ _ ((c9.mono λr h=>iM _ h).vw G) (hv.up G.ext)) Tryz.func209 B B B (λhc=>(aX ay (aX ay B))) ?_;intro w G E7;refine an ?_;refine be Tryz.results145 B ?_;exact ⟨G.ext,aD Value.bool (by rw [iU];rfl)⟩
theorem aR2 {x key Cc:List UInt8}(pJ:KeyR x key)(nj:isBare x\/((x.getD 0 0).toNat=34/\∃ o,Quo x (0,o,x.length)))(h1:(x.getD 0 0).toNat≠34->Cc=x)(h2:∀ o,(x.getD 0 0).toNat=34->Quo x (0,o,x.length)->Cc=o):Cc=key:=by
 unfold KeyR at pJ;rcases nj with hb | ⟨eG,o,aw⟩
 ·rw [O (ra hb)] at pJ;rw [h1 (ra hb),pJ]
 . rw [U eG] at pJ
   obtain ⟨m,hm⟩:=pJ;cases aw.det hm;exact h2 _ eG aw
theorem aR4 {x:List UInt8}(nj:isBare x\/((x.getD 0 0).toNat=34/\∃ o,Quo x (0,o,x.length))):x≠[]:=by
 rintro rfl;rcases nj with h | ⟨h,_⟩
 ·exact h.1 B
 ·exact absurd h (by decide)
def wA (t:T)(cs:List Value)(w0:World):Prop:=Ret W 75 [.agg cs.toArray] w0 (λu w'=>∃ (v:V) (cells:List Value) (rs:List Row),u=.agg cells.toArray/\Sd t v/\RR 83 133 rs v cells/\Cxr w0 w' [] rs)
theorem bF0 (lead tail:List UInt8)(l:List (T×List UInt8×T))(cs:List Value)(w0:World)(hv:Nw w0 (.mk 3 lead [91] (l.map (·.1)) tail) cs)(hn:l.length<=1000000)(he:∀ y∈l,EntOk false y.1 y.2.1 y.2.2)(ih:∀ y∈l,∀ (w:World) (cs:List Value),Nw w y.2.2 cs->wA y.2.2 cs w):wA (.mk 3 lead [91] (l.map (·.1)) tail) cs w0:=by
 obtain ⟨la,lc,lb,rfl,hlc,ez,dN⟩:=hv.kids;unfold wA;rw [fT] at hlc ez ⊢;refine Si ?_;have G:=Ctx.start w0;refine ag ?_;refine bE ?_;intro b1 w G er fX;refine fD ?_;intro b2 w G di e3;refine bz ?_;refine cn B (λe1=>?_) (λe1=>?_)
 ·exact K0
 refine ae ?_;refine RQ ?_;refine fD ?_;intro bH w G fl fg;refine lO ?_;intro w G hG;refine bz ?_;refine cn B (λdG=>?_) (λdG=>?_)
 ·exact Ge
 refine aG ?_;refine bu (λg f ah=>∃ (i:Nat) (vl:List V) (css:List (List Value)) (k1:Value) (rs:List Row),g=l.length-i/\(i<=l.length)/\(vl.length=i)/\(LF 83 133 rs vl [] css [] vl.length)/\(∀ (j:Nat) (y:T×List UInt8×T) (x:V),l[j]?=some y->vl[j]?=some x->Sd y.2.2 x)/\f 6=J i/\f 1=ao b1 0/\f 2=ao b2 0/\f 5=ao bH 0/\Cxr w0 ah [(bH,aa 83 [J 6,.bool (false),.bool (false),M [],J 0,J 0,J 0,J 0,J 0,M [],al,k1,al]),(b2,aa 83 [J 0,.bool (false),.bool (false),M [],J 0,J 0,J 0,J 0,J 0,M [],al,al,al]),(b1,aa 72 [J 3,M lead,M ([91]),.slice la l.length lc,M tail])] (⟨83,13,k1,vl.length,css.flatten⟩::rs)) ((λ(i:Nat)=>l.length-i) 0) ?_ ?_
 ·exact ⟨0,[],[],al,[],B,bU _,B,LF.start0 83 133 [],λj y x h1 h2=>by simp at h2,aJ,B,B,B,(G.nilRow 83 13)⟩
 intro Ni f w ai;obtain ⟨i,vl,css,k1,rs,Vi,hi,zi,lf,mv,aL,aK,aE,bF,G⟩:=ai;refine cK ?_;refine Z (λgL=>?_) (λgL=>?_)
 ·have dK:i<l.length:=I;obtain ⟨y,hy⟩:∃ y,l[i]?=some y:=⟨_,bS I⟩;have tZ:=cb hy;obtain ⟨ecs,ds,cz⟩:=dN i y.1 (by rw [eF,hy];rfl);obtain ⟨lK,ij,dD,pc,rfl,eI,fy,pM,Ot⟩:=ds.entF (he y tZ);refine bz ?_;refine aFp ?_;refine ab ?_;refine Sj ?_;refine bz ?_;refine cn B (λjp=>?_) (λjp=>?_)
  ·exact absurd jp (by decide)
  refine ei G (G.pick1 0 B) mixed [(0,54),(1,55),(2,56),(3,57),(4,58)] #[true,true,true,true,true,false,false,false,false,false] ac ac ac ac ?_;refine lk ?_;refine GW ?_;refine LG ?_;refine cW ?_;intro w G Jz;refine kb ?_;refine aC6 ?_;rintro cUi w ⟨v,cells,rs2,rfl,mw,dH,cq⟩;obtain ⟨cS,cZ,c0,rfl,gM,gi,iV⟩:=dH.form cq;replace G:=G.callRows cq;replace G:=G.permR tf;refine gS ?_;refine li ?_;refine Gi ?_;intro cJf w G bNx WV;refine ta ?_;refine lh ?_;refine aCr ?_;intro cGj w G cNt;replace G:=G.drop 1;refine dQ ?_;refine mP ?_;refine ej ?_;refine qV ?_;refine bR (v:=cGj) G 0 B B B B B G.oneS B B zL ?_;intro w G np;refine DF ?_;exact ⟨_,_,I,B,i+1,vl++[v],css++[vrow v.sc cS cZ c0],_,rs2++rs,B,I,Py,lf.addL0 dH,λj eQ x h1 h2=>by
   rcases zG h2 with ⟨Y,ar⟩ | ⟨rfl,rfl⟩
   ·exact mv j eQ x h1 ar
   ·rw [zi] at h1;rw [hy] at h1;cases h1;exact mw,aJ,aK,aE,bF,G.row_eq sK (by rw [List.flatten_append,pi,List.flatten_nil,cH])⟩
 refine an ?_;refine aCs ?_;intro w G l0;refine ag ?_;refine aFq ?_;exact ⟨.mk ⟨6,false,false,ByteArray.empty,0,0,0,0,0,ByteArray.empty⟩ [] vl [],_,_::rs,B,.list l he B B (by show vl.length=_;omega) mv,RR.mk ⟨6,false,false,ByteArray.empty,0,0,0,0,0,ByteArray.empty⟩ [] vl [] _ _ _ css [] (.inl ⟨B,B⟩) (.inr (b9 ..)) lf.hlc (λi v cs h h2=>(lf.hlv i v cs h h2).mono λr hr=>bP _ hr) (.inl ⟨B,B⟩) B (λi kv cs h=>by simp at h),G.drop 3⟩
theorem bF1 (lead tail:List UInt8)(l:List (T×List UInt8×T))(cs:List Value)(w0:World)(hv:Nw w0 (.mk 4 lead [123] (l.map (·.1)) tail) cs)(hn:l.length<=1000000)(he:∀ y∈l,EntOk true y.1 y.2.1 y.2.2)(ih:∀ y∈l,∀ (w:World) (cs:List Value),Nw w y.2.2 cs->wA y.2.2 cs w)(lE:∀ y∈l,y.1.print.length<=1000000)(jO:(l.map (·.2.1)).Nodup)(rD:∀ y∈l,y.2.1.length<=1024/\validD y.2.1=true):wA (.mk 4 lead [123] (l.map (·.1)) tail) cs w0:=by
 obtain ⟨la,lc,lb,rfl,hlc,ez,dN⟩:=hv.kids;unfold wA;rw [fT] at hlc ez ⊢;refine Si ?_;have G:=Ctx.start w0;refine ag ?_;refine bE ?_;intro b1 w G er fX;refine fD ?_;intro b2 w G di e3;refine bz ?_;refine cn B (λe1=>?_) (λe1=>?_)
 ·exact K0
 refine ae ?_;refine RQ ?_;refine fD ?_;intro bH w G fl fg;refine lO ?_;intro w G hG;refine bz ?_;refine cn B (λdG=>?_) (λdG=>?_)
 ·refine ag ?_;refine bR (v:=(J 7)) G 0 B B B B B B B B bN ?_;intro w G jt;refine aG ?_;refine bu (λg f ah=>∃ (i:Nat) (jb:List (ByteArray×V)) (fss:List (List Value)) (lx:Value) (rs:List Row),g=l.length-i/\(i<=l.length)/\(jb.length=i)/\(jb.map (λkv:ByteArray×V=>kv.1)=(l.take i).map λy=>bs y.2.1)/\(LF 83 133 rs [] jb [] fss jb.length)/\(∀ (j:Nat) (y:T×List UInt8×T) (x:ByteArray×V),l[j]?=some y->jb[j]?=some x->Sd y.2.2 x.2)/\f 6=J i/\f 1=ao b1 0/\f 2=ao b2 0/\f 5=ao bH 0/\Cxr w0 ah [(bH,aa 83 [J 7,.bool (false),.bool (false),M [],J 0,J 0,J 0,J 0,J 0,M [],al,al,lx]),(b2,aa 83 [J 0,.bool (false),.bool (false),M [],J 0,J 0,J 0,J 0,J 0,M [],al,al,al]),(b1,aa 72 [J 4,M lead,M ([123]),.slice la l.length lc,M tail])] (⟨133,14,lx,jb.length,fcells (jb.map λkv:ByteArray×V=>kv.1) fss⟩::rs)) ((λ(i:Nat)=>l.length-i) 0) ?_ ?_
  ·exact ⟨0,[],[],al,[],B,bU _,B,B,LF.start0 83 133 [],λj y x h1 h2=>by simp at h2,aJ,B,B,B,(G.nilRow 133 14)⟩
  intro Ni f w ai;obtain ⟨i,jb,fss,lx,rs,Vi,hi,zi,lW,lf,mv,aL,aK,aE,bF,G⟩:=ai;refine cK ?_;refine Z (λgL=>?_) (λgL=>?_)
  ·have dK:i<l.length:=I;obtain ⟨y,hy⟩:∃ y,l[i]?=some y:=⟨_,bS I⟩;have tZ:=cb hy;obtain ⟨ecs,ds,cz⟩:=dN i y.1 (by rw [eF,hy];rfl);obtain ⟨lK,ij,dD,bWy,pc,gj,x,rfl,eI,fy,pM,Ot,Vz,bVy,pJ,nj⟩:=ds.entT (he y tZ);have B7:=lE y tZ;refine bz ?_;refine aFp ?_;refine ab ?_;refine Sj ?_;refine bz ?_;refine cn B (λjp=>?_) (λjp=>?_)
   ·refine ei G (G.pick1 0 B) mixed [(0,39),(1,40),(2,41),(3,42),(4,43),(5,44),(7,46),(8,47),(9,48)] #[true,true,true,true,true,true,false,true,true,true,false,false,false,false,false,false] ac ac ac ac ?_;refine lk ?_;refine GW ?_;refine eY ?_;refine bw B (bx B) (λw G=>br B B aF B ((Vz.up G.ext).cell 2 B)) ?_;refine eY ?_;refine GW ?_;refine LG ?_;refine cW ?_;intro w G B1;refine li ?_;refine bG G (S8 x _ I (aR4 nj)) Tryz.func128 B B B B B B ?_;intro aUo w G OA V9;obtain ⟨aR1,rfl,bQk,bQo⟩:=V9;have Vx:=aR2 pJ nj bQk bQo;refine gS ?_;refine kQ ?_;refine aC6 ?_;rintro aW7 w ⟨v,cells,rs2,rfl,mw,dH,cq⟩;obtain ⟨cS,cZ,c0,rfl,gM,gi,iV⟩:=dH.form cq;replace G:=G.callRows cq;replace G:=G.permR tf;refine gS ?_;refine mO ?_;refine S B B (cd (qs:=[(0,(M aR1)),(1,.agg #[.int .i64 (v.sc.kind),.bool (v.sc.b),.bool (v.sc.neg),.string v.sc.dig,.int .i64 (v.sc.exp),.int .i64 (v.sc.tk),.int .i64 (v.sc.td),.int .i64 (v.sc.tn),.int .i64 (v.sc.tz),.string v.sc.text,cS,cZ,c0])]) (aH6 _ _ _ _ _ _ _ _ _ _ _ _ _ _) B B) ?_;refine gS ?_;refine r2 ?_;refine QW ?_;intro cJb w G cLu bU2;refine ta ?_;refine pZ ?_;refine aCt ?_;intro YZ w G cNn;replace G:=G.drop 1;refine Du ?_;refine ej ?_;refine Af ?_;refine bR (v:=YZ) G 0 B B B B B G.oneS B B CF ?_;intro w G n1;refine DF ?_;exact ⟨_,_,I,B,i+1,jb++[(bs aR1,v)],fss++[vrow v.sc cS cZ c0],_,rs2++rs,B,I,Py,(by rw [kc,lW,List.take_add_one,hy,kc,Vx];rfl),lf.addF0 dH,λj eQ z h1 h2=>by
     rcases zG h2 with ⟨Y,ar⟩ | ⟨rfl,rfl⟩
     ·exact mv j eQ z h1 ar
     ·rw [zi] at h1;rw [hy] at h1;cases h1;exact mw,aJ,aK,aE,bF,G.row_eq sK aT0⟩
   exact absurd jp (by decide)
  refine an ?_;refine aCu ?_;intro w G l0;refine ag ?_;refine aFq ?_;exact ⟨.mk ⟨7,false,false,ByteArray.empty,0,0,0,0,0,ByteArray.empty⟩ [] [] jb,_,_::rs,B,.map l he B B (by show jb.map (λkv:ByteArray×V=>kv.1)=_;rw [lW,lQ I]) jO rD mv,RR.mk ⟨7,false,false,ByteArray.empty,0,0,0,0,0,ByteArray.empty⟩ [] [] jb _ _ _ [] fss (.inl ⟨B,B⟩) (.inl ⟨B,B⟩) B (λi v cs h=>by simp at h) (.inr (b9 ..)) lf.hfc (λi kv cs h h2=>(lf.hfv i kv cs h h2).mono λr hr=>bP _ hr),G.drop 3⟩
 exact Ge
theorem bF2 (lead text:List UInt8)(cs:List Value)(w0:World)(hv:Nw w0 (.mk 2 lead text [] []) cs)(hs:text.length<=1000000)(hx:text≠[]):wA (.mk 2 lead text [] []) cs w0:=by
 obtain ⟨la,lc,lb,rfl,hlc,ez,dN⟩:=hv.kids;refine Si ?_;have G:=Ctx.start w0;refine ag ?_;refine bE ?_;intro b1 w G er fX;refine fD ?_;intro b2 w G di e3;refine bz ?_;refine cn B (λe1=>?_) (λe1=>?_)
 ·refine an ?_;refine bW (aIr text _ hs hx) Tryz.func127 B B B B B B ?_;rintro F1 w ⟨sc,mX,ix,qf,iy,yB,rs,rfl,aL,aS,y2,Ok,cq⟩;replace G:=G.callRows cq;refine ae ?_;refine fD ?_;intro b3 w G eE gr;refine aCv ?_;intro w G jh;refine GL ?_;refine an ?_;refine aCw ?_;intro w G ig;refine ag ?_;refine j8 Tryz.results75 B (G.at 1 B) fb B c6 ?_;exact ⟨.mk sc mX [] [],_,rs,B,.sc B B aL aS,.mk sc mX [] [] _ _ _ [] [] y2 (.inl ⟨B,B⟩) B (λi v cs h=>by simp at h) (.inl ⟨B,B⟩) B (λi kv cs h=>by simp at h),by have:=G.drop 3;rw [cH] at this;exact this⟩
 exact K0
theorem aXq(h:Gt t):t.count<=1000000->t.print.length<=1000000->∀ (w:World) (cs:List Value),Nw w t cs->wA t cs w:=by
 induction h with
 | sc hx =>
  rename_i lead text;intro hc hp w cs hv;rw [dX] at hp;simp only [aQ] at hp;exact bF2 lead text cs w hv I hx
 | @coll m lead tail l he aH hk hn ih =>
  intro hc hp w cs hv;rw [dT] at hc;rw [dX] at hp;simp only [aQ] at hp;have ie:=jv (l.map (·.1));rw [fT] at ie;have ec:∀ y∈l,y.1.print.length<=1000000/\y.2.2.count<=1000000/\y.2.2.print.length<=1000000:=λy hy=>by
   exact aBr
  have n7:∀ y∈l,∀ (w:World) (cs:List Value),Nw w y.2.2 cs->wA y.2.2 cs w:=λy hy=>ih y hy (ec y hy).2.1 (ec y hy).2.2
  cases m with
  | false=>exact bF0 lead tail l cs w hv I he n7
  | true=>exact bF1 lead tail l cs w hv I he n7 (λy hy=>(ec y hy).1) (hn rfl) hk
theorem bD4 (s:List UInt8)(d n b a e:Int)(w0:World)(hs:s.length<=400000):Ret W 32 [M s,.agg #[.int .i64 d,.int .i64 n,.int .i64 b,.int .i64 a,.int .i64 e]] w0 (λv w'=>(∃ o bk:Nat,bk≠0/\Pd cx s d n b a e (.inl (o,bk))/\v=.tuple #[.agg (vrow ⟨0,false,false,ByteArray.empty,0,0,0,0,0,ByteArray.empty⟩ (al) (al) (al)).toArray,J o,J bk]/\Below w0.heap.size w0 w')\/(∃ (t:T) (tail:List UInt8) (x:V) (cells:List Value) (rs:List Row),v=.tuple #[.agg cells.toArray,J 0,J 0]/\Pd cx s d n b a e (.inr (.mk 1 [] [] [t] tail))/\Sd t x/\RR 83 133 rs x cells/\Cxr w0 w' [] rs)):=by
 refine aI Tryz.func32 B Tryz.ntmps32 B ?_;have G:=Ctx.start w0;refine ag ?_;refine bE ?_;intro b3 w G eE gr;refine fD ?_;intro bp w G gW gN;refine aG ?_;have aE:s.length<=1000000:=I;refine bW (Tm s d n b a e _ aE) Tryz.func33 B B B B B B ?_;rintro P7 w ⟨k,cI,bl,ev,cB,n2,n3,o,bk,rs,rfl,cq,cu⟩;replace G:=G.callRows cq;refine an ?_;refine dv ?_;intro b7 w G nO iW;refine s7 ?_;intro w G ko;refine pg ?_;refine aG ?_;refine Z (λhB=>?_) (λhB=>?_)
 ·obtain ⟨nS,dc⟩:=cu.resolve_right (λh=>I);refine ag ?_;refine RU ?_;refine ag ?_;refine wh ?_;intro w G ig;refine pg ?_;refine ag ?_;refine aFr ?_;exact .inl ⟨o,bk,nS,dc,B,G.ext⟩
 obtain ⟨_,_,t,tail,dc,qq,ru,sx,c9⟩:=cu.resolve_left (λh=>h.1 I);have fo:=(c9.mono λr h=>iM _ h).vw G;obtain ⟨la,lc,lb,ia,hlc,ez,dN⟩:=fo.kids;obtain rfl:=ez AF;have Y:Value.slice cB n2 n3=.slice (some ⟨lb,0,none⟩) 1 lc:=aD (λl:List Value=>l.getD 3 (.bool false)) ia;obtain ⟨ecs,ds,cz⟩:=dN 0 t rfl;refine aq ?_;refine S B B (cT dx bA B (show _=_ from Y) B (by decide) (by decide)) ?_;refine S B B (cG (l:=ecs) B B de B bA (cz.up (Below.refl _ _)) ds.len) ?_;refine bW (aXq qq I I _ ecs (ds.up (Below.refl _ _))) Tryz.func75 B B B B B B ?_;rintro rV w ⟨v,cells,rs2,rfl,mw,dH,oI⟩;replace G:=G.callRows oI;obtain ⟨cS,cZ,c0,rfl,gM,gi,iV⟩:=dH.form oI;refine QX ?_;intro w G hG;refine an ?_;refine aFr ?_;exact aCc
theorem _root_.Go.Dk.Nw.kids2 {w:World}{cs:List Value}(h:Nw w t cs) :
  ∃ (la:Option Addr) (lc lb:Nat),cs=nrow t.kind t.lead t.text (.slice la t.kids.length lc) t.tail/\(0<t.kids.length->la=some ⟨lb,0,none⟩)/\∀ (i:Nat) (u:T),t.kids[i]?=some u->∃ ecs,Nw w u ecs/\RowAt w lb (0+i*5) ecs:=by
 cases t with
 | mk k a b ks c =>
  obtain ⟨la,lc,lb,h1,_,Y,ar⟩:=h.kids;exact ⟨la,lc,lb,h1,Y,ar⟩
theorem xx {c:T}{i:Nat}(h:t.kids[i]?=some c):c.count<=t.count/\c.print.length<=t.print.length:=by
 cases t with
 | mk k a b ks d =>
  have:=kq (cb h);rw [dT,dX];simp only [aQ];have h2:c.count<=counts ks/\c.print.length<=(prints ks).length:=this;omega
theorem OX (t:T):t.kids.length<=t.count:=by
 cases t with
 | mk k a b ks d =>
  have:=jv ks;rw [dT];show ks.length<=_;omega
theorem Pf {u:T}{off:Nat}:∀ {is:List Nat} {t:T},nav t is=some (u,off)->u.count<=t.count/\off+u.print.length<=t.print.length
 | [],t,h=>by rw [nav] at h;cases h;omega
 | i::is,.mk k a b ks d,h=>by
  obtain ⟨c,r,h1,h2,Y⟩:=XR h;have ar:=Pf h2;have bd:=xx h1;have h6:=xG h1;have h7:=vH ks (i+1);rw [dX];simp only [aQ];have yJ:off=a.length+b.length+(prints (ks.take i)).length+r:=Y;have cK0:(prints (ks.take (i+1))).length=(prints (ks.take i)).length+c.print.length:=h6;omega
theorem bB4 (t0 u:T)(cs:List Value)(off:Nat)(idx:List Nat)(zm:Value)(w0:World)(js:Nw w0 t0 cs)(EB:SlR w0 zm idx.length (idx.map λk=>((J k):Value)))(ms:nav t0 idx=some (u,off))(rB:idx.length<=1000000):Fc W 147 [.agg cs.toArray,zm] w0 (λv _=>∃ YT,v=.tuple #[.agg YT.toArray,.bool true]/\Nw w0 u YT):=by
 obtain ⟨JF,xu,JG,rfl,bP9,Vp⟩:=EB.form2;obtain ⟨JU,zo,zn,rfl,EG,EE⟩:=js.kids2;refine aI Tryz.func147 B Tryz.ntmps147 B ?_;have G:=Ctx.start w0;refine ag ?_;refine bE ?_;intro b2 w G di e3;refine dv ?_;intro bp w G gW gN;refine bz ?_;refine bu (λg f ah=>∃ (i:Nat) (c:T) (la:Option Addr) (lc lb r:Nat),g=idx.length-i/\(i<=idx.length)/\(Nw w0 c (nrow c.kind c.lead c.text (.slice la c.kids.length lc) c.tail))/\(0<c.kids.length->la=some ⟨lb,0,none⟩)/\(∀ (i:Nat) (u:T),c.kids[i]?=some u->∃ ecs,Nw w0 u ecs/\RowAt w0 lb (0+i*5) ecs)/\(nav c (idx.drop i)=some (u,r))/\f 6=J i/\f 1=.slice JF idx.length xu/\f 2=ao b2 0/\f 4=ao bp 0/\Cxr w0 ah [(bp,aa 72 [J 0,M [],M [],al,M []]),(b2,aa 72 [J c.kind,M c.lead,M c.text,.slice la c.kids.length lc,M c.tail])] []) ((λ(i:Nat)=>idx.length-i) 0) ?_ ?_
 ·exact ⟨0,t0,JU,zo,zn,off,B,bU _,js,EG,EE,ms,aJ,B,B,B,G⟩
 intro h8 f w ai;obtain ⟨i,c,la,lc,lb,r,ni,hi,hv,ez,dN,w9,aL,aK,aE,aM,G⟩:=ai;refine bz ?_;refine Z (λe1=>?_) (λe1=>?_)
 ·have hS:i<idx.length:=I;obtain ⟨eP,eN⟩:∃ eP,idx[i]?=some eP:=⟨_,bS I⟩;have hdr:idx.drop i=eP::idx.drop (i+1):=by rw [ph hS,(bT.1 eN).2]
  rw [hdr] at w9;obtain ⟨cC,r1,u6,VM,bTm⟩:=XR w9;have lE:=(bT.1 u6).1;obtain ⟨ecs,ds,cz⟩:=dN eP cC u6;obtain ⟨JV,Ft,JW,rfl,I0,IX⟩:=ds.kids2;obtain ⟨IS,aOn⟩:=Vp I;have aOm:(idx.map λk=>((J k):Value))[i]?=some (J eP):=by rw [eF,eN];rfl
  have rD:=xx u6;have ED:=OX c;refine aq ?_;refine iu ?_;intro w G OF;refine lj ?_;refine aFs ?_;refine dP B B (br B B dq B J6) ?_;refine oz ?_;refine aFt ?_;refine aFu ?_;refine lj ?_;refine aFv ?_;refine x9 ?_;refine Z (λgL=>?_) (λgL=>?_)
  ·exfalso;omega
  refine ab ?_;refine ei G (G.pick1 1 B) mixed [(0,29),(1,30),(2,31),(3,32),(4,33),(5,34),(6,35),(7,36)] #[true,true,true,true,true,true,true,true,false] ac ac ac ac ?_;refine i1 ?_;refine aFw ?_;refine aFx ?_;refine Sk ?_;refine aFy ?_;refine cW ?_;intro w G JB;refine mP ?_;refine bn G 1 B B B aE B B bA B (lL B) ?_;intro w G jt;refine DF ?_;exact ⟨_,_,I,B,i+1,cC,JV,Ft,JW,r1,B,I,ds,I0,IX,VM,aJ,aK,aE,aM,G⟩
 refine an ?_;refine bn G 0 B B B aM B B bA B (lL B) ?_;intro w G iD;refine ae ?_;refine io Tryz.results147 aM B (G.at 0 B) de B bA ?_;have nU:idx.drop i=[]:=q0 I;rw [nU,nav] at w9;cases w9;exact ⟨G.ext,_,B,hv⟩
theorem yz (t0 u:T)(cs:List Value)(off:Nat)(idx:List Nat)(zm:Value)(w0:World)(js:Nw w0 t0 cs)(EB:SlR w0 zm idx.length (idx.map λk=>((J k):Value)))(ms:nav t0 idx=some (u,off))(rB:idx.length<=1000000)(yQ:t0.count<=1000000)(kK:t0.print.length<=1000000):Fc W 90 [.agg cs.toArray,zm] w0 (λv _=>v=.tuple #[.agg #[J off,J (off+u.print.length)],J 0]):=by
 obtain ⟨JF,xu,JG,rfl,bP9,Vp⟩:=EB.form2;obtain ⟨JU,zo,zn,rfl,EG,EE⟩:=js.kids2;refine aI Tryz.func90 B Tryz.ntmps90 B ?_;have G:=Ctx.start w0;have rF:=Pf ms;refine ag ?_;refine bE ?_;intro b2 w G di e3;refine C2 ?_;intro bp w G gW gN;refine i6 ?_;refine bu (λg f ah=>∃ (i:Nat) (c:T) (la:Option Addr) (lc lb r:Nat) (a:Nat),g=idx.length-i/\(i<=idx.length)/\(Nw w0 c (nrow c.kind c.lead c.text (.slice la c.kids.length lc) c.tail))/\(0<c.kids.length->la=some ⟨lb,0,none⟩)/\(∀ (i:Nat) (u:T),c.kids[i]?=some u->∃ ecs,Nw w0 u ecs/\RowAt w0 lb (0+i*5) ecs)/\(nav c (idx.drop i)=some (u,r))/\(a+r=off)/\(c.count<=1000000)/\(a+c.print.length<=1000000)/\f 7=J i/\f 6=J a/\f 1=.slice JF idx.length xu/\f 2=ao b2 0/\f 4=ao bp 0/\Cxr w0 ah [(bp,aa 48 [J 0,J 0]),(b2,aa 72 [J c.kind,M c.lead,M c.text,.slice la c.kids.length lc,M c.tail])] []) ((λ(i:Nat)=>idx.length-i) 0) ?_ ?_
 ·exact ⟨0,t0,JU,zo,zn,off,0,B,bU _,js,EG,EE,ms,gV _,yQ,I,aJ,aJ,B,B,B,G⟩
 intro gJ f w ai;obtain ⟨i,c,la,lc,lb,r,a,qp,hi,hv,ez,dN,w9,bNq,Bu,cMc,aS,aL,aK,aE,aM,G⟩:=ai;refine bz ?_;refine Z (λco=>?_) (λco=>?_)
 ·have hS:i<idx.length:=I;obtain ⟨eP,eN⟩:∃ eP,idx[i]?=some eP:=⟨_,bS I⟩;have hdr:idx.drop i=eP::idx.drop (i+1):=by rw [ph hS,(bT.1 eN).2]
  rw [hdr] at w9;obtain ⟨cC,r1,u6,VM,bTm⟩:=XR w9;have lE:=(bT.1 u6).1;obtain ⟨ecs,ds,cz⟩:=dN eP cC u6;obtain ⟨JV,Ft,JW,rfl,I0,IX⟩:=ds.kids2;obtain ⟨IS,aOn⟩:=Vp I;have aOm:(idx.map λk=>((J k):Value))[i]?=some (J eP):=by rw [eF,eN];rfl
  have rD:=xx u6;have ED:=OX c;have sx:=xG u6;have fp:=vH c.kids (eP+1);have bOy:c.lead.length+c.text.length+(prints c.kids).length<=c.print.length:=by cases c;rw [dX];simp only [aQ,T.lead,T.text,T.kids];omega
  refine aq ?_;refine iu ?_;intro w G JA;refine lj ?_;refine aFs ?_;refine dP B B (br B B dq B J6) ?_;refine oz ?_;refine aFt ?_;refine aFu ?_;refine lj ?_;refine aFv ?_;refine x9 ?_;refine Z (λgY=>?_) (λgY=>?_)
  ·exfalso;omega
  refine i6 ?_;refine S B B (av (v:=(J (a+c.lead.length+c.text.length))) B B) ?_;refine aG ?_;refine bu (λg f ah=>∃ (j:Nat),g=eP-j/\(j<=eP)/\f 8=J j/\f 6=J (a+c.lead.length+c.text.length+(prints (c.kids.take j)).length)/\f 1=.slice JF idx.length xu/\f 2=ao b2 0/\f 4=ao bp 0/\f 7=J i/\Cxr w0 ah [(bp,aa 48 [J 0,J 0]),(b2,aa 72 [J c.kind,M c.lead,M c.text,.slice la c.kids.length lc,M c.tail])] []) ((λ(j:Nat)=>eP-j) 0) ?_ ?_
  ·exact ⟨0,B,bU _,aJ,aJ,aK,aE,aM,aS,G⟩
  intro so f w ai;obtain ⟨j,IP,ax,bb,aL,aK,aE,aM,aS,G⟩:=ai;refine az ?_;refine S B B (cT Tryz.underlying167 bN B (show _=Value.slice (some ⟨JG,0,none⟩) idx.length xu by rw [<- IS];rfl) B I I) ?_;refine S B B (br B B dq B J6) ?_;refine ag ?_;refine Z (λiT=>?_) (λiT=>?_)
  ·have tN:j<c.kids.length:=I;obtain ⟨k2,fy⟩:∃ k2,c.kids[j]?=some k2:=⟨_,bS I⟩;obtain ⟨cJ5,w3,Wz⟩:=dN j k2 fy;obtain ⟨dM,eQ,ft,rfl⟩:=w3.form;have cOm:=xx fy;have cO7:=xG fy;have qt:=vH c.kids (j+1);refine bz ?_;refine aFz ?_;refine S B B (cG (l:=nrow k2.kind k2.lead k2.text (.slice dM eQ ft) k2.tail) B B de B bA (Wz.up G.ext) B) ?_;refine bo G (O3 k2.count k2 (bV _) I I _ _ (w3.up G.ext)) Tryz.func148 B B B B B B ?_;intro w G Jy;refine az ?_;refine As ?_;refine ab ?_;exact ⟨_,_,I,B,j+1,B,I,aJ,aJ,aK,aE,aM,aS,G⟩
  refine ab ?_;refine ei G (G.pick1 1 B) mixed [(0,56),(1,57),(2,58),(3,59),(4,60),(5,61),(6,62),(7,63)] #[true,true,true,true,true,true,true,true,false] ac ac ac ac ?_;refine i1 ?_;refine aFw ?_;refine aFx ?_;refine Sk ?_;refine aFy ?_;refine cW ?_;intro w G B1;refine mP ?_;refine bn G 1 B B B aE B B bA B (lL B) ?_;intro w G n1;refine DF ?_;have st:j=eP:=I;have cOe:(prints (c.kids.take j)).length=(prints (c.kids.take eP)).length:=by rw [st]
  exact ⟨_,_,I,B,i+1,cC,JV,Ft,JW,r1,a+c.lead.length+c.text.length+(prints (c.kids.take j)).length,B,I,ds,I0,IX,VM,I,I,I,aJ,aL,aK,aE,aM,G⟩
 refine az ?_;refine bo G (O3 c.count c (bV _) I I _ _ (hv.up G.ext)) Tryz.func148 B B B B B B ?_;intro w G aQ8;refine ab ?_;refine S B B (cd (qs:=[(0,(J a)),(1,(J (a+c.print.length)))]) (S0 _ _) B B) ?_;refine bn G 0 B B B aM B B vQ B B ?_;intro w G np;refine ae ?_;refine io Tryz.results90 aM B (G.at 0 B) Tryz.underlying48 B vQ ?_;have nU:idx.drop i=[]:=q0 I;rw [nU,nav] at w9;cases w9;subst bNq;exact gC
theorem aJz (t0 u:T)(cs:List Value)(off:Nat)(idx:List Nat)(zm:Value)(w0:World)(js:Nw w0 t0 cs)(EB:SlR w0 zm idx.length (idx.map λk=>((J k):Value)))(ms:nav t0 idx=some (u,off))(rB:idx.length<=1000000)(yQ:t0.count<=1000000)(kK:t0.print.length<=1000000):Fc W 88 [.agg cs.toArray,zm] w0 (λv _=>v=.tuple #[.agg #[J (off+u.lead.length),J (off+u.print.length)],J 0]):=by
 obtain ⟨JU,zo,zn,rfl,EG,EE⟩:=js.kids2;refine aI Tryz.func88 B Tryz.ntmps88 B ?_;have G:=Ctx.start w0;have rF:=Pf ms;have WM:u.lead.length<=u.print.length:=aSf u;refine ag ?_;refine bE ?_;intro b2 w G di e3;refine C2 ?_;intro bp w G gW gN;refine az ?_;refine bo G (yz t0 u _ off idx _ _ (js.up G.ext) (EB.up G.ext) ms rB yQ kK) Tryz.func90 B B B B B B ?_;intro w G qx;refine ae ?_;refine C2 ?_;intro bq w G gX hF;refine Q9 ?_;intro w G ko;refine mQ ?_;refine aG ?_;refine Z (λhQ=>?_) (λhQ=>?_)
 ·exfalso;omega
 refine aq ?_;refine bG G (bB4 t0 u _ off idx _ _ (js.up G.ext) (EB.up G.ext) ms rB) Tryz.func147 B B B B B B ?_;intro aUj w G zj Jc;obtain ⟨YT,rfl,bUu⟩:=Jc;obtain ⟨pX,z2,z3,rfl⟩:=bUu.form;refine ae ?_;refine dv ?_;intro cP w G lB jg;refine s7 ?_;intro w G hG;refine gp ?_;refine bR (v:=(J (off+u.lead.length))) G 1 B B B B B B B B bN ?_;intro w G rK;refine an ?_;refine bn G 2 B B B B B B vQ B B ?_;intro w G jt;refine ae ?_;refine io Tryz.results88 B B (G.at 2 B) Tryz.underlying48 B vQ ?_;exact gC
end Go.Proofs.YthiafbkolhnadaaGreatDoor
end
section
namespace Go.Dk
open Go Go.RowKit Go.Lib Go.Proofs.YthiafbkolhnadaaGreatDoor
variable {p:List Stp}
def aCh (v:V)(s:Stp)(i:Nat):Prop:=(s.byIndex=true/\v.sc.kind=6/\s.index=(i:Int)/\i<v.list.length)\/(s.byIndex=false/\v.sc.kind=7/\v.fields.length<=1000000/\(∃ x,v.fields[i]?=some (s.key,x))/\∀ j z,j<i->v.fields[j]?=some z->z.1≠s.key)
def aHn (v:V)(i:Nat)(x:V):Prop:=(v.sc.kind=6/\v.list[i]?=some x)\/(v.sc.kind≠6/\∃ key,v.fields[i]?=some (key,x))
theorem Fnd.inv {v:V}{s:Stp}(h:Fnd v (s::p)):∃ i x,aCh v s i/\aHn v i x/\Fnd x p:=by
 cases h with
 | @list _ x i _ hk hx h=>exact ⟨i,x,.inl ⟨rfl,hk,rfl,(bT.1 hx).1⟩,.inl ⟨hk,hx⟩,h⟩
 | @map _ x i key _ hk hx hz hd h=>exact ⟨i,x,.inr ⟨rfl,hk,hz,⟨x,hx⟩,hd⟩,.inr ⟨I,key,hx⟩,h⟩
def aYz (c:T)(s:Stp)(k:Nat):Prop:=∀ j,j<=k->∃ (e ij:T) (key:List UInt8),c.kids[j]?=some e/\e.kids[0]?=some ij/\KeyR ij.text key/\(isBare ij.text\/((ij.text.getD 0 0).toNat=34/\∃ o,Quo ij.text (0,o,ij.text.length)))/\(j<k->bs key≠s.key)/\(j=k->bs key=s.key)
theorem Lc.step {c u:T}{s:Stp}{idx:List Nat}{off:Nat}(h:Lc c (s::p) idx u off):∃ (k rY:Nat) (e x:T) (ub:List Nat) (zA:Nat),idx=k::rY::ub/\c.kids[k]?=some e/\e.kids[rY]?=some x/\Lc x p ub u zA /\
  ((s.byIndex=true/\s.index=(k:Int)/\rY=0)\/(s.byIndex=false/\rY=2/\aYz c s k)):=by
 cases h with
 | @list lead tail l i y _ ub _ zA he hy h =>
  have h1:(l.map (·.1))[i]?=some y.1:=by rw [eF,hy];rfl
  obtain ⟨_,_,Y,_⟩:=A4 (he y (cb hy));exact ⟨i,0,y.1,y.2.2,ub,zA,B,h1,Y,h,.inl ⟨B,B,B⟩⟩
 | @map lead tail l i y _ ub _ zA he hd hs hy h =>
  have h1:(l.map (·.1))[i]?=some y.1:=by rw [eF,hy];rfl
  obtain ⟨_,_,Y,_⟩:=A5 (he y (cb hy));refine ⟨i,2,y.1,y.2.2,ub,zA,B,h1,Y,h,.inr ⟨B,B,λj ax=>?_⟩⟩;have hS:=(bT.1 hy).1;obtain ⟨z,hz⟩:∃ z,l[j]?=some z:=⟨_,bS I⟩;have bPk:=he z (cb hz);have h2:(l.map (·.1))[j]?=some z.1:=by rw [eF,hz];rfl
  obtain ⟨qh,mo,ua,_,gj,x,fh,hf,hk,hx⟩:=bPk;refine ⟨z.1,.mk 6 gj x [] [],z.2.1,h2,by rw [ua,hf];rfl,hk,hx,λEC=>?_,λEC=>?_⟩
  ·exact λe=>Ph hd (i:=j) (j:=i) (a:=z.2.1) (b:=y.2.1) (by rw [eF,hz];rfl) (by rw [eF,hy];rfl) EC (tq e)
  ·subst EC;rw [hy] at hz;cases hz;rfl
theorem aWc{i:Nat}(h:i<p.length):∃ s,p[i]?=some s/\p.drop i=s::p.drop (i+1):=by
 refine ⟨p[i],bS h,ph h⟩
end Go.Dk
end
section
namespace Go.Proofs.YthiafbkolhnadaaGreatDoor
open Go Go.Dk Go.RowKit Go.Lib
attribute [local irreducible] Go.wpList Go.Code.wp Go.bodyPost Go.wpStill
theorem bB6 (v:Value)(l:List Stp)(w0:World)(hv:Pth w0 v l)(hl:l.length<=140737488355328):Fc W 15 [v] w0 (lP λb=>b=true↔ou l):=by
 obtain ⟨a,c,b,o,rfl,a6,hr⟩:=hv.form;refine aI Tryz.func15 B Tryz.ntmps15 B ?_;have G:=Ctx.start w0;refine gp ?_;refine Z (λoS=>?_) (λoS=>?_)
 ·refine aq ?_;refine LZ ?_;refine ⟨G.ext,_,B,(λh=>by cases h),λh=>?_⟩;have:=h.1;omega
 refine aG ?_;refine bu (λk f ah=>∃ i:Nat,k+i=l.length/\f 0=.slice a l.length c/\f 3=.int .i64 i/\(∀ x∈l.take i,Stv x)/\Ctx w0 ah []) (l.length) ?_ ?_
 ·exact ⟨0,I,B,B,by simp,G⟩
 intro pC f w ai;obtain ⟨i,hk,aB,aR,hall,G⟩:=ai;refine bz ?_;refine Z (λe1=>?_) (λe1=>?_)
 ·obtain ⟨x,hx⟩:∃ x,l[i]?=some x:=⟨l[i]'(I),bS _⟩;have lZ:=hr i x hx;obtain rfl:=a6 I;refine bz ?_;refine Sl ?_;refine ab ?_;refine aF0 ?_;refine ae ?_;refine aF1 ?_;refine ab ?_;refine aN B B B aO (λhc=>br B ay aF B ((lZ.up G.ext).cell 1 B)) ?_;refine aN B B B aO (λhc=>wa B ay B) ?_;refine ae ?_;refine L0 ?_;refine ab ?_;refine aF2 ?_;refine aq ?_;refine L0 ?_;refine ab ?_;refine aF2 ?_;refine an ?_;refine Z (λpH=>?_) (λpH=>?_)
  ·refine aq ?_;refine LZ ?_;refine ⟨G.ext,_,B,(λh=>by cases h),λh=>?_⟩;exfalso;have n5:=h.2 x (cb hx);obtain ⟨h1,h2⟩:=pH;obtain ⟨Y,ar,bd⟩:=n5.1 h1;rcases h2 with (h2 | h2) | h2
   ·exact h2 Y
   ·omega
   ·omega
  refine aq ?_;refine Sl ?_;refine ab ?_;refine aF0 ?_;refine an ?_;refine aF1 ?_;refine ab ?_;refine aN B B B aO (λhc=>br B ay dq B ((lZ.up G.ext).cell 2 B)) ?_;refine an ?_;refine L0 ?_;refine ab ?_;refine aF3 ?_;refine Ak ?_;refine aq ?_;refine L0 ?_;refine ab ?_;refine aF3 ?_;refine Cy G B B B a8 (λhc=>bFi x.key _ eJ) Tryz.func44 B B B (λhc=>(aX ay B)) ?_;intro aUs w G WY ES;refine an ?_;refine Z (λBr=>?_) (λBr=>?_)
  ·refine aq ?_;refine LZ ?_;refine ⟨G.ext,_,B,(λh=>by cases h),λh=>?_⟩;exfalso;have n5:=h.2 x (cb hx);obtain ⟨h1,h2⟩:=Br;obtain ⟨Y,ar,bd⟩:=n5.2 h1;rcases h2 with (h2 | h2) | h2
   ·exact h2 Y
   ·omega
   . rw [ES (by first | (simp [h1,Y];omega) | simp [h1,Y,ar]),bd] at h2
     cases h2
  refine az ?_;refine ⟨pC-1,_,I,B,i+1,I,aB,B,λy hy=>?_,G⟩;obtain ⟨hi,e⟩:=bT.1 hx;rw [p9 hi] at hy;rcases iv.1 hy with hy | hy
  ·exact hall y hy
  . rw [e] at hy
    obtain rfl:=hL.1 hy;refine ⟨λh=>?_,λh=>?_⟩
    . rcases pH with h1 | h1
      ·rw [h] at h1;cases h1
      ·exact ⟨h1.1.1,I,I⟩
    . rcases Br with h1 | h1
      ·rw [h] at h1;cases h1
      . obtain ⟨⟨h2,Y⟩,ar⟩:=h1
        refine ⟨h2,I,?_⟩;rw [<- ES (by first | (simp [h,h2];omega) | simp [h,h2,Y])];exact ar
 refine az ?_;refine LZ ?_;exact aBi
theorem bFe (v:Value)(l:List Stp)(w0:World)(hv:Pth w0 v l)(hl:l.length<=140737488355328):Fc W 40 [v] w0 (lP λb=>b=true↔ou l):=by
 obtain ⟨a,c,b,o,rfl,a6,hr⟩:=hv.form;refine aI Tryz.func40 B Tryz.ntmps40 B ?_;have G:=Ctx.start w0;refine gp ?_;refine Z (λiB=>?_) (λiB=>?_)
 ·refine aq ?_;refine L1 ?_;refine ⟨G.ext,_,B,(λh=>by cases h),λh=>?_⟩;have:=h.1;omega
 refine cK ?_;refine bu (λk f ah=>∃ i:Nat,k+i=l.length/\f 8=.slice a l.length c/\f 9=.int .i64 l.length/\f 10=.int .i64 i/\(∀ x∈l.take i,Stv x)/\Ctx w0 ah []) (l.length) ?_ ?_
 ·exact ⟨0,I,B,B,B,by simp,G⟩
 intro pC f w ai;obtain ⟨i,hk,bb,b6,cp,hall,G⟩:=ai;refine aq ?_;refine Z (λfW=>?_) (λfW=>?_)
 ·obtain ⟨x,hx⟩:∃ x,l[i]?=some x:=⟨l[i]'(I),bS _⟩;have lZ:=hr i x hx;obtain rfl:=a6 I;refine aq ?_;refine S B B (cT lp lM B bb cp I I) ?_;refine aF4 ?_;refine K4 ?_;intro bp w G gW gN;refine K5 ?_;intro w G bVn;refine az ?_;refine Z (λef=>?_) (λef=>?_)
  ·refine an ?_;refine S B B (wa B B B) ?_;refine gp ?_;refine Z (λjd=>?_) (λjd=>?_)
   ·refine aq ?_;refine L1 ?_;refine ⟨G.ext,_,B,(λh=>by cases h),λh=>?_⟩;exfalso;have n5:=h.2 x (cb hx);obtain ⟨Y,ar,bd⟩:=n5.1 ef;rcases jd with (h2 | h2) | h2
    ·exact h2 Y
    ·omega
    ·omega
   refine aq ?_;refine ⟨pC-1,_,I,B,i+1,I,bb,b6,B,λy hy=>?_,Ctx.sub0 G⟩;obtain ⟨hi,e⟩:=bT.1 hx;rw [p9 hi] at hy;rcases iv.1 hy with hy | hy
   ·exact hall y hy
   . rw [e] at hy
     obtain rfl:=hL.1 hy;refine ⟨λh=>?_,λh=>?_⟩
     ·exact ⟨jd.1.1,I,I⟩
     ·rw [h] at ef;cases ef
  refine bz ?_;refine Ak ?_;refine aq ?_;refine Cy G B B B a8 (λhc=>aJ0 x.key _ eJ) Tryz.func92 B B B (λhc=>(aX ay B)) ?_;intro cBq w G Jx NY;refine ae ?_;refine Z (λkV=>?_) (λkV=>?_)
  ·refine aq ?_;refine L1 ?_;refine ⟨G.ext,_,B,(λh=>by cases h),λh=>?_⟩;exfalso;have n5:=h.2 x (cb hx);obtain ⟨Y,ar,bd⟩:=n5.2 ef;rcases kV with (h2 | h2) | h2
   ·exact h2 Y
   ·omega
   . rw [NY (by first | (simp [Y];omega) | simp [Y,ar]),bd] at h2
     cases h2
  refine aq ?_;refine ⟨pC-1,_,I,B,i+1,I,bb,b6,B,λy hy=>?_,Ctx.sub0 G⟩;obtain ⟨hi,e⟩:=bT.1 hx;rw [p9 hi] at hy;rcases iv.1 hy with hy | hy
  ·exact hall y hy
  . rw [e] at hy
    obtain rfl:=hL.1 hy;refine ⟨λh=>?_,λh=>?_⟩
    ·rw [h] at ef;cases ef
    . obtain ⟨⟨h2,Y⟩,ar⟩:=kV
      refine ⟨h2,I,?_⟩;rw [<- NY (by first | (simp [h2];omega) | simp [h2,Y])];exact ar
 refine az ?_;refine L1 ?_;exact aBi
end Go.Proofs.YthiafbkolhnadaaGreatDoor
end
section
namespace Go.Proofs.YthiafbkolhnadaaGreatDoor
open Go Go.Dk Go.RowKit Go.Lib
attribute [local irreducible] Go.wpList Go.Code.wp Go.bodyPost Go.wpStill Go.wpQuiet
theorem aIz (v:Value)(l:List Stp)(w0:World)(hv:Pth w0 v l)(hl:l.length<=1000000)(aH:ou l):Fc W 15 [v] w0 (λu _=>u=.bool true):=by
 refine (bB6 v l w0 hv I).mono ?_;rintro u w' _ ⟨b,rfl,hb⟩;rw [hb.2 aH]
theorem bBp (x key:List UInt8)(w0:World)(hs:x.length<=1000000)(hk:KeyR x key)(hx:isBare x\/((x.getD 0 0).toNat=34/\∃ o,Quo x (0,o,x.length))):Fc W 128 [M x] w0 (λv _=>v=(M key)):=by
 refine (S8 x w0 hs (aR4 hx)).mono ?_;rintro v w' _ ⟨Cc,rfl,h1,h2⟩;rw [aR2 hk hx h1 h2]
theorem bC0 (v:V)(cs:List Value)(s:Stp)(i:Nat)(w0:World)(hv:Vw w0 v cs)(h:aCh v s i):Fc W 210 [.agg cs.toArray,.agg (e6 s).toArray] w0 (λu _=>u=.tuple #[J i,J 0]):=by
 obtain ⟨ol,uo,um,rfl,aQv,⟨la,lc,lb,rfl,ie,ez,j2⟩,⟨kF,iR,oN,rfl,oU,oT,IK⟩⟩:=hv.form;unfold e6;refine aI Tryz.func210 B Tryz.ntmps210 B ?_;have G:=Ctx.start w0;refine ag ?_;refine bE ?_;intro b2 w G di e3;refine bE ?_;intro b3 w G eE gr;refine cK ?_;refine Z (λfm=>?_) (λfm=>?_)
 ·obtain ⟨_,hk,aQf,hS⟩:s.byIndex=true/\v.sc.kind=6/\s.index=(i:Int)/\i<v.list.length:=by
   rcases h with h | ⟨h,_⟩
   ·exact h
   ·rw [h] at fm;cases fm
  refine aG ?_;refine Z (λfW=>?_) (λfW=>?_)
  ·exfalso;omega
  refine i6 ?_;refine aN B B B a8 (λhc=>hJ B l2 oB) ?_;refine ae ?_;refine Z (λjJ=>?_) (λjJ=>?_)
  ·exfalso;omega
  refine aq ?_;refine S B B (av (v:=.int .i64 (s.index)) B B) ?_;refine ae ?_;refine dY Tryz.results210 B B ?_;exact ⟨G.ext,Kw B (aD (Value.int .i64) aQf) B⟩
 obtain ⟨_,hk,hz,⟨cUz,xt⟩,hd⟩:=h.resolve_left (λh2=>by rw [h2.1] at fm;cases fm);have hS:=(bT.1 xt).1;refine bz ?_;refine Z (λgL=>?_) (λgL=>?_)
 ·exfalso;omega
 refine aG ?_;refine bu (λg f ah=>∃ (j:Nat),g=i+1-j/\(j<=i)/\f 6=J j/\f 2=ao b2 0/\f 3=ao b3 0/\Cxr w0 ah [(b3,aa 107 [.bool (s.byIndex),.string s.key,.int .i64 (s.index)]),(b2,aa 83 [.int .i64 (v.sc.kind),.bool (v.sc.b),.bool (v.sc.neg),.string v.sc.dig,.int .i64 (v.sc.exp),.int .i64 (v.sc.tk),.int .i64 (v.sc.td),.int .i64 (v.sc.tn),.int .i64 (v.sc.tz),.string v.sc.text,ol,.slice la v.list.length lc,.slice kF v.fields.length iR])] []) ((λ(j:Nat)=>i+1-j) 0) ?_ ?_
 ·exact QS
 intro Ut f w ai;obtain ⟨j,bPt,ax,aL,aE,aR,G⟩:=ai;refine cK ?_;refine Z (λje=>?_) (λje=>?_)
 ·have tN:j<v.fields.length:=I;obtain ⟨z,oZ⟩:∃ z,v.fields[j]?=some z:=⟨_,bS I⟩;obtain ⟨cU9,bWc,cRs⟩:=IK j z oZ;refine an ?_;refine iu ?_;intro w G B1;refine x9 ?_;refine dP B B (cT qd Ku B (show _=Value.slice (some ⟨oN,0,none⟩) v.fields.length iR by rw [<- oT I];rfl) B I I) ?_;refine ST ?_;refine dP B B (br B B aF B ((bWc.up G.ext).cell 0 B)) ?_;refine lj ?_;refine dP B B (aXi B B B) ?_;refine ST ?_;refine Z (λkV=>?_) (λkV=>?_)
  ·have EC:j=i:=nA λh2=>hd j z I oZ kV
   subst EC;refine ae ?_;refine Ry ?_;refine ae ?_;refine dY Tryz.results210 B B ?_;exact gC
  have EC:j≠i:=λh2=>by subst h2;rw [xt] at oZ;cases oZ;exact kV B
  refine an ?_;refine As ?_;refine ab ?_;exact ⟨_,_,I,B,j+1,B,I,aJ,aE,aR,G⟩
 exfalso;omega
theorem bC1 (v x:V)(cs:List Value)(i:Nat)(rY w0:World)(Ns:Below rY.heap.size rY w0)(hv:Vw rY v cs)(h:aHn v i x):Fc W 211 [.agg cs.toArray,J i] w0 (λu _=>∃ mN,u=.agg mN.toArray/\Vw rY x mN):=by
 obtain ⟨ol,uo,um,rfl,aQv,⟨la,lc,lb,rfl,ie,ez,j2⟩,⟨kF,iR,oN,rfl,oU,oT,IK⟩⟩:=hv.form;refine aI Tryz.func211 B Tryz.ntmps211 B ?_;have G:=Ctx.start w0;refine ag ?_;refine bE ?_;intro b2 w G di e3;refine fD ?_;intro bp w G gW gN;refine bz ?_;refine Z (λiB=>?_) (λiB=>?_)
 ·obtain ⟨hk,xt⟩:v.sc.kind=6/\v.list[i]?=some x:=by
   rcases h with h | ⟨h,_⟩
   ·exact h
   ·exact absurd iB h
  have hS:=(bT.1 xt).1;obtain ⟨mN,qC,eO⟩:=j2 i x xt;obtain ⟨b1,gj,db,rfl,_⟩:=eO.form;refine aq ?_;refine S B B (cT oB c6 B (show _=Value.slice (some ⟨lb,0,none⟩) v.list.length lc by rw [<- ez I];rfl) B I I) ?_;refine S B B (cG (l:=vrow x.sc b1 gj db) B B fb B c6 ((qC.up Ns).up G.ext) B) ?_;refine bn G 0 B B B B B B c6 B eO.one ?_;intro w G jh;exact aBt
 obtain ⟨hk,key,xt⟩:=h.resolve_left (λh2=>iB h2.1);have hS:=(bT.1 xt).1;obtain ⟨mN,qC,eO⟩:=IK i (key,x) xt;obtain ⟨b1,gj,db,rfl,_⟩:=eO.form;refine az ?_;refine S B B (cT qd Ku B (show _=Value.slice (some ⟨oN,0,none⟩) v.fields.length iR by rw [<- oT I];rfl) B I I) ?_;refine ab ?_;refine S B B (cG (l:=vrow x.sc b1 gj db) B B fb B c6 (((qC.up Ns).up G.ext).tlQ) B) ?_;refine bn G 0 B B B B B B c6 B eO.one ?_;intro w G ig;exact aBt
theorem aIy (v:V)(cs:List Value)(p:List Stp)(ed:Value)(w0:World)(js:Vw w0 v cs)(hp:Pth w0 ed p)(aH:ou p)(bPm:Fnd v p):Fc W 146 [.agg cs.toArray,ed] w0 (λu _=>∃ (x:V) (mN:List Value),u=.tuple #[.agg mN.toArray,J 0]/\Vw w0 x mN):=by
 obtain ⟨cTu,cTz,cTx,rfl,_⟩:=js.form;obtain ⟨fP,eV,vG,uj,rfl,jP,cu⟩:=hp.form;refine aI Tryz.func146 B Tryz.ntmps146 B ?_;have G:=Ctx.start w0;have aOg:=aH.1;refine ag ?_;refine bE ?_;intro b2 w G di e3;refine fD ?_;intro bp w G gW gN;refine az ?_;refine bo G (aIz _ p _ (hp.up G.ext) I aH) Tryz.func15 B B B B B B ?_;intro w G xn;refine ag ?_;refine cn B (λfW=>?_) (λfW=>?_)
 ·exact absurd fW (by simp)
 refine aG ?_;refine bu (λg f ah=>∃ (i:Nat) (x:V) (ol uo um:Value),g=p.length-i/\(i<=p.length)/\(Vw w0 x (vrow x.sc ol uo um))/\(Fnd x (p.drop i))/\f 6=J i/\f 1=.slice fP p.length eV/\f 2=ao b2 0/\f 4=ao bp 0/\Cxr w0 ah [(bp,aa 83 [J 0,.bool (false),.bool (false),M [],J 0,J 0,J 0,J 0,J 0,M [],al,al,al]),(b2,aa 83 [.int .i64 (x.sc.kind),.bool (x.sc.b),.bool (x.sc.neg),.string x.sc.dig,.int .i64 (x.sc.exp),.int .i64 (x.sc.tk),.int .i64 (x.sc.td),.int .i64 (x.sc.tn),.int .i64 (x.sc.tz),.string x.sc.text,ol,uo,um])] []) ((λ(i:Nat)=>p.length-i) 0) ?_ ?_
 ·exact ⟨0,v,_,_,_,B,bU _,js,bPm,aJ,B,B,B,G⟩
 intro pC f w ai;obtain ⟨i,x,ol,uo,um,EA,hi,hv,Ez,aL,aK,aE,aM,G⟩:=ai;refine bz ?_;refine Z (λc8=>?_) (λc8=>?_)
 ·obtain ⟨s,hs,hdr⟩:=aWc (p:=p) (i:=i) I;rw [hdr] at Ez;obtain ⟨pO,bj,Vh,aPw,bPn⟩:=Ez.inv;refine an ?_;refine ei G (G.pick1 1 B) mixed [(0,20),(1,21),(2,22),(3,23),(4,24)] #[true,true,true,true,true,false,false,false,false,false,false] ac ac ac ac ?_;refine lk ?_;refine G5 ?_;refine bw B (bx B) (λw G=>cG (l:=e6 s) B B Tryz.underlying107 B lM ((cu i s hs).up G.ext) B) ?_;refine cW ?_;intro w G JB;refine kb ?_;refine bo G (bC0 x _ s pO _ (hv.up G.ext) Vh) Tryz.func210 B B B B B B ?_;intro w G tX;refine dQ ?_;refine li ?_;refine ej ?_;refine fR (i:=7) (j:=8) ac B B ?_ ?_
  ·refine ej ?_;refine fR (i:=8) (j:=9) ac B B ?_ ?_
   ·exact ZJ
   refine S B B (av (v:=(J pO)) B B) ?_;refine dQ ?_;refine mP ?_;refine ab ?_;exact Zq
  refine ej ?_;refine lh ?_;exact ZJ
 refine an ?_;refine bn G 0 B B B aM B B c6 B hv.one ?_;intro w G lI;refine ae ?_;refine io Tryz.results146 aM B (G.at 0 B) fb B c6 ?_;exact ⟨G.ext,x,_,B,hv⟩
theorem bGb (t u:T)(tail:List UInt8)(cs:List Value)(p:List Stp)(idx:List Nat)(off:Nat)(ed:Value)(w0:World)(js:Nw w0 (.mk 1 [] [] [t] tail) cs)(jL:Ck 1 (.mk 1 [] [] [t] tail))(qq:Gt t)(yQ:(T.mk 1 [] [] [t] tail).count<=524288)(kK:(T.mk 1 [] [] [t] tail).print.length<=400000)(dc:Pd cx (T.mk 1 [] [] [t] tail).print 48 65536 1048576 1024 65536 (.inr (.mk 1 [] [] [t] tail)))
 (hp:Pth w0 ed p) (aH:ou p) (I1:Lc t p idx u off):Ret W 87 [.agg cs.toArray,ed] w0 (λr w'=>∃ (gw:Value) (rs:List Row),r=.tuple #[gw,J 0]/\Cxr w0 w' [] (⟨3,1,gw,(0::idx).length,(0::idx).map λk=>((J k):Value)⟩::rs)):=by
 obtain ⟨JU,zo,zn,rfl,EG,EE⟩:=js.kids2;obtain rfl:=EG AF;obtain ⟨cFb,ms,nY⟩:=EE 0 t rfl;obtain ⟨aSa,aSb,bW4,rfl,bQ4,bQt⟩:=ms.kids2;obtain ⟨fP,eV,vG,uj,rfl,jP,cu⟩:=hp.form;refine aI Tryz.func87 B Tryz.ntmps87 B ?_;have G:=Ctx.start w0;have aOg:=aH.1;have aQn:t.count<=524288/\t.print.length<=400000:=xx (t:=.mk 1 [] [] [t] tail) (i:=0) B |>.imp (λh=>nI h yQ) λh=>nI h kK
 refine ag ?_;refine bE ?_;intro b2 w G di e3;refine aG ?_;refine bo G (bB3 (.mk 1 [] [] [t] tail) _ _ (js.up G.ext) jL yQ kK dc) Tryz.func145 B B B B B B ?_;intro w G oX;refine ae ?_;refine aC7 ?_;intro w G Ou;refine ae ?_;refine cn B (λct=>?_) (λct=>?_)
 ·exact absurd ct (by simp)
 refine az ?_;refine RT ?_;refine aF5 ?_;refine bW (aXq qq I I _ _ (ms.up G.ext)) Tryz.func75 B B B B B B ?_;rintro rV w ⟨v,cells,rs,rfl,mw,dH,cq⟩;replace G:=G.callRows cq;simp only [cH] at G;obtain ⟨cS,cZ,c0,rfl,gM,gi,iV⟩:=dH.form G;refine ab ?_;refine bG G (aIy v _ p _ _ (dH.vw G) (hp.up G.ext) aH (I1.fd I mw)) Tryz.func146 B B B B B B ?_;intro aUk w G Ov EP;obtain ⟨fq,cHw,rfl,Jv⟩:=EP;obtain ⟨Il,Iq,Ip,rfl,_⟩:=Jv.form;refine ae ?_;refine fD ?_;intro bq w G gX hF;refine bn G 0 B B B B B B c6 B Jv.one ?_;intro w G ig;refine mQ ?_;refine az ?_;refine Z (λje=>?_) (λje=>?_)
 ·exfalso;omega
 refine ae ?_;refine C4 ?_;intro cI6 w G aNh B0;replace G:=G.toRow (size:=1) (k:=1) B (by decide);refine az ?_;refine RT ?_;refine aF5 ?_;refine dv ?_;intro eZ w G rp tY;refine s7 ?_;intro w G iD;refine aG ?_;refine bu (λg f ah=>∃ (i:Nat) (c:T) (la:Option Addr) (lc lb:Nat) (ub:List Nat) (zA:Nat) (gw:Value) (et:List Nat),g=p.length-i/\(i<=p.length)/\(Nw w0 c (nrow c.kind c.lead c.text (.slice la c.kids.length lc) c.tail))/\(0<c.kids.length->la=some ⟨lb,0,none⟩)/\(∀ (i:Nat) (u:T),c.kids[i]?=some u->∃ ecs,Nw w0 u ecs/\RowAt w0 lb (0+i*5) ecs)/\(Lc c (p.drop i) ub u zA)/\(et++ub=0::idx)/\(c.count<=524288)/\(c.print.length<=400000)/\(et.length<=2*i+1)/\f 10=J i/\f 8=gw/\f 1=.slice fP p.length eV/\f 4=al/\f 5=J 0/\f 9=ao eZ 0/\Cxr w0 ah [(eZ,aa 72 [J c.kind,M c.lead,M c.text,.slice la c.kids.length lc,M c.tail]),(bq,aa 83 [.int .i64 (fq.sc.kind),.bool (fq.sc.b),.bool (fq.sc.neg),.string fq.sc.dig,.int .i64 (fq.sc.exp),.int .i64 (fq.sc.tk),.int .i64 (fq.sc.td),.int .i64 (fq.sc.tn),.int .i64 (fq.sc.tz),.string fq.sc.text,Il,Iq,Ip]),(b2,aa 72 [J 1,M [],M [],.slice (some ⟨zn,0,none⟩) 1 zo,M tail])] (⟨3,1,gw,et.length,et.map λk=>((J k):Value)⟩::rs)) ((λ(i:Nat)=>p.length-i) 0) ?_ ?_
 ·exact ⟨0,t,aSa,aSb,bW4,idx,off,_,[0],B,bU _,ms,bQ4,bQt,I1,B,aQn.1,aQn.2,by decide,aJ,B,B,B,B,B,G⟩
 intro so f w ai;obtain ⟨i,c,la,lc,lb,ub,zA,gw,et,IP,hi,hv,ez,dN,hlc,EM,Bu,bOy,bRx,cp,bb,aK,aM,bF,b6,G⟩:=ai;refine bz ?_;refine Z (λwW=>?_) (λwW=>?_)
 ·obtain ⟨s,hs,hdr⟩:=aWc (p:=p) (i:=i) I;rw [hdr] at hlc;obtain ⟨k,rY,e,x,bWe,bY6,rfl,U7,Xi,bQ5,Bj⟩:=hlc.step;obtain ⟨ecs,ds,cz⟩:=dN k e U7;obtain ⟨JV,Ft,JW,rfl,I0,IX⟩:=ds.kids2;obtain ⟨mN,aRl,bV2⟩:=IX rY x Xi;obtain ⟨O1,JX,XB,rfl,VB,Vy⟩:=aRl.kids2;have lE:=(bT.1 U7).1;have cRh:=(bT.1 Xi).1;have Ok:=xx U7;have aQc:=xx Xi;have ED:=OX c;have cOh:=OX e;refine aG ?_;refine L2 ?_;refine ab ?_;refine S B B (br B B dq B (((cu i s hs).up G.ext).cell 2 B)) ?_;refine S B B (av (v:=.int .i64 (s.index)) B B) ?_;refine ag ?_;refine cw (λf ah=>f 11=J k/\f 12=J rY/\f 1=.slice fP p.length eV/\f 4=al/\f 5=J 0/\f 8=gw/\f 9=ao eZ 0/\f 10=J i/\Cxr w0 ah [(eZ,aa 72 [J c.kind,M c.lead,M c.text,.slice la c.kids.length lc,M c.tail]),(bq,aa 83 [.int .i64 (fq.sc.kind),.bool (fq.sc.b),.bool (fq.sc.neg),.string fq.sc.dig,.int .i64 (fq.sc.exp),.int .i64 (fq.sc.tk),.int .i64 (fq.sc.td),.int .i64 (fq.sc.tn),.int .i64 (fq.sc.tz),.string fq.sc.text,Il,Iq,Ip]),(b2,aa 72 [J 1,M [],M [],.slice (some ⟨zn,0,none⟩) 1 zo,M tail])] (⟨3,1,gw,et.length,et.map λk=>((J k):Value)⟩::rs)) ?_ ?_
  ·refine an ?_;refine L2 ?_;refine ab ?_;refine S B B (br B B pr B (((cu i s hs).up G.ext).cell 0 B)) ?_;refine ag ?_;refine Z (λkH=>?_) (λkH=>?_)
   ·obtain ⟨_,aRi,pK⟩:=Bj.resolve_left (λh=>by rw [h.1] at kH;exact absurd kH (by decide));subst aRi;refine cK ?_;refine bu (λg f ah=>∃ (j:Nat),g=k+1-j/\(j<=k)/\f 11=J j/\f 1=.slice fP p.length eV/\f 4=al/\f 5=J 0/\f 8=gw/\f 9=ao eZ 0/\f 10=J i/\f 12=J 2/\Cxr w0 ah [(eZ,aa 72 [J c.kind,M c.lead,M c.text,.slice la c.kids.length lc,M c.tail]),(bq,aa 83 [.int .i64 (fq.sc.kind),.bool (fq.sc.b),.bool (fq.sc.neg),.string fq.sc.dig,.int .i64 (fq.sc.exp),.int .i64 (fq.sc.tk),.int .i64 (fq.sc.td),.int .i64 (fq.sc.tn),.int .i64 (fq.sc.tz),.string fq.sc.text,Il,Iq,Ip]),(b2,aa 72 [J 1,M [],M [],.slice (some ⟨zn,0,none⟩) 1 zo,M tail])] (⟨3,1,gw,et.length,et.map λk=>((J k):Value)⟩::rs)) ((λ(j:Nat)=>k+1-j) 0) ?_ ?_
    ·exact ⟨0,B,bU _,aJ,aK,aM,bF,bb,b6,cp,B,G⟩
    intro Uu f w ai;obtain ⟨j,bPu,ax,cv,aK,aM,bF,bb,b6,cp,cV,G⟩:=ai;obtain ⟨aLe,ij,key,U6,gh,pJ,nj,bt,bPi⟩:=pK j I;obtain ⟨cRw,bQd,bQe⟩:=dN j aLe U6;obtain ⟨cRz,bW5,bW3,rfl,bQ3,bQs⟩:=bQd.kids2;obtain ⟨Fq,EF,bQy⟩:=bQs 0 ij gh;obtain ⟨cR0,cR2,cR1,rfl,_,_⟩:=EF.kids2;have tN:=(bT.1 U6).1;have cOc:=(bT.1 gh).1;have Vr:=xx U6;have cOd:=xx gh;have cOn:ij.text.length<=ij.print.length:=by cases ij;rw [dX];simp only [aQ,T.text];omega
    refine ag ?_;refine ei G (G.pick1 0 B) mixed [(0,56),(1,57),(2,58),(3,59),(4,60),(5,61),(6,62),(7,63),(8,64),(10,66),(11,67),(12,68),(13,69),(14,70)] #[true,true,true,true,true,true,true,true,true,false,true,true,true,true,true,false] ac ac ac ac ?_;refine lk ?_;refine Sk ?_;refine eY ?_;refine bw B (bx B) (λw G=>br B B dx B ((bQe.up G.ext).cell 3 B)) ?_;refine bw B (bx B) (λw G=>cT dx bA B (show _=Value.slice (some ⟨bW3,0,none⟩) aLe.kids.length bW5 by rw [<- bQ3 I];rfl) B I I) ?_;refine eY ?_;refine bw B (bx B) (λw G=>br B B aF B ((bQy.up G.ext).cell 2 B)) ?_;refine kC ?_;refine G5 ?_;refine eY ?_;refine bw B (bx B) (λw G=>br B B aF B (((cu i s hs).up G.ext).cell 1 B)) ?_;refine cW ?_;intro w G aRc;refine qV ?_;refine bo G (bBp ij.text key _ I pJ nj) Tryz.func128 B B B B B B ?_;intro w G bU6;refine gS ?_;refine Af ?_;refine S B B (wa B B B) ?_;refine hY ?_;refine cn B (λnh=>?_) (λnh=>?_)
    ·simp only [kP,decide_eq_false_iff_not] at nh;have st:j≠k:=λh=>nh (bPi h)
     refine aG ?_;refine As ?_;refine ab ?_;exact ⟨_,_,I,B,j+1,B,I,aJ,aK,aM,bF,bb,b6,cp,cV,G⟩
    simp only [Bool.not_eq_false',decide_eq_true_eq] at nh;have st:j=k:=nA λh=>bt I nh
    refine ab ?_;rw [st] at cv;exact ⟨_,B,cv,cV,aK,aM,bF,bb,b6,cp,G⟩
   obtain ⟨_,aQf,aRi⟩:=Bj.resolve_right (λh=>by rw [h.1] at kH;exact absurd kH (by decide));refine ab ?_;exact ⟨_,B,aJ,aJ,aK,aM,bF,bb,b6,cp,G⟩
  intro f w ai;obtain ⟨cv,cV,aK,aM,bF,bb,b6,cp,G⟩:=ai;refine aq ?_;refine aVs G Tryz.underlying167 bN z3 B B B B B B B ?_;intro aZy w G Iy OD;refine Rj ?_;intro Y1 w G bP6;replace G:=G.drop 1;refine az ?_;refine aFz ?_;refine ab ?_;refine Sj ?_;refine ab ?_;refine S B B (cT dx bA B (show _=Value.slice (some ⟨JW,0,none⟩) e.kids.length Ft by rw [<- I0 I];rfl) B I I) ?_;refine S B B (cG (l:=nrow x.kind x.lead x.text (.slice O1 x.kids.length JX) x.tail) B B de B bA (bV2.up G.ext) B) ?_;refine bn G 0 B B B b6 B B bA B (lL B) ?_;intro w G xp;refine qZ ?_;exact ⟨_,_,I,B,i+1,x,O1,JX,XB,bWe,bY6,_,et++[k,rY],B,I,aRl,VB,Vy,bQ5,(by rw [<- EM,eB];rfl),I,I,(by rw [aQ];show et.length+2<=_;omega),aJ,B,aK,aM,bF,b6,((G.drop 0).row_eq Px (by rw [kc];rfl))⟩
 refine bz ?_;refine dY Tryz.results87 B B ?_;have nU:p.drop i=[]:=q0 I;rw [nU] at hlc;have y7:ub=[]:=by cases hlc;rfl
 rw [y7,cH] at EM;subst EM;exact ⟨gw,rs,B,G.drop 3⟩
end Go.Proofs.YthiafbkolhnadaaGreatDoor
end
section
namespace Go.Dk
open Go Go.RowKit Go.Lib Go.Proofs.YthiafbkolhnadaaGreatDoor
variable {v:V}{p:List Stp}{w0 w:World}{L:List (Nat×Obj)}{ea rs:List Row}{t:Nat}{dd:List Value}
def qe:Nat->V->List Stp->Nat->List (List Stp)
 | 0,_,_,_=>[]
 | d+1,v,p,i=>(v.list.take i).zipIdx.flatMap λx=>uV d x.1 (p++[⟨true,⟨#[]⟩,(x.2:Int)⟩])
def q6:Nat->V->List Stp->Nat->List (List Stp)
 | 0,_,_,_=>[]
 | d+1,v,p,i=>(v.fields.take i).flatMap λf=>uV d f.2 (p++[⟨false,f.1,0⟩])
theorem xQ (D:Nat)(v:V)(p:List Stp):uV D v p=p::(qe D v p v.list.length++q6 D v p v.fields.length):=by
 cases D with
 | zero=>rfl
 | succ d=>rw [uV,qe,q6,nG,nG]
theorem aHt {d:Nat}{x:V}{i:Nat}(h:v.list[i]?=some x):qe (d+1) v p (i+1)=qe (d+1) v p i++uV d x (p++[⟨true,⟨#[]⟩,(i:Int)⟩]):=by
 have hi:=(bT.1 h).1;have hl:(v.list.take i).length=i:=by rw [dS];omega
 rw [qe,qe,List.take_add_one,h];show ((v.list.take i++[x]).zipIdx).flatMap _=_;rw [List.zipIdx_append,List.flatMap_append,hl];simp
theorem aHs {d:Nat}{x:ByteArray×V}{i:Nat}(h:v.fields[i]?=some x):q6 (d+1) v p (i+1)=q6 (d+1) v p i++uV d x.2 (p++[⟨false,x.1,0⟩]):=by
 rw [q6,q6,List.take_add_one,h];show (v.fields.take i++[x]).flatMap _=_;rw [List.flatMap_append];simp
theorem aZd (D:Nat)(v:V)(p:List Stp):qe D v p 0=[]:=by cases D <;> simp [qe]
theorem aZb (D:Nat)(v:V)(p:List Stp):q6 D v p 0=[]:=by cases D <;> simp [q6]
theorem YO {α z6:Type}(f:α->List z6):∀ (l:List α) (i j:Nat),i<=j->((l.take i).flatMap f).length<=((l.take j).flatMap f).length
 | [],_,_,_=>by simp
 | a::l,0,j,_=>by simp
 | a::l,i+1,0,h=>I
 | a::l,i+1,j+1,h=>by
  simp only [jG,gE,aQ];have:=YO f l i j I;omega
theorem Zo {α:Type}:∀ (l:List α) (i n:Nat),(l.take i).zipIdx n=(l.zipIdx n).take i
 | [],i,n=>by simp
 | a::l,0,n=>by simp
 | a::l,i+1,n=>by simp [Zo l i (n+1)]
theorem aZc (D:Nat)(v:V)(p:List Stp)(i:Nat)(h:i<=v.list.length):(qe D v p i).length<=(qe D v p v.list.length).length:=by
 cases D with
 | zero=>exact bV _
 | succ d=>rw [qe,qe,Zo,Zo];exact YO _ _ _ _ h
theorem aZa (D:Nat)(v:V)(p:List Stp)(i:Nat)(h:i<=v.fields.length):(q6 D v p i).length<=(q6 D v p v.fields.length).length:=by
 cases D with
 | zero=>exact bV _
 | succ d=>rw [q6,q6];exact YO _ _ _ _ h
theorem Un {α z6:Type}(f:α->List z6)(hf:∀ x,0<(f x).length):∀ l:List α,l.length<=(l.flatMap f).length
 | []=>bV _
 | a::l=>by
  rw [gE,aQ,cf];have:=Un f hf l;have:=hf a;omega
theorem aWy (D:Nat)(v:V)(p:List Stp):0<(uV D v p).length:=by rw [xQ];simp
theorem cF5 {D:Nat}(h:dV D v):v.list.length+v.fields.length<(uV D v p).length:=by
 cases D with
 | zero=>rw [h.1,h.2,uV];exact AF
 | succ d =>
  rw [uV,cf,aQ];have h1:=Un (λx:V×Nat=>uV d x.1 (p++[⟨true,⟨#[]⟩,(x.2:Int)⟩])) (λx=>aWy _ _ _) v.list.zipIdx;have h2:=Un (λf:ByteArray×V=>uV d f.2 (p++[⟨false,f.1,0⟩])) (λx=>aWy _ _ _) v.fields;rw [List.length_zipIdx] at h1;omega
theorem Cxr.row0{r:Row}(G:Cxr w0 w L (r::ea)):Cxr w0 w [] [r]:=Cxr.rightQ (A:=[]) (Cxr.leftQ (A:=[r]) G)
theorem Cxr.tail0{r:Row}(G:Cxr w0 w [] (r::ea)):Cxr w0 w [] ea:=Cxr.rightQ (A:=[r]) G
def PLs (t:Nat)(rs:List Row)(dd:List Value)(qs:List (List Stp)):Prop:=dd.length=qs.length/\∀ (i:Nat) (q:List Stp) (il:Value),qs[i]?=some q->dd[i]?=some il->LR rs t 3 il q.length (q.flatMap e6)
theorem PLs.nil (t:Nat)(rs:List Row):PLs t rs [] []:=⟨rfl,λi q il h=>by simp at h⟩
theorem PLs.mono{rs2:List Row}{qs:List (List Stp)}(pD:∀ r∈rs,r∈rs2)(h:PLs t rs dd qs):PLs t rs2 dd qs:=⟨h.1,λi q il h1 h2=>(h.2 i q il h1 h2).mono pD⟩
theorem PLs.app{a b:List Value}{c d:List (List Stp)}(h:PLs t rs a c)(h2:PLs t rs b d):PLs t rs (a++b) (c++d):=by
 refine ⟨by rw [aQ,aQ,h.1,h2.1],λi q il Y ar=>?_⟩;rcases ma i a.length with hi | hi
 . rw [l9 (by rw [<- h.1];exact hi)] at Y
   rw [l9 hi] at ar;exact h.2 i q il Y ar
 . rw [pj (by rw [<- h.1];exact hi),<- h.1] at Y
   rw [pj hi] at ar;exact h2.2 _ q il Y ar
theorem PLs.cons{il:Value}{q:List Stp}{qs:List (List Stp)}(ap:LR rs t 3 il q.length (q.flatMap e6))(h:PLs t rs dd qs):PLs t rs (il::dd) (q::qs):=by
 refine ⟨by rw [cf,cf,h.1],λi fi Yr Y ar=>?_⟩
 cases i with
 | zero=>cases Y;cases ar;exact ap
 | succ i=>exact h.2 i fi Yr (by simpa using Y) (by simpa using ar)
theorem PLs.one{qs:List (List Stp)}(h:PLs t rs dd qs)(G:Cxr w0 w L rs):dd.all (·.oneCell')=true:=by
 rw [p7];intro x hx;obtain ⟨i,hi⟩:=jX hx;have b8:=(bT.1 hi).1;obtain ⟨q,aw⟩:∃ q,qs[i]?=some q:=⟨_,bS (by rw [<- h.1];exact b8)⟩;exact (h.2 i q x aw hi).one G
theorem Cxr.grabO{A:List Row}{q o:Row}(h:Cxr w0 w L (A++(q::o::ea))):Cxr w0 w L (o::q::(A++ea)) :=
 h.permR ((tf).trans ((List.Perm.cons _ tf).trans (List.Perm.swap _ _ _)))
end Go.Dk
end
section
namespace Go.Proofs.YthiafbkolhnadaaGreatDoor
open Go Go.Dk Go.RowKit Go.Lib
attribute [local irreducible] Go.wpList Go.Code.wp Go.bodyPost Go.wpStill Go.wpQuiet
variable {s x:List UInt8}{d:Dl}{D N i nd off err o e a c q fN eM:Nat}{h:Bool}
theorem aIx (p:List Stp)(ed:Value)(s:Stp)(w0:World)(hp:Pth w0 ed p)(hl:p.length<=1000):Ret W 144 [ed,.agg (e6 s).toArray] w0 (λu w'=>Cxr w0 w' [] [⟨107,3,u,p.length+1,(p++[s]).flatMap e6⟩]):=by
 obtain ⟨la,lc,Wo,UU,Jn⟩:∃ (la:Option Addr) (lc:Nat),ed=.slice la p.length lc/\(la=none->lc=0)/\∀ w,Below w0.heap.size w0 w->0<p.length->∃ b off,la=some ⟨b,off,none⟩/\RowAt w b off (p.flatMap e6):=by
  exact aAd
 have xr:=Wo;refine aI Tryz.func144 B Tryz.ntmps144 B ?_;have G:=Ctx.start w0;refine dR ?_;refine bE ?_;intro b3 w G eE gr;refine DB ?_;refine cDa G lp lM B B B ?_;intro bq w G gX hF;refine eW ?_;replace G:=G.toRow (size:=3) (k:=0) B (by decide);refine Yz G TZ lp B B B B xr UU (λh=>Jn _ (G.ext) h) (If _) (aMe _) I ?_;intro vX w G;refine yg ?_;refine S B B (cG B B Tryz.underlying107 B lM (G.row 0 B) B) ?_;refine K3 ?_;intro da w G tD pN;refine aDf ?_;intro v12 w G cM0;replace G:=G.drop 1;refine qY ?_;refine be Tryz.results144 B ?_;exact ZK
def Mp (D:Nat):Prop:=∀ (v:V) (cells:List Value) (p:List Stp) (ed:Value) (w0:World),Vw w0 v cells->dV D v->Pth w0 ed p->p.length+D<=500->(uV D v p).length<=1000000 ->
 Ret W 86 [.agg cells.toArray,ed] w0 (λu w'=>∃ (dd:List Value) (rs:List Row),Cxr w0 w' [] (⟨28,1,u,(uV D v p).length,ed::dd⟩::rs)/\PLs 107 rs dd (uV D v p).tail)
theorem aJy (D:Nat)(yM:∀ d,D=d+1->Mp d):Mp D:=by
 unfold Mp;intro v cells p ed w0 hv hd hp dc cP1;obtain ⟨ol,uo,um,rfl,aQv,⟨la,lc,lb,rfl,ie,ez,j2⟩,⟨kF,iR,oN,rfl,oU,oT,IK⟩⟩:=hv.form;obtain ⟨fP,eV,vG,uj,rfl,jP,cu⟩:=hp.form;refine aI Tryz.func86 B Tryz.ntmps86 B ?_;have G:=Ctx.start w0;have nW:=cF5 (p:=p) hd;have bUn:=aD eC (xQ D v p);rw [cf,aQ] at bUn;refine ag ?_;refine bE ?_;intro b2 w G di e3;refine aq ?_;refine vL G Tryz.underlying98 zK cIb B B B B B B B B ?_;intro eZ w G rp tY;replace G:=G.toRow (size:=1) (k:=1) B (by decide);refine bz ?_;refine bu (λg f ah=>∃ (i:Nat) (gw:Value) (dd:List Value) (rs:List Row),g=v.list.length-i/\(i<=v.list.length)/\(PLs 107 rs dd (qe D v p i))/\f 6=J i/\f 5=gw/\f 1=.slice fP p.length eV/\f 2=ao b2 0/\f 4=al/\Cxr w0 ah [(b2,aa 83 [.int .i64 (v.sc.kind),.bool (v.sc.b),.bool (v.sc.neg),.string v.sc.dig,.int .i64 (v.sc.exp),.int .i64 (v.sc.tk),.int .i64 (v.sc.td),.int .i64 (v.sc.tn),.int .i64 (v.sc.tz),.string v.sc.text,ol,.slice la v.list.length lc,.slice kF v.fields.length iR])] (⟨28,1,gw,1+dd.length,.slice fP p.length eV::dd⟩::rs)) ((λ(i:Nat)=>v.list.length-i) 0) ?_ ?_
 ·exact ⟨0,_,[],[],B,bU _,(by rw [aZd];exact PLs.nil _ _),aJ,B,B,B,B,G⟩
 intro gJ f w ai;obtain ⟨i,gw,dd,rs,qp,hi,fp,aL,bF,aK,aE,aM,G⟩:=ai;refine cK ?_;refine Z (λgK=>?_) (λgK=>?_)
 ·obtain ⟨x,hx⟩:∃ x,v.list[i]?=some x:=⟨_,bS I⟩;obtain ⟨mN,qC,eO⟩:=j2 i x hx;obtain ⟨b1,gj,db,rfl,_⟩:=eO.form;obtain ⟨d,rfl⟩:∃ d,D=d+1:=by
   cases D with
   | zero=>exfalso;rw [hd.1] at hx;cases hx
   | succ d=>exact ⟨d,rfl⟩
  have U3:=hd.1 x (cb hx);have aPv:=fp.1;have ck:=aD eC (aHt (d:=d) (p:=p) hx);rw [aQ] at ck;have Iv:=aZc (d+1) v p (i+1) I;refine ae ?_;refine ei G (G.pick1 0 B) mixed [(0,17),(1,18),(2,19),(3,20),(4,21),(5,22),(6,23),(7,24),(8,25)] #[true,true,true,true,true,true,true,true,true,false,false,false,false] ac ac ac ac ?_;refine i1 ?_;refine bw B (bx B) (λw G=>cT oB c6 B (show _=Value.slice (some ⟨lb,0,none⟩) v.list.length lc by rw [<- ez I];rfl) B I I) ?_;refine bw B (bx B) (λw G=>cG (l:=vrow x.sc b1 gj db) B B fb B c6 (qC.up G.ext) B) ?_;refine kC ?_;refine bw B (bx B) (λw G=>cd (qs:=[(0,.bool (true)),(2,(J i))]) (SZ _ _) B B) ?_;refine cW ?_;intro w G JA;refine qV ?_;refine bW (aIx p _ (Stp.mk true ⟨#[]⟩ (i:Int)) _ (hp.up G.ext) I) Tryz.func144 B B B B B B ?_;rintro rV w re;replace G:=G.callRows re;simp only [gT,gG] at G;have aP1:=G.oneS;refine gS ?_;refine kQ ?_;have Jl:Pth w rV (p++[Stp.mk true ⟨#[]⟩ (i:Int)]):=LR.pth (e:=107) G.row0 (by rw [show (p++[Stp.mk true ⟨#[]⟩ (i:Int)]).length=p.length+1 by rw [aQ];rfl];exact .inr (b9 ..));refine bW (yM d B x _ (p++[Stp.mk true ⟨#[]⟩ (i:Int)]) rV _ (eO.up G.ext) U3 Jl (by rw [aQ];show p.length+1+d<=500;omega) I) Tryz.func86 B B B B B B ?_;rintro v27 w ⟨uk,rs2,cq,qt⟩;obtain ⟨CI,zP,rfl⟩:=cq.rowSl;obtain ⟨ol,bUi,aQo,aQp,aQs⟩:=cq.rowF;have WM:(uV d x (p++[Stp.mk true ⟨#[]⟩ (i:Int)])).length=uk.length+1:=by rw [xQ,cf,qt.1,xQ,List.tail_cons]
  replace G:=G.callRows cq;replace G:=G.grabO;refine gS ?_;refine mO ?_;refine aC8 ?_;intro KB w G;refine dQ ?_;refine r2 ?_;refine ab ?_;refine DF ?_;have UF:LR (⟨107,3,rV,p.length+1,(p++[Stp.mk true ⟨#[]⟩ (i:Int)]).flatMap e6⟩::((⟨28,1,.slice CI (uV d x (p++[Stp.mk true ⟨#[]⟩ (i:Int)])).length zP,(uV d x (p++[Stp.mk true ⟨#[]⟩ (i:Int)])).length,rV::uk⟩::rs2)++rs)) 107 3 rV (p++[Stp.mk true ⟨#[]⟩ (i:Int)]).length ((p++[Stp.mk true ⟨#[]⟩ (i:Int)]).flatMap e6):=.inr (by rw [show (p++[Stp.mk true ⟨#[]⟩ (i:Int)]).length=p.length+1 by rw [aQ];rfl];exact b9 ..);have Jh:=(fp.mono (rs2:=⟨107,3,rV,p.length+1,(p++[Stp.mk true ⟨#[]⟩ (i:Int)]).flatMap e6⟩::((⟨28,1,.slice CI (uV d x (p++[Stp.mk true ⟨#[]⟩ (i:Int)])).length zP,(uV d x (p++[Stp.mk true ⟨#[]⟩ (i:Int)])).length,rV::uk⟩::rs2)++rs)) λr h=>bP _ (h0 _ h)).app (PLs.cons UF (qt.mono λr h=>bP _ (iM _ (bP _ h))));rw [show (p++[Stp.mk true ⟨#[]⟩ (i:Int)])::(uV d x (p++[Stp.mk true ⟨#[]⟩ (i:Int)])).tail=uV d x (p++[Stp.mk true ⟨#[]⟩ (i:Int)]) by rw [xQ];rfl,<- aHt hx] at Jh;exact ⟨_,_,I,B,i+1,KB,dd++(rV::uk),⟨107,3,rV,p.length+1,(p++[Stp.mk true ⟨#[]⟩ (i:Int)]).flatMap e6⟩::((⟨28,1,.slice CI (uV d x (p++[Stp.mk true ⟨#[]⟩ (i:Int)])).length zP,(uV d x (p++[Stp.mk true ⟨#[]⟩ (i:Int)])).length,rV::uk⟩::rs2)++rs),B,I,Jh,aJ,B,aK,aE,aM,(mg G (by rw [aQ,cf];omega) B)⟩
 refine aG ?_;have bQa:i=v.list.length:=I;rw [bQa] at fp;refine bu (λg f ah=>∃ (i:Nat) (gw:Value) (dd:List Value) (rs:List Row),g=v.fields.length-i/\(i<=v.fields.length)/\(PLs 107 rs dd (qe D v p v.list.length++q6 D v p i))/\f 7=J i/\f 5=gw/\f 1=.slice fP p.length eV/\f 2=ao b2 0/\f 4=al/\Cxr w0 ah [(b2,aa 83 [.int .i64 (v.sc.kind),.bool (v.sc.b),.bool (v.sc.neg),.string v.sc.dig,.int .i64 (v.sc.exp),.int .i64 (v.sc.tk),.int .i64 (v.sc.td),.int .i64 (v.sc.tn),.int .i64 (v.sc.tz),.string v.sc.text,ol,.slice la v.list.length lc,.slice kF v.fields.length iR])] (⟨28,1,gw,1+dd.length,.slice fP p.length eV::dd⟩::rs)) ((λ(i:Nat)=>v.fields.length-i) 0) ?_ ?_
 ·exact ⟨0,gw,dd,rs,B,bU _,(by rw [aZb,cH];exact fp),aJ,bF,aK,aE,aM,G⟩
 intro qi f w ai;obtain ⟨i,gw,dd,rs,IN,hi,fp,aS,bF,aK,aE,aM,G⟩:=ai;refine cK ?_;refine Z (λml=>?_) (λml=>?_)
 ·obtain ⟨e9,hx⟩:∃ x,v.fields[i]?=some x:=⟨_,bS I⟩;obtain ⟨mN,qC,eO⟩:=IK i e9 hx;obtain ⟨b1,gj,db,rfl,_⟩:=eO.form;obtain ⟨d,rfl⟩:∃ d,D=d+1:=by
   cases D with
   | zero=>exfalso;rw [hd.2] at hx;cases hx
   | succ d=>exact ⟨d,rfl⟩
  have U3:=hd.2 e9 (cb hx);have aPv:=fp.1;rw [aQ] at aPv;have ck:=aD eC (aHs (d:=d) (p:=p) hx);rw [aQ] at ck;have Iv:=aZa (d+1) v p (i+1) I;refine ae ?_;refine ei G (G.pick1 0 B) mixed [(0,36),(1,37),(2,38),(3,39),(4,40),(5,41),(6,42),(7,43),(8,44),(9,45),(10,46),(11,47),(12,48),(13,49),(14,50)] #[true,true,true,true,true,true,true,true,true,true,true,true,true,true,true,false,false,false,false] ac ac ac ac ?_;refine i1 ?_;refine aF6 ?_;refine eY ?_;refine bw B (bx B) (λw G=>cG (l:=vrow e9.2.sc b1 gj db) B B fb B c6 ((qC.up G.ext).tlQ) B) ?_;refine i1 ?_;refine aF6 ?_;refine eY ?_;refine bw B (bx B) (λw G=>br B B aF B ((qC.up G.ext).cell 0 B)) ?_;refine bw B (bx B) (λw G=>cd (qs:=[(1,.string e9.1)]) (S2 _) B B) ?_;refine cW ?_;intro w G aRe;refine Af ?_;refine bW (aIx p _ (Stp.mk false e9.1 0) _ (hp.up G.ext) I) Tryz.func144 B B B B B B ?_;rintro v51 w re;replace G:=G.callRows re;simp only [gT,gG] at G;have aP1:=G.oneS;refine gS ?_;refine Gu ?_;have Jl:Pth w v51 (p++[Stp.mk false e9.1 0]):=LR.pth (e:=107) G.row0 (by rw [show (p++[Stp.mk false e9.1 0]).length=p.length+1 by rw [aQ];rfl];exact .inr (b9 ..));refine bW (yM d B e9.2 _ (p++[Stp.mk false e9.1 0]) v51 _ (eO.up G.ext) U3 Jl (by rw [aQ];show p.length+1+d<=500;omega) I) Tryz.func86 B B B B B B ?_;rintro YZ w ⟨uk,rs2,cq,qt⟩;obtain ⟨CI,zP,rfl⟩:=cq.rowSl;obtain ⟨ol,bUi,aQo,aQp,aQs⟩:=cq.rowF;have WM:(uV d e9.2 (p++[Stp.mk false e9.1 0])).length=uk.length+1:=by rw [xQ,cf,qt.1,xQ,List.tail_cons]
  replace G:=G.callRows cq;replace G:=G.grabO;refine gS ?_;refine kA (i:=17) ac B ?_;refine aC8 ?_;intro v53 w G;refine dQ ?_;refine kA (i:=18) ac B ?_;refine ab ?_;refine DF ?_;have UF:LR (⟨107,3,v51,p.length+1,(p++[Stp.mk false e9.1 0]).flatMap e6⟩::((⟨28,1,.slice CI (uV d e9.2 (p++[Stp.mk false e9.1 0])).length zP,(uV d e9.2 (p++[Stp.mk false e9.1 0])).length,v51::uk⟩::rs2)++rs)) 107 3 v51 (p++[Stp.mk false e9.1 0]).length ((p++[Stp.mk false e9.1 0]).flatMap e6):=.inr (by rw [show (p++[Stp.mk false e9.1 0]).length=p.length+1 by rw [aQ];rfl];exact b9 ..);have Jh:=(fp.mono (rs2:=⟨107,3,v51,p.length+1,(p++[Stp.mk false e9.1 0]).flatMap e6⟩::((⟨28,1,.slice CI (uV d e9.2 (p++[Stp.mk false e9.1 0])).length zP,(uV d e9.2 (p++[Stp.mk false e9.1 0])).length,v51::uk⟩::rs2)++rs)) λr h=>bP _ (h0 _ h)).app (PLs.cons UF (qt.mono λr h=>bP _ (iM _ (bP _ h))));rw [show (p++[Stp.mk false e9.1 0])::(uV d e9.2 (p++[Stp.mk false e9.1 0])).tail=uV d e9.2 (p++[Stp.mk false e9.1 0]) by rw [xQ];rfl,eB,<- aHs hx] at Jh;exact ⟨_,_,I,B,i+1,v53,dd++(v51::uk),⟨107,3,v51,p.length+1,(p++[Stp.mk false e9.1 0]).flatMap e6⟩::((⟨28,1,.slice CI (uV d e9.2 (p++[Stp.mk false e9.1 0])).length zP,(uV d e9.2 (p++[Stp.mk false e9.1 0])).length,v51::uk⟩::rs2)++rs),B,I,Jh,aJ,B,aK,aE,aM,(mg G (by rw [aQ,cf];omega) B)⟩
 have nU:i=v.fields.length:=I;refine aG ?_;refine be Tryz.results86 B ?_;rw [nU] at fp;have hl:=fp.1;rw [aQ] at hl;refine ⟨dd,rs,mg (G.drop 1) I B,?_⟩;rw [xQ];exact fp
theorem aWz:∀ D:Nat,Mp D
 | 0=>aJy 0 λd h=>I
 | D+1=>aJy (D+1) λd h=>by have e:d=D:=I;rw [e];exact aWz D
theorem nv:(W.info? 159).map (·.size)=some 14:=by kernel_rfl
theorem uZ:bY W 159 0 0:=b5 (tt:=9) po rfl gA rfl
theorem M5:bY W 159 1 1:=b5 (tt:=25) po rfl pW rfl
theorem bKx:bY W 159 2 5:=b5 (tt:=23) po rfl pV rfl
theorem u0:bY W 159 3 10:=b5 (tt:=3) po rfl bN rfl
theorem bKy:bY W 159 4 11:=b5 (tt:=3) po rfl bN rfl
theorem bKz:bY W 159 5 12:=b5 (tt:=3) po rfl bN rfl
theorem bK0:bY W 159 6 13:=b5 (tt:=3) po rfl bN rfl
theorem cH8:Zero W 159 [.string ByteArray.empty,.int .u8 0,.int .u8 0,.bool false,.bool false,.int .i64 0,.int .i64 0,.int .i64 0,.int .i64 0,.int .i64 0,.int .i64 0,.int .i64 0,.int .i64 0,.int .i64 0]:=ji (v:=.agg #[.string ByteArray.empty,.int .u8 0,.int .u8 0,.bool false,.bool false,.int .i64 0,.int .i64 0,.int .i64 0,.int .i64 0,.int .i64 0,.int .i64 0,.int .i64 0,.int .i64 0,.int .i64 0]) ac rfl
theorem aIv (c:UInt8)(w0:World):Fc W 138 [.int .u8 ((c.toNat:Nat):Int)] w0 (λv _=>v=.bool (decide (¬ vN c))):=by
 refine aI Tryz.func138 B Tryz.ntmps138 B ?_;have G:=Ctx.start w0;refine aG ?_;refine bo G (Tf c _) Tryz.func205 B B B B B B ?_;intro w G gN;refine ae ?_;refine hg G B B B aO (λhc=>HD c _) Tryz.func206 B B B (λhc=>(aX ay B)) ?_;intro w G jg;refine SO ?_;refine be Tryz.results138 B ?_;refine pd ?_;rw [jE];simp only [fS,hW,kP,decide_eq_true_eq,decide_eq_false_iff_not,beq_iff_eq,bne_iff_ne,ne_eq];unfold vN;by_cases h1:jR c <;> by_cases h2:bf c <;> simp only [h1,h2,true_or,or_true,not_true_eq_false,false_and,not_false_eq_true,true_and,false_or] <;> omega
theorem bF7 (d:Dl)(w0:World):Fc W 82 [.agg #[.int .u8 ((d.sep.toNat:Nat):Int),.int .u8 ((d.quo.toNat:Nat):Int),.bool d.hdr,.bool d.typ]] w0 (λv _=>v=.bool (decide (okD d))):=by
 refine aI Tryz.func82 B Tryz.ntmps82 B ?_;have G:=Ctx.start w0;refine ag ?_;refine bE ?_;intro b1 w G er fX;refine Mo ?_;refine aG ?_;refine hg G B B B aO (λhc=>aIv d.sep _) Tryz.func138 B B B (λhc=>(aX ay B)) ?_;intro w G bU0;refine an ?_;refine hg G B B B aO (λhc=>aIv d.quo _) Tryz.func138 B B B (λhc=>(aX ay B)) ?_;intro w G Jx;refine an ?_;refine be Tryz.results82 B ?_;refine pd ?_;rw [jE];simp only [fS,hW,kP,decide_eq_true_eq,decide_eq_false_iff_not,beq_iff_eq,bne_iff_ne,ne_eq];unfold okD;by_cases h1:vN d.sep <;> by_cases h2:vN d.quo <;> simp only [h1,h2,not_true_eq_false,and_false,not_false_eq_true,and_true,false_and] <;> omega
def ky (s:List UInt8)(d:Dl)(D N:Nat)(af aj ak:Int)(p nd off err:Nat):List Value:=[M s,.int .u8 ((d.sep.toNat:Nat):Int),.int .u8 ((d.quo.toNat:Nat):Int),.bool d.hdr,.bool d.typ,J D,J N,.int .i64 af,.int .i64 aj,.int .i64 ak,J p,J nd,J off,J err]
def db (err o off:Nat):Nat:=if err=0 then o else off
def yv (s:List UInt8)(d:Dl)(D N:Nat)(af aj ak:Int)(p nd off err dp:Nat):List Value:=if D<dp then ky s d D N af aj ak p nd (db err p off) (db err 9 err) else if N<=nd then ky s d D N af aj ak p nd (db err p off) (db err 10 err) else ky s d D N af aj ak p (nd+1) off err
def oM (s:List UInt8)(a:Nat):Int:=if (ci s a).1=0 then (((ci s a).2.2:Nat):Int) else if (ci s a).1=3 then -1 else -2
def wQ (s:List UInt8)(d:Dl)(c:Nat):Nat×Nat:=if c<s.length/\(s.getD c 0).toNat=d.sep.toNat then (0,0) else ((ci s c).1,(ci s c).2.1)
theorem uQ (s:List UInt8)(d:Dl)(D N:Nat)(af aj ak:Int)(p nd off err:Nat)(o e:Nat)(w0:World):Fc W 139 [.agg (ky s d D N af aj ak p nd off err).toArray,J o,J e] w0 (λv _=>v=.agg (ky s d D N af aj ak p nd (db err o off) (db err e err)).toArray):=by
 refine aI uL B Tryz.ntmps139 B ?_;have G:=Ctx.start w0;refine ag ?_;refine bE ?_;intro b3 w G eE gr;refine C3 ?_;intro bq w G gX hF;refine ab ?_;refine cw (λf ah=>∃ (ik aZ:Nat),(ik=db err o off)/\(aZ=db err e err)/\f 3=ao b3 0/\f 6=ao bq 0/\Cxr w0 ah [(bq,aa 159 [M [],.int .u8 ((0:Nat):Int),.int .u8 ((0:Nat):Int),.bool (false),.bool (false),J 0,J 0,J 0,J 0,J 0,J 0,J 0,J 0,J 0]),(b3,aa 159 [M s,.int .u8 ((d.sep.toNat:Nat):Int),.int .u8 ((d.quo.toNat:Nat):Int),.bool (d.hdr),.bool (d.typ),J D,J N,.int .i64 (af),.int .i64 (aj),.int .i64 (ak),J p,J nd,J ik,J aZ])] []) ?_ ?_
 ·refine az ?_;refine Z (λhD=>?_) (λhD=>?_)
  ·refine an ?_;refine bR (v:=(J o)) G 1 B B B B B B B B bN ?_;intro w G jh;refine an ?_;refine bR (v:=(J e)) G 1 B B B B B B B B bN ?_;intro w G ig;refine ab ?_;exact ⟨_,B,o,e,(by unfold db;rw [U I]),(by unfold db;rw [U I]),B,B,G⟩
  refine ab ?_;exact ⟨_,B,off,err,(by unfold db;rw [O I]),(by unfold db;rw [O I]),B,B,G⟩
 intro f w ai;obtain ⟨ik,aZ,gi,ic,aR,aL,G⟩:=ai;refine ae ?_;refine bn G 0 B B B aL B B nv B B ?_;intro w G hG;refine ag ?_;refine j8 Tryz.results139 aL (G.at 0 B) po B nv ?_;subst gi ic;exact gC
theorem bF8 (s:List UInt8)(d:Dl)(D N:Nat)(af aj ak:Int)(p nd off err:Nat)(dp:Nat)(w0:World)(hn:nd<=1000000):Fc W 83 [.agg (ky s d D N af aj ak p nd off err).toArray,J dp] w0 (λv _=>v=.agg (yv s d D N af aj ak p nd off err dp).toArray):=by
 refine aI Tryz.func83 B Tryz.ntmps83 B ?_;have G:=Ctx.start w0;refine ag ?_;refine bE ?_;intro b2 w G di e3;refine C3 ?_;intro bp w G gW gN;refine i6 ?_;refine Z (λu7=>?_) (λu7=>?_)
 ·refine aq ?_;refine bo G (uQ s d D N af aj ak p nd off err p 9 _) uL B B B B B B ?_;intro w G oX;refine xW ?_;intro w G jh;refine ag ?_;refine Sm ?_;exact ⟨G.ext,(aD (λl:List Value=>Value.agg l.toArray) (show yv s d D N af aj ak p nd off err dp=ky s d D N af aj ak p nd (db err p off) (db err 9 err) by unfold yv;rw [U I])).symm⟩
 refine cF ?_;refine Z (λef=>?_) (λef=>?_)
 ·refine aq ?_;refine bo G (uQ s d D N af aj ak p nd off err p 10 _) uL B B B B B B ?_;intro w G tX;refine xW ?_;intro w G hG;refine ag ?_;refine Sm ?_;exact ⟨G.ext,(aD (λl:List Value=>Value.agg l.toArray) (show yv s d D N af aj ak p nd off err dp=ky s d D N af aj ak p nd (db err p off) (db err 10 err) by unfold yv;rw [O I,U I])).symm⟩
 refine aG ?_;refine bR (v:=(J (nd+1))) G 1 B B B B B B B B bN ?_;intro w G rK;refine an ?_;refine xW ?_;intro w G jt;refine ag ?_;refine Sm ?_;exact ⟨G.ext,(aD (λl:List Value=>Value.agg l.toArray) (show yv s d D N af aj ak p nd off err dp=ky s d D N af aj ak p (nd+1) off err by unfold yv;rw [O I,O I])).symm⟩
theorem aIw (s:List UInt8)(a:Nat)(w0:World)(hs:s.length<=1000000)(a6:a<=s.length):Fc W 142 [M s,J a] w0 (λv _=>v=.int .i64 (oM s a)):=by
 refine aI Tryz.func142 B Tryz.ntmps142 B ?_;have G:=Ctx.start w0;refine kD ?_;refine Z (λu7=>?_) (λu7=>?_)
 ·refine aq ?_;refine Dj ?_;exact ⟨G.ext,aD (Value.int .i64) (by unfold oM;rw [XL I];rfl)⟩
 refine an ?_;refine Se ?_;refine ae ?_;refine Z (λe1=>?_) (λe1=>?_)
 ·refine aq ?_;refine Dj ?_;exact ⟨G.ext,aD (Value.int .i64) (by unfold oM;rw [aSi I I];rfl)⟩
 refine an ?_;refine Se ?_;refine ae ?_;refine Z (λef=>?_) (λef=>?_)
 ·refine aq ?_;refine Dj ?_;exact ⟨G.ext,aD (Value.int .i64) (by unfold oM;rw [aSn I I I];rfl)⟩
 refine cK ?_;refine Z (λct=>?_) (λct=>?_)
 ·refine aq ?_;refine Dj ?_;exact ⟨G.ext,aD (Value.int .i64) (by unfold oM;rw [aSk I I I];rfl)⟩
 refine aq ?_;refine G1 ?_;refine ae ?_;refine Z (λlV=>?_) (λlV=>?_)
 ·refine aq ?_;refine Dj ?_;exact ⟨G.ext,aD (Value.int .i64) (by unfold oM;rw [aSj I I I];rfl)⟩
 refine az ?_;refine Dj ?_;exact ⟨G.ext,aD (Value.int .i64) (by unfold oM;rw [aSl I I I];rfl)⟩
theorem bGm{af aj ak:Int}{p:Nat}{x:Value}(h:cL s d p=(e,o)):Value.tuple #[.agg (ky s d D N af aj ak i nd (db err o off) (db err e err)).toArray,x]=.tuple #[.agg (ky s d D N af aj ak i nd (db err (cL s d p).2 off) (db err (cL s d p).1 err)).toArray,x]:=by rw [h]
theorem bBx (s:List UInt8)(d:Dl)(D N:Nat)(af aj ak:Int)(p nd off err:Nat)(w0:World)(hs:s.length<=1000000)(hp:p<=s.length)(cY:okD d):Fc W 140 [.agg (ky s d D N af aj ak p nd off err).toArray] w0 (λv _=>∃ (ch:Nat) (x:List UInt8),ch<=s.length/\((cL s d p=(0,ch)/\x=sub s p (ch-p)/\v=.tuple #[.agg (ky s d D N af aj ak ch nd off err).toArray,.string (bs x)])\/((cL s d p).1≠0/\x=[]/\v=.tuple #[.agg (ky s d D N af aj ak ch nd (db err (cL s d p).2 off) (db err (cL s d p).1 err)).toArray,.string (bs x)]))):=by
 refine aI Tryz.func140 B Tryz.ntmps140 B ?_;have G:=Ctx.start w0;refine dR ?_;refine bE ?_;intro b1 w G er fX;refine C3 ?_;intro b2 w G di e3;refine DB ?_;refine Sn ?_;refine Dm ?_;refine Da ?_;refine p4 ?_;refine jj ?_;refine iu ?_;intro w G W3;refine dP B B (bO u0 B B) ?_;refine G6 ?_;refine dP B B (bO uZ B B) ?_;refine G7 ?_;refine So ?_;refine Au ?_;refine Dg ?_;refine dk B B B aO (λhc=>bO uZ B B) ?_;refine Dn ?_;refine dk B B B aO (λhc=>bO u0 B B) ?_;refine Dq ?_;refine RW ?_;refine dk B B B aO (λhc=>bO M5 B B) ?_;refine Sp ?_;refine L3 ?_;refine GY ?_;refine Dh ?_;refine zM ?_;refine Z (λjK=>?_) (λjK=>?_)
 ·have j4:p<s.length/\(s.getD p 0).toNat=d.quo.toNat:=I;refine dR ?_;refine Sn ?_;refine DG ?_;refine Sn ?_;refine bR (v:=(J (p+1))) G 1 B B B B B B B B bN ?_;intro w G ig;refine p4 ?_;refine ox ?_;refine bu (λg f ah=>∃ (i:Nat),g=s.length-i/\(i<=s.length)/\(p+1<=i)/\(gl d.quo.toNat (s.drop (p+1))=(gl d.quo.toNat (s.drop i)).map (·+(i-(p+1))))/\f 1=ao b1 0/\f 2=ao b2 0/\f 3=M []/\f 4=J p/\Cxr w0 ah [(b2,aa 159 [M [],.int .u8 ((0:Nat):Int),.int .u8 ((0:Nat):Int),.bool (false),.bool (false),J 0,J 0,J 0,J 0,J 0,J 0,J 0,J 0,J 0]),(b1,aa 159 [M s,.int .u8 ((d.sep.toNat:Nat):Int),.int .u8 ((d.quo.toNat:Nat):Int),.bool (d.hdr),.bool (d.typ),J D,J N,.int .i64 (af),.int .i64 (aj),.int .i64 (ak),J i,J nd,J off,J err])] []) ((λ(i:Nat)=>s.length-i) (p+1)) ?_ ?_
  ·exact ⟨p+1,B,j4.1,bV _,(by rw [Nat.sub_self];simp),B,B,B,B,G⟩
  intro pC f w ai;obtain ⟨i,EA,hi,rH,aw,aK,aE,aR,aM,G⟩:=ai;refine jj ?_;refine jj ?_;refine iu ?_;intro w G OF;refine L4 ?_;refine G6 ?_;refine L5 ?_;refine G7 ?_;refine So ?_;refine Au ?_;refine Dg ?_;refine G8 ?_;refine Dn ?_;refine G9 ?_;refine Dq ?_;refine L6 ?_;refine Sq ?_;refine Sp ?_;refine L3 ?_;refine GY ?_;refine dk B B B aO (λhc=>cU B ay) ?_;refine dk B B B a8 (λhc=>bO u0 B aK) ?_;refine dk B B B a8 (λhc=>br B ay dq B (G.cell 1 B B)) ?_;refine dk B B B a8 (λhc=>rX B ay B eJ eJ) ?_;refine dk B B B a8 (λhc=>bO uZ B aK) ?_;refine dk B B B a8 (λhc=>br B ay aF B (G.cell 1 B B)) ?_;refine dk B B B a8 (λhc=>oo (s:=s) B ay aF) ?_;refine dk B B B a8 (λhc=>gQ B ay ay B) ?_;refine dk B B B a8 (λhc=>cU B ay) ?_;refine G8 ?_;refine Dn ?_;refine G9 ?_;refine Dq ?_;refine dk B B B aO (λhc=>rX B ay B eJ eJ) ?_;refine dk B B B aO (λhc=>dm (s:=s) (i:=i+1) B ay ay aF fO) ?_;refine Sq ?_;refine Sp ?_;refine L3 ?_;refine GY ?_;refine dk B B B a8 (λhc=>CJ hc B B B B) ?_;refine dk B B B aO (λhc=>zU hc B B B B) ?_;refine Dh ?_;refine zM ?_;refine Z (λva=>?_) (λva=>?_)
  ·refine iZ ?_;refine ox ?_;refine cw (λf ah=>∃ (j:Nat),(j+1<=s.length)/\(i<=j)/\((gl d.quo.toNat (s.drop i))=(gl d.quo.toNat (s.drop (j+1))).map (·+(j+1-i)))/\f 1=ao b1 0/\f 2=ao b2 0/\f 3=M []/\f 4=J p/\Cxr w0 ah [(b2,aa 159 [M [],.int .u8 ((0:Nat):Int),.int .u8 ((0:Nat):Int),.bool (false),.bool (false),J 0,J 0,J 0,J 0,J 0,J 0,J 0,J 0,J 0]),(b1,aa 159 [M s,.int .u8 ((d.sep.toNat:Nat):Int),.int .u8 ((d.quo.toNat:Nat):Int),.bool (d.hdr),.bool (d.typ),J D,J N,.int .i64 (af),.int .i64 (aj),.int .i64 (ak),J j,J nd,J off,J err])] []) ?_ ?_
   ·refine jj ?_;refine iu ?_;intro w G JA;refine L5 ?_;refine G7 ?_;refine L4 ?_;refine G6 ?_;refine LJ ?_;refine aHi ?_;refine aF7 ?_;refine Au ?_;refine zM ?_;refine Z (λwY=>?_) (λwY=>?_)
    ·refine nE ?_;refine uF ?_;refine DG ?_;refine uF ?_;refine Ra ?_;intro w G jt;refine eA ?_;exact ⟨_,B,i+1,I,I,(by rw [aUx I I I];congr 1;funext x;omega),aK,aE,aR,aM,G⟩
    refine iZ ?_;exact ⟨_,B,i,I,I,(by rw [aUw I I];congr 1;funext x;omega),aK,aE,aR,aM,G⟩
   intro f w ai;obtain ⟨j,ax,rA,bTg,aK,aE,aR,aM,G⟩:=ai;refine nE ?_;refine uF ?_;refine DG ?_;refine uF ?_;refine bR (v:=(J (j+1))) G 1 B B B B B B B B bN ?_;intro w G iD;refine eA ?_;exact ⟨_,_,I,B,j+1,B,I,I,(by rw [aw,bTg,Option.map_map];congr 1;funext x;simp only [Function.comp];omega),aK,aE,aR,aM,G⟩
  refine wp_exit ?_;refine nF ?_;refine uF ?_;refine Dm ?_;refine S B B (bO uZ B aK) ?_;refine aF8 ?_;refine Aq ?_;refine l5 ?_;refine Z (λtI=>?_) (λtI=>?_)
  ·refine dR ?_;refine aF9 ?_;refine S B B (bO uZ B aK) ?_;refine aF8 ?_;refine Aq ?_;refine bo G (uQ s d D N af aj ak i nd off err s.length 4 _) uL B B B B B B ?_;intro w G bVg;refine K6 ?_;intro w G oY;refine qY ?_;refine L7 ?_;have ql:=aJ7 j4 (by rw [aw,show i=s.length by omega,List.drop_length,aUv];rfl);exact aCg
  refine yd ?_;refine uF ?_;refine DG ?_;refine uF ?_;refine Ra ?_;intro w G lI;refine p4 ?_;refine aGa ?_;refine aGb ?_;refine bw B (bx B) (λw G=>bO uZ B aK) ?_;refine aGc ?_;refine R3 ?_;refine bw B (bx B) (λw G=>bO u0 B aK) ?_;refine aGd ?_;refine bw B (bx B) (λw G=>pb (s:=s) (i:=p) (j:=i+1) B B B B aF I I) ?_;refine cW ?_;intro w G aRc;refine lh ?_;refine K6 ?_;intro w G sF;refine ta ?_;refine mP ?_;refine S B B (av (v:=(M (sub s p (i+1-p)))) B B) ?_;refine hY ?_;refine Ai ?_;refine L7 ?_;have ql:cL s d p=(0,i+1):=by
   rw [aJ8 j4 (n:=i-p) (by rw [aw,aUu I I (λh=>I)];show some (1+(i-(p+1)))=_;congr 1;omega)]
   congr 1;omega
  exact ⟨G.ext,i+1,_,I,.inl ⟨ql,B,B⟩⟩
 have j4:¬ (p<s.length/\(s.getD p 0).toNat=d.quo.toNat):=I;refine ox ?_;refine bu (λg f ah=>∃ (i:Nat),g=s.length-i/\(i<=s.length)/\(p<=i)/\(∀ j,p<=j->j<i->k8 d (s.getD j 0))/\f 1=ao b1 0/\f 2=ao b2 0/\f 4=J p/\Cxr w0 ah [(b2,aa 159 [M [],.int .u8 ((0:Nat):Int),.int .u8 ((0:Nat):Int),.bool (false),.bool (false),J 0,J 0,J 0,J 0,J 0,J 0,J 0,J 0,J 0]),(b1,aa 159 [M s,.int .u8 ((d.sep.toNat:Nat):Int),.int .u8 ((d.quo.toNat:Nat):Int),.bool (d.hdr),.bool (d.typ),J D,J N,.int .i64 (af),.int .i64 (aj),.int .i64 (ak),J i,J nd,J off,J err])] []) ((λ(i:Nat)=>s.length-i) p) ?_ ?_
 ·exact ⟨p,B,hp,bV _,λj h h2=>I,B,B,B,G⟩
 intro Ei f w ai;obtain ⟨i,aOd,hi,rH,hb,aK,aE,aM,G⟩:=ai;refine jj ?_;refine jj ?_;refine iu ?_;intro w G W2;refine L4 ?_;refine G6 ?_;refine L5 ?_;refine G7 ?_;refine So ?_;refine Au ?_;refine Dg ?_;refine G8 ?_;refine Dn ?_;refine G9 ?_;refine Dq ?_;refine L6 ?_;refine Sq ?_;refine dk B B B aO (λhc=>bO aL5 B ay) ?_;refine L3 ?_;refine GY ?_;refine Dh ?_;refine Dg ?_;refine G8 ?_;refine Dn ?_;refine G9 ?_;refine Dq ?_;refine L6 ?_;refine dk B B B aO (λhc=>gQ B ay B B) ?_;refine Dh ?_;refine Dg ?_;refine G8 ?_;refine Dn ?_;refine G9 ?_;refine Dq ?_;refine L6 ?_;refine dk B B B aO (λhc=>gQ B ay B B) ?_;refine Dh ?_;refine zM ?_;refine Z (λNx=>?_) (λNx=>?_)
 ·refine iZ ?_;refine ox ?_;refine jj ?_;refine jj ?_;refine iu ?_;intro w G B1;refine L5 ?_;refine G7 ?_;refine L4 ?_;refine G6 ?_;refine LJ ?_;refine aHi ?_;refine aF7 ?_;refine Au ?_;refine zM ?_;refine Z (λbOi=>?_) (λbOi=>?_)
  ·refine dR ?_;refine aF9 ?_;refine uF ?_;refine Dm ?_;refine bo G (uQ s d D N af aj ak i nd off err i 3 _) uL B B B B B B ?_;intro w G bUy;refine K6 ?_;intro w G np;refine qY ?_;refine L7 ?_;have ql:cL s d p=(3,i):=by rw [HG j4 rH hi hb (.inr (λh=>by unfold k8 at h;omega)),U I]
   exact aCg
  refine yd ?_;refine uF ?_;refine DG ?_;refine uF ?_;refine Ra ?_;intro w G l0;refine eA ?_;exact ⟨_,_,I,B,i+1,B,I,I,λj h1 h2=>by by_cases e:j=i;(subst e;unfold k8;exact ⟨I,I,I,I⟩);exact hb j h1 I,aK,aE,aM,G⟩
 refine wp_exit ?_;refine jj ?_;refine aGa ?_;refine aGb ?_;refine bw B (bx B) (λw G=>bO uZ B aK) ?_;refine aGc ?_;refine R3 ?_;refine bw B (bx B) (λw G=>bO u0 B aK) ?_;refine aGd ?_;refine bw B (bx B) (λw G=>pb (s:=s) (i:=p) (j:=i) B B B B aF I I) ?_;refine cW ?_;intro w G aRc;refine lh ?_;refine K6 ?_;intro w G sF;refine ta ?_;refine mP ?_;refine S B B (av (v:=(M (sub s p (i-p)))) B B) ?_;refine hY ?_;refine Ai ?_;refine L7 ?_;have VW:d.sep.toNat≠d.quo.toNat/\33<=d.quo.toNat:=⟨cY.2.2.2.1,cY.2.1⟩;have ql:cL s d p=(0,i):=by
  rw [HG j4 rH hi hb (by by_cases h:i=s.length;exact .inl h;exact .inr (λh=>by unfold k8 at h;omega)),O I]
 exact ⟨G.ext,i,_,hi,.inl ⟨ql,B,B⟩⟩
def rk (s:List UInt8)(d:Dl)(p off err:Nat):Nat×Nat:=if (wQ s d p).1=0 then (off,err) else (db err (wQ s d p).2 off,db err (wQ s d p).1 err)
theorem aSm (s:List UInt8)(a:Nat):(ci s a).1=0\/((ci s a).1=3/\(ci s a).2.1=a)\/((ci s a).1=4/\(ci s a).2.1=s.length):=by
 unfold ci;split
 ·exact .inl B
 split
 ·exact .inl B
 split
 . split
   ·exact .inr (.inr ⟨B,B⟩)
   split
   ·exact .inl B
   ·exact .inr (.inl ⟨B,B⟩)
 ·exact .inr (.inl ⟨B,B⟩)
theorem aLg(h:oM s a=-1):(ci s a).1=3/\(ci s a).2.1=a:=by
 unfold oM at h;split at h
 ·omega
 split at h
 . rcases aSm s a with h1 | h1 | h1
   ·omega
   ·exact h1
   ·omega
 ·omega
theorem aLh(h:oM s a=-2):(ci s a).1=4/\(ci s a).2.1=s.length:=by
 unfold oM at h;split at h
 ·omega
 split at h
 ·omega
 . rcases aSm s a with h1 | h1 | h1
   ·omega
   ·omega
   ·exact h1
theorem bI7(h1:oM s a≠-1)(h2:oM s a≠-2):(ci s a).1=0/\oM s a=(((ci s a).2.2:Nat):Int):=by
 unfold oM at h1 h2 ⊢;split
 ·exact ⟨by assumption,B⟩
 . rename_i ap
   rw [O ap] at h1 h2;split at h1
   ·exact absurd B h1
   . rename_i Y
     rw [O Y] at h2;exact absurd B h2
theorem aMk(h:c<s.length/\(s.getD c 0).toNat=d.sep.toNat):(wQ s d c).1=0:=by unfold wQ;rw [U h]
theorem Ef(h:¬ (c<s.length/\(s.getD c 0).toNat=d.sep.toNat)):wQ s d c=((ci s c).1,(ci s c).2.1):=by unfold wQ;rw [O h]
theorem M7(h:(wQ s d c).1=0):rk s d c off err=(off,err):=by unfold rk;rw [U h]
theorem Ur(h:wQ s d c=(e,o))(he:e≠0):rk s d c off err=(db err o off,db err e err):=by unfold rk;rw [h,O he]
theorem bH0{y:List UInt8}{k:Nat}{c:UInt8}(h:y[k]?=some c)(hc:c.toNat≠q):iO q (y.drop k)=c::iO q (y.drop (k+1)):=by
 have hk:=(bT.1 h).1;have e:y.drop k=c::y.drop (k+1):=by rw [ph hk,(bT.1 h).2]
 rw [e,aKv hc]
theorem bH1{y:List UInt8}{k:Nat}{c:UInt8}(h:y[k]?=some c)(hc:c.toNat=q):iO q (y.drop k)=c::iO q (y.drop (k+2)):=by
 have hk:=(bT.1 h).1;have e:y.drop k=c::y.drop (k+1):=by rw [ph hk,(bT.1 h).2]
 rw [e];by_cases h2:k+1<y.length
 ·rw [ph h2,iO,U hc]
 ·rw [AD I,AD (show y.length<=k+2 by omega)];rfl
theorem bWg(h1:1<=i)(h:i+1<x.length):(pP x)[i-1]?=some (x.getD i 0):=by
 unfold pP;rw [te,U I,tc,show 1+(i-1)=i by omega,hZ,bS I];rfl
theorem bWh (x:List UInt8):(pP x).length=x.length-2:=by unfold pP;rw [dS,bC];omega
theorem FW(h:i<x.length):sub x i 1=[x.getD i 0]:=by
 unfold sub;rw [TN h];rfl
theorem M8{af aj ak:Int}{p:Nat}(h:rk s d p off err=(o,e)):Value.agg (ky s d D N af aj ak p nd o e).toArray=.agg (ky s d D N af aj ak p nd (rk s d p off err).1 (rk s d p off err).2).toArray:=by rw [h]
theorem bBz (s:List UInt8)(d:Dl)(D N:Nat)(af aj ak:Int)(p nd off err:Nat)(w0:World)(hs:s.length<=1000000)(hp:p<=s.length):Fc W 141 [.agg (ky s d D N af aj ak p nd off err).toArray] w0 (λv _=>v=.agg (ky s d D N af aj ak p nd (rk s d p off err).1 (rk s d p off err).2).toArray):=by
 refine aI Tryz.func141 B Tryz.ntmps141 B ?_;have G:=Ctx.start w0;refine ag ?_;refine bE ?_;intro b1 w G er fX;refine C3 ?_;intro b2 w G di e3;refine ae ?_;refine iu ?_;intro w G OE;refine ye ?_;refine RW ?_;refine oz ?_;refine lj ?_;refine Z (λeH=>?_) (λeH=>?_)
 ·have Js:¬ (p<s.length/\(s.getD p 0).toNat=d.sep.toNat):=I;refine az ?_;refine bo G (aIw s p _ hs I) Tryz.func142 B B B B B B ?_;intro w G WS;refine aG ?_;refine Z (λfI=>?_) (λfI=>?_)
  ·refine aq ?_;refine bo G (uQ s d D N af aj ak p nd off err p 3 _) uL B B B B B B ?_;intro w G Ow;refine xW ?_;intro w G hG;refine ag ?_;refine L8 ?_;exact ⟨G.ext,M8 (Ur (by rw [Ef Js,(aLg fI).1,(aLg fI).2]) (by decide))⟩
  refine aq ?_;refine Z (λfJ=>?_) (λfJ=>?_)
  ·refine az ?_;refine bo G (uQ s d D N af aj ak p nd off err s.length 4 _) uL B B B B B B ?_;intro w G Oy;refine xW ?_;intro w G jt;refine ag ?_;refine L8 ?_;exact ⟨G.ext,M8 (Ur (by rw [Ef Js,(aLh fJ).1,(aLh fJ).2]) (by decide))⟩
  refine an ?_;refine xW ?_;intro w G iD;refine ag ?_;refine L8 ?_;exact ⟨G.ext,M8 (M7 (by rw [Ef Js];exact (bI7 fI fJ).1))⟩
 have Js:(p<s.length/\(s.getD p 0).toNat=d.sep.toNat)\/s.length<=p:=I;refine an ?_;refine xW ?_;intro w G iD;refine ag ?_;refine L8 ?_;exact ⟨G.ext,M8 (M7 (by rcases Js with h | h;exact aMk h;rw [Ef (λh2=>I),XL h]))⟩
theorem aIu (x:List UInt8)(d:Dl)(w0:World)(hx:x.length<=1000000):Fc W 136 [M x,.agg #[.int .u8 ((d.sep.toNat:Nat):Int),.int .u8 ((d.quo.toNat:Nat):Int),.bool d.hdr,.bool d.typ]] w0 (λv _=>v=(M (c2 d x))):=by
 refine aI Tryz.func136 B Tryz.ntmps136 B ?_;have G:=Ctx.start w0;refine ag ?_;refine bE ?_;intro b3 w G eE gr;refine an ?_;refine iu ?_;intro w G OE;refine ST ?_;refine aHj ?_;refine aEy ?_;refine oz ?_;refine ST ?_;refine Z (λef=>?_) (λef=>?_)
 ·have iC:¬ (x≠[]/\(x.getD 0 0).toNat=d.quo.toNat):=λh=>by
   rcases ef with h1 | h1
   ·exact h.1 h1
   ·exact h1 (by rw [h.2])
  refine ae ?_;refine GX ?_;refine ag ?_;refine be Tryz.results136 B ?_;exact ⟨G.ext,aRu iC⟩
 have qD:x≠[]/\(x.getD 0 0).toNat=d.quo.toNat:=⟨ef.1,I⟩;refine gp ?_;refine bu (λg f ah=>∃ (i:Nat) (o:List UInt8),g=x.length-i/\(1<=i)/\(i<=x.length+1)/\(o.length<=i)/\(iO d.quo.toNat (pP x)=o++iO d.quo.toNat ((pP x).drop (i-1)))/\f 5=M o/\f 6=J i/\f 0=M x/\f 3=ao b3 0/\f 4=M []/\Cxr w0 ah [(b3,aa 25 [.int .u8 ((d.sep.toNat:Nat):Int),.int .u8 ((d.quo.toNat:Nat):Int),.bool (d.hdr),.bool (d.typ)])] []) ((λ(i:Nat)=>x.length-i) 1) ?_ ?_
 ·exact ⟨1,[],B,bV _,I,bU _,B,B,aJ,B,B,B,G⟩
 intro wR f w ai;obtain ⟨i,o,IM,rH,rB,bRx,au,bF,aL,aB,aR,aM,G⟩:=ai;refine cK ?_;refine Z (λdG=>?_) (λdG=>?_)
 ·have rz:i+1<x.length:=I;have oP:=bWg rH rz;refine cF ?_;refine S B B (ur (s:=x) (i:=i) (n:=1) B B B B aF I) ?_;refine S B B (iJ (a:=o) (b:=sub x i 1) B B B (by rw [FW I];simp only [aQ,ll];omega)) ?_;refine S B B (av (v:=(M (o++sub x i 1))) B B) ?_;refine ag ?_;refine iu ?_;intro w G OG;refine lj ?_;refine dP B B (dm (s:=x) (i:=i) B B B aF I) ?_;refine oz ?_;refine Z (λpF=>?_) (λpF=>?_)
  ·refine ae ?_;refine Gw ?_;refine an ?_;refine S B B (av (v:=(J (i+1+1))) B B) ?_;refine ab ?_;exact ⟨_,_,I,B,i+1+1,o++sub x i 1,B,I,I,(by rw [FW I,aQ,ll];omega),(by rw [au,bH1 oP I,show i-1+2=i+1+1-1 by omega,FW I,eB];rfl),B,aJ,aB,aR,aM,G⟩
  refine qZ ?_;exact ⟨_,_,I,B,i+1,o++sub x i 1,B,I,I,(by rw [FW I,aQ,ll];omega),(by rw [au,bH0 oP I,show i-1+1=i+1-1 by omega,FW I,eB];rfl),B,aJ,aB,aR,aM,G⟩
 have rz:¬ i+1<x.length:=I;refine an ?_;refine S B B (av (v:=(M o)) B B) ?_;refine ag ?_;refine be Tryz.results136 B ?_;have gi:c2 d x=o:=by rw [TC qD,au,AD (by rw [bWh];omega)];exact cH _
 exact ⟨G.ext,aD (λl=>(M l)) gi.symm⟩
theorem pz(h:err≠0):db err o off=off:=O h
theorem M3(h:e≠0):db err e err≠0:=by unfold db;split <;> assumption
theorem Tu (s:List UInt8)(d:Dl)(D N:Nat)(af aj ak:Int)(p nd off err:Nat)(dp:Nat)(w0:World)(hn:nd<=1000000):Fc W 83 [.agg (ky s d D N af aj ak p nd off err).toArray,J dp] w0 (λv _=>∃ bQ cm bc:Nat,v=.agg (ky s d D N af aj ak p bQ cm bc).toArray/\((D<dp/\bQ=nd/\cm=db err p off/\bc=db err 9 err)\/(dp<=D/\N<=nd/\bQ=nd/\cm=db err p off/\bc=db err 10 err)\/(dp<=D/\nd<N/\bQ=nd+1/\cm=off/\bc=err))):=by
 refine (bF8 s d D N af aj ak p nd off err dp w0 hn).mono λv w' _ hv=>?_
 subst hv;unfold yv;split
 ·exact ⟨_,_,_,B,.inl ⟨by assumption,B,B,B⟩⟩
 split
 ·exact ⟨_,_,_,B,.inr (.inl ⟨I,by assumption,B,B,B⟩)⟩
 ·exact ⟨_,_,_,B,.inr (.inr ⟨I,I,B,B,B⟩)⟩
def CelX (s:List UInt8)(d:Dl)(p ch off err cm bc:Nat)(x:List UInt8):Prop:=(cL s d p=(0,ch)/\x=sub s p (ch-p)/\cm=off/\bc=err)\/((cL s d p).1≠0/\x=[]/\cm=db err (cL s d p).2 off/\bc=db err (cL s d p).1 err)
theorem bBy (s:List UInt8)(d:Dl)(D N:Nat)(af aj ak:Int)(p nd off err:Nat)(w0:World)(hs:s.length<=1000000)(hp:p<=s.length)(cY:okD d):Fc W 140 [.agg (ky s d D N af aj ak p nd off err).toArray] w0 (λv _=>∃ (ch cm bc:Nat) (x:List UInt8),v=.tuple #[.agg (ky s d D N af aj ak ch nd cm bc).toArray,M x]/\ch<=s.length/\x.length<=s.length/\CelX s d p ch off err cm bc x):=by
 refine (bBx s d D N af aj ak p nd off err w0 hs hp cY).mono ?_;rintro v w' _ ⟨ch,x,h1,⟨h2,rfl,rfl⟩ | ⟨h2,rfl,rfl⟩⟩
 ·exact ⟨ch,off,err,_,B,h1,vO _ _ _,.inl ⟨h2,B,B,B⟩⟩
 ·exact ⟨ch,_,_,[],B,h1,bU _,.inr ⟨h2,B,B,B⟩⟩
def KR (s:List UInt8)(d:Dl)(D N:Nat)(h:Bool)(nms:List (List UInt8))(q nd bQ cm bc:Nat):Prop:=(bc=0/\entB D N h nd/\bQ=n9 h nd)\/(bc≠0/\((h=false/\D<3/\bc=9)\/(h=false/\3<=D/\N<=nd/\bc=10))/\cm=q)
def aWl (h:Bool)(t:List UInt8):Prop:=(h=true/\1024<t.length)\/65536<t.length
def Sz4 (h:Bool)(t:List UInt8)(q fY dW e5 ew:Nat):Prop:=(aWl h t/\e5=db dW q fY/\ew=db dW 10 dW)\/(¬ aWl h t/\e5=fY/\ew=dW)
def Ex5 (h:Bool)(t:List UInt8)(l:List (List UInt8))(q e5 ew fN eM:Nat):Prop:=(h=true/\t∈l/\fN=db ew q e5/\eM=db ew 8 ew)\/(¬ (h=true/\t∈l)/\fN=e5/\eM=ew)
theorem Ex5.step{t u:List UInt8}{l fh:List (List UInt8)}{e5 ew:Nat}(hx:Ex5 h t l q e5 ew fN eM)(hl:fh=l++[u])(a1:h=true):(u=t->Ex5 h t fh q e5 ew (db eM q fN) (db eM 8 eM))/\(u≠t->Ex5 h t fh q e5 ew fN eM):=by
 subst hl;constructor
 . rintro rfl
   refine .inl ⟨a1,by simp,?_⟩;rcases hx with ⟨_,_,rfl,rfl⟩ | ⟨_,rfl,rfl⟩
   . have hn:db ew 8 ew≠0:=M3 (by decide)
     rw [pz hn,pz hn];exact ⟨B,B⟩
   ·exact ⟨B,B⟩
 . intro aP
   rcases hx with ⟨_,h2,Y⟩ | ⟨h1,Y⟩
   ·exact .inl ⟨a1,iM _ h2,Y⟩
   . refine .inr ⟨λhc=>?_,Y⟩
     rcases iv.1 hc.2 with ar | ar
     ·exact h1 ⟨a1,ar⟩
     ·exact aP (hL.1 ar).symm
theorem cCk{bQ cm bc ch fY dW e5 ew:Nat}{nms:List (List UInt8)}(h1:KR s d D N h nms q nd bQ cm bc)(h2:CelX s d q ch cm bc fY dW x)(Y:Sz4 h (c2 d x) q fY dW e5 ew)(ar:Ex5 h (c2 d x) nms q e5 ew fN eM) :
  (eM=0/\eo s d D N h nms q nd=.inr ch/\x=sub s q (ch-q)/\bQ=n9 h nd)\/(eM≠0/\eo s d D N h nms q nd=.inl (fN,eM)):=by
 rcases h1 with ⟨rfl,hb,jO⟩ | ⟨bt,hb,rfl⟩
 . rcases h2 with ⟨hc,rfl,rfl,rfl⟩ | ⟨hc,rfl,rfl,rfl⟩
   . rcases Y with ⟨hz,e4,bIe⟩ | ⟨hz,rfl,rfl⟩
     . have e:eo s d D N h nms q nd=.inl (q,10):=by
         refine aLn hb hc ?_;rcases hz with ⟨a1,hz⟩ | hz
         ·rw [U a1];exact hz
         ·split <;> omega
       have lv:e5=q:=e4;have aK2:ew=10:=bIe;refine .inr ?_;rcases ar with ⟨_,_,si,D6⟩ | ⟨_,si,D6⟩
       . rw [aK2,pz (by decide)] at si D6
         rw [si,D6,lv,e];exact ⟨by decide,B⟩
       ·rw [si,D6,lv,aK2,e];exact ⟨by decide,B⟩
     . have sG:¬ (if h=true then 1024 else 65536)<(c2 d (sub s q (ch-q))).length:=by
         intro bd;split at bd
         ·exact hz (.inl ⟨by assumption,bd⟩)
         ·exact hz (.inr bd)
       rcases ar with ⟨a1,hm,si,D6⟩ | ⟨hm,rfl,rfl⟩
       . subst a1
         have bIk:fN=q:=si;have bIl:eM=8:=D6;rw [bIk,bIl];exact .inr ⟨by decide,aLm hc (by simpa using sG) hm⟩
       ·exact .inl ⟨B,MY hb hc sG (λa1 vk=>hm ⟨a1,vk⟩),B,jO⟩
   . have e:eo s d D N h nms q nd=.inl ((cL s d q).2,(cL s d q).1):=aLi hb hc B
     have EK:db 0 (cL s d q).1 0≠0:=hc;have ho:e5=(cL s d q).2/\ew=(cL s d q).1:=by
      rcases Y with ⟨_,rfl,rfl⟩ | ⟨_,rfl,rfl⟩
      ·rw [pz EK,pz EK];exact ⟨B,B⟩
      ·exact ⟨B,B⟩
     obtain ⟨rfl,rfl⟩:=ho;refine .inr ?_;rcases ar with ⟨_,_,rfl,rfl⟩ | ⟨_,rfl,rfl⟩
     ·rw [pz hc,pz hc];exact ⟨hc,e⟩
     ·exact ⟨hc,e⟩
 . have e:eo s d D N h nms cm nd=.inl (cm,bc):=by
     rcases hb with ⟨rfl,h6,rfl⟩ | ⟨rfl,h6,h7,rfl⟩
     ·exact aLj B h6
     ·exact aLk B h6 h7
   have yJ:fY=cm/\dW=bc:=by
    rcases h2 with ⟨_,_,rfl,rfl⟩ | ⟨_,_,rfl,rfl⟩
    ·exact ⟨B,B⟩
    ·rw [pz bt,pz bt];exact ⟨B,B⟩
   obtain ⟨rfl,rfl⟩:=yJ;have ho:e5=fY/\ew=dW:=by
    rcases Y with ⟨_,rfl,rfl⟩ | ⟨_,rfl,rfl⟩
    ·rw [pz bt,pz bt];exact ⟨B,B⟩
    ·exact ⟨B,B⟩
   obtain ⟨rfl,rfl⟩:=ho;refine .inr ?_;rcases ar with ⟨_,_,rfl,rfl⟩ | ⟨_,rfl,rfl⟩
   ·rw [pz bt,pz bt];exact ⟨bt,e⟩
   ·exact ⟨bt,e⟩
def aBx (s:List UInt8)(d:Dl)(D N:Nat)(h:Bool)(many q nd:Nat)(nms:List (List UInt8))(kids:List T)(ch bQ Cn yE:Nat)(x:List UInt8):Prop :=
 (yE=0/\Cn=0/\eo s d D N h nms q nd=.inr ch/\x=sub s q (ch-q)/\bQ=n9 h nd/\((ch<s.length/\(s.getD ch 0).toNat=d.sep.toNat)\/(ci s ch).1=0))\/(yE≠0/\RcL s d D N h many ⟨q,nd,nms,kids⟩ (.inl (Cn,yE)))
theorem cCl{many bQ ch n:Nat}{nms:List (List UInt8)}{kids:List T}(hn:n=kids.length)(h1:¬ (0<many/\many<=n))(hz:eM=0->fN=0)
  (bd:(eM=0/\eo s d D N h nms q nd=.inr ch/\x=sub s q (ch-q)/\bQ=n9 h nd)\/(eM≠0/\eo s d D N h nms q nd=.inl (fN,eM))):aBx s d D N h many q nd nms kids ch bQ (rk s d ch fN eM).1 (rk s d ch fN eM).2 x:=by
 rcases bd with ⟨rfl,he,hx,jO⟩ | ⟨bt,he⟩
 . obtain rfl:=hz rfl
   by_cases hs:ch<s.length/\(s.getD ch 0).toNat=d.sep.toNat
   . rw [M7 (aMk hs)]
     exact .inl ⟨B,B,he,hx,jO,.inl hs⟩
   . by_cases hl:(ci s ch).1=0
     . rw [M7 (by rw [Ef hs];exact hl)]
       exact .inl ⟨B,B,he,hx,jO,.inr hl⟩
     . rw [Ur (Ef hs) hl]
       refine .inr ⟨hl,?_⟩;have j2:ci s ch=((ci s ch).1,(ci s ch).2.1,0):=by
        have ap:(ci s ch).2.2=0:=by
         unfold ci at hl ⊢;split
         ·rfl
         rename_i g1;rw [O g1] at hl;split
         ·rename_i dt;rw [U dt] at hl;exact absurd B hl
         rename_i dt;rw [O dt] at hl;split
         . rename_i g3
           rw [U g3] at hl;split
           ·rfl
           rename_i g4;rw [O g4] at hl;split
           ·rename_i fe;rw [U fe] at hl;exact absurd B hl
           ·rfl
         ·rfl
        rw [<- ap]
       exact aVb hn h1 (λ_=>rfl) he hs hl j2
 . refine .inr ?_
   have e:rk s d ch fN eM=(fN,eM):=by
    unfold rk;split
    ·rfl
    ·rw [pz bt,pz bt]
   rw [e];exact ⟨bt,aU9 hn h1 (λ_=>rfl) he⟩
end Go.Proofs.YthiafbkolhnadaaGreatDoor
end
section
namespace Go.Dk
open Go Go.RowKit Go.Lib Go.Proofs.YthiafbkolhnadaaGreatDoor
theorem aVh {P:Program}{fn:Func}{n:Nat}{f:Nat->Value}{w:World}{R:Value->World->Prop}{fC t2 t3 qc uK dM ft b1 b3:Nat}{l af:List Value}{b4:Value}{cr fG:TypeDesc}
  (hr:fn.results=#[.cell fC dM,.cell t3 ft,.tmp t2]) (h1:aW n f (.tmp fC)=.pointer (some ⟨b1,0,none⟩)) (Y:aW n f (.tmp t3)=.pointer (some ⟨b3,0,none⟩)) (h2:aW n f (.tmp t2)=b4) (g1:w.heap[b1]?=some (.cells l.toArray qc)) (g3:w.heap[b3]?=some (.cells af.toArray uK))
  (cS:P.underlying dM=some cr) (lD:(match cr with | .struct _ | .array _ _=>true | _=>false)=true) (hs:(P.info? dM).map (·.size)=some l.length)
  (c0:P.underlying ft=some fG) (tJ:(match fG with | .struct _ | .array _ _=>true | _=>false)=true) (aR:(P.info? ft).map (·.size)=some af.length)
  (h:R (.tuple #[.agg l.toArray,.agg af.toArray,b4]) w):bodyPost P fn (λe w'=>∃ v,e=.returned v/\R v w') .ret (aC n f) w:=by
 refine ⟨B,.tuple #[.agg l.toArray,.agg af.toArray,b4],?_,_,B,h⟩;have bm:(aC n f).tmps.getD fC undef=.pointer (some ⟨b1,0,none⟩):=by rw [<- h1,<- eS];rfl
 have aZ:(aC n f).tmps.getD t2 undef=b4:=by rw [<- h2,<- eS];rfl
 have gg:(aC n f).tmps.getD t3 undef=.pointer (some ⟨b3,0,none⟩):=by rw [<- Y,<- eS];rfl
 have gj:=run_loadVar_row (P:=P) w b1 qc dM l.toArray _ cr g1 cS lD ug;have JT:=run_loadVar_row (P:=P) w b3 uK ft af.toArray _ fG g3 c0 tJ (by simpa using aR);have hm:(results fn (aC n f).tmps).run P w=((asAddr ((aC n f).tmps.getD fC undef)).run P w).andThen λa uu=>((loadVar dM a).run P uu).andThen λv uv=>((asAddr ((aC n f).tmps.getD t3 undef)).run P uv).andThen λa3 CR=>((loadVar ft a3).run P CR).andThen λv3 CS=>.ok (.tuple #[v,v3,(aC n f).tmps.getD t2 undef]) CS:=by
  exact Gd
 rw [hm,bm,aZ,gg];simp [asAddr,gj,JT,Result.andThen]
end Go.Dk
end
section
namespace Go.Proofs.YthiafbkolhnadaaGreatDoor
open Go Go.Dk Go.RowKit Go.Lib
attribute [local irreducible] Go.wpList Go.Code.wp Go.bodyPost Go.wpStill Go.wpQuiet
variable {s t:List UInt8}{d:Dl}{D N p nd bQ cm bc q e5 ew:Nat}{h:Bool}
theorem bB0 (s:List UInt8)(a:Nat)(w0:World)(hs:s.length<=1000000)(a6:a<=s.length)(hl:(ci s a).1=0):Fc W 142 [M s,J a] w0 (λv _=>v=(J ((ci s a).2.2))) :=
 (aIw s a w0 hs a6).mono λv w' _ hv=>by rw [hv];unfold oM;rw [U hl]
theorem bXl{c:Nat}(h:(ci s c).1=0):ci s c=(0,0,(ci s c).2.2):=by
 have h2:(ci s c).2.1=0:=by
  unfold ci at h ⊢;split
  ·rfl
  rename_i h1;rw [O h1] at h;split
  ·rfl
  rename_i h2;rw [O h2] at h;split
  . rename_i Y
    rw [U Y] at h;split
    ·rename_i ar;rw [U ar] at h;cases h
    rename_i ar;rw [O ar] at h;split
    ·rfl
    ·rename_i bd;rw [O bd] at h;cases h
  ·rename_i Y;rw [O Y] at h;cases h
 exact Prod.ext h (Prod.ext h2 B)
theorem bXm{c:Nat}(hc:c<=s.length)(h:(ci s c).1=0):c+(ci s c).2.2<=s.length/\(c<s.length->1<=(ci s c).2.2):=by
 unfold ci at h ⊢;split
 ·exact ⟨hc,λh=>I⟩
 rename_i h1;rw [O h1] at h;split
 ·exact ⟨by show c+1<=_;omega,λ_=>bV _⟩
 rename_i h2;rw [O h2] at h;split
 . rename_i Y
   rw [U Y] at h;split
   ·rename_i ar;rw [U ar] at h;cases h
   rename_i ar;rw [O ar] at h;split
   ·exact ⟨by show c+2<=_;omega,λ_=>by show 1<=2;omega⟩
   ·rename_i bd;rw [O bd] at h;cases h
 ·rename_i Y;rw [O Y] at h;cases h
theorem bA1{many:Nat}(a1:h=false)(jO:nd<=N)(hb:(D<2/\bQ=nd/\cm=db 0 p 0/\bc=db 0 9 0)\/(2<=D/\N<=nd/\bQ=nd/\cm=db 0 p 0/\bc=db 0 10 0)\/(2<=D/\nd<N/\bQ=nd+1/\cm=0/\bc=0)) :
  bQ<=N/\((bc=0/\cm=0/\∀ r,RcL s d D N h many ⟨p,bQ,[],[]⟩ r->RcR s d D N h many p nd r)\/(bc≠0/\RcR s d D N h many p nd (.inl (cm,bc)))):=by
 subst a1;unfold RcR;rcases hb with ⟨h1,rfl,Y,ar⟩ | ⟨h1,h2,rfl,Y,ar⟩ | ⟨h1,h2,rfl,Y,ar⟩
 . rw [show cm=p from Y,show bc=9 from ar]
   exact ⟨jO,.inr ⟨by decide,by rw [U ⟨B,h1⟩]⟩⟩
 . rw [show cm=p from Y,show bc=10 from ar]
   exact ⟨jO,.inr ⟨by decide,by rw [O (λh=>I),U ⟨B,h2⟩]⟩⟩
 . refine ⟨I,.inl ⟨ar,Y,λr hr=>?_⟩⟩
   rw [O (λh=>I),O (λh=>I)];exact hr
theorem bA0{many:Nat}(a1:h=true):(0=0/\0=0/\∀ r,RcL s d D N h many ⟨p,nd,[],[]⟩ r->RcR s d D N h many p nd r)\/((0:Nat)≠0/\RcR s d D N h many p nd (.inl (0,0))):=by
 subst a1;refine .inl ⟨B,B,λr hr=>?_⟩;unfold RcR;rw [O (λh=>by cases h.1),O (λh=>by cases h.1)];exact hr
theorem bA3{nms:List (List UInt8)}(a1:h=false)(hb:(D<3/\bQ=nd/\cm=db 0 q 0/\bc=db 0 9 0)\/(3<=D/\N<=nd/\bQ=nd/\cm=db 0 q 0/\bc=db 0 10 0)\/(3<=D/\nd<N/\bQ=nd+1/\cm=0/\bc=0))(hn:nd<=N) :
  bQ<=N/\KR s d D N h nms q nd bQ cm bc/\(bc=0->cm=0):=by
 subst a1;rcases hb with ⟨h1,rfl,Y,ar⟩ | ⟨h1,h2,rfl,Y,ar⟩ | ⟨h1,h2,rfl,Y,ar⟩
 . rw [show cm=q from Y,show bc=9 from ar]
   exact ⟨hn,.inr ⟨by decide,.inl ⟨B,h1,B⟩,B⟩,λh=>by cases h⟩
 . rw [show cm=q from Y,show bc=10 from ar]
   exact ⟨hn,.inr ⟨by decide,.inr ⟨B,h1,h2,B⟩,B⟩,λh=>by cases h⟩
 ·exact ⟨I,.inl ⟨ar,.inr ⟨h1,h2⟩,B⟩,λ_=>Y⟩
theorem bA2{nms:List (List UInt8)}(a1:h=true):KR s d D N h nms q nd nd 0 0:=by
 subst a1;exact .inl ⟨B,.inl B,B⟩
theorem CelX.z{ch off err:Nat}{x:List UInt8}(h:CelX s d p ch off err cm bc x)(hz:err=0->off=0):bc=0->cm=0:=by
 rcases h with ⟨_,_,rfl,rfl⟩ | ⟨hc,_,rfl,rfl⟩
 ·exact hz
 ·intro h;exact absurd h (M3 hc)
theorem Sz4.z{fY dW:Nat}(hx:Sz4 h t q fY dW e5 ew)(hz:dW=0->fY=0):ew=0->e5=0:=by
 rcases hx with ⟨_,rfl,rfl⟩ | ⟨_,rfl,rfl⟩
 ·intro h;exact absurd h (M3 (by decide))
 ·exact hz
theorem Ex5.z{l:List (List UInt8)}{fN eM:Nat}(hx:Ex5 h t l q e5 ew fN eM)(hz:ew=0->e5=0):eM=0->fN=0:=by
 rcases hx with ⟨_,_,rfl,rfl⟩ | ⟨_,rfl,rfl⟩
 ·intro h;exact absurd h (M3 (by decide))
 ·exact hz
theorem Ex5.nil:Ex5 h t [] q e5 ew e5 ew:=.inr ⟨(λhc=>by cases hc.2),rfl,rfl⟩
theorem Ex5.all{l:List (List UInt8)}{i fN eM:Nat}(hx:Ex5 h t (l.take i) q e5 ew fN eM)(hi:h=false\/l.length<=i):Ex5 h t l q e5 ew fN eM:=by
 rcases hi with rfl | hi
 . rcases hx with ⟨hc,_⟩ | ⟨_,h2⟩
   ·cases hc
   ·exact .inr ⟨(λhc=>by cases hc.1),h2⟩
 ·rw [lQ hi] at hx;exact hx
theorem bYf(hb:entB D N h nd)(e:bQ=n9 h nd)(hn:nd<=N):bQ<=N:=by rw [e];exact aS0 hb hn
theorem cCx {names:List (List UInt8)}{i:Nat}{u:List UInt8}(h:names[i]?=some u):(names.map λx=>(M x))[i]?=some (M u):=by rw [eF,h];rfl
theorem cCy (names:List (List UInt8))(t:List UInt8):(names.map λx=>(M x))++[M t]=(names++[t]).map λx=>(M x):=by rw [kc];rfl
theorem bF9 (s:List UInt8)(d:Dl)(D N:Nat)(af aj ak:Int)(p nd many:Nat)(h:Bool)(w0:World)(hs:s.length<=1000000)(fp:p<s.length)(hp:p<=s.length)(cY:okD d)(jO:nd<=N)(dr:N<=800000)(bRi:many<=1000000):Ret W 84 [.agg (ky s d D N af aj ak p nd 0 0).toArray,J many,.bool h] w0 (λv w'=>∃ (ch bQ cm bc cnt:Nat) (t:T) (dL:Option Addr) (ij dD:Nat) (tl:List UInt8) (rs:List Row),v=.tuple #[.agg (ky s d D N af aj ak ch bQ cm bc).toArray,.agg (nrow 8 [] [] (.slice dL ij dD) tl).toArray,J cnt]/\Cxr w0 w' [] rs/\((bc≠0/\RcR s d D N h many p nd (.inl (cm,bc)))\/(bc=0/\cm=0/\ch<=s.length/\p<ch/\bQ<=N/\cnt=t.kids.length/\∃ nms,RcR s d D N h many p nd (.inr (t,ch,bQ,nms))/\NR rs t (nrow 8 [] [] (.slice dL ij dD) tl)))):=by
 refine aI Tryz.func84 B Tryz.ntmps84 B ?_;have G:=Ctx.start w0;refine ag ?_;refine bE ?_;intro b3 w G eE gr;refine C3 ?_;intro bq w G gX hF;refine dv ?_;intro b7 w G nO iW;refine an ?_;refine S B B (cd (qs:=[(0,(J 8))]) (Hz _) B B) ?_;refine dv ?_;intro eZ w G rp tY;refine hX ?_;intro w G ko;refine aq ?_;refine cw (λf ah=>∃ (bQ cm bc:Nat),(bQ<=N)/\((bc=0/\cm=0/\∀ r,RcL s d D N h many ⟨p,bQ,[],[]⟩ r->RcR s d D N h many p nd r)\/(bc≠0/\RcR s d D N h many p nd (.inl (cm,bc))))/\f 1=J many/\f 2=.bool (h)/\f 3=ao b3 0/\f 6=ao bq 0/\f 7=ao b7 0/\f 8=J 0/\f 9=ao eZ 0/\f 10=al/\Cxr w0 ah [(eZ,aa 72 [J 8,M [],M [],al,M []]),(b7,aa 72 [J 0,M [],M [],al,M []]),(bq,aa 159 [M [],.int .u8 ((0:Nat):Int),.int .u8 ((0:Nat):Int),.bool (false),.bool (false),J 0,J 0,J 0,J 0,J 0,J 0,J 0,J 0,J 0]),(b3,aa 159 [M s,.int .u8 ((d.sep.toNat:Nat):Int),.int .u8 ((d.quo.toNat:Nat):Int),.bool (d.hdr),.bool (d.typ),J D,J N,.int .i64 (af),.int .i64 (aj),.int .i64 (ak),J p,J bQ,J cm,J bc])] []) ?_ ?_
 ·refine aq ?_;refine Z (λct=>?_) (λct=>?_)
  ·refine ag ?_;refine bG G (Tu s d D N af aj ak p nd 0 0 2 _ I) Tryz.func83 B B B B B B ?_;intro Yj w G E7 EO;obtain ⟨cR6,cSc,cJ9,rfl,UJ⟩:=EO;refine bn G 3 B B B B B B nv B B ?_;intro w G hG;refine ab ?_;have aH:=bA1 (s:=s) (d:=d) (many:=many) ct jO UJ;exact ⟨_,B,_,_,_,aH.1,aH.2,B,B,B,B,B,B,B,B,G⟩
  refine ab ?_;exact ⟨_,B,nd,0,0,jO,bA0 ct,B,B,B,B,B,B,B,B,G⟩
 intro f w ai;obtain ⟨bQ,cm,bc,aO6,WH,aK,aE,aR,aL,aS,bb,b6,cp,G⟩:=ai;refine az ?_;refine bu (λg f ah=>∃ (q dI of bB n iX dD:Nat) (jw dL:Option Addr) (kids:List T) (css:List (List Value)) (nms:List (List UInt8)) (rs:List Row),g=s.length-q/\(q<=s.length)/\(p<=q)/\(dI<=N)/\(n=kids.length)/\(n=nms.length)/\(n<=q)/\(many=0\/n<=many)/\(NL rs kids css)/\((bB=0/\of=0/\∀ r,RcL s d D N h many ⟨q,dI,nms,kids⟩ r->RcR s d D N h many p nd r)\/(bB≠0/\RcR s d D N h many p nd (.inl (of,bB))))/\f 10=.slice jw n iX/\f 11=J n/\f 1=J many/\f 2=.bool (h)/\f 3=ao b3 0/\f 6=ao bq 0/\f 7=ao b7 0/\f 9=ao eZ 0/\Cxr w0 ah [(eZ,aa 72 [J 8,M [],M [],.slice dL n dD,M []]),(b7,aa 72 [J 0,M [],M [],al,M []]),(bq,aa 159 [M [],.int .u8 ((0:Nat):Int),.int .u8 ((0:Nat):Int),.bool (false),.bool (false),J 0,J 0,J 0,J 0,J 0,J 0,J 0,J 0,J 0]),(b3,aa 159 [M s,.int .u8 ((d.sep.toNat:Nat):Int),.int .u8 ((d.quo.toNat:Nat):Int),.bool (d.hdr),.bool (d.typ),J D,J N,.int .i64 (af),.int .i64 (aj),.int .i64 (ak),J q,J dI,J of,J bB])] (⟨9,1,.slice jw n iX,n,nms.map λx=>(M x)⟩::⟨72,5,.slice dL n dD,n,css.flatten⟩::rs)) ((λ(q:Nat)=>s.length-q) p) ?_ ?_
 ·exact ⟨p,bQ,cm,bc,0,0,0,none,none,[],[],[],[],B,hp,bV _,aO6,B,B,bU _,.inr (bU _),NL.nil [],WH,cp,aJ,aK,aE,aR,aL,aS,b6,((G.nilRow 72 5).nilRow 9 1)⟩
 intro Nh f w ai;obtain ⟨q,dI,of,bB,n,iX,dD,jw,dL,kids,css,nms,rs,aOe,aw,j4,I7,gh,kl,aPd,aO0,hP,ck,cp,cv,aK,aE,aR,aL,aS,b6,G⟩:=ai;refine aG ?_;refine Z (λfI=>?_) (λfI=>?_)
 ·obtain ⟨ap,EL,e2⟩:=ck.resolve_right (λh=>h.1 I);subst ap EL;refine aG ?_;refine S B B (av (v:=(J q)) B B) ?_;refine i6 ?_;refine Z (λpF=>?_) (λpF=>?_)
  ·have nX:0<many/\many=n:=I;refine ab ?_;refine ei G (G.pick2 3 0 B B B) mixed [(0,37),(1,38),(3,40)] #[true,true,false,true,false,false,false] ac ac ac ac ?_;refine lk ?_;refine cW ?_;intro w G W1;refine p2 ?_;refine bo G (uQ s d D N af aj ak q dI 0 0 q 10 _) uL B B B B B B ?_;intro w G aQ0;refine G4 ?_;refine qU ?_;refine bn G 2 B B B aL B B nv B B ?_;intro w G lI;refine G4 ?_;refine kb ?_;refine bn G 1 B B B aS B B bA B B ?_;intro w G lI;refine dQ ?_;refine li ?_;refine AB ?_;refine aGe ?_;exact ⟨q,dI,q,10,0,.mk 0 [] [] [] [],dL,n,dD,[],_::_::rs,B,G.drop 4,.inl ⟨by decide,e2 _ (aVc gh nX.1 I)⟩⟩
  have nX:¬ (0<many/\many<=n):=I;refine ab ?_;refine cw (λf ah=>∃ (bQ cm bc:Nat),(bQ<=N)/\(KR s d D N h nms q dI bQ cm bc)/\(bc=0->cm=0)/\f 1=J many/\f 2=.bool (h)/\f 3=ao b3 0/\f 6=ao bq 0/\f 7=ao b7 0/\f 9=ao eZ 0/\f 10=.slice jw n iX/\f 11=J n/\f 12=J q/\Cxr w0 ah [(eZ,aa 72 [J 8,M [],M [],.slice dL n dD,M []]),(b7,aa 72 [J 0,M [],M [],al,M []]),(bq,aa 159 [M [],.int .u8 ((0:Nat):Int),.int .u8 ((0:Nat):Int),.bool (false),.bool (false),J 0,J 0,J 0,J 0,J 0,J 0,J 0,J 0,J 0]),(b3,aa 159 [M s,.int .u8 ((d.sep.toNat:Nat):Int),.int .u8 ((d.quo.toNat:Nat):Int),.bool (d.hdr),.bool (d.typ),J D,J N,.int .i64 (af),.int .i64 (aj),.int .i64 (ak),J q,J bQ,J cm,J bc])] (⟨9,1,.slice jw n iX,n,nms.map λx=>(M x)⟩::⟨72,5,.slice dL n dD,n,css.flatten⟩::rs)) ?_ ?_
  ·refine aq ?_;refine Z (λwW=>?_) (λwW=>?_)
   ·refine ag ?_;refine bG G (Tu s d D N af aj ak q dI 0 0 3 _ I) Tryz.func83 B B B B B B ?_;intro cSs w G aQ2 bSe;obtain ⟨cR8,cSe,cKb,rfl,Ix⟩:=bSe;refine Gp ?_;intro w G n1;refine ab ?_;have aH:=bA3 (s:=s) (d:=d) (nms:=nms) wW Ix I7;exact ⟨_,B,_,_,_,aH.1,aH.2.1,aH.2.2,aK,aE,aR,aL,aS,b6,cp,cv,B,G⟩
   refine ab ?_;exact ⟨_,B,dI,0,0,I7,bA2 wW,λ_=>rfl,aK,aE,aR,aL,aS,b6,cp,cv,B,G⟩
  intro f w ai;obtain ⟨bQ,cm,bc,aO6,tE,sG,aK,aE,aR,aL,aS,b6,cp,cv,cV,G⟩:=ai;refine aG ?_;refine bG G (bBy s d D N af aj ak q bQ cm bc _ hs aw cY) Tryz.func140 B B B B B B ?_;intro aUp w G Fa aPp;obtain ⟨eU,J5,H6,jW,rfl,cO5,cRk,aNr⟩:=aPp;refine ae ?_;refine Gp ?_;intro w G l0;refine S B B (av (v:=(M jW)) B B) ?_;refine aq ?_;refine S B B (cG (l:=[.int .u8 ((d.sep.toNat:Nat):Int),.int .u8 ((d.quo.toNat:Nat):Int),.bool (d.hdr),.bool (d.typ)]) B B q3 B pW ((G.row 3 B).sub 1 B) B) ?_;refine bo G (aIu jW d _ I) Tryz.func136 B B B B B B ?_;intro w G WT;refine S B B (av (v:=(M (c2 d jW))) B B) ?_;refine ab ?_;refine cw (λf ah=>∃ (e5 ew:Nat),(Sz4 h (c2 d jW) q J5 H6 e5 ew)/\f 1=J many/\f 2=.bool (h)/\f 3=ao b3 0/\f 6=ao bq 0/\f 7=ao b7 0/\f 9=ao eZ 0/\f 10=.slice jw n iX/\f 11=J n/\f 12=J q/\f 13=M jW/\f 14=M (c2 d jW)/\Cxr w0 ah [(eZ,aa 72 [J 8,M [],M [],.slice dL n dD,M []]),(b7,aa 72 [J 0,M [],M [],al,M []]),(bq,aa 159 [M [],.int .u8 ((0:Nat):Int),.int .u8 ((0:Nat):Int),.bool (false),.bool (false),J 0,J 0,J 0,J 0,J 0,J 0,J 0,J 0,J 0]),(b3,aa 159 [M s,.int .u8 ((d.sep.toNat:Nat):Int),.int .u8 ((d.quo.toNat:Nat):Int),.bool (d.hdr),.bool (d.typ),J D,J N,.int .i64 (af),.int .i64 (aj),.int .i64 (ak),J eU,J bQ,J e5,J ew])] (⟨9,1,.slice jw n iX,n,nms.map λx=>(M x)⟩::⟨72,5,.slice dL n dD,n,css.flatten⟩::rs)) ?_ ?_
  ·refine kD ?_;refine Z (λsr=>?_) (λsr=>?_)
   ·refine ae ?_;refine bo G (uQ s d D N af aj ak eU bQ J5 H6 q 10 _) uL B B B B B B ?_;intro w G aQ8;refine Gp ?_;intro w G B2;refine ab ?_;exact ⟨_,rfl,_,_,.inl ⟨(by rcases sr with ⟨h1,h2⟩ | h2;exact .inl ⟨h1,I⟩;exact .inr I),rfl,rfl⟩,aK,aE,aR,aL,aS,b6,cp,cv,cV,rfl,rfl,G⟩
   refine ab ?_;exact ⟨_,rfl,_,_,.inr ⟨(λhc=>by rcases hc with ⟨h1,h2⟩ | h2;(rcases sr.1 with Y | Y;(rw [h1] at Y;cases Y);omega);(have:=sr.2;omega)),rfl,rfl⟩,aK,aE,aR,aL,aS,b6,cp,cv,cV,rfl,rfl,G⟩
  intro f w ai;obtain ⟨e5,ew,ec,aK,aE,aR,aL,aS,b6,cp,cv,cV,kn,mu,G⟩:=ai;refine az ?_;refine bu (λg f ah=>∃ (i fN eM:Nat),g=n-i/\(i<=n)/\(Ex5 h (c2 d jW) (nms.take i) q e5 ew fN eM)/\f 15=J i/\f 1=J many/\f 2=.bool (h)/\f 3=ao b3 0/\f 6=ao bq 0/\f 7=ao b7 0/\f 9=ao eZ 0/\f 10=.slice jw n iX/\f 11=J n/\f 12=J q/\f 13=M jW/\f 14=M (c2 d jW)/\Cxr w0 ah [(eZ,aa 72 [J 8,M [],M [],.slice dL n dD,M []]),(b7,aa 72 [J 0,M [],M [],al,M []]),(bq,aa 159 [M [],.int .u8 ((0:Nat):Int),.int .u8 ((0:Nat):Int),.bool (false),.bool (false),J 0,J 0,J 0,J 0,J 0,J 0,J 0,J 0,J 0]),(b3,aa 159 [M s,.int .u8 ((d.sep.toNat:Nat):Int),.int .u8 ((d.quo.toNat:Nat):Int),.bool (d.hdr),.bool (d.typ),J D,J N,.int .i64 (af),.int .i64 (aj),.int .i64 (ak),J eU,J bQ,J fN,J eM])] (⟨9,1,.slice jw n iX,n,nms.map λx=>(M x)⟩::⟨72,5,.slice dL n dD,n,css.flatten⟩::rs)) ((λ(i:Nat)=>n-i) 0) ?_ ?_
  ·exact ⟨0,e5,ew,B,bU _,Ex5.nil,aJ,aK,aE,aR,aL,aS,b6,cp,cv,cV,kn,mu,G⟩
  intro cKs f w ai;obtain ⟨i,fN,eM,cMt,hi,Ew,kZ,aK,aE,aR,aL,aS,b6,cp,cv,cV,kn,mu,G⟩:=ai;refine gp ?_;refine Z (λwY=>?_) (λwY=>?_)
  ·have a1:h=true:=wY.1;obtain ⟨u,aP⟩:∃ u,nms[i]?=some u:=⟨_,bS I⟩;obtain ⟨bMp,bMm,k0,j2,b8,cz⟩:=G.rowS (by rw [fT];omega);have aQj:=Ew.step (qP aP) a1;refine aG ?_;refine S B B (cT mc gA B (show Value.slice jw n iX=.slice (some ⟨bMp,0,none⟩) n bMm from k0) B I I) ?_;refine S B B (br (v:=(M u)) B B aF B (by rw [gD,Nat.mul_one];exact cz.cell i (cCx aP))) ?_;refine ab ?_;refine S B B (ga (s:=u) (u:=c2 d jW) B B B) ?_;refine ab ?_;refine Z (λtH=>?_) (λtH=>?_)
   ·refine ae ?_;refine bo G (uQ s d D N af aj ak eU bQ fN eM q 8 _) uL B B B B B B ?_;intro w G bVb;refine Gp ?_;intro w G Fe;refine qZ ?_;exact ⟨_,_,I,B,i+1,_,_,B,I,(aQj.1 tH),aJ,aK,aE,aR,aL,aS,b6,cp,cv,cV,kn,mu,G⟩
   refine qZ ?_;exact ⟨_,_,I,B,i+1,_,_,B,I,(aQj.2 tH),aJ,aK,aE,aR,aL,aS,b6,cp,cv,cV,kn,mu,G⟩
  refine aq ?_;refine Gm ?_;intro cJm w G cL4 bVc;refine Gn ?_;intro cUp w G cN2;replace G:=G.drop 1;obtain ⟨Pe,Pg,rfl⟩:=G.rowSl;replace G:=G.row_eq B (cCy nms (c2 d jW));refine S B B (av (v:=.slice Pe (n+1) Pg) B B) ?_;refine an ?_;refine bo G (bBz s d D N af aj ak eU bQ fN eM _ hs I) Tryz.func141 B B B B B B ?_;intro w G bVf;refine Gp ?_;intro w G B4;refine ab ?_;refine cw (λf ah=>∃ (sd wE Cn yE:Nat),(aBx s d D N h many q dI nms kids eU bQ Cn yE jW)/\f 16=ao sd 0/\f 10=.slice Pe (n+1) Pg/\f 1=J many/\f 2=.bool (h)/\f 3=ao b3 0/\f 6=ao bq 0/\f 7=ao b7 0/\f 9=ao eZ 0/\f 11=J n/\f 12=J q/\Cxr w0 ah [(sd,aa 72 [J 5,M [],M [],.slice (some ⟨wE,0,none⟩) 1 1,M []]),(eZ,aa 72 [J 8,M [],M [],.slice dL n dD,M []]),(b7,aa 72 [J 0,M [],M [],al,M []]),(bq,aa 159 [M [],.int .u8 ((0:Nat):Int),.int .u8 ((0:Nat):Int),.bool (false),.bool (false),J 0,J 0,J 0,J 0,J 0,J 0,J 0,J 0,J 0]),(b3,aa 159 [M s,.int .u8 ((d.sep.toNat:Nat):Int),.int .u8 ((d.quo.toNat:Nat):Int),.bool (d.hdr),.bool (d.typ),J D,J N,.int .i64 (af),.int .i64 (aj),.int .i64 (ak),J eU,J bQ,J Cn,J yE])] (⟨72,5,.slice (some ⟨wE,0,none⟩) 1 1,1,nrow 2 [] jW (al) []⟩::⟨9,1,.slice Pe (n+1) Pg,n+1,(nms++[c2 d jW]).map λx=>(M x)⟩::⟨72,5,.slice dL n dD,n,css.flatten⟩::rs)) ?_ ?_
  ·refine ag ?_;refine S B B (cd (qs:=[(0,(J 2)),(2,(M jW))]) (MC _ _) B B) ?_;refine lg ?_;intro wE w G bN2 aRb;replace G:=G.toRow (size:=5) (k:=1) B (by decide);refine S B B (cd (qs:=[(0,(J 5)),(3,.slice (some ⟨wE,0,none⟩) 1 1)]) (aIa _ _ _ _) B B) ?_;refine dv ?_;intro sd w G No sD;refine hX ?_;intro w G Ff;refine ab ?_;have aN5:=Ew.all (by rcases wY with h1 | h1;exact .inl h1;exact .inr I);exact ⟨_,B,_,_,_,_,(cCl gh nX (aN5.z (ec.z (aNr.z sG))) (cCk tE aNr ec aN5)),B,B,aK,aE,aR,aL,aS,b6,cv,cV,G⟩
  intro f w ai;obtain ⟨sd,wE,Cn,yE,dj,jf,cp,aK,aE,aR,aL,aS,b6,cv,cV,G⟩:=ai;refine aG ?_;refine Z (λaNp=>?_) (λaNp=>?_)
  ·have aN4:=dj.resolve_left (λh=>aNp (by rw [h.1];rfl));refine ag ?_;refine ei G (G.pick2 4 1 B B B) mixed [(0,179),(1,180)] #[true,true,false,false,false] ac ac ac ac ?_;refine kC ?_;refine cW ?_;intro w G bVl;refine p2 ?_;refine Rb ?_;intro w G Xc;refine Ha ?_;refine nD ?_;refine Rc ?_;intro w G Xc;refine dQ ?_;refine qU ?_;refine AB ?_;refine Sr ?_;exact ⟨eU,bQ,Cn,yE,0,.mk 0 [] [] [] [],dL,n,dD,[],_::_::_::rs,B,G.drop 5,.inl ⟨aN4.1,e2 _ aN4.2⟩⟩
  obtain ⟨bM1,bRw,rl,aRj,VN,bO8⟩:=dj.resolve_right (λh=>h.1 I);have zc:=HF aw (H2 rl).1;have BJ:=bYf (H2 rl).2 VN I7;subst bM1 bRw;refine ae ?_;refine iu ?_;intro w G cQ8;refine ye ?_;refine dk B B B aO (λhc=>dm (s:=s) (i:=eU) B ay ay aF fO) ?_;refine oz ?_;refine lj ?_;refine Z (λbOb=>?_) (λbOb=>?_)
  ·have rJ:eU<s.length/\(s.getD eU 0).toNat=d.sep.toNat:=I;have mr:sub s eU 1=[d.sep]:=by rw [FW rJ.1,q5.1 rJ.2]
   refine ab ?_;refine ei G (G.pick2 0 4 B B B) mixed [(0,116),(1,117),(2,118),(3,119),(4,120),(5,121),(6,122),(7,123),(8,124),(9,125),(10,126)] #[true,true,true,true,true,true,true,true,true,true,true,false,false,false,false] ac ac ac ac ?_;refine yf ?_;refine eY ?_;refine bw B (bx B) (λw G=>ur (s:=s) (i:=eU) (n:=1) B B B B aF I) ?_;refine bw B (bx B) (λw G=>cd (qs:=[(0,(J 11)),(2,(M (sub s eU 1)))]) (MC _ _) B B) ?_;refine cW ?_;intro w G cQ9;refine mO ?_;refine lg ?_;intro cIu w G cK9 cQf;refine hK ⟨.inl (G.pick2 1 5 B B B),?_⟩;refine r2 ?_;refine s8 ?_;intro cT1 w G cM2;replace G:=G.drop 1;obtain ⟨JM,JP,rfl⟩:=G.rowSl;refine dQ ?_;refine pZ ?_;refine ej ?_;refine C6 ?_;refine bR (v:=.slice JM (1+1) JP) G 0 B B B B B B B B mK ?_;intro w G aRg;refine hY ?_;refine aq ?_;refine lg ?_;intro cIx w G cLc cQj;replace G:=G.pickR 2 B;refine s8 ?_;intro cT2 w G cM6;replace G:=G.drop 1;obtain ⟨JQ,JR,rfl⟩:=G.rowSl;have UE:NL (⟨72,5,.slice JM (1+1) JP,1+1,nrow 2 [] jW (al) []++nrow 11 [] (sub s eU 1) (al) []⟩::rs) (kids++[(.mk 5 [] [] [.mk 2 [] jW [] [],.mk 11 [] (sub s eU 1) [] []] [])]) (css++[nrow 5 [] [] (.slice JM (1+1) JP) []]) :=
    (hP.mono λr h=>bP _ h).snoc ((((NL.nil _).snoc (NR.leaf _ 2 [] jW [])).snoc (NR.leaf _ 11 [] (sub s eU 1) [])).node (n:=1+1) rfl (b9 ..) 5 [] [] [])
   refine ab ?_;refine aC9 ?_;intro w G Xa;refine aG ?_;refine bR (v:=(J (eU+1))) G 4 B B B B B B B B bN ?_;intro w G bVo;refine aq ?_;refine Lu ?_;refine ab ?_;exact ⟨_,_,I,B,eU+1,bQ,0,0,n+1,Pg,JR,Pe,JQ,kids++[(.mk 5 [] [] [.mk 2 [] jW [] [],.mk 11 [] (sub s eU 1) [] []] [])],css++[nrow 5 [] [] (.slice JM (1+1) JP) []],nms++[c2 d jW],⟨72,5,.slice JM (1+1) JP,1+1,nrow 2 [] jW (al) []++nrow 11 [] (sub s eU 1) (al) []⟩::rs,B,rJ.1,I,BJ,Kb,(by rw [aQ,kl];rfl),I,I,UE,.inl ⟨B,B,λr hr=>e2 r (aVd gh nX (λ_=>rfl) rl rJ.1 rJ.2 (by rw [<- VN,<- aRj,show uU jW d.sep=(.mk 5 [] [] [.mk 2 [] jW [] [],.mk 11 [] (sub s eU 1) [] []] []) by rw [mr];rfl];exact hr))⟩,cp,aJ,aK,aE,aR,aL,aS,b6,(((G.drop 1).row_eq B (Ig _ _)).pickR 2 B)⟩
  have rJ:¬ (eU<s.length/\(s.getD eU 0).toNat=d.sep.toNat):=I;have y1:(ci s eU).1=0:=bO8.resolve_left rJ;have j3:=bXm zc.2 y1;have VF:=bXl y1;have xg:p<eU+(ci s eU).2.2:=by
   by_cases h:eU<s.length
   ·have:=j3.2 h;omega
   ·omega
  have bM9:NL (⟨72,5,.slice (some ⟨wE,0,none⟩) 1 1,1,nrow 2 [] jW (al) []⟩::rs) (kids++[(.mk 5 [] [] [.mk 2 [] jW [] []] [])]) (css++[nrow 5 [] [] (.slice (some ⟨wE,0,none⟩) 1 1) []]) :=
   (hP.mono λr h=>bP _ h).snoc (((NL.nil _).snoc (NR.leaf _ 2 [] jW [])).node (n:=1) rfl (b9 ..) 5 [] [] [])
  refine az ?_;refine lg ?_;intro cI0 w G cLf bUy;replace G:=G.pickR 2 B;refine s8 ?_;intro cT4 w G cM9;replace G:=G.drop 1;obtain ⟨JQ,JR,rfl⟩:=G.rowSl;refine ab ?_;refine aC9 ?_;intro w G OH;refine cK ?_;refine Z (λbOk=>?_) (λbOk=>?_)
  ·refine ab ?_;refine ei G (G.pick2 4 1 B B B) mixed [(0,150),(1,151),(2,152),(4,154)] #[true,true,true,false,true,false,false,false] ac ac ac ac ?_;refine i1 ?_;refine cW ?_;intro w G bVk;refine nD ?_;refine bo G (uQ s d D N af aj ak eU bQ 0 0 eU 10 _) uL B B B B B B ?_;intro w G cQm;refine Ha ?_;refine kb ?_;refine Rb ?_;intro w G Xb;refine Ha ?_;refine li ?_;refine Rc ?_;intro w G Xb;refine dQ ?_;refine lh ?_;refine AB ?_;refine Sr ?_;exact ⟨eU,bQ,eU,10,0,.mk 0 [] [] [] [],JQ,n+1,JR,[],_::_::_::rs,B,G.drop 5,.inl ⟨by decide,e2 _ (aVa gh nX (λ_=>rfl) rl rJ VF I)⟩⟩
  refine aG ?_;refine bo G (bB0 s eU _ hs I y1) Tryz.func142 B B B B B B ?_;intro w G cQo;refine S B B (av (v:=(J ((ci s eU).2.2))) B B) ?_;refine gp ?_;refine S B B (ur (s:=s) (i:=eU) (n:=((ci s eU).2.2)) B B B B aF I) ?_;refine ab ?_;refine bR (v:=(M (sub s eU ((ci s eU).2.2)))) G 1 B B B B B B B B gA ?_;intro w G bVq;refine bz ?_;refine bR (v:=(J (eU+(ci s eU).2.2))) G 4 B B B B B B B B bN ?_;intro w G Fg;refine ag ?_;refine ei G (G.pick2 4 1 B B B) mixed [(0,175),(1,176),(2,177),(3,178)] #[true,true,true,true,false,false,false] ac ac ac ac ?_;refine i1 ?_;refine cW ?_;intro w G cRb;refine qU ?_;refine Rb ?_;intro w G bVr;refine Ha ?_;refine kb ?_;refine Rc ?_;intro w G bVr;refine Ha ?_;refine li ?_;refine Lu ?_;refine l6 ?_;refine Sr ?_;exact ⟨eU+(ci s eU).2.2,bQ,0,0,n+1,.mk 8 [] [] (kids++[wN (sub s q (eU-q))]) (sub s eU (ci s eU).2.2),JQ,n+1,JR,_,_::_::_::rs,rfl,G.drop 5,.inr ⟨rfl,rfl,j3.1,xg,BJ,by show n+1=(kids++[_]).length;rw [aQ,gh];rfl,_,by rw [VN];exact e2 _ (aU8 gh nX (λ_=>rfl) rl rJ VF I),by rw [<- aRj];exact (bM9.mono λr h=>bP _ (by rcases eX.1 h with rfl | h;exact b9 ..;exact bP _ (bP _ h))).node (n:=n+1) Kb (by rw [<- Ig];exact b9 ..) 8 [] [] _⟩⟩
 have Va:=ck.resolve_left (λh=>I);refine ag ?_;refine ei G (G.pick2 3 0 B B B) mixed [(0,179),(1,180)] #[true,true,false,false,false] ac ac ac ac ?_;refine kC ?_;refine cW ?_;intro w G bVl;refine p2 ?_;refine bn G 2 B B B aL B B nv B B ?_;intro w G Xc;refine G4 ?_;refine nD ?_;refine bn G 1 B B B aS B B bA B B ?_;intro w G Xc;refine dQ ?_;refine qU ?_;refine AB ?_;refine aGe ?_;exact ⟨q,dI,of,bB,0,.mk 0 [] [] [] [],dL,n,dD,[],_::_::rs,B,G.drop 4,.inl Va⟩
theorem bAc (bj:List UInt8)(bg:Nat)(b4:Nat)(fQ:Bool)(ir:Bool)(ld:Int)(ux:Int)(uy:Int)(uz:Int)(uw:Int)(w:World):(Instr.build 159 ([(0,(M bj)),(1,.agg #[.int .u8 ((bg:Nat):Int),.int .u8 ((b4:Nat):Int),.bool (fQ),.bool (ir)]),(2,.agg #[.int .i64 (ld),.int .i64 (ux),.int .i64 (uy),.int .i64 (uz),.int .i64 (uw)])]:List (Nat×Value)).toArray).run W w=.ok (.agg #[M bj,.int .u8 ((bg:Nat):Int),.int .u8 ((b4:Nat):Int),.bool (fQ),.bool (ir),.int .i64 (ld),.int .i64 (ux),.int .i64 (uy),.int .i64 (uz),.int .i64 (uw),J 0,J 0,J 0,J 0]) w:=by
 go_simp
 try rfl
theorem bF4 (s:List UInt8)(bD bK af aj ak:Int)(w0:World)(hs:s.length<=1000000):Fc W 76 [M s,.agg #[.int .i64 bD,.int .i64 bK,.int .i64 af,.int .i64 aj,.int .i64 ak]] w0 (λv _=>∃ o bk:Nat,v=.tuple #[J o,J bk]/\((o=0/\bk=1/\¬ okL bD bK af aj ak)\/(o=0/\bk=10/\okL bD bK af aj ak/\af<(s.length:Int))\/(bk=5/\okL bD bK af aj ak/\¬ af<(s.length:Int)/\Bad s o/\o<s.length)\/(bk=0/\o=0/\okL bD bK af aj ak/\¬ af<(s.length:Int)/\Bad s s.length))):=by
 refine aI Tryz.func76 B Tryz.ntmps76 B ?_;have G:=Ctx.start w0;refine ag ?_;refine bE ?_;intro b3 w G eE gr;refine aG ?_;refine bo G (aIs bD bK af aj ak _) Tryz.func129 B B B B B B ?_;intro w G jg;refine ag ?_;refine Z (λhD=>?_) (λhD=>?_)
 ·have iC:¬ okL bD bK af aj ak:=hD;refine az ?_;refine x7 ?_;exact ⟨G.ext,0,1,B,.inl ⟨B,B,iC⟩⟩
 have cY:okL bD bK af aj ak:=hD;refine cF ?_;refine Z (λgK=>?_) (λgK=>?_)
 ·refine az ?_;refine x7 ?_;exact ⟨G.ext,0,10,B,.inr (.inl ⟨B,B,cY,I⟩)⟩
 refine aq ?_;refine bG G (aIt s _ I) Tryz.func130 B B B B B B ?_;intro Ki w G sD rG;obtain ⟨Fi,Iz,bQb,rfl⟩:=rG;refine LY ?_;refine bz ?_;refine Z (λct=>?_) (λct=>?_)
 ·refine ae ?_;refine LY ?_;refine ae ?_;refine x7 ?_;exact ⟨G.ext,Fi,5,B,.inr (.inr (.inl ⟨B,cY,I,Iz,I⟩))⟩
 refine aG ?_;refine x7 ?_;have nU:Fi=s.length:=I;exact ⟨G.ext,0,0,B,.inr (.inr (.inr ⟨B,B,cY,I,nU▸Iz⟩))⟩
theorem bAy{bD bK af aj ak:Int}{o bk:Nat}(hd:okD d)(h:(o=0/\bk=1/\¬ okL bD bK af aj ak)\/(o=0/\bk=10/\okL bD bK af aj ak/\af<(s.length:Int))\/(bk=5/\okL bD bK af aj ak/\¬ af<(s.length:Int)/\Bad s o/\o<s.length)\/(bk=0/\o=0/\okL bD bK af aj ak/\¬ af<(s.length:Int)/\Bad s s.length))(he:bk≠0):Pq s d bD bK af aj ak (.inl (o,bk)):=by
 rcases h with ⟨rfl,rfl,h⟩ | ⟨rfl,rfl,h,h2⟩ | ⟨rfl,h,h2,Y,ar⟩ | ⟨rfl,_⟩
 ·exact .lim hd h
 ·exact .size hd h h2
 ·exact .text hd h h2 Y ar
 ·exact absurd B he
theorem aN0{recs:List T}{n:Nat}(h:n=recs.length):(d.hdr&&(((n:Nat):Int)==((0:Nat):Int)))=(d.hdr&&decide (recs=[])):=by
 congr 1
 rw [jE,beq_iff_eq,decide_eq_true_eq,<- List.length_eq_zero_iff];omega
theorem Tp (s:List UInt8)(d:Dl)(bD bK af aj ak:Int)(w0:World)(hs:s.length<=200000):Ret W 35 [M s,.agg #[.int .u8 ((d.sep.toNat:Nat):Int),.int .u8 ((d.quo.toNat:Nat):Int),.bool d.hdr,.bool d.typ],.agg #[.int .i64 bD,.int .i64 bK,.int .i64 af,.int .i64 aj,.int .i64 ak]] w0 (λv w'=>∃ (k:Nat) (cI bl ev:List UInt8) (cB:Option Addr) (n2 n3 o bk:Nat) (rs:List Row),v=.tuple #[.agg (nrow k cI bl (.slice cB n2 n3) ev).toArray,J o,J bk]/\Cxr w0 w' [] rs/\((bk≠0/\Pq s d bD bK af aj ak (.inl (o,bk)))\/(bk=0/\o=0/\∃ (l:List T),Pq s d bD bK af aj ak (.inr (docD l))/\NR rs (docD l) (nrow k cI bl (.slice cB n2 n3) ev)))):=by
 refine aI Tryz.func35 B Tryz.ntmps35 B ?_;have G:=Ctx.start w0;refine ag ?_;refine bE ?_;intro bp w G gW gN;refine bE ?_;intro bH w G fl fg;refine dv ?_;intro bq w G gX hF;refine aG ?_;refine bo G (bF7 d _) Tryz.func82 B B B B B B ?_;intro w G sD;refine ag ?_;refine Z (λhQ=>?_) (λhQ=>?_)
 ·have sp:¬ okD d:=by simpa using hQ
  refine wu ?_;refine hX ?_;intro w G jh;refine an ?_;refine aGf ?_;exact ⟨0,[],[],[],none,0,0,0,1,[],B,G.drop 3,.inl ⟨by decide,.dia sp⟩⟩
 have cY:okD d:=by simpa using hQ
 refine az ?_;refine bG G (bF4 s bD bK af aj ak _ I) Tryz.func76 B B B B B B ?_;intro Yj w G E7 EO;obtain ⟨aTl,aK0,rfl,yP⟩:=EO;refine ae ?_;refine aHh ?_;refine az ?_;refine Z (λlV=>?_) (λlV=>?_)
 ·have BR:=bAy cY yP I;refine wu ?_;refine ag ?_;refine hX ?_;intro w G rK;refine aHh ?_;refine ag ?_;refine aGf ?_;exact ⟨0,[],[],[],none,0,0,aTl,aK0,[],B,G.drop 3,.inl ⟨I,BR⟩⟩
 obtain ⟨_,_,w8,kY,lC⟩:=((yP.resolve_left (λh=>I)).resolve_left (λh=>I)).resolve_left (λh=>I);have BG:=w8;unfold okL at BG;obtain ⟨D,rfl⟩:∃ D:Nat,bD=D:=⟨bD.toNat,I⟩;obtain ⟨N,rfl⟩:∃ N:Nat,bK=N:=⟨bK.toNat,I⟩
 clear yP
 refine ab ?_;refine cw (λf ah=>∃ (da:Nat),f 11=ao da 0/\f 0=M s/\f 4=ao bp 0/\f 6=ao bq 0/\f 7=J 0/\f 8=J 0/\Cxr w0 ah [(da,aa 159 [M s,.int .u8 ((d.sep.toNat:Nat):Int),.int .u8 ((d.quo.toNat:Nat):Int),.bool (d.hdr),.bool (d.typ),J D,J N,.int .i64 (af),.int .i64 (aj),.int .i64 (ak),J 0,J 1,J 0,J 0]),(bq,aa 72 [J 0,M [],M [],al,M []]),(bH,aa 23 [.int .i64 (((D:Nat):Int)),.int .i64 (((N:Nat):Int)),.int .i64 (af),.int .i64 (aj),.int .i64 (ak)]),(bp,aa 25 [.int .u8 ((d.sep.toNat:Nat):Int),.int .u8 ((d.quo.toNat:Nat):Int),.bool (d.hdr),.bool (d.typ)])] []) ?_ ?_
 ·refine an ?_;refine S B B (cd (qs:=[(0,(M s)),(1,.agg #[.int .u8 ((d.sep.toNat:Nat):Int),.int .u8 ((d.quo.toNat:Nat):Int),.bool (d.hdr),.bool (d.typ)]),(2,.agg #[.int .i64 (((D:Nat):Int)),.int .i64 (((N:Nat):Int)),.int .i64 (af),.int .i64 (aj),.int .i64 (ak)])]) (bAc _ _ _ _ _ _ _ _ _ _) B B) ?_;refine bG G (Tu s d D N af aj ak 0 0 0 0 1 _ I) Tryz.func83 B B B B B B ?_;intro PC w G B0 xd;obtain ⟨cR7,cSd,cKa,rfl,aNh⟩:=xd;obtain ⟨_,_,qA,hx2,hx3⟩:=(aNh.resolve_left (λh=>I)).resolve_left (λh=>I);refine C3 ?_;intro da w G tD pN;refine xW ?_;intro w G jt;refine ab ?_;subst qA hx2 hx3;exact QT
 intro f w ai;obtain ⟨da,cv,aB,aM,aL,aS,bb,G⟩:=ai;refine ag ?_;refine S B B (cd (qs:=[(0,(J 1))]) (Hz _) B B) ?_;refine dv ?_;intro eD w G lA mx;replace G:=G.nilRow 72 5;refine hX ?_;intro w G iD;refine aq ?_;refine cw (λf ah=>∃ (q nd of bB many n dD:Nat) (dL:Option Addr) (xs:List Value) (rs:List Row),(bB≠0\/s.length<=q)/\((bB=0/\of=0/\∃ (recs:List T) (css:List (List Value)),xs=css.flatten/\NL rs recs css/\n=recs.length/\nd<=N/\validD (s.drop q)=true/\∀ r,DcL s d D N ⟨q,nd,recs,many⟩ r->DcL s d D N ⟨0,1,[],0⟩ r)\/(bB≠0/\DcL s d D N ⟨0,1,[],0⟩ (.inl (of,bB))))/\f 0=M s/\f 6=ao bq 0/\f 7=J 0/\f 8=J 0/\f 11=ao da 0/\f 12=ao eD 0/\Cxr w0 ah [(eD,aa 72 [J 1,M [],M [],.slice dL n dD,M []]),(da,aa 159 [M s,.int .u8 ((d.sep.toNat:Nat):Int),.int .u8 ((d.quo.toNat:Nat):Int),.bool (d.hdr),.bool (d.typ),J D,J N,.int .i64 (af),.int .i64 (aj),.int .i64 (ak),J q,J nd,J of,J bB]),(bq,aa 72 [J 0,M [],M [],al,M []]),(bH,aa 23 [.int .i64 (((D:Nat):Int)),.int .i64 (((N:Nat):Int)),.int .i64 (af),.int .i64 (aj),.int .i64 (ak)]),(bp,aa 25 [.int .u8 ((d.sep.toNat:Nat):Int),.int .u8 ((d.quo.toNat:Nat):Int),.bool (d.hdr),.bool (d.typ)])] (⟨72,5,.slice dL n dD,n,xs⟩::rs)) ?_ ?_
 ·refine ab ?_;refine bu (λg f ah=>∃ (q nd of bB many n dD:Nat) (dL:Option Addr) (xs:List Value) (rs:List Row),g=(if bB=0 then s.length+1-q else 0)/\(q<=s.length\/bB≠0)/\(many<=1000000\/bB≠0)/\(n<=q\/bB≠0)/\(n<=1000000)/\((bB=0/\of=0/\∃ (recs:List T) (css:List (List Value)),xs=css.flatten/\NL rs recs css/\n=recs.length/\nd<=N/\validD (s.drop q)=true/\∀ r,DcL s d D N ⟨q,nd,recs,many⟩ r->DcL s d D N ⟨0,1,[],0⟩ r)\/(bB≠0/\DcL s d D N ⟨0,1,[],0⟩ (.inl (of,bB))))/\f 13=J many/\f 0=M s/\f 4=ao bp 0/\f 6=ao bq 0/\f 7=J 0/\f 8=J 0/\f 11=ao da 0/\f 12=ao eD 0/\Cxr w0 ah [(eD,aa 72 [J 1,M [],M [],.slice dL n dD,M []]),(da,aa 159 [M s,.int .u8 ((d.sep.toNat:Nat):Int),.int .u8 ((d.quo.toNat:Nat):Int),.bool (d.hdr),.bool (d.typ),J D,J N,.int .i64 (af),.int .i64 (aj),.int .i64 (ak),J q,J nd,J of,J bB]),(bq,aa 72 [J 0,M [],M [],al,M []]),(bH,aa 23 [.int .i64 (((D:Nat):Int)),.int .i64 (((N:Nat):Int)),.int .i64 (af),.int .i64 (aj),.int .i64 (ak)]),(bp,aa 25 [.int .u8 ((d.sep.toNat:Nat):Int),.int .u8 ((d.quo.toNat:Nat):Int),.bool (d.hdr),.bool (d.typ)])] (⟨72,5,.slice dL n dD,n,xs⟩::rs)) ((λ(q:Nat) (bB:Nat)=>(if bB=0 then s.length+1-q else 0)) 0 0) ?_ ?_
  ·exact ⟨0,1,0,0,0,0,0,none,[],[],B,.inl (bU _),.inl I,.inl (bU _),I,.inl ⟨B,B,[],[],B,NL.nil [],B,I,(by rw [mS];exact lC.valid),λr h=>h⟩,aJ,aB,aM,aL,aS,bb,cv,B,G⟩
  intro so f w ai;obtain ⟨q,nd,of,bB,many,n,dD,dL,xs,rs,IP,aw,bRi,aPd,lG,ck,kn,aB,aM,aL,aS,bb,cv,cV,G⟩:=ai;refine kD ?_;refine Z (λiT=>?_) (λiT=>?_)
  ·have U9:bB=0/\q<s.length:=I;obtain ⟨ap,EL,recs,css,OK,hP,gh,xa,Oo,e2⟩:=ck.resolve_right (λh=>h.1 U9.1)
   clear ck
   subst ap EL;refine an ?_;refine dv ?_;intro yt w G Eo oX;refine kf ?_;refine bW (bF9 s d D N af aj ak q nd many ((d.hdr)&&(((n:Nat):Int)==((0:Nat):Int))) _ I I I cY xa I I) Tryz.func84 B B B B B B ?_;rintro cGi w ⟨FI,XT,X2,yD,MK,P4,Xw,XA,Xx,YQ,aVm,rfl,cq,aM3⟩;replace G:=(G.callRows cq).grab1;refine an ?_;refine bn G 2 B B B cv B B nv B B ?_;intro w G sE;refine hX ?_;intro w G sE;refine S B B (av (v:=(J MK)) B B) ?_;refine aq ?_;refine lg ?_;intro b64 w G bNz aQ7;refine s8 ?_;intro aW9 w G cNu;replace G:=G.drop 1;refine ab ?_;refine bR (v:=aW9) G 1 B B B B B G.oneS B B mK ?_;intro w G n1;refine ab ?_;obtain ⟨aY9,Tr,rfl⟩:=G.rowSl;have hb:((yD=0/\X2=0/\∃ (recs:List T) (css:List (List Value)),(xs++nrow 8 [] [] (.slice Xw XA Xx) YQ)=css.flatten/\NL (aVm++rs) recs css/\(n+1)=recs.length/\XT<=N/\validD (s.drop FI)=true/\∀ r,DcL s d D N ⟨FI,XT,recs,MK⟩ r->DcL s d D N ⟨0,1,[],0⟩ r)\/(yD≠0/\DcL s d D N ⟨0,1,[],0⟩ (.inl (X2,yD))))/\(FI<=s.length\/yD≠0)/\(MK<=1000000\/yD≠0)/\(n+1<=FI\/yD≠0)/\(yD=0->q<FI):=by
    rcases aM3 with ⟨h1,h2⟩ | ⟨h1,h2,Y,ar,bd,h6,nms,h7,hq⟩
    ·exact ⟨.inr ⟨h1,e2 _ (aKq U9.2 (aN0 gh) h2)⟩,.inr h1,.inr h1,.inr h1,λh=>absurd h h1⟩
    . have hf:=RcR.fact cY I Oo h7
      have jr:=hf.cnt;have lE:P4.kids.length<=P4.count:=by
       cases P4 with
       | mk a b c ks e=>rw [dT];have:=jv ks;show ks.length<=_;omega
      exact ⟨.inl ⟨h1,h2,recs++[P4],css++[nrow 8 [] [] (.slice Xw XA Xx) YQ],by rw [OK];exact Ig _ _,(hP.mono λr h=>h0 _ h).snoc (hq.mono λr h=>iM _ h),by rw [aQ,gh];rfl,bd,hf.val,λr hr=>e2 r (aKr U9.2 (aN0 gh) h7 (by rw [<- h6];exact hr))⟩,.inl Y,.inl I,.inl I,λ_=>ar⟩
   clear aM3
   exact ⟨_,_,(by rw [IP,U B];split <;> omega),B,FI,XT,X2,yD,MK,n+1,Tr,aY9,xs++nrow 8 [] [] (.slice Xw XA Xx) YQ,aVm++rs,B,hb.2.1,hb.2.2.1,hb.2.2.2.1,I,hb.1,aJ,aB,aM,aL,aS,bb,cv,cV,(G.drop 1)⟩
  refine ab ?_;exact ⟨_,B,q,nd,of,bB,many,n,dD,dL,xs,rs,I,ck,aB,aL,aS,bb,cv,cV,G⟩
 intro f w ai;obtain ⟨q,nd,of,bB,many,n,dD,dL,xs,rs,lH,ck,aB,aL,aS,bb,cv,cV,G⟩:=ai;refine aG ?_;refine Z (λEs=>?_) (λEs=>?_)
 ·have Va:=(ck.resolve_left (λh=>Es (by rw [h.1];rfl))).2;refine ab ?_;refine ei G (G.pick1 1 B) mixed [(0,70),(1,71),(2,72),(3,73),(4,74)] #[true,true,true,true,true,false,false,false] ac ac ac ac ?_;refine GU ?_;refine i1 ?_;refine cW ?_;intro w G Fb;refine kb ?_;refine bn G 2 B B B aL B B bA B B ?_;intro w G l0;refine ta ?_;refine li ?_;refine S B B (av (v:=(J of)) B B) ?_;refine ta ?_;refine lh ?_;refine S B B (av (v:=(J bB)) B B) ?_;refine l6 ?_;refine aGg ?_;exact ⟨0,[],[],[],none,0,0,of,bB,_::rs,B,G.drop 5,.inl ⟨I,aHm cY w8 kY lC Va⟩⟩
 obtain ⟨ap,EL,recs,css,OK,hP,gh,xa,Oo,e2⟩:=ck.resolve_right (λh=>h.1 I);refine an ?_;refine bn G 2 B B B aL B B bA B B ?_;intro w G sF;refine an ?_;refine aGg ?_;exact ⟨1,[],[],[],dL,n,dD,0,0,_::rs,B,G.drop 5,.inr ⟨B,B,recs,aHl cY w8 kY lC (e2 _ (aKp I)),(hP.mono λr h=>bP _ h).node gh (by rw [<- OK];exact b9 ..) 1 [] [] []⟩⟩
end Go.Proofs.YthiafbkolhnadaaGreatDoor
end
section
namespace Go.Proofs.YthiafbkolhnadaaGreatDoor
open Go Go.Dk Go.RowKit Go.Lib
variable {d:Nat}{dl:Dl}
theorem aKf {k:Nat}{x:List UInt8}(hd:d<=192)(hk:k=2\/k=11):Ck d (.mk k [] x [] []):=by
 refine .mk hd ?_ (λ_=>⟨B,B⟩) (λt h=>by cases h);omega
theorem Eok.ck{e:T}(h:Eok dl e)(hd:d<=100):Ck d e:=by
 obtain ⟨x,m,rfl,_,hm⟩:=h.form;refine .mk I I (λh=>I) λt ht=>?_
 rcases eX.1 ht with rfl | ht
 ·exact aKf I (.inl B)
 . rcases hm with rfl | rfl
   ·cases ht
   ·rw [hL.1 ht];exact aKf I (.inr B)
theorem Rok.ck{t:T}(h:Rok dl t)(hd:d<=50):Ck d t:=by
 obtain ⟨ks,tl,rfl,_,hk⟩:=h.form;exact .mk I I (λh=>I) λt ht=>Eok.ck (hk t ht) I
theorem bHx{l:List T}(h:∀ r∈l,Rok dl r):Ck 1 (docD l):=.mk I I (λh=>I) λt ht=>Rok.ck (h t ht) I
section
variable {s:List UInt8} {d:Dl} {D N nC nH:Nat}
theorem bJe (dF:D<=nC)(dr:N<=nH){h:Bool}{nm:List (List UInt8)}{a nd c:Nat}(he:eo s d D N h nm a nd=.inr c):eo s d nC nH h nm a nd=.inr c:=by
 obtain ⟨hc,hb⟩:=H2 he;have ec:=aLl he;have oQ:entB nC nH h nd:=by
  rcases hb with h | ⟨h1,h2⟩
  ·exact .inl h
  ·exact .inr ⟨I,I⟩
 refine MY oQ hc ?_ (λa1=>by subst a1;exact T3 he);intro bd;split at bd
 ·have:=ec.1 cj;omega
 ·have:=ec.2;omega
theorem aU7 (dF:D<=nC)(dr:N<=nH){h:Bool}{many:Nat}{x:Rst}{y:Sum Rst uJ}(hs:pS s d D N h many x=y)(hy:∀ e,y≠.inr (.inl e)):pS s d nC nH h many x=y:=by
 by_cases h1:0<many/\many<=x.kids.length
 ·rw [PJ h1.1 h1.2] at hs;exact absurd hs.symm (hy _)
 . cases he:eo s d D N h x.names x.a x.nodes with
   | inl e=>rw [PI h1 he] at hs;exact absurd hs.symm (hy _)
   | inr c=>rw [zF h1 he] at hs;rw [zF h1 (bJe dF dr he)];exact hs
theorem RcL.up (dF:D<=nC)(dr:N<=nH){h:Bool}{many:Nat}{x:Rst}{r:uJ}(hr:RcL s d D N h many x r):(∀ e,r≠.inl e)->RcL s d nC nH h many x r:=by
 unfold RcL at hr ⊢
 induction hr with
 | done h1=>intro hy;exact .done (aU7 dF dr h1 (λe he=>hy e (Sum.inr.inj he)))
 | more h1 _ ih=>intro hy;exact .more (aU7 dF dr h1 (λe he=>by cases he)) (ih hy)
theorem RcR.up (dF:D<=nC)(dr:N<=nH){h:Bool}{many a nd:Nat}{r:T×Nat×Nat×List (List UInt8)}(hr:RcR s d D N h many a nd (.inr r)):RcR s d nC nH h many a nd (.inr r):=by
 unfold RcR at hr ⊢;split at hr
 ·cases hr
 rename_i h1;split at hr
 ·cases hr
 rename_i h2;rw [O (λh=>h1 ⟨h.1,I⟩),O (λh=>h2 ⟨h.1,I⟩)];exact RcL.up dF dr hr (λe he=>by cases he)
theorem DcL.up (dF:D<=nC)(dr:N<=nH){x:Dst}{r:Sum (Nat×Nat) (List T)}(hr:DcL s d D N x r):(∀ e,r≠.inl e)->DcL s d nC nH x r:=by
 unfold DcL at hr ⊢
 induction hr with
 | done h1 =>
  intro hy;refine .done ?_;unfold tA at h1 ⊢;split at h1
  ·rw [U cj];exact h1
  . rw [O cj]
    obtain ⟨r,h2,Y⟩:=h1
    cases r with
    | inl e=>exact absurd (Sum.inr.inj Y) (hy e)
    | inr y=>exact ⟨_,RcR.up dF dr h2,Y⟩
 | more h1 _ ih =>
  intro hy;refine .more ?_ (ih hy);unfold tA at h1 ⊢;split at h1
  ·rw [U cj];exact h1
  . rw [O cj]
    obtain ⟨r,h2,Y⟩:=h1
    cases r with
    | inl e=>cases Y
    | inr y=>exact ⟨_,RcR.up dF dr h2,Y⟩
end
theorem Pq.more {s:List UInt8}{dl:Dl}{bD bK af aj ak:Int}{l:List T}(h:Pq s dl bD bK af aj ak (.inr (docD l)))(hs:s.length<=1000000):okD dl/\Pq s dl 48 65536 1048576 1024 65536 (.inr (docD l)):=by
 generalize hr:(Sum.inr (docD l):Sum (Nat×Nat) T)=r at h
 cases h with
 | doc hd h aE hb nl =>
  have bm:=Sum.inr.inj hr;have aZ:l=_:=aD T.kids bm;subst aZ;unfold okL at h;exact ⟨hd,.doc hd (by decide) I hb (DcL.up I I nl (λe he=>by cases he))⟩
 | dia _=>cases hr
 | lim _ _=>cases hr
 | size _ _ _=>cases hr
 | text _ _ _ _ _=>cases hr
 | err _ _ _ _ _=>cases hr
end Go.Proofs.YthiafbkolhnadaaGreatDoor
end
section
namespace Go.Dk
open Go Go.RowKit Go.Lib Go.Proofs.YthiafbkolhnadaaGreatDoor
variable {x v:V}{nm:List (List UInt8)}{d:Dl}{l:List T}{i a dp k:Nat}{r:T}{s:List UInt8}{e:Ent}
def lfV (x:V):Prop:=x.list=[]/\x.fields=[]/\x.sc.kind≠6/\x.sc.kind≠7
structure RvL (n:Nat) (x:V):Prop where
 k:x.sc.kind=6
 f:x.fields=[]
 n:x.list.length=n
 lf:∀ c∈x.list,lfV c
structure RvM (nm:List (List UInt8)) (x:V):Prop where
 k:x.sc.kind=7
 l:x.list=[]
 n:x.fields.map (·.1)=nm.map bs
 lf:∀ c∈x.fields,lfV c.2
structure Gv (d:Dl) (l:List T) (v:V):Prop where
 k:v.sc.kind=6
 f:v.fields=[]
 n:v.list.length=if d.hdr=true then l.length-1 else l.length
 r:∀ (i:Nat) (x:V),v.list[i]?=some x->if d.hdr=true then RvM (nmD d l) x else ∃ r,l[i]?=some r/\RvL r.kids.length x
theorem RvL.dV {n:Nat}(h:RvL n x):Go.Dk.dV 1 x:=⟨λc hc=>⟨(h.lf c hc).1,(h.lf c hc).2.1⟩,λc hc=>by rw [h.f] at hc;cases hc⟩
theorem RvM.dV(h:RvM nm x):Go.Dk.dV 1 x:=⟨λc hc=>(by rw [h.l] at hc;cases hc),λc hc=>⟨(h.lf c hc).1,(h.lf c hc).2.1⟩⟩
theorem Gv.dV(h:Gv d l v):Go.Dk.dV 2 v:=by
 refine ⟨λx hx=>?_,λc hc=>(by rw [h.f] at hc;cases hc)⟩;obtain ⟨i,hi⟩:=jX hx;have:=h.r i x hi;split at this
 ·exact this.dV
 ·obtain ⟨r,_,h2⟩:=this;exact h2.dV
theorem aJ2 (p:List Stp):∀ (es:List T) (xs:List V) (i a:Nat),xs.length=es.length->(kU [] p i es a).map (·.path)=(xs.zipIdx i).flatMap λy=>uV 0 y.1 (p++[⟨true,⟨#[]⟩,(y.2:Int)⟩])
 | [],[],_,_,_=>rfl
 | [],_::_,_,_,h=>by simp at h
 | _::_,[],_,_,h=>by simp at h
 | e::es,x::xs,i,a,h=>by
  rw [kU,jk,List.zipIdx_cons,gE,aJ2 p es xs (i+1) _ ku]
  rfl
theorem aJ3(hn:nm≠[])(p:List Stp):∀ (es:List T) (fs:List (ByteArray×V)) (i a:Nat),fs.length=es.length->(∀ j y,fs[j]?=some y->y.1=bs (nm.getD (i+j) []))->(kU nm p i es a).map (·.path)=fs.flatMap λf=>uV 0 f.2 (p++[⟨false,f.1,0⟩])
 | [],[],_,_,_,_=>rfl
 | [],_::_,_,_,h,_=>by simp at h
 | _::_,[],_,_,h,_=>by simp at h
 | e::es,x::xs,i,a,h,hk=>by
  have ap:=hk 0 x B;rw [kU,jk,gE,aJ3 hn p es xs (i+1) _ ku (λj y hy=>by rw [hk (j+1) y (by simpa using hy),mU,Nat.add_comm 1 j])];have hc:mf nm i=⟨false,x.1,0⟩:=by unfold mf;rw [O hn,ap];rfl
  rw [hc];rfl
theorem cCa(h:RvL r.kids.length x):(k6 [] false 2 i r a).map (·.path)=uV 1 x [⟨true,⟨#[]⟩,(i:Int)⟩]:=by
 unfold k6;rw [O (by simp),U (by decide),jk,aJ2 _ _ x.list 0 _ h.n,uV,h.f,List.flatMap_nil,cH]
 rfl
theorem cCb(hn:nm≠[])(h:RvM nm x)(hl:nm.length=r.kids.length):(k6 nm true 2 (i+1) r a).map (·.path)=uV 1 x [⟨true,⟨#[]⟩,(i:Int)⟩]:=by
 have oU:x.fields.length=r.kids.length:=by have:=aD eC h.n;simp only [fT] at this;omega
 unfold k6;rw [O (by simp),U (by decide),jk,aJ3 hn _ _ x.fields 0 _ oU ?_,uV,h.l]
 ·rfl
 . intro j y hy
   have h1:=aD (λl:List ByteArray=>l[j]?) h.n;simp only [eF,hy,ti] at h1
   cases ax:nm[j]? with
   | none=>rw [ax] at h1;cases h1
   | some z =>
    rw [ax] at h1;simp only [ti,kS] at h1;rw [h1,gV,hZ,ax];rfl
theorem aU4:∀ (l:List T) (xs:List V) (i a:Nat),xs.length=l.length->(∀ (j:Nat) (r:T) (x:V),l[j]?=some r->xs[j]?=some x->RvL r.kids.length x)->(rEs [] false 2 i l a).map (·.path)=(xs.zipIdx i).flatMap λy=>uV 1 y.1 [⟨true,⟨#[]⟩,(y.2:Int)⟩]
 | [],[],_,_,_,_=>rfl
 | [],_::_,_,_,h,_=>by simp at h
 | _::_,[],_,_,h,_=>by simp at h
 | e::es,x::xs,i,a,h,hr=>by
  rw [rEs,kc,List.zipIdx_cons,gE,aU4 es xs (i+1) _ ku (λj r y h1 h2=>hr (j+1) r y (by simpa using h1) (by simpa using h2)),cCa (hr 0 e x B B)]
theorem aU5(hn:nm≠[]):∀ (l:List T) (xs:List V) (i a:Nat),xs.length=l.length->(∀ x∈xs,RvM nm x)->(∀ r∈l,nm.length=r.kids.length)->(rEs nm true 2 (i+1) l a).map (·.path)=(xs.zipIdx i).flatMap λy=>uV 1 y.1 [⟨true,⟨#[]⟩,(y.2:Int)⟩]
 | [],[],_,_,_,_,_=>rfl
 | [],_::_,_,_,h,_,_=>by simp at h
 | _::_,[],_,_,h,_,_=>by simp at h
 | e::es,x::xs,i,a,h,hr,hl=>by
  rw [rEs,kc,List.zipIdx_cons,gE,aU5 hn es xs (i+1) _ ku (λy hy=>hr y (bP _ hy)) (λr h=>hl r (bP _ h)),cCb hn (hr x (b9 ..)) (hl e (b9 ..))]
theorem FA(l:List T)(h:d.hdr=false):nmD d l=[]:=by unfold nmD;rw [O (by rw [h];decide)]
theorem FB(r:T)(l:List T)(h:d.hdr=true):nmD d (r::l)=nmE d r.kids:=by unfold nmD;rw [U h]
theorem _root_.Go.Proofs.YthiafbkolhnadaaGreatDoor.DcF.nml(h:DcF s d l)(a1:d.hdr=true):∀ r∈l,(nmD d l).length=r.kids.length:=by
 intro r hr
 cases l with
 | nil=>cases hr
 | cons a b =>
  obtain ⟨m,hm⟩:=h.mny;rw [FB _ _ a1,nmE,fT,hm r hr,hm a (b9 ..)]
theorem _root_.Go.Proofs.YthiafbkolhnadaaGreatDoor.DcF.nmn(h:DcF s d l)(a1:d.hdr=true)(hl:l≠[]):nmD d l≠[]:=by
 cases l with
 | nil=>exact absurd rfl hl
 | cons a b =>
  have h1:=(h.ok a (b9 ..)).ne;have h2:=h.nml a1 a (b9 ..);intro e;rw [e] at h2;simp at h2;omega
theorem Gv.paths(h:Gv d l v)(hf:DcF s d l):uV 2 v []=[]::(rEs (nmD d l) d.hdr 2 0 l 0).map (·.path):=by
 rw [uV,h.f,List.flatMap_nil,cH]
 congr 1
 have hn:=h.n
 cases a1:d.hdr with
 | false =>
  rw [a1] at hn;rw [FA l a1,aU4 l v.list 0 0 hn]
  ·rfl
  . intro j r x h1 h2
    have Y:=h.r j x h2;rw [a1] at Y;obtain ⟨mE,ar,bd⟩:=Y;rw [h1] at ar;cases ar;exact bd
 | true =>
  rw [a1] at hn
  cases l with
  | nil =>
   have:v.list=[]:=p8 (by simpa using hn);rw [this];rfl
  | cons a b =>
   have ap:k6 (nmD d (a::b)) true 2 0 a 0=[]:=by unfold k6;rw [U ⟨B,B⟩]
   rw [rEs,ap,gG,aU5 (hf.nmn a1 (by simp)) b v.list 0 _ (by simpa using hn) ?_ (λr hr=>hf.nml a1 r (bP _ hr))]
   ·rfl
   . intro x hx
     obtain ⟨i,hi⟩:=jX hx;have Y:=h.r i x hi;rw [a1] at Y;exact Y
theorem Tx{p:List Stp}:∀ {es:List T} {i a:Nat},e∈kU nm p i es a->∃ k c,es[k]?=some c/\e=⟨p++[mf nm (i+k)],((a+(prints (es.take k)).length:Nat):Int),((a+(prints (es.take k)).length+(xP c).length:Nat):Int)⟩
 | [],_,_,h=>by cases h
 | c::es,i,a,h=>by
  rw [kU] at h;rcases eX.1 h with rfl | h
  ·exact ⟨0,c,B,by rw [iw,gx];rfl⟩
  . obtain ⟨k,a7,h1,rfl⟩:=Tx h
    refine ⟨k+1,a7,by simpa using h1,?_⟩;rw [jG,hU,aQ,show i+1+k=i+(k+1) by omega,mU a]
theorem aU2{hdr:Bool}:∀ {l:List T} {i a:Nat},e∈rEs nm hdr dp i l a->∃ j r,l[j]?=some r/\e∈k6 nm hdr dp (i+j) r (a+(prints (l.take j)).length)
 | [],_,_,h=>by cases h
 | c::es,i,a,h=>by
  rw [rEs] at h;rcases iv.1 h with h | h
  ·exact ⟨0,c,B,by rw [iw,gx];exact h⟩
  . obtain ⟨k,a7,h1,h2⟩:=aU2 h
    refine ⟨k+1,a7,by simpa using h1,?_⟩;rw [jG,hU,aQ,show i+(k+1)=i+1+k by omega,<- mU a];exact h2
def aY3 (d:Dl)(l:List T)(e:Ent):Prop:=∃ (i:Nat) (r:T),l[i]?=some r/\¬ (d.hdr=true/\i=0)/\e=⟨[mF (ii d.hdr i)],(((prints (l.take i)).length:Nat):Int),(((prints (l.take i)).length+r.print.length-r.tail.length:Nat):Int)⟩
def aY2 (d:Dl)(l:List T)(e:Ent):Prop:=∃ (i k:Nat) (r c:T),l[i]?=some r/\¬ (d.hdr=true/\i=0)/\r.kids[k]?=some c/\e=⟨[mF (ii d.hdr i),mf (nmD d l) k],(((prints (l.take i)).length+(prints (r.kids.take k)).length:Nat):Int),(((prints (l.take i)).length+(prints (r.kids.take k)).length+(xP c).length:Nat):Int)⟩
theorem aU3(h:e∈rEs (nmD d l) d.hdr 2 0 l 0):aY3 d l e\/aY2 d l e:=by
 obtain ⟨i,r,h1,h2⟩:=aU2 h;rw [gV,gV] at h2;unfold k6 at h2;split at h2
 ·cases h2
 . rename_i hn
   rcases eX.1 h2 with rfl | h2
   ·exact .inl ⟨i,r,h1,hn,B⟩
   . rw [U (by decide)] at h2
     obtain ⟨k,c,Y,rfl⟩:=Tx h2;exact .inr ⟨i,k,r,c,h1,hn,Y,by rw [gV];rfl⟩
theorem aJ1{p:List Stp}{es:List T}:∀ e∈kU nm p i es a,e.path.length=p.length+1:=by
 intro e he;obtain ⟨k,c,_,rfl⟩:=Tx he;simp
theorem cB5 (nm:List (List UInt8))(hdr:Bool)(hd:1<=dp)(i:Nat)(r:T)(a:Nat):k6 nm hdr dp i r a=(k6 nm hdr 2 i r a).filter λe=>decide (e.path.length<=dp):=by
 unfold k6;split
 ·rfl
 . rw [U (show 1<2 by decide),List.filter_cons_of_pos (by simpa using hd)]
   congr 1
   split
   . rw [List.filter_eq_self.2]
     intro e he;have:=aJ1 e he;simp only [cf,dC] at this;simp;omega
   . symm
     rw [List.filter_eq_nil_iff];intro e he;have:=aJ1 e he;simp only [cf,dC] at this;simp;omega
theorem Ys (nm:List (List UInt8))(hdr:Bool)(hd:1<=dp):∀ (l:List T) (i a:Nat),rEs nm hdr dp i l a=(rEs nm hdr 2 i l a).filter λe=>decide (e.path.length<=dp)
 | [],_,_=>rfl
 | r::l,i,a=>by rw [rEs,rEs,List.filter_append,<- cB5 nm hdr hd,Ys nm hdr hd l]
theorem Yt(h:e∈rEs (nmD d l) d.hdr 2 0 l 0):1<=e.path.length/\e.path.length<=2:=by
 rcases aU3 h with ⟨i,r,_,_,rfl⟩ | ⟨i,k,r,c,_,_,_,rfl⟩
 ·exact ⟨bV _,by show 1<=2;decide⟩
 ·exact ⟨by show 1<=2;decide,bV _⟩
theorem aS4(hf:DcF s d l)(a1:d.hdr=true):(nmD d l).Nodup:=by
 cases l with
 | nil=>unfold nmD;rw [U a1];exact List.nodup_nil
 | cons a b=>rw [FB _ _ a1];exact (hf.hd a1 a B).1
theorem bGn(h:Gv d l v)(hf:DcF s d l)(hc:counts l<=65536){c:T}(hi:l[i]?=some r)(hn:¬ (d.hdr=true/\i=0))(hk:r.kids[k]?=some c):Fnd v [mF (ii d.hdr i),mf (nmD d l) k]:=by
 have hS:=(bT.1 hi).1;have lE:=(bT.1 hk).1;have pM:=h.n
 cases a1:d.hdr with
 | false =>
  rw [a1] at pM;simp only [r0,if_false] at pM;obtain ⟨x,hx⟩:∃ x,v.list[i]?=some x:=⟨_,bS I⟩;have h2:=h.r i x hx;rw [a1] at h2;obtain ⟨mE,Y,ar⟩:=h2;rw [hi] at Y;cases Y;have cKz:=ar.n;obtain ⟨y,hy⟩:∃ y,x.list[k]?=some y:=⟨_,bS I⟩;rw [FA l a1];exact .list h.k hx (.list ar.k hy (.nil _))
 | true =>
  rw [a1] at pM;simp only [if_true] at pM;have oV:i≠0:=λe=>hn ⟨a1,e⟩
  obtain ⟨x,hx⟩:∃ x,v.list[i-1]?=some x:=⟨_,bS I⟩;have h2:=h.r (i-1) x hx;rw [a1] at h2;have Bc:RvM (nmD d l) x:=h2;have lG:=hf.nml a1 r (cb hi);have bt:=hf.nmn a1 (λe=>by rw [e] at hi;cases hi);obtain ⟨k4,lF⟩:∃ k4,(nmD d l)[k]?=some k4:=⟨_,bS I⟩;have oU:x.fields.length=(nmD d l).length:=by have:=aD eC Bc.n;simpa using this
  obtain ⟨f,By⟩:∃ f,x.fields[k]?=some f:=⟨_,bS I⟩;have key:∀ (j:Nat) (z:ByteArray×V),x.fields[j]?=some z->∃ vz,(nmD d l)[j]?=some vz/\z.1=bs vz:=by
   intro j z hz;have bd:=aD (λl:List ByteArray=>l[j]?) Bc.n;simp only [eF,hz,ti] at bd
   cases ax:(nmD d l)[j]? with
   | none=>rw [ax] at bd;cases bd
   | some vz =>
    rw [ax] at bd;simp only [ti,kS] at bd;exact ⟨vz,B,bd⟩
  obtain ⟨cR9,h6,h7⟩:=key k f By;rw [lF] at h6;cases h6;have ia:mf (nmD d l) k=⟨false,bs k4,0⟩:=by unfold mf;rw [O bt,hZ,lF];rfl
  have bTx:mF (ii true i)=⟨true,⟨#[]⟩,((i-1:Nat):Int)⟩:=B;rw [ia,bTx];have j1:r.kids.length<=1000000:=by
   have hq:=(kq (cb hi)).1;have j0:=jv r.kids;have jn:r.count=1+counts r.kids:=by cases r;exact dT ..
   omega
  refine .list h.k hx (.map (i:=k) Bc.k (x:=f.2) (by rw [By,<- h7]) I (λj z ax hz=>?_) (.nil _));obtain ⟨vz,hq,j0⟩:=key j z hz;rw [j0];intro e;exact Ph (aS4 hf a1) hq lF ax (tq e)
theorem bGo(hf:DcF s d l)(hc:counts l<=65536){c:T}(hi:l[i]?=some r)(hk:r.kids[k]?=some c):ou [mF (ii d.hdr i),mf (nmD d l) k]:=by
 have hS:=(bT.1 hi).1;have lE:=(bT.1 hk).1;have ie:=jv l;have hq:=(kq (cb hi)).1;have j0:=jv r.kids;have jn:r.count=1+counts r.kids:=by cases r;exact dT ..
 refine ⟨by show 2<=48;decide,λx hx=>?_⟩;rcases eX.1 hx with rfl | hx
 . refine ⟨λ_=>⟨B,Int.natCast_nonneg _,?_⟩,λh=>by cases h⟩
   show ((ii d.hdr i:Nat):Int)<=65536;unfold ii;split <;> omega
 . rw [hL] at hx
   subst hx;unfold mf;split
   ·exact ⟨λ_=>⟨B,Int.natCast_nonneg _,by show ((k:Nat):Int)<=65536;omega⟩,λh=>by cases h⟩
   . rename_i bt
     refine ⟨(λh=>by cases h),λ_=>?_⟩;have a1:d.hdr=true:=by
      cases hd:d.hdr with
      | true=>rfl
      | false=>exact absurd (FA l hd) bt
     cases l with
     | nil=>cases hi
     | cons a b =>
      have bm:=FB a b a1;have lG:=hf.nml a1 r (cb hi);obtain ⟨k4,lF⟩:∃ k4,(nmD d (a::b))[k]?=some k4:=⟨_,bS I⟩;have hm:k4∈nmE d a.kids:=by rw [<- bm];exact cb lF
      rw [hZ,lF];refine ⟨B,?_,?_⟩
      . show (bs k4).size<=1024
        rw [gI];exact (hf.hd a1 a B).2 k4 hm
      . show validD (bs k4).data.toList=true
        rw [tp];exact hf.vn a (b9 ..) k4 hm
def QLs (rs:List Row)(dd:List Value)(qs:List (List (List UInt8))):Prop:=dd.length=qs.length/\∀ (i:Nat) (q:List (List UInt8)) (il:Value),qs[i]?=some q->dd[i]?=some il->LR rs 9 1 il q.length (q.map λx=>Value.string (bs x))
theorem QLs.nil (rs:List Row):QLs rs [] []:=⟨rfl,λi q il h=>by simp at h⟩
theorem QLs.mono {rs rs2:List Row}{dd:List Value}{qs:List (List (List UInt8))}(pD:∀ r∈rs,r∈rs2)(h:QLs rs dd qs):QLs rs2 dd qs:=⟨h.1,λi q il h1 h2=>(h.2 i q il h1 h2).mono pD⟩
theorem QLs.snoc {rs:List Row}{il:Value}{q:List (List UInt8)}{dd:List Value}{qs:List (List (List UInt8))}(h:QLs rs dd qs)(ap:LR rs 9 1 il q.length (q.map λx=>Value.string (bs x))):QLs rs (dd++[il]) (qs++[q]):=by
 refine ⟨by rw [aQ,aQ,h.1];rfl,λi fi Yr Y ar=>?_⟩;rcases ma i dd.length with hi | hi
 . rw [l9 (by rw [<- h.1];exact hi)] at Y
   rw [l9 hi] at ar;exact h.2 i fi Yr Y ar
 . rw [pj (by rw [<- h.1];exact hi),<- h.1] at Y
   rw [pj hi] at ar;have e:i-dd.length=0:=by have:=(bT.1 ar).1;simp at this;omega
   rw [e] at Y ar;cases Y;cases ar;exact ap
theorem bGp {v:Value}(h:v.oneCell'=true):v.cells=[v].toArray:=by cases v <;> first | rfl | simp [Value.oneCell'] at h
theorem cHv {P:Program}{ops:Array Oper}{Q:Exit->Act->World->Prop}{cX:World->Prop}{bi:List (Nat×Nat)}{l:Array Bool}{a:Act}{w:World}{j m n4:Nat}{o u v v4:Oper}(hr:Region.ready .any ops l=[i,j,m,n4])(au:ops[i]?=some o)(aP:ops[j]?=some u)(hv:ops[m]?=some v)(ar:ops[n4]?=some v4)(h:wpList P ops (Fin0 λeb w'=>(cX w'\/rM ops bi i=true)/\k9 P ops bi Q cX k (l.setIfInBounds i true) eb w') [o] a w)
  (aU:wpList P ops (Fin0 λeb w'=>(cX w'\/rM ops bi j=true)/\k9 P ops bi Q cX k (l.setIfInBounds j true) eb w') [u] a w) (Uv:wpList P ops (Fin0 λeb w'=>(cX w'\/rM ops bi m=true)/\k9 P ops bi Q cX k (l.setIfInBounds m true) eb w') [v] a w) (bMx:wpList P ops (Fin0 λeb w'=>(cX w'\/rM ops bi n4=true)/\k9 P ops bi Q cX k (l.setIfInBounds n4 true) eb w') [v4] a w):k9 P ops bi Q cX (k+1) l a w:=by
 refine ⟨λap=>?_,?_⟩
 ·rw [hr] at ap;cases ap
 . rw [hr]
   intro x hx;have n5:x=i\/x=j\/x=m\/x=n4:=by simpa using hx
   rcases n5 with rfl | rfl | rfl | rfl
   ·exact ⟨o,au,h⟩
   ·exact ⟨u,aP,aU⟩
   ·exact ⟨v,hv,Uv⟩
   ·exact ⟨v4,ar,bMx⟩
end Go.Dk
end
section
namespace Go.Proofs.YthiafbkolhnadaaGreatDoor
open Go Go.Dk Go.RowKit Go.Lib
attribute [local irreducible] Go.wpList Go.Code.wp Go.bodyPost Go.wpStill Go.wpQuiet
variable {w:World}{d:Dl}{l:List T}{la:Option Addr}{lc lb:Nat}
theorem bB2 (t0:T)(cs:List Value)(d:Dl)(w0:World)(hv:Nw w0 t0 cs)(jL:Ck 1 t0)(hc:t0.count<=524288)(hp:t0.print.length<=200000)(dc:Pq t0.print d 48 65536 1048576 1024 65536 (.inr t0)):Fc W 143 [.agg cs.toArray,.agg #[.int .u8 ((d.sep.toNat:Nat):Int),.int .u8 ((d.quo.toNat:Nat):Int),.bool d.hdr,.bool d.typ]] w0 (λv _=>v=.bool true):=by
 obtain ⟨bj,bg,b4,rfl⟩:=hv.form;refine aI Tryz.func143 B Tryz.ntmps143 B ?_;have G:=Ctx.start w0;refine ag ?_;refine bE ?_;intro b2 w G di e3;refine bE ?_;intro b3 w G eE gr;refine az ?_;refine aC5 ?_;intro w G tY;refine ag ?_;refine Z (λe1=>?_) (λe1=>?_)
 ·exfalso;omega
 refine ab ?_;refine cw (λf ah=>∃ (bH k:Nat) (cI bl ev:List UInt8) (cB:Option Addr) (n2 n3 o bk:Nat) (rs:List Row),(bk=0)/\(NR rs t0 (nrow k cI bl (.slice cB n2 n3) ev))/\f 5=ao bH 0/\f 6=J o/\f 7=J bk/\f 2=ao b2 0/\f 4=.bool (false)/\Cxr w0 ah [(bH,aa 72 [J k,M cI,M bl,.slice cB n2 n3,M ev]),(b3,aa 25 [.int .u8 ((d.sep.toNat:Nat):Int),.int .u8 ((d.quo.toNat:Nat):Int),.bool (d.hdr),.bool (d.typ)]),(b2,aa 72 [J t0.kind,M t0.lead,M t0.text,.slice bj bg b4,M t0.tail])] (rs)) ?_ ?_
 ·refine ei G (G.pick2 0 1 B B B) mixed [(0,12),(2,14)] #[true,false,true,false,false,false,false,false,false,false,false,false,false] ac ac ac ac ?_;refine kC ?_;refine cW ?_;intro w G W4;refine fR (i:=1) (j:=9) ac B B ?_ ?_
  ·refine Q8 ?_;intro w G qx;refine Ss ?_;refine fR (i:=3) (j:=9) ac B B ?_ ?_
   ·refine La ?_;intro w G sC;refine Ss ?_;refine fR (i:=4) (j:=9) ac B B ?_ ?_
    ·refine aDg ?_;rintro aW3 w ⟨k,cI,bl,ev,cB,n2,n3,o,bk,rs,rfl,cq,cu⟩;replace G:=G.callRows cq;simp only [cH] at G;obtain ⟨iU,_,l,xe,c9⟩:=cu.resolve_left (λh=>absurd (h.2.det dc) (by simp));have IJ:docD l=t0:=Sum.inr.inj (xe.det dc);rw [IJ] at c9;refine dQ ?_;refine fR (i:=5) (j:=9) ac B B ?_ ?_
     ·refine ej ?_;refine cHv (i:=6) (j:=7) (m:=8) (n4:=9) ac B B B B ?_ ?_ ?_ ?_
      ·refine ej ?_;refine Ga (i:=7) (j:=8) (m:=9) ac B B B ?_ ?_ ?_
       ·exact ZQ
       ·exact ZR
       refine dv ?_;intro bH w G fl fg;refine p1 ?_;exact ZW
      ·refine ej ?_;refine Ga (i:=6) (j:=8) (m:=9) ac B B B ?_ ?_ ?_
       ·exact ZQ
       ·exact ZS
       refine dv ?_;intro bH w G fl fg;refine p1 ?_;exact ZX
      ·refine ej ?_;refine Ga (i:=6) (j:=7) (m:=9) ac B B B ?_ ?_ ?_
       ·exact ZR
       ·exact ZS
       refine dv ?_;intro bH w G fl fg;refine p1 ?_;exact ZY
      refine dv ?_;intro bH w G fl fg;refine p1 ?_;exact Qq
     refine dv ?_;intro bH w G fl fg;refine p1 ?_;refine kb ?_;refine ej ?_;exact Qq
    refine dv ?_;intro bH w G fl fg;exact ZM
   refine dv ?_;intro bH w G fl fg;exact Z0
  refine dv ?_;intro bH w G fl fg;refine p1 ?_;refine kA (i:=1) ac B ?_;refine Q8 ?_;intro w G qx;exact Z0
 intro f w ai;obtain ⟨bH,k,cI,bl,ev,cB,n2,n3,o,bk,rs,iU,c9,bF,aL,aS,aE,aM,G⟩:=ai;refine aq ?_;refine aN B B B aO (λhc=>cG B bF de B bA (G.row 0 B) B) ?_;refine aN B B B aO (λhc=>cG B aE de B bA (G.row 2 B) B) ?_;refine hg G B B B aO (λhc=>YC t0.count t0 (bV _) I _ _ _ (c9.vw G) (hv.up G.ext)) Tryz.func209 B B B (λhc=>(aX ay (aX ay B))) ?_;intro w G tX;refine an ?_;refine be Tryz.results143 B ?_;exact ⟨G.ext,aD Value.bool (by rw [iU];rfl)⟩
structure DtV (w:World) (d:Dl) (l:List T) (la:Option Addr) (lc lb:Nat):Prop where
 nw:Nw w (docD l) (nrow 1 [] [] (.slice la l.length lc) [])
 pq:Pq (prints l) d 48 65536 1048576 1024 65536 (.inr (docD l))
 ln:(prints l).length<=9000
 la:0<l.length->la=some ⟨lb,0,none⟩
 kid:∀ (i:Nat) (u:T),l[i]?=some u->∃ ecs,Nw w u ecs/\RowAt w lb (0+i*5) ecs
theorem DtV.up {w':World}(h:DtV w d l la lc lb)(hw:Below w.heap.size w w'):DtV w' d l la lc lb :=
 ⟨h.nw.up hw,h.pq,h.ln,h.la,λi u hi=>by obtain ⟨ecs,h1,h2⟩:=h.kid i u hi;exact ⟨ecs,h1.up hw,h2.up hw⟩⟩
theorem DtV.fact(h:DtV w d l la lc lb):DcF (prints l) d l:=h.pq.fact
theorem DtV.cnt(h:DtV w d l la lc lb):counts l<=63000/\l.length<=63000:=by
 have h1:=h.fact.cnt;have h2:=h.ln;have Y:=jv l;omega
theorem DtV.print(h:DtV w d l la lc lb):(docD l).print=prints l:=by
 unfold docD;rw [dX];simp
theorem bB1 (l:List T)(d:Dl)(la:Option Addr)(lc lb:Nat)(w0:World)(hv:DtV w0 d l la lc lb):Fc W 143 [.agg (nrow 1 [] [] (.slice la l.length lc) []).toArray,.agg #[.int .u8 ((d.sep.toNat:Nat):Int),.int .u8 ((d.quo.toNat:Nat):Int),.bool d.hdr,.bool d.typ]] w0 (λv _=>v=.bool true) :=
 bB2 (docD l) _ d w0 hv.nw (bHx hv.fact.ok) (by have:=hv.cnt;unfold docD;rw [dT];omega) (by rw [hv.print];have:=hv.ln;omega) (by rw [hv.print];exact hv.pq)
theorem aS5{bZ:List T}{k:Nat}{kv:Value}{ea:List Row}(hk:k=bZ.length):(⟨9,1,kv,(nmE d bZ).length,(nmE d bZ).map λx=>(M x)⟩:Row)∈(⟨9,1,kv,k,(nmE d (bZ.take k)).map λx=>(M x)⟩::ea:List Row):=by
 subst hk;rw [nG];refine eX.2 (.inl ?_)
 congr 1
 unfold nmE;rw [fT]
theorem bGa (l:List T)(d:Dl)(la:Option Addr)(lc lb:Nat)(w0:World)(hv:DtV w0 d l la lc lb):Ret W 85 [.agg (nrow 1 [] [] (.slice la l.length lc) []).toArray,.agg #[.int .u8 ((d.sep.toNat:Nat):Int),.int .u8 ((d.quo.toNat:Nat):Int),.bool d.hdr,.bool d.typ]] w0 (λv w'=>∃ (gw:Value) (dd:List Value) (rs:List Row),v=.tuple #[gw,J 0]/\Cxr w0 w' [] (⟨33,1,gw,l.length,dd⟩::rs)/\QLs rs dd (l.map λr=>nmE d r.kids)):=by
 refine aI Tryz.func85 B Tryz.ntmps85 B ?_;have G:=Ctx.start w0;have oT:=hv.fact;have jr:=hv.cnt;have nW:=hv.ln;refine ag ?_;refine bE ?_;intro b2 w G di e3;refine bE ?_;intro b3 w G eE gr;refine bz ?_;refine aDa ?_;intro w G mx;refine ag ?_;refine cn B (λe8=>?_) (λe8=>?_)
 ·exact absurd e8 (by decide)
 try simp only [dy] at e8
 refine an ?_;replace G:=G.nilRow 33 1;refine aG ?_;refine bu (λg f ah=>∃ (i:Nat) (gw:Value) (dd:List Value) (rs:List Row),g=l.length-i/\(i<=l.length)/\(QLs rs dd ((l.take i).map λr=>nmE d r.kids))/\f 7=J i/\f 6=gw/\f 2=ao b2 0/\f 3=ao b3 0/\f 4=al/\f 5=J 0/\Cxr w0 ah [(b3,aa 25 [.int .u8 ((d.sep.toNat:Nat):Int),.int .u8 ((d.quo.toNat:Nat):Int),.bool (d.hdr),.bool (d.typ)]),(b2,aa 72 [J 1,M [],M [],.slice la l.length lc,M []])] (⟨33,1,gw,i,dd⟩::rs)) ((λ(i:Nat)=>l.length-i) 0) ?_ ?_
 ·exact ⟨0,_,[],[],B,bU _,(QLs.nil _),aJ,B,B,B,B,B,G⟩
 intro wR f w ai;obtain ⟨i,gw,dd,rs,IM,hi,aw,aS,aL,aE,aR,aM,bF,G⟩:=ai;refine cK ?_;refine Z (λhB=>?_) (λhB=>?_)
 ·have dK:i<l.length:=I;obtain ⟨r,hr⟩:∃ r,l[i]?=some r:=⟨_,bS dK⟩;have vr:=cb hr;obtain ⟨bZ,tl,rfl,_,Be⟩:=(oT.ok r vr).form;obtain ⟨PK,tR,xk⟩:=hv.kid i _ hr;obtain ⟨iQ,hN,jm,rfl,II,vd,ve⟩:=tR.kids;have su:=kq vr;have rr:(T.mk 8 [] [] bZ tl).count=1+counts bZ:=dT ..;have aNs:bZ.length<=counts bZ:=jv bZ;have BR:(prints bZ).length<=(T.mk 8 [] [] bZ tl).print.length:=by rw [dX];simp only [aQ];omega
  refine az ?_;replace G:=G.nilRow 9 1;refine aG ?_;refine bu (λg f ah=>∃ (k:Nat) (kv:Value),g=bZ.length-k/\(k<=bZ.length)/\f 9=J k/\f 8=kv/\f 2=ao b2 0/\f 3=ao b3 0/\f 4=al/\f 5=J 0/\f 6=gw/\f 7=J i/\Cxr w0 ah [(b3,aa 25 [.int .u8 ((d.sep.toNat:Nat):Int),.int .u8 ((d.quo.toNat:Nat):Int),.bool (d.hdr),.bool (d.typ)]),(b2,aa 72 [J 1,M [],M [],.slice la l.length lc,M []])] (⟨9,1,kv,k,(nmE d (bZ.take k)).map λx=>(M x)⟩::⟨33,1,gw,i,dd⟩::rs)) ((λ(k:Nat)=>bZ.length-k) 0) ?_ ?_
  ·exact ⟨0,_,B,bU _,aJ,B,aE,aR,aM,bF,aL,aS,G⟩
  intro so f w ai;obtain ⟨k,kv,IP,hk,b6,bb,aE,aR,aM,bF,aL,aS,G⟩:=ai;refine aG ?_;refine St ?_;refine ab ?_;refine Su ?_;refine ae ?_;refine Z (λgY=>?_) (λgY=>?_)
  ·have bX:k<bZ.length:=I;obtain ⟨e,he⟩:∃ e,bZ[k]?=some e:=⟨_,bS bX⟩;have nT:=cb he;obtain ⟨x,m,rfl,bOw,_⟩:=(Be e nT).form;obtain ⟨ecs,vm,xi⟩:=ve k _ he;obtain ⟨kF,iR,oN,rfl,hfc,Vf,IL⟩:=vm.kids;obtain ⟨Fq,tQ,xj⟩:=IL 0 _ rfl;obtain ⟨bj,bg,b4,rfl⟩:=tQ.form;have bRh:=kq nT;have B7:x.length<=(T.mk 5 [] [] (.mk 2 [] x [] []::m) []).print.length:=by rw [dX,hU,dX];simp only [aQ];omega
   refine ae ?_;refine ei G (G.pick2 0 1 B B B) mixed [(0,32),(1,33),(2,34),(3,35),(4,36),(5,37),(6,38),(7,39),(8,40),(9,41),(10,42),(11,43),(12,44),(13,45),(14,46)] #[true,true,true,true,true,true,true,true,true,true,true,true,true,true,true,false,false,false,false] ac ac ac ac ?_;refine i1 ?_;refine aGh ?_;refine eY ?_;refine bw B (bx B) (λw G=>br B B dx B ((xk.up G.ext).cell 3 B)) ?_;refine eY ?_;refine bw B (bx B) (λw G=>cT dx bA B (show _=Value.slice (some ⟨jm,0,none⟩) bZ.length hN by rw [<- vd I];rfl) B I I) ?_;refine eY ?_;refine bw B (bx B) (λw G=>br B B dx B ((xi.up G.ext).cell 3 B)) ?_;refine bw B (bx B) (λw G=>cT dx bA B (show _=Value.slice (some ⟨oN,0,none⟩) (m.length+1) iR by rw [<- Vf (Nat.succ_pos _)];rfl) B (by decide) I) ?_;refine eY ?_;refine bw B (bx B) (λw G=>br B B aF B ((xj.up G.ext).cell 2 B)) ?_;refine eY ?_;refine cW ?_;intro w G W2;refine Af ?_;refine aDb ?_;intro w G Fa;refine Ss ?_;refine Gu ?_;refine Gm ?_;intro cJa w G cLs cQv;refine p1 ?_;refine kA (i:=17) ac B ?_;refine Gn ?_;intro aW7 w G cNm;replace G:=G.drop 1;refine dQ ?_;refine kA (i:=18) ac B ?_;refine ab ?_;refine Hg ?_;refine S B B (av (v:=(J (k+1))) B B) ?_;refine ab ?_;exact ⟨_,_,I,B,k+1,aW7,B,I,aJ,B,aE,aR,aM,bF,aL,aS,(G.row_eq B (XW he B))⟩
  have eN:k=bZ.length:=I;refine an ?_;have aPj:=G.oneS;have VX:[kv].all (·.oneCell')=true:=by rw [List.all_cons,aPj];rfl
  replace G:=G.swapQ;refine vL (v:=kv) (cs:=[kv]) G SN FY cIc B B B B B B (bGp aPj) B ?_;intro cJc w G cLv bU3;refine nu G bIy SN B B B B B (G.row 0 B) B VX I ?_;intro v53 w G cNo;refine yj ?_;exact ⟨_,_,I,B,i+1,v53,dd++[kv],⟨9,1,kv,k,(nmE d (bZ.take k)).map λx=>(M x)⟩::rs,B,I,(by rw [qP hr,kc];exact (aw.mono λr h=>bP _ h).snoc (.inr (aS5 eN))) ,aJ,B,aE,aR,aM,bF,G.drop 1⟩
 refine bz ?_;refine dY Tryz.results85 B B ?_;have bQ7:l.take i=l:=lQ I;rw [bQ7] at aw;exact ⟨gw,dd,rs,B,mg (G.drop 2) I B,aw⟩
theorem aJq (l:List T)(d:Dl)(la:Option Addr)(lc lb:Nat)(w0:World)(hv:DtV w0 d l la lc lb):Ret W 36 [.agg (nrow 1 [] [] (.slice la l.length lc) []).toArray,.agg #[.int .u8 ((d.sep.toNat:Nat):Int),.int .u8 ((d.quo.toNat:Nat):Int),.bool d.hdr,.bool d.typ]] w0 (λv w'=>∃ (lT:Value) (rs:List Row),v=.tuple #[lT,J 0]/\Cxr w0 w' [] rs/\LR rs 9 1 lT (nmD d l).length ((nmD d l).map λx=>(M x))):=by
 refine aI Tryz.func36 B Tryz.ntmps36 B ?_;have G:=Ctx.start w0;refine dR ?_;refine bE ?_;intro b2 w G di e3;refine bE ?_;intro b3 w G eE gr;refine kB ?_;refine DB ?_;refine S B B (cG B B de B bA (G.row 1 B) B) ?_;refine S B B (cG B B q3 B pW (G.row 0 B) B) ?_;refine bW (bGa l d la lc lb _ (hv.up G.ext)) Tryz.func85 B B B B B B ?_;rintro KA w ⟨gw,dd,rs,rfl,cq,aw⟩;obtain ⟨bY4,aTr,rfl⟩:=cq.rowSl;obtain ⟨bY5,gM,gi,iV,bRu⟩:=cq.rowF;have sy:=aw.1;replace G:=G.callRows cq;rw [fT] at sy;refine p5 ?_;refine S B B (av (v:=.slice bY4 l.length aTr) B B) ?_;refine mQ ?_;refine Ay ?_;refine cn B (λef=>?_) (λef=>?_)
 ·exact Gf
 try simp only [dy] at ef
 refine iZ ?_;refine nF ?_;refine S B B (bO Ub B B) ?_;refine S B B (br B B pr B (G.cell 0 B B)) ?_;refine LL ?_;refine eW ?_;refine Rx ?_;refine aN B B B a8 (λhc=>hJ B ay SN) ?_;refine Mh ?_;refine eA ?_;refine Z (λiS=>?_) (λiS=>?_)
 ·have iC:nmD d l=[]:=aS1 (by rintro ⟨h1,h2⟩;rw [h1] at iS;simp at iS;rw [iS] at h2;simp at h2);refine dR ?_;refine pe ?_;refine dY Tryz.results36 B B ?_;exact ⟨al,[],B,⟨G.ext,by simp,by simp,by simp,by simp,by simp,by simp⟩,.inl ⟨by rw [iC];rfl,B⟩⟩
 have a1:d.hdr=true:=by simpa using iS.1
 have y1:0<l.length:=by have:=iS.2;omega
 obtain ⟨im,iE,rfl⟩:∃ r iE,l=r::iE:=by
  cases l with
  | nil=>exact absurd y1 (by decide)
  | cons a b=>exact ⟨a,b,rfl⟩
 obtain ⟨FM,Jj⟩:∃ q,dd[0]?=some q:=⟨_,bS I⟩;have y2:=aw.2 0 (nmE d im.kids) FM B Jj;have kl:=FB im iE a1;refine iZ ?_;refine eR ?_;refine S B B (cT SN FY B (show _=Value.slice (some ⟨bY5,0,none⟩) (im::iE).length aTr by rw [<- iV y1];rfl) B (by decide) (by show (0:Int)<((iE.length+1:Nat):Int);omega)) ?_;refine S B B (br B B mc B (((bRu I).up (Below.refl _ _)).cell 0 Jj)) ?_;refine pe ?_;refine dY Tryz.results36 B B ?_;refine ⟨FM,_,B,G.drop 2,?_⟩;rw [kl];exact y2.mono λr h=>bP _ (iM _ h)
end Go.Proofs.YthiafbkolhnadaaGreatDoor
end
section
namespace Go.Dk
open Go Go.RowKit Go.Lib Go.Proofs.YthiafbkolhnadaaGreatDoor
variable {nm:List (List UInt8)}{i:Nat}{d:Dl}{l:List T}{vl:List V}
def qE (s:Sc):List Value:=vrow s (.slice none 0 0) (.slice none 0 0) (.slice none 0 0)
def Fu (s:Sc):V:=.mk s [] [] []
def j7 (l:List Sc):List Value:=l.flatMap qE
def wP (nm:List (List UInt8))(l:List Sc):List Value:=(nm.zip l).flatMap λp=>.string (bs p.1)::qE p.2
def wB:Sc:=⟨6,false,false,ByteArray.empty,0,0,0,0,0,ByteArray.empty⟩
def Hv:Sc:=⟨7,false,false,ByteArray.empty,0,0,0,0,0,ByteArray.empty⟩
def PM (l:List Sc):V:=.mk wB [] (l.map Fu) []
def PN (nm:List (List UInt8))(l:List Sc):V:=.mk Hv [] [] ((nm.zip l).map λp=>(bs p.1,Fu p.2))
theorem bXf (l:List Sc)(s:Sc):j7 (l++[s])=j7 l++qE s:=by unfold j7;rw [List.flatMap_append];simp
theorem aSg:∀ l:List Sc,(j7 l).length=l.length*13
 | []=>rfl
 | s::l=>by
  show (qE s++j7 l).length=_;rw [aQ,aSg l,cf];show 13+_=_;omega
theorem aVk (t u:Nat)(R:List Row)(s:Sc):RR t u R (Fu s) (qE s) :=
 .mk s [] [] [] _ _ _ [] [] (.inl ⟨rfl,rfl⟩) (.inl ⟨rfl,rfl⟩) rfl (λi v cs h=>by simp at h) (.inl ⟨rfl,rfl⟩) rfl (λi kv cs h=>by simp at h)
theorem cCu {t u:Nat}{R:List Row}{l:List Sc}{v:Value}(h:LR R t 13 v l.length (j7 l)):RR t u R (PM l) (vrow wB (.slice none 0 0) v (.slice none 0 0)):=by
 refine .mk wB [] (l.map Fu) [] _ _ _ (l.map qE) [] (.inl ⟨B,B⟩) (by rw [fT];exact h) (by simp) ?_ (.inl ⟨B,B⟩) B (λi kv cs h=>by simp at h);intro i x cs h1 h2;rw [eF] at h1 h2
 cases hs:l[i]? with
 | none=>rw [hs] at h1;cases h1
 | some s=>rw [hs] at h1 h2;cases h1;cases h2;exact aVk t u R s
theorem aMa:∀ (z:List (List UInt8×Sc)),fcells ((z.map λp=>(bs p.1,Fu p.2)).map (·.1)) (z.map λp=>qE p.2)=z.flatMap λp=>.string (bs p.1)::qE p.2
 | []=>rfl
 | p::z=>by
  simp only [jk,fcells,gE];rw [aMa z]
theorem cCv {t u:Nat}{R:List Row}{l:List Sc}{v:Value}(hl:l.length=nm.length)(h:LR R u 14 v nm.length (wP nm l)):RR t u R (PN nm l) (vrow Hv (.slice none 0 0) (.slice none 0 0) v):=by
 have hz:(nm.zip l).length=nm.length:=by rw [List.length_zip];omega
 refine .mk Hv [] [] _ _ _ _ [] ((nm.zip l).map λp=>qE p.2) (.inl ⟨B,B⟩) (.inl ⟨B,B⟩) B (λi v cs h=>by simp at h) (by rw [fT,hz,aMa];exact h) (by simp) ?_;intro i x cs h1 h2;rw [eF] at h1 h2
 cases hs:(nm.zip l)[i]? with
 | none=>rw [hs] at h1;cases h1
 | some s=>rw [hs] at h1 h2;cases h1;cases h2;exact aVk t u R s.2
theorem bLz{l:List Sc}{n:List UInt8}{s:Sc}(hn:nm[i]?=some n)(hs:l[i]?=some s):wP (nm.take (i+1)) (l.take (i+1))=wP (nm.take i) (l.take i)++(.string (bs n)::qE s):=by
 have h1:=(bT.1 hn).1;have h2:=(bT.1 hs).1;unfold wP;rw [qP hn,qP hs,List.zip_append (by rw [dS,dS];omega),List.flatMap_append];simp
theorem bXe {l:List Sc}{s:Sc}(hs:l[i]?=some s){w:World}{b o:Nat}(h:RowAt w b o (j7 l)):RowAt w b (o+i*13) (qE s):=by
 have e:l=l.take i++s::l.drop (i+1):=by
  have h1:=(bT.1 hs);obtain ⟨h2,Y⟩:=h1;rw [<- Y,<- ph h2,List.take_append_drop]
 have aZ:j7 l=j7 (l.take i)++(qE s++j7 (l.drop (i+1))):=by
  conv=>lhs;rw [e]
  unfold j7;rw [List.flatMap_append,gE]
 have hl:(j7 (l.take i)).length=i*13:=by
  rw [aSg,dS];have:=(bT.1 hs).1;rw [yn I]
 rw [aZ] at h;intro j c ax;have vh:=(bT.1 ax).1;have ar:=h (i*13+j) c (by
  rw [pj I,hl,show i*13+j-i*13=j by omega,l9 vh];exact ax)
 rw [mU];exact ar
theorem cC4 {l:List Sc}(aH:∀ s∈l,s.kind≠6/\s.kind≠7):RvL l.length (PM l):=by
 refine ⟨B,B,fT ..,λc hc=>?_⟩;obtain ⟨s,hs,rfl⟩:=lm.1 hc;exact ⟨B,B,(aH s hs).1,(aH s hs).2⟩
theorem cC5{l:List Sc}(hl:l.length=nm.length)(aH:∀ s∈l,s.kind≠6/\s.kind≠7):RvM nm (PN nm l):=by
 refine ⟨B,B,?_,λc hc=>?_⟩
 . show ((nm.zip l).map λp=>(bs p.1,Fu p.2)).map (·.1)=_
   rw [List.map_map];show (nm.zip l).map (λp=>bs p.1)=_;have:(nm.zip l).map (λp=>bs p.1)=((nm.zip l).map Prod.fst).map bs:=by rw [List.map_map];rfl
   rw [this,List.map_fst_zip I]
 . obtain ⟨p,hp,rfl⟩:=lm.1 hc
   have:=aH p.2 (List.of_mem_zip hp).2;exact ⟨B,B,this.1,this.2⟩
structure GvP (d:Dl) (l:List T) (i:Nat) (vl:List V):Prop where
 n:vl.length=if d.hdr=true then i-1 else i
 r:∀ (j:Nat) (x:V),vl[j]?=some x->if d.hdr=true then RvM (nmD d l) x else ∃ r,l[j]?=some r/\RvL r.kids.length x
theorem GvP.start (d:Dl)(l:List T):GvP d l 0 []:=⟨by simp,λj x h=>by simp at h⟩
theorem GvP.addL(h:GvP d l i vl)(a1:d.hdr=false){r:T}(hr:l[i]?=some r){sl:List Sc}(hl:sl.length=r.kids.length)(aH:∀ s∈sl,s.kind≠6/\s.kind≠7):GvP d l (i+1) (vl++[PM sl]):=by
 have hn:=h.n;rw [a1] at hn;simp only [r0,if_false] at hn;refine ⟨by rw [a1,aQ,hn];rfl,λj x hx=>?_⟩;rw [a1];simp only [r0,if_false];rcases ma j vl.length with ax | ax
 . rw [l9 ax] at hx
   have:=h.r j x hx;rw [a1] at this;exact this
 . rw [pj ax] at hx
   have e:j-vl.length=0:=by have:=(bT.1 hx).1;simp at this;omega
   rw [e] at hx;cases hx;exact ⟨r,by rw [show j=i by omega];exact hr,by rw [<- hl];exact cC4 aH⟩
theorem GvP.skip(h:GvP d l 0 vl)(a1:d.hdr=true):GvP d l 1 vl:=by
 have hn:=h.n;rw [a1] at hn;exact ⟨by rw [a1];exact hn,h.r⟩
theorem GvP.addM(h:GvP d l i vl)(a1:d.hdr=true)(hi:0<i){sl:List Sc}(hl:sl.length=(nmD d l).length)(aH:∀ s∈sl,s.kind≠6/\s.kind≠7):GvP d l (i+1) (vl++[PN (nmD d l) sl]):=by
 have hn:=h.n;rw [a1] at hn;simp only [if_true] at hn;refine ⟨by rw [a1,aQ,hn];simp;omega,λj x hx=>?_⟩;rw [a1];simp only [if_true];rcases ma j vl.length with ax | ax
 . rw [l9 ax] at hx
   have:=h.r j x hx;rw [a1] at this;exact this
 . rw [pj ax] at hx
   have e:j-vl.length=0:=by have:=(bT.1 hx).1;simp at this;omega
   rw [e] at hx;cases hx;exact cC5 hl aH
theorem GvP.done(h:GvP d l l.length vl):Gv d l (.mk wB [] vl []):=⟨rfl,rfl,h.n,h.r⟩
section
variable {w0 w:World} {L:List (Nat×Obj)} {R:List Row} {a b c e:Row}
theorem Cxr.rot3 (h:Cxr w0 w L (a::b::c::R)):Cxr w0 w L (c::a::b::R):=h.permR (((List.Perm.swap c b R).cons a).trans (List.Perm.swap c a (b::R)))
end
theorem cCs {t q:Nat}{nm:List (List UInt8)}{sl:List Sc}{lx:Value}{ea:List Row}(aw:q=nm.length)(hl:sl.length=nm.length):LR (⟨t,14,lx,q,wP (nm.take q) (sl.take q)⟩::ea) t 14 lx nm.length (wP nm sl) :=
 .inr (by subst aw;rw [nG,lQ I];exact b9 ..)
theorem bYj {d:Dl}{l:List T}{r:T}(h:d.hdr=true)(hr:l[0]?=some r):nmD d l=nmE d r.kids:=by
 cases l with
 | nil=>cases hr
 | cons a b=>cases hr;exact FB _ _ h
theorem aMj (css:List (List Value))(c:List Value):(css++[c]).flatten=css.flatten++c:=by rw [List.flatten_append];simp
end Go.Dk
end
section
namespace Go.Proofs.YthiafbkolhnadaaGreatDoor
open Go Go.Dk Go.RowKit Go.Lib
attribute [local irreducible] Go.wpList Go.Code.wp Go.bodyPost Go.wpStill Go.wpQuiet
theorem bBf (bj:Nat)(bg:List UInt8)(w:World):(Instr.build 83 ([(0,(J bj)),(4,(M bg))]:List (Nat×Value)).toArray).run W w=.ok (.agg #[J bj,.bool (false),.bool (false),M [],J 0,J 0,J 0,J 0,J 0,M bg,al,al,al]) w:=by
 go_simp
 try rfl
theorem bBb  (w:World):(Instr.build 83 ([]:List (Nat×Value)).toArray).run W w=.ok (.agg #[J 0,.bool (false),.bool (false),M [],J 0,J 0,J 0,J 0,J 0,M [],al,al,al]) w:=by
 go_simp
 try rfl
theorem bBc (bj:Nat)(bg:Bool)(w:World):(Instr.build 83 ([(0,(J bj)),(1,.bool (bg))]:List (Nat×Value)).toArray).run W w=.ok (.agg #[J bj,.bool (bg),.bool (false),M [],J 0,J 0,J 0,J 0,J 0,M [],al,al,al]) w:=by
 go_simp
 try rfl
theorem bBd (bj:Nat)(bg:Bool)(b4:List UInt8)(fQ:Int)(w:World):(Instr.build 83 ([(0,(J bj)),(2,.agg #[.bool (bg),M b4,.int .i64 (fQ)])]:List (Nat×Value)).toArray).run W w=.ok (.agg #[J bj,.bool (false),.bool (bg),M b4,.int .i64 (fQ),J 0,J 0,J 0,J 0,M [],al,al,al]) w:=by
 go_simp
 try rfl
theorem bBe (bj:Nat)(bg:Int)(b4:Int)(fQ:Int)(ir:Int)(w:World):(Instr.build 83 ([(0,(J bj)),(3,.agg #[.int .i64 (bg),.int .i64 (b4),.int .i64 (fQ),.int .i64 (ir)])]:List (Nat×Value)).toArray).run W w=.ok (.agg #[J bj,.bool (false),.bool (false),M [],J 0,.int .i64 (bg),.int .i64 (b4),.int .i64 (fQ),.int .i64 (ir),M [],al,al,al]) w:=by
 go_simp
 try rfl
theorem S5 (bj:Nat)(w:World):(Instr.build 83 ([(0,(J bj))]:List (Nat×Value)).toArray).run W w=.ok (.agg #[J bj,.bool (false),.bool (false),M [],J 0,J 0,J 0,J 0,J 0,M [],al,al,al]) w:=by
 go_simp
 try rfl
theorem bBa (bj:List UInt8)(bg:Int)(b4:Bool)(fQ:Bool)(ir:Value)(ld:Int)(ux:Int)(uy:Int)(uz:Int)(uw:Int)(zZ:Value)(z1:Value)(KH:Value)(KI:Value)(w:World):(Instr.build 133 ([(0,(M bj)),(1,.agg #[.int .i64 (bg),.bool (b4),.bool (fQ),ir,.int .i64 (ld),.int .i64 (ux),.int .i64 (uy),.int .i64 (uz),.int .i64 (uw),zZ,z1,KH,KI])]:List (Nat×Value)).toArray).run W w=.ok (.agg #[M bj,.int .i64 (bg),.bool (b4),.bool (fQ),ir,.int .i64 (ld),.int .i64 (ux),.int .i64 (uy),.int .i64 (uz),.int .i64 (uw),zZ,z1,KH,KI]) w:=by
 go_simp
 try rfl
theorem bBw (x:List UInt8)(q:Bool)(d:Dl)(w0:World)(hs:x.length<=1000000):Fc W 137 [M x,.bool q,.agg #[.int .u8 ((d.sep.toNat:Nat):Int),.int .u8 ((d.quo.toNat:Nat):Int),.bool d.hdr,.bool d.typ]] w0 (λu _=>∃ sc:Sc,u=.agg (qE sc).toArray/\sc.kind≠6/\sc.kind≠7):=by
 refine aI Tryz.func137 B Tryz.ntmps137 B ?_;have G:=Ctx.start w0;refine ag ?_;refine bE ?_;intro bH w G fl fg;refine fD ?_;intro bq w G gX hF;refine an ?_;refine S B B (cd (qs:=[(0,(J 4)),(4,(M x))]) (bBf _ _) B B) ?_;refine fD ?_;intro b7 w G nO iW;refine lO ?_;intro w G ko;refine gp ?_;refine Z (λdG=>?_) (λdG=>?_)
 ·refine ae ?_;refine wh ?_;intro w G ig;refine ag ?_;refine aGi ?_;exact aAk
 refine cK ?_;refine S B B (ga (s:=x) (u:=([]:List UInt8)) B B B) ?_;refine ag ?_;refine Z (λiS=>?_) (λiS=>?_)
 ·refine ag ?_;refine S B B (cd (qs:=[]) (bBb) B B) ?_;refine wh ?_;intro w G jt;refine ag ?_;refine aGi ?_;exact ⟨G.ext,⟨0,false,false,ByteArray.empty,0,0,0,0,0,ByteArray.empty⟩,B,(by decide:(0:Int)≠6),(by decide:(0:Int)≠7)⟩
 refine cw (λf ah=>∃ (DV:Bool),f 27=.bool (DV)/\f 0=M x/\f 5=ao bH 0/\f 6=ao bq 0/\f 7=ao b7 0/\Cxr w0 ah [(b7,aa 83 [J 4,.bool (false),.bool (false),M [],J 0,J 0,J 0,J 0,J 0,M x,al,al,al]),(bq,aa 83 [J 0,.bool (false),.bool (false),M [],J 0,J 0,J 0,J 0,J 0,M [],al,al,al]),(bH,aa 25 [.int .u8 ((d.sep.toNat:Nat):Int),.int .u8 ((d.quo.toNat:Nat):Int),.bool (d.hdr),.bool (d.typ)])] []) ?_ ?_
 ·refine ag ?_;refine Dc ?_;refine ag ?_;refine Z (λgL=>?_) (λgL=>?_)
  ·refine ab ?_;exact ⟨_,B,_,B,B,B,B,B,G⟩
  refine ab ?_;refine aEm ?_;refine ag ?_;exact ⟨_,B,_,B,B,B,B,B,G⟩
 intro f w ai;obtain ⟨DV,Jq,aB,bF,aL,aS,G⟩:=ai;refine cn Jq (λgL=>?_) (λgL=>?_)
 ·try simp only [dy] at gL
  refine ae ?_;refine Dc ?_;refine S B B (cd (qs:=[(0,(J 1)),(1,.bool (decide (x=[116,114,117,101])))]) (bBc _ _) B B) ?_;refine bn G 1 B B B aL B B c6 B B ?_;intro w G oY;refine ag ?_;refine j8 Tryz.results137 aL (G.at 1 B) fb B c6 ?_;exact ⟨G.ext,⟨1,_,false,ByteArray.empty,0,0,0,0,0,ByteArray.empty⟩,B,(by decide:(1:Int)≠6),(by decide:(1:Int)≠7)⟩
 try simp only [dy] at gL
 refine aq ?_;refine bG G (S9 x _ I) Tryz.func133 B B B B B B ?_;intro cBn w G aQz bSc;obtain ⟨cJv,rfl,cL6⟩:=bSc;refine cF ?_;refine Z (λjp=>?_) (λjp=>?_)
 ·refine ae ?_;refine bG G (aI5 x _ I) Tryz.func201 B B B B B B ?_;intro cBq w G Jx NY;obtain ⟨SV,aKm,aX1,bIf,rfl,cMl⟩:=NY;refine ae ?_;refine wj ?_;intro lr w G En xn;refine s9 ?_;intro w G n1;refine S B B (av (v:=(J bIf)) B B) ?_;refine aG ?_;refine Z (λiT=>?_) (λiT=>?_)
  ·refine ae ?_;refine S B B (cd (qs:=[(0,(J 2)),(2,.agg #[.bool (SV),M aKm,.int .i64 (aX1)])]) (bBd _ _ _ _) B B) ?_;refine K7 ?_;intro w G l0;refine ag ?_;refine Rt ?_;exact ⟨G.ext,⟨2,false,SV,bs aKm,aX1,0,0,0,0,ByteArray.empty⟩,B,(by decide:(2:Int)≠6),(by decide:(2:Int)≠7)⟩
  refine an ?_;refine K7 ?_;intro w G sF;exact ZL
 refine an ?_;refine bG G (aI4 x _ I) Tryz.func199 B B B B B B ?_;intro cSt w G bU2 bSf;obtain ⟨aRy,aX2,aSt,z51,bIg,rfl,cMm⟩:=bSf;refine ae ?_;refine Ac ?_;intro eD w G lA mx;refine xZ ?_;intro w G xo;refine S B B (av (v:=(J bIg)) B B) ?_;refine aG ?_;refine Z (λkH=>?_) (λkH=>?_)
 ·refine ae ?_;refine S B B (cd (qs:=[(0,(J 3)),(3,.agg #[.int .i64 (aRy),.int .i64 (aX2),.int .i64 (aSt),.int .i64 (z51)])]) (bBe _ _ _ _ _) B B) ?_;refine K7 ?_;intro w G xp;refine ag ?_;refine Rt ?_;exact ⟨G.ext,⟨3,false,false,ByteArray.empty,0,aRy,aX2,aSt,z51,ByteArray.empty⟩,B,(by decide:(3:Int)≠6),(by decide:(3:Int)≠7)⟩
 refine an ?_;refine K7 ?_;intro w G B3;exact ZL
theorem aJx (l:List T)(d:Dl)(la:Option Addr)(lc lb:Nat)(w0:World)(hv:DtV w0 d l la lc lb):Ret W 81 [.agg (nrow 1 [] [] (.slice la l.length lc) []).toArray,.agg #[.int .u8 ((d.sep.toNat:Nat):Int),.int .u8 ((d.quo.toNat:Nat):Int),.bool d.hdr,.bool d.typ]] w0 (λu w'=>∃ (v:V) (cells:List Value) (rs:List Row),u=.agg cells.toArray/\Gv d l v/\RR 83 133 rs v cells/\Cxr w0 w' [] rs):=by
 refine aI Tryz.func81 B Tryz.ntmps81 B ?_;have G:=Ctx.start w0;have oT:=hv.fact;have jr:=hv.cnt;have nW:=hv.ln;refine ag ?_;refine bE ?_;intro b2 w G di e3;refine bE ?_;intro b3 w G eE gr;refine fD ?_;intro bp w G gW gN;refine ae ?_;refine S B B (cd (qs:=[(0,(J 6))]) (S5 _) B B) ?_;refine fD ?_;intro bH w G fl fg;refine lO ?_;intro w G ko;refine an ?_;replace G:=G.nilRow 83 13;refine aG ?_;refine bu (λg f ah=>∃ (i:Nat) (k1 sJ:Value) (vl:List V) (css:List (List Value)) (rs:List Row),g=l.length-i/\(i<=l.length)/\(GvP d l i vl)/\(LF 83 133 rs vl [] css [] vl.length)/\(d.hdr=true->0<i->LR rs 9 1 sJ (nmD d l).length ((nmD d l).map λx=>(M x)))/\f 7=J i/\f 6=sJ/\f 2=ao b2 0/\f 3=ao b3 0/\f 4=ao bp 0/\f 5=ao bH 0/\Cxr w0 ah [(bH,aa 83 [J 6,.bool (false),.bool (false),M [],J 0,J 0,J 0,J 0,J 0,M [],al,k1,al]),(bp,aa 83 [J 0,.bool (false),.bool (false),M [],J 0,J 0,J 0,J 0,J 0,M [],al,al,al]),(b3,aa 25 [.int .u8 ((d.sep.toNat:Nat):Int),.int .u8 ((d.quo.toNat:Nat):Int),.bool (d.hdr),.bool (d.typ)]),(b2,aa 72 [J 1,M [],M [],.slice la l.length lc,M []])] (⟨83,13,k1,vl.length,css.flatten⟩::rs)) ((λ(i:Nat)=>l.length-i) 0) ?_ ?_
 ·exact ⟨0,_,_,[],[],[],B,bU _,GvP.start d l,LF.start0 83 133 [],(λ_ h=>absurd h (by decide)),aJ,B,B,B,B,B,G⟩
 intro pC f w ai;obtain ⟨i,k1,sJ,vl,css,rs,EA,hi,IQ,lf,lW,aS,aL,aE,aR,aM,bF,G⟩:=ai;have pM:vl.length<=i:=by have aw:=IQ.n;split at aw <;> omega
 refine cK ?_;refine Z (λct=>?_) (λct=>?_)
 ·have dK:i<l.length:=I;obtain ⟨r,hr⟩:∃ r,l[i]?=some r:=⟨_,bS dK⟩;have vr:=cb hr;obtain ⟨bZ,tl,rfl,_,Be⟩:=(oT.ok r vr).form;obtain ⟨PK,tR,xk⟩:=hv.kid i _ hr;obtain ⟨iQ,hN,jm,rfl,II,vd,ve⟩:=tR.kids;have su:=kq vr;have rr:(T.mk 8 [] [] bZ tl).count=1+counts bZ:=dT ..;have aNs:bZ.length<=counts bZ:=jv bZ;have BR:(prints bZ).length<=(T.mk 8 [] [] bZ tl).print.length:=by rw [dX];simp only [aQ];omega
  refine aq ?_;refine S B B (cd (qs:=[(0,(J 6))]) (S5 _) B B) ?_;refine fD ?_;intro cP w G lB jg;refine lO ?_;intro w G jt;refine an ?_;replace G:=G.nilRow 83 13;replace G:=G.nilRow 9 1;refine aG ?_;refine bu (λg f ah=>∃ (k:Nat) (rT vK:Value) (sl:List Sc),g=bZ.length-k/\(k<=bZ.length)/\(sl.length=k)/\(∀ s∈sl,s.kind≠6/\s.kind≠7)/\f 10=J k/\f 9=rT/\f 2=ao b2 0/\f 3=ao b3 0/\f 4=ao bp 0/\f 5=ao bH 0/\f 6=sJ/\f 7=J i/\f 8=ao cP 0/\Cxr w0 ah [(cP,aa 83 [J 6,.bool (false),.bool (false),M [],J 0,J 0,J 0,J 0,J 0,M [],al,vK,al]),(bH,aa 83 [J 6,.bool (false),.bool (false),M [],J 0,J 0,J 0,J 0,J 0,M [],al,k1,al]),(bp,aa 83 [J 0,.bool (false),.bool (false),M [],J 0,J 0,J 0,J 0,J 0,M [],al,al,al]),(b3,aa 25 [.int .u8 ((d.sep.toNat:Nat):Int),.int .u8 ((d.quo.toNat:Nat):Int),.bool (d.hdr),.bool (d.typ)]),(b2,aa 72 [J 1,M [],M [],.slice la l.length lc,M []])] (⟨9,1,rT,k,(nmE d (bZ.take k)).map λx=>(M x)⟩::⟨83,13,vK,sl.length,j7 sl⟩::⟨83,13,k1,vl.length,css.flatten⟩::rs)) ((λ(k:Nat)=>bZ.length-k) 0) ?_ ?_
  ·exact ⟨0,_,_,[],rfl,bU _,rfl,(λs h=>by cases h),aJ,rfl,aE,aR,aM,bF,aL,aS,rfl,G⟩
  intro so f w ai;obtain ⟨k,rT,vK,sl,IP,hk,k0,nZ,cp,b6,aE,aR,aM,bF,aL,aS,bb,G⟩:=ai;refine aG ?_;refine St ?_;refine ab ?_;refine Su ?_;refine ae ?_;refine Z (λje=>?_) (λje=>?_)
  ·have bX:k<bZ.length:=I;obtain ⟨e,he⟩:∃ e,bZ[k]?=some e:=⟨_,bS bX⟩;have nT:=cb he;obtain ⟨x,m,rfl,bOw,_⟩:=(Be e nT).form;obtain ⟨ecs,vm,xi⟩:=ve k _ he;obtain ⟨kF,iR,oN,rfl,hfc,Vf,IL⟩:=vm.kids;obtain ⟨Fq,tQ,xj⟩:=IL 0 _ rfl;obtain ⟨bj,bg,b4,rfl⟩:=tQ.form;have bRh:=kq nT;have B7:x.length<=(T.mk 5 [] [] (.mk 2 [] x [] []::m) []).print.length:=by rw [dX,hU,dX];simp only [aQ];omega
   refine ab ?_;refine cw (λf ah=>∃ (PP:Value) (FT:Sc) (P5:Value),(FT.kind≠6/\FT.kind≠7)/\f 9=P5/\f 2=ao b2 0/\f 3=ao b3 0/\f 4=ao bp 0/\f 5=ao bH 0/\f 6=sJ/\f 7=J i/\f 8=ao cP 0/\f 10=J k/\Cxr w0 ah [(cP,aa 83 [J 6,.bool (false),.bool (false),M [],J 0,J 0,J 0,J 0,J 0,M [],al,PP,al]),(bH,aa 83 [J 6,.bool (false),.bool (false),M [],J 0,J 0,J 0,J 0,J 0,M [],al,k1,al]),(bp,aa 83 [J 0,.bool (false),.bool (false),M [],J 0,J 0,J 0,J 0,J 0,M [],al,al,al]),(b3,aa 25 [.int .u8 ((d.sep.toNat:Nat):Int),.int .u8 ((d.quo.toNat:Nat):Int),.bool (d.hdr),.bool (d.typ)]),(b2,aa 72 [J 1,M [],M [],.slice la l.length lc,M []])] (⟨9,1,P5,k+1,(nmE d (bZ.take (k+1))).map λx=>(M x)⟩::⟨83,13,PP,(sl++[FT]).length,j7 (sl++[FT])⟩::⟨83,13,k1,vl.length,css.flatten⟩::rs)) ?_ ?_
   ·refine az ?_;refine St ?_;refine ab ?_;refine Su ?_;refine ab ?_;refine S B B (cT dx bA B (show _=Value.slice (some ⟨jm,0,none⟩) bZ.length hN by rw [<- vd I];rfl) B I I) ?_;refine ab ?_;refine S B B (br B B dx B ((xi.up G.ext).cell 3 B)) ?_;refine S B B (cT dx bA B (show _=Value.slice (some ⟨oN,0,none⟩) (m.length+1) iR by rw [<- Vf (Nat.succ_pos _)];rfl) B (by decide) I) ?_;refine ab ?_;refine S B B (br B B aF B ((xj.up G.ext).cell 2 B)) ?_;refine GX ?_;refine aq ?_;refine aDb ?_;intro w G OB;refine S B B (av (v:=(M (c2 d x))) B B) ?_;refine aq ?_;refine Gm ?_;intro cJd w G cLw WT;refine Gn ?_;intro aW8 w G cNp;replace G:=G.drop 1;refine ab ?_;replace G:=(G.row_eq B (XW he B)).swapQ;refine ab ?_;refine ei G (G.pick2 0 3 B B B) mixed [(0,55),(1,56),(2,57),(3,58),(4,59),(5,60),(12,67)] #[true,true,true,true,true,true,false,false,false,false,false,false,true,false,false,false,false,false] ac ac ac ac ?_;refine i1 ?_;refine bw B (bx B) (λw G=>kO (s:=x) (u:=([]:List UInt8)) B B B) ?_;refine kC ?_;refine cW ?_;intro w G Fb;refine fR (i:=6) (j:=8) ac B B ?_ ?_
    ·refine Az ?_;refine fR (i:=7) (j:=8) ac B B ?_ ?_
     ·refine Rr ?_;refine Gs ?_;refine mP ?_;refine ab ?_;exact ZT
     exact Zz
    refine Az ?_;refine fR (i:=6) (j:=9) ac B B ?_ ?_
    ·exact Zz
    refine Az ?_;refine li ?_;exact ZO
   intro f w ai;obtain ⟨PP,FT,P5,aQc,b6,aE,aR,aM,bF,aL,aS,bb,cp,G⟩:=ai;refine ae ?_;refine S B B (av (v:=(J (k+1))) B B) ?_;refine ab ?_;exact ⟨_,_,I,rfl,k+1,P5,PP,sl++[FT],rfl,I,(by rw [aQ,k0];rfl),(λs h=>by rcases iv.1 h with h | h;(exact nZ s h);(rw [hL.1 h];exact aQc)),aJ,b6,aE,aR,aM,bF,aL,aS,bb,G⟩
  have eN:k=bZ.length:=I;refine aG ?_;have VY:=(G.swapQ).oneS;replace G:=G.rot3;refine ab ?_;refine Z (λwY=>?_) (λwY=>?_)
  ·have a1:d.hdr=false:=by simpa using wY
   refine aq ?_;refine Gi ?_;intro cJk w G Nq aQ9;refine nu G MV oB B B B B B (G.row 0 B) B (mM (s:=wB) B VY B) I ?_;intro Y2 w G cN0;replace G:=G.drop 1;refine ab ?_;refine bR (v:=Y2) G 1 B B B B B G.oneS B B zL ?_;intro w G xo;refine yj ?_;exact ⟨_,_,I,B,i+1,Y2,sJ,vl++[PM sl],css++[vrow wB (al) vK (al)],⟨9,1,rT,k,(nmE d (bZ.take k)).map λx=>(M x)⟩::⟨83,13,vK,sl.length,j7 sl⟩::rs,B,I,IQ.addL a1 hr (by rw [k0,eN];rfl) nZ,LF.addL0 (rs2:=[⟨9,1,rT,k,(nmE d (bZ.take k)).map λx=>(M x)⟩,⟨83,13,vK,sl.length,j7 sl⟩]) lf (cCu (.inr (bP _ (b9 ..)))),(λh _=>by rw [a1] at h;cases h),aJ,aL,aE,aR,aM,bF,(mg (G.drop 1) Px (by rw [aMj];rfl))⟩
  have a1:d.hdr=true:=by simpa using wY
  refine aG ?_;refine Z (λtH=>?_) (λtH=>?_)
  ·have oV:i=0:=I;have bRq:nmD d l=nmE d bZ:=bYj (r:=.mk 8 [] [] bZ tl) a1 (by rw [oV] at hr;exact hr);refine cK ?_;refine x8 ?_;exact ⟨_,_,I,B,i+1,k1,rT,vl,css,⟨9,1,rT,k,(nmE d (bZ.take k)).map λx=>(M x)⟩::⟨83,13,vK,sl.length,j7 sl⟩::rs,B,I,(by subst oV;exact IQ.skip a1),{ hlc:=lf.hlc,hlv:=λi v cs h h2=>(lf.hlv i v cs h h2).mono (λr h=>bP _ (bP _ h)),hfc:=lf.hfc,hfv:=λi kv cs h h2=>(lf.hfv i kv cs h h2).mono (λr h=>bP _ (bP _ h)),hcnt:=lf.hcnt },(λ_ _=>by rw [bRq];exact .inr (aS5 eN)),aJ,B,aE,aR,aM,bF,(G.drop 1)⟩
  have oV:0<i:=I;have aM1:=lW a1 oV;have UX:sl.length=(nmD d l).length:=by rw [k0,eN,oT.nml a1 _ vr];rfl
  have cMb:(nmD d l).length<=100000:=I;obtain ⟨jw,iX,nq,rfl,_,I6,c9⟩:=aM1.sl2 (Cxr.tailF (A:=[⟨9,1,rT,k,(nmE d (bZ.take k)).map λx=>(M x)⟩,⟨83,13,vK,sl.length,j7 sl⟩]) G) (by decide);have bNb:LR (⟨9,1,rT,k,(nmE d (bZ.take k)).map λx=>(M x)⟩::⟨83,13,vK,sl.length,j7 sl⟩::rs) 83 13 vK sl.length (j7 sl):=.inr (bP _ (b9 ..));obtain ⟨FN,zE,cCc,bTy,_,Jn,dH⟩:=bNb.sl2 (Cxr.tailF (A:=[]) G) (by decide);subst bTy;refine ae ?_;refine S B B (cd (qs:=[(0,(J 7))]) (S5 _) B B) ?_;refine fD ?_;intro jY w G Iw qx;refine lO ?_;intro w G B3;refine aq ?_;replace G:=G.nilRow 133 14;refine ag ?_;refine bu (λg f ah=>∃ (q:Nat) (lx:Value),g=(nmD d l).length-q/\(q<=(nmD d l).length)/\f 14=J q/\f 2=ao b2 0/\f 3=ao b3 0/\f 4=ao bp 0/\f 5=ao bH 0/\f 6=(.slice jw (nmD d l).length iX)/\f 7=J i/\f 8=ao cP 0/\f 13=ao jY 0/\Cxr w0 ah [(jY,aa 83 [J 7,.bool (false),.bool (false),M [],J 0,J 0,J 0,J 0,J 0,M [],al,al,lx]),(cP,aa 83 [J 6,.bool (false),.bool (false),M [],J 0,J 0,J 0,J 0,J 0,M [],al,(.slice FN sl.length zE),al]),(bH,aa 83 [J 6,.bool (false),.bool (false),M [],J 0,J 0,J 0,J 0,J 0,M [],al,k1,al]),(bp,aa 83 [J 0,.bool (false),.bool (false),M [],J 0,J 0,J 0,J 0,J 0,M [],al,al,al]),(b3,aa 25 [.int .u8 ((d.sep.toNat:Nat):Int),.int .u8 ((d.quo.toNat:Nat):Int),.bool (d.hdr),.bool (d.typ)]),(b2,aa 72 [J 1,M [],M [],.slice la l.length lc,M []])] (⟨133,14,lx,q,wP ((nmD d l).take q) (sl.take q)⟩::⟨83,13,k1,vl.length,css.flatten⟩::⟨9,1,rT,k,(nmE d (bZ.take k)).map λx=>(M x)⟩::⟨83,13,(.slice FN sl.length zE),sl.length,j7 sl⟩::rs)) ((λ(q:Nat)=>(nmD d l).length-q) 0) ?_ ?_
  ·exact ⟨0,_,B,bU _,aJ,aE,aR,aM,bF,aL,aS,bb,B,G⟩
  intro bMo f w ai;obtain ⟨q,lx,bPv,aw,mu,aE,aR,aM,bF,aL,aS,bb,kn,G⟩:=ai;refine bz ?_;refine Z (λtI=>?_) (λtI=>?_)
  ·obtain ⟨pQ,I9⟩:∃ pQ,(nmD d l)[q]?=some pQ:=⟨_,bS I⟩;have VT:((nmD d l).map λx=>(M x))[q]?=some (M pQ):=by rw [eF,I9];rfl
   obtain ⟨sR,aQh⟩:∃ s,sl[q]?=some s:=⟨_,bS I⟩;refine ae ?_;refine CN G (Cxr.keepF (A:=[]) G) mixed [(0,91),(1,92),(2,93),(3,94),(4,95),(5,96),(6,97),(7,98),(8,99),(9,100),(10,101),(11,102)] #[true,true,true,true,true,true,true,true,true,true,true,true,false,false,false,false] ac ac ac ac ?_;refine i1 ?_;refine aGj ?_;refine bw B (bx B) (λw G=>br (v:=(M pQ)) B B aF B (by rw [gD,Nat.mul_one];exact (c9 _ (Cxr.tailF (A:=[⟨9,1,rT,k,(nmE d (bZ.take k)).map λx=>(M x)⟩,⟨83,13,(.slice FN sl.length zE),sl.length,j7 sl⟩]) G) I).cell q VT)) ?_;refine lk ?_;refine bw B (bx B) (λw G=>cT oB c6 B (show Value.slice FN sl.length zE=.slice (some ⟨cCc,0,none⟩) sl.length zE by rw [Jn I]) B I I) ?_;refine bw B (bx B) (λw G=>cG (l:=qE sR) B B fb B c6 (bXe aQh (dH _ (Cxr.tailF (A:=[]) G) I)) B) ?_;refine bw B (bx B) (λw G=>cd (qs:=[(0,(M pQ)),(1,.agg #[.int .i64 (sR.kind),.bool (sR.b),.bool (sR.neg),.string sR.dig,.int .i64 (sR.exp),.int .i64 (sR.tk),.int .i64 (sR.td),.int .i64 (sR.tn),.int .i64 (sR.tz),.string sR.text,al,al,al])]) (bBa _ _ _ _ _ _ _ _ _ _ _ _ _ _) B B) ?_;refine cW ?_;intro w G cQ6;refine r2 ?_;refine QW ?_;intro cIp w G cK4 cP7;refine hK ⟨.inl J7,?_⟩;refine pZ ?_;refine nu G aLd qd B B B B B (G.row 0 B) B (aMn (mM (s:=sR) B B B)) I ?_;intro Kz w G cMx;replace G:=G.drop 1;refine Du ?_;refine ej ?_;refine Af ?_;refine bR (v:=Kz) G 0 B B B B B G.oneS B B CF ?_;intro w G W8;refine Hg ?_;refine S B B (av (v:=(J (q+1))) B B) ?_;refine ab ?_;exact ⟨_,_,I,B,q+1,Kz,B,I,aJ,aE,aR,aM,bF,aL,aS,bb,kn,(mg G B (by rw [bLz I9 aQh];rfl))⟩
  refine ae ?_;have EL:=G.oneS;replace G:=G.swapQ;refine ag ?_;refine Gi ?_;intro cIr w G cK6 cQa;refine nu G MV oB B B B B B (G.row 0 B) B (mM (s:=Hv) B B EL) I ?_;intro aW1 w G cMz;replace G:=G.drop 1;refine ab ?_;refine bR (v:=aW1) G 2 B B B B B G.oneS B B zL ?_;intro w G B4;refine qZ ?_;have lH:q=(nmD d l).length:=I;exact ⟨_,_,I,B,i+1,aW1,(.slice jw (nmD d l).length iX),vl++[PN (nmD d l) sl],css++[vrow Hv (al) (al) lx],⟨133,14,lx,q,wP ((nmD d l).take q) (sl.take q)⟩::⟨9,1,rT,k,(nmE d (bZ.take k)).map λx=>(M x)⟩::⟨83,13,(.slice FN sl.length zE),sl.length,j7 sl⟩::rs,B,I,IQ.addM a1 oV UX nZ,LF.addL0 (rs2:=[⟨133,14,lx,q,wP ((nmD d l).take q) (sl.take q)⟩,⟨9,1,rT,k,(nmE d (bZ.take k)).map λx=>(M x)⟩,⟨83,13,(.slice FN sl.length zE),sl.length,j7 sl⟩]) lf (cCv UX (cCs lH UX)),(λ_ _=>aM1.mono (λr h=>bP _ (bP _ (bP _ h)))),aJ,aL,aE,aR,aM,bF,(mg (G.drop 2) Px (by rw [aMj];rfl))⟩
 refine an ?_;refine bn G 1 B B B aM B B c6 B (mM (s:=wB) B G.oneS B) ?_;intro w G Ff;refine ag ?_;refine j8 Tryz.results81 aM (G.at 1 B) fb B c6 ?_;have hS:i=l.length:=I;subst hS;exact ⟨.mk wB [] vl [],_,_::rs,B,GvP.done IQ,RR.mk wB [] vl [] _ _ _ css [] (.inl ⟨B,B⟩) (.inr (b9 ..)) lf.hlc (λi v cs h h2=>(lf.hlv i v cs h h2).mono λr hr=>bP _ hr) (.inl ⟨B,B⟩) B (λi kv cs h=>by simp at h),G.drop 4⟩
theorem bGc (l:List T)(d:Dl)(la:Option Addr)(lc lb:Nat)(p:List Stp)(ed:Value)(i k:Nat)(dA fa:Stp)(w0:World)(hv:DtV w0 d l la lc lb)(hp:Pth w0 ed p)(aH:ou p)(Ez:∀ v,Gv d l v->Fnd v p)(ff:p.length=2)(ap:p[0]?=some dA)(h1:p[1]?=some fa)(aB:dA.index=((ii d.hdr i:Nat):Int))(hS:i<l.length)(hk:k<=100000)(tM:d.hdr=true->0<i)(WE:d.hdr=false->fa.index=(k:Int))(ck:d.hdr=true->∃ k4,(nmD d l)[k]?=some k4/\fa.key=bs k4):Ret W 89 [.agg (nrow 1 [] [] (.slice la l.length lc) []).toArray,.agg #[.int .u8 ((d.sep.toNat:Nat):Int),.int .u8 ((d.quo.toNat:Nat):Int),.bool d.hdr,.bool d.typ],ed] w0 (λr w'=>∃ (gw:Value) (rs:List Row),r=.tuple #[gw,J 0]/\Cxr w0 w' [] (⟨3,1,gw,3,[i,k,0].map λk=>((J k):Value)⟩::rs)):=by
 obtain ⟨fP,eV,vG,uj,rfl,jP,cu⟩:=hp.form;refine aI Tryz.func89 B Tryz.ntmps89 B ?_;have G:=Ctx.start w0;have oT:=hv.fact;have jr:=hv.cnt;have nW:=hv.ln;refine ag ?_;refine bE ?_;intro b3 w G eE gr;refine bE ?_;intro bp w G gW gN;refine bz ?_;refine aDa ?_;intro w G sC;refine ae ?_;refine aC7 ?_;intro w G BZ;refine ae ?_;refine cn B (λdG=>?_) (λdG=>?_)
 ·exact absurd dG (by simp)
 refine az ?_;refine bW (aJx l d la lc lb _ (hv.up G.ext)) Tryz.func81 B B B B B B ?_;rintro v25 w ⟨v,cells,rs,rfl,w4,dH,cq⟩;replace G:=G.callRows cq;simp only [cH] at G;obtain ⟨cS,cZ,c0,rfl,gM,gi,iV⟩:=dH.form G;refine ab ?_;refine bG G (aIy v _ p _ _ (dH.vw G) (hp.up G.ext) aH (Ez v w4)) Tryz.func146 B B B B B B ?_;intro Yk w G zk Jd;obtain ⟨fq,cHw,rfl,Jv⟩:=Jd;obtain ⟨Il,Iq,Ip,rfl,_⟩:=Jv.form;refine ae ?_;refine fD ?_;intro cP w G lB jg;refine bn G 0 B B B B B B c6 B Jv.one ?_;intro w G ig;refine mQ ?_;refine az ?_;refine Z (λfJ=>?_) (λfJ=>?_)
 ·exfalso;omega
 refine bz ?_;refine Z (λh9=>?_) (λh9=>?_)
 ·exfalso;omega
 refine bz ?_;refine Z (λjp=>?_) (λjp=>?_)
 ·have a1:d.hdr=false:=by simpa using jp
  have aK:=WE a1;have kk:ii d.hdr i=i:=by rw [a1];rfl
  refine ab ?_;refine ei G ((G.drop 3).noR) mixed [(0,39),(1,40),(2,41),(3,42),(4,43),(5,44),(6,45),(7,46)] #[true,true,true,true,true,true,true,true,false,false,false] ac ac ac ac ?_;refine eY ?_;refine G5 ?_;refine eY ?_;refine bw B (bx B) (λw G=>br B B dq B (((cu 0 dA ap).up G.ext).cell 2 B)) ?_;refine eY ?_;refine G5 ?_;refine eY ?_;refine bw B (bx B) (λw G=>br B B dq B (((cu 1 fa h1).up G.ext).cell 2 B)) ?_;refine cW ?_;intro w G aRe;refine mP ?_;refine aDc ?_;intro cI9 w G cLr Fa;replace G:=G.toRow (size:=1) (k:=3) B (by decide);refine Dv ?_;refine ej ?_;refine kQ ?_;refine AB ?_;refine dY Tryz.results89 B B ?_;exact ⟨_,_,B,mg (G.drop 3) B (by rw [aB,aK,kk];rfl)⟩
 have a1:d.hdr=true:=by simpa using jp
 have oV:=tM a1;have kk:ii d.hdr i=i-1:=by rw [a1];rfl
 obtain ⟨k4,lF,aK⟩:=ck a1;have jO:=aS4 oT a1;refine aq ?_;refine bW (aJq l d la lc lb _ (hv.up G.ext)) Tryz.func36 B B B B B B ?_;rintro v51 w ⟨lT,rQ,rfl,oI,hP⟩;replace G:=G.callRows oI;have UE:LR (rQ++rs) 9 1 lT (nmD d l).length ((nmD d l).map λx=>(M x)):=hP.mono λr h=>iM _ h
 obtain ⟨jw,iX,nq,rfl,_,I6,c9⟩:=UE.sl2 (G.drop 3) (by decide);have gh:=(bT.1 lF).1;refine an ?_;refine mQ ?_;refine aG ?_;refine bu (λg f ah=>∃ (j:Nat),g=k+1-j/\(j<=k)/\f 12=J j/\f 2=.slice fP p.length eV/\f 6=al/\f 7=J 0/\f 10=.slice jw (nmD d l).length iX/\Cxr w0 ah [(cP,aa 83 [.int .i64 (fq.sc.kind),.bool (fq.sc.b),.bool (fq.sc.neg),.string fq.sc.dig,.int .i64 (fq.sc.exp),.int .i64 (fq.sc.tk),.int .i64 (fq.sc.td),.int .i64 (fq.sc.tn),.int .i64 (fq.sc.tz),.string fq.sc.text,Il,Iq,Ip]),(bp,aa 25 [.int .u8 ((d.sep.toNat:Nat):Int),.int .u8 ((d.quo.toNat:Nat):Int),.bool (d.hdr),.bool (d.typ)]),(b3,aa 72 [J 1,M [],M [],.slice la l.length lc,M []])] ((rQ++rs))) ((λ(j:Nat)=>k+1-j) 0) ?_ ?_
 ·exact ⟨0,B,bU _,aJ,B,B,B,B,G⟩
 intro cKp f w ai;obtain ⟨j,cMr,ax,cV,aE,aL,aS,cp,G⟩:=ai;obtain ⟨vz,NT⟩:∃ vz,(nmD d l)[j]?=some vz:=⟨_,bS I⟩;have bRo:((nmD d l).map λx=>(M x))[j]?=some (M vz):=by rw [eF,NT];rfl
 refine ag ?_;refine CN G (G) mixed [(0,54),(1,55),(2,56),(3,57),(4,58),(5,59),(6,60),(7,61),(8,62)] #[true,true,true,true,true,true,true,true,true] ac ac ac ac ?_;refine kC ?_;refine aGj ?_;refine bw B (bx B) (λw G=>br (v:=(M vz)) B B aF B (by rw [gD,Nat.mul_one];exact (c9 _ (G.drop 3) I).cell j bRo)) ?_;refine eY ?_;refine G5 ?_;refine eY ?_;refine bw B (bx B) (λw G=>br B B aF B (((cu 1 fa h1).up G.ext).cell 1 B)) ?_;refine bw B (bx B) (λw G=>wa B B B) ?_;refine cW ?_;intro w G B1;refine Rn ?_;refine cn B (λnR=>?_) (λnR=>?_)
 ·have st:j≠k:=λh=>by subst h;rw [lF] at NT;cases NT;rw [aK] at nR;simp at nR
  refine aq ?_;refine As ?_;refine ab ?_;exact ⟨_,_,I,B,j+1,B,I,aJ,aE,aL,aS,cp,G⟩
 have st:j=k:=nA λh=>Ph jO NT lF I (by rw [aK] at nR;exact tq (by simpa using nR))
 refine an ?_;refine L2 ?_;refine ab ?_;refine aGk ?_;refine ag ?_;refine aDc ?_;intro aZw w G bN0 bU9;replace G:=G.toRow (size:=1) (k:=3) B (by decide);refine an ?_;refine dY Tryz.results89 B B ?_;exact ⟨_,_,B,mg (G.drop 3) B (by rw [aB,kk,st,show ((i-1:Nat):Int)+1=((i:Nat):Int) by omega];rfl)⟩
theorem bA9  (w:World):(Instr.build 83 ([]:List (Nat×Value)).toArray).run W w=.ok (.agg #[J 0,.bool (false),.bool (false),M [],J 0,J 0,J 0,J 0,J 0,M [],al,al,al]) w:=by
 go_simp
 try rfl
theorem TO {w:World}{s:List UInt8}{d:Dl}{l:List T}{k:Nat}{cI bl ev:List UInt8}{cB:Option Addr}{n2 n3:Nat}{bD bK af aj ak:Int}(fo:Nw w (docD l) (nrow k cI bl (.slice cB n2 n3) ev))(dc:Pq s d bD bK af aj ak (.inr (docD l)))(hs:s.length<=9000):k=1/\cI=[]/\bl=[]/\ev=[]/\n2=l.length/\∃ lb,DtV w d l cB n3 lb:=by
 obtain ⟨la,lc,lb,ia,hlc,ez,dN⟩:=fo.kids;have cu:prints l=s:=dc.fact.txt;obtain ⟨_,EI⟩:=dc.more I;have e:nrow k cI bl (.slice cB n2 n3) ev=nrow 1 [] [] (.slice la l.length lc) []:=ia;have e0:=aD (λl:List Value=>l.getD 0 (.bool false)) e;have bm:=aD (λl:List Value=>l.getD 1 (.bool false)) e;have aZ:=aD (λl:List Value=>l.getD 2 (.bool false)) e;have gg:=aD (λl:List Value=>l.getD 3 (.bool false)) e;have e4:=aD (λl:List Value=>l.getD 4 (.bool false)) e;have ap:k=1:=by injection (show (J k)=(J 1) from e0) with _ h;omega
 have h1:cI=[]:=by injection (show (M cI)=(M []) from bm) with h;exact tq h
 have h2:bl=[]:=by injection (show (M bl)=(M []) from aZ) with h;exact tq h
 have ar:ev=[]:=by injection (show (M ev)=(M []) from e4) with h;exact tq h
 have bIc:Value.slice cB n2 n3=.slice la l.length lc:=gg
 injection bIc with g1 dt g3
 subst ap h1 h2 ar g1 dt g3;exact ⟨B,B,B,B,B,lb,⟨fo,by rw [cu];exact EI,by rw [cu];exact hs,ez,dN⟩⟩
theorem bEg (s:List UInt8)(d:Dl)(bD bK af aj ak:Int)(w0:World)(hs:s.length<=9000):Ret W 34 [M s,.agg #[.int .u8 ((d.sep.toNat:Nat):Int),.int .u8 ((d.quo.toNat:Nat):Int),.bool d.hdr,.bool d.typ],.agg #[.int .i64 bD,.int .i64 bK,.int .i64 af,.int .i64 aj,.int .i64 ak]] w0 (λv w'=>(∃ o bk:Nat,bk≠0/\Pq s d bD bK af aj ak (.inl (o,bk))/\v=.tuple #[.agg (vrow ⟨0,false,false,ByteArray.empty,0,0,0,0,0,ByteArray.empty⟩ (al) (al) (al)).toArray,J o,J bk]/\Below w0.heap.size w0 w')\/(∃ (l:List T) (x:V) (cells:List Value) (rs:List Row),v=.tuple #[.agg cells.toArray,J 0,J 0]/\Pq s d bD bK af aj ak (.inr (docD l))/\Gv d l x/\RR 83 133 rs x cells/\Cxr w0 w' [] rs)):=by
 refine aI Tryz.func34 B Tryz.ntmps34 B ?_;have G:=Ctx.start w0;refine ag ?_;refine bE ?_;intro bp w G gW gN;refine bE ?_;intro bH w G fl fg;refine fD ?_;intro bq w G gX hF;refine bz ?_;have aE:s.length<=200000:=I;refine bW (Tp s d bD bK af aj ak _ aE) Tryz.func35 B B B B B B ?_;rintro aW3 w ⟨k,cI,bl,ev,cB,n2,n3,o,bk,rs,rfl,cq,cu⟩;replace G:=G.callRows cq;refine an ?_;refine dv ?_;intro eZ w G rp tY;refine s7 ?_;intro w G ko;refine pg ?_;refine aG ?_;refine Z (λdG=>?_) (λdG=>?_)
 ·obtain ⟨nS,dc⟩:=cu.resolve_right (λh=>I);refine ag ?_;refine S B B (cd (qs:=[]) (bA9) B B) ?_;refine ag ?_;refine wh ?_;intro w G ig;refine pg ?_;refine ag ?_;refine aGl ?_;exact .inl ⟨o,bk,nS,dc,B,G.ext⟩
 obtain ⟨_,_,l,dc,c9⟩:=cu.resolve_left (λh=>h.1 I);obtain ⟨rfl,rfl,rfl,rfl,rfl,lb,U2⟩:=TO ((c9.mono λr h=>iM _ h).vw G) dc hs;refine aq ?_;refine bW (aJx l d cB n3 lb _ U2) Tryz.func81 B B B B B B ?_;rintro v27 w ⟨v,cells,rs2,rfl,w4,dH,oI⟩;replace G:=G.callRows oI;obtain ⟨cS,cZ,c0,rfl,gM,gi,iV⟩:=dH.form oI;refine QX ?_;intro w G hG;refine an ?_;refine aGl ?_;exact .inr ⟨l,v,_,rs2,B,dc,w4,dH,(G.drop 4).leftQ⟩
end Go.Proofs.YthiafbkolhnadaaGreatDoor
end
