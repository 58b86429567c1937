/-
  Several texts in one: Or, Bf, Bg, Bh, Bs, Pa, Pb, Ya, Pc, Px, Yb, Yc, Pn, Pq, Pd, Py, Pv, Pw, Pz, Pu, Pg, Ph, Pf, Xa, K1, K2, ShP, Sh, Gt, ShN, Gu, Xd, Gb
-/
import Derived.Test.YthiafbkolhnadaaGreatDoorVA
import Derived.Orders
import Derived.Lib.ConvBytes
import Derived.Lib.FrozenHead
import Derived.Lib.ItoaNum
import Derived.Lib.DecodeN
import Derived.Lib.ValidLaws
import Derived.Lib.Atoi
import Derived.Lib.SplitLaws
import Derived.Shelf.Strings.Replace
import Derived.Shelf.Unicode.DecodeAny
import Derived.Shelf.Small.Strs
import Derived.Shelf.Small.Wraps
import Derived.Shelf.Strings.BuilderK
import Derived.Test.YthiafbkolhnadaaGreatDoorProg
import Derived.Shelf.Strconv.Itoa3
import Derived.Shelf.Unicode.ValidAny
import Derived.Shelf.Spec.TrailingZeros
import Derived.Shelf.Strconv.Atoi
import Derived.Shelf.Strings.Cut
import Derived.Shelf.Strings.Split
import Derived.Lib.SmallJoins
open Go.Proofs.Tryz renaming prog->W,underlying9->aF,underlying72->de,underlying3->dq,underlying70->dx,underlying5->en,underlying83->fb,underlying79->fk,underlying28->lp,underlying33->mc,underlying148->mV,underlying32->oA,underlying80->oB,underlying159->po,underlying4->pr,underlying81->qd,underlying25->q3,underlying35->q4,underlying23->r9,underlying78->sa,zeroValue4->yr,func343->AH,isAgg5->AI,sizeOf5->AJ,zeroValue5->AK,isAgg3->DO,sizeOf3->DP,underlying299->DQ,zeroValue3->DR,isAgg0->Hl,isAgg9->Hm,sizeOf0->Hn,sizeOf9->Ho,underlying0->Hp,zeroValue0->Hr,zeroValue9->Hs,isAgg237->Mj,sizeOf237->Mk,zeroValue237->Ml
open List renaming length_append->aQ,length_drop->bC,mem_cons_of_mem->bP,getElem?_eq_getElem->bS,getElem?_eq_some_iff->bT,mem_cons_self->b9,mem_of_getElem?->cb,length_cons->cf,append_nil->cH,length_nil->dC,length_take->dS,append_assoc->eB,length->eC,getElem?_map->eF,mem_cons->eX,drop_drop->fE,length_map->fT,flatMap_cons->gE,length_pos_iff->gF,nil_append->gG,cons_append->gT,mem_singleton->hL,getD_eq_getElem?_getD->hZ,mem_append->iv,take_zero->iw,mem_append_left->iM,map_cons->jk,take_succ_cons->jG,getElem?_of_mem->jX,map_append->kc,length_singleton->ll,mem_map->lm,take_of_length_le->lQ,getD->l8,getElem?_append_left->l9,drop_zero->mS,not_mem_nil->mT,take_length->nG,drop_eq_getElem_cons->ph,flatten_cons->pi,getElem?_append_right->pj,replicate->pk,all_eq_true->p7,eq_nil_of_length_eq_zero->p8,take_succ_eq_append_getElem->p9,drop_eq_nil_of_le->q0,getElem?_drop->tc,getElem?_take->te,drop_take->yk,foldl_cons->yl,nodup_cons->ym,drop_of_length_le->AD,getElem?_cons_zero->AE,any_eq_true->DJ,size_toArray->Hj
open UInt8 renaming ofNat->bM,toNat_inj->q5,ofNat_toNat->wz
open Nat renaming zero_le->bU,le_refl->bV,add_zero->gb,beq->gU,zero_add->gV,lt_or_ge->ma,add_assoc->mU,le_trans->nI,pow_le_pow_right->pn,blt->qb,eq_zero_or_pos->tg,min_eq_left->yn,mod_eq_of_lt->yo
open Int renaming toNat->dw,toNat_natCast->gD
open Bool renaming and_eq_true->fS,or_eq_true->hW,eq_iff_iff->jE,not_eq_true'->kP,noConfusion->qR,false_eq_true->r0,or_eq_false_iff->uB
open List.cons renaming injEq->iL
open Option renaming bind_some->ke,map_eq_some_iff->nJ,map_some->ti
open Option.some renaming injEq->kS,inj->mb
open Classical renaming byContradiction->nA,not_not->nB,choose_spec->QQ
open Array renaming replicate->CV,getElem?_eq_getElem->KP,length_toList->KQ
set_option linter.unusedSimpArgs false
set_option linter.unusedVariables false
set_option maxHeartbeats 4000000
set_option maxRecDepth 100000
section
namespace Go.Dk
open Go Go.RowKit
def dO (l:Array Bool)(i:Nat):Bool:=l.getD i false
def rh (ops:Array Oper)(j:Nat):List Nat:=match ops[j]? with
 | none=>[]
 | some o=>(o.after.toList.filter (Region.binds .any)).map (·.on)
def sI (ops:Array Oper):Nat->Nat->Nat->Bool
 | 0,_,_=>false
 | k+1,i,j=>(rh ops j).any λe=>e==i||sI ops k i e
def mZ (ops:Array Oper)(bi:List (Nat×Nat)):Bool :=
 Region.noSelect ops &&
 ((List.range ops.size).all λj=>(rh ops j).all λe=>qb e j) &&
 (bi.all λp=>match ops[p.1]? with
   | none=>false
   | some o=>(match o.dst with | some d=>gU d p.2 | none=>false) &&
    (List.range ops.size).all λj=>match ops[j]? with
      | none=>true
      | some Co=>(match Co.dst with
        | none=>true
        | some d=>gU j p.1||(!gU d p.2&&(bi.any (λq=>gU q.1 j)||!(o.looksAt ops).contains d||sI ops 12 p.1 j))) &&
       (!(Co.looksAt ops).contains p.2||sI ops 12 p.1 j))
theorem Mv {ops:Array Oper}{cN:Array Bool}(j1:∀ j,dO cN j=true->∀ e∈rh ops j,dO cN e=true):∀ (k i j:Nat),(∀ e∈rh ops j,dO cN e=true)->sI ops k i j=true->dO cN i=true
 | 0,_,_,_,h=>by simp [sI] at h
 | k+1,i,j,ax,h=>by
  simp only [sI,DJ,hW,beq_iff_eq] at h;obtain ⟨e,he,rfl | h⟩:=h
  ·exact ax e he
  ·exact Mv j1 k i e (j1 e (ax e he)) h
def Fin0 (eu:Act->World->Prop):Exit->Act->World->Prop
 | .normal,a,w=>eu a w
 | _,_,_=>False
theorem Fin0.shut {eu:Act->World->Prop}:¬ LetsOut (Fin0 eu):=λ⟨_,_,h⟩=>h
def rM (ops:Array Oper)(bi:List (Nat×Nat))(i:Nat):Bool:=bi.all λp=>sI ops 12 p.1 i
def k9 (P:Program)(ops:Array Oper)(bi:List (Nat×Nat))(Q:Exit->Act->World->Prop)(cX:World->Prop):Nat->Array Bool->Act->World->Prop
 | 0,_,_,_=>False
 | k+1,l,a,w=>(Region.ready .any ops l=[]->Q .normal a w) /\
  ∀ i∈Region.ready .any ops l,∃ o,ops[i]?=some o/\wpList P ops (Fin0 λeb w'=>(cX w'\/rM ops bi i=true)/\k9 P ops bi Q cX k (l.setIfInBounds i true) eb w') [o] a w
structure Rl (bad:Nat->Prop) (a b:Act):Prop where
 df:a.defers=b.defers
 sz:a.tmps.size=b.tmps.size
 tm:∀ x,¬ bad x->a.tmps[x]?=b.tmps[x]?
theorem Rl.eval {bad:Nat->Prop}{a b:Act}(h:Rl bad a b){x:Operand}(hx:∀ t,x=.tmp t->¬ bad t):a.eval x=b.eval x:=by
 cases x with
 | tmp t =>
  have:=h.tm t (hx t B);simp only [Act.eval,Array.getD_eq_getD_getElem?,this]
 | _=>rfl
theorem Rl.put {bad bad':Nat->Prop}{a b:Act}(h:Rl bad a b)(d:Option Nat)(v:Value)(hb:∀ x,¬ bad' x->d=some x\/¬ bad x):Rl bad' (a.put d v) (b.put d v):=by
 cases d with
 | none=>exact ⟨h.df,h.sz,λx hx=>h.tm x ((hb x hx).resolve_left (by simp))⟩
 | some d =>
  refine ⟨h.df,by simp [Act.put,h.sz],λx hx=>?_⟩;simp only [Act.put,Array.getElem?_setIfInBounds,h.sz];split
  ·rfl
  . rename_i bt
    exact h.tm x ((hb x hx).resolve_left λe=>bt (by simpa using e))
section
variable {P:Program} {ops:Array Oper} {Q:Exit->Act->World->Prop} {cX:World->Prop} {bi:List (Nat×Nat)}
theorem J0 {o:Oper}{bad:Nat->Prop}{a b:Act}(h:Rl bad a b)(hl:∀ t∈o.looksAt ops,¬ bad t):(∀ x∈o.op.operands,a.eval x=b.eval x)/\Region.wanted o (yielded ops a.tmps)=Region.wanted o (yielded ops b.tmps):=by
 refine ⟨λx hx=>h.eval λt e=>hl t ?_,?_⟩
 . subst e
   exact iM _ (List.mem_filterMap.2 ⟨.tmp t,by simpa using hx,B⟩)
 . unfold Region.wanted
   cases aH:o.guard with
   | none=>rfl
   | some bMq =>
    obtain ⟨g,cUx⟩:=bMq;have hy:yielded ops a.tmps g=yielded ops b.tmps g:=by
     unfold yielded
     cases ht:(ops[g]?).bind (·.dst) with
     | none=>rfl
     | some t =>
      have:=h.tm t (hl t (by simp [Oper.looksAt,aH,ht]));simp [this]
    simp only [hy]
theorem cEk {o:Oper}{bad bad':Nat->Prop}{a b:Act}{w:World}{eu K':Act->World->Prop}(rF:∀ cs b,o.op≠.select cs b)(h:Rl bad a b)(hl:∀ t∈o.looksAt ops,¬ bad t)(hb:∀ x,¬ bad' x->o.dst=some x\/¬ bad x)
  (ep:∀ eb q8 w',Rl bad' eb q8->(∃ v df,q8=({ b with defers:=df }:Act).put o.dst v)->eu q8 w'->K' eb w') (H:wpList P ops (Fin0 eu) [o] b w) :
  if Region.wanted o (yielded ops a.tmps) then o.wp P a w K' Q else K' (a.put o.dst undef) w:=by
 obtain ⟨h1,h2⟩:=J0 h hl;unfold wpList at H;rw [<- h2] at H;split
 . rename_i hw
   rw [U hw] at H;rcases H with H | ⟨_,H⟩
   . unfold Oper.wp at *
     rw [execOp_congr o rF h1]
     generalize (execOp b.eval o).run P w=r at *
     cases r with
     | ok n w' =>
      cases n <;> simp only [Oper.upon] at H ⊢
      case value u=>exact ep _ _ _ (h.put _ _ hb) ⟨u,b.defers,rfl⟩ H
      case skip=>exact ep _ _ _ (h.put _ _ hb) ⟨undef,b.defers,rfl⟩ H
      case defer d =>
       exact aA6
      case enter f args =>
       refine Calls.mono H λe xT he=>?_
       cases e with
       | returned u=>exact ep _ _ _ (h.put _ _ hb) ⟨u,b.defers,rfl⟩ he
       | panicked c=>exact he.elim
       | outgrown=>exact (Fin0.shut he).elim
      case row row args=>exact Rows.mono H λu xT he=>ep _ _ _ (h.put _ _ hb) ⟨u,b.defers,rfl⟩ he
     | halt x w' =>
      cases x <;> simp only [Oper.upon] at H ⊢
      case panic u=>exact H.elim
   ·exact (Fin0.shut H).elim
 . rename_i hw
   rw [O hw] at H;exact ep _ _ _ (h.put _ _ hb) ⟨undef,b.defers,B⟩ H
theorem MJ (h:mZ ops bi=true):Region.noSelect ops=true:=by
 unfold mZ at h;simp only [fS] at h;exact h.1.1
theorem D1 (h:mZ ops bi=true)(j e:Nat)(he:e∈rh ops j):e<j:=by
 unfold mZ at h;simp only [fS,p7,List.mem_range] at h;have ax:j<ops.size:=by
  rcases ma j ops.size with aU | aU
  ·exact aU
  ·simp [rh,Array.getElem?_eq_none aU] at he
 have:=h.1.2 j ax e he;simpa using this
theorem wK (h:mZ ops bi=true)(p:Nat×Nat)(hp:p∈bi):∃ o,ops[p.1]?=some o/\True/\o.dst=some p.2 /\
  ∀ j Co,ops[j]?=some Co->(∀ d,Co.dst=some d->j=p.1\/(d≠p.2/\(bi.any (λq=>gU q.1 j)=true\/d∉o.looksAt ops\/sI ops 12 p.1 j=true)))/\(p.2∈Co.looksAt ops->sI ops 12 p.1 j=true):=by
 unfold mZ at h;simp only [fS,p7,List.mem_range] at h;have h1:=h.2 p hp
 cases au:ops[p.1]? with
 | none=>rw [au] at h1;cases h1
 | some o =>
  rw [au] at h1;simp only [fS,p7,List.mem_range] at h1;obtain ⟨Y,ar⟩:=h1;refine ⟨o,B,trivial,?_,λj Co ax=>?_⟩
  . cases hd:o.dst with
    | none=>rw [hd] at Y;cases Y
    | some d=>rw [hd] at Y;simpa using Y
  . have bd:=ar j (Array.getElem?_eq_some_iff.1 ax).1
    rw [ax] at bd;simp only [fS] at bd;refine ⟨λd hd=>?_,λhm=>?_⟩
    . have h6:=bd.1
      rw [hd] at h6;simp only [hW,fS,Nat.beq_eq,kP,List.contains_eq_mem,decide_eq_false_iff_not] at h6;rcases h6 with h6 | ⟨h6,h7⟩
      ·exact .inl h6
      . refine .inr ⟨λe=>by subst e;simp at h6,?_⟩
        rcases h7 with (h7 | h7) | h7
        ·exact .inl h7
        ·exact .inr (.inl h7)
        ·exact .inr (.inr h7)
    . have h6:=bd.2
      simp only [hW,kP,List.contains_eq_mem,decide_eq_false_iff_not] at h6;exact h6.resolve_left λh=>h hm
theorem XK {l:Array Bool}{i j:Nat}(hi:i<l.size):dO (l.setIfInBounds i true) j=(dO l j||gU i j):=by
 unfold dO;by_cases rA:i=j
 ·subst rA;simp [hi]
 . have:gU i j=false:=by
     cases hb:gU i j
     ·rfl
     ·exact absurd (Nat.eq_of_beq_eq_true hb) rA
   simp [this,Array.getElem?_setIfInBounds_ne rA]
theorem aMp {l:Array Bool}{i:Nat}(hi:i<l.size):l.getD i true=dO l i:=by
 unfold dO;simp [hi]
theorem Cv {cN:Array Bool}{j:Nat}(hs:cN.size=ops.size):j∈Region.ready .any ops cN↔j<ops.size/\dO cN j=false/\∀ e∈rh ops j,dO cN e=true:=by
 rw [mem_ready];constructor
 . rintro ⟨ap,o,au,h1⟩
   have ax:=(Array.getElem?_eq_some_iff.1 au).1;refine ⟨ax,by rw [<- aMp I];exact ap,λe he=>?_⟩;simp only [rh,au,lm,List.mem_filter,Array.mem_toList_iff] at he;obtain ⟨bIv,⟨NE,ic⟩,rfl⟩:=he;exact h1 bIv NE ic
 . rintro ⟨ax,ap,h1⟩
   refine ⟨by rw [aMp I];exact ap,ops[j],KP ax,λe he hb=>?_⟩;refine h1 e.on ?_;simp only [rh,KP ax,lm,List.mem_filter,Array.mem_toList_iff];exact ⟨e,⟨he,hb⟩,B⟩
theorem cCj (dj:mZ ops bi=true){cN:Array Bool}(hs:cN.size=ops.size)(h:Region.ready .any ops cN=[]):∀ i,i<ops.size->dO cN i=true:=by
 intro i
 induction i using Nat.strongRecOn with
 | _ i ih =>
  intro hi
  cases hl:dO cN i with
  | true=>rfl
  | false =>
   have:i∈Region.ready .any ops cN:=(Cv hs).2 ⟨hi,hl,λe he=>ih e (D1 dj i e he) (by have:=D1 dj i e he;omega)⟩;rw [h] at this;cases this
theorem TA {l:Array Bool}{i:Nat}(hi:i<l.size)(h:dO l i=false):(l.setIfInBounds i true).toList.count false+1=l.toList.count false:=by
 have ap:l.toList[i]'(by simpa using hi)=false:=by
  simp only [dO] at h;simpa [hi] using h
 have xf:0<l.toList.count false:=List.count_pos_iff.2 (by rw [<- ap];exact List.getElem_mem _);rw [Array.toList_setIfInBounds,List.count,List.countP_set (by simpa using hi),ap];unfold List.count at xf;have bm:((false:Bool)==false)=true:=B;have aZ:((true:Bool)==false)=false:=B;rw [bm,aZ,U B,O (by simp)];omega
theorem aTw (dj:mZ ops bi=true){k:Nat}{cN l:Array Bool}{a b:Act}{w:World}(hs:cN.size=ops.size)(hl:l.size=ops.size)
  (hm:∀ i,i<ops.size->dO l i=(dO cN i||bi.any (λq=>gU q.1 i))) (hr:Rl (λx=>∃ p∈bi,p.2=x/\dO cN p.1=false) a b) (hx:k9 P ops bi Q cX k l b w) (ap:Region.ready .any ops cN=[]):Q .normal a w:=by
 exact Z7
theorem bZu (dj:mZ ops bi=true):∀ (pA k:Nat) (cN l:Array Bool) (a b:Act) (w:World),cN.toList.count false<=pA->cN.size=ops.size->l.size=ops.size ->
  (∀ i,i<ops.size->dO l i=(dO cN i||bi.any (λq=>gU q.1 i)))->(∀ j,dO cN j=true->∀ e∈rh ops j,dO cN e=true) ->
  Rl (λx=>∃ p∈bi,p.2=x/\dO cN p.1=false) a b->(cX w\/∀ p∈bi,dO cN p.1=true) ->
  (∀ p∈bi,dO cN p.1=false->∃ o v,ops[p.1]?=some o/\b.tmps[p.2]?=some v/\Region.wanted o (yielded ops b.tmps)=true/\∀ w',cX w'->(execOp b.eval o).run P w'=.ok (.value v) w') ->
  k9 P ops bi Q cX k l b w->wpAny P .any ops Q pA cN a w:=by
 intro pA
 induction pA with
 | zero =>
  intro k cN l a b w hf hs hl hm j1 hr lz hp hx;have ap:Region.ready .any ops cN=[]:=by
   exact aAi
  exact ⟨ap,aTw dj hs hl hm hr hx ap⟩
 | succ pA ih =>
  intro k cN l a b w hf hs hl hm j1 hr lz hp hx;refine ⟨aTw dj hs hl hm hr hx,λi hi=>?_⟩;obtain ⟨BD,yZ,BC⟩:=(Cv hs).1 hi;have hcnt:=TA (l:=cN) I yZ;obtain ⟨o,au⟩:∃ o,ops[i]?=some o:=⟨_,KP BD⟩;have rF:∀ cs bl,o.op≠.select cs bl:=λcs bl=>Region.noSelect_spec (MJ dj) i o cs bl au
  have I2:∀ t∈o.looksAt ops,¬ ∃ p∈bi,p.2=t/\dO cN p.1=false:=by
   exact aBd
  have qw:∀ j,dO (cN.setIfInBounds i true) j=(dO cN j||gU i j):=λj=>XK I
  have UW:∀ j,dO (cN.setIfInBounds i true) j=true->∀ e∈rh ops j,dO (cN.setIfInBounds i true) e=true:=by
   exact aA2
  unfold wpOp;simp only [au];by_cases zd:bi.any (λq=>gU q.1 i)=true
  . obtain ⟨p,km,rH⟩:=DJ.1 zd
    exact aBo
  . have N4:bi.any (λq=>gU q.1 i)=false:=by
      cases a1:bi.any (λq=>gU q.1 i) with
      | true=>exact absurd a1 zd
      | false=>rfl
    cases k with
    | zero=>exact hx.elim
    | succ k =>
    have hS:i∈Region.ready .any ops l:=(Cv hl).2 ⟨BD,by rw [hm i BD,yZ,N4];rfl,λe he=>by
     rw [hm e (by have:=D1 dj i e he;omega),BC e he];rfl⟩
    obtain ⟨gu,tS,n5⟩:=hx.2 i hS;obtain rfl:o=gu:=by rw [au] at tS;exact mb tS
    have key:=cEk (Q:=Q) (bad':=λx=>∃ p∈bi,p.2=x/\dO (cN.setIfInBounds i true) p.1=false) (K':=wpAny P .any ops Q pA (cN.setIfInBounds i true)) rF hr I2 (λx hx=>.inr λsp=>by
      obtain ⟨p,km,ff,EQ⟩:=sp;refine hx ⟨p,km,ff,?_⟩;rw [qw,EQ];cases hb:gU i p.1
      ·rfl
      . exfalso
        refine zd (DJ.2 ⟨p,km,?_⟩);rw [Nat.eq_of_beq_eq_true hb,Nat.beq_refl]) ?_ n5
    . split
      ·rename_i hw;rw [U hw] at key;exact .inl key
      ·rename_i hw;rw [O hw] at key;exact key
    . rintro eb q8 w' lY ⟨u,df,rfl⟩ ⟨aM5,hx2⟩
      exact aA9
def zr (ops:Array Oper)(bi:List (Nat×Nat))(m:Array Bool):Bool :=
 gU m.size ops.size&&(List.range ops.size).all λi=>dO m i==bi.any (λq=>gU q.1 i)
end
section
variable {P:Program} {Q:Exit->Act->World->Prop} {cX:World->Prop} {w w0:World} {L:List (Nat×Obj)} {R:List Row} {n:Nat} {f:Nat->Value}
theorem Zj {id:Nat}{l:List Oper}(G:Cxr w0 w L R)(hm:P.follows .mixedOrders=true)(bi:List (Nat×Nat))(m:Array Bool)(cX:World->Prop)(g:Nat->Value)
  (dj:mZ l.toArray bi=true) (mr:zr l.toArray bi m=true) (hn:∀ p∈bi,p.2<n) (pE:∀ x,(∀ p∈bi,p.2≠x)->f x=g x)
  (aRh:∀ p∈bi,∃ o,l[p.1]?=some o/\Region.wanted o (yielded l.toArray (aC n g).tmps)=true)
  (hp:∀ w',cX w'->∀ p∈bi,∃ o,l[p.1]?=some o/\(execOp (aW n g) o).run P w'=.ok (.value (g p.2)) w')
  (h:∀ w',Cxr w0 w' L R->Below w.heap.size w w'->w'.heap=w.heap->cX w'/\k9 P l.toArray bi Q cX (l.length+1) m (aC n g) w'):(Code.region id l.toArray true).wp P Q (aC n f) w:=by
 refine wp_region_any hm ?_;obtain ⟨lz,rn⟩:=h w.drew G.draw ⟨rfl,rfl,rfl,bV _,λ_ _=>rfl⟩ rfl;unfold zr at mr;simp only [fS,Nat.beq_eq,p7,List.mem_range,beq_iff_eq] at mr;have ec:(CV l.toArray.size false).size=l.toArray.size:=by simp
 have hf:∀ j,dO (CV l.toArray.size false) j=false:=by
  intro j;unfold dO;by_cases ax:j<l.length <;> simp [ax]
 refine bZu dj _ _ _ m (aC n f) (aC n g) w.drew ?_ ec mr.1 (λi hi=>by rw [hf,mr.2 i hi];simp) (λj ax=>by rw [hf] at ax;cases ax) ⟨B,by simp [aC],λx hx=>?_⟩ (.inl lz) ?_ rn
 . have:=List.count_le_length (a:=false) (l:=(CV l.toArray.size false).toList)
   simp at this ⊢
 . simp only [aC,Array.getElem?_ofFn]
   split
   ·rw [pE x λp hp e=>hx ⟨p,hp,e,hf _⟩]
   ·rfl
 . intro p km _
   exact aAa
variable {ops:Array Oper} {l:Array Bool} {k:Nat} {a:Act} {bi:List (Nat×Nat)}
theorem cHu (hr:Region.ready .any ops l=[])(h:Q .normal a w):k9 P ops bi Q cX (k+1) l a w:=by
 refine ⟨λ_=>h,?_⟩;rw [hr];intro i hi;cases hi
theorem kA {i:Nat}{o:Oper}(hr:Region.ready .any ops l=[i])(au:ops[i]?=some o)(h:wpList P ops (Fin0 λeb w'=>(cX w'\/rM ops bi i=true)/\k9 P ops bi Q cX k (l.setIfInBounds i true) eb w') [o] a w):k9 P ops bi Q cX (k+1) l a w:=by
 exact aBm
theorem fR {i j:Nat}{o u:Oper}(hr:Region.ready .any ops l=[i,j])(au:ops[i]?=some o)(aP:ops[j]?=some u)(h:wpList P ops (Fin0 λeb w'=>(cX w'\/rM ops bi i=true)/\k9 P ops bi Q cX k (l.setIfInBounds i true) eb w') [o] a w)
  (aU:wpList P ops (Fin0 λeb w'=>(cX w'\/rM ops bi j=true)/\k9 P ops bi Q cX k (l.setIfInBounds j true) eb w') [u] a w):k9 P ops bi Q cX (k+1) l a w:=by
 refine ⟨λap=>?_,?_⟩
 ·rw [hr] at ap;cases ap
 . rw [hr]
   intro x hx;have n5:x=i\/x=j:=by simpa using hx
   rcases n5 with rfl | rfl
   ·exact ⟨o,au,h⟩
   ·exact ⟨u,aP,aU⟩
theorem bx {o:Oper}{t:Array Value}(aH:o.guard=none):Region.wanted o (yielded ops t)=true:=by simp [Region.wanted,aH]
theorem hK {eu:Act->World->Prop}(h:eu a w):wpList P ops (Fin0 eu) [] a w:=h
def xU (P:Program)(ops:Array Oper)(n:Nat)(cX:World->Prop)(F:(Nat->Value)->Prop):List (Nat×Nat)->(Nat->Value)->Prop
 | [],f=>F f
 | (i,d)::r,f=>∃ o v,ops[i]?=some o/\Region.wanted o (yielded ops (aC n f).tmps)=true/\(∀ w',cX w'->(execOp (aW n f) o).run P w'=.ok (.value v) w')/\xU P ops n cX F r (eh f d v)
def Cb:List (Nat×Nat)->Bool
 | []=>true
 | p::r=>r.all (λq=>qb p.1 q.1)&&Cb r
theorem aW0 {f:Nat->Value}{d x:Nat}{v:Value}(h:x≠d):eh f d v x=f x:=by rw [YW,O h]
theorem cF8 {f:Nat->Value}{d:Nat}{v:Value}:eh f d v d=v:=by rw [YW,U rfl]
theorem Qi {bi:List (Nat×Nat)}{F:(Nat->Value)->Prop}(dj:mZ ops bi=true):∀ (r:List (Nat×Nat)) (f:Nat->Value),(∀ p∈r,p∈bi)->Cb r=true->xU P ops n cX F r f ->
  ∃ g,F g/\(∀ x,(∀ p∈r,p.2≠x)->f x=g x)/\∀ p∈r,∃ o,ops[p.1]?=some o/\Region.wanted o (yielded ops (aC n g).tmps)=true/\∀ w',cX w'->(execOp (aW n g) o).run P w'=.ok (.value (g p.2)) w':=by
 intro r
 induction r with
 | nil=>intro f _ _ h;exact ⟨f,h,λ_ _=>rfl,λp hp=>by cases hp⟩
 | cons p r ih =>
  intro f E2 NJ h;obtain ⟨i,d⟩:=p;obtain ⟨o,v,au,hw,hv,hr⟩:=h;simp only [Cb,fS,p7] at NJ;obtain ⟨g,rm,pE,hall⟩:=ih _ (λq aw=>E2 q (bP _ aw)) NJ.2 hr;obtain ⟨vB,gM,_,lD,sy⟩:=wK dj (i,d) (E2 _ (b9 ..));obtain rfl:o=vB:=by rw [au] at gM;exact mb gM
  have iC:∀ q∈(i,d)::r,q.2∉o.looksAt ops:=by
   intro q aw hm;obtain ⟨_,_,_,_,lH⟩:=wK dj q (E2 q aw);have a6:=(lH i o au).2 hm;have b8:∀ k a b,sI ops k a b=true->a<b:=by
    intro k
    induction k with
    | zero=>intro a b h;simp [sI] at h
    | succ k Xo =>
     intro a b h;simp only [sI,DJ,hW,beq_iff_eq] at h;obtain ⟨e,he,rfl | h⟩:=h
     ·exact D1 dj b e he
     ·exact Nat.lt_trans (Xo a e h) (D1 dj b e he)
   have h1:=b8 _ _ _ a6;rcases eX.1 aw with rfl | aw
   ·simp at h1
   . have:=NJ.1 q aw
     simp at this;omega
  have qm:∀ q∈r,q.2≠d:=by
   intro q aw e;obtain ⟨cSj,cO2,_,cMk,bTi⟩:=wK dj q (E2 q (bP _ aw));rcases (bTi i o au).1 d lD with h1 | ⟨h1,_⟩
   . have:=NJ.1 q aw
     simp at this;omega
   ·exact h1 e.symm
  have bPo:∀ t∈o.looksAt ops,f t=g t:=by
   intro t ht;have h1:t≠d:=λe=>iC (i,d) (b9 ..) (by subst e;exact ht)
   rw [<- pE t λq aw e=>iC q (bP _ aw) (by subst e;exact ht),aW0 h1]
  have Jo:Rl (λx=>x∉o.looksAt ops) (aC n f) (aC n g):=⟨B,by simp [aC],λx hx=>by
   simp only [aC,Array.getElem?_ofFn];split
   ·rw [bPo x (nB.1 hx)]
   ·rfl⟩
  have tP:=J0 (ops:=ops) Jo (λt ht=>λh=>h ht);refine ⟨g,rm,λx hx=>?_,λq aw=>?_⟩
  ·rw [<- pE x λq aw=>hx q (bP _ aw),aW0 λe=>hx (i,d) (b9 ..) e.symm]
  . rcases eX.1 aw with rfl | aw
    . refine ⟨o,au,tP.2.symm.trans hw,λw' lz=>?_⟩
      have e:execOp (aW n g) o=execOp (aW n f) o:=by
       rw [<- eS,<- eS];exact (execOp_congr o (λcs bl=>Region.noSelect_spec (MJ dj) i o cs bl au) tP.1).symm
      have aZ:g d=v:=by rw [<- pE d qm,cF8]
      rw [e,aZ];exact hv w' lz
    ·exact hall q aw
theorem ei {id:Nat}{l:List Oper}{qa:List (Nat×Obj)}(G:Cxr w0 w L R)(HL:Cxr w0 w qa [])(hm:P.follows .mixedOrders=true)(bi:List (Nat×Nat))(m:Array Bool)
  (dj:mZ l.toArray bi=true) (mr:zr l.toArray bi m=true) (hn:bi.all (λp=>qb p.2 n)=true) (hi:Cb bi=true)
  (h:xU P l.toArray n (λw'=>Cxr w0 w' qa []) (λg=>∀ w',Cxr w0 w' L R->Below w.heap.size w w'->k9 P l.toArray bi Q (λw'=>Cxr w0 w' qa []) (l.length+1) m (aC n g) w') bi f):(Code.region id l.toArray true).wp P Q (aC n f) w:=by
 obtain ⟨g,rm,pE,hall⟩:=Qi dj bi f (λ_ h=>h) hi h;refine Zj G hm bi m (λw'=>Cxr w0 w' qa []) g dj mr (λp hp=>by have:=p7.1 hn p hp;simpa using this) pE (λp hp=>?_) (λw' lz p hp=>?_) λw' hc hb he=>⟨HL.call hb,rm w' hc hb⟩
 ·obtain ⟨o,h1,h2,_⟩:=hall p hp;exact ⟨o,by simpa using h1,h2⟩
 ·obtain ⟨o,h1,_,h2⟩:=hall p hp;exact ⟨o,by simpa using h1,h2 w' lz⟩
theorem bw {F:(Nat->Value)->Prop}{i d:Nat}{r:List (Nat×Nat)}{o:Oper}{v:Value}(au:ops[i]?=some o)(hw:Region.wanted o (yielded ops (aC n f).tmps)=true)
  (hv:∀ w',cX w'->(execOp (aW n f) o).run P w'=.ok (.value v) w') (h:xU P ops n cX F r (eh f d v)):xU P ops n cX F ((i,d)::r) f:=⟨o,v,au,hw,hv,h⟩
theorem cBc {F:(Nat->Value)->Prop}(h:F f):xU P ops n cX F [] f:=h
theorem Cxr.noR (h:Cxr w0 w L R):Cxr w0 w L []:=⟨h.ext,h.own,h.lo,h.nd,by simp,by simp,by simp⟩
theorem Cxr.pick1 (h:Cxr w0 w L R)(i:Nat){p:Nat×Obj}(hi:L[i]?=some p):Cxr w0 w [p] [] :=
 ⟨h.ext,λq aw=>by
  obtain rfl:q=p:=by simpa using aw
  exact h.own q (cb hi),λq aw=>by
  obtain rfl:q=p:=by simpa using aw
  exact h.lo q (cb hi),by simp,by simp,by simp,by simp⟩
theorem Cxr.pick2 (h:Cxr w0 w L R)(i j:Nat){p q:Nat×Obj}(hi:L[i]?=some p)(ax:L[j]?=some q)(rA:gU i j=false):Cxr w0 w [p,q] []:=by
 refine ⟨h.ext,λx hx=>?_,λx hx=>?_,?_,by simp,by simp,by simp⟩
 . simp at hx
   rcases hx with rfl | rfl
   ·exact h.own _ (cb hi)
   ·exact h.own _ (cb ax)
 . simp at hx
   rcases hx with rfl | rfl
   ·exact h.lo _ (cb hi)
   ·exact h.lo _ (cb ax)
 . simp only [jk,List.map_nil,ym,eX,mT,or_false,not_false_eq_true,List.nodup_nil,and_true]
   intro e;exact aAh
theorem Cxr.pick3 (h:Cxr w0 w L R)(i j k:Nat){p q r:Nat×Obj}(hi:L[i]?=some p)(ax:L[j]?=some q)(hk:L[k]?=some r)(hd:(!gU i j&&!gU i k&&!gU j k)=true):Cxr w0 w [p,q,r] []:=by
 have key:∀ (i j:Nat) (p q:Nat×Obj),L[i]?=some p->L[j]?=some q->gU i j=false->p.1≠q.1:=by
  intro i j p q hi ax rA e;exact aAh
 simp only [fS,kP] at hd;refine ⟨h.ext,λx hx=>?_,λx hx=>?_,?_,by simp,by simp,by simp⟩
 . simp at hx
   rcases hx with rfl | rfl | rfl
   ·exact h.own _ (cb hi)
   ·exact h.own _ (cb ax)
   ·exact h.own _ (cb hk)
 . simp at hx
   rcases hx with rfl | rfl | rfl
   ·exact h.lo _ (cb hi)
   ·exact h.lo _ (cb ax)
   ·exact h.lo _ (cb hk)
 . have h1:=key i j p q hi ax hd.1.1
   have h2:=key i k p r hi hk hd.1.2;have Y:=key j k q r ax hk hd.2;simp [h1,h2,Y]
end
end Go.Dk
end
section
namespace Go.Dk
open Go Go.RowKit
theorem io {P:Program}{n:Nat}{f:Nat->Value}{w:World}{fn:Func}{R:Value->World->Prop}{t u T ty b:Nat}{l:List Value}{x:Value}{fr:Nat×Nat}{d:TypeDesc}(hr:fn.results=#[.cell t ty,.tmp u])(hv:aW n f (.tmp t)=.pointer (some ⟨b,0,none⟩))(hx:aW n f (.tmp u)=x)(hb:w.heap[b]?=some (.cells l.toArray T fr))
  (aP:P.underlying ty=some d) (Eu:(match d with | .struct _ | .array _ _=>true | _=>false)=true) (hs:(P.info? ty).map (·.size)=some l.length) (h:R (.tuple #[.agg l.toArray,x]) w):bodyPost P fn (λe w'=>∃ v,e=.returned v/\R v w') .ret (aC n f) w:=by
 refine ⟨B,.tuple #[.agg l.toArray,x],?_,_,B,h⟩;have h1:(aC n f).tmps.getD t undef=.pointer (some ⟨b,0,none⟩):=by rw [<- hv,<- eS];rfl
 have h2:(aC n f).tmps.getD u undef=x:=by rw [<- hx,<- eS];rfl
 rw [results_cell_tmp hr];rw [h1,h2];simp [asAddr,run_loadVar_row w b T ty l.toArray fr d hb aP Eu ug,Result.andThen]
def tt:ByteArray->Value:=λ_=>.bool true
theorem cF7 (k:ByteArray):pa tt k (.bool true)=tt:=by funext x;unfold pa tt;split <;> rfl
section
variable {P:Program} {ops:Array Oper} {Q:Exit->Act->World->Prop} {bh:List Oper} {o:Oper} {n:Nat} {f:Nat->Value} {w w0:World} {L:List (Nat×Obj)} {R:List Row} {ρ:Operand->Value}
theorem Y7 {t kL qg:TypeId}{x y:Operand}{b m:Nat}{k:ByteArray}{ks:List ByteArray}(au:o.op=.lookup t x y false)(hx:ρ x=.map (some b))(hy:ρ y=.string k)(ht:P.underlying t=some (.map kL qg))(hk:P.underlying kL=some .string)
  (hz:(zeroValue qg).run P w=.ok (.bool false) w) (hb:w.heap[b]?=some (.map (ents ks tt 0).toArray m)):(execOp ρ o).run P w=.ok (.value (.bool (jo ks k))) w:=by
 have:=cGx au hx hy ht hk hz hb;rw [this];cases jo ks k <;> rfl
theorem YB {t kL qg:TypeId}{x y z:Operand}{b:Nat}{k:ByteArray}{ks:List ByteArray}(G:Cxr w0 w L R)(i:Nat)(aH:o.guard=none)(hd:o.dst=none)(au:o.op=.mapUpdate t x y z)(hx:aW n f x=.map (some b))(hy:aW n f y=.string k)(hz:aW n f z=.bool true)
  (ht:P.underlying t=some (.map kL qg)) (hk:P.underlying kL=some .string) (hn:ks.Nodup) (hi:L[i]?=some (b,.map (ents ks tt 0).toArray ks.length)) (sv:jo ks k=false)
  (h:∀ w',Cxr w0 w' (L.set i (b,.map (ents (ks++[k]) tt 0).toArray (ks++[k]).length)) R->w.grownBy w' (some b)->wpList P ops Q bh (aC n f) w'):wpList P ops Q (o::bh) (aC n f) w:=by
 have e:ys ks k=ks++[k]:=by unfold ys;rw [O (by rw [sv];exact qR)]
 refine cDi G i aH hd au hx hy hz ht hk hn hi λw' pv fx=>h w' ?_ fx
 rw [e,cF7] at pv;exact pv
end
theorem aNc {ks:List ByteArray}{k:ByteArray}(h:jo ks k=false):k∉ks:=λhm=>by rw [Nn.2 hm] at h;cases h
section
variable {P:Program} {ops:Array Oper} {bi:List (Nat×Nat)} {Q:Exit->Act->World->Prop} {cX:World->Prop} {w:World} {l:Array Bool} {k:Nat} {a:Act}
theorem Ga {i j m:Nat}{o u t:Oper}(hr:Region.ready .any ops l=[i,j,m])(au:ops[i]?=some o)(aP:ops[j]?=some u)(ht:ops[m]?=some t)(h:wpList P ops (Fin0 λeb w'=>(cX w'\/rM ops bi i=true)/\k9 P ops bi Q cX k (l.setIfInBounds i true) eb w') [o] a w)
  (aU:wpList P ops (Fin0 λeb w'=>(cX w'\/rM ops bi j=true)/\k9 P ops bi Q cX k (l.setIfInBounds j true) eb w') [u] a w) (Uv:wpList P ops (Fin0 λeb w'=>(cX w'\/rM ops bi m=true)/\k9 P ops bi Q cX k (l.setIfInBounds m true) eb w') [t] a w):k9 P ops bi Q cX (k+1) l a w:=by
 refine ⟨λap=>?_,?_⟩
 ·rw [hr] at ap;cases ap
 . rw [hr]
   intro x hx;have n5:x=i\/x=j\/x=m:=by simpa using hx
   rcases n5 with rfl | rfl | rfl
   ·exact ⟨o,au,h⟩
   ·exact ⟨u,aP,aU⟩
   ·exact ⟨t,ht,Uv⟩
end
end Go.Dk
end
section
namespace Go.Dk
open Go Go.RowKit
section
variable {P:Program} {ops:Array Oper} {Q:Exit->Act->World->Prop} {bh:List Oper} {o:Oper} {n:Nat} {f:Nat->Value} {w w0:World} {L:List (Nat×Obj)} {R:List Row} {ρ:Operand->Value}
theorem uq {x:Operand}{a:Addr}(au:o.op=.nilCheck x)(hx:ρ x=.pointer (some a)):(execOp ρ o).run P w=.ok (.value (.pointer (some a))) w:=by
 unfold execOp;rw [au];simp [hx]
theorem j8 {fn:Func}{R:Value->World->Prop}{t T ty b:Nat}{l:List Value}{fr:Nat×Nat}{d:TypeDesc}(hr:fn.results=#[.cell t ty])(hv:aW n f (.tmp t)=.pointer (some ⟨b,0,none⟩))(hb:w.heap[b]?=some (.cells l.toArray T fr))
  (aP:P.underlying ty=some d) (Eu:(match d with | .struct _ | .array _ _=>true | _=>false)=true) (hs:(P.info? ty).map (·.size)=some l.length) (h:R (.agg l.toArray) w):bodyPost P fn (λe w'=>∃ v,e=.returned v/\R v w') .ret (aC n f) w:=by
 refine ⟨B,.agg l.toArray,?_,_,B,h⟩;exact aA7
theorem mH {fn:Func}{T:Value->World->Prop}{e:Exit}(he:e=.ret\/e=.normal)(hr:fn.results=#[])(h:T (.tuple #[]) w):bodyPost P fn (λe w'=>∃ v,e=.returned v/\T v w') e (aC n f) w:=by
 rcases he with rfl | rfl <;> exact ⟨rfl,_,results_none hr _ _ _,_,rfl,h⟩
end
end Go.Dk
end
section
namespace Go.Dk
open Go Go.RowKit Go.Lib
theorem aVp (P:Program)(g o:Nat)(t:TypeId)(c7:Nat×Nat):∀ (vs:List Value) (i:Nat) (cg:Array Value) (w:World),w.heap[g]?=some (.cells cg t c7)->(o+i+vs.length<=c7.1\/c7.2=0)->o+i+vs.length<=cg.size->(∀ v∈vs,v.oneCell'=true) ->
  (storeCells ⟨g,o,none⟩ vs i).run P w=.ok () (w.setRow g (cg.toList.take (o+i)++vs++cg.toList.drop (o+i+vs.length)).toArray)
 | [],i,cg,w,aH,_,_,_=>by
  simp only [storeCells,cH,dC,gb,List.take_append_drop,Array.toArray_toList];rw [setRow_self w g cg t c7 aH]
  rfl
 | v::bh,i,cg,w,aH,yX,hl,h1=>by
  have hi:o+i<cg.size:=by simp at hl;omega
  have bNm:(⟨g,o,none⟩:Addr).add i=⟨g,o+i,none⟩:=q7 ..;have NC:w.cell? ⟨g,o+i,none⟩=some cg[o+i]:=by simp [World.cell?,aH,hi]
  have bPq:w.frozen? ⟨g,o+i,none⟩=false:=by
   obtain ⟨lo,dK⟩:=c7;simp only [World.frozen?,aH,Bool.and_eq_false_iff,decide_eq_false_iff_not];simp only [cf] at yX;omega
  have ck:(store ((⟨g,o,none⟩:Addr).add i) v).run P w=.ok () (w.setRow g (cg.setIfInBounds (o+i) v)):=by
   rw [bNm,run_store P w _ v _ (h1 v (by simp)),NC];simp [bPq,setCell_eq_setRow w g (o+i) cg t c7 v aH]
  have ih:=aVp P g o t c7 bh (i+1) (cg.setIfInBounds (o+i) v) (w.setRow g (cg.setIfInBounds (o+i) v)) (setRow_heap w g cg _ t _ aH) (by simp only [cf] at yX;omega) (by simp at hl ⊢;omega) (λx hx=>h1 x (by simp [hx]));simp only [storeCells,Sem.run_bind,ck,Result.andThen_ok,ih,setRow_setRow]
  congr 3
  have e:=list_seg_step cg.toList (o+i) v bh (by simp at hl ⊢;omega);simpa [Array.toList_setIfInBounds,mU] using e
def Outs (cg:Array Value)(c7:Nat×Nat)(n cap:Nat)(l:List UInt8):Prop:=cg.size=cap/\n=l.length/\n<=cap/\cap<=maxLen/\cg.toList.take n=l.map bv/\(cap<=c7.1\/c7.2=0)
theorem Outs.row {w0 w:World}{L:List (Nat×Obj)}{R:List Row}{g n cap:Nat}{cg:Array Value}{c7:Nat×Nat}{l:List UInt8}(G:Cxr w0 w ((g,.cells cg 5 c7)::L) R)(h:Outs cg c7 n cap l):RowAt w g 0 (l.map bv):=by
 intro j x ax;obtain ⟨_,h2,_,_,bd,_⟩:=h;rw [cell_of_row w g (0+j) cg 5 c7 (G.at 0 B)];rw [<- bd,te] at ax;split at ax
 ·rw [gV];simpa using ax
 ·cases ax
theorem Cxr.addOwn {w0 w:World}{L:List (Nat×Obj)}{R:List Row}{b:Nat}{o:Obj}(h:Cxr w0 w L R)(hb:w.heap[b]?=some o)(hP:∀ p∈L,p.1≠b)(ap:w0.heap.size<=b)(pD:∀ r∈R,∀ q,r.v.ownBlock=some q->q≠b):Cxr w0 w ((b,o)::L) R:=by
 refine ⟨h.ext,?_,?_,?_,h.rows,?_,h.pw⟩
 . intro p hp
   rcases eX.1 hp with rfl | hp
   ·exact hb
   ·exact h.own p hp
 . intro p hp
   rcases eX.1 hp with rfl | hp
   ·exact ap
   ·exact h.lo p hp
 . rw [jk,ym]
   refine ⟨λhm=>?_,h.nd⟩;obtain ⟨p,hp,e⟩:=lm.1 hm;exact hP p hp e
 . intro r hr k hk hm
   rw [jk,eX] at hm;rcases hm with e | hm
   ·exact pD r hr k hk e
   ·exact h.off r hr k hk hm
section
variable {P:Program} {ops:Array Oper} {Q:Exit->Act->World->Prop} {bh:List Oper} {o:Oper} {n:Nat} {f:Nat->Value} {w w0:World} {L:List (Nat×Obj)} {R:List Row}
theorem cDp {d:Nat}{s t:TypeId}{x:Operand}{u:TypeDesc}{l:List UInt8}(G:Cxr w0 w L R)(hl:l.length<=140737488355328)(hs:P.underlying s=some u)(ht:P.underlying t=some (.slice 5))(he:P.underlying 5=some (.int .u8))
  (aH:o.guard=none) (hd:o.dst=some d) (au:o.op=.convert s t x) (hx:aW n f x=.string (bs l))
  (h:∀ g cg c7 cap w',Cxr w0 w' ((g,.cells cg 5 c7)::L) R->Outs cg c7 l.length cap l->wpList P ops Q bh (aC n (eh f d (.slice (some ⟨g,0,none⟩) l.length cap))) w'):wpList P ops Q (o::bh) (aC n f) w:=by
 have hE:=Lib.run_convert_string_bytes (P:=P) w s t 5 (bs l) hs ht he;rw [gI] at hE;have Vj:=grownCap_ge w l.length 0 5;have Bv:grownCap w l.length 0 5<=maxLen:=grownCap_le_maxLen w l.length 0 5 FH;have ec:(Lib.bytesCells w 5 (bs l)).size=grownCap w l.length 0 5:=by
  unfold Lib.bytesCells;simp only [Array.size_append,Array.size_map,Array.size_replicate,gI];have:(bs l).data.size=l.length:=by simp [bs]
  omega
 refine od (w':=Lib.bytesWorld w 5 (bs l)) (v:=.slice (some ⟨w.heap.size,0,none⟩) l.length (grownCap w l.length 0 5)) aH hd ?_ (h w.heap.size (Lib.bytesCells w 5 (bs l)) ((Lib.bytesCells w 5 (bs l)).size,(Lib.bytesCells w 5 (bs l)).size+1) _ _ ?_ ⟨ec,B,Vj,Bv,?_,.inl ?_⟩)
 ·unfold execOp;rw [au];simp [hx,hE]
 . have hb:Below w.heap.size w (Lib.bytesWorld w 5 (bs l)):=⟨B,B,B,by rw [Lib.bytesWorld_size];omega,λj ax=>Lib.bytesWorld_at_old w 5 (bs l) j ax⟩
   exact (G.call hb).addOwn (Lib.bytesWorld_at_new w 5 (bs l)) (λp hp=>by have:=G.lt p hp;omega) G.ext.size (λr hr q aw=>by have:=((G.rows r hr).lt q aw).2;omega)
 . unfold Lib.bytesCells
   rw [Array.toList_append];have e:(Array.map (λb:UInt8=>Value.int .u8 b.toNat) (bs l).data).toList=l.map bv:=by simp [bs,bv]
   rw [e];have:(l.map bv).length=l.length:=by simp
   rw [<- this,List.take_left]
 . show grownCap w l.length 0 5<=(Lib.bytesCells w 5 (bs l)).size
   rw [ec];exact bV _
theorem cC6 {d:Nat}{t u:TypeId}{x y:Operand}{g m cap:Nat}{cg:Array Value}{c7:Nat×Nat}{l a:List UInt8}(G:Cxr w0 w ((g,.cells cg 5 c7)::L) R)(bRv:Outs cg c7 m cap l)(nb:CY P 5)(hl:m+a.length<=140737488355328)(ht:P.underlying t=some (.slice 5))(aP:P.underlying u=some .string)
  (aH:o.guard=none) (hd:o.dst=some d) (au:o.op=.call { callee:=.builtin .append,args:=#[x,y],argTypes:=#[t,u]}) (hs:aW n f x=.slice (some ⟨g,0,none⟩) m cap) (hx:aW n f y=.string (bs a))
  (h:∀ g cg c7 cap w',Cxr w0 w' ((g,.cells cg 5 c7)::L) R->Outs cg c7 (m+a.length) cap (l++a)->wpList P ops Q bh (aC n (eh f d (.slice (some ⟨g,0,none⟩) (m+a.length) cap))) w'):wpList P ops Q (o::bh) (aC n f) w:=by
 obtain ⟨i,hi,hz,ec,wU⟩:=nb;obtain ⟨h1,h2,Y,ar,bd,h6⟩:=bRv;have aOj:=G.at 0 B;have E1:(bs a).size=a.length:=gI a;have BY:(strCells (bs a)).length=a.length:=by rw [Ty];simp
 by_cases xl:m+a.length<=cap
 . have hf:=run_firstCells_string (P:=P) w 1 (bs a)
   rw [E1] at hf;have ck:=aVp P g m 5 c7 (strCells (bs a)) 0 cg w aOj (by rw [BY];omega) (by rw [BY];omega) (strCells_oneCell (bs a));simp only [gb,BY] at ck;have hE:(Builtin.append_ #[t,u] o.type #[.slice (some ⟨g,0,none⟩) m cap,.string (bs a)]).run P w=.ok (.slice (some ⟨g,0,none⟩) (m+a.length) cap) (w.setRow g (cg.toList.take m++strCells (bs a)++cg.toList.drop (m+a.length)).toArray):=by
    simp [Builtin.append_,run_underlying ht,run_underlying aP,sizeOf,typeInfo,hi,ec,Builtin.lenOf,E1,xl,hf,Addr.add_lit,ck]
   refine od (w':=w.setRow g (cg.toList.take m++strCells (bs a)++cg.toList.drop (m+a.length)).toArray) (v:=.slice (some ⟨g,0,none⟩) (m+a.length) cap) aH hd ?_ (h g _ c7 cap _ (G.turn 0 B B B B (by simp) (setRow_heap w g cg _ 5 c7 aOj) λq _ bt=>setRow_other w g q _ bt) ⟨?_,?_,xl,ar,?_,h6⟩)
   . unfold execOp;rw [au]
     exact Qv
   ·simp only [Hj,aQ,dS,bC,KQ,BY];omega
   ·rw [h2,aQ]
   . have e:m+a.length=(cg.toList.take m++strCells (bs a)).length:=by
       have j1:cg.toList.length=cap:=h1;rw [aQ,dS,BY,j1];omega
     show ((cg.toList.take m++strCells (bs a))++cg.toList.drop (m+a.length)).take (m+a.length)=_
     conv=>lhs;arg 1;rw [e]
     rw [List.take_left,bd,Ty,kc]
 . have holds:∀ j u,(l.map bv)[j]?=some u->w.cell? ((⟨g,0,none⟩:Addr).add j)=some u:=λj u ax=>by
     rw [q7];exact Outs.row G ⟨h1,h2,Y,ar,bd,h6⟩ j u ax
   have hr:=run_append_grow_string (P:=P) w t u o.type 5 i (.int .u8 0) ht aP hi hz ⟨g,0,none⟩ m cap (l.map bv) (by rw [ec,fT,h2];omega) holds (bs a) (by rw [E1];omega) (by rw [E1];omega) (by rw [wU,E1];exact growslice_fits I I);rw [E1] at hr;have Vj:=grownCap_ge w (m+a.length) cap 5;have bOv:grownCap w (m+a.length) cap 5<=maxLen:=grownCap_le_maxLen w (m+a.length) cap 5 FH;have jM:=(G.drop 1).draw.alloc (.cells ((l.map bv).toArray++(strCells (bs a)).toArray++Builtin.zeroCells (Value.int IntKind.u8 0).cells (grownCap w (m+a.length) cap 5-(m+a.length))) 5);refine od (w':=w.drew.alloc _) (v:=.slice (some ⟨w.heap.size,0,none⟩) (m+a.length) (grownCap w (m+a.length) cap 5)) aH hd ?_ (h w.heap.size _ (0,0) _ _ jM ⟨?_,?_,Vj,bOv,?_,.inr B⟩)
   . unfold execOp;rw [au]
     simp [resolve,invoke,builtin,hs,hx,hr,Result.andThen]
   . have oZ:(Value.int IntKind.u8 0).cells.size=1:=B
     simp only [Array.size_append,Hj,size_zeroCells,oZ,fT,BY];omega
   ·rw [h2,aQ]
   . have e:m+a.length=((l.map bv)++strCells (bs a)).length:=by rw [aQ,fT,BY,h2]
     simp only [Array.toList_append]
     conv=>lhs;arg 1;rw [e]
     rw [List.take_left,Ty,kc]
end
end Go.Dk
end
section
namespace Go.Dk
open Go Go.RowKit Go.Lib
theorem tq {a b:List UInt8}(h:bs a=bs b):a=b:=by
 have:=aD (λs:ByteArray=>s.data.toList) h;simpa [bs] using this
theorem aIh {a b:List UInt8}:bs a=bs b↔a=b:=⟨tq,aD bs⟩
theorem S4 (l:List UInt8)(m n:Nat):(bs l).extract m n=bs ((l.take n).drop m):=by
 unfold bs;have e:∀ a:Array UInt8,(ByteArray.mk a).extract m n=⟨a.extract m n⟩:=λa=>by
  apply ByteArray.ext;simp
 rw [e]
 congr 1
 apply Array.toList_inj.1;simp [yk]
theorem tp (l:List UInt8):(bs l).data.toList=l:=rfl
theorem bBg (l:List UInt8)(m:Int):fu (bs l) m=((l.getD m.toNat 0).toNat:Int):=rfl
section
variable {P:Program} {ops:Array Oper} {Q:Exit->Act->World->Prop} {bh:List Oper} {o:Oper} {n:Nat} {f:Nat->Value} {w w0:World} {L:List (Nat×Obj)} {R:List Row} {ρ:Operand->Value}
theorem Y5 {t:TypeId}{x z:Operand}{s:List UInt8}{k:IntKind}{l:Int}(au:o.op=.slice t x none (some z) none)(hx:ρ x=.string (bs s))(hz:ρ z=.int k l)(aP:P.underlying t=some .string)(h1:0<=l)(h2:l<=s.length) :
  (execOp ρ o).run P w=.ok (.value (.string (bs (s.take l.toNat)))) w:=by
 unfold execOp;rw [au];have Y:l<=(bs s).size:=by rw [gI];exact h2
 have e:=S4 s 0 l.toNat;rw [mS] at e;rw [<- e];simp [hx,hz,Instr.sliceAt,Instr.slice,Instr.sliceBounds,Instr.sliceBound,asIntOf,run_underlying aP,h1,Y]
theorem aXc {t:TypeId}{x y:Operand}{s:List UInt8}{k:IntKind}{m:Int}(au:o.op=.slice t x (some y) none none)(hx:ρ x=.string (bs s))(hy:ρ y=.int k m)(aP:P.underlying t=some .string)(h1:0<=m)(h2:m<=s.length) :
  (execOp ρ o).run P w=.ok (.value (.string (bs (s.drop m.toNat)))) w:=by
 unfold execOp;rw [au];have Y:m<=(bs s).size:=by rw [gI];exact h2
 have ar:(0:Int)<=(bs s).size:=I;have e:=S4 s m.toNat (bs s).size;rw [show s.take (bs s).size=s by rw [gI,nG]] at e;rw [<- e];simp [hx,hy,Instr.sliceAt,Instr.slice,Instr.sliceBounds,Instr.sliceBound,asIntOf,run_underlying aP,h1,Y,ar]
theorem cGs {t:TypeId}{x y z:Operand}{s:List UInt8}{k j6:IntKind}{m l:Int}(au:o.op=.slice t x (some y) (some z) none)(hx:ρ x=.string (bs s))(hy:ρ y=.int k m)(hz:ρ z=.int j6 l)(aP:P.underlying t=some .string)(ap:0<=m)(h1:m<=l)(h2:l<=s.length) :
  (execOp ρ o).run P w=.ok (.value (.string (bs ((s.take l.toNat).drop m.toNat)))) w:=by
 rw [<- S4];exact aXj au hx hy hz aP ap h1 (by rw [gI];exact h2)
theorem vY {t:TypeId}{x y:Operand}{s:List UInt8}{k:IntKind}{m:Int}(au:o.op=.index t x y)(hx:ρ x=.string (bs s))(hy:ρ y=.int k m)(aP:P.underlying t=some .string)(ap:0<=m)(h1:m<s.length) :
  (execOp ρ o).run P w=.ok (.value (.int .u8 ((s.getD m.toNat 0).toNat:Nat))) w:=by
 have:=zT (w:=w) au hx hy aP ap (by rw [gI];exact h1);rw [bBg] at this;exact this
theorem oo {x:Operand}{t:TypeId}{s:List UInt8}(au:o.op=.call { callee:=.builtin .len,args:=#[x],argTypes:=#[t]})(hx:ρ x=.string (bs s))(aP:P.underlying t=some .string) :
  (execOp ρ o).run P w=.ok (.value (.int .i64 s.length)) w:=by
 have:=Qf (w:=w) au hx aP;rw [gI] at this;exact this
theorem ga {t ee:TypeId}{x y:Operand}{s u:List UInt8}(au:o.op=.binOp .eql t x y ee)(hx:ρ x=.string (bs s))(hy:ρ y=.string (bs u)) :
  (execOp ρ o).run P w=.ok (.value (.bool (decide (s=u)))) w:=by
 have:=aXi (P:=P) (w:=w) au hx hy;rw [this]
 congr 4
 exact propext aIh
theorem kO {t ee:TypeId}{x y:Operand}{s u:List UInt8}(au:o.op=.binOp .neq t x y ee)(hx:ρ x=.string (bs s))(hy:ρ y=.string (bs u)) :
  (execOp ρ o).run P w=.ok (.value (.bool (!decide (s=u)))) w:=by
 have:=wa (P:=P) (w:=w) au hx hy;rw [this]
 congr 5
 exact propext aIh
theorem cGu {k:Nat}{x:Operand}{v:Value}(au:o.op=.makeFunc (.func k) #[] #[x])(hx:ρ x=v):(execOp ρ o).run P w=.ok (.value (.func (.func k) #[] #[v])) w:=by
 unfold execOp;rw [au];simp [Instr.makeFunc,hx]
theorem cDc {d k : Nat} {x : Operand} {pR : Array Operand} {gd : Array TypeId} {fn : Func} {args cap : List Value} {T : Value -> World -> Prop} (hc : Ret P k (args ++ cap) w T) (hf : P.funcs[k]? = some fn) (hb : fn.body.isNone = false) (hn : (fn.name == "runtime.NumGoroutine") = false)
  (aH:o.guard=none) (hd:o.dst=some d) (au:o.op=.call { callee:=.value x,args:=pR,argTypes:=gd }) (hx:aW n f x=.func (.func k) #[] cap.toArray) (hA:pR.toList.map (aW n f)=args)
  (h:∀ v w',T v w'->wpList P ops Q bh (aC n (eh f d v)) w'):wpList P ops Q (o::bh) (aC n f) w:=by
 refine wpList_plain aH λeu ep=>?_
 have hE:(execOp (aW n f) o).run P w=.ok (.enter k (args++cap).toArray) w:=by
  exact aAg
 exact aA8
theorem cGz {t ee:TypeId}{x:Operand}{XO:Array (String×TypeId)}(aP:P.underlying t=some (.interface XO))(au:o.op=.binOp .eql t x (.const .nilIface) ee)(hx:ρ x=.nilIface)(hc:ρ (.const .nilIface)=.nilIface):(execOp ρ o).run P w=.ok (.value (.bool true)) w:=by
 unfold execOp;rw [au];have h:(binOp .eql t .nilIface .nilIface).run P w=.ok (.bool true) w:=by
  have h:(Op.equalIn 10000 t .nilIface .nilIface).run P w=.ok true w:=by
   unfold Op.equalIn;simp [run_underlying aP]
  simp [binOp,Op.equal,Op.maxDepth,h]
 simp [hx,hc,eqGuard_nil_constR,h]
end
end Go.Dk
end
section
namespace Go.Dk
open Go Go.RowKit Go.Lib
variable {s:Value}{n b o:Nat}{w:World}{c:UInt8}
def SliceAt (A:Nat->Prop)(s:Value)(n b o:Nat):Prop:=(n=0/\s=.slice none 0 0)\/∃ ad cap,s=.slice (some ad) n cap/\n<=cap/\(0<n->ad=⟨b,o,none⟩/\A b)
theorem SliceAt.mono {A Zp:Nat->Prop}(h:SliceAt A s n b o)(qj:∀ b,A b->Zp b):SliceAt Zp s n b o:=by
 rcases h with h | ⟨ad,cap,h1,h2,Y⟩
 ·exact .inl h
 ·exact .inr ⟨ad,cap,h1,h2,λhn=>⟨(Y hn).1,qj _ (Y hn).2⟩⟩
theorem SliceAt.form {A:Nat->Prop}(h:SliceAt A s n b o):∃ a c,s=.slice a n c/\(0<n->a=some ⟨b,o,none⟩):=by
 rcases h with ⟨rfl,rfl⟩ | ⟨ad,cap,rfl,_,h⟩
 ·exact ⟨none,0,B,λh=>I⟩
 ·exact ⟨some ad,cap,B,λhn=>by rw [(h hn).1]⟩
theorem RowAt.up {w':World}{l:List Value}(h:RowAt w b o l)(hb:Below w.heap.size w w'):RowAt w' b o l:=λj x ax=>by
 have h1:=h j x ax;have h2:=block_lt_of_cell h1;have Y:=hb.block b (by simpa using h2);have ar:w'.cell? ⟨b,o+j,none⟩=w.cell? ⟨b,o+j,none⟩:=by simp [World.cell?,Y]
 rw [ar];exact h1
structure Stp where
 byIndex:Bool
 key:ByteArray
 index:Int
def e6 (s:Stp):List Value:=[.bool s.byIndex,.string s.key,.int .i64 s.index]
def Pth (w:World)(s:Value)(l:List Stp):Prop:=∃ b o,SliceAt (λb=>b<w.heap.size) s l.length b o/\∀ i x,l[i]?=some x->RowAt w b (o+i*3) (e6 x)
theorem Pth.up {w':World}(h:Below w.heap.size w w'){l:List Stp}(hp:Pth w s l):Pth w' s l:=by
 exact aBq
theorem Pth.form{l:List Stp}(h:Pth w s l):∃ a c b o,s=.slice a l.length c/\(0<l.length->a=some ⟨b,o,none⟩)/\∀ i x,l[i]?=some x->RowAt w b (o+i*3) (e6 x):=by
 exact QG
theorem Pth.sl{l:List Stp}(h:Pth w s l):∃ a c,s=.slice a l.length c/\l.length<=c:=by
 obtain ⟨b,o,hs,hr⟩:=h;rcases hs with ⟨ap,h1⟩ | ⟨ad,cap,h1,h2,Y⟩
 ·exact ⟨none,0,by rw [h1,ap],I⟩
 ·exact ⟨some ad,cap,h1,h2⟩
structure Lss where
 kind:Int
 path:List Stp
def mn (n:Nat):UInt8:=if n<10 then bM (48+n) else bM (87+n)
def qo (n:Nat):List UInt8:=if n<16 then [mn n] else [mn (n / 16),mn (n%16)]
def iq (b:UInt8):List UInt8 :=
 if b=34\/b=92 then [92,b] else if b=10 then [92,110] else if b=9 then [92,116] else if b=13 then [92,114]
 else if b<32\/b=127 then [92,117,123]++qo b.toNat++[125] else [b]
theorem cD0 (b:UInt8):(iq b).length<=6:=by
 unfold iq qo;split
 ·simp
 . split
   ·simp
   . split
     ·simp
     . split
       ·simp
       . split
         ·split <;> simp
         ·simp
theorem vV (c:UInt8)(n:Nat)(h:n<256):c=bM n↔c.toNat=n:=by
 constructor
 ·rintro rfl;exact sW h
 ·rintro rfl;exact wz.symm
theorem cDw(h:c.toNat=34\/c.toNat=92):iq c=[92,c]:=by
 have:c=34\/c=92:=h.imp (vV c 34 (by decide)).2 (vV c 92 (by decide)).2;unfold iq;rw [U this]
theorem FV(hn:n<256)(h:c.toNat≠n):c≠bM n:=λe=>h ((vV c n hn).1 e)
theorem cDt(h:c.toNat=10):iq c=[92,110]:=by
 have:c=10:=(vV c 10 (by decide)).2 h;subst this;decide
theorem cDv(h:c.toNat=9):iq c=[92,116]:=by
 have:c=9:=(vV c 9 (by decide)).2 h;subst this;decide
theorem cDu(h:c.toNat=13):iq c=[92,114]:=by
 have:c=13:=(vV c 13 (by decide)).2 h;subst this;decide
theorem cD3(h1:c.toNat≠10)(h2:c.toNat≠9)(Y:c.toNat≠13)(h:c.toNat<32\/c.toNat=127):iq c=[92,117,123]++qo c.toNat++[125]:=by
 have bm:¬ (c=34\/c=92):=by rintro (e | e) <;> (subst e;revert h;decide)
 have lv:c<32\/c=127:=by
  rcases h with h | h
  ·exact .inl (by rw [UInt8.lt_iff_toNat_lt];exact h)
  ·exact .inr ((vV c 127 (by decide)).2 h)
 unfold iq;rw [O bm,O (show c≠10 from FV (n:=10) (by decide) h1),O (show c≠9 from FV (n:=9) (by decide) h2),O (show c≠13 from FV (n:=13) (by decide) Y),U lv]
theorem cD1(ap:¬ (c.toNat=34\/c.toNat=92))(h:¬ (c.toNat<32\/c.toNat=127)):iq c=[c]:=by
 have bm:¬ (c=34\/c=92):=λe=>ap (e.imp (vV c 34 (by decide)).1 (vV c 92 (by decide)).1)
 have lv:¬ (c<32\/c=127):=λe=>h (e.imp (λe=>by rw [UInt8.lt_iff_toNat_lt] at e;exact e) (vV c 127 (by decide)).1)
 have cB:c.toNat≠10:=I;have n2:c.toNat≠9:=I;have n3:c.toNat≠13:=I;unfold iq;rw [O bm,O (show c≠10 from FV (n:=10) (by decide) cB),O (show c≠9 from FV (n:=9) (by decide) n2),O (show c≠13 from FV (n:=13) (by decide) n3),O lv]
theorem aOa (n:Nat):(qo n).length<=2:=by unfold qo;split <;> simp
def qF (c:Int):Prop:=(97<=c/\c<=122)\/(65<=c/\c<=90)\/c=95
def uS (c:Int):Prop:=48<=c/\c<=57
def vw (s:ByteArray):Prop:=0<s.size/\∀ j:Nat,j<s.size->qF (fu s j)\/(0<j/\uS (fu s j))
def jz (l:List UInt8):List UInt8:=l.flatMap iq
theorem Yp (l:List UInt8):(jz l).length<=6*l.length:=by
 induction l with
 | nil=>simp [jz]
 | cons b l ih =>
  have:=cD0 b;simp only [jz,gE,aQ,cf] at ih ⊢;omega
theorem PF (s:ByteArray)(i:Nat)(hi:i<s.size):jz (s.data.toList.take (i+1))=jz (s.data.toList.take i)++iq (s.data.toList.getD i 0):=by
 have dK:i<s.data.toList.length:=by simpa using hi
 rw [p9 dK];simp [jz,l8,bS dK]
open Classical in
noncomputable def fZ (s:Stp):List UInt8:=if s.byIndex then [91]++itoa s.index++[93] else if vw s.key then 46::s.key.data.toList else [46,34]++jz s.key.data.toList++[34]
noncomputable def jy (l:List Stp):List UInt8:=match l with
 | []=>[46]
 | s::_=>(if s.byIndex then [46] else [])++l.flatMap fZ
def Gh (s:Stp):Prop:=(s.byIndex=true->0<=s.index/\s.index<=65536)/\(s.byIndex=false->s.key.size<=1024)
theorem TG:∀ (k n:Nat),n<10^(k+1)->(decDigits n).length<=k+1
 | 0,n,h=>by unfold decDigits;rw [dif_pos I];simp
 | k+1,n,h=>by
  unfold decDigits;split
  ·simp
  . have:=TG k (n / 10) (by rw [Nat.pow_succ] at h;omega)
    simp only [aQ,ll];omega
theorem Fl (n:Nat):itoa (n:Int)=decDigits n:=by
 unfold itoa;rw [O I];simp
theorem aV8 {s:Stp}(h:Gh s):(fZ s).length<=6200:=by
 unfold fZ;split
 . rename_i hi
   obtain ⟨h1,h2⟩:=h.1 hi;have Y:s.index=((s.index.toNat:Nat):Int):=I;rw [Y,Fl];have:=TG 5 s.index.toNat I;simp only [aQ,ll];omega
 . rename_i hi
   have h1:=h.2 (by simpa using hi);split
   . simp only [cf,KQ]
     have:s.key.data.size=s.key.size:=B;omega
   . have h2:=Yp s.key.data.toList
     have:s.key.data.size=s.key.size:=B;simp only [aQ,cf,dC,KQ] at h2 ⊢;omega
theorem aMi {l:List Stp}(h:∀ s∈l,Gh s):(l.flatMap fZ).length<=6200*l.length:=by
 induction l with
 | nil=>simp
 | cons s l ih =>
  have h1:=aV8 (h s (by simp));have h2:=ih λx hx=>h x (by simp [hx])
  simp only [gE,aQ,cf];omega
theorem cAn {l:List Stp}(h:∀ s∈l,Gh s):(jy l).length<=6200*l.length+1:=by
 unfold jy;split
 ·simp
 . rename_i s t
   have:=aMi h;simp only [aQ];split <;> simp only [cf,dC] at this ⊢ <;> omega
theorem bMd (l:List Stp)(i:Nat)(x:Stp)(hx:l[i]?=some x):(l.take (i+1)).flatMap fZ=(l.take i).flatMap fZ++fZ x:=by
 obtain ⟨hi,e⟩:=bT.1 hx;rw [p9 hi];simp [e]
end Go.Dk
end
section
namespace Go.Dk
open Go Go.RowKit Go.Lib
theorem cD2:∀ a b:Fin 256,(iq (bM a.val)).isPrefixOf (iq (bM b.val))=true->a=b:=by decide +kernel
theorem aV1 (a b:UInt8)(h:(iq a).isPrefixOf (iq b)=true):a=b:=by
 have h1:=cD2 ⟨a.toNat,a.toNat_lt⟩ ⟨b.toNat,b.toNat_lt⟩;simp only [wz] at h1;have h2:=h1 h;simp only [Fin.mk.injEq] at h2;exact q5.1 h2
theorem cDz:∀ a:Fin 256,(iq (bM a.val)).head?≠some 34/\iq (bM a.val)≠[]:=by decide +kernel
theorem cDy (a:UInt8):(iq a).head?≠some 34/\iq a≠[]:=by
 have h1:=cDz ⟨a.toNat,a.toNat_lt⟩;simpa only [wz] using h1
theorem cDx {a b:UInt8}{x y:List UInt8}(h:iq a++x=iq b++y):a=b/\x=y:=by
 have Bg:a=b:=by
  have zB:iq a <+: iq a++x:=⟨x,B⟩;have ch:iq b <+: iq a++x:=⟨y,h.symm⟩;rcases Nat.le_total (iq a).length (iq b).length with hl | hl
  ·exact aV1 a b (List.isPrefixOf_iff_prefix.2 (List.prefix_of_prefix_length_le zB ch hl))
  ·exact (aV1 b a (List.isPrefixOf_iff_prefix.2 (List.prefix_of_prefix_length_le ch zB hl))).symm
 subst Bg;exact ⟨B,List.append_cancel_left h⟩
theorem aV2 (a:UInt8)(x y:List UInt8):iq a++x≠34::y:=by
 intro h;obtain ⟨h1,h2⟩:=cDy a
 cases hs:iq a with
 | nil=>exact h2 hs
 | cons c t =>
  rw [hs] at h h1;simp only [gT,iL] at h;exact h1 (by simp [h.1])
theorem aUy:∀ (k l:List UInt8) (x y:List UInt8),jz k++34::x=jz l++34::y->k=l/\x=y
 | [],[],x,y,h=>by simpa [jz] using h
 | [],b::l,x,y,h=>by
  simp only [jz,List.flatMap_nil,gG,gE,eB] at h;exact absurd h.symm (aV2 b _ _)
 | a::k,[],x,y,h=>by
  simp only [jz,List.flatMap_nil,gG,gE,eB] at h;exact absurd h (aV2 a _ _)
 | a::k,b::l,x,y,h=>by
  simp only [jz,gE,eB] at h;obtain ⟨rfl,h2⟩:=cDx h;obtain ⟨rfl,rfl⟩:=aUy k l x y (by simpa only [jz] using h2);exact ⟨B,B⟩
theorem YF (p:UInt8->Prop):∀ (A ea x y:List UInt8),(∀ c∈A,p c)->(∀ c∈ea,p c)->(∀ c t,x=c::t->¬ p c)->(∀ c t,y=c::t->¬ p c)->A++x=ea++y->A=ea/\x=y
 | [],[],x,y,_,_,_,_,h=>⟨rfl,by simpa using h⟩
 | [],b::ea,x,y,_,wS,hx,_,h=>absurd (wS b (by simp)) (hx b (ea++y) ku)
 | a::A,[],x,y,qj,_,_,hy,h=>absurd (qj a (by simp)) (hy a (A++x) (by simpa using h.symm))
 | a::A,b::ea,x,y,qj,wS,hx,hy,h=>by
  simp only [gT,iL] at h;obtain ⟨rfl,h2⟩:=h;obtain ⟨rfl,rfl⟩:=YF p A ea x y (λc hc=>qj c (by simp [hc])) (λc hc=>wS c (by simp [hc])) hx hy h2;exact ⟨B,B⟩
def bf (c:UInt8):Prop:=48<=c.toNat/\c.toNat<=57
theorem aKt (n:Nat):∀ c∈decDigits n,bf c:=by
 induction n using Nat.strongRecOn with
 | _ n ih =>
  unfold decDigits;split
  . intro c hc
    obtain rfl:=hL.1 hc;have:(bM (48+n)).toNat=48+n:=sW I;unfold bf;omega
  . intro c hc
    rcases iv.1 hc with hc | hc
    ·exact ih (n / 10) I c hc
    . obtain rfl:=hL.1 hc
      have:(bM (48+n%10)).toNat=48+n%10:=sW I;unfold bf;omega
def Zc (l:List UInt8):Nat:=l.foldl (λa c=>10*a+(c.toNat-48)) 0
theorem aXk (n:Nat):Zc (decDigits n)=n:=by
 induction n using Nat.strongRecOn with
 | _ n ih =>
  unfold decDigits;split
  . have:(bM (48+n)).toNat=48+n:=sW I
    simp only [Zc,yl,List.foldl_nil,this];omega
  . have h1:=ih (n / 10) I
    have:(bM (48+n%10)).toNat=48+n%10:=sW I;unfold Zc at h1 ⊢;rw [List.foldl_append,h1];simp only [yl,List.foldl_nil,this];omega
theorem bHr {m n:Nat}(h:decDigits m=decDigits n):m=n:=by rw [<- aXk m,<- aXk n,h]
def zz (c:UInt8):Prop:=qF c.toNat\/uS c.toNat
theorem Fk {s:ByteArray}(h:vw s):∀ c∈s.data.toList,zz c:=by
 intro c hc;obtain ⟨j,ax⟩:=jX hc;have b8:=(bT.1 ax).1;have h1:=h.2 j (by simpa using b8);have e:fu s j=(c.toNat:Int):=by
  unfold fu;simp only [gD,l8,ax,Option.getD_some]
 rw [e] at h1;exact h1.imp id (·.2)
theorem JI {s:ByteArray}(h:vw s):s.data.toList≠[]:=by
 intro e;have ap:=h.1;have:s.data.toList.length=s.size:=by simp
 rw [e] at this;simp at this;omega
def AM (s:Stp):Prop:=(s.byIndex=true->s.key=⟨#[]⟩/\0<=s.index)/\(s.byIndex=false->s.index=0)
theorem CC (s:Stp):∃ t,fZ s=(if s.byIndex then 91 else 46)::t:=by
 unfold fZ;split
 ·rename_i h;exact ⟨itoa s.index++[93],by simp [h]⟩
 . rename_i h
   split
   ·exact ⟨s.key.data.toList,by simp [h]⟩
   ·exact ⟨34::(jz s.key.data.toList++[34]),by simp [h]⟩
theorem aMg {l:List Stp}{c:UInt8}{t:List UInt8}(h:l.flatMap fZ=c::t):c=46\/c=91:=by
 cases l with
 | nil=>simp at h
 | cons s l =>
  obtain ⟨u,aP⟩:=CC s;simp only [gE,aP,gT,iL] at h;rw [<- h.1];split <;> simp
theorem aH5 {a b:ByteArray}(h:a.data.toList=b.data.toList):a=b:=by
 cases a;cases b;congr 1;exact Array.toList_inj.1 h
theorem cEg {s u:Stp}{x y:List UInt8}(hs:AM s)(aP:AM u)(hx:∀ c t,x=c::t->c=46\/c=91)(hy:∀ c t,y=c::t->c=46\/c=91)(h:fZ s++x=fZ u++y):s=u/\x=y:=by
 have aS6:∀ c:UInt8,(c=46\/c=91)->¬ zz c:=by
  rintro c (rfl | rfl) <;> unfold zz qF uS <;> decide
 obtain ⟨PW,YE,YJ⟩:=s;obtain ⟨YU,YV,YX⟩:=u;have a1:PW=YU:=by
  obtain ⟨fC,h1⟩:=CC ⟨PW,YE,YJ⟩;obtain ⟨t2,h2⟩:=CC ⟨YU,YV,YX⟩;rw [h1,h2] at h;simp only [gT,iL] at h;cases PW <;> cases YU <;> simp at h ⊢
 subst a1
 cases PW with
 | true =>
  obtain ⟨eI,rz⟩:=hs.1 rfl;obtain ⟨fy,mq⟩:=aP.1 rfl;simp only at eI rz fy mq;subst eI;subst fy;unfold fZ at h;simp only [if_true,eB,gT,gG,iL,true_and] at h;obtain ⟨m,rfl⟩:∃ m:Nat,YJ=m:=⟨YJ.toNat,I⟩;obtain ⟨n,rfl⟩:∃ n:Nat,YX=n:=⟨YX.toNat,I⟩;rw [Fl,Fl] at h;obtain ⟨bm,aZ⟩:=YF bf _ _ _ _ (aKt m) (aKt n) (by intro c t he;simp only [iL] at he;rw [<- he.1];unfold bf;decide) (by intro c t he;simp only [iL] at he;rw [<- he.1];unfold bf;decide) h;simp only [iL,true_and] at aZ;rw [bHr bm];exact ⟨B,aZ⟩
 | false =>
  have bm:=hs.2 B;have aZ:=aP.2 B;simp only at bm aZ;subst bm;subst aZ;unfold fZ at h;simp only [r0,if_false] at h;by_cases cC:vw YE <;> by_cases a7:vw YV
  . rw [U cC,U a7] at h
    simp only [gT,iL,true_and] at h;obtain ⟨bm,aZ⟩:=YF zz _ _ _ _ (Fk cC) (Fk a7) (λc t he=>aS6 c (hx c t he)) (λc t he=>aS6 c (hy c t he)) h;rw [aH5 bm];exact ⟨B,aZ⟩
  . exfalso
    rw [U cC,O a7] at h;simp only [gT,iL,true_and,eB,gG] at h
    cases hl:YE.data.toList with
    | nil=>exact JI cC hl
    | cons c t =>
     rw [hl] at h;simp only [gT,iL] at h;have:=Fk cC c (by rw [hl];simp);rw [h.1] at this;unfold zz qF uS at this
     revert this;decide
  . exfalso
    rw [O cC,U a7] at h;simp only [gT,iL,true_and,eB,gG] at h
    cases hl:YV.data.toList with
    | nil=>exact JI a7 hl
    | cons c t =>
     rw [hl] at h;simp only [gT,iL] at h;have:=Fk a7 c (by rw [hl];simp);rw [<- h.1] at this;unfold zz qF uS at this
     revert this;decide
  . rw [O cC,O a7] at h
    simp only [gT,iL,true_and,eB,gG] at h;obtain ⟨bm,aZ⟩:=aUy _ _ _ _ h;rw [aH5 bm];exact ⟨B,aZ⟩
theorem aMh:∀ (k l:List Stp),(∀ s∈k,AM s)->(∀ s∈l,AM s)->k.flatMap fZ=l.flatMap fZ->k=l
 | [],[],_,_,_=>rfl
 | [],u::l,_,_,h=>by
  obtain ⟨t,ht⟩:=CC u;rw [gE,ht] at h;simp at h
 | s::k,[],_,_,h=>by
  obtain ⟨t,ht⟩:=CC s;rw [gE,ht] at h;simp at h
 | s::k,u::l,hk,hl,h=>by
  rw [gE,gE] at h;obtain ⟨rfl,h2⟩:=cEg (hk s (by simp)) (hl u (by simp)) (λc t he=>aMg he) (λc t he=>aMg he) h;rw [aMh k l (λx hx=>hk x (by simp [hx])) (λx hx=>hl x (by simp [hx])) h2]
theorem P0 (s:Stp):2<=(fZ s).length:=by
 unfold fZ;split
 ·simp
 . split
   . rename_i h
     have:=JI h
     cases hl:s.key.data.toList with
     | nil=>exact absurd hl this
     | cons c t=>simp
   ·simp
theorem cAo {k l:List Stp}(hk:∀ s∈k,AM s)(hl:∀ s∈l,AM s)(h:jy k=jy l):k=l:=by
 cases k with
 | nil =>
  cases l with
  | nil=>rfl
  | cons u l =>
   exfalso;have h1:=aD eC h;have h2:=P0 u;simp only [jy,gE,aQ,ll] at h1;omega
 | cons s k =>
  cases l with
  | nil =>
   exfalso;have h1:=aD eC h;have h2:=P0 s;simp only [jy,gE,aQ,ll] at h1;omega
  | cons u l =>
   refine aMh _ _ hk hl ?_;unfold jy at h;simp only at h;by_cases cC:s.byIndex=true <;> by_cases a7:u.byIndex=true
   ·simpa [cC,a7] using h
   . exfalso
     rw [U cC,O a7] at h;obtain ⟨fC,h1⟩:=CC s;simp only [gE,h1,cC,if_true,gT,gG] at h;have bd:=P0 u;unfold fZ at h bd;rw [O a7] at h bd;split at h
     . rename_i hn
       cases aw:u.key.data.toList with
       | nil=>exact JI hn aw
       | cons c t =>
        rw [aw] at h;simp only [gT,iL,true_and] at h;have:=Fk hn c (by rw [aw];simp);rw [<- h.1] at this;unfold zz qF uS at this
        revert this;decide
     ·simp at h
   . exfalso
     rw [O cC,U a7] at h;obtain ⟨fC,h1⟩:=CC u;simp only [gE,h1,a7,if_true,gT,gG] at h;unfold fZ at h;rw [O cC] at h;split at h
     . rename_i hn
       cases aw:s.key.data.toList with
       | nil=>exact JI hn aw
       | cons c t =>
        rw [aw] at h;simp only [gT,iL,true_and] at h;have:=Fk hn c (by rw [aw];simp);rw [h.1] at this;unfold zz qF uS at this
        revert this;decide
     ·simp at h
   ·simpa [cC,a7] using h
end Go.Dk
end
section
namespace Go.Proofs.YthiafbkolhnadaaGreatDoor
open Go Go.Dk Go.RowKit Go.Lib
variable {q:List UInt8}
inductive Lp {σ ρ:Type} (step:σ->Sum σ ρ->Prop):σ->ρ->Prop
 | done {s:σ} {r:ρ} (h:step s (.inr r)):Lp step s r
 | more {s s':σ} {r:ρ} (h:step s (.inl s')) (t:Lp step s' r):Lp step s r
theorem Lp.det {σ ρ:Type}{step:σ->Sum σ ρ->Prop}(hd:∀ s x y,step s x->step s y->x=y){s:σ}{r fj:ρ}(h:Lp step s r)(aU:Lp step s fj):r=fj:=by
 induction h with
 | done h=>cases aU with
  | done h2=>exact Sum.inr.inj (hd _ _ _ h h2)
  | more h2 _=>cases hd _ _ _ h h2
 | more h _ ih=>cases aU with
  | done h2=>cases hd _ _ _ h h2
  | more h2 t2=>cases hd _ _ _ h h2;exact ih t2
def fs {σ ρ:Type}(f:σ->Sum σ ρ):σ->Sum σ ρ->Prop:=λs x=>f s=x
theorem M9 {σ ρ:Type}(f:σ->Sum σ ρ):∀ s x y,fs f s x->fs f s y->x=y:=λ_ _ _ h h2=>h.symm.trans h2
instance dgcD (c:UInt8):Decidable (bf c):=by unfold bf;infer_instance
def jR (c:UInt8):Prop:=(97<=c.toNat/\c.toNat<=122)\/(65<=c.toNat/\c.toNat<=90)
instance ltcD (c:UInt8):Decidable (jR c):=by unfold jR;infer_instance
def jD (c:UInt8):Prop:=jR c\/bf c\/c.toNat=95\/c.toNat=36\/c.toNat=43\/c.toNat=45\/c.toNat=46
instance wdcD (c:UInt8):Decidable (jD c):=by unfold jD;infer_instance
def oG (c:UInt8):Prop:=jR c\/c.toNat=95\/c.toNat=36
instance brcD (c:UInt8):Decidable (oG c):=by unfold oG;infer_instance
def ja (c:UInt8):Prop:=c.toNat=32\/c.toNat=9
instance blkD (c:UInt8):Decidable (ja c):=by unfold ja;infer_instance
def pre (p:UInt8->Prop) [DecidablePred p]:List UInt8->Nat
 | []=>0
 | c::t=>if p c then pre p t+1 else 0
theorem FL (p:UInt8->Prop) [DecidablePred p]:∀ l:List UInt8,pre p l<=l.length
 | []=>bV _
 | c::t=>by
  unfold pre;have:=FL p t;split <;> simp only [cf] <;> omega
theorem ob (p:UInt8->Prop) [DecidablePred p]:∀ (l:List UInt8) (n:Nat),n<=l.length->(∀ j,j<n->p (l.getD j 0))->(n=l.length\/¬ p (l.getD n 0))->pre p l=n
 | [],n,hn,_,_=>by simp only [dC] at hn;unfold pre;omega
 | c::t,n,hn,h,he=>by
  unfold pre
  cases n with
  | zero =>
   rw [O];rcases he with he | he
   ·simp at he
   ·simpa using he
  | succ n =>
   have ap:p c:=by have:=h 0 I;simpa using this
   rw [U ap,ob p t n (by simpa using hn) (λj ax=>by have:=h (j+1) I;simpa using this) (by simpa using he)]
theorem Yf (p:UInt8->Prop) [DecidablePred p]:∀ (l:List UInt8) (j:Nat),j<pre p l->p (l.getD j 0)
 | [],j,h=>by unfold pre at h;omega
 | c::t,j,h=>by
  unfold pre at h;by_cases hc:p c
  . rw [U hc] at h
    cases j with
    | zero=>simpa using hc
    | succ j=>have:=Yf p t j I;simpa using this
  ·rw [O hc] at h;omega
theorem PA (p:UInt8->Prop) [DecidablePred p]:∀ (l:List UInt8),pre p l=l.length\/¬ p (l.getD (pre p l) 0)
 | []=>.inl rfl
 | c::t=>by
  by_cases hc:p c
  . have e:pre p (c::t)=pre p t+1:=by rw [pre,U hc]
    rw [e];rcases PA p t with h | h
    ·exact .inl (by simp [h])
    ·exact .inr ku
  . have e:pre p (c::t)=0:=by rw [pre,O hc]
    rw [e];exact .inr (by simpa using hc)
abbrev aT:=pre bf
def isBare (l:List UInt8):Prop:=l≠[]/\∀ j,j<l.length->oG (l.getD j 0)\/(0<j/\bf (l.getD j 0))
instance isBareD (l:List UInt8):Decidable (isBare l):=by unfold isBare;infer_instance
def bI (l:List UInt8):List UInt8:=if (l.getD 0 0).toNat=45 then l.drop 1 else l
def hj (l:List UInt8):List UInt8:=if (l.getD 0 0).toNat=45\/(l.getD 0 0).toNat=43 then l.drop 1 else l
def vA (l:List UInt8):Prop:=hj l≠[]/\aT (hj l)=(hj l).length
def numE (l:List UInt8):Prop:=l=[]\/(((l.getD 0 0).toNat=101\/(l.getD 0 0).toNat=69)/\vA (l.drop 1))
def kt (l:List UInt8):Prop:=if (l.getD 0 0).toNat=46 then aT (l.drop 1)≠0/\numE (l.drop (1+aT (l.drop 1))) else numE l
def FD (l:List UInt8):Prop:=aT l≠0/\¬ (1<aT l/\(l.getD 0 0).toNat=48)/\kt (l.drop (aT l))
def numb (l:List UInt8):Prop:=FD (bI l)
instance numXD (l:List UInt8):Decidable (vA l):=by unfold vA;infer_instance
instance numED (l:List UInt8):Decidable (numE l):=by unfold numE;infer_instance
instance numFD (l:List UInt8):Decidable (kt l):=by unfold kt;infer_instance
instance numID (l:List UInt8):Decidable (FD l):=by unfold FD;infer_instance
instance numbD (l:List UInt8):Decidable (numb l):=by unfold numb;infer_instance
def begs (l:List UInt8):Prop:=numb (l++[48])
instance begsD (l:List UInt8):Decidable (begs l):=by unfold begs;infer_instance
theorem nc {l:List UInt8}{j:Nat}(h:(l.getD j 0).toNat≠0):j<l.length:=by
 refine nA λhn=>h ?_
 rw [show l.getD j 0=0 by simp [hZ,List.getElem?_eq_none (Nat.le_of_not_lt hn)]];rfl
theorem mI (l:List UInt8):aT l<=l.length:=FL bf l
theorem Pl {s:List UInt8}(h1:aT (bI s)≠0)(h2:¬ (1<aT (bI s)/\((bI s).getD 0 0).toNat=48)):numb s↔kt ((bI s).drop (aT (bI s))):=⟨λh=>h.2.2,λh=>⟨h1,h2,h⟩⟩
theorem aS9(h:(q.getD 0 0).toNat=46)(h2:aT (q.drop 1)≠0):kt q↔numE (q.drop (1+aT (q.drop 1))):=by
 unfold kt;rw [U h];exact ⟨λh=>h.2,λh=>⟨h2,h⟩⟩
theorem aS8(h:(q.getD 0 0).toNat=46)(h2:aT (q.drop 1)=0):¬ kt q:=by
 unfold kt;rw [U h];exact λh=>h.1 h2
theorem XY(h:(q.getD 0 0).toNat≠46):kt q↔numE q:=by unfold kt;rw [O h]
theorem MM (s:List UInt8):(bI s).length<=s.length:=by unfold bI;split <;> simp
theorem du (l:List UInt8)(a j:Nat):(l.drop a).getD j 0=l.getD (a+j) 0:=by
 simp [hZ,tc]
theorem sn (l:List UInt8)(a j:Nat)(h:j<a):(l.take a).getD j 0=l.getD j 0:=by
 simp [hZ,te,h]
end Go.Proofs.YthiafbkolhnadaaGreatDoor
end
section
namespace Go.Dk
open Go Go.RowKit Go.Lib
variable {n b0 b1 b2 b3 r b a:Nat}{s:ByteArray}
def iP (n b0 b1 b2 b3:Nat):Nat:=if decodeN n b0 b1 b2 b3=(65533,1) then 0 else (decodeN n b0 b1 b2 b3).2
def aY (s:ByteArray)(j:Nat):Nat:=(s.data.toList.getD j 0).toNat
theorem i7 (s:ByteArray)(j:Nat):aY s j<256:=(s.data.toList.getD j 0).toNat_lt
theorem rb (s:ByteArray)(j:Nat):fu s (j:Int)=(aY s j:Int):=rfl
def fB (s:ByteArray)(a:Nat):Nat:=iP (s.size-a) (aY s a) (aY s (a+1)) (aY s (a+2)) (aY s (a+3))
theorem AY(e:decodeN n b0 b1 b2 b3=(65533,1)):iP n b0 b1 b2 b3=0:=by unfold iP;rw [U e]
theorem MR {k:Nat}(e:decodeN n b0 b1 b2 b3=(r,k))(h:r≠65533\/k≠1):iP n b0 b1 b2 b3=k:=by
 unfold iP;rw [e,O];intro h2;simp only [Prod.mk.injEq] at h2;omega
theorem HP(h:b0<128):iP n b0 b1 b2 b3=1 :=
 MR (r:=b0) (by unfold decodeN;rw [U h]) I
theorem HT(h:128<=b0)(h2:b0<192\/248<=b0)(Y:b0<256):iP n b0 b1 b2 b3=0 :=
 AY Pw
theorem HU(h:192<=b0)(h2:b0<224)(Y:n<2\/b1 / 64≠2):iP n b0 b1 b2 b3=0 :=
 AY Pw
theorem HQ(h:192<=b0)(h2:b0<224)(Y:2<=n)(ar:b1 / 64=2):iP n b0 b1 b2 b3=if 128<=b0%32*64+b1%64 then 2 else 0:=by
 by_cases hc:128<=b0%32*64+b1%64
 . rw [U hc]
   exact MR (r:=b0%32*64+b1%64) (by unfold decodeN;rw [O I,U I,U hc]) I
 . rw [O hc]
   exact AY (by unfold decodeN;rw [O I,U I,O hc])
theorem HV(h:224<=b0)(h2:b0<240)(Y:n<3\/b1 / 64≠2\/b2 / 64≠2):iP n b0 b1 b2 b3=0 :=
 AY Pw
theorem HR(h:224<=b0)(h2:b0<240)(Y:3<=n)(ar:b1 / 64=2)(bd:b2 / 64=2) :
  iP n b0 b1 b2 b3=if b0%16*4096+b1%64*64+b2%64>=2048/\(b0%16*4096+b1%64*64+b2%64<55296\/57344<=b0%16*4096+b1%64*64+b2%64) then 3 else 0:=by
 by_cases hc:b0%16*4096+b1%64*64+b2%64>=2048/\(b0%16*4096+b1%64*64+b2%64<55296\/57344<=b0%16*4096+b1%64*64+b2%64)
 . rw [U hc]
   exact MR (r:=b0%16*4096+b1%64*64+b2%64) (by unfold decodeN;rw [O I,O I,U I,U I]) I
 . rw [O hc]
   exact AY (by unfold decodeN;rw [O I,O I,U I,O I])
theorem HW(h:240<=b0)(h2:b0<248)(Y:n<4\/b1 / 64≠2\/b2 / 64≠2\/b3 / 64≠2):iP n b0 b1 b2 b3=0 :=
 AY Pw
theorem HS(h:240<=b0)(h2:b0<248)(Y:4<=n)(ar:b1 / 64=2)(bd:b2 / 64=2)(h6:b3 / 64=2) :
  iP n b0 b1 b2 b3=if b0%8*262144+b1%64*4096+b2%64*64+b3%64>=65536/\b0%8*262144+b1%64*4096+b2%64*64+b3%64<=1114111 then 4 else 0:=by
 by_cases hc:b0%8*262144+b1%64*4096+b2%64*64+b3%64>=65536/\b0%8*262144+b1%64*4096+b2%64*64+b3%64<=1114111
 . rw [U hc]
   exact MR (r:=b0%8*262144+b1%64*4096+b2%64*64+b3%64) (by unfold decodeN;rw [O I,O I,O I,U I,U I]) I
 . rw [O hc]
   exact AY (by unfold decodeN;rw [O I,O I,O I,U I,O I])
theorem bH9 (n b0 b1 b2 b3:Nat)(hn:1<=n):iP n b0 b1 b2 b3<=n/\iP n b0 b1 b2 b3<=4:=by
 unfold iP;split
 ·omega
 . unfold decodeN
   repeat' split
   all_goals (simp only;omega)
theorem Kv (s:ByteArray)(a:Nat)(h:a<s.size):a+fB s a<=s.size/\fB s a<=4:=by
 have:=bH9 (s.size-a) (aY s a) (aY s (a+1)) (aY s (a+2)) (aY s (a+3)) I;unfold fB;omega
theorem Io (l:List UInt8)(a j:Nat):((⟨(l.drop a).toArray⟩:ByteArray).get! j)=l.getD (a+j) 0:=by
 unfold ByteArray.get!;simp [l8,tc]
 rfl
theorem TI (s:ByteArray)(a:Nat)(h:a<s.size):decodeL (s.data.toList.drop a)=decodeN (s.size-a) (aY s a) (aY s (a+1)) (aY s (a+2)) (aY s (a+3)):=by
 unfold decodeL;rw [decode_at];have hs:(⟨(s.data.toList.drop a).toArray⟩:ByteArray).size-0=s.size-a:=by
  show (s.data.toList.drop a).toArray.size-0=s.data.size-a;rw [Hj,bC,KQ]
  rfl
 rw [hs,Io,Io,Io,Io]
 rfl
theorem aXl (s:ByteArray)(a:Nat)(h:a<s.size)(hz:fB s a=0):validD (s.data.toList.drop a)=false:=by
 have bt:s.data.toList.drop a≠[]:=by
  intro e;have:=aD eC e;simp at this;have h2:s.data.size=s.size:=B;omega
 rw [validD_step _ bt,TI s a h];have hb:decodeN (s.size-a) (aY s a) (aY s (a+1)) (aY s (a+2)) (aY s (a+3))=(65533,1):=by
  unfold fB iP at hz;split at hz
  ·assumption
  . exfalso
    revert hz
    unfold decodeN
    repeat' split
    all_goals simp
 rw [hb];simp
theorem Qg (s:ByteArray)(a:Nat)(h:a<s.size)(hz:fB s a≠0):validD (s.data.toList.drop a)=validD (s.data.toList.drop (a+fB s a)):=by
 have bt:s.data.toList.drop a≠[]:=by
  intro e;have:=aD eC e;simp at this;have h2:s.data.size=s.size:=B;omega
 rw [validD_step _ bt,TI s a h];unfold fB iP at hz ⊢;split at hz
 ·exact absurd B hz
 . rename_i hn
   rw [O hn,O (λe=>hn (Prod.ext e.1 e.2)),fE]
theorem aXo (s:ByteArray)(a:Nat)(h:s.size<=a):validD (s.data.toList.drop a)=true:=by
 rw [q0 ku];exact validD_nil
def kT (s:ByteArray)(a im:Nat):Nat->Nat
 | 0=>im
 | i+1=>kT s a im i*64+aY s (a+(i+1))%64
theorem Ms (s:ByteArray)(a im:Nat)(h:im<256):∀ i,i<=3->kT s a im i<256*64^i
 | 0,_=>by simpa [kT] using h
 | i+1,hi=>by
  have:=Ms s a im h i I;simp only [kT,Nat.pow_succ];omega
theorem Mw:∀ b:Fin 256,cQ .and .i64 (b.val:Int) 7=((b.val%8:Nat):Int)/\cQ .and .i64 (b.val:Int) 15=((b.val%16:Nat):Int)/\cQ .and .i64 (b.val:Int) 31=((b.val%32:Nat):Int)/\cQ .and .i64 (b.val:Int) 63=((b.val%64:Nat):Int):=by decide +kernel
theorem Hx:∀ b:Fin 256,cQ .and .u8 (b.val:Int) 7=((b.val%8:Nat):Int)/\cQ .and .u8 (b.val:Int) 15=((b.val%16:Nat):Int)/\cQ .and .u8 (b.val:Int) 31=((b.val%32:Nat):Int)/\cQ .and .u8 (b.val:Int) 63=((b.val%64:Nat):Int)/\(cQ .and .u8 (b.val:Int) 192=128↔b.val / 64=2):=by decide +kernel
theorem Pu:∀ b:Fin 64,cQ .or .i64 128 (b.val:Int)=((128+b.val:Nat):Int)/\(b.val<32->cQ .or .i64 192 (b.val:Int)=((192+b.val:Nat):Int))/\(b.val<16->cQ .or .i64 224 (b.val:Int)=((224+b.val:Nat):Int))/\(b.val<8->cQ .or .i64 240 (b.val:Int)=((240+b.val:Nat):Int)):=by decide +kernel
theorem and7(h:b<256):cQ .and .i64 (b:Int) 7=((b%8:Nat):Int):=(Mw ⟨b,h⟩).1
theorem and15(h:b<256):cQ .and .i64 (b:Int) 15=((b%16:Nat):Int):=(Mw ⟨b,h⟩).2.1
theorem and31(h:b<256):cQ .and .i64 (b:Int) 31=((b%32:Nat):Int):=(Mw ⟨b,h⟩).2.2.1
theorem aZl(h:b<256):cQ .and .i64 (b:Int) 63=((b%64:Nat):Int):=(Mw ⟨b,h⟩).2.2.2
theorem aHz(h:b<256):cQ .and .u8 (b:Int) 7=((b%8:Nat):Int):=(Hx ⟨b,h⟩).1
theorem aHw(h:b<256):cQ .and .u8 (b:Int) 15=((b%16:Nat):Int):=(Hx ⟨b,h⟩).2.1
theorem aHy(h:b<256):cQ .and .u8 (b:Int) 31=((b%32:Nat):Int):=(Hx ⟨b,h⟩).2.2.1
theorem SU(h:b<256):cQ .and .u8 (b:Int) 63=((b%64:Nat):Int):=(Hx ⟨b,h⟩).2.2.2.1
theorem aHx(h:b<256):cQ .and .u8 (b:Int) 192=128↔b / 64=2:=(Hx ⟨b,h⟩).2.2.2.2
theorem Cp(h:b<64):cQ .or .i64 128 (b:Int)=((128+b:Nat):Int):=(Pu ⟨b,h⟩).1
theorem bZi(h:b<32):cQ .or .i64 192 (b:Int)=((192+b:Nat):Int):=(Pu ⟨b,I⟩).2.1 h
theorem bZj(h:b<16):cQ .or .i64 224 (b:Int)=((224+b:Nat):Int):=(Pu ⟨b,I⟩).2.2.1 h
theorem bZk(h:b<8):cQ .or .i64 240 (b:Int)=((240+b:Nat):Int):=(Pu ⟨b,I⟩).2.2.2 h
theorem Ps (n:Nat):BitVec.ofInt 64 (n:Int)=BitVec.ofNat 64 n:=by
 apply BitVec.eq_of_toNat_eq;simp
theorem cD6(h:r<4294967296):shl .i64 (r:Int) 6=((r*64:Nat):Int):=by
 unfold shl;have:IntKind.i64.wrap ((r:Int)*2^min 6 IntKind.i64.bits)=((r*64:Nat):Int):=by
  have e:((r:Int)*2^min 6 IntKind.i64.bits)=((r*64:Nat):Int):=by
   simp [IntKind.bits]
  rw [e];exact KY
 exact this
theorem bZr {x:Nat}(h:r<4294967296)(hx:x<64):cQ .or .i64 ((r*64:Nat):Int) (x:Int)=((r*64+x:Nat):Int):=by
 unfold cQ;simp only;have bm:IntKind.i64.bits=64:=B;rw [bm,Ps,Ps,BitVec.toNat_or,BitVec.toNat_ofNat,BitVec.toNat_ofNat,yo I,yo I];have aZ:r*64 ||| x=r*64+x:=by
  have:=Nat.shiftLeft_add_eq_or_of_lt (i:=6) (show x<2^6 by omega) r;rw [Nat.shiftLeft_eq] at this;exact this.symm
 rw [aZ];exact KY
theorem CB(k:Nat)(hk:k<=64):shr .i64 (r:Int) k=((r / 2^k:Nat):Int):=by
 unfold shr;have e:min k IntKind.i64.bits=k:=by simp [IntKind.bits];omega
 rw [e,Int.fdiv_eq_ediv_of_nonneg _ (Int.pow_nonneg (by decide)),Int.natCast_ediv];simp
theorem AN(h:r<4294967296):cQ .and .i64 (r:Int) 63=((r%64:Nat):Int):=by
 unfold cQ;simp only;have bm:IntKind.i64.bits=64:=B;have aZ:(63:Int)=((63:Nat):Int):=B;rw [bm,aZ,Ps,Ps,BitVec.toNat_and,BitVec.toNat_ofNat,BitVec.toNat_ofNat,yo I,yo I];have gg:r &&& 63=r%64:=Nat.and_two_pow_sub_one_eq_mod r 6;rw [gg];exact KY
theorem rU(h:n<256):IntKind.u8.wrap (n:Int)=(n:Int):=by
 simp [IntKind.wrap,IntKind.signed,IntKind.bits];omega
def e7 (r:Nat):Bool:=decide (r<=1114111)&&(decide (r<55296)||decide (57343<r))
def dh (r:Nat):List UInt8 :=
 if e7 r=false then [] else if r<128 then [bM r] else if r<2048 then [bM (192+r / 64),bM (128+r%64)]
 else if r<65536 then [bM (224+r / 4096),bM (128+r / 64%64),bM (128+r%64)]
 else [bM (240+r / 262144),bM (128+r / 4096%64),bM (128+r / 64%64),bM (128+r%64)]
def ib (b:Nat):Nat×Nat:=if 240<=b then (4,b%8) else if 224<=b then (3,b%16) else if 192<=b then (2,b%32) else (1,b)
def ey (b:Nat):Nat×Nat:=if b<128 then (1,b) else if 192<=b/\b<224 then (2,b%32) else if 224<=b/\b<240 then (3,b%16) else if 240<=b/\b<248 then (4,b%8) else (0,0)
def s4 (r:Nat):Nat:=if r<128 then 1 else if r<2048 then 2 else if r<65536 then 3 else 4
theorem mL (x:Nat)(c:UInt8)(h:x<256):bM x=c↔x=c.toNat:=by
 constructor
 ·rintro rfl;exact (sW h).symm
 ·rintro rfl;exact wz
theorem nL (r:Nat):e7 r=true↔r<=1114111/\(r<55296\/57343<r):=by
 unfold e7;simp
theorem uP (s:ByteArray)(j:Nat)(h:j<s.size):s.data.toList.drop j=(s.data.toList.getD j 0)::s.data.toList.drop (j+1):=by
 have aU:j<s.data.toList.length:=by simpa using h
 rw [ph aU];simp [l8,bS aU]
theorem cE1(a6:a<s.size)(h:(ey (aY s a)).1=0\/s.size-a<(ey (aY s a)).1):fB s a=0:=by
 have ap:=i7 s a;unfold fB;unfold ey at h;by_cases h1:aY s a<128
 ·rw [U h1] at h;simp only at h;omega
 . rw [O h1] at h
   by_cases h2:192<=aY s a/\aY s a<224
   . rw [U h2] at h;simp only at h
     exact HU h2.1 h2.2 (.inl I)
   . rw [O h2] at h
     by_cases Y:224<=aY s a/\aY s a<240
     . rw [U Y] at h;simp only at h
       exact HV Y.1 Y.2 (.inl I)
     . rw [O Y] at h
       by_cases ar:240<=aY s a/\aY s a<248
       . rw [U ar] at h;simp only at h
         exact HW ar.1 ar.2 (.inl I)
       ·exact HT I I ap
theorem cE0{i:Nat}(h1:1<=i)(h2:i<(ey (aY s a)).1)(h:aY s (a+i) / 64≠2):fB s a=0:=by
 have ap:=i7 s a;unfold fB;unfold ey at h2;split at h2
 ·simp only at h2;omega
 . split at h2
   . rename_i Y;simp only at h2
     obtain rfl:i=1:=I;exact HU Y.1 Y.2 (.inr h)
   . split at h2
     . rename_i Y;simp only at h2
       refine HV Y.1 Y.2 ?_;have:i=1\/i=2:=I;rcases this with rfl | rfl
       ·exact .inr (.inl h)
       ·exact .inr (.inr h)
     . split at h2
       . rename_i Y;simp only at h2
         refine HW Y.1 Y.2 ?_;have:i=1\/i=2\/i=3:=I;rcases this with rfl | rfl | rfl
         ·exact .inr (.inl h)
         ·exact .inr (.inr (.inl h))
         ·exact .inr (.inr (.inr h))
       ·simp only at h2;omega
theorem aWm(a6:a<s.size)(ap:(ey (aY s a)).1≠0)(hn:(ey (aY s a)).1<=s.size-a)(hc:∀ i,1<=i->i<(ey (aY s a)).1->aY s (a+i) / 64=2) :
  fB s a=if e7 (kT s a (ey (aY s a)).2 ((ey (aY s a)).1-1))=true/\s4 (kT s a (ey (aY s a)).2 ((ey (aY s a)).1-1))=(ey (aY s a)).1 then (ey (aY s a)).1 else 0:=by
 have hb:=i7 s a;unfold fB;by_cases h1:aY s a<128
 . have e:ey (aY s a)=(1,aY s a):=by unfold ey;rw [U h1]
   rw [HP h1,e];simp only [Nat.sub_self,kT];rw [U];exact ⟨(nL _).2 I,by unfold s4;rw [U h1]⟩
 . by_cases h2:192<=aY s a/\aY s a<224
   . have e:ey (aY s a)=(2,aY s a%32):=by unfold ey;rw [O h1,U h2]
     rw [e] at hn hc ⊢;simp only at hn hc ⊢;rw [HQ h2.1 h2.2 hn (hc 1 I I)];exact QJ
   . by_cases Y:224<=aY s a/\aY s a<240
     . have e:ey (aY s a)=(3,aY s a%16):=by unfold ey;rw [O h1,O h2,U Y]
       rw [e] at hn hc ⊢;simp only at hn hc ⊢;rw [HR Y.1 Y.2 hn (hc 1 I I) (hc 2 I I)];exact QJ
     . by_cases ar:240<=aY s a/\aY s a<248
       . have e:ey (aY s a)=(4,aY s a%8):=by unfold ey;rw [O h1,O h2,O Y,U ar]
         rw [e] at hn hc ⊢;simp only at hn hc ⊢;rw [HS ar.1 ar.2 hn (hc 1 I I) (hc 2 I I) (hc 3 I I)];exact QJ
       . exfalso
         apply ap;unfold ey;rw [O h1,O h2,O Y,O ar]
theorem YM(a6:a<s.size)(h:s.size-a<(ib (aY s a)).1):fB s a=0:=by
 have ap:=i7 s a;unfold fB;unfold ib at h;by_cases ar:240<=aY s a
 . rw [U ar] at h;simp only at h
   by_cases bd:aY s a<248
   ·exact HW ar bd (.inl h)
   ·exact HT I I ap
 . rw [O ar] at h
   by_cases Y:224<=aY s a
   . rw [U Y] at h;simp only at h
     exact HV Y I (.inl h)
   . rw [O Y] at h
     by_cases h2:192<=aY s a
     . rw [U h2] at h;simp only at h
       exact HU h2 I (.inl h)
     ·rw [O h2] at h;simp only at h;omega
theorem YL(a6:a<s.size)(hn:(ib (aY s a)).1<=s.size-a) :
  fB s a=if e7 (kT s a (ib (aY s a)).2 ((ib (aY s a)).1-1))=true/\dh (kT s a (ib (aY s a)).2 ((ib (aY s a)).1-1))=(s.data.toList.drop a).take (ib (aY s a)).1 then (ib (aY s a)).1 else 0:=by
 have u4:=i7 s a;have er:=i7 s (a+1);have di:=i7 s (a+2);have eE:=i7 s (a+3);unfold fB;by_cases ar:240<=aY s a
 . have e:ib (aY s a)=(4,aY s a%8):=by unfold ib;rw [U ar]
   rw [e] at hn ⊢;simp only at hn ⊢;have sh:=uP s a I;have cr:=uP s (a+1) I;have jI:=uP s (a+1+1) I;have fG:=uP s (a+1+1+1) I;rw [sh,cr,jI,fG];simp only [jG,iw,kT,gV]
   generalize hr:((aY s a%8*64+aY s (a+1)%64)*64+aY s (a+(1+1))%64)*64+aY s (a+(1+1+1))%64=r
   have lY:aY s a%8*262144+aY s (a+1)%64*4096+aY s (a+2)%64*64+aY s (a+3)%64=r:=by (have aZ:aY s (a+(1+1))=aY s (a+2):=B);(have gg:aY s (a+(1+1+1))=aY s (a+3):=rfl);rw [<- hr];omega
   have rv:(e7 r=true/\dh r=[s.data.toList.getD a 0,s.data.toList.getD (a+1) 0,s.data.toList.getD (a+1+1) 0,s.data.toList.getD (a+1+1+1) 0])↔(65536<=r/\r<=1114111/\240+r / 262144=aY s a/\128+r / 4096%64=aY s (a+1)/\128+r / 64%64=aY s (a+2)/\128+r%64=aY s (a+3)):=by
    constructor
    . rintro ⟨cC,a7⟩
      have eL:=(nL r).1 cC;unfold dh at a7;rw [O (by rw [cC];exact qR)] at a7;split at a7
      ·simp at a7
      . split at a7
        ·simp at a7
        . split at a7
          ·simp at a7
          . simp only [iL,and_true] at a7
            rw [mL _ _ I,mL _ _ I,mL _ _ I,mL _ _ I] at a7;exact ⟨I,I,a7.1,a7.2.1,a7.2.2.1,a7.2.2.2⟩
    . rintro ⟨cC,a7,eL,rc,yy,tw⟩
      have nK:e7 r=true:=(nL r).2 I;refine ⟨nK,?_⟩;unfold dh;rw [O (by rw [nK];exact qR),O I,O I,O I];simp only [iL,and_true];rw [mL _ _ I,mL _ _ I,mL _ _ I,mL _ _ I];exact ⟨eL,rc,yy,tw⟩
   rw [show (if (e7 r=true/\dh r=[s.data.toList.getD a 0,s.data.toList.getD (a+1) 0,s.data.toList.getD (a+1+1) 0,s.data.toList.getD (a+1+1+1) 0]) then 4 else 0)=(if (65536<=r/\r<=1114111/\240+r / 262144=aY s a/\128+r / 4096%64=aY s (a+1)/\128+r / 64%64=aY s (a+2)/\128+r%64=aY s (a+3)) then 4 else 0) by simp only [rv]];by_cases bd:aY s a<248
   . by_cases hc:aY s (a+1) / 64=2/\aY s (a+2) / 64=2/\aY s (a+3) / 64=2
     . rw [HS ar bd hn hc.1 hc.2.1 hc.2.2,lY]
       repeat' split
       all_goals omega
     ·rw [HW ar bd (.inr I),O I]
   ·rw [HT I I u4,O I]
 . by_cases Y:224<=aY s a
   . have e:ib (aY s a)=(3,aY s a%16):=by unfold ib;rw [O ar,U Y]
     rw [e] at hn ⊢;simp only at hn ⊢;have sh:=uP s a I;have cr:=uP s (a+1) I;have jI:=uP s (a+1+1) I;rw [sh,cr,jI];simp only [jG,iw,kT,gV]
     generalize hr:(aY s a%16*64+aY s (a+1)%64)*64+aY s (a+(1+1))%64=r
     have lY:aY s a%16*4096+aY s (a+1)%64*64+aY s (a+2)%64=r:=by (have aZ:aY s (a+(1+1))=aY s (a+2):=B);(have gg:aY s (a+(1+1+1))=aY s (a+3):=rfl);rw [<- hr];omega
     have rv:(e7 r=true/\dh r=[s.data.toList.getD a 0,s.data.toList.getD (a+1) 0,s.data.toList.getD (a+1+1) 0])↔(2048<=r/\(r<55296\/57343<r)/\224+r / 4096=aY s a/\128+r / 64%64=aY s (a+1)/\128+r%64=aY s (a+2)):=by
      constructor
      . rintro ⟨cC,a7⟩
        have eL:=(nL r).1 cC;unfold dh at a7;rw [O (by rw [cC];exact qR)] at a7;split at a7
        ·simp at a7
        . split at a7
          ·simp at a7
          . split at a7
            . simp only [iL,and_true] at a7
              rw [mL _ _ I,mL _ _ I,mL _ _ I] at a7;exact ⟨I,I,a7.1,a7.2.1,a7.2.2⟩
            ·simp at a7
      . rintro ⟨cC,a7,eL,rc,yy⟩
        have nK:e7 r=true:=(nL r).2 I;refine ⟨nK,?_⟩;unfold dh;rw [O (by rw [nK];exact qR),O I,O I,U I];simp only [iL,and_true];rw [mL _ _ I,mL _ _ I,mL _ _ I];exact ⟨eL,rc,yy⟩
     rw [show (if (e7 r=true/\dh r=[s.data.toList.getD a 0,s.data.toList.getD (a+1) 0,s.data.toList.getD (a+1+1) 0]) then 3 else 0)=(if (2048<=r/\(r<55296\/57343<r)/\224+r / 4096=aY s a/\128+r / 64%64=aY s (a+1)/\128+r%64=aY s (a+2)) then 3 else 0) by simp only [rv]];by_cases hc:aY s (a+1) / 64=2/\aY s (a+2) / 64=2
     . rw [HR Y I hn hc.1 hc.2,lY]
       repeat' split
       all_goals omega
     ·rw [HV Y I (.inr I),O I]
   . by_cases h2:192<=aY s a
     . have e:ib (aY s a)=(2,aY s a%32):=by unfold ib;rw [O ar,O Y,U h2]
       rw [e] at hn ⊢;simp only at hn ⊢;have sh:=uP s a I;have cr:=uP s (a+1) I;rw [sh,cr];simp only [jG,iw,kT,gV]
       generalize hr:aY s a%32*64+aY s (a+1)%64=r
       have rv:(e7 r=true/\dh r=[s.data.toList.getD a 0,s.data.toList.getD (a+1) 0])↔(128<=r/\192+r / 64=aY s a/\128+r%64=aY s (a+1)):=by
        constructor
        . rintro ⟨cC,a7⟩
          have eL:=(nL r).1 cC;unfold dh at a7;rw [O (by rw [cC];exact qR)] at a7;split at a7
          ·simp at a7
          . split at a7
            . simp only [iL,and_true] at a7
              rw [mL _ _ I,mL _ _ I] at a7;exact ⟨I,a7.1,a7.2⟩
            . split at a7
              ·simp at a7
              ·simp at a7
        . rintro ⟨cC,eL,rc⟩
          have nK:e7 r=true:=(nL r).2 I;refine ⟨nK,?_⟩;unfold dh;rw [O (by rw [nK];exact qR),O I,U I];simp only [iL,and_true];rw [mL _ _ I,mL _ _ I];exact ⟨eL,rc⟩
       rw [show (if (e7 r=true/\dh r=[s.data.toList.getD a 0,s.data.toList.getD (a+1) 0]) then 2 else 0)=(if (128<=r/\192+r / 64=aY s a/\128+r%64=aY s (a+1)) then 2 else 0) by simp only [rv]];by_cases hc:aY s (a+1) / 64=2
       . rw [HQ h2 I hn hc,hr]
         repeat' split
         all_goals omega
       ·rw [HU h2 I (.inr hc),O I]
     . have e:ib (aY s a)=(1,aY s a):=by unfold ib;rw [O ar,O Y,O h2]
       rw [e] at hn ⊢;simp only at hn ⊢;have sh:=uP s a I;rw [sh];simp only [jG,iw,Nat.sub_self,kT]
       generalize hr:aY s a=r at *
       have rv:(e7 r=true/\dh r=[s.data.toList.getD a 0])↔r<128:=by
        constructor
        . rintro ⟨cC,a7⟩
          unfold dh at a7;rw [O (by rw [cC];exact qR)] at a7;split at a7
          ·assumption
          . split at a7
            ·simp at a7
            ·split at a7 <;> simp at a7
        . intro cC
          have nK:e7 r=true:=(nL r).2 I;refine ⟨nK,?_⟩;unfold dh;rw [O (by rw [nK];exact qR),U cC];simp only [iL,and_true];rw [mL _ _ I];exact hr.symm
       rw [show (if (e7 r=true/\dh r=[s.data.toList.getD a 0]) then 1 else 0)=(if r<128 then 1 else 0) by simp only [rv]];by_cases h1:r<128
       ·rw [HP h1,U h1]
       ·rw [HT I I u4,O h1]
end Go.Dk
namespace Go.Dk
open Go Go.RowKit Go.Lib
theorem aNv (b:Nat):1<=(ib b).1/\(ib b).1<=4/\((ib b).2<256\/256<=b):=by
 unfold ib
 repeat' split
 all_goals (simp only;omega)
theorem bO3 (b:Nat)(h:b<256):(ey b).1<=4/\(ey b).2<256:=by
 unfold ey
 repeat' split
 all_goals (simp only;omega)
theorem cEp {a:Nat}(a6:a<256):strOf [IntKind.u8.wrap (a:Int)]=bs [bM a]:=by
 rw [rU a6];simp [strOf,bs];rfl
theorem cEq {a b:Nat}(a6:a<256)(hb:b<256):strOf [IntKind.u8.wrap (a:Int),IntKind.u8.wrap (b:Int)]=bs [bM a,bM b]:=by
 rw [rU a6,rU hb];simp [strOf,bs];rfl
theorem cEr {a b c:Nat}(a6:a<256)(hb:b<256)(hc:c<256):strOf [IntKind.u8.wrap (a:Int),IntKind.u8.wrap (b:Int),IntKind.u8.wrap (c:Int)]=bs [bM a,bM b,bM c]:=by
 rw [rU a6,rU hb,rU hc];simp [strOf,bs];rfl
theorem cEs {a b c d:Nat}(a6:a<256)(hb:b<256)(hc:c<256)(hd:d<256):strOf [IntKind.u8.wrap (a:Int),IntKind.u8.wrap (b:Int),IntKind.u8.wrap (c:Int),IntKind.u8.wrap (d:Int)]=bs [bM a,bM b,bM c,bM d]:=by
 rw [rU a6,rU hb,rU hc,rU hd];simp [strOf,bs];rfl
theorem bHf {s:ByteArray}{a b:Nat}(h1:a<=b)(h2:b<=s.size):(s.extract a b).data.toList=(s.data.toList.drop a).take (b-a):=by
 rw [ByteArray.data_extract];simp
theorem Kx {b:Nat}{p:Nat×Nat}{x y:Value}(h:ey b=p)(hx:x=.int .i64 p.1)(hy:y=.int .i64 p.2):Value.tuple #[x,y]=.tuple #[.int .i64 (ey b).1,.int .i64 (ey b).2]:=by subst h hx hy;rfl
theorem TD {s:ByteArray}{a i:Nat}{m:Int}(h1:m=((a+i:Nat):Int))(h2:a+i<=s.size):(s.extract (dw (a:Int)) m.toNat).data.toList=(s.data.toList.drop a).take i:=by
 subst h1;have:=bHf (s:=s) (a:=a) (b:=a+i) I h2;rw [show a+i-a=i by omega] at this;rw [gD,gD];exact this
theorem bG6 {s:ByteArray}{a i:Nat}{m:Int}(h1:m=((a+i:Nat):Int))(h2:a+i<=s.size):bs ((s.data.toList.drop a).take i)=s.extract (dw (a:Int)) m.toNat:=by
 rw [<- TD h1 h2];exact aIi _
end Go.Dk
end
section
namespace Go.Dk
open Go Go.RowKit Go.Lib
variable {w w':World}{s:Value}{c:ByteArray}{i:Nat}
structure Ent where
 path:List Stp
 fr:Int
 tu:Int
structure Idx where
 fmt:Int
 size:Int
 depth:Int
 ents:List Ent
 cols:List ByteArray
def Ens (w:World)(s:Value)(l:List Ent):Prop:=∃ b o,SliceAt (λb=>b<w.heap.size) s l.length b o/\∀ i x,l[i]?=some x->∃ p,RowAt w b (o+i*3) [p,.int .i64 x.fr,.int .i64 x.tu]/\Pth w p x.path
theorem Ens.up(h:Below w.heap.size w w'){l:List Ent}(hp:Ens w s l):Ens w' s l:=by
 obtain ⟨b,o,hs,hr⟩:=hp;refine ⟨b,o,hs.mono λ_ hb=>Nat.lt_of_lt_of_le hb h.size,λi x hx=>?_⟩;obtain ⟨p,h1,h2⟩:=hr i x hx;exact ⟨p,h1.up h,h2.up h⟩
theorem Ens.form{l:List Ent}(h:Ens w s l):∃ a c b o,s=.slice a l.length c/\(0<l.length->a=some ⟨b,o,none⟩)/\∀ i x,l[i]?=some x->∃ p,RowAt w b (o+i*3) [p,.int .i64 x.fr,.int .i64 x.tu]/\Pth w p x.path:=by
 exact QG
def Cls (w:World)(s:Value)(l:List ByteArray):Prop:=∃ b o,SliceAt (λb=>b<w.heap.size) s l.length b o/\∀ i x,l[i]?=some x->RowAt w b (o+i*1) [.string x]
theorem Cls.up(h:Below w.heap.size w w'){l:List ByteArray}(hp:Cls w s l):Cls w' s l:=by
 exact aBq
theorem Cls.form{l:List ByteArray}(h:Cls w s l):∃ a c b o,s=.slice a l.length c/\(0<l.length->a=some ⟨b,o,none⟩)/\∀ i x,l[i]?=some x->RowAt w b (o+i*1) [.string x]:=by
 exact QG
def IdxV (w:World)(x:Idx)(r:List Value):Prop:=∃ gR jB,r=[.int .i64 x.fmt,.int .i64 x.size,.int .i64 x.depth,gR,jB]/\Ens w gR x.ents/\Cls w jB x.cols
theorem IdxV.up(h:Below w.heap.size w w'){x:Idx}{r:List Value}(hp:IdxV w x r):IdxV w' x r:=by
 obtain ⟨gR,jB,e,h1,h2⟩:=hp;exact ⟨gR,jB,e,h1.up h,h2.up h⟩
def Stv (s:Stp):Prop:=(s.byIndex=true->s.key=⟨#[]⟩/\0<=s.index/\s.index<=65536)/\(s.byIndex=false->s.index=0/\s.key.size<=1024/\validD s.key.data.toList=true)
def ou (l:List Stp):Prop:=l.length<=48/\∀ s∈l,Stv s
theorem Stv.gds {s:Stp}(h:Stv s):Gh s:=⟨λhb=>(h.1 hb).2,λhb=>(h.2 hb).2.1⟩
theorem Stv.vs {s:Stp}(h:Stv s):AM s:=⟨λhb=>⟨(h.1 hb).1,(h.1 hb).2.1⟩,λhb=>(h.2 hb).1⟩
def uR (c:ByteArray):Prop:=validD c.data.toList=false\/1024<c.size
open Classical in
noncomputable def se (l:List ByteArray):Int:=if ∃ c∈l,uR c then 1 else if l.Nodup then 0 else 8
theorem aKi {l:List ByteArray}(hi:l[i]?=some c)(hb:uR c):se l=1:=by
 unfold se;rw [U ⟨c,cb hi,hb⟩]
theorem bG1 {l:List ByteArray}(aH:∀ c∈l,¬ uR c)(hi:l[i]?=some c)(hm:c∈l.take i):se l=8:=by
 unfold se;rw [O (by rintro ⟨c,h1,h2⟩;exact aH c h1 h2),O];intro hn;obtain ⟨b8,e⟩:=bT.1 hi;have h1:(l.take (i+1)).Nodup:=(List.take_sublist _ _).nodup hn;rw [p9 b8,e] at h1;exact (List.nodup_append.1 h1).2.2 c hm c (by simp) B
theorem aKh {l:List ByteArray}(aH:∀ c∈l,¬ uR c)(hn:l.Nodup):se l=0:=by
 unfold se;rw [O (by rintro ⟨c,h1,h2⟩;exact aH c h1 h2),U hn]
theorem bYr {l:List ByteArray}(hn:(l.take i).Nodup)(hi:l[i]?=some c)(hm:c∉l.take i):(l.take (i+1)).Nodup:=by
 obtain ⟨b8,e⟩:=bT.1 hi;rw [p9 b8,e];refine List.nodup_append.2 ⟨hn,by simp,?_⟩;intro a a6 b hb Bg;obtain rfl:=hL.1 hb;exact hm (Bg▸a6)
def tK (x:Idx):Prop:=(x.fmt≠1/\x.fmt≠4)\/x.size<0\/1048576<x.size\/x.depth<1\/48<x.depth\/(x.fmt=1/\0<x.cols.length)
def qK (x:Idx)(e:Ent):Prop:=¬ ou e.path\/e.path.length=0\/x.depth<e.path.length\/(x.fmt=4/\2<e.path.length)
def Fs (done:List Ent):Int:=match done.getLast? with | some p=>p.fr | none=>0
def rP (x:Idx)(done:List Ent)(e:Ent):Prop:=e.fr<Fs done\/e.tu<e.fr\/x.size<e.tu
open Classical in
noncomputable def lU (x:Idx)(done:List Ent)(e:Ent):Int:=if qK x e then 21 else if rP x done e then 2 else if ∃ d∈done,d.path=e.path then 8 else 0
open Classical in
noncomputable def sj (x:Idx):List Ent->List Ent->Int
 | _,[]=>0
 | done,e::r=>if lU x done e≠0 then lU x done e else sj x (done++[e]) r
theorem T5 (x:Idx)(l:List Ent):∀ i,i<=l.length->(∀ j e,j<i->l[j]?=some e->lU x (l.take j) e=0)->sj x [] l=sj x (l.take i) (l.drop i)
 | 0,_,_=>by simp
 | i+1,hi,h=>by
  rw [T5 x l i I λj e ax he=>h j e I he];have b8:i<l.length:=I;have ap:=h i l[i] I (bS b8);rw [ph b8]
  conv=>lhs;unfold sj
  rw [O (by rw [ap];simp),p9 b8]
theorem T4 {x:Idx}{l:List Ent}{e:Ent}{m:Int}(he:l[i]?=some e)(h:∀ j e,j<i->l[j]?=some e->lU x (l.take j) e=0)(hm:lU x (l.take i) e=m)(ap:m≠0):sj x [] l=m:=by
 obtain ⟨b8,bk⟩:=bT.1 he;rw [T5 x l i I h,ph b8];unfold sj;rw [bk,hm,U ap]
theorem aLq {x:Idx}{l:List Ent}(h:∀ j e,j<l.length->l[j]?=some e->lU x (l.take j) e=0):sj x [] l=0:=by
 rw [T5 x l l.length (bV _) h];simp [sj]
theorem bJa {x:Idx}{d:List Ent}{e:Ent}(h:qK x e):lU x d e=21:=by unfold lU;rw [U h]
theorem bI9 {x:Idx}{d:List Ent}{e:Ent}(h:¬ qK x e)(h2:rP x d e):lU x d e=2:=by unfold lU;rw [O h,U h2]
theorem bJb {x:Idx}{d:List Ent}{e:Ent}(h:¬ qK x e)(h2:¬ rP x d e)(Y:∃ y∈d,y.path=e.path):lU x d e=8:=by unfold lU;rw [O h,O h2,U Y]
theorem T2 {x:Idx}{d:List Ent}{e:Ent}(h:¬ qK x e)(h2:¬ rP x d e)(Y:¬ ∃ y∈d,y.path=e.path):lU x d e=0:=by unfold lU;rw [O h,O h2,O Y]
theorem MX {x:Idx}{d:List Ent}{e:Ent}(h:lU x d e=0):¬ qK x e/\¬ rP x d e/\¬ ∃ y∈d,y.path=e.path:=by
 unfold lU at h;split at h
 ·simp at h
 . split at h
   ·simp at h
   . split at h
     ·simp at h
     ·exact ⟨by assumption,by assumption,by assumption⟩
def Past (x:Idx)(l:List Ent)(i:Nat):Prop:=∀ j e,j<i->l[j]?=some e->lU x (l.take j) e=0
theorem Past.zero (x:Idx)(l:List Ent):Past x l 0:=λj e ax=>I
theorem Past.succ {x:Idx}{l:List Ent}{e:Ent}(h:Past x l i)(he:l[i]?=some e)(ap:lU x (l.take i) e=0):Past x l (i+1):=by
 intro j bk ax nS;rcases ma j i with h1 | h1
 ·exact h j bk h1 nS
 . obtain rfl:j=i:=I
   rw [he] at nS;cases nS;exact ap
theorem Past.good {x:Idx}{l:List Ent}(h:Past x l i):∀ e∈l.take i,ou e.path:=by
 intro e he;obtain ⟨j,ax⟩:=jX he;have b8:=(bT.1 ax).1;simp at b8;rw [te] at ax;split at ax
 . have:=(MX (h j e cj ax)).1
   unfold qK at this;exact nB.1 λh=>this (.inl h)
 ·cases ax
theorem aR9 {l:List Ent}{e:Ent}(he:l[i]?=some e):Fs (l.take (i+1))=e.fr:=by
 obtain ⟨b8,bk⟩:=bT.1 he;rw [p9 b8,bk];simp [Fs]
theorem Past.last {x:Idx}{l:List Ent}:∀ {i:Nat},Past x l i->i<=l.length->0<=Fs (l.take i)
 | 0,_,_=>by simp [Fs]
 | i+1,h,hi=>by
  have he:l[i]?=some l[i]:=bS I;rw [aR9 he];have h1:=Past.last (i:=i) (λj e ax he=>h j e I he) I;have h2:=(MX (h i l[i] I he)).2.1;unfold rP at h2;omega
open Classical in
noncomputable def h5 (x:Idx):Int:=if tK x then 1 else if se x.cols≠0 then se x.cols else sj x [] x.ents
theorem bGt {x:Idx}(h:tK x):h5 x=1:=by unfold h5;rw [U h]
theorem bGu {x:Idx}(h:¬ tK x)(h2:se x.cols≠0):h5 x=se x.cols:=by unfold h5;rw [O h,U h2]
theorem HH {x:Idx}(h:¬ tK x)(h2:se x.cols=0):h5 x=sj x [] x.ents:=by unfold h5;rw [O h,O (by rw [h2];simp)]
theorem aV0 {x:Idx}{l:List Ent}{e:Ent}(h:Past x l i)(aH:ou e.path):bs (jy e.path)∈(l.take i).map (λy=>bs (jy y.path))↔∃ y∈l.take i,y.path=e.path:=by
 constructor
 . intro hm
   obtain ⟨y,hy,bm⟩:=lm.1 hm;refine ⟨y,hy,?_⟩;have aZ:jy y.path=jy e.path:=by
    have:=aD (λb:ByteArray=>b.data.toList) bm;simpa [bs] using this
   exact cAo (λs hs=>((h.good y hy).2 s hs).vs) (λs hs=>(aH.2 s hs).vs) aZ
 . rintro ⟨y,hy,bm⟩
   exact lm.2 ⟨y,hy,by rw [bm]⟩
end Go.Dk
end
section
namespace Go.Proofs.YthiafbkolhnadaaGreatDoor
open Go Go.Dk Go.RowKit Go.Lib
variable {u:List UInt8}
def dB (l:List UInt8):Nat:=fB (bs l) 0
theorem xN (l:List UInt8)(a:Nat):fB (bs l) a=dB (l.drop a):=by
 unfold dB fB aY;simp only [tp,gI,du,bC,Nat.sub_zero,gb,gV]
theorem us {l:List UInt8}(h:l≠[]):dB l<=l.length/\dB l<=4:=by
 have:=Kv (bs l) 0 (by rw [gI];exact gF.2 h);rw [gI] at this;unfold dB;omega
theorem cHh {c:UInt8}{t:List UInt8}(h:c.toNat<128):dB (c::t)=1:=by
 unfold dB fB;exact HP (by show (l8 (c::t) 0 0).toNat<128;simpa using h)
def eO (c:UInt8):Option Nat:=if bf c then some (c.toNat-48) else if 97<=c.toNat/\c.toNat<=102 then some (c.toNat-87) else if 65<=c.toNat/\c.toNat<=70 then some (c.toNat-55) else none
def kX:Nat->List UInt8->Nat->Nat×Nat
 | 0,_,n=>(0,n)
 | _+1,[],_=>(4,0)
 | k+1,c::t,n=>match eO c with
  | none=>(3,0)
  | some d=>kX k t (16*n+d)
def bJ (u:List UInt8):Nat×Nat:=kX 4 u 0
theorem Fh {c:UInt8}{d:Nat}(h:eO c=some d):d<16:=by
 unfold eO at h;split at h
 ·rename_i hc;unfold bf at hc;cases h;omega
 . split at h
   ·cases h;omega
   . split at h
     ·cases h;omega
     ·cases h
theorem aN7:∀ (k:Nat) (u:List UInt8) (n N:Nat),n<N->(kX k u n).2<N*16^k
 | 0,u,n,N,h=>by simpa [kX] using h
 | k+1,[],n,N,h=>by
  show (0:Nat)<_;exact Nat.mul_pos I (Nat.pow_pos (by decide))
 | k+1,c::t,n,N,h=>by
  unfold kX
  cases hd:eO c with
  | none=>exact Nat.mul_pos I (Nat.pow_pos (by decide))
  | some d =>
   have h1:=Fh hd;have:=aN7 k t (16*n+d) (N*16) I;rw [Nat.pow_succ,Nat.mul_comm (16^k),<- Nat.mul_assoc];exact this
theorem Ex (u:List UInt8):(bJ u).2<65536:=by
 have:=aN7 4 u 0 1 I;unfold bJ;simpa using this
def kj (c:Nat):Option Nat:=if c=34\/c=92\/c=47 then some c else if c=98 then some 8 else if c=102 then some 12 else if c=110 then some 10 else if c=114 then some 13 else if c=116 then some 9 else none
def bL (u:List UInt8):Nat×Nat×Nat :=
 if u=[] then (4,0,0)
 else if (u.getD 0 0).toNat=117 then
  if (bJ (u.drop 1)).1≠0 then ((bJ (u.drop 1)).1,0,0)
  else if (bJ (u.drop 1)).2<55296\/57343<(bJ (u.drop 1)).2 then (0,(bJ (u.drop 1)).2,5)
  else if 56319<(bJ (u.drop 1)).2 then (5,0,0)
  else if u.length<=5 then (4,0,0)
  else if (u.getD 5 0).toNat≠92 then (5,0,0)
  else if u.length<=6 then (4,0,0)
  else if (u.getD 6 0).toNat≠117 then (5,0,0)
  else if (bJ (u.drop 7)).1≠0 then ((bJ (u.drop 7)).1,0,0)
  else if (bJ (u.drop 7)).2<56320\/57343<(bJ (u.drop 7)).2 then (5,0,0)
  else (0,65536+((bJ (u.drop 1)).2-55296)*1024+(bJ (u.drop 7)).2-56320,11)
 else match kj (u.getD 0 0).toNat with
  | some r=>(0,r,1)
  | none=>(3,0,0)
def iY (u:List UInt8)(s:Nat×List UInt8):Sum (Nat×List UInt8) (Nat×List UInt8×Nat) :=
 if u.length<=s.1 then .inr (4,[],0)
 else if (u.getD s.1 0).toNat=34 then .inr (0,s.2,s.1+1)
 else if (u.getD s.1 0).toNat=92 then
  if (bL (u.drop (s.1+1))).1≠0 then .inr ((bL (u.drop (s.1+1))).1,[],0)
  else .inl (s.1+1+(bL (u.drop (s.1+1))).2.2,s.2++dh (bL (u.drop (s.1+1))).2.1)
 else if (u.getD s.1 0).toNat<32\/dB (u.drop s.1)=0 then .inr (5,[],0)
 else .inl (s.1+dB (u.drop s.1),s.2++(u.drop s.1).take (dB (u.drop s.1)))
def Quo (u:List UInt8)(r:Nat×List UInt8×Nat):Prop:=Lp (fs (iY u)) (1,[]) r
theorem Quo.det{r fj:Nat×List UInt8×Nat}(h:Quo u r)(aU:Quo u fj):r=fj:=Lp.det (M9 _) h aU
def mh (u:List UInt8)(i:Nat):Sum Nat (Nat×Nat) :=
 if u.length<=i then .inr (if (u.getD 1 0).toNat=42 then (4,0) else (0,i))
 else if (u.getD 1 0).toNat=47/\((u.getD i 0).toNat=10\/((u.getD i 0).toNat=13/\i+1<u.length/\(u.getD (i+1) 0).toNat=10)) then .inr (0,i)
 else if (u.getD 1 0).toNat=42/\(u.getD i 0).toNat=42/\i+1<u.length/\(u.getD (i+1) 0).toNat=47 then .inr (0,i+2)
 else if dB (u.drop i)=0 then .inr (5,0)
 else .inl (i+dB (u.drop i))
def Com (u:List UInt8)(r:Nat×Nat):Prop :=
 if u.length<2 then r=(4,0)
 else if (u.getD 1 0).toNat≠47/\(u.getD 1 0).toNat≠42 then r=(3,0)
 else Lp (fs (mh u)) 2 r
theorem Com.det{r fj:Nat×Nat}(h:Com u r)(aU:Com u fj):r=fj:=by
 unfold Com at h aU;split at h
 ·rw [U cj] at aU;rw [h,aU]
 . rw [O cj] at aU
   split at h
   ·rw [U cj] at aU;rw [h,aU]
   ·rw [O cj] at aU;exact Lp.det (M9 _) h aU
open Classical in
noncomputable def gB (u:List UInt8):Nat×Nat :=
 if numb (u.take (pre jD u))\/isBare (u.take (pre jD u)) then (0,pre jD u)
 else if pre jD u=u.length/\begs (u.take (pre jD u)) then (4,0) else (3,0)
def pun (n:Nat):Prop:=n=91\/n=93\/n=123\/n=125\/n=44\/n=58
instance punD (n:Nat):Decidable (pun n):=by unfold pun;infer_instance
def Lex (u:List UInt8)(e k n:Nat):Prop :=
 if ja (u.getD 0 0) then e=0/\k=1/\n=pre ja u
 else if (u.getD 0 0).toNat=10 then e=0/\k=2/\n=1
 else if (u.getD 0 0).toNat=13 then
  if u.length<=1 then e=4/\k=0/\n=0
  else if (u.getD 1 0).toNat=10 then e=0/\k=2/\n=2 else e=3/\k=0/\n=0
 else if (u.getD 0 0).toNat=47 then ∃ m,Com u (e,m)/\k=(if e=0 then 3 else 0)/\n=(if e=0 then m else 0)
 else if pun (u.getD 0 0).toNat then e=0/\k=4/\n=1
 else if (u.getD 0 0).toNat=34 then ∃ o m,Quo u (e,o,m)/\k=(if e=0 then 5 else 0)/\n=(if e=0 then m else 0)
 else if ((u.getD 0 0).toNat=116\/(u.getD 0 0).toNat=98)/\1<u.length/\(u.getD 1 0).toNat=34 then ∃ o m,Quo (u.drop 1) (e,o,m)/\k=(if e=0 then 5 else 0)/\n=(if e=0 then m+1 else 0)
 else if jD (u.getD 0 0) then e=(gB u).1/\k=(if e=0 then 6 else 0)/\n=(if e=0 then (gB u).2 else 0)
 else e=3/\k=0/\n=0
theorem Lex.det{e k n bk j6 n':Nat}(h:Lex u e k n)(aU:Lex u bk j6 n'):e=bk/\k=j6/\n=n':=by
 unfold Lex at h aU;split at h
 ·rw [U cj] at aU;omega
 rw [O cj] at aU;split at h
 ·rw [U cj] at aU;omega
 rw [O cj] at aU;split at h
 . rw [U cj] at aU
   split at h
   ·rw [U cj] at aU;omega
   rw [O cj] at aU;split at h
   ·rw [U cj] at aU;omega
   rw [O cj] at aU;omega
 rw [O cj] at aU;split at h
 . rw [U cj] at aU
   obtain ⟨m,h1,h2,Y⟩:=h;obtain ⟨ud,tC,Bc,yJ⟩:=aU;have:=h1.det tC;simp only [Prod.mk.injEq] at this;obtain ⟨rfl,rfl⟩:=this;exact ⟨B,h2.trans Bc.symm,Y.trans yJ.symm⟩
 rw [O cj] at aU;split at h
 ·rw [U cj] at aU;omega
 rw [O cj] at aU;split at h
 . rw [U cj] at aU
   exact aAw
 rw [O cj] at aU;split at h
 . rw [U cj] at aU
   exact aAw
 rw [O cj] at aU;split at h
 . rw [U cj] at aU
   obtain ⟨rfl,rfl,rfl⟩:=h;obtain ⟨rfl,rfl,rfl⟩:=aU;exact ⟨B,B,B⟩
 rw [O cj] at aU;omega
def kz (s:List UInt8)(a:Nat)(x:Sum Nat (Nat×Nat×Nat×Nat)):Prop :=
 if s.length<=a then x=.inr (0,s.length,0,0)
 else ∃ e k n,Lex (s.drop a) e k n/\x=(if e≠0 then .inr (e,(if e=4 then s.length else a),0,0) else if k<=3 then .inl (a+n) else .inr (0,a,k,n))
theorem cFo (s:List UInt8):∀ a x y,kz s a x->kz s a y->x=y:=by
 intro a x y h aU;unfold kz at h aU;split at h
 ·rw [U cj] at aU;rw [h,aU]
 . rw [O cj] at aU
   obtain ⟨e,k,n,h1,rfl⟩:=h;obtain ⟨bk,j6,n',tC,rfl⟩:=aU;obtain ⟨rfl,rfl,rfl⟩:=h1.det tC
   rfl
def Tok (s:List UInt8)(a:Nat)(r:Nat×Nat×Nat×Nat):Prop:=Lp (kz s) a r
theorem Tok.det {s:List UInt8}{a:Nat}{r fj:Nat×Nat×Nat×Nat}(h:Tok s a r)(aU:Tok s a fj):r=fj:=Lp.det (cFo s) h aU
end Go.Proofs.YthiafbkolhnadaaGreatDoor
end
section
namespace Go.Proofs.YthiafbkolhnadaaGreatDoor
open Go Go.Dk Go.RowKit Go.Lib
inductive T where
 | mk (kind:Nat) (lead text:List UInt8) (kids:List T) (tail:List UInt8)
def T.kind:T->Nat | .mk k _ _ _ _=>k
def T.lead:T->List UInt8 | .mk _ a _ _ _=>a
def T.text:T->List UInt8 | .mk _ _ b _ _=>b
def T.kids:T->List T | .mk _ _ _ ks _=>ks
def T.tail:T->List UInt8 | .mk _ _ _ _ c=>c
mutual
def T.print:T->List UInt8
 | .mk _ a b ks c=>a++b++prints ks++c
def prints:List T->List UInt8
 | []=>[]
 | t::ts=>t.print++prints ts
end
mutual
def T.count:T->Nat
 | .mk _ _ _ ks _=>1+counts ks
def counts:List T->Nat
 | []=>0
 | t::ts=>t.count+counts ts
end
theorem sO:∀ a b:List T,prints (a++b)=prints a++prints b
 | [],b=>by simp [prints]
 | t::a,b=>by simp [prints,sO a b]
theorem tx:∀ a b:List T,counts (a++b)=counts a+counts b
 | [],b=>by simp [counts]
 | t::a,b=>by simp [counts,tx a b];omega
def sub (s:List UInt8)(a n:Nat):List UInt8:=(s.drop a).take n
theorem qN {s:List UInt8}{a n:Nat}(h:a+n<=s.length):(sub s a n).length=n:=by
 unfold sub;rw [dS,bC];omega
theorem aWe {s:List UInt8}{a m n:Nat}:sub s a m++sub s (a+m) n=sub s a (m+n):=by
 unfold sub;rw [<- fE,List.take_add]
theorem aWf (s:List UInt8):sub s 0 s.length=s:=by unfold sub;simp
def zX:List UInt8:=[110,117,108,108]
def wc:List UInt8:=[116,114,117,101]
def wb:List UInt8:=[102,97,108,115,101]
def starts (x:List UInt8)(k:Nat):Prop:=(k=4/\(x=[91]\/x=[123]))\/k=5\/(k=6/\(numb x\/x=zX\/x=wc\/x=wb))
structure Sx where
 dec:List UInt8->Nat
 mom:List UInt8->Nat
 txt:List UInt8->Nat
 b64:List UInt8->Nat
open Classical in
def ScR (X:Sx)(x:List UInt8)(e:Nat):Prop :=
 if x=zX\/x=wc\/x=wb then e=0
 else if (x.getD 0 0).toNat=34 then ∃ o m,Quo x (0,o,m)/\e=X.txt o
 else if (x.getD 0 0).toNat=116 then ∃ o m,Quo (x.drop 1) (0,o,m)/\e=X.mom o
 else if (x.getD 0 0).toNat=98 then ∃ o m,Quo (x.drop 1) (0,o,m)/\e=X.b64 o
 else e=X.dec x
theorem ScR.det {X:Sx}{x:List UInt8}{e bk:Nat}(h:ScR X x e)(aU:ScR X x bk):e=bk:=by
 have key:∀ (u:List UInt8) (f:List UInt8->Nat),(∃ o m,Quo u (0,o,m)/\e=f o)->(∃ o m,Quo u (0,o,m)/\bk=f o)->e=bk:=by
  rintro u f ⟨o,m,h1,rfl⟩ ⟨gu,ud,tC,rfl⟩;have:=h1.det tC;simp only [Prod.mk.injEq] at this;rw [this.2.1]
 unfold ScR at h aU;split at h
 ·rw [U cj] at aU;rw [h,aU]
 rw [O cj] at aU;split at h
 ·rw [U cj] at aU;exact key _ _ h aU
 rw [O cj] at aU;split at h
 ·rw [U cj] at aU;exact key _ _ h aU
 rw [O cj] at aU;split at h
 ·rw [U cj] at aU;exact key _ _ h aU
 rw [O cj] at aU;rw [h,aU]
def keyT (x:List UInt8)(k:Nat):Prop:=(k=6/\isBare x)\/(k=5/\(x.getD 0 0).toNat=34)
def KeyR (x key:List UInt8):Prop:=if (x.getD 0 0).toNat=34 then ∃ m,Quo x (0,key,m) else key=x
theorem KeyR.det {x a b:List UInt8}(h:KeyR x a)(aU:KeyR x b):a=b:=by
 unfold KeyR at h aU;split at h
 . rw [U cj] at aU
   obtain ⟨m,h1⟩:=h;obtain ⟨ud,tC⟩:=aU;have:=h1.det tC;simp only [Prod.mk.injEq] at this;exact this.2.1
 ·rw [O cj] at aU;rw [h,aU]
def unx (s:List UInt8)(a k:Nat):Nat×Nat:=if k=0 then (s.length,4) else (a,3)
structure Kr where
 kids:List T
 keys:List (List UInt8)
 lead:List UInt8
 a:Nat
 k:Nat
 n:Nat
inductive KeyP (s:List UInt8) (keys:List (List UInt8)) (lead:List UInt8) (a k n:Nat):Bool->Sum (Nat×Nat) Kr->Prop
 | list:KeyP s keys lead a k n false (.inr ⟨[],keys,lead,a,k,n⟩)
 | noKey (h:¬ keyT (sub s a n) k):KeyP s keys lead a k n true (.inl (unx s a k))
 | long {key} (h:keyT (sub s a n) k) (hk:KeyR (sub s a n) key) (hl:1024<key.length):KeyP s keys lead a k n true (.inl (a,10))
 | twice {key} (h:keyT (sub s a n) k) (hk:KeyR (sub s a n) key) (hl:key.length<=1024) (hm:key∈keys):KeyP s keys lead a k n true (.inl (a,8))
 | colE {key e o} (h:keyT (sub s a n) k) (hk:KeyR (sub s a n) key) (hl:key.length<=1024) (hm:key∉keys) (ht:Tok s (a+n) (e,o,0,0)) (he:e≠0):KeyP s keys lead a k n true (.inl (o,e))
 | noCol {key a2 k2 n2} (h:keyT (sub s a n) k) (hk:KeyR (sub s a n) key) (hl:key.length<=1024) (hm:key∉keys) (ht:Tok s (a+n) (0,a2,k2,n2)) (hc:sub s a2 n2≠[58]):KeyP s keys lead a k n true (.inl (unx s a2 k2))
 | tokE {key a2 k2 n2 e o} (h:keyT (sub s a n) k) (hk:KeyR (sub s a n) key) (hl:key.length<=1024) (hm:key∉keys) (ht:Tok s (a+n) (0,a2,k2,n2)) (hc:sub s a2 n2=[58]) (ht3:Tok s (a2+n2) (e,o,0,0)) (he:e≠0):KeyP s keys lead a k n true (.inl (o,e))
 | ok {key a2 k2 n2 a3 k3 n3} (h:keyT (sub s a n) k) (hk:KeyR (sub s a n) key) (hl:key.length<=1024) (hm:key∉keys) (ht:Tok s (a+n) (0,a2,k2,n2)) (hc:sub s a2 n2=[58]) (ht3:Tok s (a2+n2) (0,a3,k3,n3)) :
   KeyP s keys lead a k n true (.inr ⟨[.mk 6 lead (sub s a n) [] [],.mk 11 (sub s (a+n) (a2-(a+n))) [58] [] []],keys++[key],sub s (a2+n2) (a3-(a2+n2)),a3,k3,n3⟩)
theorem KeyP.det {s:List UInt8}{keys:List (List UInt8)}{lead:List UInt8}{a k n:Nat}{m:Bool}{r fj:Sum (Nat×Nat) Kr}(h:KeyP s keys lead a k n m r)(aU:KeyP s keys lead a k n m fj):r=fj:=by
 cases h with
 | list=>cases aU;rfl
 | noKey h=>cases aU <;> first | rfl | contradiction
 | long h hk hl=>cases aU with
  | noKey _=>contradiction
  | long _ _ _=>rfl
  | twice _ bX _ _ | colE _ bX _ _ _ _ | noCol _ bX _ _ _ _ | tokE _ bX _ _ _ _ _ _ | ok _ bX _ _ _ _ _=>cases hk.det bX;omega
 | twice h hk hl hm=>cases aU with
  | noKey _=>contradiction
  | long _ bX _=>cases hk.det bX;omega
  | twice _ _ _ _=>rfl
  | colE _ bX _ _ _ _ | noCol _ bX _ _ _ _ | tokE _ bX _ _ _ _ _ _ | ok _ bX _ _ _ _ _=>cases hk.det bX;contradiction
 | colE h hk hl hm ht he=>cases aU with
  | noKey _=>contradiction
  | long _ bX _=>cases hk.det bX;omega
  | twice _ bX _ _=>cases hk.det bX;contradiction
  | colE _ _ _ _ aV _=>cases ht.det aV;rfl
  | noCol _ _ _ _ aV _ | tokE _ _ _ _ aV _ _ _ | ok _ _ _ _ aV _ _=>cases ht.det aV;contradiction
 | noCol h hk hl hm ht hc=>cases aU with
  | noKey _=>contradiction
  | long _ bX _=>cases hk.det bX;omega
  | twice _ bX _ _=>cases hk.det bX;contradiction
  | colE _ _ _ _ aV _=>cases ht.det aV;contradiction
  | noCol _ _ _ _ aV _=>cases ht.det aV;rfl
  | tokE _ _ _ _ aV _ _ _ | ok _ _ _ _ aV _ _=>cases ht.det aV;contradiction
 | tokE h hk hl hm ht hc ht3 he=>cases aU with
  | noKey _=>contradiction
  | long _ bX _=>cases hk.det bX;omega
  | twice _ bX _ _=>cases hk.det bX;contradiction
  | colE _ _ _ _ aV _ | noCol _ _ _ _ aV _=>cases ht.det aV;contradiction
  | tokE _ _ _ _ aV _ BX _=>cases ht.det aV;cases ht3.det BX;rfl
  | ok _ _ _ _ aV _ BX=>cases ht.det aV;cases ht3.det BX;contradiction
 | ok h hk hl hm ht hc ht3=>cases aU with
  | noKey _=>contradiction
  | long _ bX _=>cases hk.det bX;omega
  | twice _ bX _ _=>cases hk.det bX;contradiction
  | colE _ _ _ _ aV _ | noCol _ _ _ _ aV _=>cases ht.det aV;contradiction
  | tokE _ _ _ _ aV _ BX _=>cases ht.det aV;cases ht3.det BX;contradiction
  | ok _ bX _ _ aV _ BX=>cases hk.det bX;cases ht.det aV;cases ht3.det BX;rfl
inductive Cl where
 | val (lead:List UInt8) (a k n depth nodes:Nat)
 | ents (m:Bool) (depth:Nat) (kids:List T) (keys:List (List UInt8)) (p nodes:Nat)
inductive Rs where
 | err (off e:Nat)
 | val (t:T) (p nodes:Nat)
 | ents (kids:List T) (tail:List UInt8) (p nodes:Nat)
def clb (m:Bool):UInt8:=if m then 125 else 93
def opb (m:Bool):UInt8:=if m then 123 else 91
def kdm (m:Bool):Nat:=if m then 4 else 3
inductive Pr (X:Sx) (s:List UInt8) (D N:Nat):Cl->Rs->Prop
 | vBad {lead a k n depth nodes} (h:¬ starts (sub s a n) k):Pr X s D N (.val lead a k n depth nodes) (.err (unx s a k).1 (unx s a k).2)
 | vDepth {lead a k n depth nodes} (h:starts (sub s a n) k) (hd:D<depth):Pr X s D N (.val lead a k n depth nodes) (.err a 9)
 | vNodes {lead a k n depth nodes} (h:starts (sub s a n) k) (hd:depth<=D) (hn:N<=nodes):Pr X s D N (.val lead a k n depth nodes) (.err a 10)
 | vScE {lead a k n depth nodes e} (h:starts (sub s a n) k) (hd:depth<=D) (hn:nodes<N) (hk:k≠4) (hs:ScR X (sub s a n) e) (he:e≠0):Pr X s D N (.val lead a k n depth nodes) (.err a e)
 | vSc {lead a k n depth nodes} (h:starts (sub s a n) k) (hd:depth<=D) (hn:nodes<N) (hk:k≠4) (hs:ScR X (sub s a n) 0):Pr X s D N (.val lead a k n depth nodes) (.val (.mk 2 lead (sub s a n) [] []) (a+n) (nodes+1))
 | vEntsE {lead a n depth nodes m o e} (h:sub s a n=[opb m]) (hd:depth<=D) (hn:nodes<N) (t:Pr X s D N (.ents m depth [] [] (a+n) (nodes+1)) (.err o e)):Pr X s D N (.val lead a 4 n depth nodes) (.err o e)
 | vEnts {lead a n depth nodes m kids tail p nodes'} (h:sub s a n=[opb m]) (hd:depth<=D) (hn:nodes<N) (t:Pr X s D N (.ents m depth [] [] (a+n) (nodes+1)) (.ents kids tail p nodes')):Pr X s D N (.val lead a 4 n depth nodes) (.val (.mk (kdm m) lead [opb m] kids tail) p nodes')
 | eTok {m depth kids keys p nodes e o} (ht:Tok s p (e,o,0,0)) (he:e≠0):Pr X s D N (.ents m depth kids keys p nodes) (.err o e)
 | eEnd {m depth kids keys p nodes a k n} (ht:Tok s p (0,a,k,n)) (hx:sub s a n=[clb m]):Pr X s D N (.ents m depth kids keys p nodes) (.ents kids (sub s p (a-p)++[clb m]) (a+n) nodes)
 | eKey {m depth kids keys p nodes a k n oe} (ht:Tok s p (0,a,k,n)) (hx:sub s a n≠[clb m]) (hk:KeyP s keys (sub s p (a-p)) a k n m (.inl oe)):Pr X s D N (.ents m depth kids keys p nodes) (.err oe.1 oe.2)
 | eVal {m depth kids keys p nodes a k n y o e} (ht:Tok s p (0,a,k,n)) (hx:sub s a n≠[clb m]) (hk:KeyP s keys (sub s p (a-p)) a k n m (.inr y)) (hv:Pr X s D N (.val y.lead y.a y.k y.n (depth+1) nodes) (.err o e)):Pr X s D N (.ents m depth kids keys p nodes) (.err o e)
 | eTok2 {m depth kids keys p nodes a k n y t p' nodes' e o} (ht:Tok s p (0,a,k,n)) (hx:sub s a n≠[clb m]) (hk:KeyP s keys (sub s p (a-p)) a k n m (.inr y)) (hv:Pr X s D N (.val y.lead y.a y.k y.n (depth+1) nodes) (.val t p' nodes')) (ht2:Tok s p' (e,o,0,0)) (he:e≠0):Pr X s D N (.ents m depth kids keys p nodes) (.err o e)
 | eLast {m depth kids keys p nodes a k n y t p' nodes' a2 k2 n2} (ht:Tok s p (0,a,k,n)) (hx:sub s a n≠[clb m]) (hk:KeyP s keys (sub s p (a-p)) a k n m (.inr y)) (hv:Pr X s D N (.val y.lead y.a y.k y.n (depth+1) nodes) (.val t p' nodes')) (ht2:Tok s p' (0,a2,k2,n2)) (hx2:sub s a2 n2=[clb m]) :
   Pr X s D N (.ents m depth kids keys p nodes) (.ents (kids++[.mk 5 [] [] (y.kids++[t]) []]) (sub s p' (a2-p')++[clb m]) (a2+n2) nodes')
 | eBad {m depth kids keys p nodes a k n y t p' nodes' a2 k2 n2} (ht:Tok s p (0,a,k,n)) (hx:sub s a n≠[clb m]) (hk:KeyP s keys (sub s p (a-p)) a k n m (.inr y)) (hv:Pr X s D N (.val y.lead y.a y.k y.n (depth+1) nodes) (.val t p' nodes')) (ht2:Tok s p' (0,a2,k2,n2)) (hx2:sub s a2 n2≠[clb m]) (hx3:sub s a2 n2≠[44]) :
   Pr X s D N (.ents m depth kids keys p nodes) (.err (unx s a2 k2).1 (unx s a2 k2).2)
 | eMore {m depth kids keys p nodes a k n y t p' nodes' a2 k2 n2 r} (ht:Tok s p (0,a,k,n)) (hx:sub s a n≠[clb m]) (hk:KeyP s keys (sub s p (a-p)) a k n m (.inr y)) (hv:Pr X s D N (.val y.lead y.a y.k y.n (depth+1) nodes) (.val t p' nodes')) (ht2:Tok s p' (0,a2,k2,n2)) (hx3:sub s a2 n2=[44])
   (hr:Pr X s D N (.ents m depth (kids++[.mk 5 [] [] (y.kids++[t,.mk 11 (sub s p' (a2-p')) [44] [] []]) []]) y.keys (a2+n2) nodes') r):Pr X s D N (.ents m depth kids keys p nodes) r
theorem Pt {m ud:Bool}(h:[opb m]=[opb ud]):m=ud:=by cases m <;> cases ud <;> first | rfl | (exfalso;revert h;decide)
theorem aKg (m:Bool):([44]:List UInt8)≠[clb m]:=by cases m <;> decide
theorem cEe {x:List UInt8}(h:starts x 4):∃ m,x=[opb m]:=by
 rcases h with ⟨_,h | h⟩ | h | ⟨h,_⟩
 ·exact ⟨false,h⟩
 ·exact ⟨true,h⟩
 ·omega
 ·omega
theorem PX {x:List UInt8}{m:Bool}(h:x=[opb m]):starts x 4:=by
 subst h;cases m
 ·exact .inl ⟨B,.inl B⟩
 ·exact .inl ⟨B,.inr B⟩
theorem Pr.det {X:Sx}{s:List UInt8}{D N:Nat}{c:Cl}{r:Rs}(h:Pr X s D N c r):∀ {fj:Rs},Pr X s D N c fj->r=fj:=by
 induction h with
 | vBad h=>intro fj aU;cases aU <;> first | rfl | contradiction | exact absurd (PX cj) h
 | vDepth h hd=>intro fj aU;cases aU <;> first | rfl | contradiction | omega
 | vNodes h hd hn=>intro fj aU;cases aU <;> first | rfl | contradiction | omega
 | vScE h hd hn hk hs he=>intro fj aU;cases aU with
  | vScE _ _ _ _ ze _=>cases hs.det ze;rfl
  | vSc _ _ _ _ ze=>cases hs.det ze;contradiction
  | _=>first | contradiction | omega
 | vSc h hd hn hk hs=>intro fj aU;cases aU with
  | vScE _ _ _ _ ze _=>cases hs.det ze;contradiction
  | vSc _ _ _ _ ze=>rfl
  | _=>first | contradiction | omega
 | vEntsE h hd hn t ih=>intro fj aU;cases aU with
  | vBad h2=>exact absurd (PX h) h2
  | vEntsE h2 _ _ t2=>cases Pt (h.symm.trans h2);cases ih t2;rfl
  | vEnts h2 _ _ t2=>cases Pt (h.symm.trans h2);cases ih t2
  | _=>first | contradiction | omega
 | vEnts h hd hn t ih=>intro fj aU;cases aU with
  | vBad h2=>exact absurd (PX h) h2
  | vEntsE h2 _ _ t2=>cases Pt (h.symm.trans h2);cases ih t2
  | vEnts h2 _ _ t2=>cases Pt (h.symm.trans h2);cases ih t2;rfl
  | _=>first | contradiction | omega
 | eTok ht he=>intro fj aU;cases aU with
  | eTok aV _=>cases ht.det aV;rfl
  | eEnd aV _ | eKey aV _ _ | eVal aV _ _ _ | eTok2 aV _ _ _ _ _ | eLast aV _ _ _ _ _ | eBad aV _ _ _ _ _ _ | eMore aV _ _ _ _ _ _=>cases ht.det aV;contradiction
 | eEnd ht hx=>intro fj aU;cases aU with
  | eTok aV _=>cases ht.det aV;contradiction
  | eEnd aV _=>cases ht.det aV;rfl
  | eKey aV _ _ | eVal aV _ _ _ | eTok2 aV _ _ _ _ _ | eLast aV _ _ _ _ _ | eBad aV _ _ _ _ _ _ | eMore aV _ _ _ _ _ _=>cases ht.det aV;contradiction
 | eKey ht hx hk=>intro fj aU;cases aU with
  | eTok aV _ | eEnd aV _=>cases ht.det aV;contradiction
  | eKey aV _ bX=>cases ht.det aV;cases hk.det bX;rfl
  | eVal aV _ bX _ | eTok2 aV _ bX _ _ _ | eLast aV _ bX _ _ _ | eBad aV _ bX _ _ _ _ | eMore aV _ bX _ _ _ _=>cases ht.det aV;cases hk.det bX
 | eVal ht hx hk hv ih=>intro fj aU;cases aU with
  | eTok aV _ | eEnd aV _=>cases ht.det aV;contradiction
  | eKey aV _ bX=>cases ht.det aV;cases hk.det bX
  | eVal aV _ bX cJ=>cases ht.det aV;cases hk.det bX;cases ih cJ;rfl
  | eTok2 aV _ bX cJ _ _ | eLast aV _ bX cJ _ _ | eBad aV _ bX cJ _ _ _ | eMore aV _ bX cJ _ _ _=>cases ht.det aV;cases hk.det bX;cases ih cJ
 | eTok2 ht hx hk hv ht2 he ih=>intro fj aU;cases aU with
  | eTok aV _ | eEnd aV _=>cases ht.det aV;contradiction
  | eKey aV _ bX=>cases ht.det aV;cases hk.det bX
  | eVal aV _ bX cJ=>cases ht.det aV;cases hk.det bX;cases ih cJ
  | eTok2 aV _ bX cJ fz _=>cases ht.det aV;cases hk.det bX;cases ih cJ;cases ht2.det fz;rfl
  | eLast aV _ bX cJ fz _ | eBad aV _ bX cJ fz _ _ | eMore aV _ bX cJ fz _ _=>cases ht.det aV;cases hk.det bX;cases ih cJ;cases ht2.det fz;contradiction
 | eLast ht hx hk hv ht2 hx2 ih=>intro fj aU;cases aU with
  | eTok aV _ | eEnd aV _=>cases ht.det aV;contradiction
  | eKey aV _ bX=>cases ht.det aV;cases hk.det bX
  | eVal aV _ bX cJ=>cases ht.det aV;cases hk.det bX;cases ih cJ
  | eLast aV _ bX cJ fz _=>cases ht.det aV;cases hk.det bX;cases ih cJ;cases ht2.det fz;rfl
  | eTok2 aV _ bX cJ fz _ | eBad aV _ bX cJ fz _ _=>cases ht.det aV;cases hk.det bX;cases ih cJ;cases ht2.det fz;contradiction
  | eMore aV _ bX cJ fz hx3 _=>cases ht.det aV;cases hk.det bX;cases ih cJ;cases ht2.det fz;exact absurd (hx3.symm.trans hx2) (aKg _)
 | eBad ht hx hk hv ht2 hx2 hx3 ih=>intro fj aU;cases aU with
  | eTok aV _ | eEnd aV _=>cases ht.det aV;contradiction
  | eKey aV _ bX=>cases ht.det aV;cases hk.det bX
  | eVal aV _ bX cJ=>cases ht.det aV;cases hk.det bX;cases ih cJ
  | eBad aV _ bX cJ fz _ _=>cases ht.det aV;cases hk.det bX;cases ih cJ;cases ht2.det fz;rfl
  | eTok2 aV _ bX cJ fz _ | eLast aV _ bX cJ fz _ | eMore aV _ bX cJ fz _ _=>cases ht.det aV;cases hk.det bX;cases ih cJ;cases ht2.det fz;contradiction
 | eMore ht hx hk hv ht2 hx3 hr ih n7=>intro fj aU;cases aU with
  | eTok aV _ | eEnd aV _=>cases ht.det aV;contradiction
  | eKey aV _ bX=>cases ht.det aV;cases hk.det bX
  | eVal aV _ bX cJ=>cases ht.det aV;cases hk.det bX;cases ih cJ
  | eLast aV _ bX cJ fz hx2=>cases ht.det aV;cases hk.det bX;cases ih cJ;cases ht2.det fz;exact absurd (hx3.symm.trans hx2) (aKg _)
  | eTok2 aV _ bX cJ fz _ | eBad aV _ bX cJ fz _ _=>cases ht.det aV;cases hk.det bX;cases ih cJ;cases ht2.det fz;contradiction
  | eMore aV _ bX cJ fz _ lY=>cases ht.det aV;cases hk.det bX;cases ih cJ;cases ht2.det fz;exact n7 lY
inductive Prs (X:Sx) (s:List UInt8) (D N:Nat):Sum (Nat×Nat) T->Prop
 | tok {e o} (ht:Tok s 0 (e,o,0,0)) (he:e≠0):Prs X s D N (.inl (o,e))
 | val {a k n o e} (ht:Tok s 0 (0,a,k,n)) (hv:Pr X s D N (.val (sub s 0 a) a k n 1 0) (.err o e)):Prs X s D N (.inl (o,e))
 | tok2 {a k n t p nodes e o} (ht:Tok s 0 (0,a,k,n)) (hv:Pr X s D N (.val (sub s 0 a) a k n 1 0) (.val t p nodes)) (ht2:Tok s p (e,o,0,0)) (he:e≠0):Prs X s D N (.inl (o,e))
 | more {a k n t p nodes a2 k2 n2} (ht:Tok s 0 (0,a,k,n)) (hv:Pr X s D N (.val (sub s 0 a) a k n 1 0) (.val t p nodes)) (ht2:Tok s p (0,a2,k2,n2)) (hk:k2≠0):Prs X s D N (.inl (a2,3))
 | ok {a k n t p nodes a2 n2} (ht:Tok s 0 (0,a,k,n)) (hv:Pr X s D N (.val (sub s 0 a) a k n 1 0) (.val t p nodes)) (ht2:Tok s p (0,a2,0,n2)):Prs X s D N (.inr (.mk 1 [] [] [t] (sub s p (a2-p))))
theorem Prs.det {X:Sx}{s:List UInt8}{D N:Nat}{r fj:Sum (Nat×Nat) T}(h:Prs X s D N r)(aU:Prs X s D N fj):r=fj:=by
 cases h with
 | tok ht he=>cases aU with
  | tok aV _=>cases ht.det aV;rfl
  | val aV _ | tok2 aV _ _ _ | more aV _ _ _ | ok aV _ _=>cases ht.det aV;contradiction
 | val ht hv=>cases aU with
  | tok aV _=>cases ht.det aV;contradiction
  | val aV cJ=>cases ht.det aV;cases hv.det cJ;rfl
  | tok2 aV cJ _ _ | more aV cJ _ _ | ok aV cJ _=>cases ht.det aV;cases hv.det cJ
 | tok2 ht hv ht2 he=>cases aU with
  | tok aV _=>cases ht.det aV;contradiction
  | val aV cJ=>cases ht.det aV;cases hv.det cJ
  | tok2 aV cJ fz _=>cases ht.det aV;cases hv.det cJ;cases ht2.det fz;rfl
  | more aV cJ fz _ | ok aV cJ fz=>cases ht.det aV;cases hv.det cJ;cases ht2.det fz;contradiction
 | more ht hv ht2 hk=>cases aU with
  | tok aV _=>cases ht.det aV;contradiction
  | val aV cJ=>cases ht.det aV;cases hv.det cJ
  | more aV cJ fz _=>cases ht.det aV;cases hv.det cJ;cases ht2.det fz;rfl
  | tok2 aV cJ fz _ | ok aV cJ fz=>cases ht.det aV;cases hv.det cJ;cases ht2.det fz;contradiction
 | ok ht hv ht2=>cases aU with
  | tok aV _=>cases ht.det aV;contradiction
  | val aV cJ=>cases ht.det aV;cases hv.det cJ
  | ok aV cJ fz=>cases ht.det aV;cases hv.det cJ;cases ht2.det fz;rfl
  | tok2 aV cJ fz _ | more aV cJ fz _=>cases ht.det aV;cases hv.det cJ;cases ht2.det fz;contradiction
end Go.Proofs.YthiafbkolhnadaaGreatDoor
end
section
namespace Go.Dk
open Go Go.RowKit Go.Lib
variable {x:Idx}
theorem bXz {α:Type}{l:List α}{i:Nat}{x y:α}(h:l[i]?=some x)(hy:y∈l.take (i+1)):y∈l.take i\/y=x:=by
 obtain ⟨b8,e⟩:=bT.1 h;rw [p9 b8,e] at hy;simpa using hy
theorem aLr:∀ {l d:List Ent},sj x d l=0->∀ j e,l[j]?=some e->lU x (d++l.take j) e=0
 | [],_,_,j,e,h=>by simp at h
 | a::l,d,ap,j,e,h=>by
  unfold sj at ap;split at ap
  ·rename_i h1;exact absurd ap h1
  . rename_i h1
    cases j with
    | zero =>
     simp at h;subst h;simpa using nB.1 h1
    | succ j =>
     have:=aLr ap j e ku;simpa using this
theorem aKc(h:h5 x=0):Past x x.ents x.ents.length:=by
 unfold h5 at h;split at h
 ·cases h
 . split at h
   ·rename_i h2;exact absurd h h2
   . intro j e _ he
     have:=aLr h j e he;simpa using this
theorem aKb(h:h5 x=0):∀ e∈x.ents,ou e.path/\0<e.path.length:=by
 intro e he;obtain ⟨j,ax⟩:=jX he;have h1:=(MX (aKc h j e (bT.1 ax).1 ax)).1;unfold qK at h1;exact ⟨nB.1 λh=>h1 (.inl h),I⟩
theorem aKe(h:h5 x=0):¬ tK x:=by
 intro hb;unfold h5 at h;rw [U hb] at h;cases h
end Go.Dk
namespace Go.Dk
theorem qP {α:Type}{l:List α}{i:Nat}{x:α}(h:l[i]?=some x):l.take (i+1)=l.take i++[x]:=by
 obtain ⟨b8,e⟩:=bT.1 h;rw [p9 b8,e]
end Go.Dk
namespace Go.Dk
open Go Go.RowKit Go.Lib
theorem zH (s:Stp):(e6 s).length=3:=rfl
theorem If:∀ (l:List Stp),(l.flatMap e6).length=l.length*3
 | []=>rfl
 | s::l=>by simp only [gE,aQ,zH,If l,cf];omega
theorem Ul:∀ (l:List Stp) (i j:Nat) (x:Stp) (v:Value),l[i]?=some x->(e6 x)[j]?=some v->(l.flatMap e6)[i*3+j]?=some v
 | [],i,j,x,v,h,_=>by simp at h
 | s::l,0,j,x,v,h,ax=>by
  simp at h;subst h;have:j<3:=by have:=(bT.1 ax).1;simpa [zH] using this
  rw [gE,l9 (by rw [zH];omega)];simpa using ax
 | s::l,i+1,j,x,v,h,ax=>by
  rw [gE,pj (by rw [zH];omega),zH,show (i+1)*3+j-3=i*3+j by omega];exact Ul l i j x v ku ax
theorem aMd:∀ (l:List Stp) (n:Nat) (v:Value),(l.flatMap e6)[n]?=some v->∃ x,l[n / 3]?=some x/\(e6 x)[n%3]?=some v
 | [],n,v,h=>by simp at h
 | s::l,n,v,h=>by
  rw [gE] at h;rcases ma n 3 with hn | hn
  . rw [l9 (by rw [zH];omega)] at h
    refine ⟨s,?_,?_⟩
    ·rw [show n / 3=0 by omega];rfl
    ·rw [show n%3=n by omega];exact h
  . rw [pj (by rw [zH];omega),zH] at h
    obtain ⟨x,h1,h2⟩:=aMd l (n-3) v h;refine ⟨x,?_,?_⟩
    ·rw [show n / 3=(n-3) / 3+1 by omega];simpa using h1
    ·rw [show n%3=(n-3)%3 by omega];exact h2
theorem aMe (l:List Stp):(l.flatMap e6).all (·.oneCell')=true:=by
 rw [p7];intro v hv;obtain ⟨s,_,hs⟩:=List.mem_flatMap.1 hv;simp [e6] at hs;rcases hs with rfl | rfl | rfl <;> rfl
theorem Pth.src {w:World}{s:Value}{l:List Stp}(h:Pth w s l)(ap:0<l.length):∃ b o c,s=.slice (some ⟨b,o,none⟩) l.length c/\RowAt w b o (l.flatMap e6):=by
 obtain ⟨b,o,hs,hr⟩:=h;rcases hs with ⟨h1,_⟩ | ⟨ad,cap,rfl,_,h1⟩
 ·omega
 . obtain ⟨rfl,_⟩:=h1 ap
   refine ⟨b,o,cap,B,λn v hn=>?_⟩;obtain ⟨x,hx,hv⟩:=aMd l n v hn;have:=hr (n / 3) x hx (n%3) v hv;rwa [show o+n / 3*3+n%3=o+n by omega] at this
theorem Pth.ofRow {w:World}{b o c n:Nat}{l:List Stp}(hb:b<w.heap.size)(hn:n=l.length)(hc:n<=c)(h:RowAt w b o (l.flatMap e6)):Pth w (.slice (some ⟨b,o,none⟩) n c) l:=by
 subst hn;refine ⟨b,o,.inr ⟨_,_,B,hc,λ_=>⟨B,hb⟩⟩,λi x hx j v hv=>?_⟩;have:=h (i*3+j) v (Ul l i j x v hx hv);rwa [show o+(i*3+j)=o+i*3+j by omega] at this
theorem Cxr.rowS {w0 w:World}{L:List (Nat×Obj)}{R:List Row}{e k n:Nat}{v:Value}{xs:List Value}(h:Cxr w0 w L (⟨e,k,v,n,xs⟩::R))(ap:0<xs.length):∃ g c,v=.slice (some ⟨g,0,none⟩) n c/\n<=c/\g<w.heap.size/\RowAt w g 0 xs:=by
 have cz:=h.rows _ (b9 ..);simp only at cz;rcases cz.2 with ⟨_,h2⟩ | ⟨g,cap,cg,rfl,hb,aH,vo,Bv,ia,Ju⟩
 . exfalso
   have:=cz.1;rw [h2] at this;simp at this;rw [this] at ap;simp at ap
 . refine ⟨g,cap,B,vo,(Array.getElem?_eq_some_iff.1 aH).1,λj x ax=>?_⟩
   have:=cz.cells (g:=g) B j x ax;rwa [q7] at this
section
variable {P:Program} {o:Oper} {w:World} {ρ:Operand->Value}
end
end Go.Dk
namespace Go.Dk
open Go Go.RowKit Go.Lib
end Go.Dk
end
section
namespace Go.Dk
open Go Go.RowKit Go.Lib
end Go.Dk
end
section
namespace Go.Dk
open Go Go.RowKit Go.Lib
variable {x:Stp}
def FF (s:ByteArray)(j:Nat):Prop:=qF (fu s j)\/(0<j/\uS (fu s j))
def Eg (s:ByteArray)(n:Nat):Prop:=n<=s.size/\(∀ j,j<n->FF s j)/\(n<s.size->¬ FF s n)
theorem Uq (s:ByteArray):∃ n,Eg s n:=by
 by_cases h:∃ k,k<s.size/\¬ FF s k
 . obtain ⟨k,hk,hm⟩:=Fv h
   refine ⟨k,I,λj ax=>?_,λ_=>hk.2⟩;exact nB.1 λhn=>by have:=hm j ⟨I,hn⟩;omega
 . refine ⟨s.size,bV _,λj ax=>?_,λh=>I⟩
   exact nB.1 λhn=>h ⟨j,ax,hn⟩
theorem bMf {s:ByteArray}{m n:Nat}(h:Eg s m)(h2:Eg s n):m=n:=by
 rcases Nat.lt_trichotomy m n with hl | hl | hl
 ·exact absurd (h2.2.1 m hl) (h.2.2 (by have:=h2.1;omega))
 ·exact hl
 ·exact absurd (h.2.1 n hl) (h2.2.2 (by have:=h.1;omega))
noncomputable def Ih (s:ByteArray):Nat:=Classical.choose (Uq s)
theorem aMl {s:ByteArray}{n:Nat}(h:Eg s n):Ih s=n:=bMf (QQ (Uq s)) h
theorem aS3 (s:ByteArray):(s≠⟨#[]⟩/\(Ih s:Int)=s.size)↔vw s:=by
 have h:=QQ (Uq s)
 change Eg s (Ih s) at h
 constructor
 . rintro ⟨h1,h2⟩
   have e:Ih s=s.size:=I;refine ⟨?_,λj ax=>h.2.1 j I⟩;rcases tg s.size with ap | ap
   ·exact absurd (ByteArray.size_eq_zero_iff.1 ap) h1
   ·exact ap
 . intro hn
   refine ⟨λe=>?_,?_⟩
   . have:=hn.1
     rw [e] at this;exact absurd this (by decide)
   ·rw [aMl (n:=s.size) ⟨bV _,λj ax=>hn.2 j ax,λh=>I⟩]
def n8 (l:List Stp):List UInt8:=match l with
 | s::_=>if s.byIndex then [46] else []
 | []=>[]
theorem bW7 (l:List Stp):(n8 l).length<=1:=by
 unfold n8;split
 ·split <;> simp
 ·simp
theorem aT6 {l:List Stp}(h:l≠[]):jy l=n8 l++l.flatMap fZ:=by
 cases l with
 | nil=>exact absurd rfl h
 | cons s l=>rfl
theorem cEh(h:x.byIndex=true):fZ x=[91]++itoa x.index++[93]:=by unfold fZ;rw [U h]
theorem cEi(h:x.byIndex=false)(h2:vw x.key):fZ x=[46]++x.key.data.toList:=by
 unfold fZ;rw [O (by rw [h];exact qR),U h2];rfl
theorem cEj(h:x.byIndex=false)(h2:¬ vw x.key):fZ x=[46]++([34]++jz x.key.data.toList++[34]):=by
 unfold fZ;rw [O (by rw [h];exact qR),O h2];rfl
theorem xv {n:Int}(ap:0<=n)(h1:n<=1048576):(itoa n).length<=7:=by
 have Y:n=((n.toNat:Nat):Int):=I;rw [Y,Fl];exact TG 6 n.toNat I
section
variable {w0 w:World} {L:List (Nat×Obj)} {R:List Row}
theorem aSe {l:List Stp}{c1:Stp}(h:l[0]?=some c1)(hb:c1.byIndex=true):n8 l=[46]:=by
 cases l with
 | nil=>simp at h
 | cons s l=>simp at h;subst h;simp [n8,hb]
theorem aSd {l:List Stp}{c1:Stp}(h:l[0]?=some c1)(hb:c1.byIndex=false):n8 l=[]:=by
 cases l with
 | nil=>simp at h
 | cons s l=>simp at h;subst h;simp [n8,hb]
end
end Go.Dk
namespace Go.Dk
open Go Go.RowKit Go.Lib
theorem cAp (l:List Stp):0<(jy l).length:=by
 cases l with
 | nil=>simp [jy]
 | cons s l =>
  have:=P0 s;simp only [jy,gE,aQ];omega
end Go.Dk
end
section
namespace Go.Dk
open Go Go.RowKit Go.Lib
def xK (b:UInt8):UInt8:=if b=34 then 34 else if b=92 then 92 else if b=8 then 98 else if b=12 then 102 else if b=10 then 110 else if b=13 then 114 else if b=9 then 116 else 0
def Cz (b:UInt8):List UInt8:=if xK b≠0 then [92,xK b] else if b<32 then [92,117,48,48,mn (b.toNat / 16),mn (b.toNat%16)] else [b]
def xH (l:List UInt8):List UInt8:=l.flatMap Cz
theorem cD4 (b:UInt8):(Cz b).length<=6:=by
 unfold Cz;split
 ·simp
 ·split <;> simp
theorem aUz (l:List UInt8):(xH l).length<=6*l.length:=by
 induction l with
 | nil=>simp [xH]
 | cons b l ih =>
  have:=cD4 b;simp only [xH,gE,aQ,cf] at ih ⊢;omega
theorem Yq (s:ByteArray)(i:Nat)(hi:i<s.size):xH (s.data.toList.take (i+1))=xH (s.data.toList.take i)++Cz (s.data.toList.getD i 0):=by
 have dK:i<s.data.toList.length:=by simpa using hi
 rw [p9 dK];simp [xH,l8,bS dK]
def sf (s:ByteArray):List UInt8:=[34]++xH s.data.toList++[34]
end Go.Dk
namespace Go.Dk
open Go Go.RowKit Go.Lib
end Go.Dk
end
section
namespace Go.Dk
open Go Go.RowKit Go.Lib
theorem aXm (a z:List UInt8)(h:∀ b∈a,b.toNat<128):validD (a++z)=validD z:=by
 have:=validD_ascii a.length (a++z) (by rw [List.take_left];exact h);rw [List.drop_left] at this;exact this
theorem bMa (b:Nat)(h:2<=firstT b%8):128<=accLo (firstT b / 16):=by
 have h2:firstT b=240\/firstT b=241\/firstT b=2\/firstT b=19\/firstT b=3\/firstT b=35\/firstT b=52\/firstT b=4\/firstT b=68:=by
  unfold firstT
  repeat' split
  all_goals omega
 rcases h2 with e | e | e | e | e | e | e | e | e <;> rw [e] at h ⊢ <;> revert h <;> decide
theorem bGs {n b1 b2 b3 sz lo hi k:Nat}(h:checkN n b1 b2 b3 sz lo hi=some k)(j3:2<=sz->128<=lo) :
  2<=k/\k<=n/\128<=b1/\(2<k->128<=b2)/\(3<k->128<=b3)/\k<=4/\∀ n' a7 eL,k<=n'->(2<k->a7=b2)->(3<k->eL=b3)->checkN n' b1 a7 eL sz lo hi=some k:=by
 unfold checkN at h;split at h
 . rename_i hs
   split at h
   ·cases h
   . cases h
     have aOw:=j3 I;refine ⟨I,I,I,λh=>I,λh=>I,I,λn' a7 eL h1 h2 Y=>?_⟩;unfold checkN;rw [U hs,O I]
 . rename_i hs
   split at h
   . rename_i aE
     split at h
     ·cases h
     . cases h
       have aOw:=j3 I;refine ⟨I,I,I,λh=>I,λh=>I,I,λn' a7 eL h1 h2 Y=>?_⟩;obtain rfl:=h2 I;unfold checkN;rw [O hs,U aE,O I]
   . rename_i aE
     split at h
     . rename_i aR
       split at h
       ·cases h
       . cases h
         have aOw:=j3 I;refine ⟨I,I,I,λh=>I,λh=>I,I,λn' a7 eL h1 h2 Y=>?_⟩;obtain rfl:=h2 I;obtain rfl:=Y I;unfold checkN;rw [O hs,O aE,U aR,O I]
     ·cases h
theorem Nd (l z:List UInt8)(k j:Nat)(h:j<k)(hk:k<=l.length):(l.take k++z).getD j 0=l.getD j 0:=by
 have h1:j<(l.take k).length:=by rw [dS];omega
 rw [l8,l8,l9 h1,List.getElem?_take_of_lt h]
theorem Ze (l:List UInt8)(hv:validD l=true)(bt:l≠[]) :
  ∃ k,1<=k/\k<=l.length/\(k=1\/∀ b∈l.take k,128<=b.toNat)/\validD (l.drop k)=true/\∀ z,validD (l.take k++z)=validD z:=by
 have hl:0<l.length:=gF.2 bt;by_cases ap:(l.getD 0 0).toNat<128
 . cases l with
   | nil=>exact absurd rfl bt
   | cons b t =>
    have h1:b.toNat<128:=ap;refine ⟨1,I,by simp,.inl B,?_,λz=>?_⟩
    . rw [validD_cons b t h1] at hv
      exact hv
    ·exact validD_cons b z h1
 . have NO:=validD_lead l bt I
   rw [hv] at NO;split at NO
   ·cases NO
   . rename_i k hc
     obtain ⟨h2,hk,er,di,eE,ar,hall⟩:=bGs hc (bMa _);refine ⟨k,I,hk,.inr ?_,NO.symm,λz=>?_⟩
     . intro b hb
       obtain ⟨j,ax⟩:=jX hb;have st:j<k:=by
        have:=(bT.1 ax).1;rw [dS] at this;omega
       rw [List.getElem?_take_of_lt st] at ax;have e:l.getD j 0=b:=by rw [l8,ax];rfl
       have:j=0\/j=1\/j=2\/j=3:=I;rcases this with rfl | rfl | rfl | rfl
       ·rw [e] at ap;omega
       ·rw [e] at er;omega
       ·rw [e] at di;exact di I
       ·rw [e] at eE;exact eE I
     . have kY:(l.take k).length=k:=by rw [dS];omega
       have bRm:l.take k++z≠[]:=by
        intro e;have:=aD eC e;rw [aQ,kY] at this;simp only [dC] at this;omega
       have e0:=Nd l z k 0 I hk;have bm:=Nd l z k 1 I hk;rw [validD_lead _ bRm (by rw [e0];omega),e0,bm,hall _ _ _ Kd (λh=>by rw [Nd l z k 2 h hk]) (λh=>by rw [Nd l z k 3 h hk])];simp only;rw [List.drop_append_of_le_length I,AD I]
       rfl
theorem aXp (g:UInt8->List UInt8)(h1:∀ b,128<=b.toNat->g b=[b])(h2:∀ b,b.toNat<128->∀ x∈g b,x.toNat<128) :
  ∀ (n:Nat) (l:List UInt8),l.length<=n->validD l=true->∀ z,validD (l.flatMap g++z)=validD z
 | 0,l,hl,_,z=>by
  obtain rfl:=p8 (show l.length=0 by omega)
  rfl
 | n+1,l,hl,hv,z=>by
  by_cases bt:l=[]
  ·subst bt;rfl
  . obtain ⟨k,eI,lE,hk,cJ,hz⟩:=Ze l hv bt
    have e:l.flatMap g=(l.take k).flatMap g++(l.drop k).flatMap g:=by rw [<- List.flatMap_append,List.take_append_drop]
    have ih:=aXp g h1 h2 n (l.drop k) jx cJ z;rw [e,eB];by_cases a6:∀ b∈l.take k,128<=b.toNat
    . have aZ:(l.take k).flatMap g=l.take k:=by
        have:∀ m:List UInt8,(∀ b∈m,128<=b.toNat)->m.flatMap g=m:=by
         intro m hm
         induction m with
         | nil=>rfl
         | cons b t ih=>rw [gE,h1 b (hm b (by simp)),ih λc hc=>hm c (by simp [hc])];rfl
        exact this _ a6
      rw [aZ,hz,ih]
    . obtain rfl:k=1:=hk.resolve_right a6
      rw [aXm _ _ ?_,ih];intro x hx;obtain ⟨b,hb,zl⟩:=List.mem_flatMap.1 hx;have di:b.toNat<128:=by
       cases l with
       | nil=>exact absurd rfl bt
       | cons c t =>
        simp only [jG,iw,hL] at hb;subst hb;rcases ma b.toNat 128 with h | h
        ·exact h
        ·exact absurd (by intro y hy;simp only [jG,iw,hL] at hy;subst hy;exact h) a6
      exact h2 b di x zl
end Go.Dk
end
section
namespace Go.Dk
open Go Go.RowKit Go.Lib
end Go.Dk
end
section
namespace Go.Dk
open Go Go.RowKit Go.Lib
variable {i:Nat}{x:Idx}{c:ByteArray}
def o3 (fmt:Int):List UInt8:=if fmt=4 then [100,101,108,105,109] else [98,114,97,99,101]
noncomputable def yV (x:Idx):List UInt8:=[105,110,100,101,120,32]++o3 x.fmt++[32]++itoa x.size++[32]++itoa x.depth
def HJ (c:ByteArray):List UInt8:=[99,111,108,117,109,110,32]++sf c
noncomputable def entT (e:Ent):List UInt8:=itoa e.fr++[32]++itoa e.tu++[32]++jy e.path
noncomputable def rR (x:Idx)(i:Nat):List UInt8:=yV x++[10]++(x.cols.take i).flatMap λc=>HJ c++[10]
noncomputable def rS (x:Idx)(j:Nat):List UInt8:=rR x x.cols.length++(x.ents.take j).flatMap λe=>entT e++[10]
noncomputable def CG (x:Idx):List UInt8:=rS x x.ents.length
theorem aMf {α:Type}{l:List α}{c:α}(f:α->List UInt8)(h:l[i]?=some c):(l.take (i+1)).flatMap f=(l.take i).flatMap f++f c:=by
 rw [qP h,List.flatMap_append];simp
theorem cFe (x:Idx):rR x 0=yV x++[10]:=by simp [rR]
theorem cFi (x:Idx):rS x 0=rR x x.cols.length:=by simp [rS]
theorem cFc(h:x.cols[i]?=some c):rR x (i+1)=rR x i++[99,111,108,117,109,110,32]++sf c++[10]:=by
 unfold rR;rw [aMf _ h];simp only [HJ,eB]
theorem cFd(h:x.cols[i]?=some c):rR x (i+1)=rR x i++([99,111,108,117,109,110,32]++sf c++[10]):=by
 rw [cFc h];simp only [eB]
theorem cFg{e:Ent}(h:x.ents[i]?=some e):rS x (i+1)=rS x i++itoa e.fr++[32]++itoa e.tu++[32]++jy e.path++[10]:=by
 unfold rS;rw [aMf _ h];simp only [entT,eB]
theorem cFh{e:Ent}(h:x.ents[i]?=some e):rS x (i+1)=rS x i++(itoa e.fr++[32]++itoa e.tu++[32]++jy e.path++[10]):=by
 rw [cFg h];simp only [eB]
theorem Tz(h:h5 x=0):(x.fmt=1\/x.fmt=4)/\0<=x.size/\x.size<=1048576/\1<=x.depth/\x.depth<=48:=by
 have h1:=aKe h;unfold tK at h1;omega
theorem aKa(h:h5 x=0):∀ c∈x.cols,validD c.data.toList=true/\c.size<=1024:=by
 intro c hc;have h1:¬ uR c:=by
  intro hb;obtain ⟨i,hi⟩:=jX hc;have h2:=aKi hi hb;unfold h5 at h;rw [O (aKe (by unfold h5;exact h)),U (by rw [h2];decide),h2] at h;cases h
 unfold uR at h1;refine ⟨?_,I⟩
 cases hv:validD c.data.toList with
 | true=>rfl
 | false=>exact absurd (.inl hv) h1
theorem aKd(h:h5 x=0):∀ e∈x.ents,0<=e.fr/\e.fr<=e.tu/\e.tu<=x.size:=by
 intro e he;obtain ⟨j,ax⟩:=jX he;have b8:=(bT.1 ax).1;have hp:=aKc h;have h1:=(MX (hp j e b8 ax)).2.1;have h2:=Past.last (i:=j) (λk y hk hy=>hp k y I hy) I;unfold rP at h1;omega
theorem aNz(h:h5 x=0):(yV x).length<=40:=by
 obtain ⟨_,h1,h2,Y,ar⟩:=Tz h;have a:=xv h1 h2;have b:=xv (n:=x.depth) I I;have c:(o3 x.fmt).length<=5:=by unfold o3;split <;> simp
 unfold yV;exact QL
theorem aKj(h:c.size<=1024):(sf c).length<=6146:=by
 have:=aUz c.data.toList;have h2:c.data.toList.length=c.size:=by simp
 unfold sf;exact QL
theorem Up {α:Type}{f:α->List UInt8}{N:Nat}:∀ {l:List α},(∀ a∈l,(f a).length<=N)->(l.flatMap f).length<=N*l.length
 | [],_=>by simp
 | a::l,h=>by
  have h1:=h a (by simp);have h2:=Up (l:=l) λb hb=>h b (bP _ hb)
  rw [gE,aQ,cf,Nat.mul_succ];omega
theorem aWp(h:h5 x=0)(i:Nat)(hi:i<=x.cols.length):(rR x i).length<=41+6154*i:=by
 have h1:=aNz h;have h2:=Up (l:=x.cols.take i) (f:=λc=>HJ c++[10]) (N:=6154) λc hc=>by
  have Y:=aKj (aKa h c (List.mem_of_mem_take hc)).2;simp only [HJ,aQ,cf,dC];omega
 rw [dS,yn hi] at h2;unfold rR;exact QL
theorem aT5 {l:List Stp}(h:ou l):(jy l).length<=297601:=by
 have h1:=cAn λs hs=>(h.2 s hs).gds
 have h2:=h.1;omega
theorem cFf(h:h5 x=0)(j:Nat)(ax:j<=x.ents.length):(rS x j).length<=41+6154*x.cols.length+297618*j:=by
 have h1:=aWp h x.cols.length (bV _);have h2:=Up (l:=x.ents.take j) (f:=λe=>entT e++[10]) (N:=297618) λe he=>by
  have hm:=List.mem_of_mem_take he;have Y:=aT5 (aKb h e hm).1;obtain ⟨r1,mE,cTg⟩:=aKd h e hm;obtain ⟨_,fa,k7,_⟩:=Tz h;have ar:=xv (n:=e.fr) r1 I;have bd:=xv (n:=e.tu) I I;simp only [entT,aQ,cf,dC];omega
 rw [dS,yn ax] at h2;unfold rS;simp only [aQ];omega
theorem Cxr.rowSl {w0 w:World}{L:List (Nat×Obj)}{R:List Row}{e k n:Nat}{v:Value}{xs:List Value}(h:Cxr w0 w L (⟨e,k,v,n,xs⟩::R)):∃ a c,v=.slice a n c:=by
 have cz:=h.rows _ (b9 ..);simp only at cz;rcases cz.2 with ⟨h1,h2⟩ | ⟨g,cap,cg,h1,h2⟩
 ·exact ⟨none,0,by rw [h1,h2]⟩
 ·exact ⟨_,_,h1⟩
theorem aV5 (l:List Stp):(l.flatMap e6).length=3*l.length:=by
 induction l with
 | nil=>rfl
 | cons s l ih=>rw [gE,aQ,ih];simp only [e6,cf,dC];omega
theorem cBb {w0 w:World}{L:List (Nat×Obj)}{R:List Row}{e:Nat}{v:Value}{n:Nat}{l:List Stp}(h:Cxr w0 w L (⟨e,3,v,n,l.flatMap e6⟩::R))(hn:n=l.length)(ap:0<l.length):Pth w v l:=by
 obtain ⟨g,c,rfl,hc,aH,hr⟩:=h.rowS (by rw [aV5];omega);exact Pth.ofRow aH hn hc hr
def vx (ls:List (List UInt8)):List UInt8:=ls.flatMap λl=>l++[10]
theorem bWr (l:List UInt8)(ls:List (List UInt8)):vx (l::ls)=l++10::vx ls:=by simp [vx]
noncomputable def XI (x:Idx):List (List UInt8):=yV x::(x.cols.map HJ++x.ents.map entT)
theorem bWq (a b:List (List UInt8)):vx (a++b)=vx a++vx b:=by simp [vx]
theorem aRv {α:Type}(f:α->List UInt8)(l:List α):vx (l.map f)=l.flatMap λa=>f a++[10]:=by simp [vx,List.flatMap_map]
theorem cFj (x:Idx):CG x=vx (XI x):=by
 unfold XI;rw [bWr,bWq,aRv,aRv];unfold CG rS rR;rw [nG,nG];exact QP
end Go.Dk
end
section
namespace Go.Dk
open Go Go.RowKit Go.Lib
section
variable {w0 w:World} {L:List (Nat×Obj)} {R gH:List Row}
theorem Cxr.permR (h:Cxr w0 w L R)(hp:R.Perm gH):Cxr w0 w L gH :=
 ⟨h.ext,h.own,h.lo,h.nd,λr hr=>h.rows r (hp.mem_iff.2 hr),λr hr=>h.off r (hp.mem_iff.2 hr),(hp.pairwise_iff (λ{x y} OL k hk bX=>OL k bX hk)).1 h.pw⟩
theorem Cxr.oneR {r:Row}(h:Cxr w0 w L R)(hr:r∈R):Cxr w0 w [] [r] :=
 ⟨h.ext,by simp,by simp,by simp,λs hs=>by obtain rfl:=hL.1 hs;exact h.rows _ hr,by simp,by simp⟩
theorem aUf {t n:Nat}{v:Value}{l:List Stp}(h:Cxr w0 w L R)(hr:(⟨t,3,v,n,l.flatMap e6⟩:Row)∈R)(hn:n=l.length)(ap:0<l.length):Pth w v l:=cBb (h.oneR hr) hn ap
theorem Cxr.rowA {e k n:Nat}{v:Value}{xs:List Value}(h:Cxr w0 w L (⟨e,k,v,n,xs⟩::R)):∃ b,SliceAt (λb=>b<w.heap.size) v n b 0/\(0<xs.length->RowAt w b 0 xs):=by
 rcases tg xs.length with ap | ap
 . have cz:=h.rows _ (b9 ..)
   simp only at cz;rcases cz.2 with ⟨h1,h2⟩ | ⟨g,cap,cg,rfl,hb,aH,vo,_⟩
   ·exact ⟨0,.inl ⟨h2,h1⟩,λh=>I⟩
   ·exact ⟨g,.inr ⟨_,_,B,vo,λ_=>⟨B,(Array.getElem?_eq_some_iff.1 aH).1⟩⟩,λh=>I⟩
 . obtain ⟨g,c,rfl,hc,aH,hr⟩:=h.rowS ap
   exact ⟨g,.inr ⟨_,_,B,hc,λ_=>⟨B,aH⟩⟩,λ_=>hr⟩
end
def A8 (p:Value)(e:Ent):List Value:=[p,.int .i64 e.fr,.int .i64 e.tu]
def vI (t:Nat)(p:Value)(e:Ent):Row:=⟨t,3,p,e.path.length,e.path.flatMap e6⟩
def iz:List Value->List Ent->List Value
 | p::ps,e::es=>A8 p e++iz ps es
 | _,_=>[]
def iH (t:Nat):List Value->List Ent->List Row
 | p::ps,e::es=>vI t p e::iH t ps es
 | _,_=>[]
theorem TY:∀ (ps:List Value) (es:List Ent) (p:Value) (e:Ent),ps.length=es.length->iz (ps++[p]) (es++[e])=iz ps es++A8 p e
 | [],[],p,e,_=>by simp [iz]
 | q::ps,f::es,p,e,h=>by
  simp only [gT,iz,TY ps es p e ku,eB]
 | [],_::_,_,_,h=>by simp at h
 | _::_,[],_,_,h=>by simp at h
theorem aUd (t:Nat):∀ (ps:List Value) (es:List Ent) (p:Value) (e:Ent),ps.length=es.length->iH t (ps++[p]) (es++[e])=iH t ps es++[vI t p e]
 | [],[],p,e,_=>by simp [iH]
 | q::ps,f::es,p,e,h=>by
  simp only [gT,iH,aUd t ps es p e ku]
 | [],_::_,_,_,h=>by simp at h
 | _::_,[],_,_,h=>by simp at h
theorem TX:∀ (ps:List Value) (es:List Ent),ps.length=es.length->(iz ps es).length=3*es.length
 | [],[],_=>rfl
 | q::ps,f::es,h=>by
  simp only [iz,aQ,cf,A8,dC,TX ps es ku];omega
 | [],_::_,h=>by simp at h
 | _::_,[],h=>by simp at h
theorem TW (t:Nat):∀ (ps:List Value) (es:List Ent) (i:Nat) (x:Ent),ps.length=es.length->es[i]?=some x ->
  ∃ p,vI t p x∈iH t ps es/\∀ j v,(A8 p x)[j]?=some v->(iz ps es)[i*3+j]?=some v
 | [],[],i,x,_,hx=>by simp at hx
 | q::ps,f::es,0,x,h,hx=>by
  simp only [AE,kS] at hx;subst hx;refine ⟨q,by simp [iH],λj v hv=>?_⟩;have ax:=(bT.1 hv).1;simp only [iz];rw [show 0*3+j=j by omega,l9 ax];exact hv
 | q::ps,f::es,i+1,x,h,hx=>by
  obtain ⟨p,h1,h2⟩:=TW t ps es i x ku (by simpa using hx);refine ⟨p,by simp only [iH];exact bP _ h1,λj v hv=>?_⟩;simp only [iz];rw [pj (by simp [A8];omega),show (i+1)*3+j-(A8 q f).length=i*3+j by simp [A8];omega];exact h2 j v hv
 | [],_::_,_,_,h,_=>by simp at h
 | _::_,[],_,_,h,_=>by simp at h
theorem bI8 {w0 w:World}{L:List (Nat×Obj)}{R:List Row}{t u n:Nat}{gR:Value}{ps:List Value}{es:List Ent}(h:Cxr w0 w L (⟨u,3,gR,n,iz ps es⟩::R))(hn:n=es.length)(hl:ps.length=es.length)(hm:∀ q∈iH t ps es,q∈R)(ap:∀ e∈es,0<e.path.length):Ens w gR es:=by
 subst hn;obtain ⟨b,hs,hr⟩:=h.rowA;refine ⟨b,0,hs,λi x hx=>?_⟩;have b8:=(bT.1 hx).1;have hr:=hr (by rw [TX ps es hl];omega);obtain ⟨p,h1,h2⟩:=TW t ps es i x hl hx;refine ⟨p,λj v hv=>?_,aUf h (bP _ (hm _ h1)) B (ap x (cb hx))⟩;have:=hr (i*3+j) v (h2 j v hv);rwa [show 0+i*3+j=0+(i*3+j) by omega]
theorem wL {w0 w:World}{L:List (Nat×Obj)}{R:List Row}{u n:Nat}{jB:Value}{cs:List ByteArray}(h:Cxr w0 w L (⟨u,1,jB,n,cs.map Value.string⟩::R))(hn:n=cs.length):Cls w jB cs:=by
 subst hn;obtain ⟨b,hs,hr⟩:=h.rowA;refine ⟨b,0,hs,λi x hx=>?_⟩;have b8:=(bT.1 hx).1;have hr:=hr (by simp;omega);intro j v hv
 cases j with
 | zero =>
  simp only [AE,kS] at hv;subst hv;have:=hr i (.string x) (by simp [hx]);rwa [show 0+i*1+0=0+i by omega]
 | succ j=>simp at hv
end Go.Dk
namespace Go.Dk
open Go Go.RowKit Go.Lib
theorem cCo {fn:Func}{t u v x:Nat}(h:fn.results=#[.tmp t,.tmp u,.tmp v,.tmp x])(tmps:Array Value)(P:Program)(w:World) :
  (results fn tmps).run P w=.ok (.tuple #[tmps.getD t undef,tmps.getD u undef,tmps.getD v undef,tmps.getD x undef]) w:=by
 simp [results,h]
theorem aVj {P:Program}{fn:Func}{R:Value->World->Prop}{n:Nat}{f:Nat->Value}{w:World}{t u t3 t4:Nat}{v x y z:Value}
  (hr:fn.results=#[.tmp t,.tmp u,.tmp t3,.tmp t4]) (hv:aW n f (.tmp t)=v) (hx:aW n f (.tmp u)=x) (hy:aW n f (.tmp t3)=y) (hz:aW n f (.tmp t4)=z) (h:R (.tuple #[v,x,y,z]) w):bodyPost P fn (λe w'=>∃ v,e=.returned v/\R v w') .ret (aC n f) w:=by
 refine ⟨B,_,?_,_,B,h⟩;rw [cCo hr];rw [<- hv,<- hx,<- hy,<- hz,<- eS];rfl
end Go.Dk
namespace Go.Dk
open Go Go.RowKit Go.Lib
section
variable {P:Program} {Q:Exit->Act->World->Prop} {w w0 cUy:World} {L:List (Nat×Obj)} {R:List Row} {n:Nat} {f:Nat->Value} {o:Oper} {ρ:Operand->Value}
theorem F7 {id:Nat}{l:List Oper}(G:Cxr w0 w L R)(hm:P.follows .mixedOrders=true)(bi:List (Nat×Nat))(m:Array Bool)
  (dj:mZ l.toArray bi=true) (mr:zr l.toArray bi m=true) (hn:bi.all (λp=>qb p.2 n)=true) (hi:Cb bi=true)
  (h:xU P l.toArray n (λw'=>Cxr w0 w' L R) (λg=>∀ w',Cxr w0 w' L R->Below w.heap.size w w'->k9 P l.toArray bi Q (λw'=>Cxr w0 w' L R) (l.length+1) m (aC n g) w') bi f):(Code.region id l.toArray true).wp P Q (aC n f) w:=by
 obtain ⟨g,rm,pE,hall⟩:=Qi dj bi f (λ_ h=>h) hi h;refine Zj G hm bi m (λw'=>Cxr w0 w' L R) g dj mr (λp hp=>by have:=p7.1 hn p hp;simpa using this) pE (λp hp=>?_) (λw' lz p hp=>?_) λw' hc hb he=>⟨hc,rm w' hc hb⟩
 ·obtain ⟨o,h1,h2,_⟩:=hall p hp;exact ⟨o,by simpa using h1,h2⟩
 ·obtain ⟨o,h1,_,h2⟩:=hall p hp;exact ⟨o,by simpa using h1,h2 w' lz⟩
end
end Go.Dk
end
section
namespace Go.Dk
open Go Go.RowKit Go.Lib
theorem Cxr.permL {w0 w:World}{L aHk:List (Nat×Obj)}{R:List Row}(h:Cxr w0 w L R)(hp:L.Perm aHk):Cxr w0 w aHk R :=
 ⟨h.ext,λp h2=>h.own p (hp.mem_iff.2 h2),λp h2=>h.lo p (hp.mem_iff.2 h2),(hp.map _).nodup_iff.1 h.nd,h.rows,λr hr k hk hm=>h.off r hr k hk ((hp.map _).mem_iff.2 hm),h.pw⟩
theorem Cxr.swapL {w0 w:World}{a b:Nat×Obj}{L:List (Nat×Obj)}{R:List Row}(h:Cxr w0 w (a::b::L) R):Cxr w0 w (b::a::L) R:=h.permL (List.Perm.swap _ _ _)
end Go.Dk
end
section
namespace Go.Dk
open Go Go.RowKit Go.Lib Go.Proofs.YthiafbkolhnadaaGreatDoor
theorem cF4 (c:UInt8):((c.toNat:Nat):Int)<256:=by have:=c.toNat_lt;omega
section
variable {P:Program} {ρ:Operand->Value} {o:Oper} {w:World}
theorem dm {t:TypeId}{x y:Operand}{s:List UInt8}{k:IntKind}{i:Nat}(au:o.op=.index t x y)(hx:ρ x=.string (bs s))(hy:ρ y=.int k ((i:Nat):Int))(aP:P.underlying t=some .string)(h:i<s.length) :
  (execOp ρ o).run P w=.ok (.value (.int .u8 (((s.getD i 0).toNat:Nat):Int))) w:=vY au hx hy aP I I
theorem zV {t ee:TypeId}{x y:Operand}{p q:Nat}(au:o.op=.binOp .sub t x y ee)(hx:ρ x=.int .u8 ((p:Nat):Int))(hy:ρ y=.int .u8 ((q:Nat):Int))(h:q<=p/\p<256) :
  (execOp ρ o).run P w=.ok (.value (.int .u8 ((p-q:Nat):Int))) w:=by
 unfold execOp;rw [au];have e:IntKind.u8.wrap ((p:Int)-(q:Int))=((p-q:Nat):Int):=by
  rw [<- Int.ofNat_sub h.1];exact rU I
 simp [hx,hy,eqGuard,binOp,Op.intArith,e]
theorem cGw {t:TypeId}{x:Operand}{v:Value}{fs:Array Field}(au:o.op=.makeInterface t x)(hx:ρ x=v)(aP:P.underlying t=some (.struct fs)):(execOp ρ o).run P w=.ok (.value (.iface t v)) w:=by
 unfold execOp;rw [au];simp [hx,Instr.makeInterface,run_underlying aP]
theorem ka {t:TypeId}{x y:Operand}{s:List UInt8}{k:IntKind}{i:Nat}(au:o.op=.slice t x (some y) none none)(hx:ρ x=.string (bs s))(hy:ρ y=.int k ((i:Nat):Int))(aP:P.underlying t=some .string)(h:i<=s.length) :
  (execOp ρ o).run P w=.ok (.value (.string (bs (s.drop i)))) w:=aXc au hx hy aP I I
theorem xS {t:TypeId}{x y:Operand}{s:List UInt8}{k:IntKind}{i:Nat}(au:o.op=.slice t x none (some y) none)(hx:ρ x=.string (bs s))(hy:ρ y=.int k ((i:Nat):Int))(aP:P.underlying t=some .string)(h:i<=s.length) :
  (execOp ρ o).run P w=.ok (.value (.string (bs (s.take i)))) w:=Y5 au hx hy aP I I
theorem ur {t:TypeId}{x y z:Operand}{s:List UInt8}{k j6:IntKind}{i n:Nat}(au:o.op=.slice t x (some y) (some z) none)(hx:ρ x=.string (bs s))(hy:ρ y=.int k ((i:Nat):Int))(hz:ρ z=.int j6 ((i+n:Nat):Int))(aP:P.underlying t=some .string)(h:i+n<=s.length) :
  (execOp ρ o).run P w=.ok (.value (.string (bs (sub s i n)))) w:=by
 have:=cGs (w:=w) au hx hy hz aP I I I;rw [this];unfold sub;rw [show dw ((i+n:Nat):Int)=i+n from B,show dw ((i:Nat):Int)=i from B,yk,show i+n-i=n by omega]
theorem pb {t:TypeId}{x y z:Operand}{s:List UInt8}{k j6:IntKind}{i j:Nat}(au:o.op=.slice t x (some y) (some z) none)(hx:ρ x=.string (bs s))(hy:ρ y=.int k ((i:Nat):Int))(hz:ρ z=.int j6 ((j:Nat):Int))(aP:P.underlying t=some .string)(h:i<=j)(h2:j<=s.length) :
  (execOp ρ o).run P w=.ok (.value (.string (bs (sub s i (j-i))))) w:=ur au hx hy (by rw [hz,show i+(j-i)=j by omega]) aP I
end
section
variable {w0 w w':World} {L:List (Nat×Obj)} {R:List Row}
theorem Yc {α:Type}(L:List α)(i:Nat){x:α}(h:L[i]?=some x):L.Perm (x::L.eraseIdx i):=by
 induction L generalizing i with
 | nil=>simp at h
 | cons a t ih =>
  cases i with
  | zero=>simp at h;subst h;exact List.Perm.refl _
  | succ i =>
   have:=ih i ku;exact (this.cons a).trans (List.Perm.swap x a _)
theorem Cxr.pick (h:Cxr w0 w L R)(i:Nat){x:Nat×Obj}(hi:L[i]?=some x):Cxr w0 w (x::L.eraseIdx i) R:=h.permL (Yc L i hi)
theorem Cxr.unpick (L:List (Nat×Obj))(i:Nat){x y:Nat×Obj}(h:Cxr w0 w (y::L.eraseIdx i) R)(hi:L[i]?=some x):Cxr w0 w (L.set i y) R:=by
 refine h.permL (List.Perm.symm ?_);have hl:i<L.length:=(bT.1 hi).1;have:=Yc (L.set i y) i (x:=y) (by rw [List.getElem?_set_self hl]);have e:(L.set i y).eraseIdx i=L.eraseIdx i:=by
  clear this h hi
  induction L generalizing i with
  | nil=>rfl
  | cons a t ih=>cases i with
   | zero=>rfl
   | succ i=>simp [List.eraseIdx,ih i (by simpa using hl)]
 rwa [e] at this
theorem Cxr.pickR (h:Cxr w0 w L R)(i:Nat){x:Row}(hi:R[i]?=some x):Cxr w0 w L (x::R.eraseIdx i):=h.permR (Yc R i hi)
end
section
variable {P:Program} {ops:Array Oper} {Q:Exit->Act->World->Prop} {bh:List Oper} {o:Oper} {n:Nat} {f:Nat->Value} {w w0:World} {L:List (Nat×Obj)} {R:List Row}
theorem bo {d k : Nat} {fF : Array Operand} {gd : Array TypeId} {fn : Func} {args : List Value} {v : Value} (G : Cxr w0 w L R) (hc : Fc P k args w (λu _ => u = v)) (hf : P.funcs[k]? = some fn) (hb : fn.body.isNone = false) (hn : (fn.name == "runtime.NumGoroutine") = false)
  (aH:o.guard=none) (hd:o.dst=some d) (au:o.op=.call { callee:=.value (.func k),args:=fF,argTypes:=gd }) (hA:fF.toList.map (aW n f)=args)
  (h:∀ w',Cxr w0 w' L R->Below w.heap.size w w'->wpList P ops Q bh (aC n (eh f d v)) w'):wpList P ops Q (o::bh) (aC n f) w :=
 bG G hc hf hb hn aH hd au hA λ_ w' jM hw hv=>by subst hv;exact h w' jM hw
theorem hg {d j fv k:Nat}{gP c:Bool}{fF:Array Operand}{gd:Array TypeId}{fn:Func}{args:List Value}{v:Value}(G:Cxr w0 w L R)(aH:o.guard=some (j,gP))(hd:o.dst=some d)(ax:(ops[j]?).bind (·.dst)=some fv)(hw:oE (aW n f (.tmp fv)) gP c)
  (hc : c = true -> Fc P k args w (λu _ => u = v)) (hf : P.funcs[k]? = some fn) (hb : fn.body.isNone = false) (hn : (fn.name == "runtime.NumGoroutine") = false)
  (au:o.op=.call { callee:=.value (.func k),args:=fF,argTypes:=gd }) (hA:c=true->fF.toList.map (aW n f)=args)
  (h:∀ w',Cxr w0 w' L R->Below w.heap.size w w'->wpList P ops Q bh (aC n (eh f d (gv c v))) w'):wpList P ops Q (o::bh) (aC n f) w :=
 FQ G aH hd ax hw hc hf hb hn au hA λu w' jM hb hv=>by
  have e:gv c u=gv c v:=by
   cases c with
   | true=>rw [hv rfl]
   | false=>unfold gv;rfl
  rw [e];exact h w' jM hb
theorem cDj {t e d b m c:Nat}{x:Operand}{cs:Array Value}(G:Cxr w0 w ((b,.cells cs e)::L) R)(ht:P.underlying t=some (.slice e))(he:P.underlying e=some (.int .u8))
  (aH:o.guard=none) (hd:o.dst=some d) (au:o.op=.convert t t x) (hx:aW n f x=.slice (some ⟨b,0,none⟩) m c)
  (h:∀ w',Cxr w0 w' ((b,.cells cs e (cs.size,cs.size+1))::L) R->wpList P ops Q bh (aC n (eh f d (.slice (some ⟨b,0,none⟩) m c))) w'):wpList P ops Q (o::bh) (aC n f) w:=by
 have hb:=G.at 0 B;have mv:w.shape? b=some (e,cs.size):=by unfold World.shape?;rw [hb]
 have b8:=G.lt _ (b9 ..);have yW:w.freeze ⟨b,cs.size,none⟩ 1={ w with heap:=w.heap.setIfInBounds b (.cells cs e (cs.size,cs.size+1))}:=by
  unfold World.freeze;rw [O (by decide)]
  congr 1
  apply Array.ext
  ·simp
  . intro i h1 h2
    simp only [Array.getElem_modify];by_cases hi:b=i
    . subst hi
      have:w.heap[b]=.cells cs e:=by
       have:=hb;rw [KP (by simpa using h1)] at this;exact mb this
      simp [this]
    . rw [O hi]
      exact (Array.getElem_setIfInBounds_ne (by simpa using h1) hi).symm
 refine od (w':=w.freeze ⟨b,cs.size,none⟩ 1) aH hd ?_ (h _ ?_)
 . unfold execOp;rw [au]
   simp [hx,convert,run_underlying ht,run_underlying he,markStringish,mv]
 . rw [yW]
   refine G.turn 0 B B B B (by simp) (by simp [b8]) λk hk bt=>?_
   simp [Array.getElem?_setIfInBounds,Ne.symm bt]
theorem sP {P:Program}{fn:Func}{R:Value->World->Prop}{n:Nat}{f:Nat->Value}{w:World}{t u t3:Nat}{v x y:Value}
  (hr:fn.results=#[.tmp t,.tmp u,.tmp t3]) (hv:aW n f (.tmp t)=v) (hx:aW n f (.tmp u)=x) (hy:aW n f (.tmp t3)=y) (h:R (.tuple #[v,x,y]) w):bodyPost P fn (λe w'=>∃ v,e=.returned v/\R v w') .ret (aC n f) w:=by
 refine ⟨B,_,?_,_,B,h⟩;rw [show ∀ (tmps:Array Value) (w:World),(results fn tmps).run P w=.ok (.tuple #[tmps.getD t undef,tmps.getD u undef,tmps.getD t3 undef]) w from λtmps w=>by simp [results,hr]];rw [<- hv,<- hx,<- hy,<- eS];rfl
end
theorem zO {a b c:Value}{r n e bk:Nat}(he:bk=e)(a6:a=.int .i64 ((r:Nat):Int))(hb:b=.int .i64 ((n:Nat):Int))(hc:c=.int .i64 ((e:Nat):Int)):Value.tuple #[a,b,c]=.tuple #[.int .i64 ((r:Nat):Int),.int .i64 ((n:Nat):Int),.int .i64 ((bk:Nat):Int)]:=by
 subst he a6 hb hc;rfl
theorem Kw {b c:Value}{n e bk:Nat}(he:bk=e)(hb:b=.int .i64 ((n:Nat):Int))(hc:c=.int .i64 ((e:Nat):Int)):Value.tuple #[b,c]=.tuple #[.int .i64 ((n:Nat):Int),.int .i64 ((bk:Nat):Int)]:=by
 subst he hb hc;rfl
def q2 (x:Value):List PanicEntry:=[{ v:=x,recovered:=false }]
def r8 (P:Program)(k:FuncId)(args:List Value)(w:World)(T E:Value->World->Prop):Prop :=
 Calls P k args.toArray w λe w'=>(∃ v,e=.returned v/\T v w')\/∃ x,e=.panicked (q2 x)/\E x w'
def uI (T E:Value->World->Prop):Ending->World->Prop:=λe w'=>(∃ v,e=.returned v/\T v w')\/∃ x,e=.panicked (q2 x)/\E x w'
theorem zC {P:Program}{k:FuncId}{fn:Func}{c:Code}{l:List Value}{n:Nat}{w:World}{T E:Value->World->Prop}
  (hf:P.funcs[k]?=some fn) (hb:fn.body=some c) (hn:fn.ntmps=n) (hl:Nat.ble l.length n=true)
  (h:c.wp P (bodyPost P fn (uI T E)) (aC n (rO l)) w):r8 P k l w T E:=by
 refine calls_of_wp hf hb ?_;rw [hn,M0 l n (Nat.le_of_ble_eq_true hl)];exact h
theorem cA0 {P:Program}{fn:Func}{T E:Value->World->Prop}{n:Nat}{f:Nat->Value}{w:World}{t:Nat}{v:Value}
  (hr:fn.results=#[.tmp t]) (hv:aW n f (.tmp t)=v) (h:T v w):bodyPost P fn (uI T E) .ret (aC n f) w:=by
 refine ⟨B,v,?_,.inl ⟨v,B,h⟩⟩;rw [results_tmp hr];rw [<- hv,<- eS];rfl
theorem cAx {P:Program}{fn:Func}{T E:Value->World->Prop}{n:Nat}{f:Nat->Value}{w:World}{e:Exit}(he:e=.normal\/e=.ret)
  (hr:fn.results=#[]) (h:T (.tuple #[]) w):bodyPost P fn (uI T E) e (aC n f) w:=by
 have:(results fn (aC n f).tmps).run P w=.ok (.tuple #[]) w:=by simp [results,hr]
 rcases he with rfl | rfl <;> exact ⟨rfl,_,this,.inl ⟨_,rfl,h⟩⟩
theorem Kh {P:Program}{n:Nat}{f:Nat->Value}{w:World}{fn:Func}{yp E:Value->World->Prop}{t T ty b:Nat}{l:List Value}{fr:Nat×Nat}{d:TypeDesc}(hr:fn.results=#[.cell t ty])(hv:aW n f (.tmp t)=.pointer (some ⟨b,0,none⟩))(hb:w.heap[b]?=some (.cells l.toArray T fr))
  (aP:P.underlying ty=some d) (Eu:(match d with | .struct _ | .array _ _=>true | _=>false)=true) (hs:(P.info? ty).map (·.size)=some l.length) (h:yp (.agg l.toArray) w):bodyPost P fn (uI yp E) .ret (aC n f) w:=by
 refine ⟨B,.agg l.toArray,?_,.inl ⟨_,B,h⟩⟩;exact aA7
theorem cCn {fn:Func}{p u:Nat}{ty:TypeId}(h:fn.results=#[.tmp u,.cell p ty])(tmps:Array Value)(P:Program)(w:World) :
  (results fn tmps).run P w=((asAddr (tmps.getD p undef)).run P w).andThen λa uu=>((loadVar ty a).run P uu).andThen λv uv=>.ok (.tuple #[tmps.getD u undef,v]) uv:=by
 simp only [results,h];simp [Sem.run_bind,Result.andThen]
theorem cAz {P:Program}{n:Nat}{f:Nat->Value}{w:World}{fn:Func}{yp E:Value->World->Prop}{t u T ty b:Nat}{l:List Value}{x:Value}{fr:Nat×Nat}{d:TypeDesc}(hr:fn.results=#[.tmp u,.cell t ty])(hx:aW n f (.tmp u)=x)(hv:aW n f (.tmp t)=.pointer (some ⟨b,0,none⟩))(hb:w.heap[b]?=some (.cells l.toArray T fr))
  (aP:P.underlying ty=some d) (Eu:(match d with | .struct _ | .array _ _=>true | _=>false)=true) (hs:(P.info? ty).map (·.size)=some l.length) (h:yp (.tuple #[x,.agg l.toArray]) w):bodyPost P fn (uI yp E) .ret (aC n f) w:=by
 refine ⟨B,.tuple #[x,.agg l.toArray],?_,.inl ⟨_,B,h⟩⟩;have h1:(aC n f).tmps.getD t undef=.pointer (some ⟨b,0,none⟩):=by rw [<- hv,<- eS];rfl
 have h2:(aC n f).tmps.getD u undef=x:=by rw [<- hx,<- eS];rfl
 rw [cCn hr];rw [h1,h2];simp [asAddr,run_loadVar_row w b T ty l.toArray fr d hb aP Eu ug,Result.andThen]
theorem xF {P:Program}{fn:Func}{T E:Value->World->Prop}{n:Nat}{f:Nat->Value}{w:World}{x:Value}(h:E x w):bodyPost P fn (uI T E) (.panic (q2 x)) (aC n f) w:=⟨rfl,.inr ⟨x,rfl,h⟩⟩
section
variable {P:Program} {ops:Array Oper} {Q:Exit->Act->World->Prop} {bh:List Oper} {o:Oper} {n:Nat} {f:Nat->Value} {w:World}
theorem cDm {k : Nat} {fF : Array Operand} {gd : Array TypeId} {fn : Func} {args : List Value} {T E : Value -> World -> Prop} (hc : r8 P k args w T E) (hf : P.funcs[k]? = some fn) (hb : fn.body.isNone = false) (hn : (fn.name == "runtime.NumGoroutine") = false)
  (aH:o.guard=none) (au:o.op=.call { callee:=.value (.func k),args:=fF,argTypes:=gd }) (hA:fF.toList.map (aW n f)=args)
  (cc:∀ x w',E x w'->Q (.panic (q2 x)) (aC n f) w') (h:∀ v w',T v w'->wpList P ops Q bh ((aC n f).put o.dst v) w'):wpList P ops Q (o::bh) (aC n f) w:=by
 refine wpList_plain aH λeu ep=>?_
 have hE:(execOp (aW n f) o).run P w=.ok (.enter k args.toArray) w:=by
  exact QA
 unfold Oper.wp;rw [eS,hE];refine Calls.mono hc ?_;rintro e w' (⟨v,rfl,hv⟩ | ⟨x,rfl,hx⟩)
 . show eu ((aC n f).put o.dst v) w'
   exact ep _ _ (h v w' hv)
 ·exact cc x w' hx
theorem jA {d k : Nat} {fF : Array Operand} {gd : Array TypeId} {fn : Func} {args : List Value} {T E : Value -> World -> Prop} (hc : r8 P k args w T E) (hf : P.funcs[k]? = some fn) (hb : fn.body.isNone = false) (hn : (fn.name == "runtime.NumGoroutine") = false)
  (aH:o.guard=none) (hd:o.dst=some d) (au:o.op=.call { callee:=.value (.func k),args:=fF,argTypes:=gd }) (hA:fF.toList.map (aW n f)=args)
  (cc:∀ x w',E x w'->Q (.panic (q2 x)) (aC n f) w') (h:∀ v w',T v w'->wpList P ops Q bh (aC n (eh f d v)) w'):wpList P ops Q (o::bh) (aC n f) w :=
 cDm hc hf hb hn aH au hA cc λv w' hv=>by rw [hd,mC];exact h v w' hv
theorem cDl {x:Operand}{t:TypeId}{v:Value}(aH:o.guard=none)(au:o.op=.panic x)(hx:aW n f x=.iface t v)(h:Q (.panic (q2 (.iface t v))) (aC n f) w):wpList P ops Q (o::bh) (aC n f) w:=by
 refine wpList_plain aH λeu ep=>?_
 unfold Oper.wp;rw [eS];have:(execOp (aW n f) o).run P w=.halt (.panic (.iface t v)) w:=by
  unfold execOp;rw [au];simp only [hx];rfl
 rw [this];exact h
end
end Go.Dk
end
section
namespace Go.Proofs.YthiafbkolhnadaaGreatDoor
open Go Go.Dk Go.RowKit Go.Lib
attribute [local irreducible] Go.wpList Go.Code.wp Go.bodyPost Go.wpStill Go.wpQuiet
variable {s:List UInt8}
theorem aI7 (c:UInt8)(w0:World):Fc W 262 [.int .u8 ((c.toNat:Nat):Int)] w0 (λv _=>v=.bool (decide (jR c))):=by
 refine aI Tryz.func262 B Tryz.ntmps262 B ?_;have G:=Ctx.start w0;refine AL ?_;refine be Tryz.results262 B ?_;exact QB
theorem ME (c:UInt8)(w0:World):Fc W 263 [.int .u8 ((c.toNat:Nat):Int)] w0 (λv _=>v=.bool (decide (bf c))):=by
 refine aI Tryz.func263 B Tryz.ntmps263 B ?_;have G:=Ctx.start w0;refine oC ?_;refine be Tryz.results263 B ?_;exact aAp
theorem aJj (c:UInt8)(w0:World):Fc W 330 [.int .u8 ((c.toNat:Nat):Int)] w0 (λv _=>v=.bool (decide (jD c))):=by
 refine aI Tryz.func330 B Tryz.ntmps330 B ?_;have G:=Ctx.start w0;refine aG ?_;refine bo G (aI7 c _) Tryz.func262 B B B B B B ?_;intro w G gN;refine ag ?_;refine hg G B B B a8 (λhc=>ME c _) Tryz.func263 B B B (λhc=>(aX ay B)) ?_;intro w G iW;refine SP ?_;refine be Tryz.results330 B ?_;exact aAo
theorem Tb (s:List UInt8)(w0:World)(hs:s.length<=1073741824):Fc W 185 [M s] w0 (λv _=>v=.bool (decide (isBare s))):=by
 refine aI Tryz.func185 B Tryz.ntmps185 B ?_;have G:=Ctx.start w0;refine i6 ?_;refine bu (λg f ah=>∃ (i:Nat),g=s.length-i/\(i<=s.length)/\(∀ j,j<i->oG (s.getD j 0)\/(0<j/\bf (s.getD j 0)))/\f 7=J i/\f 0=M s/\f 6=J s.length/\Cxr w0 ah [] []) ((λ(i:Nat)=>s.length-i) 0) ?_ ?_
 ·exact QO
 intro h8 f w ai;obtain ⟨i,ni,hi,hb,aS,aB,aL,G⟩:=ai;refine aq ?_;refine Z (λfm=>?_) (λfm=>?_)
 ·refine az ?_;refine mR ?_;refine aq ?_;refine uE ?_;refine Ru ?_;refine an ?_;refine bo G (aI7 (s.getD i 0) _) Tryz.func262 B B B B B B ?_;intro w G oX;refine kD ?_;refine hg G B B B a8 (λhc=>ME (s.getD i 0) _) Tryz.func263 B B B (λhc=>(aX ay B)) ?_;intro w G E9;refine an ?_;refine Z (λje=>?_) (λje=>?_)
  ·refine aq ?_;refine be Tryz.results185 B ?_;refine ⟨G.ext,aD Value.bool (decide_eq_false ?_).symm⟩;intro h;have:=h.2 i I;unfold oG jR bf at this;unfold jR bf at je;omega
  have di:∀ j,j<i+1->oG (s.getD j 0)\/(0<j/\bf (s.getD j 0)):=by
   intro j ax;by_cases e:j=i
   . subst e
     unfold oG jR bf;unfold jR bf at je;rcases tg j with ap | ap
     ·omega
     ·omega
   ·exact hb j I
  refine aq ?_;exact ⟨_,_,I,B,i+1,B,I,di,aJ,aB,aL,G⟩
 refine an ?_;refine S B B (kO (s:=s) (u:=([]:List UInt8)) B B B) ?_;refine ae ?_;refine be Tryz.results185 B ?_;exact aA0
theorem Tn (s:List UInt8)(w0:World)(hs:s.length<=1073741824):Fc W 342 [M s] w0 (λv _=>v=(J (aT s))):=by
 refine aI Tryz.func342 B Tryz.ntmps342 B ?_;have G:=Ctx.start w0;refine cF ?_;refine bu (λg f ah=>∃ (i:Nat),g=s.length-i/\(i<=s.length)/\(∀ j,j<i->bf (s.getD j 0))/\f 3=J i/\f 0=M s/\f 2=J 0/\Cxr w0 ah [] []) ((λ(i:Nat)=>s.length-i) 0) ?_ ?_
 ·exact QO
 intro h8 f w ai;obtain ⟨i,ni,hi,hb,aR,aB,aE,G⟩:=ai;refine Dw ?_;refine hg G B B B aO (λhc=>ME (s.getD i 0) _) Tryz.func263 B B B (λhc=>(aX ay B)) ?_;intro w G mx;refine ag ?_;refine Z (λe8=>?_) (λe8=>?_)
 ·refine yj ?_;exact ⟨_,_,I,B,i+1,B,I,λj ax=>by by_cases e:j=i;(subst e;exact e8.2);exact hb j I,aJ,aB,aE,G⟩
 refine an ?_;refine mR ?_;refine ag ?_;refine be Tryz.results342 B ?_;have e:aT s=i:=ob bf s i hi hb (by
  rcases e8 with h | h
  ·exact .inl I
  ·exact .inr h)
 exact aB0
def u3 (s p:List UInt8):Bool:=decide (s.take p.length=p)
theorem bNr {p:List UInt8}(h:u3 s p=true):p.length<=s.length:=by
 unfold u3 at h;have:=aD eC (of_decide_eq_true h);rw [dS] at this;omega
theorem aI0 (s p:List UInt8)(w0:World)(hs:s.length<=1073741824)(hp:p.length<=1000):Fc W 169 [M s,M p] w0 (λv _=>v=.bool (u3 s p)):=by
 refine aI Tryz.func169 B Tryz.ntmps169 B ?_;have G:=Ctx.start w0;refine oC ?_;refine aN B B B aO (λhc=>xS (s:=s) (i:=p.length) B ay ay aF eJ) ?_;refine ab ?_;refine aN B B B aO (λhc=>ga (s:=s.take p.length) (u:=p) B ay ay) ?_;refine an ?_;refine be Tryz.results169 B ?_;refine pd ?_;unfold u3;rw [jE];simp only [fS,decide_eq_true_eq];refine ⟨λh=>h.2,λh=>⟨?_,h⟩⟩;have:=aD eC h;rw [dS] at this;omega
theorem aJo (s p:List UInt8)(w0:World)(hs:s.length<=1073741824)(hp:p.length<=1000):Fc W 343 [M s,M p] w0 (λv _=>v=.bool (u3 s p)):=by
 refine aI AH B Tryz.ntmps343 B ?_;have G:=Ctx.start w0;refine bz ?_;refine bo G (aI0 s p _ cR cR) Tryz.func169 B B B B B B ?_;intro w G iW;refine ae ?_;refine be Tryz.results343 B ?_;exact gC
def xO (s p:List UInt8):List UInt8:=if u3 s p=true then s.drop p.length else s
theorem bE2 (s p:List UInt8)(w0:World)(hs:s.length<=1073741824)(hp:p.length<=1000):Fc W 382 [M s,M p] w0 (λv _=>v=(M (xO s p))):=by
 refine aI Tryz.func382 B Tryz.ntmps382 B ?_;have G:=Ctx.start w0;refine cK ?_;refine bo G (aI0 s p _ cR cR) Tryz.func169 B B B B B B ?_;intro w G iW;refine ab ?_;refine Z (λiB=>?_) (λiB=>?_)
 ·have fp:=bNr iB;refine aq ?_;refine S B B (ka (s:=s) (i:=p.length) B B B aF I) ?_;refine S B B (av (v:=(M (s.drop p.length))) B B) ?_;refine ag ?_;refine be Tryz.results382 B ?_;exact ⟨G.ext,aD (λl=>(M l)) (show s.drop p.length=xO s p by unfold xO;rw [U iB])⟩
 refine an ?_;refine Lf ?_;refine ag ?_;refine be Tryz.results382 B ?_;exact ⟨G.ext,aD (λl=>(M l)) (show s=xO s p by unfold xO;rw [O (by rw [iB];decide)])⟩
theorem bEh (s p:List UInt8)(w0:World)(hs:s.length<=1073741824)(hp:p.length<=1000):Fc W 341 [M s,M p] w0 (λv _=>v=(M (xO s p))):=by
 refine aI Tryz.func341 B Tryz.ntmps341 B ?_;have G:=Ctx.start w0;refine bz ?_;refine bo G (bE2 s p _ cR cR) Tryz.func382 B B B B B B ?_;intro w G iW;refine S B B (av (v:=(M (xO s p))) B B) ?_;refine ag ?_;refine be Tryz.results341 B ?_;exact gC
theorem aNe (s:List UInt8)(c:UInt8)(ap:c.toNat≠0):u3 s [c]=decide ((s.getD 0 0).toNat=c.toNat):=by
 unfold u3
 cases s with
 | nil =>
  have:¬ ((0:UInt8).toNat=c.toNat):=by simpa using λe=>ap e.symm
  simpa using this
 | cons a t =>
  rw [jE];simp only [decide_eq_true_eq,cf,dC,jG,iw,iL,and_true];exact q5.symm
theorem bNs (s:List UInt8)(a b:UInt8):u3 s [a,b]=decide (1<s.length/\(s.getD 0 0).toNat=a.toNat/\(s.getD 1 0).toNat=b.toNat):=by
 unfold u3;rw [jE];simp only [decide_eq_true_eq]
 match s with
 | []=>simp
 | [x]=>simp
 | x::y::t =>
  simp only [cf,dC,jG,iw,iL,and_true];exact ⟨λ⟨h,h2⟩=>⟨I,by rw [h];rfl,by rw [h2];rfl⟩,λ⟨_,h,h2⟩=>⟨q5.1 h,q5.1 h2⟩⟩
theorem cFu (s:List UInt8):xO s [45]=bI s:=by
 unfold xO bI;rw [aNe s 45 (by decide)];simp
theorem bEi (s:List UInt8)(w0:World)(hs:s.length<=1073741824):Fc W 341 [M s,M [45]] w0 (λv _=>v=(M (bI s))):=by
 have:=bEh s [45] w0 hs (by decide);rwa [cFu] at this
theorem HE (s:List UInt8)(c:UInt8)(n:Nat)(w0:World)(hs:s.length<=1073741824)(hn:c.toNat=n)(ap:n≠0):Fc W 343 [M s,M [c]] w0 (λv _=>v=.bool (decide ((s.getD 0 0).toNat=n))):=by
 have:=aJo s [c] w0 hs (by simp);rwa [aNe s c I,hn] at this
theorem aJn (s:List UInt8)(a b:UInt8)(n m:Nat)(w0:World)(hs:s.length<=1073741824)(hn:a.toNat=n)(hm:b.toNat=m):Fc W 343 [M s,M [a,b]] w0 (λv _=>v=.bool (decide (1<s.length/\(s.getD 0 0).toNat=n/\(s.getD 1 0).toNat=m))):=by
 have:=aJo s [a,b] w0 hs (by simp);rwa [bNs s a b,hn,hm] at this
theorem Tj (s:List UInt8)(w0:World)(hs:s.length<=1073741824):Fc W 268 [M s] w0 (λv _=>v=.bool (decide (numb s))):=by
 refine aI Tryz.func268 B Tryz.ntmps268 B ?_;have G:=Ctx.start w0;refine az ?_;have j1:=MM s;refine ab ?_;refine bo G (bEi s _ cR) Tryz.func341 B B B B B B ?_;intro w G fg;refine S B B (av (v:=(M (bI s))) B B) ?_;refine an ?_;refine bo G (Tn (bI s) _ cR) Tryz.func342 B B B B B B ?_;intro w G iW;refine S B B (av (v:=(J (aT (bI s)))) B B) ?_;refine gp ?_;refine aN B B B aO (λhc=>dm (s:=bI s) (i:=0) B (fV hc B) B aF (by have:=mI (bI s);simp only [dy] at hc;omega)) ?_;refine an ?_;refine Z (λhB=>?_) (λhB=>?_)
 ·refine aq ?_;refine Gz ?_;exact ⟨G.ext,aD Value.bool (decide_eq_false λh=>by have h1:=h.1;have h2:=h.2.1;omega).symm⟩
 have h1:aT (bI s)≠0:=I;have h2:¬ (1<aT (bI s)/\((bI s).getD 0 0).toNat=48):=I;have Jo:=mI (bI s);refine aq ?_;have Jo:=mI (bI s);refine S B B (ka (s:=bI s) (i:=aT (bI s)) B B B aF I) ?_;refine S B B (av (v:=(M ((bI s).drop (aT (bI s))))) B B) ?_;refine ab ?_;refine cw (λf ah=>∃ (q:List UInt8),(q.length<=1073741824)/\(numb s↔numE q)/\f 0=M q/\Cxr w0 ah [] []) ?_ ?_
 ·refine ae ?_;refine bo G (HE ((bI s).drop (aT (bI s))) 46 46 _ cR B (by decide)) AH B B B B B B ?_;intro w G zj;refine ab ?_;refine Z (λjK=>?_) (λjK=>?_)
  ·have xf:=nc (l:=(bI s).drop (aT (bI s))) (j:=0) I;refine ae ?_;refine S B B (ka (s:=(bI s).drop (aT (bI s))) (i:=1) B B B aF I) ?_;refine bo G (Tn (((bI s).drop (aT (bI s))).drop 1) _ cR) Tryz.func342 B B B B B B ?_;intro w G E8;refine S B B (av (v:=(J (aT (((bI s).drop (aT (bI s))).drop 1)))) B B) ?_;refine aG ?_;refine cn B (λjd=>?_) (λjd=>?_)
   ·have jd:aT (((bI s).drop (aT (bI s))).drop 1)=0:=by simp only [beq_iff_eq] at jd;omega
    refine aq ?_;refine Gz ?_;exact ⟨G.ext,aD Value.bool (decide_eq_false λh=>aS8 jK jd ((Pl h1 h2).1 h)).symm⟩
   have jd:aT (((bI s).drop (aT (bI s))).drop 1)≠0:=by simp only [beq_eq_false_iff_ne,ne_eq] at jd;omega
   have cPl:aT (((bI s).drop (aT (bI s))).drop 1)+1<=((bI s).drop (aT (bI s))).length:=by have:=mI (((bI s).drop (aT (bI s))).drop 1);rw [bC] at this;omega
   have kW:((bI s).drop (aT (bI s))).length<=s.length:=by rw [bC];omega
   refine aq ?_;refine S B B (ka (s:=(bI s).drop (aT (bI s))) (i:=1+aT (((bI s).drop (aT (bI s))).drop 1)) B B B aF I) ?_;refine ag ?_;exact ⟨_,B,_,by simp only [bC];omega,(Pl h1 h2).trans (aS9 jK jd),B,G⟩
  refine ab ?_;exact ⟨_,B,_,by simp only [bC];omega,(Pl h1 h2).trans (XY jK),B,G⟩
 intro f w ai;obtain ⟨q,aw,hn,aB,G⟩:=ai;refine an ?_;refine S B B (ga (s:=q) (u:=([]:List UInt8)) B B B) ?_;refine ab ?_;refine Z (λwV=>?_) (λwV=>?_)
 ·refine aq ?_;refine Gz ?_;exact ⟨G.ext,aD Value.bool (decide_eq_true (hn.2 (.inl wV))).symm⟩
 have xf:0<q.length:=gF.2 wV;refine aq ?_;refine S B B (dm (s:=q) (i:=0) B B B aF I) ?_;refine ae ?_;refine aN B B B aO (λhc=>dm (s:=q) (i:=0) B ay B aF fO) ?_;refine ae ?_;refine Z (λwW=>?_) (λwW=>?_)
 ·refine aq ?_;refine Gz ?_;exact ⟨G.ext,aD Value.bool (decide_eq_false λh=>by rcases hn.1 h with h | ⟨h,_⟩;(exact wV h);omega).symm⟩
 refine an ?_;refine S B B (ka (s:=q) (i:=1) B B B aF I) ?_;refine S B B (av (v:=(M (q.drop 1))) B B) ?_;refine ab ?_;refine cw (λf ah=>∃ (z:List UInt8),(z.length<=1073741824)/\(hj (q.drop 1)=z)/\f 0=M z/\Cxr w0 ah [] []) ?_ ?_
 ·refine ae ?_;refine S B B (kO (s:=q.drop 1) (u:=([]:List UInt8)) B B B) ?_;refine ag ?_;refine aN B B B aO (λhc=>dm (s:=q.drop 1) (i:=0) B ay B aF fO) ?_;refine ae ?_;refine aN B B B a8 (λhc=>dm (s:=q.drop 1) (i:=0) B ay B aF fO) ?_;refine an ?_;refine Z (λnQ=>?_) (λnQ=>?_)
  ·have cPa:0<(q.drop 1).length:=gF.2 nQ.1;refine ag ?_;refine S B B (ka (s:=q.drop 1) (i:=1) B B B aF I) ?_;refine S B B (av (v:=(M ((q.drop 1).drop 1))) B B) ?_;refine ab ?_;exact ⟨_,B,_,by simp only [bC];omega,by unfold hj;rw [U I],B,G⟩
  refine ab ?_;exact ⟨_,rfl,_,by simp only [bC];omega,by unfold hj;rw [O (by first | omega | (rcases nQ with h | h;(rw [h];decide);omega))],rfl,G⟩
 intro f w ai;obtain ⟨z,hz,hx,aB,G⟩:=ai;refine ae ?_;refine S B B (kO (s:=z) (u:=([]:List UInt8)) B B B) ?_;refine ag ?_;refine hg G B B B aO (λhc=>Tn z _ cR) Tryz.func342 B B B (λhc=>(aX ay B)) ?_;intro w G WW;refine aG ?_;refine Gz ?_;refine pd ?_;rw [jE];simp only [fS,kP,decide_eq_true_eq,decide_eq_false_iff_not,beq_iff_eq];have hx2:vA (q.drop 1)↔z≠[]/\aT z=z.length:=by unfold vA;rw [hx]
 rw [hn];constructor
 . rintro ⟨h1,h2⟩
   exact .inr ⟨I,hx2.2 ⟨h1,I⟩⟩
 . rintro (h | ⟨_,h⟩)
   ·exact absurd h wV
   . obtain ⟨h1,h2⟩:=hx2.1 h
     exact ⟨h1,I⟩
theorem Ey{i n:Nat}(hi:i<4)(hl:i<s.length):kX (4-i) (s.drop i) n=match eO (s.getD i 0) with
  | none=>(3,0)
  | some d=>kX (4-(i+1)) (s.drop (i+1)) (16*n+d):=by
 rw [show 4-i=(4-(i+1))+1 by omega,ph hl,kX];rw [show s[i]=s.getD i 0 by simp [hZ,bS hl]]
 try rfl
theorem aN9{i n:Nat}(hi:i<4)(hl:s.length<=i):kX (4-i) (s.drop i) n=(4,0):=by
 rw [show 4-i=(4-(i+1))+1 by omega,AD hl,kX]
theorem aJr (s:List UInt8)(w0:World)(hs:s.length<=1073741824):Fc W 377 [M s] w0 (λv _=>v=.tuple #[J ((bJ s).2),J ((bJ s).1)]):=by
 refine aI Tryz.func377 B Tryz.ntmps377 B ?_;have G:=Ctx.start w0;refine oC ?_;refine bu (λg f ah=>∃ (i n:Nat),g=4-i/\(i<=4)/\((i=0->n<1)/\(i=1->n<16)/\(i=2->n<256)/\(i=3->n<4096)/\(i=4->n<65536))/\(bJ s=kX (4-i) (s.drop i) n)/\f 7=J i/\f 4=J n/\f 0=M s/\Cxr w0 ah [] []) ((λ(i:Nat)=>4-i) 0) ?_ ?_
 ·exact ⟨0,0,B,I,I,B,aJ,aJ,B,G⟩
 intro gJ f w ai;obtain ⟨i,n,qp,hi,hb,he,aS,aM,aB,G⟩:=ai;refine aq ?_;refine Z (λfm=>?_) (λfm=>?_)
 ·have IF:i<4:=I;refine az ?_;refine mR ?_;refine cK ?_;refine Z (λe8=>?_) (λe8=>?_)
  ·refine az ?_;refine dY Tryz.results377 B B ?_;have e:bJ s=(4,0):=he.trans (aN9 IF I);exact CZ
  have Ny:i<s.length:=I;have bUl:=(s.getD i 0).toNat_lt;refine aq ?_;refine uE ?_;refine Ru ?_;refine aq ?_;refine bo G (ME (s.getD i 0) _) Tryz.func263 B B B B B B ?_;intro w G BZ;refine ag ?_;refine Z (λhQ=>?_) (λhQ=>?_)
  ·have vb:48<=(s.getD i 0).toNat/\(s.getD i 0).toNat<=57:=hQ;refine an ?_;refine S B B (zV (p:=(s.getD i 0).toNat) (q:=48) B B B I) ?_;refine C8 ?_;refine ab ?_;refine S B B (av (v:=(J (16*n+((s.getD i 0).toNat-48)))) B B) ?_;refine aq ?_;have hd:eO (s.getD i 0)=some ((s.getD i 0).toNat-48):=by
    unfold eO;rw [U hQ]
   have b8:=Fh hd;have ck:=Ey (n:=n) IF Ny;rw [hd] at ck;exact ⟨_,_,I,B,i+1,16*n+((s.getD i 0).toNat-48),B,I,I,he.trans ck,aJ,aJ,aB,G⟩
  refine cF ?_;refine Z (λlV=>?_) (λlV=>?_)
  ·refine an ?_;refine S B B (zV (p:=(s.getD i 0).toNat) (q:=97) B B B I) ?_;refine C8 ?_;refine ag ?_;refine S B B (av (v:=(J (16*n+((s.getD i 0).toNat-97)+10))) B B) ?_;refine aq ?_;have hd:eO (s.getD i 0)=some ((s.getD i 0).toNat-87):=by
    unfold eO;rw [O hQ,U I]
   have b8:=Fh hd;have ck:=Ey (n:=n) IF Ny;rw [hd] at ck;exact ⟨_,_,I,B,i+1,16*n+((s.getD i 0).toNat-87),B,I,I,he.trans ck,aJ,aJ,aB,G⟩
  refine cF ?_;refine Z (λiA=>?_) (λiA=>?_)
  ·refine an ?_;refine S B B (zV (p:=(s.getD i 0).toNat) (q:=65) B B B I) ?_;refine C8 ?_;refine ag ?_;refine S B B (av (v:=(J (16*n+((s.getD i 0).toNat-65)+10))) B B) ?_;refine aq ?_;have hd:eO (s.getD i 0)=some ((s.getD i 0).toNat-55):=by
    unfold eO;rw [O hQ,O I,U I]
   have b8:=Fh hd;have ck:=Ey (n:=n) IF Ny;rw [hd] at ck;exact ⟨_,_,I,B,i+1,16*n+((s.getD i 0).toNat-55),B,I,I,he.trans ck,aJ,aJ,aB,G⟩
  refine az ?_;refine dY Tryz.results377 B B ?_;have hd:eO (s.getD i 0)=none:=by
   unfold eO;rw [O hQ,O I,O I]
  have e:=Ey (n:=n) IF Ny;rw [hd] at e;replace e:=he.trans e;exact CZ
 refine an ?_;refine Aj ?_;refine ae ?_;refine dY Tryz.results377 B B ?_;have e:bJ s=(0,n):=by rw [he,show 4-i=0 by omega];rfl
 exact CZ
end Go.Proofs.YthiafbkolhnadaaGreatDoor
end
section
namespace Go.Proofs
open Go.Shelf
def Tryz.lays137_ren:Go.Shelf.Ren:=⟨fun | 137=>329 | 217=>313 | 266=>372 | n=>n,fun | 9=>9 | 5=>5 | 3=>3 | n=>n,fun | n=>n⟩
theorem Tryz.lays137:Go.Proofs.Lays.n137 W Tryz.lays137_ren:={
 mixed:=by kernel_rfl
 f137:=Tryz.func329.trans (aD some ac)
 f217:=Tryz.func313.trans (aD some ac)
 f266:=Tryz.func372.trans (aD some ac)
 t3:=dq
 a3:=DO
 z3:=DP
 v3:=DR
 t5:=en
 a5:=AI
 z5:=AJ
 v5:=AK
 t9:=aF
 a9:=Hm
 z9:=Ho
 v9:=Hs }
open Go.RowKit in
theorem Tryz.strings_IndexByte (s:ByteArray)(c:Int)(w:World) :
  Calls W 329 #[.string s,.int .u8 c] w λe w'=>e=.returned (.int .i64 (Lib.indexByte s.data.toList c.toNat.toUInt8))/\w'=w:=Any.strings_IndexByte Tryz.lays137 s c w
def Tryz.lays155_ren:Go.Shelf.Ren:=⟨fun | 155=>73 | 154=>126 | 138=>167 | 165=>196 | 143=>168 | 166=>197 | 197=>114 | 169=>157 | 195=>240 | 218=>241 | 240=>271 | 241=>272 | 219=>242 | 260=>180 | 276=>348 | 277=>349 | 217=>313 | 225=>314 | 224=>315 | 267=>316 | 266=>372 | 314=>373 | n=>n,fun | 9=>9 | 3=>3 | 4=>4 | 72=>245 | 0=>0 | 76=>185 | 105=>199 | 21=>21 | 5=>5 | 70=>243 | 20=>20 | 37=>79 | 75=>184 | 127=>312 | 164=>380 | 46=>237 | 119=>233 | 139=>236 | 138=>235 | 146=>393 | 51=>359 | 80=>248 | n=>n,fun | 1=>3 | 3=>0 | 4=>1 | n=>n⟩
theorem Tryz.lays155:Go.Proofs.Lays.n155 W Tryz.lays155_ren:={
 mixed:=by kernel_rfl
 f138:=Tryz.func167.trans (aD some ac)
 f143:=Tryz.func168.trans (aD some ac)
 f154:=Tryz.func126.trans (aD some ac)
 f155:=Tryz.func73.trans (aD some ac)
 f165:=Tryz.func196.trans (aD some ac)
 f166:=Tryz.func197.trans (aD some ac)
 f169:=Tryz.func157.trans (aD some ac)
 f195:=Tryz.func240.trans (aD some ac)
 f197:=Tryz.func114.trans (aD some ac)
 f217:=Tryz.func313.trans (aD some ac)
 f218:=Tryz.func241.trans (aD some ac)
 f219:=Tryz.func242.trans (aD some ac)
 f224:=Tryz.func315.trans (aD some ac)
 f225:=Tryz.func314.trans (aD some ac)
 f240:=Tryz.func271.trans (aD some ac)
 f241:=Tryz.func272.trans (aD some ac)
 f260:=Tryz.func180.trans (aD some ac)
 f266:=Tryz.func372.trans (aD some ac)
 f267:=Tryz.func316.trans (aD some ac)
 f276:=Tryz.func348.trans (aD some ac)
 f277:=Tryz.func349.trans (aD some ac)
 f314:=Tryz.func373.trans (aD some ac)
 t0:=Hp
 a0:=Hl
 z0:=Hn
 v0:=Hr
 t3:=dq
 a3:=DO
 z3:=DP
 v3:=DR
 t4:=pr
 a4:=Tryz.isAgg4
 z4:=Tryz.sizeOf4
 v4:=yr
 t5:=en
 a5:=AI
 z5:=AJ
 v5:=AK
 t9:=aF
 a9:=Hm
 z9:=Ho
 v9:=Hs
 t20:=Tryz.underlying20
 a20:=Tryz.isAgg20
 z20:=Tryz.sizeOf20
 v20:=Tryz.zeroValue20
 t21:=Tryz.underlying21
 a21:=Tryz.isAgg21
 z21:=Tryz.sizeOf21
 v21:=Tryz.zeroValue21
 t37:=fk
 a37:=Tryz.isAgg79
 z37:=Tryz.sizeOf79
 v37:=Tryz.zeroValue79
 t46:=Tryz.underlying237
 a46:=Mj
 z46:=Mk
 v46:=Ml
 t51:=Tryz.underlying359
 a51:=Tryz.isAgg359
 z51:=Tryz.sizeOf359
 v51:=Tryz.zeroValue359
 t70:=Tryz.underlying243
 a70:=Tryz.isAgg243
 z70:=Tryz.sizeOf243
 v70:=Tryz.zeroValue243
 t72:=Tryz.underlying245
 a72:=Tryz.isAgg245
 z72:=Tryz.sizeOf245
 v72:=Tryz.zeroValue245
 t75:=Tryz.underlying184
 a75:=Tryz.isAgg184
 z75:=Tryz.sizeOf184
 v75:=Tryz.zeroValue184
 t76:=Tryz.underlying185
 a76:=Tryz.isAgg185
 z76:=Tryz.sizeOf185
 v76:=Tryz.zeroValue185
 t105:=Tryz.underlying199
 a105:=Tryz.isAgg199
 z105:=Tryz.sizeOf199
 v105:=Tryz.zeroValue199
 t119:=Tryz.underlying233
 a119:=Tryz.isAgg233
 z119:=Tryz.sizeOf233
 t127:=Tryz.underlying312
 a127:=Tryz.isAgg312
 z127:=Tryz.sizeOf312
 v127:=Tryz.zeroValue312
 t138:=Tryz.underlying235
 a138:=Tryz.isAgg235
 z138:=Tryz.sizeOf235
 v138:=Tryz.zeroValue235
 t139:=Tryz.underlying236
 a139:=Tryz.isAgg236
 z139:=Tryz.sizeOf236
 v139:=Tryz.zeroValue236
 t146:=Tryz.underlying393
 a146:=Tryz.isAgg393
 z146:=Tryz.sizeOf393
 v146:=Tryz.zeroValue393
 t164:=Tryz.underlying380
 a164:=Tryz.isAgg380
 z164:=Tryz.sizeOf380
 v164:=Tryz.zeroValue380
 g1:=by kernel_rfl
 g3:=by kernel_rfl
 g4:=by kernel_rfl }
theorem Tryz.Builder_Extra_155:Builder.Extra W Tryz.lays155_ren:={
 sizeBuilder:=by kernel_rfl
 liesBuilder:=by kernel_rfl
 t5:=en
 a5:=AI
 z5:=AJ
 v5:=AK
 infoByte:=by kernel_rfl
 cellsByte:=by kernel_rfl
 sizeByte:=by kernel_rfl
 neB5:=by decide }
open Go.RowKit Go.Lib in
theorem Tryz.strings_ReplaceAll (s hT qI:ByteArray)(m:Int)(w:World)(hs:s.size<4294967281)(hm:w.cell? ⟨3,0,none⟩=some (.int .i64 m))(h1:1<=hT.size)(kY:s.size+Lib.countB s hT*qI.size<=140737488355328) :
  Calls W 73 #[.string s,.string hT,.string qI] w λe w' =>
   e=.returned (.string ⟨(Lib.replaceAll s.data.toList hT.data.toList qI.data.toList).toArray⟩)/\Below w.heap.size w w':=Any.strings_ReplaceAll Tryz.lays155 Tryz.Builder_Extra_155 s hT qI m w hs hm h1 kY
def Tryz.lays197_ren:Go.Shelf.Ren:=⟨fun | 197=>114 | 260=>180 | n=>n,fun | 9=>9 | 21=>21 | 3=>3 | 4=>4 | 5=>5 | 105=>199 | 119=>233 | 0=>0 | 46=>237 | 139=>236 | 138=>235 | n=>n,fun | 3=>0 | 4=>1 | n=>n⟩
theorem Tryz.lays197:Go.Proofs.Lays.n197 W Tryz.lays197_ren:={
 mixed:=by kernel_rfl
 f197:=Tryz.func114.trans (aD some ac)
 f260:=Tryz.func180.trans (aD some ac)
 t0:=Hp
 a0:=Hl
 z0:=Hn
 v0:=Hr
 t3:=dq
 a3:=DO
 z3:=DP
 v3:=DR
 t4:=pr
 a4:=Tryz.isAgg4
 z4:=Tryz.sizeOf4
 v4:=yr
 t5:=en
 a5:=AI
 z5:=AJ
 v5:=AK
 t9:=aF
 a9:=Hm
 z9:=Ho
 v9:=Hs
 t21:=Tryz.underlying21
 a21:=Tryz.isAgg21
 z21:=Tryz.sizeOf21
 v21:=Tryz.zeroValue21
 t46:=Tryz.underlying237
 a46:=Mj
 z46:=Mk
 v46:=Ml
 t105:=Tryz.underlying199
 a105:=Tryz.isAgg199
 z105:=Tryz.sizeOf199
 v105:=Tryz.zeroValue199
 t119:=Tryz.underlying233
 a119:=Tryz.isAgg233
 z119:=Tryz.sizeOf233
 t138:=Tryz.underlying235
 a138:=Tryz.isAgg235
 z138:=Tryz.sizeOf235
 v138:=Tryz.zeroValue235
 t139:=Tryz.underlying236
 a139:=Tryz.isAgg236
 z139:=Tryz.sizeOf236
 v139:=Tryz.zeroValue236
 g3:=by kernel_rfl
 g4:=by kernel_rfl }
open Go.RowKit Go.Lib in
theorem Tryz.utf8_DecodeRuneInString (s:ByteArray)(w:World)(UG:Lib.Utf8Tabs 0 1 w) :
  Calls W 114 #[.string s] w λe w'=>e=.returned (.tuple #[.int .i32 (Lib.decodeGo s).1,.int .i64 (Lib.decodeGo s).2])/\Below w.heap.size w w':=Any.utf8_DecodeRuneInString Tryz.lays197 s w UG
end Go.Proofs
end
section
namespace Go.Proofs
open Go.Shelf
def Tryz.laysM171_ren:Go.Shelf.Ren:=⟨fun | 171=>47 | 243=>96 | 246=>153 | 283=>213 | 284=>214 | 285=>215 | 286=>216 | 129=>290 | 317=>289 | 318=>291 | 319=>292 | 320=>293 | 337=>356 | 338=>357 | n=>n,fun | 3=>3 | 9=>9 | 2=>2 | 4=>4 | 171=>301 | 0=>0 | 53=>299 | 37=>79 | 5=>5 | 173=>304 | 212=>358 | 51=>359 | 20=>20 | 213=>360 | 46=>237 | 232=>405 | 233=>406 | n=>n,fun | 17=>2 | 18=>6 | 19=>7 | n=>n⟩
theorem Tryz.laysM171:Go.Proofs.LaysM.n171 W Tryz.laysM171_ren:={
 mixed:=by kernel_rfl
 f129:=Tryz.func290.trans (aD some ac)
 f171:=Tryz.func47.trans (aD some ac)
 f243:=Tryz.func96.trans (aD some ac)
 f246:=Tryz.func153.trans (aD some ac)
 f283:=Tryz.func213.trans (aD some ac)
 f284:=Tryz.func214.trans (aD some ac)
 f285:=Tryz.func215.trans (aD some ac)
 f286:=Tryz.func216.trans (aD some ac)
 f317:=Tryz.func289.trans (aD some ac)
 f318:=Tryz.func291.trans (aD some ac)
 f319:=Tryz.func292.trans (aD some ac)
 f320:=Tryz.func293.trans (aD some ac)
 f337:=Tryz.func356.trans (aD some ac)
 f338:=Tryz.func357.trans (aD some ac)
 t0:=Hp
 a0:=Hl
 z0:=Hn
 v0:=Hr
 t2:=Tryz.underlying2
 a2:=Tryz.isAgg2
 z2:=Tryz.sizeOf2
 v2:=Tryz.zeroValue2
 t3:=dq
 a3:=DO
 z3:=DP
 v3:=DR
 t4:=pr
 a4:=Tryz.isAgg4
 z4:=Tryz.sizeOf4
 v4:=yr
 t5:=en
 a5:=AI
 z5:=AJ
 v5:=AK
 t9:=aF
 a9:=Hm
 z9:=Ho
 v9:=Hs
 t20:=Tryz.underlying20
 a20:=Tryz.isAgg20
 z20:=Tryz.sizeOf20
 v20:=Tryz.zeroValue20
 t37:=fk
 a37:=Tryz.isAgg79
 z37:=Tryz.sizeOf79
 v37:=Tryz.zeroValue79
 t46:=Tryz.underlying237
 a46:=Mj
 z46:=Mk
 v46:=Ml
 t51:=Tryz.underlying359
 a51:=Tryz.isAgg359
 z51:=Tryz.sizeOf359
 v51:=Tryz.zeroValue359
 t53:=DQ
 a53:=Tryz.isAgg299
 z53:=Tryz.sizeOf299
 v53:=Tryz.zeroValue299
 t171:=Tryz.underlying301
 a171:=Tryz.isAgg301
 z171:=Tryz.sizeOf301
 v171:=Tryz.zeroValue301
 t173:=Tryz.underlying304
 a173:=Tryz.isAgg304
 z173:=Tryz.sizeOf304
 v173:=Tryz.zeroValue304
 t212:=Tryz.underlying358
 a212:=Tryz.isAgg358
 z212:=Tryz.sizeOf358
 v212:=Tryz.zeroValue358
 t213:=Tryz.underlying360
 a213:=Tryz.isAgg360
 z213:=Tryz.sizeOf360
 t232:=Tryz.underlying405
 a232:=Tryz.isAgg405
 z232:=Tryz.sizeOf405
 v232:=Tryz.zeroValue405
 t233:=Tryz.underlying406
 a233:=Tryz.isAgg406
 z233:=Tryz.sizeOf406
 v233:=Tryz.zeroValue406
 g17:=by kernel_rfl
 g18:=by kernel_rfl
 g19:=by kernel_rfl
 i0:=by kernel_rfl
 i2:=by kernel_rfl
 i3:=by kernel_rfl
 i4:=by kernel_rfl
 i5:=by kernel_rfl
 i9:=by kernel_rfl
 i20:=by kernel_rfl
 i37:=by kernel_rfl
 i46:=by kernel_rfl
 i51:=by kernel_rfl
 i53:=by kernel_rfl
 i171:=by kernel_rfl
 i173:=by kernel_rfl
 i212:=by kernel_rfl
 i232:=by kernel_rfl
 i233:=by kernel_rfl
 m17:=by kernel_rfl
 m18:=by kernel_rfl
 m19:=by kernel_rfl }
theorem Tryz.strconv_Itoa (n : Int) (ap : -9223372036854775808 <= n) (h1 : n <= 9223372036854775807) (w : World) (bUf : Lib.TabIs Tryz.prog w "internal/strconv.uint64pow10" .u64 Lib.pow10Tab) :
  Calls W 47 #[.int .i64 n] w λe w'=>e=.returned (.string ⟨(Lib.itoa n).toArray⟩)/\∃ k os,w'=Go.Sort.grow (w.drewN k) os:=Any.strconv_Itoa Tryz.laysM171 n ap h1 w bUf
def Tryz.lays196_ren:Go.Shelf.Ren:=⟨fun | 196=>91 | 259=>149 | n=>n,fun | 9=>9 | 4=>4 | 3=>3 | 5=>5 | 12=>12 | 119=>233 | 0=>0 | 46=>237 | 139=>236 | 138=>235 | 53=>299 | n=>n,fun | 3=>0 | 4=>1 | n=>n⟩
theorem Tryz.lays196:Go.Proofs.Lays.n196 W Tryz.lays196_ren:={
 mixed:=by kernel_rfl
 f196:=Tryz.func91.trans (aD some ac)
 f259:=Tryz.func149.trans (aD some ac)
 t0:=Hp
 a0:=Hl
 z0:=Hn
 v0:=Hr
 t3:=dq
 a3:=DO
 z3:=DP
 v3:=DR
 t4:=pr
 a4:=Tryz.isAgg4
 z4:=Tryz.sizeOf4
 v4:=yr
 t5:=en
 a5:=AI
 z5:=AJ
 v5:=AK
 t9:=aF
 a9:=Hm
 z9:=Ho
 v9:=Hs
 t12:=Tryz.underlying12
 a12:=Tryz.isAgg12
 z12:=Tryz.sizeOf12
 v12:=Tryz.zeroValue12
 t46:=Tryz.underlying237
 a46:=Mj
 z46:=Mk
 v46:=Ml
 t53:=DQ
 a53:=Tryz.isAgg299
 z53:=Tryz.sizeOf299
 v53:=Tryz.zeroValue299
 t119:=Tryz.underlying233
 a119:=Tryz.isAgg233
 z119:=Tryz.sizeOf233
 t138:=Tryz.underlying235
 a138:=Tryz.isAgg235
 z138:=Tryz.sizeOf235
 v138:=Tryz.zeroValue235
 t139:=Tryz.underlying236
 a139:=Tryz.isAgg236
 z139:=Tryz.sizeOf236
 v139:=Tryz.zeroValue236
 g3:=by kernel_rfl
 g4:=by kernel_rfl }
def Tryz.lays27_ren:Go.Shelf.Ren:=⟨fun | 27=>293 | 28=>356 | 29=>357 | n=>n,fun | 25=>237 | 3=>3 | 27=>359 | 22=>299 | 4=>4 | 53=>405 | 0=>0 | 5=>5 | 54=>406 | n=>n,fun | 0=>6 | 1=>7 | n=>n⟩
theorem Tryz.lays27:Go.Proofs.Lays7.n27 W Tryz.lays27_ren:={
 mixed:=by kernel_rfl
 f27:=Tryz.func293.trans (aD some ac)
 f28:=Tryz.func356.trans (aD some ac)
 f29:=Tryz.func357.trans (aD some ac)
 t0:=Hp
 a0:=Hl
 z0:=Hn
 v0:=Hr
 i0:=by kernel_rfl
 t3:=dq
 a3:=DO
 z3:=DP
 v3:=DR
 i3:=by kernel_rfl
 t4:=pr
 a4:=Tryz.isAgg4
 z4:=Tryz.sizeOf4
 v4:=yr
 i4:=by kernel_rfl
 t5:=en
 a5:=AI
 z5:=AJ
 v5:=AK
 i5:=by kernel_rfl
 t22:=DQ
 a22:=Tryz.isAgg299
 z22:=Tryz.sizeOf299
 v22:=Tryz.zeroValue299
 i22:=by kernel_rfl
 t25:=Tryz.underlying237
 a25:=Mj
 z25:=Mk
 v25:=Ml
 i25:=by kernel_rfl
 t27:=Tryz.underlying359
 a27:=Tryz.isAgg359
 z27:=Tryz.sizeOf359
 v27:=Tryz.zeroValue359
 i27:=by kernel_rfl
 t53:=Tryz.underlying405
 a53:=Tryz.isAgg405
 z53:=Tryz.sizeOf405
 v53:=Tryz.zeroValue405
 i53:=by kernel_rfl
 t54:=Tryz.underlying406
 a54:=Tryz.isAgg406
 z54:=Tryz.sizeOf406
 g0:=by kernel_rfl
 g1:=by kernel_rfl }
end Go.Proofs
end
section
namespace Go.Dk
open Go Go.RowKit Go.Lib
section
variable {P:Program} {ops:Array Oper} {Q:Exit->Act->World->Prop} {bh:List Oper} {o:Oper} {n:Nat} {f:Nat->Value} {w w0:World} {L:List (Nat×Obj)} {R:List Row} {ρ:Operand->Value}
theorem Zb {t ee:TypeId}{x y:Operand}{k:IntKind}{p q:Int}(au:o.op=.binOp .sub t x y ee)(hx:ρ x=.int k p)(hy:ρ y=.int k q):(execOp ρ o).run P w=.ok (.value (.int k (k.wrap (p-q)))) w:=by
 unfold execOp;rw [au];simp [hx,hy,eqGuard,binOp,Op.intArith]
theorem Y6 {s t:TypeId}{x:Operand}{m:Nat}{d:TypeDesc}(au:o.op=.convert s t x)(hx:ρ x=.int .i64 m)(hs:P.underlying s=some d)(ht:P.underlying t=some (.int .u64))(h:m<256):(execOp ρ o).run P w=.ok (.value (.int .u64 m)) w:=by
 have:=xR (w:=w) au hx hs ht;have e:IntKind.u64.wrap (m:Int)=(m:Int):=by simp [IntKind.wrap,IntKind.signed,IntKind.bits];omega
 rwa [e] at this
theorem cGr {t ee:TypeId}{x y:Operand}{k:IntKind}{p q:Int}(au:o.op=.binOp .lss t x y ee)(hx:ρ x=.int k p)(hy:ρ y=.int k q)(h:¬ p<q):(execOp ρ o).run P w=.ok (.value (.bool false)) w:=by
 have:=gQ (P:=P) (w:=w) (b:=decide (p<q)) au hx hy B;rwa [decide_eq_false h] at this
theorem cG5 {t e:TypeId}{x y:Operand}{len s b k:Nat}{kd:IntKind}{m:Int}(au:o.op=.slice t x (some y) none none)(hx:ρ x=.pointer (some ⟨b,k,none⟩))(hy:ρ y=.int kd m)(aP:P.underlying t=some (.array len e))(hs:(P.info? e).map (·.size)=some s)(ap:0<=m)(h1:m<len) :
  (execOp ρ o).run P w=.ok (.value (.slice (some ⟨b,k+m.toNat*s,none⟩) (len-m.toNat) (len-m.toNat))) w:=by
 unfold execOp;rw [au];have h2:m<=(len:Int):=I;have Y:¬ len=m.toNat:=I;simp [hx,hy,Instr.sliceAt,Instr.sureAddr,Instr.sliceBounds,Instr.sliceBound,asIntOf,run_underlying aP,ap,h2,sQ (w:=w) hs,q7,Y]
end
theorem bAz (w:World)(q:Nat)(os:Array Obj):Below w.heap.size w (Go.Sort.grow (w.drewN q) os) :=
 ⟨rfl,rfl,rfl,by simp [Go.Sort.grow],λi hi=>by
  show ((w.drewN q).heap++os)[i]?=_;rw [Array.getElem?_append_left (by show i<w.heap.size;omega)]
  rfl⟩
theorem aJ9 {w w':World}(hb:Below w.heap.size w w'){a:Addr}{v:Value}(h:w.cell? a=some v):w'.cell? a=some v:=by
 have h2:=block_lt_of_cell h;have Y:=hb.block a.block (by simpa using h2);have ar:w'.cell? a=w.cell? a:=by simp [World.cell?,Y]
 rw [ar];exact h
theorem cE6 {P:Program}{nm:String}{g:Nat}{k:IntKind}{s6:List Int}(Vk:P.globalNamed nm=some g){w w':World}(hb:Below w.heap.size w w')(h:Lib.TabIs P w nm k s6):Lib.TabIs P w' nm k s6:=by
 unfold Lib.TabIs World.var? at h ⊢;rw [Vk] at h ⊢;simp only [ke] at h ⊢;have b8:g<w.heap.size:=by
  rcases ma g w.heap.size with aU | aU
  ·exact aU
  ·rw [Array.getElem?_eq_none aU] at h;cases h
 rw [hb.block g b8];exact h
end Go.Dk
namespace Go.Proofs.YthiafbkolhnadaaGreatDoor
open Go Go.Dk Go.RowKit Go.Lib
structure Tabs (w:World):Prop where
 pow : Lib.TabIs Tryz.prog w "internal/strconv.uint64pow10" .u64 Lib.pow10Tab
 bit:Go.Proofs.TabAt 7 Lib.deBruijn64tab w
 utf:Lib.Utf8Tabs 0 1 w
theorem Tabs.up {w w':World}(h:Tabs w)(hb:Below w.heap.size w w'):Tabs w' :=
 ⟨cE6 (g:=2) ac hb h.pow,λj ax=>aJ9 hb (h.bit j ax),Go.Proofs.Utf8Tabs_below h.utf hb⟩
theorem bFj (n:Int)(w0:World)(ht:Tabs w0)(ap:-9223372036854775808<=n)(h1:n<=9223372036854775807):Fc W 47 [.int .i64 n] w0 (λv _=>v=.string (bs (itoa n))) :=
 Calls.mono (Go.Proofs.Tryz.strconv_Itoa n ap h1 w0 ht.pow) λe w' ⟨he,k,os,hw⟩=>⟨_,he,by rw [hw];exact bAz _ _ _,rfl⟩
theorem bGd (s:ByteArray)(w0:World)(ht:Tabs w0)(hs:s.size<=9223372036854775807):Fc W 91 [.string s] w0 (lP λb=>b=validD s.data.toList) :=
 Calls.mono (Go.Proofs.Any.utf8_ValidString Go.Proofs.Tryz.lays196 s w0 hs ht.utf) λe w' ⟨he,hb⟩=>⟨_,he,hb,_,rfl,rfl⟩
theorem bDv (w0:World)(ht:Tabs w0):Fc W 293 [.int .u64 16] w0 (Ad λm=>m=4) :=
 Calls.mono (Go.Proofs.Any7.bits_TrailingZeros Go.Proofs.Tryz.lays27 16 (by decide) w0 λ_=>ht.bit) λe w' ⟨he,hw⟩=>⟨_,he,by rw [hw];exact Below.refl _ _,_,rfl,by decide⟩
end Go.Proofs.YthiafbkolhnadaaGreatDoor
end
section
namespace Go.Proofs
open Go.Shelf
def Tryz.lays169_ren:Go.Shelf.Ren:=⟨fun | 169=>157 | n=>n,fun | 70=>243 | 9=>9 | 0=>0 | 72=>245 | 37=>79 | 127=>312 | 3=>3 | 5=>5 | n=>n,fun | n=>n⟩
theorem Tryz.lays169:Go.Proofs.Lays.n169 W Tryz.lays169_ren:={
 mixed:=by kernel_rfl
 f169:=Tryz.func157.trans (aD some ac)
 t0:=Hp
 a0:=Hl
 z0:=Hn
 v0:=Hr
 t3:=dq
 a3:=DO
 z3:=DP
 v3:=DR
 t9:=aF
 a9:=Hm
 z9:=Ho
 v9:=Hs
 t37:=fk
 a37:=Tryz.isAgg79
 z37:=Tryz.sizeOf79
 v37:=Tryz.zeroValue79
 t70:=Tryz.underlying243
 a70:=Tryz.isAgg243
 z70:=Tryz.sizeOf243
 v70:=Tryz.zeroValue243
 t72:=Tryz.underlying245
 a72:=Tryz.isAgg245
 z72:=Tryz.sizeOf245
 v72:=Tryz.zeroValue245
 t127:=Tryz.underlying312
 a127:=Tryz.isAgg312
 z127:=Tryz.sizeOf312
 v127:=Tryz.zeroValue312 }
theorem Tryz.Builder_Extra_169:Builder.Extra W Tryz.lays169_ren:={
 sizeBuilder:=by kernel_rfl
 liesBuilder:=by kernel_rfl
 t5:=en
 a5:=AI
 z5:=AJ
 v5:=AK
 infoByte:=by kernel_rfl
 cellsByte:=by kernel_rfl
 sizeByte:=by kernel_rfl
 neB5:=by decide }
open Go.RowKit in
theorem Tryz.Builder_String_any_k (ea b:Nat)(l:List UInt8)(w:World)(h:Lib.IsBuilderF 245 5 ea b (Lib.byteCells l) w)(bM4:ea<=w.heap.size) :
  Calls W 157 #[.pointer (some ⟨b,0,none⟩)] w λe w'=>e=.returned (.string ⟨l.toArray⟩)/\(Lib.IsBuilderF 245 5 ea b (Lib.byteCells l) w'/\Below ea w w'/\Lib.OthersKept 5 (some b) w w'):=Any.Builder_String_any_k Tryz.lays169 Tryz.Builder_Extra_169 ea b l w h bM4
end Go.Proofs
end
section
namespace Go.Proofs.YthiafbkolhnadaaGreatDoor
open Go Go.Dk Go.RowKit Go.Lib
def Cnt (w:World):Prop:=∃ m:Int,w.cell? ⟨3,0,none⟩=some (.int .i64 m)
theorem Cnt.up {w w':World}(h:Cnt w)(hb:Below w.heap.size w w'):Cnt w':=by
 obtain ⟨m,hm⟩:=h;exact ⟨m,aJ9 hb hm⟩
end Go.Proofs.YthiafbkolhnadaaGreatDoor
end
section
namespace Go.Dk
open Go Go.RowKit Go.Lib Go.Proofs.YthiafbkolhnadaaGreatDoor
variable {n:Nat}
def Fo:List UInt8:=[34,92,47,98,102,110,114,116]
def aRt:List UInt8:=[34,92,47,8,12,10,13,9]
def Xr:List UInt8:=[91,93,123,125,44,58]
def aTt (c:UInt8):Bool:=if Lib.indexByte Fo c<0 then kj c.toNat==none else decide ((Lib.indexByte Fo c).toNat<8)&&kj c.toNat==some (aRt.getD (Lib.indexByte Fo c).toNat 0).toNat
def aTu (c:UInt8):Bool:=decide (0<=Lib.indexByte Xr c)==decide (pun c.toNat)
theorem bY9:∀ b:Fin 256,aTt (bM b.val)=true:=by decide +kernel
theorem bZa:∀ b:Fin 256,aTu (bM b.val)=true:=by decide +kernel
theorem bWn (c:UInt8):(Lib.indexByte Fo c<0/\kj c.toNat=none)\/∃ j:Nat,Lib.indexByte Fo c=j/\j<8/\kj c.toNat=some (aRt.getD j 0).toNat:=by
 have h:=bY9 ⟨c.toNat,c.toNat_lt⟩;simp only [wz] at h;unfold aTt at h;split at h
 ·rename_i h1;exact .inl ⟨h1,by simpa using h⟩
 . rename_i h1
   simp only [fS,decide_eq_true_eq,beq_iff_eq] at h;exact .inr ⟨_,I,h.1,h.2⟩
theorem bWo (c:UInt8):0<=Lib.indexByte Xr c↔pun c.toNat:=by
 have h:=bZa ⟨c.toNat,c.toNat_lt⟩;simp only [wz] at h;unfold aTu at h;simpa using h
def vS (r:Nat):Nat->List UInt8
 | 0=>[]
 | m+1=>bM (128+r / 64^m%64)::vS r m
def xy (n:Nat):Nat:=if n=2 then 192 else if n=3 then 224 else 240
theorem bI4 {r:Nat}(h:e7 r=true)(hn:n=s4 r)(h1:n≠1):dh r=bM (xy n+r / 64^(n-1))::vS r (n-1)/\2<=n/\n<=4/\r / 64^(n-1)<(if n=2 then 32 else if n=3 then 16 else 8):=by
 have hr:=((nL r).1 h).1;unfold s4 at hn;unfold dh;rw [O (by rw [h];decide)];split at hn
 ·exact absurd hn h1
 split at hn
 . subst hn
   rw [O I,U I];simp [xy,vS];omega
 split at hn
 . subst hn
   rw [O I,O I,U I];simp [xy,vS];omega
 . subst hn
   rw [O I,O I,O I];simp [xy,vS];omega
theorem bW8:∀ (n:Fin 3) (b:Fin 32),b.val<(if n.val+2=2 then 32 else if n.val+2=3 then 16 else 8)->cQ .or .i64 (cQ .and .i64 (shr .i64 3840 (n.val+2)) 255) (b.val:Int)=((xy (n.val+2)+b.val:Nat):Int):=by decide +kernel
theorem bW9 {b:Nat}(h2:2<=n)(ar:n<=4)(hb:b<(if n=2 then 32 else if n=3 then 16 else 8)):cQ .or .i64 (cQ .and .i64 (shr .i64 3840 n) 255) (b:Int)=((xy n+b:Nat):Int):=by
 have Ep:b<32:=by
  split at hb
  ·exact hb
  ·split at hb <;> omega
 have:=bW8 ⟨n-2,I⟩ ⟨b,Ep⟩;simp only [show n-2+2=n by omega] at this;exact this hb
theorem bW6 {b:Nat}(hb:b<(if n=2 then 32 else if n=3 then 16 else 8)):xy n+b<256:=by
 unfold xy;split at hb
 ·rw [U cj];omega
 . split at hb
   ·rw [O cj,U cj];omega
   ·rw [O cj,O cj];omega
theorem cFm {r i:Nat}(hi:i<n)(x:UInt8)(hx:x=bM (128+r / 64^(n-1-i)%64)):(pk (i+1) (0:UInt8)++vS r (n-1-i)).set i x=pk i 0++vS r (n-1-i+1):=by
 rw [List.replicate_succ',eB,List.set_append_right _ _ (by simp)];simp [vS,hx]
end Go.Dk
namespace Go.Proofs.YthiafbkolhnadaaGreatDoor
open Go Go.Dk Go.RowKit Go.Lib
theorem aJi (s:List UInt8)(c:UInt8)(w0:World):Fc W 329 [.string (bs s),.int .u8 ((c.toNat:Nat):Int)] w0 (λv _=>v=.int .i64 (Lib.indexByte s c)):=by
 refine Calls.mono (Go.Proofs.Tryz.strings_IndexByte (bs s) ((c.toNat:Nat):Int) w0) λe w' ⟨he,hw⟩=>⟨_,he,by rw [hw];exact Below.refl _ _,?_⟩
 have e:(((c.toNat:Nat):Int).toNat).toUInt8=c:=by
  rw [gD];simp
 rw [e];rfl
theorem bD7 (c:UInt8)(w0:World):Fc W 329 [.string (bs [34,92,47,98,102,110,114,116]),.int .u8 ((c.toNat:Nat):Int)] w0 (λv _=>∃ k:Int,v=.int .i64 k/\((k<0/\kj c.toNat=none)\/∃ j:Nat,k=j/\j<8/\kj c.toNat=some (([34,92,47,8,12,10,13,9]:List UInt8).getD j 0).toNat)) :=
 (aJi Fo c w0).mono λv w' _ h=>⟨_,h,bWn c⟩
theorem bD8 (c:UInt8)(w0:World):Fc W 329 [.string (bs [91,93,123,125,44,58]),.int .u8 ((c.toNat:Nat):Int)] w0 (λv _=>∃ k:Int,v=.int .i64 k/\(0<=k↔pun c.toNat)) :=
 (aJi Xr c w0).mono λv w' _ h=>⟨_,h,bWo c⟩
end Go.Proofs.YthiafbkolhnadaaGreatDoor
end
section
namespace Go.Proofs.YthiafbkolhnadaaGreatDoor
open Go Go.Dk Go.RowKit Go.Lib
attribute [local irreducible] Go.wpList Go.Code.wp Go.bodyPost Go.wpStill
theorem bDt (r:Nat)(w0:World):Fc W 288 [.int .i64 r] w0 (lP λb=>b=e7 r):=by
 refine aI Tryz.func288 B Tryz.ntmps288 B ?_;have G:=Ctx.start w0;refine AL ?_;refine be Tryz.results288 B ?_;exact aBe
theorem aI2 (r:Nat)(w0:World):Fc W 192 [.int .i64 r] w0 (lP λb=>b=e7 r):=by
 refine aI Tryz.func192 B Tryz.ntmps192 B ?_;have G:=Ctx.start w0;refine AL ?_;refine be Tryz.results192 B ?_;exact aBe
theorem Tg (r:Nat)(w0:World)(hr:r<4294967296):Fc W 212 [.int .i64 r] w0 (λv _=>v=.tuple #[M (dh r),.int .i64 (if e7 r=true then 0 else 2)]):=by
 refine aI Tryz.func212 B Tryz.ntmps212 B ?_;have G:=Ctx.start w0;refine cF ?_;refine xJ G (bDt _ _) Tryz.func288 B B B B B B ?_;intro PD w G hF ER;refine ae ?_;refine cn B (λhR=>?_) (λhR=>?_)
 ·have dj:e7 r=false:=by rw [<- ER];simpa using hR
  refine az ?_;refine GA ?_;have he:dh r=[]:=by unfold dh;rw [U dj]
  have h2:(2:Int)=(if e7 r=true then 0 else 2):=by rw [O Kc]
  refine Hh ?_;rw [he]
  rfl
 have dj:e7 r=true:=by rw [<- ER];simpa using hR
 refine az ?_;refine Z (λfm=>?_) (λfm=>?_)
 ·refine ae ?_;refine aDs ?_;refine qT ?_;intro jY w G Iw qx;refine S B B (sY B fk en aF (ns:=[_]) (G.row 0 B) B B) ?_;refine an ?_;refine GA ?_;have he:dh r=[bM r]:=by
   unfold dh;rw [O Kc];rw [U I]
  have h2:(0:Int)=(if e7 r=true then 0 else 2):=by rw [U dj]
  refine Hh ?_;rw [he];exact cEp I
 refine az ?_;refine Z (λef=>?_) (λef=>?_)
 ·refine ae ?_;refine x1 ?_;refine He ?_;refine ab ?_;refine Ax ?_;refine Ri ?_;intro cI4 w G cLh E8;refine S B B (sY B fk en aF (ns:=[_,_]) (G.row 0 B) B B) ?_;refine an ?_;refine GA ?_;have he:dh r=[bM (192+r / 64),bM (128+r%64)]:=by
   unfold dh;rw [O Kc];rw [O I];rw [U I]
  have h2:(0:Int)=(if e7 r=true then 0 else 2):=by rw [U dj]
  refine Hh ?_;rw [he];rw [show shr IntKind.i64 (r:Int) (dw 6)=((r / 64:Nat):Int) from CB 6 (by decide),AN hr,bZi I,Cp I];exact cEq I I
 refine az ?_;refine Z (λjd=>?_) (λjd=>?_)
 ·refine ae ?_;refine x1 ?_;refine He ?_;refine ab ?_;refine x1 ?_;refine Ax ?_;refine ab ?_;refine Ax ?_;refine aVu G fk mJ z5 B B B B B B B B B ?_;intro SW w G Ix aQ2;refine S B B (sY B fk en aF (ns:=[_,_,_]) (G.row 0 B) B B) ?_;refine an ?_;refine GA ?_;have he:dh r=[bM (224+r / 4096),bM (128+r / 64%64),bM (128+r%64)]:=by
   unfold dh;rw [O Kc];rw [O I];rw [O I];rw [U I]
  have h2:(0:Int)=(if e7 r=true then 0 else 2):=by rw [U dj]
  refine Hh ?_;rw [he];rw [show shr IntKind.i64 (r:Int) (dw 12)=((r / 4096:Nat):Int) from CB 12 (by decide),show shr IntKind.i64 (r:Int) (dw 6)=((r / 64:Nat):Int) from CB 6 (by decide),AN hr,AN I,bZj I,Cp I,Cp I];exact cEr I I I
 refine an ?_;refine x1 ?_;refine He ?_;refine ab ?_;refine x1 ?_;refine Ax ?_;refine ab ?_;refine x1 ?_;refine Ax ?_;refine ab ?_;refine Ax ?_;refine cDb G fk mJ z5 B B B B B B B B B B B ?_;intro b64 w G bNz aQ7;refine S B B (sY B fk en aF (ns:=[_,_,_,_]) (G.row 0 B) B B) ?_;refine an ?_;refine GA ?_;have j2:=((nL r).1 dj).1;have he:dh r=[bM (240+r / 262144),bM (128+r / 4096%64),bM (128+r / 64%64),bM (128+r%64)]:=by
  unfold dh;rw [O Kc];rw [O I];rw [O I];rw [O I]
 have h2:(0:Int)=(if e7 r=true then 0 else 2):=by rw [U dj]
 refine Hh ?_;rw [he];rw [show shr IntKind.i64 (r:Int) (dw 18)=((r / 262144:Nat):Int) from CB 18 (by decide),show shr IntKind.i64 (r:Int) (dw 12)=((r / 4096:Nat):Int) from CB 12 (by decide),show shr IntKind.i64 (r:Int) (dw 6)=((r / 64:Nat):Int) from CB 6 (by decide),AN hr,AN I,AN I,bZk I,Cp I,Cp I,Cp I];exact cEs I I I I
theorem Ta (s:ByteArray)(a:Nat)(w0:World)(hs:s.size<=1073741824)(a6:a<s.size):Fc W 152 [.string s,.int .i64 a] w0 (λv _=>∃ r:Int,v=.tuple #[.int .i64 r,.int .i64 (fB s a)]):=by
 refine aI Tryz.func152 B Tryz.ntmps152 B ?_;have G:=Ctx.start w0;refine kf ?_;refine Ak ?_;refine ae ?_;refine Z (λeH=>?_) (λeH=>?_)
 ·refine az ?_;refine x2 ?_;exfalso;omega
 refine aq ?_;refine Ah ?_;refine Ro ?_;refine bz ?_;refine cw (λf ah=>∃ jS im:Nat,ib (aY s a)=(jS,im)/\f 0=.string s/\f 1=.int .i64 a/\f 7=.int .i64 jS/\f 8=.int .i64 im/\Ctx w0 ah []) ?_ ?_
 ·refine aG ?_;refine Z (λfI=>?_) (λfI=>?_)
  ·exact Qt
  refine az ?_;refine Z (λnP=>?_) (λnP=>?_)
  ·exact Qt
  refine az ?_;refine Z (λh9=>?_) (λh9=>?_)
  ·exact Qt
  refine ab ?_;exact Zy
 intro f w ai;obtain ⟨jS,im,BA,aB,aK,aS,bb,G⟩:=ai;have ms:=aNv (aY s a);have rp:=i7 s a;rw [BA] at ms;simp only at ms;refine an ?_;refine wk ?_;refine aq ?_;refine Z (λiT=>?_) (λiT=>?_)
 ·refine az ?_;refine x2 ?_;exact ⟨G.ext,0,vU (m:=0) (YM a6 FG) B B⟩
 refine aG ?_;refine bu (λk f ah=>∃ i:Nat,1<=i/\k+i=jS/\f 0=.string s/\f 1=.int .i64 a/\f 7=.int .i64 jS/\f 8=.int .i64 (kT s a im (i-1))/\f 9=.int .i64 i/\Ctx w0 ah []) (jS-1) ?_ ?_
 ·exact aB1
 intro Ej f w ai;obtain ⟨i,hi,hk,aB,aK,aS,bb,b6,G⟩:=ai;have Bh:=Ms s a im I (i-1) I;have aM9:256*64^(i-1)<=67108864:=nI (Nat.mul_le_mul_left 256 (pn (by decide) (show i-1<=3 by omega))) (by decide);refine aG ?_;refine cn B (λgq=>?_) (λgq=>?_)
 ·exact Z5
 try simp only [dy] at gq
 refine an ?_;refine bG G (Tg _ _ I) Tryz.func212 B B B B B B ?_;intro cBw w G WW We;subst We;refine Mm ?_;refine Lg ?_;refine aDt ?_;refine aN B B B a8 (λhc=>wa B ay ay) ?_;refine ag ?_;refine Z (λEt=>?_) (λEt=>?_)
 ·refine az ?_;refine x2 ?_;have dK:i=jS:=I;subst dK;have hz:fB s a=0:=by
   exact aA5
  exact ⟨G.ext,0,vU (m:=0) hz B B⟩
 refine cK ?_;refine x2 ?_;have dK:i=jS:=I;subst dK;have hz:fB s a=i:=by
  rw [YL a6 FG,BA];simp only;rw [U];obtain ⟨h1,h2⟩:=Et;have e:e7 (kT s a im (i-1))=true:=by
   exact Zu
  refine ⟨e,?_⟩;have Y:=aD (λb:ByteArray=>b.data.toList) h2;exact Y.trans (TD I I)
 exact ⟨G.ext,_,vU (m:=i) hz B B⟩
theorem bGg (s:ByteArray)(w0:World)(hs:s.size<=1073741824):Fc W 95 [.string s] w0 (λv _=>∃ x,v=.tuple #[x,.bool (validD s.data.toList)]):=by
 refine aI Tryz.func95 B Tryz.ntmps95 B ?_;have G:=Ctx.start w0;refine aG ?_;refine C4 ?_;intro cP w G lB jg;replace G:=Cxr.toRow (size:=1) (k:=1) G B (by decide);refine bz ?_;refine bu (λk f ah=>∃ (i m:Nat) (v:Value) (xs:List Value),k+i=s.size/\m<=i+1/\validD s.data.toList=validD (s.data.toList.drop i)/\f 0=.string s/\f 5=.int .i64 i/\f 4=v/\Cxr w0 ah [] [⟨3,1,v,m,xs⟩]) (s.size) ?_ ?_
 ·exact ⟨0,1,_,_,I,I,B,B,B,B,G⟩
 intro gJ f w ai;obtain ⟨i,m,v,xs,hk,hm,js,aB,bF,aM,G⟩:=ai;refine aq ?_;refine wk ?_;refine ag ?_;refine Z (λco=>?_) (λco=>?_)
 ·have ec:=Kv s i I;refine az ?_;refine bG G (Ta _ _ _ I I) Tryz.func152 B B B B B B ?_;intro Ki w G sD rG;obtain ⟨cJ8,rfl⟩:=rG;refine i6 ?_;refine Z (λct=>?_) (λct=>?_)
  ·refine aG ?_;refine Lh ?_;exact ⟨G.ext,_,aWu (js.trans (aXl s i I I)).symm B⟩
  refine gp ?_;refine C4 ?_;intro aZp w G bNu zk;refine Rj ?_;intro KB w G bP2;replace G:=G.drop 1;refine ag ?_;have ec:=Kv s i I;refine ⟨gJ-fB s i,_,I,B,i+fB s i,m+1,_,_,I,I,?_,aB,?_,B,G⟩
  ·rw [js];exact Qg s i I I
  . show Value.int .i64 _=_
    congr 1
 refine bz ?_;refine Lh ?_;exact ⟨G.ext,_,aWu (js.trans (aXo s i I)).symm B⟩
theorem bFi (s:ByteArray)(w0:World)(hs:s.size<=1073741824):Fc W 44 [.string s] w0 (lP λb=>b=validD s.data.toList):=by
 refine aI Tryz.func44 B Tryz.ntmps44 B ?_;have G:=Ctx.start w0;refine aG ?_;refine bG G (bGg _ _ I) Tryz.func95 B B B B B B ?_;intro Kk w G iW zb;obtain ⟨cKd,rfl⟩:=zb;refine i6 ?_;refine be Tryz.results44 B ?_;exact ⟨G.ext,_,B,B⟩
end Go.Proofs.YthiafbkolhnadaaGreatDoor
end
