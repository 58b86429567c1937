/-
  Several texts in one: Lu, Zg, M9, L1, L2, L3, L4, Lr, Ls, Gv, L5, L6, Xh, L7, N9, L8, L9, L10, L11, L12
-/
import Derived.Test.YthiafbkolhnadaaGreatDoorVE
open Go.Proofs.Tryz renaming prog->W,underlying9->aF,underlying72->de,underlying3->dq,underlying70->dx,underlying5->en,underlying83->fb,underlying79->fk,underlying28->lp,underlying33->mc,underlying148->mV,underlying32->oA,underlying80->oB,underlying159->po,underlying4->pr,underlying81->qd,underlying25->q3,underlying35->q4,underlying23->r9,underlying78->sa,func132->wv,func77->DM,func79->DN,underlying27->Hq
open List renaming length_append->aQ,length_drop->bC,mem_cons_of_mem->bP,getElem?_eq_getElem->bS,getElem?_eq_some_iff->bT,mem_cons_self->b9,mem_of_getElem?->cb,length_cons->cf,append_nil->cH,length_nil->dC,length_take->dS,append_assoc->eB,length->eC,getElem?_map->eF,mem_cons->eX,drop_drop->fE,length_map->fT,flatMap_cons->gE,length_pos_iff->gF,nil_append->gG,cons_append->gT,mem_singleton->hL,getD_eq_getElem?_getD->hZ,mem_append_right->h0,mem_append->iv,take_zero->iw,mem_append_left->iM,map_cons->jk,getElem?_of_mem->jX,map_append->kc,length_singleton->ll,mem_map->lm,take_of_length_le->lQ,getD->l8,getElem?_append_left->l9,drop_zero->mS,not_mem_nil->mT,take_length->nG,drop_eq_getElem_cons->ph,flatten_cons->pi,getElem?_append_right->pj,all_eq_true->p7,eq_nil_of_length_eq_zero->p8,drop_eq_nil_of_le->q0,drop_of_length_le->AD
open UInt8 renaming ofNat->bM
open Nat renaming zero_le->bU,le_refl->bV,add_zero->gb,beq->gU,zero_add->gV,lt_or_ge->ma,add_assoc->mU,le_trans->nI,pow_le_pow_right->pn,eq_zero_or_pos->tg
open Int renaming toNat->dw,toNat_natCast->gD
open Bool renaming and_eq_true->fS,or_eq_true->hW,eq_iff_iff->jE,not_eq_true'->kP,noConfusion->qR,false_eq_true->r0,or_eq_false_iff->uB
open List.cons renaming injEq->iL
open Option.some renaming injEq->kS,inj->mb
open Classical renaming byContradiction->nA,not_not->nB
open Option renaming map_eq_some_iff->nJ,map_some->ti
set_option linter.unusedSimpArgs false
set_option linter.unusedVariables false
set_option maxHeartbeats 4000000
set_option maxRecDepth 100000
section
namespace Go.Dk
open Go Go.RowKit Go.Lib Go.Proofs.YthiafbkolhnadaaGreatDoor
variable {x v:V}{q:List Stp}{e t:T}{key:List UInt8}
theorem TV {f:T->V->Nat->List Stp->List Ent}:∀ (ks:List T),(∀ k∈ks,vkT k=false)->∀ b,hM f x q ks b=[]
 | [],_,b=>rfl
 | k::ks,h,b=>by
  rw [hM,O (by rw [h k (by simp)];decide),TV ks λk hk=>h k (bP _ hk)];rfl
theorem TS {f:T->V->Nat->List Stp->List Ent}{v:T}(b:Nat)(h:EntOk false e key v)(hv:vkT v=true) :
  hM f x q e.kids b=⟨q,((b+v.lead.length:Nat):Int),((b+v.print.length:Nat):Int)⟩::f v x b q:=by
 obtain ⟨_,_,_,more,hk,hm⟩:=A4 h;rw [hk,hM,TV more hm,U hv,cH]
theorem TT {f:T->V->Nat->List Stp->List Ent}{v:T}(b:Nat)(h:EntOk true e key v)(hv:vkT v=true) :
  hM f x q e.kids b=⟨q,((b+(prints (e.kids.take 2)).length+v.lead.length:Nat):Int),((b+(prints (e.kids.take 2)).length+v.print.length:Nat):Int)⟩::f v x (b+(prints (e.kids.take 2)).length) q:=by
 obtain ⟨_,_,_,dL,lK,more,hk,a6,hb,hm⟩:=A5 h;have j5:(prints (e.kids.take 2)).length=dL.print.length+lK.print.length:=by
  rw [hk];exact aBw
 rw [j5,hk,hM,O (by rw [a6];decide),hM,O (by rw [hb];decide),hM,gG,gG,TV more hm,U hv,cH,<- mU]
theorem Sd.vk(h:Sd t v):vkT t=true:=by cases h <;> rfl
theorem Sd.shp(h:Sd t v):Shp t v:=by
 induction h with
 | sc hl hf h6 h7=>exact .sc h6 h7
 | list l he hk hf hn hv ih=>exact .list l he hk hn ih
 | map l he hk hl hn hd hs hv ih=>exact .map l he hk hn ih
theorem Sd.paths(h:Sd t v):∀ (D a:Nat) (q:List Stp),uV D v q=q::(pT D t v a q).map (·.path):=by
 induction h with
 | sc hl hf h6 h7 =>
  intro D a q
  cases D with
  | zero=>rfl
  | succ D=>rw [uV,hl,hf];rfl
 | @list lead tail l he v hk hf hn hv ih =>
  intro D a q
  cases D with
  | zero=>rfl
  | succ D =>
   have key:∀ (m:List (T×List UInt8×T)) (i b:Nat),(∀ j y,m[j]?=some y->l[i+j]?=some y)->i+m.length=l.length->((v.list.drop i).zipIdx i).flatMap (λx=>uV D x.1 (q++[⟨true,⟨#[]⟩,(x.2:Int)⟩]))=(ha (pT D) v q i (m.map (·.1)) b).map (·.path):=by
    intro m
    induction m with
    | nil =>
     intro i b _ hi;rw [dC] at hi;rw [q0 I];rfl
    | cons y m Ca =>
     intro i b hm hi;rw [cf] at hi;have hy:l[i]?=some y:=hm 0 y B;obtain ⟨x,hx⟩:∃ x,v.list[i]?=some x:=⟨_,bS I⟩;have dN:kidV v i=x:=by unfold kidV;rw [O I,hx];rfl
     have ck:iI v i=⟨true,⟨#[]⟩,(i:Int)⟩:=by unfold iI;rw [O I]
     have E3:=hv i y x hy hx;have hdr:v.list.drop i=x::v.list.drop (i+1):=by
      rw [ph I,(bT.1 hx).2]
     rw [jk,ha,dN,ck,TS b (he y (cb hy)) E3.vk,hdr,List.zipIdx_cons,gE,kc,jk];rw [<- Ca (i+1) _ (λj z hz=>by rw [show i+1+j=i+(j+1) by omega];exact hm (j+1) z (by simpa using hz)) I];rw [ih i y x hy hx D b]
   have l1:=key l 0 (a+lead.length+1) (λj y h=>by rwa [gV]) I;rw [mS] at l1;rw [uV,hf,List.flatMap_nil,cH,l1];rfl
 | @map lead tail l he v hk hl hn hd hs hv ih =>
  intro D a q
  cases D with
  | zero=>rfl
  | succ D =>
   have oU:v.fields.length=l.length:=by have:=aD eC hn;simpa using this
   have key:∀ (m:List (T×List UInt8×T)) (i b:Nat),(∀ j y,m[j]?=some y->l[i+j]?=some y)->i+m.length=l.length->(v.fields.drop i).flatMap (λf=>uV D f.2 (q++[⟨false,f.1,0⟩]))=(ha (pT D) v q i (m.map (·.1)) b).map (·.path):=by
    intro m
    induction m with
    | nil =>
     intro i b _ hi;rw [dC] at hi;rw [q0 I];rfl
    | cons y m Ca =>
     intro i b hm hi;rw [cf] at hi;have hy:l[i]?=some y:=hm 0 y B;obtain ⟨x,hx⟩:∃ x,v.fields[i]?=some x:=⟨_,bS I⟩;have dN:kidV v i=x.2:=by unfold kidV;rw [U hk,hx];rfl
     have ck:iI v i=⟨false,x.1,0⟩:=by unfold iI;rw [U hk,hx];rfl
     have E3:=hv i y x hy hx;have hdr:v.fields.drop i=x::v.fields.drop (i+1):=by
      rw [ph I,(bT.1 hx).2]
     rw [jk,ha,dN,ck,TT b (he y (cb hy)) E3.vk,hdr,gE,kc,jk];rw [<- Ca (i+1) _ (λj z hz=>by rw [show i+1+j=i+(j+1) by omega];exact hm (j+1) z (by simpa using hz)) I];rw [ih i y x hy hx D (b+(prints (y.1.kids.take 2)).length)]
   have l1:=key l 0 (a+lead.length+1) (λj y h=>by rwa [gV]) I;rw [mS] at l1;rw [uV,hl,l1];rfl
theorem Sd.dV(h:Sd t v):∀ (D d:Nat),Ck d t->192<=d+2*D+1->Go.Dk.dV D v:=by
 have cHa:∀ {d k:Nat} {a b c:List UInt8} {ks:List T} {e x:T},Ck d (.mk k a b ks c)->e∈ks->x∈e.kids->Ck (d+2) x:=by
  intro d k a b c ks e x h he hx
  cases h with
  | mk _ _ _ h =>
   have h2:=h e he
   cases h2 with
   | mk _ _ _ Y=>exact Y x hx
 have up:∀ {d:Nat} {x:T},Ck d x->d<=192:=λh=>by cases h with | mk h _ _ _=>exact h
 induction h with
 | sc hl hf h6 h7 =>
  intro D d hc hd
  cases D with
  | zero=>exact ⟨hl,hf⟩
  | succ D=>exact ⟨by rw [hl];simp,by rw [hf];simp⟩
 | @list lead tail l he v hk hf hn hv ih =>
  intro D d hc hd;have kid:∀ y∈l,Ck (d+2) y.2.2:=λy hy=>by
   obtain ⟨_,_,Y,_⟩:=A4 (he y hy);exact aCd
  cases D with
  | zero =>
   refine ⟨?_,hf⟩
   cases l with
   | nil=>exact p8 hn
   | cons y l=>have:=up (kid y (by simp));omega
  | succ D =>
   refine ⟨λx hx=>?_,by rw [hf];simp⟩;exact aAl
 | @map lead tail l he v hk hl hn qm hs hv ih =>
  intro D d hc hd;have oU:v.fields.length=l.length:=by have:=aD eC hn;simpa using this
  have kid:∀ y∈l,Ck (d+2) y.2.2:=λy hy=>by
   obtain ⟨_,_,Y,_⟩:=A5 (he y hy);exact aCd
  cases D with
  | zero =>
   refine ⟨hl,?_⟩
   cases l with
   | nil=>exact p8 oU
   | cons y l=>have:=up (kid y (by simp));omega
  | succ D =>
   refine ⟨by rw [hl];simp,λx hx=>?_⟩;exact aAl
theorem Sd.inv {k:Nat}{lead text tail:List UInt8}{ks:List T}(h:Sd (.mk k lead text ks tail) v):(k=2/\ks=[]/\v.sc.kind≠6/\v.sc.kind≠7) \/
  (k=3/\v.sc.kind=6/\∃ l:List (T×List UInt8×T),ks=l.map (·.1)/\(∀ y∈l,EntOk false y.1 y.2.1 y.2.2)/\v.list.length=l.length/\∀ (i:Nat) (y:T×List UInt8×T) (x:V),l[i]?=some y->v.list[i]?=some x->Sd y.2.2 x) \/
  (k=4/\v.sc.kind=7/\∃ l:List (T×List UInt8×T),ks=l.map (·.1)/\(∀ y∈l,EntOk true y.1 y.2.1 y.2.2)/\v.fields.map (·.1)=l.map (λy=>bs y.2.1)/\(l.map (·.2.1)).Nodup/\∀ (i:Nat) (y:T×List UInt8×T) (x:ByteArray×V),l[i]?=some y->v.fields[i]?=some x->Sd y.2.2 x.2):=by
 cases h with
 | sc hl hf h6 h7=>exact .inl ⟨rfl,rfl,h6,h7⟩
 | list l he hk hf hn hv=>exact .inr (.inl ⟨rfl,hk,l,rfl,he,hn,hv⟩)
 | map l he hk hl hn hd hs hv=>exact .inr (.inr ⟨rfl,hk,l,rfl,he,hn,hd,hv⟩)
theorem Pz:∀ (D:Nat) (t:T) (v:V) (a:Nat) (q:List Stp) (e:Ent),e∈pT D t v a q->q.length<e.path.length
 | 0,_,_,_,_,_,h=>by cases h
 | D+1,t,v,a,q,e,h=>by
  have cc:∀ (x:V) (fi:List Stp) (ks:List T) (b:Nat),e∈hM (pT D) x fi ks b->fi.length<=e.path.length:=by
   intro x fi ks
   induction ks with
   | nil=>intro b h;cases h
   | cons k ks ih =>
    intro b h;rw [hM] at h;rcases iv.1 h with h | h
    . split at h
      . rcases eX.1 h with rfl | h
        ·exact bV _
        ·exact Nat.le_of_lt (Pz D _ _ _ _ _ h)
      ·cases h
    ·exact ih _ h
  have ep:∀ (es:List T) (i b:Nat),e∈ha (pT D) v q i es b->q.length<e.path.length:=by
   intro es
   induction es with
   | nil=>intro i b h;cases h
   | cons k es ih =>
    intro i b h;rw [ha] at h;rcases iv.1 h with h | h
    . have:=cc _ _ _ _ h
      rw [aQ,ll] at this;omega
    ·exact ih _ _ h
  exact ep _ _ _ h
theorem Yb:∀ (d D:Nat),d<=D->∀ (t:T) (v:V) (a:Nat) (q:List Stp),pT d t v a q=(pT D t v a q).filter λe=>decide (e.path.length<=q.length+d)
 | 0,D,_,t,v,a,q=>by
  symm
  rw [pT,List.filter_eq_nil_iff];intro e he;have:=Pz D t v a q e he;simp;omega
 | d+1,0,h,_,_,_,_=>I
 | d+1,D+1,h,t,v,a,q=>by
  have cc:∀ (x:V) (fi:List Stp) (ks:List T) (b:Nat),fi.length=q.length+1->hM (pT d) x fi ks b=(hM (pT D) x fi ks b).filter λe=>decide (e.path.length<=q.length+(d+1)):=by
   intro x fi ks
   induction ks with
   | nil=>intro b _;rfl
   | cons k ks ih =>
    intro b aw;rw [hM,hM,List.filter_append,<- ih _ aw]
    congr 1
    split
    . rw [List.filter_cons,U (by simp;omega),Yb d D I k x b fi,aw]
      congr 2
      funext e
      congr 1
      rw [show q.length+1+d=q.length+(d+1) by omega]
    ·rfl
  have ep:∀ (es:List T) (i b:Nat),ha (pT d) v q i es b=(ha (pT D) v q i es b).filter λe=>decide (e.path.length<=q.length+(d+1)):=by
   intro es
   induction es with
   | nil=>intro i b;rfl
   | cons k es ih =>
    intro i b;rw [ha,ha,List.filter_append,<- ih,cc _ _ _ _ sK]
  exact ep _ _ _
theorem Shp.inv {k:Nat}{lead text tail:List UInt8}{ks:List T}(h:Shp (.mk k lead text ks tail) v):(k=2/\ks=[]/\v.sc.kind≠6/\v.sc.kind≠7) \/
  (k=3/\v.sc.kind=6/\∃ l:List (T×List UInt8×T),ks=l.map (·.1)/\(∀ y∈l,EntOk false y.1 y.2.1 y.2.2)/\v.list.length=l.length/\∀ (i:Nat) (y:T×List UInt8×T) (x:V),l[i]?=some y->v.list[i]?=some x->Shp y.2.2 x) \/
  (k=4/\v.sc.kind=7/\∃ l:List (T×List UInt8×T),ks=l.map (·.1)/\(∀ y∈l,EntOk true y.1 y.2.1 y.2.2)/\v.fields.map (·.1)=l.map (λy=>bs y.2.1)/\∀ (i:Nat) (y:T×List UInt8×T) (x:ByteArray×V),l[i]?=some y->v.fields[i]?=some x->Shp y.2.2 x.2):=by
 cases h with
 | sc h6 h7=>exact .inl ⟨rfl,rfl,h6,h7⟩
 | list l he hk hn hv=>exact .inr (.inl ⟨rfl,hk,l,rfl,he,hn,hv⟩)
 | map l he hk hn hv=>exact .inr (.inr ⟨rfl,hk,l,rfl,he,hn,hv⟩)
theorem MZ {m:Bool}{v v2:T}{Cc:List UInt8}(h:EntOk m e key v)(h2:EntOk m e Cc v2):v=v2/\(m=true->key=Cc):=by
 cases m with
 | false =>
  obtain ⟨_,_,Y,_⟩:=A4 h;obtain ⟨_,_,ar,_⟩:=A4 h2;rw [Y] at ar;exact ⟨mb ar,λh=>by cases h⟩
 | true =>
  obtain ⟨_,_,Y,_⟩:=A5 h;obtain ⟨_,_,ar,_⟩:=A5 h2;rw [Y] at ar;refine ⟨mb ar,λ_=>?_⟩;obtain ⟨qh,mo,rfl,_,gj,x,fh,rfl,hk,_⟩:=h;obtain ⟨cKi,cR4,he,_,bD,y,bK,rfl,fy,_⟩:=h2;simp only [T.mk.injEq,gT,gG,iL] at he;obtain ⟨_,_,_,⟨⟨_,_,OL,_⟩,_⟩,_⟩:=he;subst OL;exact hk.det fy
inductive Fnd:V->List Stp->Prop
 | nil (v:V):Fnd v []
 | list {v x:V} {i:Nat} {p:List Stp} (hk:v.sc.kind=6) (hx:v.list[i]?=some x) (h:Fnd x p):Fnd v (⟨true,⟨#[]⟩,(i:Int)⟩::p)
 | map {v x:V} {i:Nat} {key:ByteArray} {p:List Stp} (hk:v.sc.kind=7) (hx:v.fields[i]?=some (key,x)) (hz:v.fields.length<=1000000) (hd:∀ j z,j<i->v.fields[j]?=some z->z.1≠key) (h:Fnd x p):Fnd v (⟨false,key,0⟩::p)
theorem Ph {α:Type}{l:List α}(h:l.Nodup){i j:Nat}{a b:α}(hi:l[i]?=some a)(ax:l[j]?=some b)(rA:i<j):a≠b:=by
 rintro rfl;obtain ⟨h1,h2⟩:=bT.1 hi;obtain ⟨Y,ar⟩:=bT.1 ax;have:=List.pairwise_iff_getElem.1 h i j h1 Y rA;exact this (h2.trans ar.symm)
theorem Lc.fd {u:T}{p:List Stp}{idx:List Nat}{off:Nat}(h:Lc t p idx u off):t.count<=1000000->∀ {v:V},Sd t v->Fnd v p:=by
 induction h with
 | nil t=>intro _ v _;exact .nil v
 | @list lead tail l i y p idx u off he hy h ih =>
  intro hc v hv;rw [dT] at hc;have h1:=kq (List.mem_map_of_mem (f:=λy:T×List UInt8×T=>y.1) (cb hy));have h2:=H3 (he y (cb hy));rcases hv.inv with ⟨h,_⟩ | ⟨_,hk,fh,nV,ic,nk,n0⟩ | ⟨h,_⟩
  ·omega
  . have h1:(l.map (·.1))[i]?=some y.1:=by rw [eF,hy];rfl
    rw [nV,eF] at h1;obtain ⟨eQ,ju,B8⟩:=nJ.1 h1;have b8:=(bT.1 ju).1;obtain ⟨x,hx⟩:∃ x,v.list[i]?=some x:=⟨_,bS I⟩;have bm:=he y (cb hy);have aZ:=ic eQ (cb ju);rw [B8] at aZ;have hs:=n0 i eQ x ju hx;rw [<- (MZ bm aZ).1] at hs;exact .list hk hx (ih I hs)
  ·omega
 | @map lead tail l i y p idx u off he hd hs hy h ih =>
  intro hc v hv;rw [dT] at hc;have h1:=kq (List.mem_map_of_mem (f:=λy:T×List UInt8×T=>y.1) (cb hy));have h2:=H3 (he y (cb hy));have ie:=jv (l.map (·.1));rw [fT] at ie;rcases hv.inv with ⟨h,_⟩ | ⟨h,_⟩ | ⟨_,hk,fh,nV,ic,nk,qm,n0⟩
  ·omega
  ·omega
  . have h1:(l.map (·.1))[i]?=some y.1:=by rw [eF,hy];rfl
    rw [nV,eF] at h1;obtain ⟨eQ,ju,B8⟩:=nJ.1 h1;have b8:=(bT.1 ju).1;have bPl:v.fields.length=fh.length:=by have:=aD eC nk;simpa using this
    obtain ⟨x,hx⟩:∃ x,v.fields[i]?=some x:=⟨_,bS I⟩;have bm:=he y (cb hy);have aZ:=ic eQ (cb ju);rw [B8] at aZ;have E3:=n0 i eQ x ju hx;obtain ⟨g1,dt⟩:=MZ bm aZ;rw [<- g1] at E3;have key:∀ (j:Nat) (z:ByteArray×V),v.fields[j]?=some z->∃ w:T×List UInt8×T,fh[j]?=some w/\z.1=bs w.2.1:=λj z hz=>by
     have ax:=(bT.1 hz).1;obtain ⟨w,hw⟩:∃ w,fh[j]?=some w:=⟨_,bS I⟩;have h1:=aD (λl:List ByteArray=>l[j]?) nk;simp only [eF,hz,hw,ti,kS] at h1;exact ⟨w,hw,h1⟩
    obtain ⟨w,hw,bVx⟩:=key i x hx;rw [ju] at hw;obtain rfl:=mb hw;have fy:x.1=bs y.2.1:=by rw [bVx,dt B]
    have cOp:fh.length=l.length:=by have:=aD eC nV;simpa using this.symm
    refine .map (x:=x.2) hk (by rw [hx,<- fy]) I (λj z ax hz e=>?_) (ih I E3);obtain ⟨w,hw,bWb⟩:=key j z hz;rw [bWb,dt B] at e;have bk:=tq e;exact Ph qm (i:=j) (j:=i) (a:=w.2.1) (b:=eQ.2.1) (by rw [eF,hw];rfl) (by rw [eF,ju];rfl) ax bk
theorem Lc.stv {u:T}{p:List Stp}{idx:List Nat}{off:Nat}(h:Lc t p idx u off):t.count<=65536->∀ s∈p,Stv s:=by
 induction h with
 | nil t=>intro _ s hs;cases hs
 | @list lead tail l i y p idx u off he hy h ih =>
  intro hc s hs;rw [dT] at hc;have ie:=jv (l.map (·.1));rw [fT] at ie;have b8:=(bT.1 hy).1;have h1:=kq (List.mem_map_of_mem (f:=λy:T×List UInt8×T=>y.1) (cb hy));have h2:=H3 (he y (cb hy));rcases eX.1 hs with rfl | hs
  ·exact ⟨λ_=>⟨B,by show (0:Int)<=(i:Int);omega,by show (i:Int)<=65536;omega⟩,λh=>by cases h⟩
  ·exact ih I s hs
 | @map lead tail l i y p idx u off he hd ec hy h ih =>
  intro hc s hs;rw [dT] at hc;have h1:=kq (List.mem_map_of_mem (f:=λy:T×List UInt8×T=>y.1) (cb hy));have h2:=H3 (he y (cb hy));rcases eX.1 hs with rfl | hs
  . have Y:=ec y (cb hy)
    refine ⟨λh=>(by cases h),λ_=>⟨B,?_,?_⟩⟩
    ·rw [gI];exact Y.1
    ·rw [tp];exact Y.2
  ·exact ih I s hs
theorem Shp.vk(h:Shp t v):vkT t=true:=by cases h <;> rfl
theorem cAl(h:Shp t v):∀ {v2:V},Shp t v2->∀ (D a:Nat) (q:List Stp),pT D t v a q=pT D t v2 a q:=by
 induction h with
 | sc h6 h7 =>
  intro v2 h2 D a q
  cases D with
  | zero=>rfl
  | succ D=>rfl
 | @list lead tail l he v hk hn hv ih =>
  intro v2 h2 D a q
  cases D with
  | zero=>rfl
  | succ D =>
   rcases h2.inv with ⟨h,_⟩ | ⟨_,fy,fh,nV,ic,nk,n0⟩ | ⟨h,_⟩
   ·omega
   . have ie:l.length=fh.length:=by have:=aD eC nV;simpa using this
     have key:∀ (es:List T) (i b:Nat),(∀ j e,es[j]?=some e->(l.map (·.1))[i+j]?=some e)->ha (pT D) v q i es b=ha (pT D) v2 q i es b:=by
      intro es
      induction es with
      | nil=>intro i b _;rfl
      | cons e es Xn =>
       intro i b hm;have h1:=hm 0 e B;have h2:=h1;rw [nV] at h2;rw [gb,eF] at h1 h2;obtain ⟨y,hy,rfl⟩:=nJ.1 h1;obtain ⟨eQ,ju,B8⟩:=nJ.1 h2;have b8:=(bT.1 hy).1;obtain ⟨x,hx⟩:∃ x,v.list[i]?=some x:=⟨_,bS I⟩;obtain ⟨bg,hx2⟩:∃ x,v2.list[i]?=some x:=⟨_,bS I⟩;have cy:kidV v i=x:=by unfold kidV;rw [O I,hx];rfl
       have k2:kidV v2 i=bg:=by unfold kidV;rw [O I,hx2];rfl
       have fa:iI v i=⟨true,⟨#[]⟩,(i:Int)⟩:=by unfold iI;rw [O I]
       have k7:iI v2 i=⟨true,⟨#[]⟩,(i:Int)⟩:=by unfold iI;rw [O I]
       have bm:=he y (cb hy);have aZ:=ic eQ (cb ju);rw [B8] at aZ;obtain ⟨WQ,_⟩:=MZ bm aZ;have aK:=hv i y x hy hx;have aE:=n0 i eQ bg ju hx2;rw [<- WQ] at aE;rw [ha,ha,cy,k2,fa,k7,TS b bm aK.vk,TS b bm aK.vk,ih i y x hy hx aE,Xn (i+1) _ λj z hz=>by rw [show i+1+j=i+(j+1) by omega];exact hm (j+1) z (by simpa using hz)]
     exact aCe
   ·omega
 | @map lead tail l he v hk hn hv ih =>
  intro v2 h2 D a q
  cases D with
  | zero=>rfl
  | succ D =>
   rcases h2.inv with ⟨h,_⟩ | ⟨h,_⟩ | ⟨_,fy,fh,nV,ic,nk,n0⟩
   ·omega
   ·omega
   . have ie:l.length=fh.length:=by have:=aD eC nV;simpa using this
     have Ve:v.fields.length=l.length:=by have:=aD eC hn;simpa using this
     have bPl:v2.fields.length=fh.length:=by have:=aD eC nk;simpa using this
     have key:∀ (es:List T) (i b:Nat),(∀ j e,es[j]?=some e->(l.map (·.1))[i+j]?=some e)->ha (pT D) v q i es b=ha (pT D) v2 q i es b:=by
      intro es
      induction es with
      | nil=>intro i b _;rfl
      | cons e es Xn =>
       intro i b hm;have h1:=hm 0 e B;have h2:=h1;rw [nV] at h2;rw [gb,eF] at h1 h2;obtain ⟨y,hy,rfl⟩:=nJ.1 h1;obtain ⟨eQ,ju,B8⟩:=nJ.1 h2;have b8:=(bT.1 hy).1;obtain ⟨x,hx⟩:∃ x,v.fields[i]?=some x:=⟨_,bS I⟩;obtain ⟨bg,hx2⟩:∃ x,v2.fields[i]?=some x:=⟨_,bS I⟩;have qA:x.1=bs y.2.1:=by
        exact aBg
       have OJ:bg.1=bs eQ.2.1:=by
        have h1:=aD (λl:List ByteArray=>l[i]?) nk;simp only [eF,hx2,ju,ti,kS] at h1;exact h1
       have bm:=he y (cb hy);have aZ:=ic eQ (cb ju);rw [B8] at aZ;obtain ⟨WQ,eN⟩:=MZ bm aZ;have cy:kidV v i=x.2:=by unfold kidV;rw [U hk,hx];rfl
       have k2:kidV v2 i=bg.2:=by unfold kidV;rw [U fy,hx2];rfl
       have fa:iI v i=⟨false,bs y.2.1,0⟩:=by unfold iI;rw [U hk,hx,<- qA];rfl
       have k7:iI v2 i=⟨false,bs y.2.1,0⟩:=by unfold iI;rw [U fy,hx2,eN B,<- OJ];rfl
       have aK:=hv i y x hy hx;have aE:=n0 i eQ bg ju hx2;rw [<- WQ] at aE;rw [ha,ha,cy,k2,fa,k7,TT b bm aK.vk,TT b bm aK.vk,ih i y x hy hx aE,Xn (i+1) _ λj z hz=>by rw [show i+1+j=i+(j+1) by omega];exact hm (j+1) z (by simpa using hz)]
     exact aCe
end Go.Dk
end
section
namespace Go.Proofs.YthiafbkolhnadaaGreatDoor
open Go Go.Dk Go.RowKit Go.Lib
variable {d:Dl}{s:List UInt8}
structure DcI (s:List UInt8) (d:Dl) (x:Dst):Prop where
 len:x.a<=s.length
 txt:prints x.recs=sub s 0 x.a
 ok:∀ r∈x.recs,Rok d r
 m0:x.recs=[]->x.many=0
 mny:∀ r∈x.recs,r.kids.length=x.many
 pos:x.recs≠[]->1<=x.many
 val:validD (s.drop x.a)=true
 vn:∀ r∈x.recs,∀ n∈nmE d r.kids,validD n=true
 hd:d.hdr=true->∀ r,x.recs.head?=some r->(nmE d r.kids).Nodup/\∀ n∈nmE d r.kids,n.length<=1024
 cnt:counts x.recs<=7*x.a
structure DcF (s:List UInt8) (d:Dl) (l:List T):Prop where
 txt:prints l=s
 ok:∀ r∈l,Rok d r
 mny:∃ many,∀ r∈l,r.kids.length=many
 vn:∀ r∈l,∀ n∈nmE d r.kids,validD n=true
 hd:d.hdr=true->∀ r,l.head?=some r->(nmE d r.kids).Nodup/\∀ n∈nmE d r.kids,n.length<=1024
 cnt:counts l<=7*s.length
theorem _root_.Go.Dk.Rok.ne{t:T}(h:Rok d t):1<=t.kids.length:=by
 obtain ⟨ks,tl,rfl,h1,_⟩:=h.form;exact gF.2 h1
theorem DcL.fact{D N:Nat}(hd:okD d){x:Dst}{r:Sum (Nat×Nat) (List T)}(hr:DcL s d D N x r):DcI s d x->∀ l,r=.inr l->DcF s d l:=by
 unfold DcL at hr
 induction hr with
 | @done x r h1 =>
  intro hi l he;subst he;unfold tA at h1;split at h1
  . rename_i kY
    cases h1;have hl:=hi.len;have e:x.a=s.length:=I;exact ⟨by rw [hi.txt,e,aWf],hi.ok,⟨_,hi.mny⟩,hi.vn,hi.hd,by rw [<- e];exact hi.cnt⟩
  . obtain ⟨r,_,h2⟩:=h1
    cases r with
    | inl e=>cases h2
    | inr y=>cases h2
 | @more x jV r h1 _ ih =>
  intro hi;refine ih ?_;unfold tA at h1;split at h1
  ·cases h1
  . rename_i kY
    obtain ⟨r,h2,Y⟩:=h1
    cases r with
    | inl e=>cases Y
    | inr y =>
     obtain ⟨t,a,n,nms⟩:=y;have hf:=RcR.fact hd hi.len hi.val h2;have qq:=hf.gt I;have hcnt:=hf.cnt;have rE:=hf.ok.ne;simp only [Sum.inl.injEq] at Y;subst Y;have nX:∀ r∈x.recs,r.kids.length=t.kids.length:=λr hr=>by
      rw [hi.mny r hr];have ar:=hi.pos (λe=>by rw [e] at hr;cases hr);exact (hf.mny.resolve_left I).symm
     refine ⟨hf.len,?_,λr hr=>?_,λe=>by simp at e,λr hr=>?_,λ_=>rE,hf.val,λr hr=>?_,λa1 r hr=>?_,?_⟩
     . rw [sO,hi.txt,hU,gx,cH,hf.txt]
       have:=qM (s:=s) (a:=0) (b:=x.a) (c:=a) (bU _) hf.le;rw [Nat.sub_zero,Nat.sub_zero] at this;exact this
     . rcases iv.1 hr with hr | hr
       ·exact hi.ok r hr
       ·rw [hL.1 hr];exact hf.ok
     . rcases iv.1 hr with hr | hr
       ·exact nX r hr
       ·rw [hL.1 hr]
     . rcases iv.1 hr with hr | hr
       ·exact hi.vn r hr
       ·rw [hL.1 hr,<- hf.names];exact hf.vn
     . by_cases he:x.recs=[]
       . rw [he] at hr
         simp only [gG,List.head?_cons,kS] at hr;subst hr;rw [<- hf.names];exact hf.nd (by rw [he,a1];rfl)
       . have aZ:x.recs.head?=some r:=by
           cases hx:x.recs with
           | nil=>exact absurd hx he
           | cons a b=>rw [hx] at hr;simpa using hr
         exact hi.hd a1 r aZ
     . have:=hi.cnt
       simp only;rw [tx,jH,kE];omega
theorem Bad.valid(h:Bad s s.length):validD s=true:=by
 have:∀ i j,Lp (fs (gf s)) i j->j=s.length->i<=s.length->validD (s.drop i)=true:=by
  intro i j hl
  induction hl with
  | @done i j h1 =>
   intro ax hi;unfold fs gf at h1;split at h1
   . rename_i h2
     rw [AD h2];rfl
   . split at h1
     ·cases h1;omega
     ·cases h1
  | @more i my j h1 _ ih =>
   intro ax hi;unfold fs gf at h1;split at h1
   ·cases h1
   . rename_i h2
     split at h1
     ·cases h1
     . rename_i Y
       have h1:=Sum.inl.inj h1;subst h1;have bt:s.drop i≠[]:=λe=>by have:=aD eC e;rw [bC] at this;simp at this;omega
       have ar:=(us bt).1;rw [bC] at ar;have bd:=ih ax I;have h6:=Qg (bs s) i vC (by rw [xN];exact Y);rw [xN,tp] at h6;rw [h6];exact bd
 have:=this 0 s.length h B (bU _);simpa using this
theorem DcF.of{D N:Nat}(hd:okD d)(hb:Bad s s.length){l:List T}(hr:DcL s d D N ⟨0,1,[],0⟩ (.inr l)):DcF s d l :=
 hr.fact hd ⟨bU _,by rw [gx];exact (vP s 0).symm,(λr h=>by cases h),(λ_=>rfl),(λr h=>by cases h),(λh=>absurd rfl h),by rw [mS];exact hb.valid,(λr h=>by cases h),(λ_ r h=>by cases h),by rw [kE];omega⟩ l rfl
theorem Pq.fact{dl:Dl}{d n b a e:Int}{l:List T}(h:Pq s dl d n b a e (.inr (docD l))):DcF s dl l:=by
 generalize hr:(Sum.inr (docD l):Sum (Nat×Nat) T)=r at h
 cases h with
 | doc hd h hs hb nl =>
  have bm:=Sum.inr.inj hr;have aZ:l=_:=aD T.kids bm;subst aZ;exact .of hd hb nl
 | dia _=>cases hr
 | lim _ _=>cases hr
 | size _ _ _=>cases hr
 | text _ _ _ _ _=>cases hr
 | err _ _ _ _ _=>cases hr
def nmD (d:Dl)(recs:List T):List (List UInt8):=if d.hdr=true then (match recs with | []=>[] | r::_=>nmE d r.kids) else []
inductive Bx (X:Sx) (s:List UInt8) (fmt dp:Int) (dl:Dl) (d n b a e:Int):Idx->Int->Int->Prop
 | arg (h:(fmt≠1/\fmt≠4)\/dp<1\/48<dp):Bx X s fmt dp dl d n b a e ⟨0,0,0,[],[]⟩ 0 1
 | berr (hf:fmt=1) (h1:1<=dp) (h2:dp<=48) {o k:Nat} (h:Pd X s d n b a e (.inl (o,k))):Bx X s fmt dp dl d n b a e ⟨0,0,0,[],[]⟩ o k
 | bok (hf:fmt=1) (h1:1<=dp) (h2:dp<=48) {t:T} {tl:List UInt8} {v:V} (h:Pd X s d n b a e (.inr (.mk 1 [] [] [t] tl))) (hs:Shp t v):Bx X s fmt dp dl d n b a e ⟨fmt,s.length,dp,pT dp.toNat t v 0 [],[]⟩ 0 0
 | derr (hf:fmt=4) (h1:1<=dp) (h2:dp<=48) {o k:Nat} (h:Pq s dl d n b a e (.inl (o,k))):Bx X s fmt dp dl d n b a e ⟨0,0,0,[],[]⟩ o k
 | dok (hf:fmt=4) (h1:1<=dp) (h2:dp<=48) {l:List T} (h:Pq s dl d n b a e (.inr (docD l))):Bx X s fmt dp dl d n b a e ⟨fmt,s.length,dp,rEs (nmD dl l) dl.hdr dp.toNat 0 l 0,(nmD dl l).map bs⟩ 0 0
theorem Bx.det {X:Sx}{fmt dp:Int}{dl:Dl}{d n b a e:Int}{x y:Idx}{o k ik k2:Int}(h:Bx X s fmt dp dl d n b a e x o k)(aU:Bx X s fmt dp dl d n b a e y ik k2):x=y/\o=ik/\k=k2:=by
 cases h with
 | arg h=>cases aU with
  | arg _=>exact ⟨rfl,rfl,rfl⟩
  | berr h1 h2 Y _=>exfalso;omega
  | bok h1 h2 Y _ _=>exfalso;omega
  | derr h1 h2 Y _=>exfalso;omega
  | dok h1 h2 Y _=>exfalso;omega
 | berr h1 h2 Y hp=>cases aU with
  | arg h=>exfalso;omega
  | berr _ _ _ ff=>cases Sum.inl.inj (hp.det ff);exact ⟨B,B,B⟩
  | bok _ _ _ ff _=>cases hp.det ff
  | derr h1 _ _ _=>exfalso;omega
  | dok h1 _ _ _=>exfalso;omega
 | bok h1 h2 Y hp hs=>cases aU with
  | arg h=>exfalso;omega
  | berr _ _ _ ff=>cases hp.det ff
  | bok _ _ _ ff aE =>
   have bm:=Sum.inr.inj (hp.det ff);cases bm;rw [cAl hs aE];exact ⟨B,B,B⟩
  | derr h1 _ _ _=>exfalso;omega
  | dok h1 _ _ _=>exfalso;omega
 | derr h1 h2 Y hp=>cases aU with
  | arg h=>exfalso;omega
  | berr h1 _ _ _=>exfalso;omega
  | bok h1 _ _ _ _=>exfalso;omega
  | derr _ _ _ ff=>cases Sum.inl.inj (hp.det ff);exact ⟨B,B,B⟩
  | dok _ _ _ ff=>cases hp.det ff
 | dok h1 h2 Y hp=>cases aU with
  | arg h=>exfalso;omega
  | berr h1 _ _ _=>exfalso;omega
  | bok h1 _ _ _ _=>exfalso;omega
  | derr _ _ _ ff=>cases hp.det ff
  | dok _ _ _ ff =>
   have bm:=Sum.inr.inj (hp.det ff);have aZ:=aD T.kids bm;cases (show _=_ from aZ);exact ⟨B,B,B⟩
end Go.Proofs.YthiafbkolhnadaaGreatDoor
end
section
namespace Go.Proofs.YthiafbkolhnadaaGreatDoor
open Go Go.Dk Go.RowKit Go.Lib
attribute [local irreducible] Go.wpList Go.Code.wp Go.bodyPost Go.wpStill Go.wpQuiet
variable {s:List UInt8}{d:Dl}{a:Nat}{l:List T}{x y z:Value}
theorem bAh  (w:World):(Instr.build 35 ([]:List (Nat×Value)).toArray).run W w=.ok (.agg #[J 0,J 0,J 0,al,al]) w:=by
 go_simp
 try rfl
theorem bAi (bj:Int)(bg:Nat)(b4:Int)(w:World):(Instr.build 35 ([(0,.int .i64 (bj)),(1,(J bg)),(2,.int .i64 (b4))]:List (Nat×Value)).toArray).run W w=.ok (.agg #[.int .i64 (bj),J bg,.int .i64 (b4),al,al]) w:=by
 go_simp
 try rfl
theorem bAl (bj:Int)(w:World):(Instr.build 69 ([(0,.int .i64 (bj))]:List (Nat×Value)).toArray).run W w=.ok (.agg #[.int .i64 (bj),al]) w:=by
 go_simp
 try rfl
theorem zJ:(W.info? 27).map (·.size)=some 9:=by kernel_rfl
theorem aL6:bY W 27 0 0:=b5 (tt:=23) Hq rfl pV rfl
theorem Ia:bY W 27 1 5:=b5 (tt:=25) Hq rfl pW rfl
theorem z27:Zero W 27 [.int .i64 0,.int .i64 0,.int .i64 0,.int .i64 0,.int .i64 0,.int .u8 0,.int .u8 0,.bool false,.bool false]:=ji (v:=.agg #[.int .i64 0,.int .i64 0,.int .i64 0,.int .i64 0,.int .i64 0,.int .u8 0,.int .u8 0,.bool false,.bool false]) ac rfl
theorem Pq.docF{dl:Dl}{d n b a e:Int}{t:T}(h:Pq s dl d n b a e (.inr t)):∃ l,t=docD l:=by
 generalize hr:(Sum.inr t:Sum (Nat×Nat) T)=r at h
 cases h with
 | doc hd h hs hb nl=>exact ⟨_,Sum.inr.inj hr⟩
 | dia _=>cases hr
 | lim _ _=>cases hr
 | size _ _ _=>cases hr
 | text _ _ _ _ _=>cases hr
 | err _ _ _ _ _=>cases hr
theorem bDx (s:List UInt8)(d:Dl)(bD bK af aj ak:Int)(w0:World)(hs:s.length<=1000000)(jr:Cnt w0):Ret W 29 [M s,.agg #[.int .u8 ((d.sep.toNat:Nat):Int),.int .u8 ((d.quo.toNat:Nat):Int),.bool d.hdr,.bool d.typ],.agg #[.int .i64 bD,.int .i64 bK,.int .i64 af,.int .i64 aj,.int .i64 ak]] w0 (λv w'=>∃ (k:Nat) (cI bl ev:List UInt8) (cB:Option Addr) (n2 n3 o bk:Nat) (rs:List Row),v=.tuple #[.agg (nrow k cI bl (.slice cB n2 n3) ev).toArray,J o,J bk]/\Cxr w0 w' [] rs/\((bk≠0/\Pq s d bD bK af aj ak (.inl (o,bk)))\/(bk=0/\o=0/\∃ (l:List T),Pq s d bD bK af aj ak (.inr (docD l))/\NR rs (docD l) (nrow k cI bl (.slice cB n2 n3) ev)))):=by
 refine (bDu s d bD bK af aj ak w0 hs jr).mono ?_;rintro v w' (⟨o,bk,he,rfl,hp,hb⟩ | ⟨t,cs,rs,rfl,hp,c9,G⟩)
 ·exact ⟨0,[],[],[],none,0,0,o,bk,[],B,⟨hb,by simp,by simp,by simp,by simp,by simp,by simp⟩,.inl ⟨he,hp⟩⟩
 . obtain ⟨cB,n2,n3,rfl⟩:=c9.form G
   obtain ⟨l,rfl⟩:=Pq.docF hp;exact ⟨_,_,_,_,cB,n2,n3,0,0,rs,B,G,.inr ⟨B,B,l,hp,c9⟩⟩
theorem _root_.Go.Dk.Cxr.keepF {w0 w:World}{L:List (Nat×Obj)}{A F:List Row}{r:Row}(h:Cxr w0 w L (r::(A++F))):Cxr w0 w L F :=
 ⟨h.ext,h.own,h.lo,h.nd,λr hr=>h.rows r (bP _ (h0 _ hr)),λr hr=>h.off r (bP _ (h0 _ hr)),(List.pairwise_append.1 (List.pairwise_cons.1 h.pw).2).2.1⟩
theorem aV4 {k k2:Nat}{a a2 b b2 c a7:List UInt8}{cB bD:Option Addr}{n2 n3 bK XM:Nat}(e:nrow k a b (.slice cB n2 n3) c=nrow k2 a2 b2 (.slice bD bK XM) a7):cB=bD/\n2=bK/\n3=XM:=by
 have h:Value.slice cB n2 n3=.slice bD bK XM:=aD (λl:List Value=>l.getD 3 undef) e
 injection h with h1 h2 Y
 exact ⟨h1,h2,Y⟩
theorem XV{r:T}(h:d.hdr=true):nmD d (r::l)=nmE d r.kids:=by unfold nmD;rw [U h]
theorem aS1(h:¬ (d.hdr=true/\0<l.length)):nmD d l=[]:=by
 unfold nmD;split
 . cases l with
   | nil=>rfl
   | cons a b=>exact absurd ⟨by assumption,Nat.succ_pos _⟩ h
 ·rfl
theorem bYk(h:DcF s d l):nmD d l=[]\/∀ r∈l,(nmD d l).length=r.kids.length:=by
 by_cases a1:d.hdr=true
 . cases l with
   | nil=>exact .inl (by unfold nmD;rw [U a1])
   | cons a b =>
    refine .inr λr hr=>?_
    obtain ⟨m,hm⟩:=h.mny;rw [XV a1,nmE,fT,hm r hr,hm a (b9 ..)]
 ·exact .inl (by unfold nmD;rw [O a1])
theorem XW{ks:List T}{i:Nat}{e:T}{x:List UInt8}(he:ks[i]?=some e)(hx:xP e=x):((nmE d (ks.take i)).map λx=>(M x))++[M (c2 d x)]=(nmE d (ks.take (i+1))).map λx=>(M x):=by
 rw [qP he,XX,kc,hx];rfl
theorem Xs {a b c gR jB:Value}(a6:a.oneCell'=true)(hb:b.oneCell'=true)(hc:c.oneCell'=true)(h1:gR.oneCell'=true)(h2:jB.oneCell'=true):[a,b,c,gR,jB].all (·.oneCell')=true:=by
 show (a.oneCell'&&(b.oneCell'&&(c.oneCell'&&(gR.oneCell'&&(jB.oneCell'&&true)))))=true;rw [a6,hb,hc,h1,h2];rfl
theorem bYl{r:T}{i:Nat}(h:d.hdr=true)(hi:r.kids.length<=i):((nmE d (r.kids.take i)).map λx=>(M x))=(nmD d (r::l)).map λx=>(M x):=by rw [XV h,lQ hi]
theorem bGy {w0 w:World}{L:List (Nat×Obj)}{R:List Row}{jB:Value}{n:Nat}{names:List (List UInt8)}(h:Cxr w0 w L (⟨9,1,jB,n,names.map λx=>(M x)⟩::R))(hn:n=names.length):Cls w jB (names.map bs):=by
 refine wL (u:=9) (n:=n) (by rw [List.map_map];exact h) (by rw [fT];exact hn)
theorem D0 (s:List UInt8)(fmt dp:Int)(d:Dl)(bD bK af aj ak:Int)(w0:World)(hs:s.length<=400)(ht:Tabs w0)(jr:Cnt w0):Ret W 9 [.int .i64 fmt,M s,.int .i64 dp,.agg #[.int .i64 (bD),.int .i64 (bK),.int .i64 (af),.int .i64 (aj),.int .i64 (ak),.int .u8 ((d.sep.toNat:Nat):Int),.int .u8 ((d.quo.toNat:Nat):Int),.bool (d.hdr),.bool (d.typ)]] w0 (λv w'=>∃ (x:Idx) (o k:Int) (r:List Value),v=.tuple #[.agg r.toArray,.int .i64 o,.int .i64 k]/\IdxV w' x r/\Bx cx s fmt dp d bD bK af aj ak x o k/\Below w0.heap.size w0 w'):=by
 refine aI Tryz.func9 B Tryz.ntmps9 B ?_;have G:=Ctx.start w0;refine ag ?_;refine bE ?_;intro b7 w G nO iW;refine Aa ?_;intro cP w G lB jg;refine SO ?_;refine Z (λpF=>?_) (λpF=>?_)
 ·have aNb:(fmt≠1/\fmt≠4)\/dp<1\/48<dp:=I;refine ag ?_;refine R4 ?_;refine Ab ?_;intro w G jh;refine an ?_;refine mG Tryz.results9 B B B (G.at 0 B) q4 B oi ?_;exact aAv
 obtain ⟨iK,rfl⟩:∃ n:Nat,dp=n:=⟨dp.toNat,I⟩;have ry:(fmt=1\/fmt=4)/\1<=iK/\iK<=48:=I;refine aG ?_;refine S B B (cd (qs:=[(0,.int .i64 (fmt)),(1,(J s.length)),(2,.int .i64 (((iK:Nat):Int)))]) (bAi _ _ _) B B) ?_;refine Aa ?_;intro da w G tD pN;refine Ab ?_;intro w G ig;refine ab ?_;refine cw (λf ah=>∃ (mW:Nat),f 12=ao mW 0/\f 0=.int .i64 (fmt)/\f 1=M s/\f 7=ao b7 0/\f 8=ao cP 0/\f 9=J 0/\f 10=J 0/\f 11=ao da 0/\Cxr w0 ah [(mW,aa 69 [J iK,al]),(da,aa 35 [.int .i64 (fmt),J s.length,.int .i64 (((iK:Nat):Int)),al,al]),(cP,aa 35 [J 0,J 0,J 0,al,al]),(b7,aa 27 [.int .i64 (bD),.int .i64 (bK),.int .i64 (af),.int .i64 (aj),.int .i64 (ak),.int .u8 ((d.sep.toNat:Nat):Int),.int .u8 ((d.quo.toNat:Nat):Int),.bool (d.hdr),.bool (d.typ)])] []) ?_ ?_
 ·refine ag ?_;refine S B B (cd (qs:=[(0,.int .i64 (((iK:Nat):Int)))]) (bAl _) B B) ?_;refine bE ?_;intro mW w G cLp OA;refine ag ?_;exact ⟨_,B,_,B,B,B,B,B,B,B,B,G⟩
 intro f w ai;obtain ⟨mW,cV,aB,aK,aS,bb,b6,cp,cv,G⟩:=ai;refine az ?_;refine Z (λpI=>?_) (λpI=>?_)
 ·refine cw (λf ah=>∃ (jY k:Nat) (cI bl ev:List UInt8) (cB:Option Addr) (n2 n3 o bk:Nat) (rs:List Row),((bk≠0/\Pd cx s bD bK af aj ak (.inl (o,bk)))\/(bk=0/\o=0/\∃ (t:T) (tail:List UInt8),Pd cx s bD bK af aj ak (.inr (.mk 1 [] [] [t] tail))/\Gt t/\t.count<=2*s.length/\t.print.length<=s.length/\NR rs (.mk 1 [] [] [t] tail) (nrow k cI bl (.slice cB n2 n3) ev)))/\f 13=ao jY 0/\f 14=J o/\f 15=J bk/\f 1=M s/\f 7=ao b7 0/\f 8=ao cP 0/\f 9=J 0/\f 10=J 0/\f 11=ao da 0/\f 12=ao mW 0/\Cxr w0 ah [(jY,aa 72 [J k,M cI,M bl,.slice cB n2 n3,M ev]),(mW,aa 69 [J iK,al]),(da,aa 35 [.int .i64 (fmt),J s.length,.int .i64 (((iK:Nat):Int)),al,al]),(cP,aa 35 [J 0,J 0,J 0,al,al]),(b7,aa 27 [.int .i64 (bD),.int .i64 (bK),.int .i64 (af),.int .i64 (aj),.int .i64 (ak),.int .u8 ((d.sep.toNat:Nat):Int),.int .u8 ((d.quo.toNat:Nat):Int),.bool (d.hdr),.bool (d.typ)])] (rs)) ?_ ?_
  ·refine ae ?_;refine aE7 ?_;refine bW (aI8 s bD bK af aj ak _ I (ht.up G.ext)) Tryz.func26 B B B B B B ?_;rintro YZ w ⟨k,cI,bl,ev,cB,n2,n3,o,bk,rs,rfl,cq,cu⟩;replace G:=G.callRows cq;simp only [cH] at G;refine an ?_;refine dv ?_;intro jY w G Iw qx;refine hX ?_;intro w G jt;refine pg ?_;refine ab ?_;exact ⟨_,B,_,_,_,_,_,_,_,_,_,_,_,cu,B,aJ,aJ,aK,aS,bb,b6,cp,cv,cV,G⟩
  intro f w ai;obtain ⟨jY,k,cI,bl,ev,cB,n2,n3,o,bk,rs,cu,kn,mu,kZ,aK,aS,bb,b6,cp,cv,cV,G⟩:=ai;refine az ?_;refine Z (λBo=>?_) (λBo=>?_)
  ·obtain ⟨nS,dc⟩:=cu.resolve_right (λh=>I);refine ag ?_;refine R4 ?_;refine ag ?_;refine bn G 3 B B B bb B B oi B B ?_;intro w G qy;refine pg ?_;refine ag ?_;refine R5 ?_;exact ⟨⟨0,0,0,[],[]⟩,_,_,_,B,⟨al,al,B,A3 (t:=107) (ps:=[]) (es:=[]) (G.nilRow 52 3) B B (λq h=>by cases h),wL (cs:=[]) (G.nilRow 9 1) B⟩,.berr I I I dc,G.ext⟩
  obtain ⟨_,_,t,tail,dc,qq,ru,sx,c9⟩:=cu.resolve_left (λh=>h.1 I);have jZ:Cxr w0 w [] rs:=Cxr.rightQ (A:=[]) G;obtain ⟨la,lc,lb,aZ,hlc,ez,dN⟩:=c9.kids jZ;obtain ⟨rE,nk,EK⟩:=aV4 aZ;obtain ⟨cFb,aO5,bTl⟩:=dN 0 t rfl;obtain ⟨dM,eQ,ft,rfl⟩:=(aO5.vw jZ).form;refine ab ?_;refine cw (λf ah=>∃ (sd:Nat) (dn:V) (cS cZ c0:Value) (rs2:List Row),(Shp t dn)/\(RR 83 133 rs2 dn (vrow dn.sc cS cZ c0))/\f 16=ao sd 0/\f 15=J 0/\f 1=M s/\f 7=ao b7 0/\f 8=ao cP 0/\f 9=J 0/\f 10=J 0/\f 11=ao da 0/\f 12=ao mW 0/\f 13=ao jY 0/\Cxr w0 ah [(sd,aa 83 [.int .i64 (dn.sc.kind),.bool (dn.sc.b),.bool (dn.sc.neg),.string dn.sc.dig,.int .i64 (dn.sc.exp),.int .i64 (dn.sc.tk),.int .i64 (dn.sc.td),.int .i64 (dn.sc.tn),.int .i64 (dn.sc.tz),.string dn.sc.text,cS,cZ,c0]),(jY,aa 72 [J k,M cI,M bl,.slice cB n2 n3,M ev]),(mW,aa 69 [J iK,al]),(da,aa 35 [.int .i64 (fmt),J s.length,.int .i64 (((iK:Nat):Int)),al,al]),(cP,aa 35 [J 0,J 0,J 0,al,al]),(b7,aa 27 [.int .i64 (bD),.int .i64 (bK),.int .i64 (af),.int .i64 (aj),.int .i64 (ak),.int .u8 ((d.sep.toNat:Nat):Int),.int .u8 ((d.quo.toNat:Nat):Int),.bool (d.hdr),.bool (d.typ)])] ((rs2++rs))) ?_ ?_
  ·refine ae ?_;refine R6 ?_;refine bW (aI9 s bD bK af aj ak _ I (ht.up G.ext)) Tryz.func27 B B B B B B ?_;rintro aW9 w (⟨ik,aZ,ic,ff,_⟩ | ⟨t2,YP,dn,cells,rs2,rfl,ff,mw,dH,oI⟩)
   ·cases ff.det dc
   obtain ⟨rfl,rfl⟩:t2=t/\YP=tail:=by
    have h:=Sum.inr.inj (ff.det dc)
    injection h with _ _ _ h1 h2
    exact ⟨(List.cons.inj h1).1,h2⟩
   replace G:=G.callRows oI;obtain ⟨cS,cZ,c0,rfl,gM,gi,iV⟩:=dH.form oI;refine an ?_;refine fD ?_;intro sd w G No sD;refine Q1 ?_;intro w G oY;refine mQ ?_;refine mQ ?_;refine ab ?_;exact ⟨_,B,_,dn,_,_,_,_,mw,dH,B,aJ,aK,aS,bb,b6,cp,cv,cV,kn,G⟩
  intro f w ai;obtain ⟨sd,dn,cS,cZ,c0,rs2,mw,dH,jf,kZ,aK,aS,bb,b6,cp,cv,cV,kn,G⟩:=ai;refine az ?_;refine cn B (λtF=>?_) (λtF=>?_)
  ·exact absurd tF (by decide)
  try simp only [dy] at tF
  refine ag ?_;refine CN G (G) mixed [(0,73),(1,74),(2,75),(3,76),(4,77),(5,78)] #[true,true,true,true,true,true,false] ac ac ac ac ?_;refine lk ?_;refine bw B (bx B) (λw G=>cT dx bA B (show Value.slice cB n2 n3=.slice (some ⟨lb,0,none⟩) 1 lc by rw [rE,nk,EK,ez (Nat.succ_pos _)];rfl) B (by decide) (by decide)) ?_;refine bw B (bx B) (λw G=>cG (l:=nrow t.kind t.lead t.text (.slice dM eQ ft) t.tail) B B de B bA (bTl _ (Cxr.rightQ (A:=rs2) G)) B) ?_;refine eY ?_;refine cW ?_;intro w G B1;refine li ?_;replace G:=G.nilRow 52 3;refine bW (uj iK w0 _ mW iK 0 (al) (al) t dn _ _ [] [] [] _ _ (G.pick 2 B) B (by show 0+t.count<=1000000;omega) (aO5.mono λr h=>h0 _ h) (dH.mono λr h=>iM _ h) mw (.inl ⟨B,B⟩) B I I I) Tryz.func28 B B B B B B ?_;rintro cTt w ⟨rfl,oq,dE,FP,G,lX,qu⟩;replace G:=G.unpick [(sd,aa 83 [.int .i64 (dn.sc.kind),.bool (dn.sc.b),.bool (dn.sc.neg),.string dn.sc.dig,.int .i64 (dn.sc.exp),.int .i64 (dn.sc.tk),.int .i64 (dn.sc.td),.int .i64 (dn.sc.tn),.int .i64 (dn.sc.tz),.string dn.sc.text,cS,cZ,c0]),(jY,aa 72 [J k,M cI,M bl,.slice cB n2 n3,M ev]),(mW,aa 69 [J iK,al]),(da,aa 35 [.int .i64 (fmt),J s.length,.int .i64 (((iK:Nat):Int)),al,al]),(cP,aa 35 [J 0,J 0,J 0,al,al]),(b7,aa 27 [.int .i64 (bD),.int .i64 (bK),.int .i64 (af),.int .i64 (aj),.int .i64 (ak),.int .u8 ((d.sep.toNat:Nat):Int),.int .u8 ((d.quo.toNat:Nat):Int),.bool (d.hdr),.bool (d.typ)])] 2 B;refine hY ?_;refine aG ?_;refine bR (v:=oq) G 3 B B B B B G.oneS B B CE ?_;intro w G np;refine an ?_;refine bn G 4 B B B bb B B oi B (Xs B B B G.oneS B) ?_;intro w G l0;refine an ?_;refine mG Tryz.results9 bb B B (G.at 4 B) q4 B oi ?_;exact ⟨⟨fmt,s.length,((iK:Nat):Int),pT iK t dn 0 [],[]⟩,0,0,_,B,⟨oq,al,B,A3 (t:=107) (ps:=dE) (es:=pT iK t dn 0 []) G B lX (λq h=>iM _ (qu q h)),wL (cs:=[]) (G.nilRow 9 1) B⟩,.bok I I I dc mw,G.ext⟩
 refine ab ?_;refine cw (λf ah=>∃ (uO k:Nat) (cI bl ev:List UInt8) (cB:Option Addr) (n2 n3 o bk:Nat) (rs:List Row),((bk≠0/\Pq s d bD bK af aj ak (.inl (o,bk)))\/(bk=0/\o=0/\∃ (l:List T),Pq s d bD bK af aj ak (.inr (docD l))/\NR rs (docD l) (nrow k cI bl (.slice cB n2 n3) ev)))/\f 18=ao uO 0/\f 19=J o/\f 20=J bk/\f 7=ao b7 0/\f 8=ao cP 0/\f 9=J 0/\f 10=J 0/\f 11=ao da 0/\f 12=ao mW 0/\Cxr w0 ah [(uO,aa 72 [J k,M cI,M bl,.slice cB n2 n3,M ev]),(mW,aa 69 [J iK,al]),(da,aa 35 [.int .i64 (fmt),J s.length,.int .i64 (((iK:Nat):Int)),al,al]),(cP,aa 35 [J 0,J 0,J 0,al,al]),(b7,aa 27 [.int .i64 (bD),.int .i64 (bK),.int .i64 (af),.int .i64 (aj),.int .i64 (ak),.int .u8 ((d.sep.toNat:Nat):Int),.int .u8 ((d.quo.toNat:Nat):Int),.bool (d.hdr),.bool (d.typ)])] (rs)) ?_ ?_
 ·refine ae ?_;refine S B B (cG (l:=[.int .u8 ((d.sep.toNat:Nat):Int),.int .u8 ((d.quo.toNat:Nat):Int),.bool (d.hdr),.bool (d.typ)]) B B q3 B pW ((G.row 3 B).sub 5 B) B) ?_;refine ab ?_;refine aE7 ?_;refine bW (bDx s d bD bK af aj ak _ I (jr.up G.ext)) Tryz.func29 B B B B B B ?_;rintro cUr w ⟨k,cI,bl,ev,cB,n2,n3,o,bk,rs,rfl,cq,cu⟩;replace G:=G.callRows cq;simp only [cH] at G;refine an ?_;refine dv ?_;intro uO w G bNt Ou;refine hX ?_;intro w G sF;refine pg ?_;refine ab ?_;exact ⟨_,B,_,_,_,_,_,_,_,_,_,_,_,cu,B,aJ,aJ,aS,bb,b6,cp,cv,cV,G⟩
 intro f w ai;obtain ⟨uO,k,cI,bl,ev,cB,n2,n3,o,bk,rs,cu,sB,aP4,EY,aS,bb,b6,cp,cv,cV,G⟩:=ai;refine az ?_;refine Z (λw1=>?_) (λw1=>?_)
 ·obtain ⟨nS,j4⟩:=cu.resolve_right (λh=>I);refine ag ?_;refine R4 ?_;refine ag ?_;refine bn G 3 B B B bb B B oi B B ?_;intro w G B2;refine pg ?_;refine ag ?_;refine R5 ?_;exact ⟨⟨0,0,0,[],[]⟩,_,_,_,B,⟨al,al,B,A3 (t:=107) (ps:=[]) (es:=[]) (G.nilRow 52 3) B B (λq h=>by cases h),wL (cs:=[]) (G.nilRow 9 1) B⟩,.derr I I I j4,G.ext⟩
 obtain ⟨_,_,l,j4,c9⟩:=cu.resolve_left (λh=>h.1 I);have Ev:=j4.fact;have hcnt:=Ev.cnt;have jZ:Cxr w0 w [] rs:=Cxr.rightQ (A:=[]) G;obtain ⟨la,lc,lb,aZ,hlc,ez,dN⟩:=c9.kids jZ;obtain ⟨rE,nk,EK⟩:=aV4 aZ;refine ab ?_;refine cw (λf ah=>∃ (D3:Value) (nn:Nat),(nn=(nmD d l).length)/\f 7=ao b7 0/\f 8=ao cP 0/\f 9=J 0/\f 10=J 0/\f 11=ao da 0/\f 12=ao mW 0/\f 18=ao uO 0/\Cxr w0 ah [(uO,aa 72 [J k,M cI,M bl,.slice cB n2 n3,M ev]),(mW,aa 69 [J iK,al]),(da,aa 35 [.int .i64 (fmt),J s.length,.int .i64 (((iK:Nat):Int)),al,D3]),(cP,aa 35 [J 0,J 0,J 0,al,al]),(b7,aa 27 [.int .i64 (bD),.int .i64 (bK),.int .i64 (af),.int .i64 (aj),.int .i64 (ak),.int .u8 ((d.sep.toNat:Nat):Int),.int .u8 ((d.quo.toNat:Nat):Int),.bool (d.hdr),.bool (d.typ)])] (⟨9,1,D3,nn,(nmD d l).map λx=>(M x)⟩::rs)) ?_ ?_
 ·refine ae ?_;replace G:=G.nilRow 9 1;refine cK ?_;refine Z (λEr=>?_) (λEr=>?_)
  ·obtain ⟨im,iE,rfl⟩:∃ r iE,l=r::iE:=by
    cases l with
    | nil=>exact absurd Er.2 (by rw [nk];simp)
    | cons a b=>exact ⟨a,b,rfl⟩
   obtain ⟨bZ,tl,rfl,_,Be⟩:=(Ev.ok im (b9 ..)).form;obtain ⟨PK,tR,xk⟩:=dN 0 _ rfl;obtain ⟨iQ,hN,jm,rfl,II,vd,ve⟩:=tR.kids jZ;have cMe:bZ.length<=counts bZ:=jv bZ;have rr:1+counts bZ<=counts (T.mk 8 [] [] bZ tl::iE):=by rw [jH,dT];omega
   refine an ?_;refine S B B (cT dx bA B (show Value.slice cB n2 n3=.slice (some ⟨lb,0,none⟩) (T.mk 8 [] [] bZ tl::iE).length lc by rw [rE,nk,EK,ez (Nat.succ_pos _)]) B (by decide) (by show (0:Int)<((iE.length+1:Nat):Int);omega)) ?_;refine ab ?_;refine S B B (br B B dx B ((xk _ (Cxr.tailF (A:=[]) G)).cell 3 B)) ?_;refine an ?_;refine bu (λg f ah=>∃ (i:Nat) (lT:Value),g=bZ.length-i/\(i<=bZ.length)/\f 116=J i/\f 7=ao b7 0/\f 8=ao cP 0/\f 9=J 0/\f 10=J 0/\f 11=ao da 0/\f 12=ao mW 0/\f 18=ao uO 0/\f 114=.slice iQ bZ.length hN/\f 115=J bZ.length/\Cxr w0 ah [(uO,aa 72 [J k,M cI,M bl,.slice cB n2 n3,M ev]),(mW,aa 69 [J iK,al]),(da,aa 35 [.int .i64 (fmt),J s.length,.int .i64 (((iK:Nat):Int)),al,lT]),(cP,aa 35 [J 0,J 0,J 0,al,al]),(b7,aa 27 [.int .i64 (bD),.int .i64 (bK),.int .i64 (af),.int .i64 (aj),.int .i64 (ak),.int .u8 ((d.sep.toNat:Nat):Int),.int .u8 ((d.quo.toNat:Nat):Int),.bool (d.hdr),.bool (d.typ)])] (⟨9,1,lT,i,(nmE d (bZ.take i)).map λx=>(M x)⟩::rs)) ((λ(i:Nat)=>bZ.length-i) 0) ?_ ?_
   ·exact ⟨0,_,B,bU _,aJ,aS,bb,b6,cp,cv,cV,sB,B,B,G⟩
   intro cKt f w ai;obtain ⟨i,lT,cMu,hi,bT4,aS,bb,b6,cp,cv,cV,sB,aP3,bT3,G⟩:=ai;refine aq ?_;refine Z (λbOc=>?_) (λbOc=>?_)
   ·have dK:i<bZ.length:=I;obtain ⟨e,he⟩:∃ e,bZ[i]?=some e:=⟨_,bS dK⟩;have nT:=cb he;obtain ⟨x,m,rfl,jL,_⟩:=(Be e nT).form;obtain ⟨ecs,vm,xi⟩:=ve i _ he;obtain ⟨kF,iR,oN,rfl,hfc,oT,IL⟩:=vm.kids jZ;obtain ⟨Fq,tQ,xj⟩:=IL 0 _ rfl;obtain ⟨bj,bg,b4,rfl⟩:=(tQ.vw jZ).form;have B7:x.length<=s.length:=by
     have h1:(prints (T.mk 8 [] [] bZ tl::iE)).length=s.length:=by rw [Ev.txt]
     have h2:=(kq nT).2;rw [hU,dX] at h1;rw [dX,hU,dX] at h2;simp only [aQ] at h1 h2;omega
    refine aq ?_;refine S B B (cT dx bA B (aP3.trans (by rw [vd I])) bT4 I I) ?_;refine S B B (cG (l:=nrow 5 [] [] (.slice kF (m.length+1) iR) []) B B de B bA (xi _ (Cxr.tailF (A:=[]) G)) B) ?_;refine dv ?_;intro cI3 w G UJ E7;refine hX ?_;intro w G W7;refine ab ?_;refine CN G (Cxr.keepF (A:=[]) G) mixed [(0,120),(1,121),(2,122),(3,123),(4,124),(5,125),(6,126),(7,127),(8,128),(9,129)] #[true,true,true,true,true,true,true,true,true,true,false,false,false,false,false] ac ac ac ac ?_;refine i1 ?_;refine bw B (bx B) (λw G=>cT dx bA B (show Value.slice kF (m.length+1) iR=.slice (some ⟨oN,0,none⟩) (m.length+1) iR by rw [oT (Nat.succ_pos _)]) B (by decide) I) ?_;refine eY ?_;refine bw B (bx B) (λw G=>br B B aF B ((xj _ (Cxr.rightQ (A:=[]) G)).cell 2 B)) ?_;refine lk ?_;refine cW ?_;intro w G cQ5;refine kQ ?_;refine bo G (bDy x d _ (jr.up G.ext) I jL) Tryz.func30 B B B B B B ?_;intro w G cQh;refine hK ⟨.inl J7,?_⟩;refine mO ?_;refine Gm ?_;intro cIw w G cLb cQi;refine hK ⟨.inl J7,?_⟩;refine r2 ?_;refine Gn ?_;intro cGa w G cM5;replace G:=G.drop 1;refine dQ ?_;refine pZ ?_;refine ej ?_;refine C6 ?_;refine bR (v:=cGa) G 3 B B B B B G.oneS B B FY ?_;intro w G Fe;refine hY ?_;refine an ?_;exact ⟨_,_,I,B,i+1,_,B,I,aJ,aS,bb,b6,cp,cv,cV,sB,aP3,bT3,((G.drop 1).row_eq B (XW he B))⟩
   refine ab ?_;exact ⟨_,B,lT,i,(by rw [XV Er.1,nmE,fT];show i=bZ.length;omega),aS,bb,b6,cp,cv,cV,sB,(G.row_eq B (bYl (r:=.mk 8 [] [] bZ tl) Er.1 (by show bZ.length<=i;omega)))⟩
  refine ab ?_;have iC:nmD d l=[]:=aS1 (by rintro ⟨h1,h2⟩;rw [<- nk] at h2;rw [h1] at Er;simp at Er;omega);exact ⟨_,B,al,0,(by rw [iC];rfl),aS,bb,b6,cp,cv,cV,sB,(G.row_eq B (by rw [iC];rfl))⟩
 intro f w ai;obtain ⟨D3,nn,kl,aS,bb,b6,cp,cv,cV,sB,G⟩:=ai;refine cK ?_;have bO0:=G.oneS;replace G:=G.nilRow 52 3;refine bW (MG w0 _ mW iK (al) D3 1 [] [] [] l _ (nmD d l) d.hdr d [] [] _ _ (G.pick 1 B) B (by show 0+counts l<=900000;omega) (c9.mono λr h=>bP _ h) Ev.ok (.inr (by rw [<- kl];exact b9 ..)) (bYk Ev) (by rw [Ev.txt];omega)) Tryz.func31 B B B B B B ?_;rintro cTn w ⟨rfl,oq,dE,FP,G,lX,qu⟩;replace G:=G.unpick [(uO,aa 72 [J k,M cI,M bl,.slice cB n2 n3,M ev]),(mW,aa 69 [J iK,al]),(da,aa 35 [.int .i64 (fmt),J s.length,.int .i64 (((iK:Nat):Int)),al,D3]),(cP,aa 35 [J 0,J 0,J 0,al,al]),(b7,aa 27 [.int .i64 (bD),.int .i64 (bK),.int .i64 (af),.int .i64 (aj),.int .i64 (ak),.int .u8 ((d.sep.toNat:Nat):Int),.int .u8 ((d.quo.toNat:Nat):Int),.bool (d.hdr),.bool (d.typ)])] 1 B;refine bz ?_;refine bR (v:=oq) G 2 B B B B B G.oneS B B CE ?_;intro w G Ff;refine an ?_;refine bn G 3 B B B bb B B oi B (Xs B B B G.oneS bO0) ?_;intro w G W9;refine an ?_;refine R5 ?_;exact ⟨⟨fmt,s.length,((iK:Nat):Int),rEs (nmD d l) d.hdr iK 0 l 0,(nmD d l).map bs⟩,0,0,_,B,⟨oq,D3,B,A3 (t:=107) (ps:=dE) (es:=rEs (nmD d l) d.hdr iK 0 l 0) G B lX (λq h=>iM _ (qu q h)),bGy (Cxr.tailF (A:=FP) G) kl⟩,.dok I I I j4,G.ext⟩
theorem Tf (c:UInt8)(w0:World):Fc W 205 [.int .u8 ((c.toNat:Nat):Int)] w0 (λv _=>v=.bool (decide (jR c))):=by
 refine aI Tryz.func205 B Tryz.ntmps205 B ?_;have G:=Ctx.start w0;refine AL ?_;refine be Tryz.results205 B ?_;exact QB
theorem HD (c:UInt8)(w0:World):Fc W 206 [.int .u8 ((c.toNat:Nat):Int)] w0 (λv _=>v=.bool (decide (bf c))):=by
 refine aI Tryz.func206 B Tryz.ntmps206 B ?_;have G:=Ctx.start w0;refine oC ?_;refine be Tryz.results206 B ?_;exact aAp
theorem aJe (c:UInt8)(w0:World):Fc W 285 [.int .u8 ((c.toNat:Nat):Int)] w0 (λv _=>v=.bool (decide (jD c))):=by
 refine aI Tryz.func285 B Tryz.ntmps285 B ?_;have G:=Ctx.start w0;refine aG ?_;refine bo G (Tf c _) Tryz.func205 B B B B B B ?_;intro w G gN;refine ag ?_;refine hg G B B B a8 (λhc=>HD c _) Tryz.func206 B B B (λhc=>(aX ay B)) ?_;intro w G iW;refine SP ?_;refine be Tryz.results285 B ?_;exact aAo
theorem Te (s:List UInt8)(a:Nat)(w0:World)(hs:s.length<=1073741824)(a6:a<=s.length):Fc W 203 [M s,J a] w0 (λv _=>v=(J (a+aT (s.drop a)))):=by
 refine aI Tryz.func203 B Tryz.ntmps203 B ?_;have G:=Ctx.start w0;refine az ?_;refine bu (λg f ah=>∃ (i:Nat),g=s.length-i/\(i<=s.length)/\(a<=i)/\(∀ j,a<=j->j<i->bf (s.getD j 0))/\f 1=J i/\f 0=M s/\f 4=J 0/\Cxr w0 ah [] []) ((λ(i:Nat)=>s.length-i) a) ?_ ?_
 ·exact ⟨a,B,a6,bV _,λj h h2=>I,aJ,B,B,G⟩
 intro Ng f w ai;obtain ⟨i,NI,hi,bNn,hb,aK,aB,aM,G⟩:=ai;refine Dw ?_;refine hg G B B B aO (λhc=>HD (s.getD i 0) _) Tryz.func206 B B B (λhc=>(aX ay B)) ?_;intro w G qx;refine ag ?_;refine Z (λgK=>?_) (λgK=>?_)
 ·refine yj ?_;exact ⟨_,_,I,B,i+1,B,I,I,λj bQc ax=>by by_cases e:j=i;(subst e;exact gK.2);exact hb j bQc I,aJ,aB,aM,G⟩
 refine an ?_;refine mR ?_;refine ag ?_;refine be Tryz.results203 B ?_;have e:aT (s.drop a)=i-a:=ob bf (s.drop a) (i-a) jx (λj ax=>by rw [du];exact hb _ I I) (by
  rw [du,bC,show a+(i-a)=i by omega];rcases gK with h | h
  ·exact .inl I
  ·exact .inr h)
 exact aB3
theorem aJf (s:List UInt8)(w0:World)(hs:s.length<=1073741824):Fc W 286 [M s] w0 (λv _=>v=.bool (decide (isBare s))):=by
 refine aI Tryz.func286 B Tryz.ntmps286 B ?_;have G:=Ctx.start w0;refine cF ?_;refine bu (λg f ah=>∃ (i:Nat),g=s.length-i/\(i<=s.length)/\(∀ j,j<i->oG (s.getD j 0)\/(0<j/\bf (s.getD j 0)))/\f 3=J i/\f 0=M s/\Cxr w0 ah [] []) ((λ(i:Nat)=>s.length-i) 0) ?_ ?_
 ·exact ⟨0,B,bU _,λj h=>I,aJ,B,G⟩
 intro h8 f w ai;obtain ⟨i,ni,hi,hb,aR,aB,G⟩:=ai;refine bz ?_;refine Z (λiB=>?_) (λiB=>?_)
 ·refine aG ?_;refine uE ?_;refine bo G (Tf (s.getD i 0) _) Tryz.func205 B B B B B B ?_;intro w G qx;refine an ?_;refine Gy ?_;refine aq ?_;refine Gy ?_;refine bz ?_;refine GI ?_;refine hg G B B B a8 (λhc=>HD (s.getD i 0) _) Tryz.func206 B B B (λhc=>(aX ay B)) ?_;intro w G B0;refine an ?_;refine Z (λBm=>?_) (λBm=>?_)
  ·refine aq ?_;refine be Tryz.results286 B ?_;refine ⟨G.ext,aD Value.bool (decide_eq_false ?_).symm⟩;intro h;have:=h.2 i I;unfold oG jR bf at this;unfold jR bf at Bm;omega
  have di:∀ j,j<i+1->oG (s.getD j 0)\/(0<j/\bf (s.getD j 0)):=by
   intro j ax;by_cases e:j=i
   . subst e
     unfold oG jR bf;unfold jR bf at Bm;rcases tg j with ap | ap
     ·omega
     ·omega
   ·exact hb j I
  refine qZ ?_;exact ⟨_,_,I,B,i+1,B,I,di,aJ,aB,G⟩
 refine an ?_;refine S B B (kO (s:=s) (u:=([]:List UInt8)) B B B) ?_;refine ae ?_;refine be Tryz.results286 B ?_;exact aA0
def vg (c:UInt8):Int:=match eO c with
 | none=>-1
 | some d=>d
theorem bFg (c:UInt8)(w0:World):Fc W 409 [.int .u8 ((c.toNat:Nat):Int)] w0 (λv _=>v=.int .i64 (vg c)):=by
 refine aI Tryz.func409 B Tryz.ntmps409 B ?_;have G:=Ctx.start w0;refine bz ?_;have bUl:=c.toNat_lt;refine ab ?_;refine bo G (HD c _) Tryz.func206 B B B B B B ?_;intro w G fg;refine ag ?_;refine Z (λkG=>?_) (λkG=>?_)
 ·have vb:48<=c.toNat/\c.toNat<=57:=kG;refine ae ?_;refine S B B (zV (p:=c.toNat) (q:=48) B B B I) ?_;refine C8 ?_;refine S B B (av (v:=(J (c.toNat-48))) B B) ?_;refine ag ?_;refine LP ?_;refine Ag ?_;have hd:eO c=some (c.toNat-48):=by
   unfold eO;rw [U kG]
  unfold vg;rw [hd]
  try (show _=((((c.toNat-48)):Nat):Int);omega)
 refine cF ?_;refine Z (λhD=>?_) (λhD=>?_)
 ·refine ae ?_;refine S B B (zV (p:=c.toNat) (q:=97) B B B I) ?_;refine C8 ?_;refine ab ?_;refine S B B (av (v:=(J (c.toNat-97+10))) B B) ?_;refine ag ?_;refine LP ?_;refine Ag ?_;have hd:eO c=some (c.toNat-87):=by
   unfold eO;rw [O kG,U I]
  unfold vg;rw [hd]
  try (show _=((((c.toNat-87)):Nat):Int);omega)
 refine cF ?_;refine Z (λct=>?_) (λct=>?_)
 ·refine ae ?_;refine S B B (zV (p:=c.toNat) (q:=65) B B B I) ?_;refine C8 ?_;refine ab ?_;refine S B B (av (v:=(J (c.toNat-65+10))) B B) ?_;refine ag ?_;refine LP ?_;refine Ag ?_;have hd:eO c=some (c.toNat-55):=by
   unfold eO;rw [O kG,O I,U I]
  unfold vg;rw [hd]
  try (show _=((((c.toNat-55)):Nat):Int);omega)
 refine az ?_;refine LP ?_;refine Ag ?_;have hd:eO c=none:=by
  unfold eO;rw [O kG,O I,O I]
 unfold vg;rw [hd]
 try (show _=(((0):Nat):Int);omega)
theorem aN8 {c:UInt8}:vg c<0↔eO c=none:=by
 unfold vg
 cases eO c with
 | none=>simp
 | some d=>simp
theorem bPj {c:UInt8}(h:¬ vg c<0):∃ d,eO c=some d/\vg c=d/\d<16:=by
 cases e:eO c with
 | none=>exact absurd (aN8.2 e) h
 | some d=>exact ⟨d,rfl,by unfold vg;rw [e],Fh e⟩
theorem aJt (s:List UInt8)(a:Nat)(w0:World)(hs:s.length<=1073741824)(a6:a<=2000000000):Fc W 403 [M s,J a] w0 (λv _=>v=.tuple #[J ((bJ (s.drop a)).2),J ((bJ (s.drop a)).1)]):=by
 refine aI Tryz.func403 B Tryz.ntmps403 B ?_;have G:=Ctx.start w0;refine kf ?_;refine S B B (av (v:=(J a)) B B) ?_;refine ag ?_;refine bu (λg f ah=>∃ (i n:Nat),g=4-i/\(i<=4)/\((i=0->n<1)/\(i=1->n<16)/\(i=2->n<256)/\(i=3->n<4096)/\(i=4->n<65536))/\(bJ (s.drop a)=kX (4-i) ((s.drop a).drop i) n)/\f 7=J (a+i)/\f 6=J n/\f 0=M s/\f 1=J a/\Cxr w0 ah [] []) ((λ(i:Nat)=>4-i) 0) ?_ ?_
 ·exact ⟨0,0,B,I,I,B,aJ,aJ,B,B,G⟩
 intro gJ f w ai;obtain ⟨i,n,qp,hi,hb,he,aS,aL,aB,aK,G⟩:=ai;refine bz ?_;refine Z (λco=>?_) (λco=>?_)
 ·have IR:i<4:=I;refine gp ?_;refine Z (λhB=>?_) (λhB=>?_)
  ·have b8:s.length<=a+i:=I;refine az ?_;refine dY Tryz.results403 B B ?_;have e:bJ (s.drop a)=(4,0):=he.trans (aN9 IR jx);exact CZ
  have b8:a+i<s.length:=I;refine az ?_;refine LQ ?_;refine aC2 ?_;intro w G E7;refine ag ?_;refine Z (λjK=>?_) (λjK=>?_)
  ·have hd:=aN8.1 jK;refine az ?_;refine dY Tryz.results403 B B ?_;have e:=Ey (s:=s.drop a) (n:=n) IR jx;rw [du,hd] at e;replace e:=he.trans e;exact CZ
  obtain ⟨d,hd,bO5,cMf⟩:=bPj jK;refine az ?_;refine LQ ?_;refine aC2 ?_;intro w G E9;refine S B B ((show (execOp _ _).run W _=.ok (.value (J (n*16+d))) _ from (rX B B B I I).trans (by rw [bO5];exact aD (λz:Int=>Result.ok (Next.value (.int .i64 z)) _) I))) ?_;refine S B B (av (v:=(J (n*16+d))) B B) ?_;refine an ?_;refine LS ?_;refine ab ?_;have ck:=Ey (s:=s.drop a) (n:=n) IR jx;rw [du,hd] at ck;exact ⟨_,_,I,B,i+1,16*n+d,B,I,I,he.trans ck,aJ,aJ,aB,aK,G⟩
 have IR:i=4:=I;refine an ?_;refine Aj ?_;refine ae ?_;refine dY Tryz.results403 B B ?_;have e:bJ (s.drop a)=(0,n):=by rw [he,IR];rfl
 exact CZ
def wO (e:Nat×Nat×Nat):Value:=.tuple #[J e.2.1,J ((if e.1=0 then e.2.2+1 else 0)),J e.1]
theorem bJs {e:Nat}(h:e≠0):wO (e,0,0)=.tuple #[J 0,J 0,J e]:=by
 unfold wO;simp only;rw [O h]
theorem H8 {E:Nat×Nat×Nat}{k:Nat}(e:E=(k,0,0))(hk:k≠0)(hx:x=(J 0))(hy:y=(J 0))(hz:z=(J k)):Value.tuple #[x,y,z]=wO E:=by
 subst e hx hy hz;rw [bJs hk]
theorem yG {E:Nat×Nat×Nat}{r n:Nat}(e:E=(0,r,n))(hx:x=(J r))(hy:y=(J (n+1)))(hz:z=(J 0)):Value.tuple #[x,y,z]=wO E:=by
 subst e hx hy hz;rfl
theorem uX(h:a+1<s.length)(aP:(s.getD (a+1) 0).toNat=117):bL (s.drop (a+1)) =
  if (bJ (s.drop (a+2))).1≠0 then ((bJ (s.drop (a+2))).1,0,0)
  else if (bJ (s.drop (a+2))).2<55296\/57343<(bJ (s.drop (a+2))).2 then (0,(bJ (s.drop (a+2))).2,5)
  else if 56319<(bJ (s.drop (a+2))).2 then (5,0,0)
  else if s.length<=a+6 then (4,0,0)
  else if (s.getD (a+6) 0).toNat≠92 then (5,0,0)
  else if s.length<=a+7 then (4,0,0)
  else if (s.getD (a+7) 0).toNat≠117 then (5,0,0)
  else if (bJ (s.drop (a+8))).1≠0 then ((bJ (s.drop (a+8))).1,0,0)
  else if (bJ (s.drop (a+8))).2<56320\/57343<(bJ (s.drop (a+8))).2 then (5,0,0)
  else (0,65536+((bJ (s.drop (a+2))).2-55296)*1024+(bJ (s.drop (a+8))).2-56320,11):=by
 have ap:s.drop (a+1)≠[]:=by intro e;have:=aD eC e;rw [bC] at this;simp only [dC] at this;omega
 unfold bL;rw [O ap,du,U aP,fE,fE,du,du,bC];have lv:(s.length-(a+1)<=5)=(s.length<=a+6):=propext ⟨λh=>I,λh=>I⟩;have si:(s.length-(a+1)<=6)=(s.length<=a+7):=propext ⟨λh=>I,λh=>I⟩;simp only [lv,si]
theorem bJt {E:Nat×Nat×Nat}{p:Int}(h:∃ r:Nat,E=(0,r,11)/\(r:Int)=p)(hx:x=.int .i64 p)(hy:y=(J 12))(hz:z=(J 0)):Value.tuple #[x,y,z]=wO E:=by
 obtain ⟨r,e,rfl⟩:=h;exact yG e hx hy hz
theorem bJw(h1:a+1<s.length)(aP:(s.getD (a+1) 0).toNat=117)(pX:¬ (bJ (s.drop (a+2))).1≠0)(z2:¬ ((bJ (s.drop (a+2))).2<55296\/57343<(bJ (s.drop (a+2))).2))(z3:¬ 56319<(bJ (s.drop (a+2))).2)
  (z4:¬ s.length<=a+6) (z5:¬ (s.getD (a+6) 0).toNat≠92) (KN:¬ s.length<=a+7) (KO:¬ (s.getD (a+7) 0).toNat≠117) (cIi:¬ (bJ (s.drop (a+8))).1≠0) (z9:¬ ((bJ (s.drop (a+8))).2<56320\/57343<(bJ (s.drop (a+8))).2)) :
  ∃ r:Nat,bL (s.drop (a+1))=(0,r,11)/\(r:Int)=65536+(((bJ (s.drop (a+2))).2:Int)-55296)*1024+((bJ (s.drop (a+8))).2:Int)-56320:=by
 have e:=uX h1 aP;rw [O pX,O z2,O z3,O z4,O z5,O KN,O KO,O cIi,O z9] at e
 generalize (bJ (s.drop (a+2))).2=x at e z2 ⊢
 generalize (bJ (s.drop (a+8))).2=y at e z9 ⊢
 obtain ⟨jV,rfl⟩:∃ jV,x=55296+jV:=⟨x-55296,I⟩;obtain ⟨rZ,rfl⟩:∃ rZ,y=56320+rZ:=⟨y-56320,I⟩
 generalize hr:65536+(55296+jV-55296)*1024+(56320+rZ)-56320=r at e
 exact ⟨r,e,I⟩
theorem bE6 (s:List UInt8)(a:Nat)(w0:World)(hs:s.length<=1073741824)(h1:a+1<s.length)(aP:(s.getD (a+1) 0).toNat=117):Fc W 389 [M s,J a] w0 (λv _=>v=wO (bL (s.drop (a+1)))):=by
 refine aI Tryz.func389 B Tryz.ntmps389 B ?_;have G:=Ctx.start w0;refine Dt ?_;refine kB ?_;refine yg ?_;refine p6 ?_;have qA:=Ex (s.drop (a+2));have aRk:=Ex (s.drop (a+8));refine bo G (aJt s (a+2) _ cR I) Tryz.func403 B B B B B B ?_;intro w G oX;refine p5 ?_;refine aE8 ?_;refine aE9 ?_;refine p4 ?_;refine ox ?_;refine eR ?_;refine pf ?_;refine Z (λhQ=>?_) (λhQ=>?_)
 ·refine eR ?_;refine kB ?_;refine kB ?_;refine aE9 ?_;refine yc ?_;refine G0 ?_;have e:bL (s.drop (a+1))=((bJ (s.drop (a+2))).1,0,0):=by
   rw [uX h1 aP,U I]
  exact ⟨G.ext,H8 e I B B B⟩
 have xV:¬ ((bJ (s.drop (a+2))).1≠0):=I;refine eR ?_;refine l7 ?_;refine yb ?_;refine jF ?_;refine Z (λdG=>?_) (λdG=>?_)
 ·refine eR ?_;refine aE8 ?_;refine pe ?_;refine G0 ?_;have e:bL (s.drop (a+1))=(0,(bJ (s.drop (a+2))).2,5):=by
   rw [uX h1 aP,O xV,U I]
  exact ⟨G.ext,yG e B B B⟩
 have z2:¬ ((bJ (s.drop (a+2))).2<55296\/57343<(bJ (s.drop (a+2))).2):=I;refine eR ?_;refine pf ?_;refine Z (λgY=>?_) (λgY=>?_)
 ·refine DE ?_;have e:bL (s.drop (a+1))=(5,0,0):=by
   rw [uX h1 aP,O xV,O z2,U I]
  exact C0
 have z3:¬ 56319<(bJ (s.drop (a+2))).2:=I;refine eR ?_;refine oy ?_;refine eW ?_;refine Aq ?_;refine pf ?_;refine Z (λje=>?_) (λje=>?_)
 ·refine DE ?_;have e:bL (s.drop (a+1))=(4,0,0):=by
   rw [uX h1 aP,O xV,O z2,O z3,U I]
  exact C0
 refine eR ?_;refine p6 ?_;refine S B B (dm (s:=s) (i:=a+6) B B B aF I) ?_;refine pf ?_;refine Z (λjp=>?_) (λjp=>?_)
 ·refine DE ?_;have e:bL (s.drop (a+1))=(5,0,0):=by
   rw [uX h1 aP,O xV,O z2,O z3,O I,U I]
  exact C0
 refine eR ?_;refine oy ?_;refine eW ?_;refine Aq ?_;refine pf ?_;refine Z (λoR=>?_) (λoR=>?_)
 ·refine DE ?_;have e:bL (s.drop (a+1))=(4,0,0):=by
   rw [uX h1 aP,O xV,O z2,O z3,O I,O I,U I]
  exact C0
 refine eR ?_;refine p6 ?_;refine S B B (dm (s:=s) (i:=a+7) B B B aF I) ?_;refine pf ?_;refine Z (λwX=>?_) (λwX=>?_)
 ·refine DE ?_;have e:bL (s.drop (a+1))=(5,0,0):=by
   rw [uX h1 aP,O xV,O z2,O z3,O I,O I,O I,U I]
  exact C0
 refine tb ?_;have z4:¬ s.length<=a+6:=I;have z5:¬ (s.getD (a+6) 0).toNat≠92:=I;have KN:¬ s.length<=a+7:=I;have KO:¬ (s.getD (a+7) 0).toNat≠117:=I;refine eW ?_;refine p6 ?_;refine bo G (aJt s (a+8) _ cR I) Tryz.func403 B B B B B B ?_;intro w G WV;refine p5 ?_;refine S B B (av (v:=(J ((bJ (s.drop (a+8))).2))) B B) ?_;refine aFa ?_;refine Ay ?_;refine Z (λsr=>?_) (λsr=>?_)
 ·refine eR ?_;refine kB ?_;refine kB ?_;refine aFa ?_;refine yc ?_;refine G0 ?_;have e:bL (s.drop (a+1))=((bJ (s.drop (a+8))).1,0,0):=by
   rw [uX h1 aP,O xV,O z2,O z3,O z4,O z5,O KN,O KO,U I]
  exact ⟨G.ext,H8 e I B B B⟩
 have aYd:¬ ((bJ (s.drop (a+8))).1≠0):=I;refine Hf ?_;refine eR ?_;refine l7 ?_;refine yb ?_;refine eA ?_;refine Z (λnh=>?_) (λnh=>?_)
 ·refine DE ?_;have e:bL (s.drop (a+1))=(5,0,0):=by
   rw [uX h1 aP,O xV,O z2,O z3,O z4,O z5,O KN,O KO,O aYd,U I]
  exact C0
 refine iZ ?_;refine eR ?_;refine Lm ?_;refine S B B (KE B B B I I) ?_;refine oy ?_;refine p6 ?_;refine Lm ?_;refine kB ?_;refine pe ?_;refine G0 ?_;exact ⟨G.ext,bJt (bJw h1 aP xV z2 z3 z4 z5 KN KO aYd I) (aD (Value.int .i64) I) B B⟩
theorem aLw(h:a+1<s.length):s.drop (a+1)≠[]:=by
 intro e;have:=aD eC e;rw [bC] at this;simp only [dC] at this;omega
theorem Ec{r:Nat}(h:a+1<s.length)(hn:¬ (s.getD (a+1) 0).toNat=117)(he:kj (s.getD (a+1) 0).toNat=some r):bL (s.drop (a+1))=(0,r,1):=by
 unfold bL;rw [O (aLw h),du,O hn,he]
theorem bJx(h:a+1<s.length)(hn:¬ (s.getD (a+1) 0).toNat=117)(he:kj (s.getD (a+1) 0).toNat=none):bL (s.drop (a+1))=(3,0,0):=by
 unfold bL;rw [O (aLw h),du,O hn,he]
theorem bJu(h:s.length<=a+1):bL (s.drop (a+1))=(4,0,0):=by
 unfold bL;rw [U (q0 h)]
theorem cCp{E:Nat×Nat×Nat}(v:Value)(h:v=wO E)(hx:x=(J E.2.1))(hy:y=(J ((if E.1=0 then E.2.2+1 else 0))))(hz:z=(J E.1)):Value.tuple #[x,y,z]=wO E:=by
 subst hx hy hz;rfl
theorem bEm (s:List UInt8)(a:Nat)(w0:World)(hs:s.length<=1073741824)(a6:a<=s.length):Fc W 350 [M s,J a] w0 (λv _=>v=wO (bL (s.drop (a+1)))):=by
 refine aI Tryz.func350 B Tryz.ntmps350 B ?_;have G:=Ctx.start w0;refine oC ?_;refine Z (λfW=>?_) (λfW=>?_)
 ·refine aG ?_;refine wm ?_;exact ⟨G.ext,H8 (bJu I) (by decide) B B B⟩
 have h1:a+1<s.length:=I;refine aG ?_;refine G1 ?_;refine ag ?_;refine cw (λf ah=>∃ (bl:Bool),(bl=true↔((s.getD (a+1) 0).toNat=34\/(s.getD (a+1) 0).toNat=92\/(s.getD (a+1) 0).toNat=47))/\f 16=.bool (bl)/\f 0=M s/\f 1=J a/\f 4=J 0/\f 5=J 0/\f 6=J 0/\f 15=.int .u8 (((s.getD (a+1) 0).toNat:Nat):Int)/\Cxr w0 ah [] []) ?_ ?_
 ·refine aq ?_;refine Z (λc8=>?_) (λc8=>?_)
  ·refine ab ?_;exact QH
  refine aq ?_;refine Z (λc8=>?_) (λc8=>?_)
  ·refine ab ?_;exact QH
  refine an ?_;exact QH
 intro f w ai;obtain ⟨bl,wT,jf,aB,aK,aM,bF,aL,kZ,G⟩:=ai;refine cn jf (λc8=>?_) (λc8=>?_)
 ·try simp only [dy] at c8
  refine aq ?_;refine G1 ?_;refine Rv ?_;refine S B B (av (v:=(J ((s.getD (a+1) 0).toNat))) B B) ?_;refine an ?_;refine wm ?_;have hv:=wT.1 c8;exact ⟨G.ext,yG (Ec h1 I (show kj (s.getD (a+1) 0).toNat=some (s.getD (a+1) 0).toNat by unfold kj;rw [U hv])) B B B⟩
 try simp only [dy] at c8
 refine aq ?_;refine Z (λfI=>?_) (λfI=>?_)
 ·refine aG ?_;refine wm ?_;have hv:(s.getD (a+1) 0).toNat=98:=I;exact ⟨G.ext,yG (Ec h1 I (show kj (s.getD (a+1) 0).toNat=some 8 by rw [hv];rfl)) B B B⟩
 refine aq ?_;refine Z (λgL=>?_) (λgL=>?_)
 ·refine aG ?_;refine wm ?_;have hv:(s.getD (a+1) 0).toNat=102:=I;exact ⟨G.ext,yG (Ec h1 I (show kj (s.getD (a+1) 0).toNat=some 12 by rw [hv];rfl)) B B B⟩
 refine aq ?_;refine Z (λgY=>?_) (λgY=>?_)
 ·refine aG ?_;refine wm ?_;have hv:(s.getD (a+1) 0).toNat=110:=I;exact ⟨G.ext,yG (Ec h1 I (show kj (s.getD (a+1) 0).toNat=some 10 by rw [hv];rfl)) B B B⟩
 refine aq ?_;refine Z (λfJ=>?_) (λfJ=>?_)
 ·refine aG ?_;refine wm ?_;have hv:(s.getD (a+1) 0).toNat=114:=I;exact ⟨G.ext,yG (Ec h1 I (show kj (s.getD (a+1) 0).toNat=some 13 by rw [hv];rfl)) B B B⟩
 refine aq ?_;refine Z (λml=>?_) (λml=>?_)
 ·refine aG ?_;refine wm ?_;have hv:(s.getD (a+1) 0).toNat=116:=I;exact ⟨G.ext,yG (Ec h1 I (show kj (s.getD (a+1) 0).toNat=some 9 by rw [hv];rfl)) B B B⟩
 refine aq ?_;refine Z (λh9=>?_) (λh9=>?_)
 ·have aP:(s.getD (a+1) 0).toNat=117:=I;refine an ?_;refine bo G (bE6 s a _ cR I aP) Tryz.func389 B B B B B B ?_;intro w G aQ0;refine ae ?_;refine S B B (av (v:=(J ((bL (s.drop (a+1))).2.1))) B B) ?_;refine ab ?_;refine S B B (av (v:=(J ((bL (s.drop (a+1))).1))) B B) ?_;refine ag ?_;refine wm ?_;exact ⟨G.ext,cCp _ B B B B⟩
 refine bz ?_;refine wm ?_;have hv:¬ ((s.getD (a+1) 0).toNat=34\/(s.getD (a+1) 0).toNat=92\/(s.getD (a+1) 0).toNat=47):=λh=>by have:=wT.2 h;rw [this] at c8;cases c8
 exact ⟨G.ext,H8 (bJx h1 I (show kj (s.getD (a+1) 0).toNat=none by unfold kj;rw [O hv,O I,O I,O I,O I,O I])) (by decide) B B B⟩
theorem aIs (d n b a e:Int)(w0:World):Fc W 129 [.agg #[.int .i64 d,.int .i64 n,.int .i64 b,.int .i64 a,.int .i64 e]] w0 (λv _=>v=.bool (decide (okL d n b a e))):=by
 refine aI Tryz.func129 B Tryz.ntmps129 B ?_;have G:=Ctx.start w0;refine ag ?_;refine bE ?_;intro b1 w G er fX;refine Mo ?_;refine aHr ?_;refine be Tryz.results129 B ?_;exact aBp
theorem bGh (s:List UInt8)(w0:World)(hs:s.length<=1000000):Ret W 95 [M s] w0 (λu w'=>∃ (v:Value) (bl:Bool) (xs:List Value) (i:Nat),u=.tuple #[v,.bool bl]/\Bad s i/\i<=s.length/\xs.length<=i/\Cxr w0 w' [] [⟨3,1,v,xs.length+1,xs++[J i]⟩]):=by
 refine aI Tryz.func95 B Tryz.ntmps95 B ?_;have G:=Ctx.start w0;refine aG ?_;refine C4 ?_;intro cP w G lB jg;replace G:=G.toRow (size:=1) (k:=1) B (by decide);refine bz ?_;refine bu (λg f ah=>∃ (i:Nat) (v:Value) (xs:List Value),g=s.length-i/\(i<=s.length)/\(xs.length<=i)/\(∀ r,Lp (fs (gf s)) i r->Lp (fs (gf s)) 0 r)/\f 5=J i/\f 4=v/\f 0=M s/\Cxr w0 ah [] [⟨3,1,v,xs.length+1,xs++[J i]⟩]) ((λ(i:Nat)=>s.length-i) 0) ?_ ?_
 ·exact ⟨0,_,[],B,bU _,bV _,λr h=>h,aJ,B,B,G⟩
 intro gJ f w ai;obtain ⟨i,v,xs,qp,hi,hx,aw,bF,aM,aB,G⟩:=ai;refine bz ?_;refine Z (λco=>?_) (λco=>?_)
 ·refine an ?_;have bt:s.drop i≠[]:=by intro e;have:=aD eC e;rw [bC] at this;simp only [dC] at this;omega
  have hw:=us bt;rw [bC] at hw;refine ag ?_;refine bG G (Ta (bs s) i _ vC vC) Tryz.func152 B B B B B B ?_;intro Ki w G sD rG;obtain ⟨cTe,rG⟩:=rG;rw [xN] at rG;subst rG;refine an ?_;refine Lo ?_;refine aG ?_;refine Z (λct=>?_) (λct=>?_)
  ·refine aG ?_;refine Lh ?_;exact ⟨v,false,xs,i,B,aw _ (.done (by unfold fs gf;rw [O I,U I])),hi,hx,G⟩
  refine az ?_;refine Lq ?_;refine an ?_;refine C4 ?_;intro aZp w G bNu zk;refine Rj ?_;intro KB w G bP2;replace G:=G.drop 1;refine ag ?_;exact ⟨_,_,I,B,i+dB (s.drop i),_,xs++[J i],B,I,J8,λr h=>aw r (.more (by unfold fs gf;rw [O I,O I]) h),aJ,B,aB,(G.row_eq sK B)⟩
 refine bz ?_;refine Lh ?_;exact ⟨v,true,xs,i,B,aw _ (.done (by unfold fs gf;rw [U I,show i=s.length by omega])),hi,hx,G⟩
theorem aIt (s:List UInt8)(w0:World)(hs:s.length<=1000000):Fc W 130 [M s] w0 (λv _=>∃ i:Nat,Bad s i/\i<=s.length/\v=(J i)):=by
 refine aI Tryz.func130 B Tryz.ntmps130 B ?_;have G:=Ctx.start w0;refine aG ?_;refine bW (bGh s _ hs) Tryz.func95 B B B B B B ?_;rintro rW w ⟨v,bl,xs,i,rfl,sp,hS,xt,cq⟩;replace G:=G.callRows cq;obtain ⟨g,c,rfl,hc,aH,cz⟩:=cq.rowS J8;have OK:xs.length<=9000000000:=I;refine i6 ?_;refine S B B (cT Tryz.underlying167 bN B B B I I) ?_;refine S B B (br B B dq B (by rw [show 0+dw (((xs.length+1:Nat):Int)-1)*1=0+xs.length by omega];exact cz xs.length _ (by rw [pj (bV _),Nat.sub_self];rfl))) ?_;refine mR ?_;refine ag ?_;refine be Tryz.results130 B ?_;exact ⟨G.ext,i,sp,hS,B⟩
theorem gz:(W.info? 148).map (·.size)=some 10:=by kernel_rfl
theorem bKo:bY W 148 0 0:=b5 (tt:=9) mV rfl gA rfl
theorem bKp:bY W 148 1 1:=b5 (tt:=23) mV rfl pV rfl
theorem bKq:bY W 148 2 6:=b5 (tt:=3) mV rfl bN rfl
theorem bKr:bY W 148 3 7:=b5 (tt:=3) mV rfl bN rfl
theorem bKs:bY W 148 4 8:=b5 (tt:=3) mV rfl bN rfl
theorem bKt:bY W 148 5 9:=b5 (tt:=3) mV rfl bN rfl
theorem cH6:Zero W 148 [.string ByteArray.empty,.int .i64 0,.int .i64 0,.int .i64 0,.int .i64 0,.int .i64 0,.int .i64 0,.int .i64 0,.int .i64 0,.int .i64 0]:=ji (v:=.agg #[.string ByteArray.empty,.int .i64 0,.int .i64 0,.int .i64 0,.int .i64 0,.int .i64 0,.int .i64 0,.int .i64 0,.int .i64 0,.int .i64 0]) ac rfl
def hI (s:List UInt8)(D N:Nat)(af aj ak:Int)(p nodes off err:Nat):List Value:=[M s,J D,J N,.int .i64 af,.int .i64 aj,.int .i64 ak,J p,J nodes,J off,J err]
theorem wH (s:List UInt8)(D N:Nat)(af aj ak:Int)(p nodes off err:Nat)(o e:Nat)(w0:World):Fc W 132 [.agg (hI s D N af aj ak p nodes off err).toArray,J o,J e] w0 (λv _=>v=.agg (hI s D N af aj ak p nodes (if err=0 then o else off) (if err=0 then e else err)).toArray):=by
 refine aI wv B Tryz.ntmps132 B ?_;have G:=Ctx.start w0;refine ag ?_;refine bE ?_;intro b3 w G eE gr;refine wi ?_;intro bq w G gX hF;refine ab ?_;refine cw (λf ah=>∃ (ik aZ:Nat),(ik=if err=0 then o else off)/\(aZ=if err=0 then e else err)/\f 3=ao b3 0/\f 6=ao bq 0/\Cxr w0 ah [(bq,aa 148 [M [],J 0,J 0,J 0,J 0,J 0,J 0,J 0,J 0,J 0]),(b3,aa 148 [M s,J D,J N,.int .i64 (af),.int .i64 (aj),.int .i64 (ak),J p,J nodes,J ik,J aZ])] []) ?_ ?_
 ·refine az ?_;refine Z (λhD=>?_) (λhD=>?_)
  ·refine an ?_;refine bR (v:=(J o)) G 1 B B B B B B B B bN ?_;intro w G jh;refine an ?_;refine bR (v:=(J e)) G 1 B B B B B B B B bN ?_;intro w G ig;refine ab ?_;exact ⟨_,B,o,e,(by rw [U I]),(by rw [U I]),B,B,G⟩
  refine ab ?_;exact ⟨_,B,off,err,(by rw [O I]),(by rw [O I]),B,B,G⟩
 intro f w ai;obtain ⟨ik,aZ,gi,ic,aR,aL,G⟩:=ai;refine ae ?_;refine bn G 0 B B B aL B B gz B B ?_;intro w G hG;refine ag ?_;refine j8 Tryz.results132 aL (G.at 0 B) mV B gz ?_;subst gi ic;exact gC
def yw (s:List UInt8)(D N:Nat)(af aj ak:Int)(p nodes off err:Nat)(dp o:Nat):List Value:=if D<dp then hI s D N af aj ak p nodes (if err=0 then o else off) (if err=0 then 9 else err) else if N<=nodes then hI s D N af aj ak p nodes (if err=0 then o else off) (if err=0 then 10 else err) else hI s D N af aj ak p (nodes+1) off err
theorem bBs (s:List UInt8)(D N:Nat)(af aj ak:Int)(p nodes off err:Nat)(dp o:Nat)(w0:World)(hn:nodes<=1000000):Fc W 134 [.agg (hI s D N af aj ak p nodes off err).toArray,J dp,J o] w0 (λv _=>v=.agg (yw s D N af aj ak p nodes off err dp o).toArray):=by
 refine aI Tryz.func134 B Tryz.ntmps134 B ?_;have G:=Ctx.start w0;refine ag ?_;refine bE ?_;intro b3 w G eE gr;refine wi ?_;intro bq w G gX hF;refine i6 ?_;refine Z (λiB=>?_) (λiB=>?_)
 ·refine an ?_;refine bo G (wH s D N af aj ak p nodes off err o 9 _) wv B B B B B B ?_;intro w G sC;refine C1 ?_;intro w G jh;refine ag ?_;refine R7 ?_;exact ⟨G.ext,(aD (λl:List Value=>Value.agg l.toArray) (show yw s D N af aj ak p nodes off err dp o=hI s D N af aj ak p nodes (if err=0 then o else off) (if err=0 then 9 else err) by unfold yw;rw [U I])).symm⟩
 refine cF ?_;refine Z (λc8=>?_) (λc8=>?_)
 ·refine an ?_;refine bo G (wH s D N af aj ak p nodes off err o 10 _) wv B B B B B B ?_;intro w G tX;refine C1 ?_;intro w G hG;refine ag ?_;refine R7 ?_;exact ⟨G.ext,(aD (λl:List Value=>Value.agg l.toArray) (show yw s D N af aj ak p nodes off err dp o=hI s D N af aj ak p nodes (if err=0 then o else off) (if err=0 then 10 else err) by unfold yw;rw [O I,U I])).symm⟩
 refine aG ?_;refine aDh ?_;intro w G rK;refine an ?_;refine C1 ?_;intro w G jt;refine ag ?_;refine R7 ?_;exact ⟨G.ext,(aD (λl:List Value=>Value.agg l.toArray) (show yw s D N af aj ak p nodes off err dp o=hI s D N af aj ak p (nodes+1) off err by unfold yw;rw [O I,O I])).symm⟩
theorem DZ (s:List UInt8)(D N:Nat)(af aj ak:Int)(p nodes off err:Nat)(k a:Nat)(x:List UInt8)(w0:World):Fc W 79 [.agg (hI s D N af aj ak p nodes off err).toArray,.agg #[J k,M x,J a]] w0 (λv _=>v=.agg (hI s D N af aj ak p nodes (if err=0 then (unx s a k).1 else off) (if err=0 then (unx s a k).2 else err)).toArray):=by
 refine aI DN B Tryz.ntmps79 B ?_;have G:=Ctx.start w0;refine ag ?_;refine bE ?_;intro b2 w G di e3;refine bE ?_;intro b3 w G eE gr;refine wi ?_;intro bp w G gW gN;refine bz ?_;refine Z (λiB=>?_) (λiB=>?_)
 ·have aP:unx s a k=(s.length,4):=by unfold unx;rw [U I]
  refine az ?_;refine bo G (wH s D N af aj ak p nodes off err s.length 4 _) wv B B B B B B ?_;intro w G mx;refine C1 ?_;intro w G jh;refine ag ?_;refine aFb ?_;exact ⟨G.ext,(aD (λl:List Value=>Value.agg l.toArray) (show hI s D N af aj ak p nodes (if err=0 then (unx s a k).1 else off) (if err=0 then (unx s a k).2 else err)=hI s D N af aj ak p nodes (if err=0 then s.length else off) (if err=0 then 4 else err) by rw [aP])).symm⟩
 have aP:unx s a k=(a,3):=by unfold unx;rw [O I]
 refine az ?_;refine bo G (wH s D N af aj ak p nodes off err a 3 _) wv B B B B B B ?_;intro w G sD;refine C1 ?_;intro w G ig;refine ag ?_;refine aFb ?_;exact ⟨G.ext,(aD (λl:List Value=>Value.agg l.toArray) (show hI s D N af aj ak p nodes (if err=0 then (unx s a k).1 else off) (if err=0 then (unx s a k).2 else err)=hI s D N af aj ak p nodes (if err=0 then a else off) (if err=0 then 3 else err) by rw [aP])).symm⟩
end Go.Proofs.YthiafbkolhnadaaGreatDoor
end
section
namespace Go.Proofs.YthiafbkolhnadaaGreatDoor
open Go Go.Dk Go.RowKit Go.Lib
theorem Cw:∀ l:List UInt8,aT (l++[48])=if aT l=l.length then l.length+1 else aT l
 | []=>by decide
 | c::t=>by
  have ih:=Cw t;have h1:aT (c::t)=if bf c then aT t+1 else 0:=B
  have h2:aT (c::t++[48])=if bf c then aT (t++[48])+1 else 0:=B
  rw [h1,h2];by_cases hc:bf c
  . rw [U hc,U hc,ih,cf]
    by_cases h:aT t=t.length
    ·rw [U h,U I]
    ·rw [O h,O I]
  ·rw [O hc,O hc,cf,O I]
theorem yI {l:List UInt8}{j:Nat}(h:j<l.length):(l++[48]).getD j 0=l.getD j 0:=by
 simp [hZ,l9 h]
theorem D5 {l:List UInt8}{j:Nat}(h:j<=l.length):(l++[48]).drop j=l.drop j++[48]:=List.drop_append_of_le_length h
theorem bHe (s:List UInt8):bI (s++[48])=bI s++[48]:=by
 unfold bI;exact aBv
theorem aKl (s:List UInt8):hj (s++[48])=hj s++[48]:=by
 unfold hj;exact aBv
theorem S3 (s:List UInt8):begs s↔FD (bI s++[48]):=by unfold begs numb;rw [bHe]
structure Mid (s z:List UInt8):Prop where
 n:numb s↔numE z
 b:z≠[]->(begs s↔numE (z++[48]))
theorem aRq {s:List UInt8}(h:bI s=[]):¬ numb s/\begs s:=by
 refine ⟨λh2=>h2.1 (by rw [h];rfl),(S3 s).2 ?_⟩;rw [h];decide
theorem bWi {s:List UInt8}(h:bI s≠[])(h2:aT (bI s)=0\/(((bI s).getD 0 0).toNat=48/\1<aT (bI s))):¬ numb s/\¬ begs s:=by
 have hp:=gF.2 h;refine ⟨λY=>?_,λY=>?_⟩
 . rcases h2 with h2 | ⟨h2,ar⟩
   ·exact Y.1 h2
   ·exact Y.2.1 ⟨ar,h2⟩
 . have Y:=(S3 s).1 Y
   have e:=Cw (bI s);have hl:=mI (bI s);rcases h2 with h2 | ⟨h2,ar⟩
   . rw [O I] at e
     exact Y.1 I
   . refine Y.2.1 ⟨?_,by rw [yI hp];exact h2⟩
     split at e <;> omega
section
variable {s:List UInt8} (ap:aT (bI s)≠0) (h1:¬ (((bI s).getD 0 0).toNat=48/\1<aT (bI s)))
include ap h1
theorem Xq:numb s↔kt ((bI s).drop (aT (bI s))):=Pl ap λh=>h1 ⟨h.2,h.1⟩
theorem Xp (h2:(bI s).drop (aT (bI s))≠[]):begs s↔kt ((bI s).drop (aT (bI s))++[48]):=by
 have hl:=mI (bI s);have b8:aT (bI s)<(bI s).length:=by
  have:=gF.2 h2;rw [bC] at this;omega
 have e:=Cw (bI s);rw [O I] at e;rw [S3];unfold FD;rw [e,D5 hl,yI I];exact ⟨λh=>h.2.2,λh=>⟨ap,λh2=>h1 ⟨h2.2,h2.1⟩,h⟩⟩
theorem bWj {q:List UInt8}(aw:(bI s).drop (aT (bI s))=q)(h2:(q.getD 0 0).toNat=46)(Y:aT (q.drop 1)=0):¬ numb s/\(begs s↔q.length=1):=by
 have hp:0<q.length:=nc (by rw [h2];decide);have bt:q≠[]:=gF.1 hp;subst aw;refine ⟨λh=>aS8 h2 Y ((Xq ap h1).1 h),(Xp ap h1 bt).trans ?_⟩
 generalize (bI s).drop (aT (bI s))=q at h2 Y hp bt ⊢
 unfold kt;rw [yI hp,U h2,D5 hp];have e:=Cw (q.drop 1);rw [bC,Y] at e;constructor
 . intro h
   refine nA λhn=>?_
   rw [O I] at e;exact h.1 e
 . intro h
   rw [U I] at e;refine ⟨by rw [e];omega,.inl ?_⟩;rw [e];apply q0;simp;omega
theorem bX1 {q:List UInt8}(aw:(bI s).drop (aT (bI s))=q)(h2:(q.getD 0 0).toNat=46)(Y:aT (q.drop 1)≠0):Mid s (q.drop (1+aT (q.drop 1))):=by
 have hp:0<q.length:=nc (by rw [h2];decide);have bt:q≠[]:=gF.1 hp;subst aw;refine ⟨(Xq ap h1).trans (aS9 h2 Y),λhz=>(Xp ap h1 bt).trans ?_⟩
 generalize (bI s).drop (aT (bI s))=q at h2 Y hp bt hz ⊢
 have hl:=mI (q.drop 1);have bRb:=gF.2 hz;simp only [bC] at hl bRb;have e:=Cw (q.drop 1);rw [bC,O I] at e;unfold kt;rw [yI hp,U h2,D5 hp,e,D5 I];exact ⟨λh=>h.2,λh=>⟨Y,h⟩⟩
theorem bX0 {q:List UInt8}(aw:(bI s).drop (aT (bI s))=q)(h2:(q.getD 0 0).toNat≠46):Mid s q:=by
 subst aw;refine ⟨(Xq ap h1).trans (XY h2),λhz=>(Xp ap h1 hz).trans (XY ?_)⟩;rw [yI (gF.2 hz)];exact h2
end
section
variable {s z:List UInt8} (hm:Mid s z)
include hm
theorem bWm (h:¬ ((z.getD 0 0).toNat=101\/(z.getD 0 0).toNat=69)):(numb s↔z=[])/\(z≠[]->¬ begs s):=by
 refine ⟨hm.n.trans ⟨λh2=>by rcases h2 with h2 | ⟨h2,_⟩;(exact h2);exact absurd h2 h,.inl⟩,λhz hb=>?_⟩;have hb:=(hm.b hz).1 hb;rcases hb with hb | ⟨hb,_⟩
 ·simp at hb
 ·rw [yI (gF.2 hz)] at hb;exact h hb
theorem aRr (h:(z.getD 0 0).toNat=101\/(z.getD 0 0).toNat=69):(numb s↔vA (z.drop 1))/\(begs s↔vA (z.drop 1++[48])):=by
 have hp:0<z.length:=nc I;have bt:z≠[]:=gF.1 hp;refine ⟨hm.n.trans ⟨λh2=>by rcases h2 with h2 | h2;(exact absurd h2 bt);exact h2.2,λh2=>.inr ⟨h,h2⟩⟩,(hm.b bt).trans ?_⟩;unfold numE;rw [yI hp,D5 hp];exact ⟨λh2=>by rcases h2 with h2 | h2;(simp at h2);exact h2.2,λh2=>.inr ⟨h,h2⟩⟩
theorem bWk {u:List UInt8}(h:(z.getD 0 0).toNat=101\/(z.getD 0 0).toNat=69)(aP:hj (z.drop 1)=u)(h2:aT u=0):¬ numb s/\(begs s↔u.length=0):=by
 obtain ⟨Y,ar⟩:=aRr hm h;unfold vA at Y ar;rw [aP] at Y;rw [aKl,aP] at ar;refine ⟨λh=>?_,ar.trans ?_⟩
 . have:=Y.1 h
   exact this.1 (List.length_eq_zero_iff.1 I)
 . have e:=Cw u
   rw [aQ,ll,e,h2];constructor
   . intro h
     refine nA λhn=>?_
     have:=h.2;rw [O I] at this;omega
   . intro h
     exact ⟨by simp,by rw [U I]⟩
theorem bWl {u:List UInt8}(h:(z.getD 0 0).toNat=101\/(z.getD 0 0).toNat=69)(aP:hj (z.drop 1)=u)(h2:aT u≠0):(numb s↔aT u=u.length)/\(aT u≠u.length->¬ begs s):=by
 obtain ⟨Y,ar⟩:=aRr hm h;unfold vA at Y ar;rw [aP] at Y;rw [aKl,aP] at ar;refine ⟨Y.trans ⟨λh=>h.2,λh=>⟨λe=>h2 (by rw [e];rfl),h⟩⟩,λhn hb=>?_⟩;have e:=Cw u;rw [O hn] at e;have:=(ar.1 hb).2;have hl:=mI u;rw [aQ,ll,e] at this;omega
end
theorem OO {s:List UInt8}{a b:Bool}(a6:a=true↔numb s)(hb:¬ numb s->(b=true↔begs s)):∃ c:Bool,Value.tuple #[.bool a,.bool b]=.tuple #[.bool (decide (numb s)),.bool c]/\(¬ numb s->c=decide (begs s)):=by
 refine ⟨b,?_,λh=>?_⟩
 ·rw [show a=decide (numb s) by rw [jE,a6,decide_eq_true_eq]]
 ·rw [jE,hb h,decide_eq_true_eq]
end Go.Proofs.YthiafbkolhnadaaGreatDoor
end
section
namespace Go.Proofs.YthiafbkolhnadaaGreatDoor
open Go Go.Dk Go.RowKit Go.Lib
variable {a:Nat}{s:List UInt8}
theorem aWg {n m:Nat}:(n-a<=m)=(n<=a+m):=propext ⟨λh=>I,λh=>I⟩
theorem cEu {n m:Nat}:(m<n-a)=(a+m<n):=propext ⟨λh=>I,λh=>I⟩
theorem Km (s:List UInt8)(a i:Nat)(o:List UInt8):iY (s.drop a) (i,o) =
  if s.length<=a+i then .inr (4,[],0)
  else if (s.getD (a+i) 0).toNat=34 then .inr (0,o,i+1)
  else if (s.getD (a+i) 0).toNat=92 then
   if (bL (s.drop (a+i+1))).1≠0 then .inr ((bL (s.drop (a+i+1))).1,[],0)
   else .inl (i+1+(bL (s.drop (a+i+1))).2.2,o++dh (bL (s.drop (a+i+1))).2.1)
  else if (s.getD (a+i) 0).toNat<32\/dB (s.drop (a+i))=0 then .inr (5,[],0)
  else .inl (i+dB (s.drop (a+i)),o++sub s (a+i) (dB (s.drop (a+i)))):=by
 unfold iY sub;simp only [du,fE,bC,aWg,mU]
theorem D2 (s:List UInt8)(a i:Nat):mh (s.drop a) i =
  if s.length<=a+i then .inr (if (s.getD (a+1) 0).toNat=42 then (4,0) else (0,i))
  else if (s.getD (a+1) 0).toNat=47/\((s.getD (a+i) 0).toNat=10\/((s.getD (a+i) 0).toNat=13/\a+i+1<s.length/\(s.getD (a+i+1) 0).toNat=10)) then .inr (0,i)
  else if (s.getD (a+1) 0).toNat=42/\(s.getD (a+i) 0).toNat=42/\a+i+1<s.length/\(s.getD (a+i+1) 0).toNat=47 then .inr (0,i+2)
  else if dB (s.drop (a+i))=0 then .inr (5,0)
  else .inl (i+dB (s.drop (a+i))):=by
 unfold mh;simp only [du,fE,bC,aWg,cEu,mU]
theorem HK{r:Nat×Nat}(h:¬ s.length<=a+1)(h2:¬ ((s.getD (a+1) 0).toNat≠47/\(s.getD (a+1) 0).toNat≠42))(hl:Lp (fs (mh (s.drop a))) 2 r):Com (s.drop a) r:=by
 unfold Com;rw [O jx,du,O h2];exact hl
theorem bG2(h:s.length<=a+1):Com (s.drop a) (4,0):=by
 unfold Com;rw [U jx]
theorem bG3(h:¬ s.length<=a+1)(h2:(s.getD (a+1) 0).toNat≠47/\(s.getD (a+1) 0).toNat≠42):Com (s.drop a) (3,0):=by
 unfold Com;rw [O jx,du,U h2]
theorem bI6 {r:Nat}{l:List UInt8}(h:e7 r=true)(he:dh r=l):r<32↔(l.getD 0 0).toNat<32:=by
 have hr:=((nL r).1 h).1;subst he;unfold dh;rw [O (by rw [h];decide)];split
 ·rw [show l8 [bM r] 0 0=bM r from B,qQ I]
 split
 ·rw [show ∀ x y:UInt8,l8 [x,y] 0 0=x from λ_ _=>rfl,qQ I];omega
 split
 ·rw [show ∀ x y z:UInt8,l8 [x,y,z] 0 0=x from λ_ _ _=>rfl,qQ I];omega
 ·rw [show ∀ x y z t:UInt8,l8 [x,y,z,t] 0 0=x from λ_ _ _ _=>rfl,qQ I];omega
end Go.Proofs.YthiafbkolhnadaaGreatDoor
end
section
namespace Go.Proofs.YthiafbkolhnadaaGreatDoor
open Go Go.Dk Go.RowKit Go.Lib
attribute [local irreducible] Go.wpList Go.Code.wp Go.bodyPost Go.wpStill
theorem yZG {p:Prop}(h:p:=by
 first
 | exact ⟨_,rfl,4,aY s a%8,by unfold ib;rw [U nr],rfl,rfl,rfl,aD (Value.int .i64) (by rw [rb];exact Go.Dk.and7 (i7 _ _)),G⟩
 | exact ⟨_,rfl,3,aY s a%16,by unfold ib;rw [O nr,U nr],rfl,rfl,rfl,aD (Value.int .i64) (by rw [rb];exact Go.Dk.and15 (i7 _ _)),G⟩
 | exact ⟨_,rfl,2,aY s a%32,by unfold ib;rw [O nr,O nr,U nr],rfl,rfl,rfl,aD (Value.int .i64) (by rw [rb];exact Go.Dk.and31 (i7 _ _)),G⟩
 | exact ⟨_,rfl,1,aY s a,by unfold ib;rw [O nr,O nr,O nr],rfl,rfl,rfl,rfl,G⟩):p:=h
theorem yQu {p:Prop}(h:p:=by
 refine ag ?_;refine p0 ?_;refine ae ?_;exact yZG):p:=h
theorem bCa (s:ByteArray)(a:Nat)(w0:World)(hs:s.size<=1073741824)(a6:a<s.size):Fc W 152 [.string s,.int .i64 a] w0 (λv _=>∃ r:Nat,v=.tuple #[J r,.int .i64 (fB s a)]/\(fB s a≠0->e7 r=true/\dh r=(s.data.toList.drop a).take (fB s a))):=by
 refine aI Tryz.func152 B Tryz.ntmps152 B ?_;have G:=Ctx.start w0;refine kf ?_;refine Ak ?_;refine ae ?_;refine Z (λeH=>?_) (λeH=>?_)
 ·refine az ?_;refine x2 ?_;exfalso;omega
 refine aq ?_;refine Ah ?_;refine Ro ?_;refine bz ?_;refine cw (λf ah=>∃ jS im:Nat,ib (aY s a)=(jS,im)/\f 0=.string s/\f 1=.int .i64 a/\f 7=.int .i64 jS/\f 8=.int .i64 im/\Ctx w0 ah []) ?_ ?_
 ·refine aG ?_;refine Z (λfI=>?_) (λfI=>?_)
  ·exact yQu
  refine az ?_;refine Z (λnP=>?_) (λnP=>?_)
  ·exact yQu
  refine az ?_;refine Z (λh9=>?_) (λh9=>?_)
  ·exact yQu
  refine ab ?_;exact yZG
 intro f w ai;obtain ⟨jS,im,BA,aB,aK,aS,bb,G⟩:=ai;have ms:=aNv (aY s a);have rp:=i7 s a;rw [BA] at ms;simp only at ms;refine an ?_;refine wk ?_;refine aq ?_;refine Z (λiT=>?_) (λiT=>?_)
 ·refine az ?_;refine x2 ?_;exact ⟨G.ext,0,vU (m:=0) (YM a6 FG) B B,λh=>absurd (YM a6 FG) h⟩
 refine aG ?_;refine bu (λk f ah=>∃ i:Nat,1<=i/\k+i=jS/\f 0=.string s/\f 1=.int .i64 a/\f 7=.int .i64 jS/\f 8=.int .i64 (kT s a im (i-1))/\f 9=.int .i64 i/\Ctx w0 ah []) (jS-1) ?_ ?_
 ·exact aB1
 intro Ej f w ai;obtain ⟨i,hi,hk,aB,aK,aS,bb,b6,G⟩:=ai;have Bh:=Ms s a im I (i-1) I;have aM9:256*64^(i-1)<=67108864:=nI (Nat.mul_le_mul_left 256 (pn (by decide) (show i-1<=3 by omega))) (by decide);refine aG ?_;refine cn B (λgq=>?_) (λgq=>?_)
 ·exact Z5
 try simp only [dy] at gq
 refine an ?_;refine bG G (Tg _ _ I) Tryz.func212 B B B B B B ?_;intro cBw w G WW We;subst We;refine Mm ?_;refine Lg ?_;refine aDt ?_;refine aN B B B a8 (λhc=>wa B ay ay) ?_;refine ag ?_;refine Z (λEt=>?_) (λEt=>?_)
 ·refine az ?_;refine x2 ?_;have dK:i=jS:=I;subst dK;have hz:fB s a=0:=by
   exact aA5
  exact ⟨G.ext,0,vU (m:=0) hz B B,λh=>absurd hz h⟩
 refine cK ?_;refine x2 ?_;have dK:i=jS:=I;subst dK;obtain ⟨h1,h2⟩:=Et;have e:e7 (kT s a im (i-1))=true:=by
  exact Zu
 have aZ:dh (kT s a im (i-1))=(s.data.toList.drop a).take i:=(aD (λb:ByteArray=>b.data.toList) h2).trans (TD I I);have hz:fB s a=i:=by
  rw [YL a6 FG,BA];simp only;rw [U ⟨e,aZ⟩]
 exact ⟨G.ext,kT s a im (i-1),vU (m:=i) hz B B,λ_=>⟨e,by rw [hz];exact aZ⟩⟩
end Go.Proofs.YthiafbkolhnadaaGreatDoor
end
section
namespace Go.Proofs.YthiafbkolhnadaaGreatDoor
open Go Go.Dk Go.RowKit Go.Lib
attribute [local irreducible] Go.wpList Go.Code.wp Go.bodyPost Go.wpStill Go.wpQuiet
theorem S9 (s:List UInt8)(w0:World)(hs:s.length<=1000000):Fc W 133 [M s] w0 (λv _=>∃ c:Bool,v=.tuple #[.bool (decide (numb s)),.bool c]/\(¬ numb s->c=decide (begs s))):=by
 refine aI Tryz.func133 B Tryz.ntmps133 B ?_;have G:=Ctx.start w0;refine Dt ?_;refine DB ?_;refine jF ?_;refine cw (λf ah=>∃ (i0:Nat),(i0<=s.length)/\(bI s=s.drop i0)/\f 4=J i0/\f 0=M s/\f 2=.bool (false)/\f 3=.bool (false)/\Cxr w0 ah [] []) ?_ ?_
 ·refine eR ?_;refine eW ?_;refine Aq ?_;refine l7 ?_;refine x5 ?_;refine x5 ?_;refine aN B B B aO (λhc=>dm (s:=s) (i:=0) B ay ay aF fO) ?_;refine x6 ?_;refine DD ?_;refine Z (λef=>?_) (λef=>?_)
  ·refine nE ?_;refine p6 ?_;refine S B B (av (v:=(J (0+1))) B B) ?_;refine eA ?_;exact ⟨_,B,1,I,by unfold bI;rw [U I],aJ,B,B,B,G⟩
  refine iZ ?_;exact ⟨_,B,0,I,by unfold bI;rw [O (λh=>by have:=nc (l:=s) (j:=0) I;omega)];rfl,aJ,B,B,B,G⟩
 intro f w ai;obtain ⟨i0,oV,ho,aM,aB,aE,aR,G⟩:=ai;refine nF ?_;refine wo ?_;refine uG ?_;refine l5 ?_;refine Z (λdG=>?_) (λdG=>?_)
 ·have hz:bI s=[]:=by rw [ho];exact q0 I
  refine dR ?_;refine pe ?_;refine G2 ?_;exact ⟨G.ext,OO ⟨(λh=>by cases h),λh=>absurd h (aRq hz).1⟩ (λ_=>⟨λ_=>(aRq hz).2,λ_=>rfl⟩)⟩
 have hz:bI s≠[]:=λe=>by rw [ho,List.drop_eq_nil_iff] at e;omega
 have hr:=mI (s.drop i0);rw [bC] at hr;have aH:(bI s).getD 0 0=s.getD i0 0:=by rw [ho,du,gb]
 have EW:aT (bI s)=aT (s.drop i0):=by rw [ho]
 refine tb ?_;refine wl ?_;refine wo ?_;refine bo G (Te s i0 _ cR I) Tryz.func203 B B B B B B ?_;intro w G WS;refine RE ?_;refine ya ?_;refine wo ?_;refine l7 ?_;refine R8 ?_;refine aN B B B a8 (λhc=>cU B aM) ?_;refine aD2 ?_;refine SE ?_;refine x5 ?_;refine aN B B B aO (λhc=>cU B aM) ?_;refine r3 ?_;refine aN B B B aO (λhc=>gQ B ay ay B) ?_;refine yh ?_;refine eA ?_;refine Z (λpG=>?_) (λpG=>?_)
 ·refine dR ?_;refine pe ?_;refine G2 ?_;have h2:=bWi hz (by rw [aH,EW];omega);exact ⟨G.ext,OO ⟨(λh=>by cases h),λh=>absurd h h2.1⟩ (λ_=>⟨(λh=>by cases h),λh=>absurd h h2.2⟩)⟩
 have ap:aT (bI s)≠0:=I;have h1:¬ (((bI s).getD 0 0).toNat=48/\1<aT (bI s)):=by rw [aH];omega
 have aw:(bI s).drop (aT (bI s))=s.drop (i0+aT (s.drop i0)):=by rw [ho,fE]
 have Jj:(s.drop (i0+aT (s.drop i0))).getD 0 0=s.getD (i0+aT (s.drop i0)) 0:=by rw [du,gb]
 refine iZ ?_;refine eR ?_;refine RE ?_;refine eA ?_;refine cw (λf ah=>∃ (j:Nat),(j<=s.length)/\(Mid s (s.drop j))/\f 4=J j/\f 0=M s/\Cxr w0 ah [] []) ?_ ?_
 ·refine eR ?_;refine uG ?_;refine l7 ?_;refine R9 ?_;refine x5 ?_;refine aN B B B aO (λhc=>dm (s:=s) (i:=i0+aT (s.drop i0)) B ay ay aF fO) ?_;refine x6 ?_;refine DD ?_;refine Z (λwX=>?_) (λwX=>?_)
  ·have oO:((s.drop (i0+aT (s.drop i0))).getD 0 0).toNat=46:=by rw [Jj];omega
   refine DC ?_;refine p6 ?_;refine bo G (Te s (i0+aT (s.drop i0)+1) _ cR I) Tryz.func203 B B B B B B ?_;intro w G Jy;refine aFd ?_;refine ya ?_;refine p6 ?_;refine l5 ?_;refine Z (λjq=>?_) (λjq=>?_)
   ·have Y:aT ((s.drop (i0+aT (s.drop i0))).drop 1)=0:=by rw [fE];omega
    refine eR ?_;refine uG ?_;refine An ?_;refine pe ?_;refine G2 ?_;obtain ⟨bd,h6⟩:=bWj ap h1 aw oO Y;rw [bC] at h6;have nl:aT (s.drop (i0+aT (s.drop i0)+1))=0:=by rw [fE] at Y;exact Y
    exact aA3
   have Y:aT ((s.drop (i0+aT (s.drop i0))).drop 1)≠0:=by rw [fE];omega
   refine yd ?_;refine eW ?_;refine aFd ?_;refine eA ?_;have VG:=bX1 ap h1 aw oO Y;rw [fE,fE] at VG;have nl:=mI (s.drop (i0+aT (s.drop i0)+1));rw [bC] at nl;exact ⟨_,B,i0+aT (s.drop i0)+1+aT (s.drop (i0+aT (s.drop i0)+1)),I,(by rw [<- mU] at VG;exact VG),aJ,aB,G⟩
  have oO:((s.drop (i0+aT (s.drop i0))).getD 0 0).toNat≠46:=by rw [Jj];intro h;have:=nc (l:=s) (j:=i0+aT (s.drop i0)) I;omega
  refine iZ ?_;exact ⟨_,B,i0+aT (s.drop i0),I,bX0 ap h1 aw oO,aJ,aB,G⟩
 intro f w ai;obtain ⟨j,ax,hm,aM,aB,G⟩:=ai;refine cw (λf ah=>∃ (i:Nat),(i<=s.length)/\(numb s↔i=s.length)/\(i≠s.length->¬ begs s)/\f 4=J i/\f 0=M s/\Cxr w0 ah [] []) ?_ ?_
 ·refine dR ?_;refine wo ?_;refine uG ?_;refine l7 ?_;refine R9 ?_;refine aN B B B aO (λhc=>cU B aM) ?_;refine Lt ?_;refine x6 ?_;refine aN B B B aO (λhc=>cU B ay) ?_;refine R8 ?_;refine aN B B B a8 (λhc=>cU B aM) ?_;refine aD4 ?_;refine Ll ?_;refine aN B B B aO (λhc=>zU hc B B B B) ?_;refine DD ?_;refine Z (λUS=>?_) (λUS=>?_)
  ·have hz:((s.drop j).getD 0 0).toNat=101\/((s.drop j).getD 0 0).toNat=69:=by rw [du,gb];omega
   refine dR ?_;refine wo ?_;refine oy ?_;refine As ?_;refine eA ?_;refine cw (λf ah=>∃ (a:Nat),(a<=s.length)/\(hj ((s.drop j).drop 1)=s.drop a)/\f 4=J a/\f 0=M s/\Cxr w0 ah [] []) ?_ ?_
   ·refine eR ?_;refine uG ?_;refine l7 ?_;refine R9 ?_;refine x5 ?_;refine RF ?_;refine x6 ?_;refine aN B B B aO (λhc=>cU B ay) ?_;refine R8 ?_;refine Rx ?_;refine aD5 ?_;refine Ll ?_;refine aN B B B aO (λhc=>zU hc B B B B) ?_;refine DD ?_;refine Z (λw1=>?_) (λw1=>?_)
    ·refine nE ?_;refine p6 ?_;refine S B B (av (v:=(J (j+1+1))) B B) ?_;refine eA ?_;exact ⟨_,B,j+1+1,I,by rw [fE];unfold hj;rw [du,U (by simp only [gb];omega),fE],aJ,aB,G⟩
    refine iZ ?_;exact ⟨_,B,j+1,I,by rw [fE];unfold hj;rw [du,O (λh=>by simp only [gb] at h;have:=nc (l:=s) (j:=j+1) I;omega)],aJ,aB,G⟩
   intro f w ai;obtain ⟨a,a6,aP,aM,aB,G⟩:=ai;refine DC ?_;refine wo ?_;refine bo G (Te s a _ cR I) Tryz.func203 B B B B B B ?_;intro w G cP6;refine Lv ?_;refine ya ?_;refine wo ?_;refine l5 ?_;refine Z (λbN7=>?_) (λbN7=>?_)
   ·have Uw:aT (s.drop a)=0:=I;refine eR ?_;refine uG ?_;refine An ?_;refine pe ?_;refine G2 ?_;obtain ⟨bd,h6⟩:=bWk hm hz aP Uw;rw [bC] at h6;exact aA3
   have Uw:aT (s.drop a)≠0:=I;refine yd ?_;refine eW ?_;refine Lv ?_;refine eA ?_;obtain ⟨h7,hq⟩:=bWl hm hz aP Uw;have aP2:=mI (s.drop a);rw [bC] at aP2 h7 hq;exact ⟨_,B,a+aT (s.drop a),I,h7.trans ⟨λh=>I,λh=>I⟩,λh=>hq I,aJ,aB,G⟩
  have hz:¬ (((s.drop j).getD 0 0).toNat=101\/((s.drop j).getD 0 0).toNat=69):=by rw [du,gb];intro h;have:=nc (l:=s) (j:=j) I;omega
  refine iZ ?_;obtain ⟨h7,hq⟩:=bWm hm hz;have y7:s.drop j=[]↔j=s.length:=by rw [List.drop_eq_nil_iff];omega
  exact ⟨_,B,j,ax,h7.trans y7,λh=>hq (λe=>h (y7.1 e)),aM,aB,G⟩
 intro f w ai;obtain ⟨i,hi,hn,hb,aM,aB,G⟩:=ai;refine dR ?_;refine wo ?_;refine uG ?_;refine An ?_;refine wo ?_;refine uG ?_;refine An ?_;refine pe ?_;refine G2 ?_;exact ⟨G.ext,OO ⟨λh=>hn.2 (by simp only [beq_iff_eq] at h;omega),λh=>by have:=hn.1 h;simp only [beq_iff_eq];omega⟩ (λkl=>⟨λh=>absurd (hn.2 (by simp only [beq_iff_eq] at h;omega)) kl,λh=>absurd h (hb λe=>kl (hn.2 e))⟩)⟩
theorem bGr {r:Nat}(h:e7 r=true):r<4294967296:=by have:=((nL r).1 h).1;omega
theorem Tk (s:List UInt8)(a:Nat)(w0:World)(hs:s.length<=1000000)(a6:a<s.length):Fc W 273 [M s,J a] w0 (λv _=>∃ (e m:Nat) (o:List UInt8),v=.tuple #[M o,J ((if e=0 then a+m else 0)),J e]/\Quo (s.drop a) (e,o,m)):=by
 refine aI Tryz.func273 B Tryz.ntmps273 B ?_;have G:=Ctx.start w0;refine kD ?_;refine Sa ?_;refine ag ?_;refine bu (λg f ah=>∃ (i:Nat) (et:List UInt8),g=s.length-(a+i)/\(a+i<=s.length)/\(1<=i)/\(et.length<=4*i)/\(∀ r,Lp (fs (iY (s.drop a))) (i,et) r->Quo (s.drop a) r)/\f 1=J (a+i)/\f 7=M et/\f 0=M s/\Cxr w0 ah [] []) ((λ(i:Nat)=>s.length-(a+i)) 1) ?_ ?_
 ·exact ⟨1,[],B,I,bV _,bU _,λr h=>h,aJ,B,B,G⟩
 intro gJ f w ai;obtain ⟨i,et,qp,hi,rz,au,aw,aK,aS,aB,G⟩:=ai;refine cK ?_;refine Z (λhB=>?_) (λhB=>?_)
 ·refine aG ?_;refine sP Tryz.results273 B B B ?_;exact ⟨G.ext,4,0,[],B,aw _ (.done (by unfold fs;rw [Km,U I]))⟩
 refine az ?_;refine LQ ?_;refine ag ?_;refine Z (λjJ=>?_) (λjJ=>?_)
 ·refine aq ?_;refine S B B (av (v:=(M et)) B B) ?_;refine LS ?_;refine ae ?_;refine sP Tryz.results273 B B B ?_;exact ⟨G.ext,0,i+1,et,B,aw _ (.done (by unfold fs;rw [Km,O I,U I]))⟩
 refine aG ?_;refine cw (λf ah=>∃ (r n e:Nat),((e≠0/\iY (s.drop a) (i,et)=.inr (e,[],0))\/(e=0/\e7 r=true/\1<=n/\a+i+n<=s.length/\(dh r).length<=4/\iY (s.drop a) (i,et)=.inl (i+n,et++dh r)))/\f 8=J r/\f 9=J n/\f 10=J e/\f 0=M s/\f 1=J (a+i)/\f 7=M et/\Cxr w0 ah [] []) ?_ ?_
 ·refine an ?_;refine LQ ?_;refine ag ?_;refine Z (λgY=>?_) (λgY=>?_)
  ·refine ae ?_;refine bo G (bEm s (a+i) _ cR I) Tryz.func350 B B B B B B ?_;intro w G bUz;refine an ?_;refine S B B (av (v:=(J ((bL (s.drop (a+i+1))).2.1))) B B) ?_;refine ab ?_;refine S B B (av (v:=(J ((bL (s.drop (a+i+1))).1))) B B) ?_;refine ab ?_;have WG:((bL (s.drop (a+i+1))).1≠0/\iY (s.drop a) (i,et)=.inr ((bL (s.drop (a+i+1))).1,[],0))\/((bL (s.drop (a+i+1))).1=0/\e7 (bL (s.drop (a+i+1))).2.1=true/\1<=(if (bL (s.drop (a+i+1))).1=0 then (bL (s.drop (a+i+1))).2.2+1 else 0)/\a+i+(if (bL (s.drop (a+i+1))).1=0 then (bL (s.drop (a+i+1))).2.2+1 else 0)<=s.length/\(dh (bL (s.drop (a+i+1))).2.1).length<=4/\iY (s.drop a) (i,et)=.inl (i+(if (bL (s.drop (a+i+1))).1=0 then (bL (s.drop (a+i+1))).2.2+1 else 0),et++dh (bL (s.drop (a+i+1))).2.1)):=by
    rw [Km,O I,O I,U I];by_cases ap:(bL (s.drop (a+i+1))).1=0
    . have cY:=H9 ap
      rw [bC] at cY;rw [U ap,O (λh=>h ap)];exact .inr ⟨ap,cY.1,I,I,MW _,by rw [mU i,Nat.add_comm 1]⟩
    . rw [U ap]
      exact .inl ⟨ap,B⟩
   exact ⟨_,B,(bL (s.drop (a+i+1))).2.1,(if (bL (s.drop (a+i+1))).1=0 then (bL (s.drop (a+i+1))).2.2+1 else 0),(bL (s.drop (a+i+1))).1,WG,aJ,aJ,aJ,aB,aK,aS,G⟩
  refine an ?_;refine bG G (bCa (bs s) (a+i) _ vC vC) Tryz.func152 B B B B B B ?_;intro cBp w G aQ1 NX;obtain ⟨PG,NX,Jm⟩:=NX;rw [xN] at NX Jm;rw [tp] at Jm;subst NX;refine ae ?_;refine S B B (av (v:=(J PG)) B B) ?_;refine S B B (av (v:=(J (dB (s.drop (a+i))))) B B) ?_;refine ae ?_;have bt:s.drop (a+i)≠[]:=by intro e;have:=aD eC e;rw [bC] at this;simp only [dC] at this;omega
  have hw:=us bt;rw [bC] at hw;have u4:dB (s.drop (a+i))≠0->(PG<32↔(s.getD (a+i) 0).toNat<32):=λh=>by
   have:=bI6 (Jm h).1 (Jm h).2;rw [sn _ _ _ I,du,gb] at this;exact this
  refine aG ?_;refine Z (λgq=>?_) (λgq=>?_)
  ·refine ae ?_;have Ep:(s.getD (a+i) 0).toNat<32\/dB (s.drop (a+i))=0:=by
    rcases tg (dB (s.drop (a+i))) with ap | ap
    ·exact .inr ap
    ·left;have:=u4 I;omega
   exact ⟨_,B,PG,dB (s.drop (a+i)),5,(.inl ⟨by decide,by rw [Km,O I,O I,O I,U Ep]⟩),aJ,aJ,aJ,aB,aK,aS,G⟩
  refine ab ?_;have vv:dB (s.drop (a+i))≠0:=I;obtain ⟨dj,ds⟩:=Jm vv;have hb:=u4 vv;exact ⟨_,B,PG,dB (s.drop (a+i)),0,(.inr ⟨B,dj,I,I,MW _,by rw [Km,O I,O I,O I,O I,ds];rfl⟩),aJ,aJ,aJ,aB,aK,aS,G⟩
 intro f w ai;obtain ⟨r,n,e,ck,bb,b6,cp,aB,aK,aS,G⟩:=ai;refine az ?_;refine Z (λwX=>?_) (λwX=>?_)
 ·have WH:iY (s.drop a) (i,et)=.inr (e,[],0):=by
   rcases ck with ⟨_,h⟩ | ⟨h,_⟩
   ·exact h
   ·omega
  refine aq ?_;refine S B B (av (v:=(J e)) B B) ?_;refine ag ?_;refine sP Tryz.results273 B B B ?_;exact ⟨G.ext,e,0,[],by rw [O (by omega:¬ e=0)];rfl,aw _ (.done (show fs _ _ _ from WH))⟩
 obtain ⟨iU,dj,rE,nk,cMn,bUa⟩:e=0/\e7 r=true/\1<=n/\a+i+n<=s.length/\(dh r).length<=4/\iY (s.drop a) (i,et)=.inl (i+n,et++dh r):=by
  rcases ck with ⟨h,_⟩ | h
  ·omega
  ·exact h
 refine an ?_;refine bG G (Tg r _ (bGr dj)) Tryz.func212 B B B B B B ?_;intro aUq w G Jy tT;rw [U dj] at tT;subst tT;refine ae ?_;refine S B B (av (v:=(M (dh r))) B B) ?_;refine S B B (av (v:=.int .i64 (0)) B B) ?_;refine aq ?_;refine S B B (iJ (a:=et) (b:=dh r) B B B I) ?_;refine S B B (av (v:=(M (et++(dh r)))) B B) ?_;refine aq ?_;refine S B B (av (v:=(J (a+i+n))) B B) ?_;refine ab ?_;exact ⟨_,_,I,B,i+n,et++dh r,B,I,I,by rw [aQ];omega,λr h=>aw r (.more (show fs _ _ _ from bUa) h),aJ,B,aB,G⟩
theorem bDr (s:List UInt8)(a:Nat)(w0:World)(hs:s.length<=1000000)(a6:a<s.length):Fc W 284 [M s,J a] w0 (λv _=>∃ e m:Nat,v=.tuple #[J ((if e=0 then a+m else 0)),J e]/\Com (s.drop a) (e,m)):=by
 refine aI Tryz.func284 B Tryz.ntmps284 B ?_;have G:=Ctx.start w0;refine kD ?_;refine Z (λgK=>?_) (λgK=>?_)
 ·refine az ?_;refine Av ?_;exact ⟨G.ext,4,0,B,bG2 I⟩
 have Ek:¬ s.length<=a+1:=I;refine aG ?_;refine G1 ?_;refine an ?_;refine r3 ?_;refine Sb ?_;refine ae ?_;refine Z (λlV=>?_) (λlV=>?_)
 ·have bMw:(s.getD (a+1) 0).toNat≠47/\(s.getD (a+1) 0).toNat≠42:=I;refine az ?_;refine Av ?_;exact ⟨G.ext,3,0,B,bG3 Ek bMw⟩
 have Ir:¬ ((s.getD (a+1) 0).toNat≠47/\(s.getD (a+1) 0).toNat≠42):=I;refine az ?_;refine G1 ?_;refine aG ?_;refine S B B (av (v:=(J (a+2))) B B) ?_;refine ae ?_;refine bu (λg f ah=>∃ (i:Nat),g=s.length-(a+i)/\(a+i<=s.length)/\(2<=i)/\(∀ r,Lp (fs (mh (s.drop a))) i r->Lp (fs (mh (s.drop a))) 2 r)/\f 7=J (a+i)/\f 6=.bool ((((s.getD (a+1) 0).toNat:Nat):Int)==((42:Nat):Int))/\f 0=M s/\Cxr w0 ah [] []) ((λ(i:Nat)=>s.length-(a+i)) 2) ?_ ?_
 ·exact ⟨2,B,I,bV _,λr h=>h,aJ,B,B,G⟩
 intro qi f w ai;obtain ⟨i,IN,hi,rz,aw,aS,aL,aB,G⟩:=ai;refine bz ?_;refine Z (λBm=>?_) (λBm=>?_)
 ·refine cK ?_;refine LU ?_;refine an ?_;refine r3 ?_;refine aG ?_;refine r3 ?_;refine aFe ?_;refine ae ?_;refine Z (λjq=>?_) (λjq=>?_)
  ·have cKy:(s.getD (a+1) 0).toNat=42:=I;refine an ?_;refine S B B (av (v:=(J (a+i+2))) B B) ?_;refine ae ?_;refine Av ?_;exact ⟨G.ext,0,i+2,B,HK Ek Ir (aw _ (.done (by unfold fs;rw [D2,O I,O I,U I])))⟩
  have jc:id (¬ ((s.getD (a+1) 0).toNat=42/\(s.getD (a+i) 0).toNat=42/\a+i+1<s.length/\(s.getD (a+i+1) 0).toNat=47)):=by show ¬ _;omega
  clear jq
  refine cK ?_;refine LU ?_;refine an ?_;refine aFf ?_;refine ae ?_;refine r3 ?_;refine aG ?_;refine r3 ?_;refine aFe ?_;refine aq ?_;refine Z (λtI=>?_) (λtI=>?_)
  ·have Nj:id ((s.getD (a+1) 0).toNat=47/\((s.getD (a+i) 0).toNat=10\/((s.getD (a+i) 0).toNat=13/\a+i+1<s.length/\(s.getD (a+i+1) 0).toNat=10))):=by show _/\_;omega
   clear tI
   refine ae ?_;refine LV ?_;refine ae ?_;refine Av ?_;exact ⟨G.ext,0,i,B,HK Ek Ir (aw _ (.done (by unfold fs;rw [D2,O I,U (show _/\_ from Nj)])))⟩
  have Nj:id (¬ ((s.getD (a+1) 0).toNat=47/\((s.getD (a+i) 0).toNat=10\/((s.getD (a+i) 0).toNat=13/\a+i+1<s.length/\(s.getD (a+i+1) 0).toNat=10)))):=by show ¬ _;omega
  clear tI
  refine aq ?_;refine bG G (Ta (bs s) (a+i) _ vC vC) Tryz.func152 B B B B B B ?_;intro cTb w G bVg N1;obtain ⟨cTi,N1⟩:=N1;rw [xN] at N1;subst N1;refine an ?_;refine S B B (av (v:=(J (dB (s.drop (a+i))))) B B) ?_;refine an ?_;have bt:s.drop (a+i)≠[]:=by intro e;have:=aD eC e;rw [bC] at this;simp only [dC] at this;omega
  have hw:=us bt;rw [bC] at hw;refine ae ?_;refine Z (λw1=>?_) (λw1=>?_)
  ·refine az ?_;refine Av ?_;exact ⟨G.ext,5,0,B,HK Ek Ir (aw _ (.done (by unfold fs;rw [D2,O I,O (show ¬ _ from Nj),O (show ¬ _ from jc),U I])))⟩
  refine aq ?_;refine S B B (av (v:=(J (a+i+(dB (s.drop (a+i)))))) B B) ?_;refine ab ?_;exact ⟨_,_,I,B,i+dB (s.drop (a+i)),B,I,I,λr h=>aw r (.more (by unfold fs;rw [D2,O I,O (show ¬ _ from Nj),O (show ¬ _ from jc),O I]) h),aJ,aL,aB,G⟩
 refine az ?_;refine Z (λbN6=>?_) (λbN6=>?_)
 ·refine az ?_;refine Av ?_;exact ⟨G.ext,4,0,B,HK Ek Ir (aw _ (.done (by unfold fs;rw [D2,U I,U I])))⟩
 refine an ?_;refine LV ?_;refine ae ?_;refine Av ?_;exact ⟨G.ext,0,i,B,HK Ek Ir (aw _ (.done (by unfold fs;rw [D2,U I,O I])))⟩
theorem bCt (s:List UInt8)(a:Nat)(w0:World)(hs:s.length<=1000000)(a6:a<s.length):Fc W 202 [M s,J a] w0 (λv _=>∃ e k n l1 jS:Nat,v=.tuple #[J l1,J jS,J e]/\Lex (s.drop a) e k n/\(e=0->l1=k/\jS=a+n)):=by
 refine aI Tryz.func202 B Tryz.ntmps202 B ?_;have g0:(s.drop a).getD 0 0=s.getD a 0:=by rw [du,gb]
 have g1:(s.drop a).getD 1 0=s.getD (a+1) 0:=du _ _ _;have kW:(s.drop a).length=s.length-a:=bC;have G:=Ctx.start w0;refine cF ?_;refine Se ?_;refine S B B (av (v:=.int .u8 (((s.getD a 0).toNat:Nat):Int)) B B) ?_;refine kf ?_;refine Z (λjJ=>?_) (λjJ=>?_)
 ·have UL:ja (s.getD a 0):=by unfold ja;omega
  refine ag ?_;refine bu (λg f ah=>∃ (i:Nat),g=s.length-(a+i)/\(a+i<=s.length)/\(∀ j,j<i->ja (s.getD (a+j) 0))/\f 1=J (a+i)/\f 0=M s/\f 4=J 0/\f 5=J 0/\f 6=J 0/\f 7=.int .u8 (((s.getD a 0).toNat:Nat):Int)/\Cxr w0 ah [] []) ((λ(i:Nat)=>s.length-(a+i)) 0) ?_ ?_
  ·exact aCf
  intro gJ f w ai;obtain ⟨i,qp,hi,hb,aK,aB,aM,bF,aL,aS,G⟩:=ai;refine cF ?_;refine LU ?_;refine an ?_;refine aFf ?_;refine an ?_;refine Z (λoR=>?_) (λoR=>?_)
  ·refine aq ?_;refine LS ?_;refine ab ?_;exact ⟨_,_,I,B,i+1,B,I,λj ax=>by by_cases e:j=i;(subst e;unfold ja;omega);exact hb j I,aJ,aB,aM,bF,aL,aS,G⟩
  have hp:pre ja (s.drop a)=i:=ob ja (s.drop a) i I (λj ax=>by rw [du];exact hb j ax) (by
   by_cases h:a+i=s.length
   ·exact .inl I
   ·exact .inr (by rw [du];unfold ja;omega))
  refine aq ?_;refine LV ?_;refine ae ?_;refine r5 ?_;exact ⟨G.ext,0,1,i,1,_,B,by unfold Lex;rw [g0,U UL];exact ⟨B,B,hp.symm⟩,λ_=>⟨B,B⟩⟩
 refine az ?_;refine Z (λgq=>?_) (λgq=>?_)
 ·refine aq ?_;refine Sa ?_;refine ae ?_;refine r5 ?_;exact ⟨G.ext,0,2,1,2,(a+1),B,by unfold Lex;rw [O sL,U gk];exact ⟨B,B,B⟩,by exact λ_=>⟨B,B⟩⟩
 refine az ?_;refine r3 ?_;refine aG ?_;refine r3 ?_;refine Sb ?_;refine an ?_;refine Z (λBn=>?_) (λBn=>?_)
 ·refine aq ?_;refine S B B (av (v:=(J (a+2))) B B) ?_;refine ae ?_;refine r5 ?_;exact ⟨G.ext,0,2,2,2,(a+2),B,by unfold Lex;rw [O sL,O gk,U gk,O I,U (by rw [g1];omega)];exact ⟨B,B,B⟩,by exact λ_=>⟨B,B⟩⟩
 refine az ?_;refine r3 ?_;refine az ?_;refine Z (λNB=>?_) (λNB=>?_)
 ·refine aG ?_;refine r5 ?_;exact ⟨G.ext,4,0,0,0,0,B,by unfold Lex;rw [O sL,O gk,U gk,U I];exact ⟨B,B,B⟩,by exact λh=>by cases h⟩
 refine az ?_;refine Z (λtH=>?_) (λtH=>?_)
 ·refine an ?_;refine bG G (bDr s a _ cR I) Tryz.func284 B B B B B B ?_;intro cS7 w G bVc bSr;obtain ⟨A1,O7,rfl,bTe⟩:=bSr;refine ae ?_;refine aFg ?_;refine S B B (av (v:=(J A1)) B B) ?_;refine az ?_;refine aFg ?_;refine S B B (av (v:=(J A1)) B B) ?_;refine ag ?_;refine r5 ?_;exact ⟨G.ext,A1,(if A1=0 then 3 else 0),(if A1=0 then O7 else 0),3,(if A1=0 then (a+O7) else 0),B,by unfold Lex;rw [O sL,O gk,O gk,U gk];exact ⟨O7,bTe,B,B⟩,by intro h;rw [U h,U h,U h];exact ⟨B,B⟩⟩
 refine aY7 ?_;refine Z (λbOp=>?_) (λbOp=>?_)
 ·refine aq ?_;refine Sa ?_;refine ae ?_;refine r5 ?_;exact ⟨G.ext,0,4,1,4,(a+1),B,by unfold Lex;rw [O sL,O gk,O gk,O gk,U Cr];exact ⟨B,B,B⟩,by exact λ_=>⟨B,B⟩⟩
 refine az ?_;refine Z (λbOd=>?_) (λbOd=>?_)
 ·refine an ?_;refine bG G (Tk s a _ cR I) Tryz.func273 B B B B B B ?_;intro cSm w G bUw bR5;obtain ⟨AZ,O5,aTi,rfl,bS4⟩:=bR5;refine an ?_;refine S B B (av (v:=(M aTi)) B B) ?_;refine aFh ?_;refine S B B (av (v:=(J AZ)) B B) ?_;refine az ?_;refine aFh ?_;refine S B B (av (v:=(J AZ)) B B) ?_;refine ag ?_;refine r5 ?_;exact ⟨G.ext,AZ,(if AZ=0 then 5 else 0),(if AZ=0 then O5 else 0),5,(if AZ=0 then (a+O5) else 0),B,by unfold Lex;rw [O sL,O gk,O gk,O gk,O Cr,U gk];exact ⟨aTi,O5,bS4,B,B⟩,by intro h;rw [U h,U h,U h];exact ⟨B,B⟩⟩
 refine cF ?_;refine r3 ?_;refine aG ?_;refine r3 ?_;refine Sb ?_;refine an ?_;refine Z (λNx=>?_) (λNx=>?_)
 ·refine aq ?_;refine bG G (Tk s (a+1) _ cR I) Tryz.func273 B B B B B B ?_;intro cSo w G cQn bR7;obtain ⟨A0,O6,aTj,rfl,bS5⟩:=bR7;refine an ?_;refine S B B (av (v:=(M aTj)) B B) ?_;refine aFi ?_;refine S B B (av (v:=(J A0)) B B) ?_;refine az ?_;refine aFi ?_;refine S B B (av (v:=(J A0)) B B) ?_;refine ag ?_;refine r5 ?_;exact ⟨G.ext,A0,(if A0=0 then 5 else 0),(if A0=0 then (O6+1) else 0),5,(if A0=0 then (a+1+O6) else 0),B,by unfold Lex;rw [O sL,O gk,O gk,O gk,O Cr,O gk,U (by rw [g0,g1,kW];omega)];exact ⟨aTj,O6,by rw [fE];exact bS5,B,B⟩,by intro h;rw [U h,U h,U h];exact ⟨B,I⟩⟩
 refine ae ?_;refine bo G (aJe (s.getD a 0) _) Tryz.func285 B B B B B B ?_;intro w G cQp;refine ae ?_;refine Z (λUO=>?_) (λUO=>?_)
 ·have fo:¬ jD (s.getD a 0):=UO;refine aG ?_;refine r5 ?_;by_cases cKx:(s.getD a 0).toNat=13
  ·exact ⟨G.ext,3,0,0,0,0,B,by unfold Lex;rw [O sL,O gk,U gk,O I,O (by rw [g1];omega)];exact ⟨B,B,B⟩,λh=>by cases h⟩
  ·exact ⟨G.ext,3,0,0,0,0,B,by unfold Lex;rw [O sL,O gk,O gk,O gk,O Cr,O gk,O (by rw [g0,g1,kW];omega),O (by rw [g0];exact fo)];exact ⟨B,B,B⟩,by exact λh=>by cases h⟩
 have vv:jD (s.getD a 0):=UO;have EJ:(s.getD a 0).toNat≠13:=by intro h;unfold jD jR bf at vv;omega
 have Ux:id (¬ (((s.getD a 0).toNat=116\/(s.getD a 0).toNat=98)/\1<s.length-a/\(s.getD (a+1) 0).toNat=34)):=by show ¬ _;omega
 clear Bn NB Nx
 refine an ?_;refine S B B (av (v:=(J a)) B B) ?_;refine ae ?_;refine bu (λg f ah=>∃ (i:Nat),g=s.length-(a+i)/\(a+i<=s.length)/\(∀ j,j<i->jD (s.getD (a+j) 0))/\f 16=J (a+i)/\f 0=M s/\f 1=J a/\f 4=J 0/\f 5=J 0/\f 6=J 0/\Cxr w0 ah [] []) ((λ(i:Nat)=>s.length-(a+i)) 0) ?_ ?_
 ·exact aCf
 intro cKv f w ai;obtain ⟨i,cMv,hi,hb,jf,aB,aK,aM,bF,aL,G⟩:=ai;refine cF ?_;refine LU ?_;refine hg G B B B aO (λhc=>aJe (s.getD (a+i) 0) _) Tryz.func285 B B B (λhc=>(aX ay B)) ?_;intro w G cQq;refine ag ?_;refine Z (λUP=>?_) (λUP=>?_)
 ·refine aq ?_;refine LS ?_;refine ab ?_;exact ⟨_,_,I,B,i+1,B,I,λj ax=>by by_cases e:j=i;(subst e;exact UP.2);exact hb j I,aJ,aB,aK,aM,bF,aL,G⟩
 have hp:pre jD (s.drop a)=i:=ob jD (s.drop a) i I (λj ax=>by rw [du];exact hb j ax) (by
  rcases UP with h | h
  ·exact .inl I
  ·exact .inr (by rw [du];exact h))
 have j5:(s.drop a).take (pre jD (s.drop a))=sub s a i:=by rw [hp];rfl
 have k0:(sub s a i).length=i:=qN I;refine az ?_;refine S B B (ur (s:=s) (i:=a) (n:=i) B B B B aF I) ?_;refine bG G (S9 (sub s a i) _ cR) Tryz.func133 B B B B B B ?_;intro cSp w G cQr bR8;obtain ⟨cJu,rfl,aNm⟩:=bR8;refine oC ?_;refine aN B B B a8 (λhc=>ur (s:=s) (i:=a) (n:=i) B ay ay ay aF eJ) ?_;refine hg G B B B a8 (λhc=>aJf (sub s a i) _ cR) Tryz.func286 B B B (λhc=>(aX ay B)) ?_;intro w G cQs;refine ae ?_;refine Z (λNz=>?_) (λNz=>?_)
 ·refine an ?_;refine LV ?_;refine ae ?_;refine r5 ?_;have JD:gB (s.drop a)=(0,i):=by unfold gB;rw [j5,U Nz,hp]
  exact ⟨G.ext,0,6,i,6,(a+i),B,by unfold Lex;rw [O sL,O gk,O gk,O gk,O Cr,O gk,O (show ¬ _ by rw [g0,g1,kW];exact Ux),U (by rw [g0];exact vv)];rw [JD];exact ⟨B,B,B⟩,by exact λ_=>⟨B,B⟩⟩
 have NP:¬ (numb (sub s a i)\/isBare (sub s a i)):=λh=>by rcases h with h | h;exact Nz.1 h;exact Nz.2 h
 refine gp ?_;refine Z (λUQ=>?_) (λUQ=>?_)
 ·have bMu:begs (sub s a i):=by have:=aNm (λh=>NP (.inl h));rw [UQ.2] at this;exact of_decide_eq_true this.symm
  refine aG ?_;refine r5 ?_;have JD:gB (s.drop a)=(4,0):=by unfold gB;rw [j5,O NP,U ⟨by rw [hp,kW];omega,bMu⟩]
  exact ⟨G.ext,4,0,0,0,0,B,by unfold Lex;rw [O sL,O gk,O gk,O gk,O Cr,O gk,O (show ¬ _ by rw [g0,g1,kW];exact Ux),U (by rw [g0];exact vv)];rw [JD];exact ⟨B,B,B⟩,by exact λh=>by cases h⟩
 have bRj:¬ (a+i=s.length/\begs (sub s a i)):=λh=>by
  rcases UQ with h2 | h2
  ·omega
  ·have:=aNm (λh=>NP (.inl h));rw [h2,decide_eq_true h.2] at this;cases this
 refine bz ?_;refine r5 ?_;have JD:gB (s.drop a)=(3,0):=by unfold gB;rw [j5,O NP,O (λh=>bRj ⟨by have:=h.1;rw [hp,kW] at this;omega,h.2⟩)]
 exact ⟨G.ext,3,0,0,0,0,B,by unfold Lex;rw [O sL,O gk,O gk,O gk,O Cr,O gk,O (show ¬ _ by rw [g0,g1,kW];exact Ux),U (by rw [g0];exact vv)];rw [JD];exact ⟨B,B,B⟩,by exact λh=>by cases h⟩
theorem bBr (s:List UInt8)(a:Nat)(w0:World)(hs:s.length<=1000000)(a6:a<s.length):Fc W 131 [M s,J a] w0 (λv _=>∃ (e k n eP:Nat) (tt:List UInt8) (cI:Nat),v=.tuple #[.agg #[J eP,M tt,J cI],J e]/\(e=0->eP=k/\tt=sub s a n/\cI=a)/\Lex (s.drop a) e k n):=by
 refine aI Tryz.func131 B Tryz.ntmps131 B ?_;have G:=Ctx.start w0;refine ag ?_;refine ov ?_;intro bp w G gW gN;refine kD ?_;refine Z (λc8=>?_) (λc8=>?_)
 ·exfalso;omega
 refine cK ?_;refine Z (λdG=>?_) (λdG=>?_)
 ·exfalso;omega
 have kW:(s.drop a).length=s.length-a:=bC;refine aq ?_;refine bG G (bCt s a _ cR I) Tryz.func202 B B B B B B ?_;intro cBk w G E8 V3;obtain ⟨MS,bWs,Pa,OQ,bX9,rfl,Xg,bQg⟩:=V3;refine an ?_;refine S B B (av (v:=(J OQ)) B B) ?_;refine S B B (av (v:=(J bX9)) B B) ?_;refine S B B (av (v:=(J MS)) B B) ?_;refine aG ?_;refine Z (λfJ=>?_) (λfJ=>?_)
 ·refine ag ?_;refine GJ ?_;refine ab ?_;refine pY ?_;intro w G iD;refine S B B (av (v:=(J MS)) B B) ?_;refine ag ?_;refine aFj ?_;exact ⟨G.ext,MS,bWs,Pa,0,[],0,B,(λh=>absurd h I),Xg⟩
 have e0:MS=0:=I;obtain ⟨eI,fy⟩:=bQg e0;subst e0 eI fy;have lG:=(Xg.len (by intro e;rw [e] at kW;simp only [dC] at kW;omega)).2.1;refine aG ?_;refine S B B (pb (s:=s) (i:=a) (j:=(a+Pa)) B B B B aF I I) ?_;refine ab ?_;refine S B B (cd (qs:=[(0,(J OQ)),(1,(M (sub s a ((a+Pa)-a)))),(2,(J a))]) (aH7 _ _ _) B B) ?_;refine pY ?_;intro w G qy;refine ae ?_;refine aFj ?_;exact ⟨G.ext,0,OQ,Pa,OQ,_,a,B,(λ_=>⟨B,by rw [Nat.add_sub_cancel_left],B⟩),Xg⟩
theorem Td (s:List UInt8)(w0:World)(hs:s.length<=1000000):Fc W 198 [M s] w0 (λv _=>∃ (e:Nat) (o:List UInt8),v=.tuple #[M o,J e]/\(∀ k m,(s.getD 0 0).toNat=34->Quo s (0,k,m)->m=s.length->e=0/\o=k)/\o.length<=4*s.length):=by
 refine aI Tryz.func198 B Tryz.ntmps198 B ?_;have G:=Ctx.start w0;refine cK ?_;refine Al ?_;refine ab ?_;refine Z (λfm=>?_) (λfm=>?_)
 ·refine az ?_;refine G3 ?_;exact aBj
 have kY:1<=s.length:=gF.2 fm;refine aq ?_;refine Am ?_;refine ag ?_;refine Z (λfW=>?_) (λfW=>?_)
 ·refine az ?_;refine G3 ?_;exact aB2
 have cRr:(0:Nat)<s.length:=kY;refine an ?_;have yU:s.drop 0=s:=mS;refine bG G (Tk s 0 _ cR I) Tryz.func273 B B B B B B ?_;intro aUh w G oX Ja;obtain ⟨yB,bXr,Pm,rfl,pL⟩:=Ja;refine an ?_;refine Ls ?_;refine S B B (av (v:=(J (if yB=0 then 0+bXr else 0))) B B) ?_;refine GL ?_;refine aG ?_;refine Z (λeH=>?_) (λeH=>?_)
 ·refine an ?_;refine GL ?_;refine ag ?_;refine G3 ?_;exact ⟨G.ext,yB,[],B,(λk m eG h hm=>by rw [yU] at pL;cases h.det pL;exact absurd B I),bU _⟩
 refine cK ?_;refine Z (λiS=>?_) (λiS=>?_)
 ·refine az ?_;refine G3 ?_;exact ⟨G.ext,3,[],B,(λk m eG h hm=>by rw [yU] at pL;cases h.det pL;rw [U B] at iS;omega),bU _⟩
 refine an ?_;refine Ls ?_;refine ae ?_;refine G3 ?_;exact ⟨G.ext,0,Pm,B,(λk m eG h hm=>by rw [yU] at pL;cases h.det pL;exact ⟨B,B⟩),(by rw [yU] at pL;have e0:yB=0:=I;rw [e0] at pL;have:=pL.len;omega)⟩
end Go.Proofs.YthiafbkolhnadaaGreatDoor
end
section
namespace Go.Dk
open Go Go.RowKit Go.Lib Go.Proofs.YthiafbkolhnadaaGreatDoor
theorem aVi {P:Program}{fn:Func}{n:Nat}{f:Nat->Value}{w:World}{R:Value->World->Prop}{fC t2 t3 qc uK dM ft b1 b3:Nat}{l af:List Value}{bg:Value}{cr fG:TypeDesc}
  (hr:fn.results=#[.cell fC dM,.tmp t2,.cell t3 ft]) (h1:aW n f (.tmp fC)=.pointer (some ⟨b1,0,none⟩)) (h2:aW n f (.tmp t2)=bg) (Y:aW n f (.tmp t3)=.pointer (some ⟨b3,0,none⟩)) (g1:w.heap[b1]?=some (.cells l.toArray qc)) (g3:w.heap[b3]?=some (.cells af.toArray uK))
  (cS:P.underlying dM=some cr) (lD:(match cr with | .struct _ | .array _ _=>true | _=>false)=true) (hs:(P.info? dM).map (·.size)=some l.length)
  (c0:P.underlying ft=some fG) (tJ:(match fG with | .struct _ | .array _ _=>true | _=>false)=true) (aR:(P.info? ft).map (·.size)=some af.length)
  (h:R (.tuple #[.agg l.toArray,bg,.agg af.toArray]) w):bodyPost P fn (λe w'=>∃ v,e=.returned v/\R v w') .ret (aC n f) w:=by
 refine ⟨B,.tuple #[.agg l.toArray,bg,.agg af.toArray],?_,_,B,h⟩;have bm:(aC n f).tmps.getD fC undef=.pointer (some ⟨b1,0,none⟩):=by rw [<- h1,<- eS];rfl
 have aZ:(aC n f).tmps.getD t2 undef=bg:=by rw [<- h2,<- eS];rfl
 have gg:(aC n f).tmps.getD t3 undef=.pointer (some ⟨b3,0,none⟩):=by rw [<- Y,<- eS];rfl
 have gj:=run_loadVar_row (P:=P) w b1 qc dM l.toArray _ cr g1 cS lD ug;have JT:=run_loadVar_row (P:=P) w b3 uK ft af.toArray _ fG g3 c0 tJ (by simpa using aR);have hm:(results fn (aC n f).tmps).run P w=((asAddr ((aC n f).tmps.getD fC undef)).run P w).andThen λa uu=>((loadVar dM a).run P uu).andThen λv uv=>((asAddr ((aC n f).tmps.getD t3 undef)).run P uv).andThen λa3 CR=>((loadVar ft a3).run P CR).andThen λv3 CS=>.ok (.tuple #[v,(aC n f).tmps.getD t2 undef,v3]) CS:=by
  exact Gd
 rw [hm,bm,aZ,gg];simp [asAddr,gj,JT,Result.andThen]
theorem Ko {P:Program}{fn:Func}{n:Nat}{f:Nat->Value}{w:World}{R:Value->World->Prop}{fC t3 qc uK dM ft b1 b3:Nat}{l af:List Value}{cr fG:TypeDesc}
  (hr:fn.results=#[.cell fC dM,.cell t3 ft]) (h1:aW n f (.tmp fC)=.pointer (some ⟨b1,0,none⟩)) (Y:aW n f (.tmp t3)=.pointer (some ⟨b3,0,none⟩)) (g1:w.heap[b1]?=some (.cells l.toArray qc)) (g3:w.heap[b3]?=some (.cells af.toArray uK))
  (cS:P.underlying dM=some cr) (lD:(match cr with | .struct _ | .array _ _=>true | _=>false)=true) (hs:(P.info? dM).map (·.size)=some l.length)
  (c0:P.underlying ft=some fG) (tJ:(match fG with | .struct _ | .array _ _=>true | _=>false)=true) (aR:(P.info? ft).map (·.size)=some af.length)
  (h:R (.tuple #[.agg l.toArray,.agg af.toArray]) w):bodyPost P fn (λe w'=>∃ v,e=.returned v/\R v w') .ret (aC n f) w:=by
 refine ⟨B,.tuple #[.agg l.toArray,.agg af.toArray],?_,_,B,h⟩;have bm:(aC n f).tmps.getD fC undef=.pointer (some ⟨b1,0,none⟩):=by rw [<- h1,<- eS];rfl
 have gg:(aC n f).tmps.getD t3 undef=.pointer (some ⟨b3,0,none⟩):=by rw [<- Y,<- eS];rfl
 have gj:=run_loadVar_row (P:=P) w b1 qc dM l.toArray _ cr g1 cS lD ug;have JT:=run_loadVar_row (P:=P) w b3 uK ft af.toArray _ fG g3 c0 tJ (by simpa using aR);have hm:(results fn (aC n f).tmps).run P w=((asAddr ((aC n f).tmps.getD fC undef)).run P w).andThen λa uu=>((loadVar dM a).run P uu).andThen λv uv=>((asAddr ((aC n f).tmps.getD t3 undef)).run P uv).andThen λa3 CR=>((loadVar ft a3).run P CR).andThen λv3 CS=>.ok (.tuple #[v,v3]) CS:=by
  exact Gd
 rw [hm,bm,gg];simp [asAddr,gj,JT,Result.andThen]
end Go.Dk
end
section
namespace Go.Proofs.YthiafbkolhnadaaGreatDoor
open Go Go.Dk Go.RowKit Go.Lib
attribute [local irreducible] Go.wpList Go.Code.wp Go.bodyPost Go.wpStill Go.wpQuiet
variable {s:List UInt8}{q k n:Nat}
def sU (k:Nat)(t:List UInt8)(a:Nat):Value:=.agg #[J k,M t,J a]
theorem cFp{e:Nat}(aw:q<s.length)(hx:Lex (s.drop q) e k n)(ap:e≠0)(ar:e≠4):kz s q (.inr (e,q,0,0)):=by
 unfold kz;rw [O I];exact ⟨e,k,n,hx,by rw [U ap,O ar]⟩
theorem cFn(aw:q<s.length)(hx:Lex (s.drop q) 4 k n):kz s q (.inr (4,s.length,0,0)):=by
 unfold kz;rw [O I];exact ⟨4,k,n,hx,by rw [U (by decide),U B]⟩
theorem cFr(aw:q<s.length)(hx:Lex (s.drop q) 0 k n)(hk:k<=3):kz s q (.inl (q+n)):=by
 unfold kz;rw [O I];exact ⟨0,k,n,hx,by rw [O (λh=>h B),U hk]⟩
theorem cFq(aw:q<s.length)(hx:Lex (s.drop q) 0 k n)(hk:¬ k<=3):kz s q (.inr (0,q,k,n)):=by
 unfold kz;rw [O I];exact ⟨0,k,n,hx,by rw [O (λh=>h B),O hk]⟩
theorem cFs(aw:s.length<=q):kz s q (.inr (0,s.length,0,0)):=by
 unfold kz;rw [U aw]
def aY0 (s:List UInt8)(D N:Nat)(af aj ak:Int)(p nodes off err:Nat)(v:Value):Prop :=
 (err≠0/\v=.tuple #[.agg (hI s D N af aj ak p nodes off err).toArray,M [],sU 0 [] s.length]) \/
 (err=0/\∃ a k n,Tok s p (0,a,k,n)/\v=.tuple #[.agg (hI s D N af aj ak (a+n) nodes off 0).toArray,M (sub s p (a-p)),sU k (sub s a n) a]) \/
 (err=0/\∃ e o ch,e≠0/\ch<=s.length/\Tok s p (e,o,0,0)/\v=.tuple #[.agg (hI s D N af aj ak ch nodes o e).toArray,M [],sU 0 [] 0])
theorem bF5 (s:List UInt8)(D N:Nat)(af aj ak:Int)(p nodes off err:Nat)(w0:World)(hs:s.length<=1000000)(hp:p<=s.length):Fc W 77 [.agg (hI s D N af aj ak p nodes off err).toArray] w0 (λv _=>aY0 s D N af aj ak p nodes off err v):=by
 refine aI DM B Tryz.ntmps77 B ?_;have G:=Ctx.start w0;refine ag ?_;refine bE ?_;intro b1 w G er fX;refine wi ?_;intro b2 w G di e3;refine ab ?_;refine ov ?_;intro bp w G gW gN;refine aG ?_;refine bu (λg f ah=>∃ (q:Nat) (lead:List UInt8),g=s.length-q/\(q<=s.length)/\(p<=q)/\(lead=sub s p (q-p))/\(∀ r,Tok s q r->Tok s p r)/\(err=0\/q=p)/\f 5=M lead/\f 1=ao b1 0/\f 2=ao b2 0/\f 4=ao bp 0/\Cxr w0 ah [(bp,aa 150 [J 0,M [],J 0]),(b2,aa 148 [M [],J 0,J 0,J 0,J 0,J 0,J 0,J 0,J 0,J 0]),(b1,aa 148 [M s,J D,J N,.int .i64 (af),.int .i64 (aj),.int .i64 (ak),J q,J nodes,J off,J err])] []) ((λ(q:Nat)=>s.length-q) p) ?_ ?_
 ·exact ⟨p,[],B,hp,bV _,(by rw [Nat.sub_self,vP]),λr h=>h,.inr B,B,B,B,B,G⟩
 intro h8 f w ai;obtain ⟨q,lead,ni,aw,j4,hl,e2,hz,bF,aK,aE,aM,G⟩:=ai;refine oC ?_;refine Z (λhB=>?_) (λhB=>?_)
 ·have iU:err=0:=I;have b8:q<s.length:=I;refine bz ?_;refine bG G (bBr s q _ cR I) Tryz.func131 B B B B B B ?_;intro cBj w G WS V2;obtain ⟨HY,rL,iF,bWx,cTk,cIo,rfl,bQf,qB⟩:=V2;refine ae ?_;refine ov ?_;intro bq w G gX hF;refine pY ?_;intro w G ig;refine S B B (av (v:=(J HY)) B B) ?_;refine aG ?_;refine Z (λjd=>?_) (λjd=>?_)
  ·refine az ?_;refine bo G (wH s D N af aj ak q nodes off err s.length 4 _) wv B B B B B B ?_;intro w G bUz;refine GJ ?_;refine Q2 ?_;intro w G rK;refine ab ?_;refine Q3 ?_;intro w G rK;refine ag ?_;refine Sf ?_;have e4:HY=4:=I;subst e4;subst iU;exact ⟨G.ext,.inr (.inr ⟨B,4,s.length,q,by decide,aw,e2 _ (.done (cFn b8 qB)),B⟩)⟩
  refine aG ?_;refine Z (λpF=>?_) (λpF=>?_)
  ·refine az ?_;refine bo G (wH s D N af aj ak q nodes off err q HY _) wv B B B B B B ?_;intro w G Jx;refine GJ ?_;refine Q2 ?_;intro w G iD;refine ab ?_;refine Q3 ?_;intro w G iD;refine ag ?_;refine Sf ?_;subst iU;exact ⟨G.ext,.inr (.inr ⟨B,HY,q,q,I,aw,e2 _ (.done (cFp b8 qB I I)),B⟩)⟩
  have e0:HY=0:=I;subst e0;obtain ⟨eI,fy,w6⟩:=bQf rfl;subst eI fy;replace w6:=w6.symm;subst w6;have nW:=qB.len (by intro e;have:=aD eC e;rw [bC] at this;simp only [dC] at this;omega);rw [bC] at nW;have k0:(sub s q iF).length=iF:=qN I;have ie:lead.length<=s.length:=by rw [hl];unfold sub;rw [dS,bC];omega
  refine aG ?_;refine S B B (oo (s:=(sub s q iF)) B B aF) ?_;refine S B B ((show (execOp _ _).run W _=.ok (.value (J (q+iF))) _ from (rX B B B I I).trans (by rw [k0];rfl))) ?_;refine ab ?_;refine bR (v:=(J (q+iF))) G 3 B B B B B B B B bN ?_;intro w G qy;refine Ht ?_;refine Z (λnR=>?_) (λnR=>?_)
  ·refine ab ?_;refine ei G (G.pick2 3 0 B B B) mixed [(0,63),(1,64),(2,65)] #[true,true,true,false,false,false] ac ac ac ac ?_;refine lk ?_;refine cW ?_;intro w G W1;refine nD ?_;refine Q2 ?_;intro w G lI;refine G4 ?_;refine qU ?_;refine S B B (av (v:=(M lead)) B B) ?_;refine G4 ?_;refine kb ?_;refine Q3 ?_;intro w G lI;refine l6 ?_;refine Sf ?_;subst hl iU;exact ⟨G.ext,.inr (.inl ⟨B,q,bWx,iF,e2 _ (.done (cFq b8 qB I)),B⟩)⟩
  refine aq ?_;refine S B B (iJ (a:=lead) (b:=sub s q iF) B B B I) ?_;refine S B B (av (v:=(M (lead++(sub s q iF)))) B B) ?_;refine ab ?_;exact ⟨_,_,I,B,q+iF,lead++sub s q iF,B,I,I,(by rw [hl];exact FX j4 B),λr h=>e2 r (.more (cFr b8 qB I) h),.inl iU,B,aK,aE,aM,G.drop 1⟩
 refine ag ?_;refine ei G (G.pick1 2 B) mixed [(0,70),(1,71),(2,72),(3,73),(4,74),(5,75)] #[true,true,true,true,true,true,false,false,false] ac ac ac ac ?_;refine i1 ?_;refine eY ?_;refine bw B (bx B) (λw G=>cd (qs:=[(2,(J s.length))]) (aH8 _) B B) ?_;refine cW ?_;intro w G B1;refine li ?_;refine bn G 1 B B B aE B B gz B B ?_;intro w G n1;refine Di ?_;refine lh ?_;refine S B B (av (v:=(M lead)) B B) ?_;refine Di ?_;refine mP ?_;refine bn G 0 B B B aM B B og B B ?_;intro w G n1;refine l6 ?_;refine aVi Tryz.results77 aE B aM (G.at 1 B) (G.at 0 B) mV B gz Tryz.underlying150 B og ?_;by_cases iU:err=0
 . have bTf:s.length=q:=I
   subst hl iU;exact ⟨G.ext,.inr (.inl ⟨B,s.length,0,0,e2 _ (.done (cFs I)),by rw [bTf,vP];rfl⟩)⟩
 . have Jl:q=p:=I
   exact ⟨G.ext,.inl ⟨iU,by rw [hl,Jl,Nat.sub_self,vP];rfl⟩⟩
theorem bF6 (k:Nat)(x:List UInt8)(a:Nat)(w0:World)(hs:x.length<=1000000):Fc W 78 [sU k x a] w0 (λv _=>∃ b:Bool,v=.bool b/\(b=true↔starts x k)):=by
 unfold sU;refine aI Tryz.func78 B Tryz.ntmps78 B ?_;have G:=Ctx.start w0;refine ag ?_;refine bE ?_;intro b1 w G er fX;refine az ?_;refine bG G (S9 x _ cR) Tryz.func133 B B B B B B ?_;intro Yn w G jg BP;obtain ⟨cJw,rfl,cL7⟩:=BP;refine Ht ?_;refine Z (λe8=>?_) (λe8=>?_)
 ·refine an ?_;refine S B B (ga (s:=x) (u:=[91]) B B B) ?_;refine ae ?_;refine aN B B B a8 (λhc=>ga (s:=x) (u:=[123]) B ay B) ?_;refine an ?_;refine LW ?_;have hk:k=4:=I;refine ow ?_;simp only [hW,decide_eq_true_eq];exact ⟨λh=>.inl ⟨hk,h⟩,λh=>by rcases h with ⟨_,h⟩ | h | ⟨h,_⟩;exact h;omega;omega⟩
 refine aq ?_;refine Z (λjK=>?_) (λjK=>?_)
 ·refine aq ?_;refine LW ?_;exact ⟨G.ext,_,B,λ_=>.inr (.inl I),λ_=>rfl⟩
 refine aq ?_;refine Z (λfI=>?_) (λfI=>?_)
 ·refine az ?_;refine aN B B B a8 (λhc=>ga (s:=x) (u:=[110,117,108,108]) B ay B) ?_;refine an ?_;refine aN B B B a8 (λhc=>ga (s:=x) (u:=[116,114,117,101]) B ay B) ?_;refine an ?_;refine aFk ?_;refine an ?_;refine LW ?_;have hk:k=6:=I;refine ow ?_;simp only [hW,decide_eq_true_eq,or_assoc];exact ⟨λh=>.inr (.inr ⟨hk,h⟩),λh=>by rcases h with ⟨h,_⟩ | h | ⟨_,h⟩;omega;omega;exact h⟩
 refine az ?_;refine LW ?_;refine ⟨G.ext,_,rfl,λh=>(by cases h),λh=>?_⟩;rcases h with ⟨h,_⟩ | h | ⟨h,_⟩ <;> omega
theorem S8 (x:List UInt8)(w0:World)(hs:x.length<=1000000)(hx:x≠[]):Fc W 128 [M x] w0 (λv _=>∃ key:List UInt8,v=M key/\((x.getD 0 0).toNat≠34->key=x)/\(∀ o,(x.getD 0 0).toNat=34->Quo x (0,o,x.length)->key=o)):=by
 refine aI Tryz.func128 B Tryz.ntmps128 B ?_;have G:=Ctx.start w0;refine aG ?_;have kY:0<x.length:=gF.2 hx;refine ab ?_;refine GS ?_;refine ag ?_;refine Z (λiB=>?_) (λiB=>?_)
 ·refine ae ?_;refine GX ?_;refine ag ?_;refine be Tryz.results128 B ?_;exact ⟨G.ext,x,B,λ_=>rfl,λo h _=>absurd h I⟩
 refine an ?_;refine bG G (Td x _ cR) Tryz.func198 B B B B B B ?_;intro aUg w G pN y9;obtain ⟨bIa,XZ,rfl,bUj,cPt⟩:=y9;refine ae ?_;refine S B B (av (v:=(M XZ)) B B) ?_;refine S B B (av (v:=(J bIa)) B B) ?_;refine an ?_;refine S B B (av (v:=(M XZ)) B B) ?_;refine ag ?_;refine be Tryz.results128 B ?_;exact ⟨G.ext,XZ,B,λh=>absurd h I,λo h aw=>(bUj o _ h aw B).2⟩
theorem aIr (x:List UInt8)(w0:World)(hs:x.length<=1000000)(hx:x≠[]):Ret W 127 [M x] w0 (λu w'=>∃ (sc:Sc) (mX:List UInt8) (ix:Option Addr) (qf iy e:Nat) (rs:List Row),u=.tuple #[.agg (vrow sc (.slice ix qf iy) (al) (al)).toArray,J e]/\sc.kind≠6/\sc.kind≠7/\LR rs 5 1 (.slice ix qf iy) mX.length (mX.map bv)/\(∀ k,TkK x k->starts x k->k≠4->ScR cx x e)/\Cxr w0 w' [] rs):=by
 refine aI Tryz.func127 B Tryz.ntmps127 B ?_;have G:=Ctx.start w0;have B7:=gF.2 hx;have kW:(x.drop 1).length=x.length-1:=bC;refine ag ?_;refine fD ?_;intro b2 w G di e3;refine aG ?_;refine aEl ?_;refine ag ?_;refine Z (λc8=>?_) (λc8=>?_)
 ·have hw:Words x:=.inl c8;refine r6 ?_;refine lO ?_;intro w G jh;refine AC ?_;exact aAx
 have fX:¬ x=zX:=c8;refine ae ?_;refine Dc ?_;refine ag ?_;refine aFk ?_;refine ae ?_;refine Z (λct=>?_) (λct=>?_)
 ·have hw:Words x:=.inr ct;refine ae ?_;refine Dc ?_;refine aEn ?_;refine lO ?_;intro w G hG;refine AC ?_;exact aA1
 have e3:¬ (x=wc\/x=wb):=λh=>by
  rcases h with h | h
  ·exact ct.1 h
  ·exact ct.2 h
 have fo:¬ Words x:=λh=>by
  exact uC
 refine ae ?_;refine GS ?_;refine ae ?_;refine Z (λnP=>?_) (λnP=>?_)
 ·refine ae ?_;refine bG G (Td x _ cR) Tryz.func198 B B B B B B ?_;intro cSq w G bU0 bSd;obtain ⟨bId,X1,rfl,aQr,cPw⟩:=bSd;refine ae ?_;refine S B B (av (v:=(M X1)) B B) ?_;refine S B B (av (v:=(J bId)) B B) ?_;refine bz ?_;refine Z (λpH=>?_) (λpH=>?_)
  ·refine r6 ?_;refine lO ?_;intro w G qy;refine AC ?_;exact ⟨⟨0,false,false,ByteArray.empty,0,0,0,0,0,ByteArray.empty⟩,[],none,0,0,10,[],B,(by decide:(0:Int)≠6),(by decide:(0:Int)≠7),.inl ⟨B,B⟩,PU fo I aQr (λ_=>(U I).symm),G.drop 9⟩
  refine an ?_;refine S B B (cd (qs:=[(0,(J 4)),(4,(M X1))]) (aIl _ _) B B) ?_;refine lO ?_;intro w G oY;refine AC ?_;exact ⟨⟨4,false,false,ByteArray.empty,0,0,0,0,0,bs X1⟩,[],none,0,0,0,[],B,(by decide:(4:Int)≠6),(by decide:(4:Int)≠7),.inl ⟨B,B⟩,PU fo I aQr (λ_=>(O I).symm),G.drop 9⟩
 refine ae ?_;refine GS ?_;refine ae ?_;refine Z (λiT=>?_) (λiT=>?_)
 ·refine ae ?_;refine LB ?_;refine aC3 ?_;intro cSu w G bU3 bSg;obtain ⟨bIh,aTm,rfl,aQt,cPx⟩:=bSg;refine ae ?_;refine S B B (av (v:=(M aTm)) B B) ?_;refine S B B (av (v:=(J bIh)) B B) ?_;refine an ?_;refine bG G (aI4 aTm _ I) Tryz.func199 B B B B B B ?_;intro cBs w G aQ4 aPq;obtain ⟨aRz,aX3,aSu,aYa,aK3,rfl,bPc⟩:=aPq;refine ae ?_;refine Ac ?_;intro cP w G lB jg;refine xZ ?_;intro w G n1;refine S B B (av (v:=(J aK3)) B B) ?_;refine aG ?_;refine Z (λrq=>?_) (λrq=>?_)
  ·refine r6 ?_;refine ab ?_;refine wh ?_;intro w G l0;refine S B B (av (v:=(J aK3)) B B) ?_;refine ag ?_;refine LX ?_;exact ⟨⟨0,false,false,ByteArray.empty,0,0,0,0,0,ByteArray.empty⟩,[],none,0,0,_,[],B,(by decide:(0:Int)≠6),(by decide:(0:Int)≠7),.inl ⟨B,B⟩,PV fo I aQt bPc,G.drop 9⟩
  refine an ?_;refine S B B (cd (qs:=[(0,(J 3)),(3,.agg #[.int .i64 (aRz),.int .i64 (aX3),.int .i64 (aSu),.int .i64 (aYa)])]) (aIk _ _ _ _ _) B B) ?_;refine wh ?_;intro w G sF;refine ae ?_;refine LX ?_;exact ⟨⟨3,false,false,ByteArray.empty,0,aRz,aX3,aSu,aYa,ByteArray.empty⟩,[],none,0,0,0,[],B,(by decide:(3:Int)≠6),(by decide:(3:Int)≠7),.inl ⟨B,B⟩,PV fo I aQt I,G.drop 9⟩
 refine ae ?_;refine GS ?_;refine ae ?_;refine Z (λBp=>?_) (λBp=>?_)
 ·refine ae ?_;refine LB ?_;refine aC3 ?_;intro cBx w G W0 Wg;obtain ⟨bIn,aTp,rfl,WL,cP0⟩:=Wg;refine ae ?_;refine S B B (av (v:=(M aTp)) B B) ?_;refine S B B (av (v:=(J bIn)) B B) ?_;refine an ?_;have AV:=G;refine bG G (bCs aTp _ I) Tryz.func200 B B B B B B ?_;intro cS5 w G aQ9 bSp;obtain ⟨cTs,O0,TR,rfl,cz,Nq,aOu⟩:=bSp;replace G:=AV.callRow aQ9 cz;obtain ⟨ix,iy,rfl⟩:=G.rowSl;refine ae ?_;refine S B B (av (v:=.slice ix O0.length iy) B B) ?_;refine S B B (av (v:=(J TR)) B B) ?_;refine aG ?_;refine Z (λtH=>?_) (λtH=>?_)
  ·refine r6 ?_;refine lO ?_;intro w G W6;refine AC ?_;exact ⟨⟨0,false,false,ByteArray.empty,0,0,0,0,0,ByteArray.empty⟩,[],none,0,0,3,_,B,(by decide:(0:Int)≠6),(by decide:(0:Int)≠7),.inl ⟨B,B⟩,FU fo I WL (aH2 (λh=>by have:=Nq.2 h;omega)),G.drop 9⟩
  refine bz ?_;refine Z (λwZ=>?_) (λwZ=>?_)
  ·refine r6 ?_;refine lO ?_;intro w G Fe;refine AC ?_;have ap:TR=0:=I;have hl:=aOu ap;exact ⟨⟨0,false,false,ByteArray.empty,0,0,0,0,0,ByteArray.empty⟩,[],none,0,0,10,_,B,(by decide:(0:Int)≠6),(by decide:(0:Int)≠7),.inl ⟨B,B⟩,FU fo I WL (aH1 (Nq.1 ap) I),G.drop 9⟩
  refine an ?_;refine S B B (cd (qs:=[(0,(J 5)),(5,.slice ix O0.length iy)]) (aIe _ _ _) B B) ?_;refine lO ?_;intro w G W8;refine AC ?_;have ap:TR=0:=I;have hl:=aOu ap;exact ⟨⟨5,false,false,ByteArray.empty,0,0,0,0,0,ByteArray.empty⟩,O0,ix,O0.length,iy,0,_,B,(by decide:(5:Int)≠6),(by decide:(5:Int)≠7),.inr (b9 ..),FU fo I WL (aH0 (Nq.1 ap) I),G.drop 9⟩
 refine an ?_;refine bG G (aI5 x _ I) Tryz.func201 B B B B B B ?_;intro cTa w G cQ0 bSu;obtain ⟨aH4,aKo,aX7,aK7,rfl,aN3⟩:=bSu;refine ae ?_;refine wj ?_;intro yt w G Eo oX;refine s9 ?_;intro w G B4;refine S B B (av (v:=(J aK7)) B B) ?_;refine aG ?_;refine Z (λbOs=>?_) (λbOs=>?_)
 ·refine r6 ?_;refine ab ?_;refine wh ?_;intro w G W9;refine S B B (av (v:=(J aK7)) B B) ?_;refine ag ?_;refine LX ?_;exact ⟨⟨0,false,false,ByteArray.empty,0,0,0,0,0,ByteArray.empty⟩,[],none,0,0,_,[],B,(by decide:(0:Int)≠6),(by decide:(0:Int)≠7),.inl ⟨B,B⟩,PT fo I aN3,G.drop 9⟩
 refine an ?_;refine S B B (cd (qs:=[(0,(J 2)),(2,.agg #[.bool (aH4),M aKo,.int .i64 (aX7)])]) (aIj _ _ _ _) B B) ?_;refine wh ?_;intro w G aRf;refine ae ?_;refine LX ?_;exact ⟨⟨2,false,aH4,bs aKo,aX7,0,0,0,0,ByteArray.empty⟩,[],none,0,0,0,[],B,(by decide:(2:Int)≠6),(by decide:(2:Int)≠7),.inl ⟨B,B⟩,PT fo I (λhn=>by have:=aN3 hn;omega),G.drop 9⟩
def aY1 (s:List UInt8)(D N:Nat)(af aj ak:Int)(p nodes off err:Nat)(v:Value):Prop:=∃ (ch cm bc k n a:Nat) (XG:List UInt8),v=.tuple #[.agg (hI s D N af aj ak ch nodes cm bc).toArray,M XG,sU k (sub s a n) a]/\ch<=s.length/\TkK (sub s a n) k /\
 ((err=0/\bc=0/\cm=off/\Tok s p (0,a,k,n)/\ch=a+n/\XG=sub s p (a-p))\/(bc≠0/\k=0/\n=0/\XG=[]/\((err=0/\Tok s p (bc,cm,0,0))\/(err≠0/\bc=err/\cm=off))))
theorem aWr (s:List UInt8)(a:Nat):TkK (sub s a 0) 0:=⟨λ_=>vP s a,λh=>I,λh=>I,λh=>I,.inl rfl,λh=>absurd rfl h⟩
theorem aWq (s:List UInt8)(a b:Nat):sU 0 [] b=sU 0 (sub s a 0) b:=by rw [vP]
theorem DY (s:List UInt8)(D N:Nat)(af aj ak:Int)(p nodes off err:Nat)(w0:World)(hs:s.length<=1000000)(hp:p<=s.length):Fc W 77 [.agg (hI s D N af aj ak p nodes off err).toArray] w0 (λv _=>aY1 s D N af aj ak p nodes off err v):=by
 refine (bF5 s D N af aj ak p nodes off err w0 hs hp).mono ?_;rintro v w' _ (⟨he,rfl⟩ | ⟨rfl,a,k,n,ht,rfl⟩ | ⟨rfl,e,o,ch,he,ff,ht,rfl⟩)
 ·exact ⟨p,off,err,0,0,s.length,[],by rw [aWq s s.length],hp,aWr _ _,.inr ⟨he,B,B,B,.inr ⟨he,B,B⟩⟩⟩
 ·exact ⟨_,off,0,k,n,a,_,B,(ht.len hp).2.1,vT ht hp,.inl ⟨B,B,B,ht,B,B⟩⟩
 ·exact ⟨ch,o,e,0,0,0,[],by rw [aWq s 0],ff,aWr _ _,.inr ⟨he,B,B,B,.inl ⟨B,ht⟩⟩⟩
theorem JO {x key:List UInt8}(UG:keyT x k)(eN:TkK x k)(h1:(x.getD 0 0).toNat≠34->key=x)(h2:∀ o,(x.getD 0 0).toNat=34->Quo x (0,o,x.length)->key=o):KeyR x key:=by
 unfold KeyR;rcases aR5 UG eN with hb | ⟨eG,o,aw⟩
 ·rw [O (ra hb)];exact h1 (ra hb)
 ·rw [U eG];exact ⟨_,by rw [h2 o eG aw];exact aw⟩
theorem bG0 {x:List UInt8}(h:TkK x k)(hx:x=[58]):k=4:=by
 subst hx;rcases h.kd with rfl | rfl | rfl | rfl
 ·exact absurd (h.z B) (by simp)
 ·rfl
 . exfalso
   rcases h.q rfl with ⟨h1,_⟩ | ⟨_,_,h1,_⟩
   ·exact absurd h1 (by decide)
   ·simp at h1
 . exfalso
   rcases h.w rfl with h1 | h1
   ·exact absurd (Ci h1).2 (by decide)
   ·exact absurd (h1.2 0 (by simp)) (by decide)
theorem bBt (s:List UInt8)(D N:Nat)(af aj ak:Int)(p nodes off:Nat)(dp o:Nat)(w0:World)(hn:nodes<=1000000):Fc W 134 [.agg (hI s D N af aj ak p nodes off 0).toArray,J dp,J o] w0 (λv _=>∃ bQ cm bc:Nat,v=.agg (hI s D N af aj ak p bQ cm bc).toArray /\
  ((bc=0/\cm=off/\bQ=nodes+1/\dp<=D/\nodes<N)\/(bc=9/\cm=o/\bQ=nodes/\D<dp)\/(bc=10/\cm=o/\bQ=nodes/\dp<=D/\N<=nodes))):=by
 refine (bBs s D N af aj ak p nodes off 0 dp o w0 hn).mono ?_;rintro v w' _ rfl;unfold yw;by_cases h1:D<dp
 ·rw [U h1];exact ⟨nodes,o,9,B,.inr (.inl ⟨B,B,B,h1⟩)⟩
 . rw [O h1]
   by_cases h2:N<=nodes
   ·rw [U h2];exact ⟨nodes,o,10,B,.inr (.inr ⟨B,B,B,I,h2⟩)⟩
   ·rw [O h2];exact ⟨nodes+1,off,0,B,.inl ⟨B,B,B,I,I⟩⟩
def Hu (depth:Nat):Prop:=∀ (w0:World) (s:List UInt8) (D N:Nat) (af aj ak:Int) (p nodes off:Nat) (hs:s.length<=1000000) (hp:p<=s.length) (kl:nodes<=N) (dr:N<=65536) (dF:D<=48) (lead:List UInt8) (a k n k5:Nat) (j5:Tok s k5 (0,a,k,n)) (kK:k5<=s.length) (jP:p=a+n) (ck:starts (sub s a n) k),Ret W 80 [.agg (hI s D N af aj ak p nodes off 0).toArray,J depth,M lead,sU k (sub s a n) a] w0 (λv w'=>∃ (ki nd of bB:Nat) (t:T) (cs:List Value) (rs:List Row),v=.tuple #[.agg (hI s D N af aj ak ki nd of bB).toArray,.agg cs.toArray]/\NR rs t cs/\Cxr w0 w' [] rs/\ki<=s.length/\((bB≠0/\Pr cx s D N (.val lead a k n depth nodes) (.err of bB))\/(bB=0/\of=off/\p<=ki/\nd<=N/\Pr cx s D N (.val lead a k n depth nodes) (.val t ki nd))))
def KX (depth:Nat):Prop:=∀ (w0:World) (s:List UInt8) (D N:Nat) (af aj ak:Int) (p nodes off:Nat) (hs:s.length<=1000000) (hp:p<=s.length) (kl:nodes<=N) (dr:N<=65536) (dF:D<=48) (m:Bool) (lead x:List UInt8) (hx:x=[opb m]),Ret W 135 [.agg (hI s D N af aj ak p nodes off 0).toArray,J depth,.agg (nrow (kdm m) lead x (al) []).toArray] w0 (λv w'=>∃ (ki nd of bB:Nat) (t:T) (cs:List Value) (rs:List Row),v=.tuple #[.agg (hI s D N af aj ak ki nd of bB).toArray,.agg cs.toArray]/\NR rs t cs/\Cxr w0 w' [] rs/\ki<=s.length/\((bB≠0/\Pr cx s D N (.ents m depth [] [] p nodes) (.err of bB))\/(bB=0/\of=off/\p<=ki/\nd<=N/\∃ (kids:List T) (tail:List UInt8),t=.mk (kdm m) lead [opb m] kids tail/\Pr cx s D N (.ents m depth [] [] p nodes) (.ents kids tail ki nd))))
theorem bBv (s:List UInt8)(D N:Nat)(af aj ak:Int)(p nodes off err:Nat)(depth:Nat)(m:Bool)(lead x:List UInt8)(he:err≠0)(w0:World):Fc W 135 [.agg (hI s D N af aj ak p nodes off err).toArray,J depth,.agg (nrow (kdm m) lead x (al) []).toArray] w0 (λv _=>v=.tuple #[.agg (hI s D N af aj ak p nodes off err).toArray,.agg (nrow (kdm m) lead x (al) []).toArray]):=by
 unfold nrow;refine aI Tryz.func135 B Tryz.ntmps135 B ?_;have G:=Ctx.start w0;refine ag ?_;refine bE ?_;intro b3 w G eE gr;refine bE ?_;intro bH w G fl fg;refine wi ?_;intro bq w G gX hF;refine dv ?_;intro b7 w G nO iW;refine aq ?_;refine cw (λf ah=>∃ (z:Value),f 8=z/\f 1=J depth/\f 3=ao b3 0/\f 5=ao bH 0/\f 6=ao bq 0/\f 7=ao b7 0/\Cxr w0 ah [(b7,aa 72 [J 0,M [],M [],al,M []]),(bq,aa 148 [M [],J 0,J 0,J 0,J 0,J 0,J 0,J 0,J 0,J 0]),(bH,aa 72 [J (kdm m),M lead,M x,al,M []]),(b3,aa 148 [M s,J D,J N,.int .i64 (af),.int .i64 (aj),.int .i64 (ak),J p,J nodes,J off,J err])] []) ?_ ?_
 ·refine az ?_;refine cn B (λhB=>?_) (λhB=>?_)
  ·refine ae ?_;exact QT
  refine ab ?_;exact QT
 intro f w ai;obtain ⟨z,bb,aK,aR,bF,aL,aS,G⟩:=ai;refine az ?_;refine bu (λg f ah=>∃ (i:Nat),g=i/\f 9=al/\f 1=J depth/\f 3=ao b3 0/\f 5=ao bH 0/\f 6=ao bq 0/\f 7=ao b7 0/\f 8=z/\Cxr w0 ah [(b7,aa 72 [J 0,M [],M [],al,M []]),(bq,aa 148 [M [],J 0,J 0,J 0,J 0,J 0,J 0,J 0,J 0,J 0]),(bH,aa 72 [J (kdm m),M lead,M x,al,M []]),(b3,aa 148 [M s,J D,J N,.int .i64 (af),.int .i64 (aj),.int .i64 (ak),J p,J nodes,J off,J err])] []) ((λ(i:Nat)=>i) 0) ?_ ?_
 ·exact ⟨0,B,B,aK,aR,bF,aL,aS,bb,G⟩
 intro wR f w ai;obtain ⟨i,IM,b6,aK,aR,bF,aL,aS,bb,G⟩:=ai;refine aG ?_;refine cn B (λdG=>?_) (λdG=>?_)
 ·exact absurd (by simpa using dG) he
 refine ag ?_;refine ei G (G.pick2 3 2 B B B) mixed [(0,137),(1,138)] #[true,true,false,false] ac ac ac ac ?_;refine kC ?_;refine cW ?_;intro w G aRd;refine p2 ?_;refine bn G 1 B B B aL B B gz B B ?_;intro w G Fg;refine Gx ?_;refine nD ?_;refine bn G 0 B B B aS B B bA B B ?_;intro w G Fg;refine l6 ?_;refine Ko Tryz.results135 aL aS (G.at 1 B) (G.at 0 B) mV B gz de B bA ?_;exact gC
theorem bJg {aBy:Nat}(depth:Nat)(cc:depth<=aBy->KX depth)(w0:World)(s:List UInt8)(D N:Nat)(af aj ak:Int)(p nodes off:Nat)(hs:s.length<=1000000)(hp:p<=s.length)(dr:N<=65536)(dF:D<=48)(bc:Nat)(m:Bool)(lead x:List UInt8)(hx:x=[opb m])(hz:bc=0->depth<=aBy/\nodes<=N):Ret W 135 [.agg (hI s D N af aj ak p nodes off bc).toArray,J depth,.agg (nrow (kdm m) lead x (al) []).toArray] w0 (λv w'=>∃ (ki nd of bB:Nat) (t:T) (cs:List Value) (rs:List Row),v=.tuple #[.agg (hI s D N af aj ak ki nd of bB).toArray,.agg cs.toArray]/\NR rs t cs/\Cxr w0 w' [] rs/\ki<=s.length/\((bc≠0/\bB=bc/\of=off)\/(bc=0/\((bB≠0/\Pr cx s D N (.ents m depth [] [] p nodes) (.err of bB))\/(bB=0/\of=off/\p<=ki/\nd<=N/\∃ (kids:List T) (tail:List UInt8),t=.mk (kdm m) lead [opb m] kids tail/\Pr cx s D N (.ents m depth [] [] p nodes) (.ents kids tail ki nd)))))):=by
 by_cases ap:bc=0
 . subst ap
   refine (cc (hz B).1 w0 s D N af aj ak p nodes off hs hp (hz B).2 dr dF m lead x hx).mono ?_;rintro v w' ⟨ki,nd,of,bB,t,cs,rs,h1,h2,Y,ar,bd⟩;exact ⟨ki,nd,of,bB,t,cs,rs,h1,h2,Y,ar,.inr ⟨B,bd⟩⟩
 . refine Ret.mono (bBv s D N af aj ak p nodes off bc depth m lead x ap w0) ?_
   rintro v w' ⟨hb,rfl⟩;exact ⟨p,nodes,off,bc,.mk (kdm m) lead x [] [],_,[],B,NR.leaf _ _ _ _ _,(Ctx.start w0).call hb,hp,.inl ⟨ap,B,B⟩⟩
theorem aJw (depth:Nat)(UY:depth<=1000)(cc:depth<=48->KX depth):Hu depth:=by
 unfold Hu;intro w0 s D N af aj ak p nodes off hs hp kl dr dF lead a k n k5 j5 kK jP ck;refine aI Tryz.func80 B Tryz.ntmps80 B ?_;have G:=Ctx.start w0;have eN:=vT j5 kK;have IA:=j5.len kK;have k0:(sub s a n).length=n:=qN IA.2.1;refine ag ?_;refine bE ?_;intro bp w G gW gN;refine bE ?_;intro b7 w G nO iW;refine wi ?_;intro cP w G lB jg;refine dv ?_;intro eZ w G rp tY;refine aG ?_;refine bG G (bBt s D N af aj ak p nodes off depth a _ I) Tryz.func134 B B B B B B ?_;intro Yh w G E6 BM;obtain ⟨bQ,cm,bc,rfl,tE⟩:=BM;refine bn G 3 B B B B B B gz B B ?_;intro w G ko;refine az ?_;refine aEo ?_;refine dv ?_;intro lr w G En xn;refine hX ?_;intro w G jh;refine bz ?_;refine Z (λiS=>?_) (λiS=>?_)
 ·have rC:k≠4:=I;refine cw (λf ah=>∃ (of bB:Nat),((bB≠0/\Pr cx s D N (.val lead a k n depth nodes) (.err of bB))\/(bB=0/\of=off/\bQ=nodes+1/\depth<=D/\nodes<N/\ScR cx (sub s a n) 0))/\f 1=J depth/\f 4=ao bp 0/\f 7=ao b7 0/\f 8=ao cP 0/\f 9=ao eZ 0/\f 10=ao lr 0/\Cxr w0 ah [(lr,aa 72 [J 2,M lead,M (sub s a n),al,M []]),(eZ,aa 72 [J 0,M [],M [],al,M []]),(cP,aa 148 [M [],J 0,J 0,J 0,J 0,J 0,J 0,J 0,J 0,J 0]),(b7,aa 150 [J k,M (sub s a n),J a]),(bp,aa 148 [M s,J D,J N,.int .i64 (af),.int .i64 (aj),.int .i64 (ak),J p,J bQ,J of,J bB])] []) ?_ ?_
  ·refine an ?_;refine bW (aIr (sub s a n) _ I (eN.ne (λh=>cEf (h▸ck)))) Tryz.func127 B B B B B B ?_;rintro KB w ⟨sc,mX,ix,qf,iy,HZ,rs,rfl,Vt,cOf,y2,aQe,cq⟩;replace G:=(G.callRows cq).noR;refine ae ?_;refine fD ?_;intro da w G tD pN;refine bn G 0 B B B B B B c6 B (mM B B B) ?_;intro w G hG;refine S B B (av (v:=(J HZ)) B B) ?_;refine az ?_;refine Z (λje=>?_) (λje=>?_)
   ·refine aq ?_;refine bo G (wH s D N af aj ak p bQ cm bc a HZ _) wv B B B B B B ?_;intro w G Oy;refine bn G 5 B B B B B B gz B B ?_;intro w G jt;refine ab ?_;have ia:(if bc=0 then HZ else bc)≠0/\Pr cx s D N (.val lead a k n depth nodes) (.err (if bc=0 then a else cm) (if bc=0 then HZ else bc)):=by
     rcases tE with ⟨h1,h2,Y,ar,bd⟩ | ⟨h1,h2,Y,ar⟩ | ⟨h1,h2,Y,ar,bd⟩
     ·rw [U h1,U h1];exact ⟨I,.vScE ck ar bd rC (aQe k eN ck rC) I⟩
     ·subst h1 h2;exact ⟨by simp,.vDepth ck ar⟩
     ·subst h1 h2;exact ⟨by simp,.vNodes ck ar bd⟩
    exact ⟨_,B,_,_,.inl ia,B,B,B,B,B,B,G.drop 1⟩
   refine ab ?_;have bPa:HZ=0:=I;have aQb:=aQe k eN ck rC;rw [bPa] at aQb;have ia:(bc≠0/\Pr cx s D N (.val lead a k n depth nodes) (.err cm bc))\/(bc=0/\cm=off/\bQ=nodes+1/\depth<=D/\nodes<N/\ScR cx (sub s a n) 0):=by
    rcases tE with ⟨h1,h2,Y,ar,bd⟩ | ⟨h1,h2,Y,ar⟩ | ⟨h1,h2,Y,ar,bd⟩
    ·exact .inr ⟨h1,h2,Y,ar,bd,aQb⟩
    ·subst h1 h2;exact .inl ⟨by decide,.vDepth ck ar⟩
    ·subst h1 h2;exact .inl ⟨by decide,.vNodes ck ar bd⟩
   exact ⟨_,B,_,_,ia,B,B,B,B,B,B,G.drop 1⟩
  intro f w ai;obtain ⟨of,bB,ia,aK,aM,aS,bb,b6,cp,G⟩:=ai;refine ab ?_;refine ei G (G.pick2 4 0 B B B) mixed [(0,38),(1,39)] #[true,true,false,false] ac ac ac ac ?_;refine kC ?_;refine cW ?_;intro w G JC;refine p2 ?_;refine bn G 2 B B B bb B B gz B B ?_;intro w G iD;refine hK ⟨.inl (G.pick2 4 0 B B B),?_⟩;refine nD ?_;refine bn G 1 B B B b6 B B bA B B ?_;intro w G iD;refine l6 ?_;refine aFl ?_;rcases ia with ⟨h1,h2⟩ | ⟨h1,h2,Y,ar,bd,h6⟩
  ·exact ⟨p,bQ,of,bB,.mk 2 lead (sub s a n) [] [],_,[],B,NR.leaf _ _ _ _ _,G.drop 5,hp,.inl ⟨h1,h2⟩⟩
  ·exact ⟨p,bQ,of,bB,.mk 2 lead (sub s a n) [] [],_,[],B,NR.leaf _ _ _ _ _,G.drop 5,hp,.inr ⟨h1,h2,bV _,I,by rw [Y,jP];exact .vSc ck ar bd rC h6⟩⟩
 have rC:k=4:=I;obtain ⟨m,hm⟩:=cEe (show starts (sub s a n) 4 by rw [<- rC];exact ck);refine an ?_;refine bR (v:=(J 3)) G 0 B B B B B B B B bN ?_;intro w G qy;refine ab ?_;refine cw (λf ah=>f 1=J depth/\f 4=ao bp 0/\f 8=ao cP 0/\f 9=ao eZ 0/\f 10=ao lr 0/\Cxr w0 ah [(lr,aa 72 [J (kdm m),M lead,M (sub s a n),al,M []]),(eZ,aa 72 [J 0,M [],M [],al,M []]),(cP,aa 148 [M [],J 0,J 0,J 0,J 0,J 0,J 0,J 0,J 0,J 0]),(b7,aa 150 [J k,M (sub s a n),J a]),(bp,aa 148 [M s,J D,J N,.int .i64 (af),.int .i64 (aj),.int .i64 (ak),J p,J bQ,J cm,J bc])] []) ?_ ?_
 ·refine an ?_;refine S B B (ga (s:=sub s a n) (u:=[123]) B B B) ?_;refine ab ?_;refine Z (λkV=>?_) (λkV=>?_)
  ·have VK:m=true:=by
    cases m
    ·rw [hm] at kV;exact absurd kV (by decide)
    ·rfl
   subst VK;refine ag ?_;refine bR (v:=(J 4)) G 0 B B B B B B B B bN ?_;intro w G lI;refine ab ?_;exact KZ
  have VK:m=false:=by
   cases m
   ·rfl
   ·exact absurd hm kV
  subst VK;refine ab ?_;exact KZ
 intro f w ai;obtain ⟨aK,aM,bb,b6,cp,G⟩:=ai;refine aq ?_;refine bW (bJg depth cc _ s D N af aj ak p bQ cm hs hp dr dF bc m lead (sub s a n) hm (λh=>I)) Tryz.func135 B B B B B B ?_;rintro cUf w ⟨ki,nd,of,bB,t,cs,rs,rfl,c9,cq,bNp,bPg⟩;replace G:=G.callRows cq;simp only [cH] at G;obtain ⟨cB,n2,n3,rfl⟩:=c9.form G;refine ag ?_;refine bn G 2 B B B bb B B gz B B ?_;intro w G sE;refine bn G 1 B B B b6 B B bA B (lL B) ?_;intro w G sE;refine ag ?_;refine aFl ?_;have Vg:(bB≠0/\Pr cx s D N (.val lead a k n depth nodes) (.err of bB))\/(bB=0/\of=off/\p<=ki/\nd<=N/\Pr cx s D N (.val lead a k n depth nodes) (.val t ki nd)):=by
  subst rC;rcases bPg with ⟨h1,h2,Y⟩ | ⟨h1,⟨h2,Y⟩ | ⟨h2,Y,ar,bd,kids,tail,rfl,h6⟩⟩
  . rcases tE with ⟨g1,_⟩ | ⟨g1,dt,_,g3⟩ | ⟨g1,dt,_,g3,g4⟩
    ·exact absurd g1 h1
    ·subst h2 Y g1 dt;exact .inl ⟨by decide,.vDepth ck g3⟩
    ·subst h2 Y g1 dt;exact .inl ⟨by decide,.vNodes ck g3 g4⟩
  . rcases tE with ⟨_,dt,g3,g4,fe⟩ | ⟨g1,_⟩ | ⟨g1,_⟩
    ·rw [g3,jP] at Y;exact .inl ⟨h2,.vEntsE hm g4 fe Y⟩
    ·omega
    ·omega
  . rcases tE with ⟨_,dt,g3,g4,fe⟩ | ⟨g1,_⟩ | ⟨g1,_⟩
    ·rw [g3,jP] at h6;exact .inr ⟨h2,Y.trans dt,ar,bd,.vEnts hm g4 fe h6⟩
    ·omega
    ·omega
 exact ⟨ki,nd,of,bB,t,_,rs,B,c9,G.drop 5,bNp,Vg⟩
theorem bCu (s:List UInt8)(D N:Nat)(af aj ak:Int)(p nodes off err:Nat)(lead:List UInt8)(a k n:Nat)(keys:List (List UInt8))(ix:Option Addr)(bl iy:Nat)(w0:World)(hs:s.length<=1000000)(hp:p<=s.length)(fy:keys.length<=1000000)(er:0<keys.length->ix=some ⟨bl,0,none⟩)(di:0<keys.length->RowAt w0 bl 0 (keys.map λkey=>((M key):Value)))
 (eN:TkK (sub s a n) k) (bWa:err≠0->k=0) (jP:err=0->p=a+n) (fp:err=0->a+n<=s.length):Ret W 204 [.agg (hI s D N af aj ak p nodes off err).toArray,M lead,sU k (sub s a n) a,.slice ix keys.length iy] w0 (λv w'=>∃ (ki of bB:Nat) (kv:Value) (ks:List T) (css:List (List Value)) (key:List UInt8),v=.tuple #[.agg (hI s D N af aj ak ki nodes of bB).toArray,kv,M key]/\Cxr w0 w' [] [⟨72,5,kv,ks.length,css.flatten⟩]/\NL [] ks css/\ks.length<=2/\ki<=s.length/\((bB≠0/\((err≠0/\bB=err/\of=off)\/(err=0/\KeyP s keys lead a k n true (.inl (of,bB)))))\/(bB=0/\err=0/\of=off/\∃ (a2 k2 n2:Nat),keyT (sub s a n) k/\KeyR (sub s a n) key/\key.length<=1024/\key∉keys/\Tok s (a+n) (0,a2,k2,n2)/\sub s a2 n2=[58]/\ki=a2+n2/\ks=[.mk 6 lead (sub s a n) [] [],.mk 11 (sub s (a+n) (a2-(a+n))) [58] [] []]))):=by
 unfold sU;refine aI Tryz.func204 B Tryz.ntmps204 B ?_;have G:=Ctx.start w0;have B7:(sub s a n).length<=s.length:=vO s a n;have xr:k=5->0<(sub s a n).length:=λh=>gF.2 (eN.ne I)
 refine ag ?_;refine bE ?_;intro bp w G gW gN;refine bE ?_;intro bq w G gX hF;refine wi ?_;intro cP w G lB jg;refine SO ?_;refine hg G B B B aO (λhc=>aJf (sub s a n) _ cR) Tryz.func286 B B B (λhc=>(aX ay B)) ?_;intro w G Ow;refine cF ?_;refine aN B B B aO (λhc=>dm (s:=sub s a n) (i:=0) B (by first | exact fV hc B | exact fV (uN hc) B | exact fV (uN (uN hc)) B) B aF (xr (by simp only [dy] at hc;omega))) ?_;refine an ?_;refine cn B (λoR=>?_) (λoR=>?_)
 ·have lF:¬ keyT (sub s a n) k:=by
   simp only [hW,fS,kP,decide_eq_true_eq,decide_eq_false_iff_not,bne_iff_ne,beq_iff_eq,ne_eq] at oR;rintro (⟨h1,h2⟩ | ⟨h1,h2⟩)
   . rcases oR with (⟨h,_⟩ | ⟨_,h⟩) | ⟨h,_⟩
     ·omega
     ·exact h h2
     ·omega
   . rcases oR with (⟨_,h⟩ | ⟨h,_⟩) | ⟨_,h⟩
     ·omega
     ·omega
     ·omega
  refine an ?_;refine bo G (DZ s D N af aj ak p nodes off err k a (sub s a n) _) DN B B B B B B ?_;intro w G Fa;refine C1 ?_;intro w G jh;refine an ?_;refine mG Tryz.results204 B B B (G.at 0 B) mV B gz ?_;refine ⟨p,_,_,_,[],[],[],B,(G.drop 3).nilRow 72 5,NL.nil [],by decide,hp,.inl ?_⟩;have aP:(unx s a k).2≠0:=by unfold unx;split <;> simp
  by_cases ap:err=0
  ·rw [U ap,U ap];exact ⟨aP,.inr ⟨ap,.noKey lF⟩⟩
  ·rw [O ap,O ap];exact ⟨ap,.inl ⟨ap,B,B⟩⟩
 have jN:keyT (sub s a n) k:=by
  simp only [uB,Bool.and_eq_false_iff,Bool.not_eq_false',decide_eq_true_eq,decide_eq_false_iff_not,bne_eq_false_iff_eq,beq_eq_false_iff_ne,ne_eq] at oR;obtain ⟨⟨h1,h2⟩,Y⟩:=oR;by_cases h6:k=6
  ·exact .inl ⟨h6,h2.resolve_left I⟩
  . have bd:k=5:=I
    exact .inr ⟨bd,I⟩
 have iU:err=0:=nA λh=>by
  have:=bWa h;rcases jN with ⟨h,_⟩ | ⟨h,_⟩ <;> omega
 have N2:=jP iU;have bSw:=fp iU;have kk:k≠0:=by rcases jN with ⟨h,_⟩ | ⟨h,_⟩ <;> omega
 have bVz:(sub s a n)≠[]:=eN.ne kk;refine aq ?_;refine bG G (S8 (sub s a n) _ cR bVz) Tryz.func128 B B B B B B ?_;intro Yl w G OB BN;obtain ⟨kp,rfl,IU,IV⟩:=BN;refine S B B (av (v:=(M kp)) B B) ?_;refine ab ?_;refine cw (λf ah=>∃ (cm bc:Nat),((bc=0/\cm=off/\kp.length<=1024)\/(bc=10/\cm=a/\1024<kp.length))/\f 1=M lead/\f 3=.slice ix keys.length iy/\f 4=ao bp 0/\f 6=ao bq 0/\f 8=ao cP 0/\f 9=al/\f 10=M []/\f 11=M kp/\Cxr w0 ah [(cP,aa 148 [M [],J 0,J 0,J 0,J 0,J 0,J 0,J 0,J 0,J 0]),(bq,aa 150 [J k,M (sub s a n),J a]),(bp,aa 148 [M s,J D,J N,.int .i64 (af),.int .i64 (aj),.int .i64 (ak),J p,J nodes,J cm,J bc])] []) ?_ ?_
 ·refine az ?_;refine Z (λBn=>?_) (λBn=>?_)
  ·refine an ?_;refine bo G (wH s D N af aj ak p nodes off err a 10 _) wv B B B B B B ?_;intro w G aQ4;refine bn G 2 B B B B B B gz B B ?_;intro w G rK;refine ab ?_;exact ⟨_,B,_,_,(.inr ⟨by rw [U iU],by rw [U iU],I⟩),B,B,B,B,B,B,B,B,G⟩
  refine ab ?_;exact ⟨_,B,_,_,(.inl ⟨iU,B,I⟩),B,B,B,B,B,B,B,B,G⟩
 intro f w ai;obtain ⟨cm,bc,ng,aK,aR,aM,aL,bb,b6,cp,cv,G⟩:=ai;refine az ?_;refine bu (λg f ah=>∃ (i fY dW:Nat),g=keys.length-i/\(i<=keys.length)/\((dW=0/\fY=off/\kp.length<=1024/\∀ j,j<i->keys[j]?≠some kp)\/(dW≠0/\KeyP s keys lead a k n true (.inl (fY,dW))))/\f 12=J i/\f 3=.slice ix keys.length iy/\f 1=M lead/\f 4=ao bp 0/\f 6=ao bq 0/\f 8=ao cP 0/\f 9=al/\f 10=M []/\f 11=M kp/\Cxr w0 ah [(cP,aa 148 [M [],J 0,J 0,J 0,J 0,J 0,J 0,J 0,J 0,J 0]),(bq,aa 150 [J k,M (sub s a n),J a]),(bp,aa 148 [M s,J D,J N,.int .i64 (af),.int .i64 (aj),.int .i64 (ak),J p,J nodes,J fY,J dW])] []) ((λ(i:Nat)=>keys.length-i) 0) ?_ ?_
 ·exact ⟨0,_,_,B,bU _,(by
   rcases ng with ⟨h1,h2,Y⟩ | ⟨h1,h2,Y⟩
   ·exact .inl ⟨h1,h2,Y,λj ax=>I⟩
   ·subst h1 h2;exact .inr ⟨by decide,.long jN (JO jN eN IU IV) Y⟩),aJ,aR,aK,aM,aL,bb,b6,cp,cv,G⟩
 intro qi f w ai;obtain ⟨i,fY,dW,IN,hi,kG,cV,aR,aK,aM,aL,bb,b6,cp,cv,G⟩:=ai;refine bz ?_;refine Z (λrq=>?_) (λrq=>?_)
 ·have mq:i<keys.length:=I;obtain ⟨y,hy⟩:∃ y,keys[i]?=some y:=⟨_,bS I⟩;have bV5:(keys.map λkey=>((M key):Value))[i]?=some (M y):=by rw [eF,hy];rfl
  refine ab ?_;refine cw (λf ah=>∃ (e5 ew:Nat),((ew=0/\e5=off/\kp.length<=1024/\∀ j,j<i+1->keys[j]?≠some kp)\/(ew≠0/\KeyP s keys lead a k n true (.inl (e5,ew))))/\f 1=M lead/\f 3=.slice ix keys.length iy/\f 4=ao bp 0/\f 6=ao bq 0/\f 8=ao cP 0/\f 9=al/\f 10=M []/\f 11=M kp/\f 12=J i/\Cxr w0 ah [(cP,aa 148 [M [],J 0,J 0,J 0,J 0,J 0,J 0,J 0,J 0,J 0]),(bq,aa 150 [J k,M (sub s a n),J a]),(bp,aa 148 [M s,J D,J N,.int .i64 (af),.int .i64 (aj),.int .i64 (ak),J p,J nodes,J e5,J ew])] []) ?_ ?_
  ·refine aq ?_;refine S B B (cT mc gA B (show _=Value.slice (some ⟨bl,0,none⟩) keys.length iy by rw [<- er I];rfl) B I I) ?_;refine S B B (br B B aF B (by rw [show 0+dw ((i:Nat):Int)*1=0+i by omega];exact (di I).up G.ext i _ bV5)) ?_;refine ab ?_;refine S B B (ga (s:=y) (u:=kp) B B B) ?_;refine ab ?_;refine Z (λEs=>?_) (λEs=>?_)
   ·refine an ?_;refine bo G (wH s D N af aj ak p nodes fY dW a 8 _) wv B B B B B B ?_;intro w G W0;refine bn G 2 B B B aM B B gz B B ?_;intro w G lI;refine ab ?_;have hR:(if dW=0 then 8 else dW)≠0/\KeyP s keys lead a k n true (.inl (if dW=0 then a else fY,if dW=0 then 8 else dW)):=by
     rcases kG with ⟨h1,h2,Y,ar⟩ | ⟨h1,h2⟩
     . rw [U h1,U h1]
       exact ⟨by decide,.twice jN (JO jN eN IU IV) Y (by rw [<- Es];exact cb hy)⟩
     ·rw [O h1,O h1];exact ⟨h1,h2⟩
    exact ⟨_,B,_,_,.inr hR,aK,aR,aM,aL,bb,b6,cp,cv,cV,G⟩
   refine ab ?_;have hR:(dW=0/\fY=off/\kp.length<=1024/\∀ j,j<i+1->keys[j]?≠some kp)\/(dW≠0/\KeyP s keys lead a k n true (.inl (fY,dW))):=by
    rcases kG with ⟨h1,h2,Y,ar⟩ | h
    . refine .inl ⟨h1,h2,Y,λj ax=>?_⟩
      by_cases e:j=i
      ·subst e;rw [hy];exact λh=>Es (mb h)
      ·exact ar j I
    ·exact .inr h
   exact ⟨_,B,_,_,hR,aK,aR,aM,aL,bb,b6,cp,cv,cV,G⟩
  intro f w ai;obtain ⟨e5,ew,hR,aK,aR,aM,aL,bb,b6,cp,cv,cV,G⟩:=ai;refine ae ?_;refine x8 ?_;exact ⟨_,_,I,B,i+1,_,_,B,I,hR,aJ,aR,aK,aM,aL,bb,b6,cp,cv,G⟩
 refine an ?_;refine bG G (DY s D N af aj ak p nodes fY dW _ hs I) DM B B B B B B ?_;intro cS4 w G bVa aPs;obtain ⟨X9,aTs,aLv,OU,J2,a76,XF,rfl,aPo,bQv,aPf⟩:=aPs;refine an ?_;refine ov ?_;intro yt w G Eo oX;refine bn G 3 B B B aM B B gz B B ?_;intro w G sE;refine S B B (av (v:=(M XF)) B B) ?_;refine pY ?_;intro w G sE;refine az ?_;refine S B B (kO (s:=sub s a76 J2) (u:=[58]) B B B) ?_;refine az ?_;refine cn B (λBs=>?_) (λBs=>?_)
 ·simp only [hW,decide_eq_true_eq,decide_eq_false_iff_not,kP,bne_iff_ne,ne_eq] at Bs;refine an ?_;refine bo G (DZ s D N af aj ak X9 nodes aTs aLv OU a76 (sub s a76 J2) _) DN B B B B B B ?_;intro w G bVe;refine Q4 ?_;intro w G np;refine an ?_;refine aDm ?_;refine ⟨X9,_,_,_,[],[],[],B,(G.drop 4).nilRow 72 5,NL.nil [],by decide,aPo,.inl ?_⟩;have aP:∀ q,(unx s q OU).2≠0:=λq=>by unfold unx;split <;> simp
  rcases aPf with ⟨g1,dt,g3,g4,fe,ly⟩ | ⟨g1,dt,g3,g4,fe⟩
  . rw [U dt,U dt]
    refine ⟨aP _,.inr ⟨iU,?_⟩⟩;obtain ⟨_,Us,Ik,Na⟩:dW=0/\fY=off/\kp.length<=1024/\∀ j,j<i->keys[j]?≠some kp:=by
     rcases kG with h | ⟨h,_⟩
     ·exact h
     ·exact absurd g1 h
    have Ij:kp∉keys:=λhm=>by
     exact Zr
    rw [N2] at g4;refine .noCol jN (JO jN eN IU IV) Ik Ij g4 λh=>?_
    rcases Bs with h2 | h2
    ·exact h2 h
    ·have:=bG0 bQv h;omega
  . rw [O g1,O g1]
    refine ⟨g1,.inr ⟨iU,?_⟩⟩;rcases fe with ⟨fe,ly⟩ | ⟨fe,rfl,rfl⟩
    . obtain ⟨_,Us,Ik,Na⟩:dW=0/\fY=off/\kp.length<=1024/\∀ j,j<i->keys[j]?≠some kp:=by
        rcases kG with h | ⟨h,_⟩
        ·exact h
        ·exact absurd fe h
      have Ij:kp∉keys:=λhm=>by
       exact Zr
      rw [N2] at ly;exact .colE jN (JO jN eN IU IV) Ik Ij ly g1
    . rcases kG with ⟨h,_⟩ | ⟨_,h⟩
      ·exact absurd h fe
      ·exact h
 simp only [uB,decide_eq_true_eq,decide_eq_false_iff_not,Bool.not_eq_false',bne_eq_false_iff_eq,beq_eq_false_iff_ne,ne_eq] at Bs;obtain ⟨jc,cK1⟩:=Bs;obtain ⟨g1,dt,g3,g4,fe,ly⟩:dW=0/\aLv=0/\aTs=fY/\Tok s p (0,a76,OU,J2)/\X9=a76+J2/\XF=sub s p (a76-p):=by
  rcases aPf with h | ⟨_,_,h,_⟩
  ·exact h
  ·rw [h,vP] at jc;exact absurd jc (by decide)
 obtain ⟨_,Us,Ik,Na⟩:dW=0/\fY=off/\kp.length<=1024/\∀ j,j<keys.length->keys[j]?≠some kp:=by
  rcases kG with h | ⟨h,_⟩
  . obtain rfl:i=keys.length:=I
    exact h
  ·exact absurd g1 h
 have Ij:kp∉keys:=λhm=>by
  obtain ⟨j,ax⟩:=jX hm;exact Na j (bT.1 ax).1 ax
 refine ag ?_;refine ei G (G.pick2 3 2 B B B) mixed [(0,91),(1,92),(2,93),(3,94),(4,95),(5,96),(6,97),(8,99)] #[true,true,true,true,true,true,true,false,true,false,false,false] ac ac ac ac ?_;refine i1 ?_;refine bw B (bx B) (λw G=>cd (qs:=[(0,(J 6)),(1,(M lead)),(2,(M (sub s a n)))]) (AQ _ _ _) B B) ?_;refine eY ?_;refine bw B (bx B) (λw G=>cd (qs:=[(0,(J 11)),(1,(M XF)),(2,(M ([58])))]) (AQ _ _ _) B B) ?_;refine eY ?_;refine cW ?_;intro w G Fb;refine fR (i:=7) (j:=9) ac B B ?_ ?_
 ·refine aVt G dx bA z72 B B B B B B B ?_;intro aZ0 w G bN3 bVh;replace G:=G.toRow (size:=5) (k:=2) B (by decide);refine Gx ?_;refine qV ?_;refine Q4 ?_;intro w G l0;exact Z4
 refine Q4 ?_;intro w G l0;refine Gx ?_;refine lh ?_;refine aVt G dx bA z72 B B B B B B B ?_;intro aZ0 w G bN3 bVh;replace G:=G.toRow (size:=5) (k:=2) B (by decide);exact Z4
instance startsD (x:List UInt8) (k:Nat):Decidable (starts x k):=by unfold starts;infer_instance
theorem aJv (k:Nat)(x:List UInt8)(a:Nat)(w0:World)(hs:x.length<=1000000):Fc W 78 [sU k x a] w0 (λv _=>v=.bool (decide (starts x k))):=by
 refine (bF6 k x a w0 hs).mono ?_;rintro v w' _ ⟨b,rfl,hb⟩;exact aD Value.bool (by rw [jE,hb,decide_eq_true_eq])
theorem bBu (depth:Nat)(UY:depth<=48)(yN:Hu (depth+1)):KX depth:=by
 unfold KX;intro w0 s D N af aj ak p nodes off hs hp kl dr dF m lead x hx;subst hx;refine aI Tryz.func135 B Tryz.ntmps135 B ?_;have G:=Ctx.start w0;refine ag ?_;refine bE ?_;intro b3 w G eE gr;refine bE ?_;intro bH w G fl fg;refine wi ?_;intro bq w G gX hF;refine dv ?_;intro b7 w G nO iW;refine aq ?_;refine cw (λf ah=>f 8=M ([clb m])/\f 1=J depth/\f 3=ao b3 0/\f 5=ao bH 0/\f 6=ao bq 0/\f 7=ao b7 0/\Cxr w0 ah [(b7,aa 72 [J 0,M [],M [],al,M []]),(bq,aa 148 [M [],J 0,J 0,J 0,J 0,J 0,J 0,J 0,J 0,J 0]),(bH,aa 72 [J (kdm m),M lead,M ([opb m]),al,M []]),(b3,aa 148 [M s,J D,J N,.int .i64 (af),.int .i64 (aj),.int .i64 (ak),J p,J nodes,J off,J 0])] []) ?_ ?_
 ·refine az ?_;refine Z (λhB=>?_) (λhB=>?_)
  ·have hm:m=true:=by cases m;exact absurd hB (by decide);rfl
   subst hm;refine ae ?_;exact ⟨_,B,B,B,B,B,B,B,G⟩
  have hm:m=false:=by cases m;rfl;exact absurd B hB
  subst hm;refine ab ?_;exact ⟨_,B,B,B,B,B,B,B,G⟩
 intro f w ai;obtain ⟨bb,aK,aR,bF,aL,aS,G⟩:=ai;refine az ?_;refine bu (λg f ah=>∃ (q nd:Nat) (kids:List T) (keys:List (List UInt8)) (kv v9:Value) (css:List (List Value)) (rs:List Row),g=s.length-q/\(q<=s.length)/\(p<=q)/\(nd<=N)/\(keys.Nodup)/\(kids.length<=q)/\(keys.length<=q)/\(NL rs kids css)/\(∀ r,Pr cx s D N (.ents m depth kids keys q nd) r->Pr cx s D N (.ents m depth [] [] p nodes) r)/\f 9=v9/\f 1=J depth/\f 3=ao b3 0/\f 5=ao bH 0/\f 6=ao bq 0/\f 7=ao b7 0/\f 8=M ([clb m])/\Cxr w0 ah [(b7,aa 72 [J 0,M [],M [],al,M []]),(bq,aa 148 [M [],J 0,J 0,J 0,J 0,J 0,J 0,J 0,J 0,J 0]),(bH,aa 72 [J (kdm m),M lead,M ([opb m]),kv,M []]),(b3,aa 148 [M s,J D,J N,.int .i64 (af),.int .i64 (aj),.int .i64 (ak),J q,J nd,J off,J 0])] (⟨72,5,kv,kids.length,css.flatten⟩::⟨9,1,v9,keys.length,keys.map λkey=>((M key):Value)⟩::rs)) ((λ(q:Nat)=>s.length-q) p) ?_ ?_
 ·exact ⟨p,nodes,[],[],al,al,[],[],B,hp,bV _,kl,List.nodup_nil,bU _,bU _,NL.nil [],λr h=>h,B,aK,aR,bF,aL,aS,bb,((G.nilRow 9 1).nilRow 72 5)⟩
 intro wR f w ai;obtain ⟨q,nd,kids,keys,kv,v9,css,rs,IM,aw,j4,xa,gh,bQm,ED,hP,e2,b6,aK,aR,bF,aL,aS,bb,G⟩:=ai;refine aG ?_;refine cn B (λdG=>?_) (λdG=>?_)
 ·refine bz ?_;refine ov ?_;intro da w G tD pN;refine an ?_;have rD:keys.length<=1000000:=I;refine bG G (DY s D N af aj ak q nd off 0 _ hs I) DM B B B B B B ?_;intro cBj w G WS V2;obtain ⟨Cq,FE,uW,rL,iF,kh,zp,rfl,V1,aOs,y8⟩:=V2;refine an ?_;refine bn G 4 B B B aR B B gz B B ?_;intro w G qy;refine S B B (av (v:=(M zp)) B B) ?_;refine pY ?_;intro w G qy;refine aG ?_;refine S B B (ga (s:=sub s kh iF) (u:=[clb m]) B B B) ?_;refine ab ?_;refine Z (λfJ=>?_) (λfJ=>?_)
  ·obtain ⟨_,dt,g3,g4,fe,ly⟩:0=0/\uW=0/\FE=off/\Tok s q (0,kh,rL,iF)/\Cq=kh+iF/\zp=sub s q (kh-q):=by
    rcases y8 with h | ⟨_,_,h,_⟩
    ·exact h
    ·rw [h,vP] at fJ;exact absurd fJ.symm (by simp)
   have ie:zp.length<=s.length:=by rw [ly];exact vO s q _
   refine an ?_;refine S B B (iJ (a:=zp) (b:=[clb m]) B B B FK) ?_;refine ab ?_;refine bR (v:=(M (zp++([clb m])))) G 3 B B B B B B B B gA ?_;intro w G lI;refine ag ?_;refine ei G (G.pick2 4 3 B B B) mixed [(0,36),(1,37)] #[true,true,false,false] ac ac ac ac ?_;refine kC ?_;refine cW ?_;intro w G W2;refine p2 ?_;refine bn G 2 B B B aL B B gz B B ?_;intro w G sE;refine hK ⟨.inl (G.pick2 4 3 B B B),?_⟩;refine nD ?_;refine bn G 1 B B B aS B B bA B (lL G.oneS) ?_;intro w G sE;refine l6 ?_;refine Ko Tryz.results135 aL aS (G.at 2 B) (G.at 1 B) mV B gz de B bA ?_;exact ⟨Cq,nd,FE,uW,.mk (kdm m) lead [opb m] kids (sub s q (kh-q)++[clb m]),_,_::_::rs,by rw [<- ly];rfl,(hP.mono λr h=>bP _ (bP _ h)).node B (b9 ..) _ _ _ _,G.drop 5,V1,.inr ⟨dt,g3,by have:=g4.len aw;omega,xa,kids,_,B,e2 _ (by rw [fe];exact .eEnd g4 fJ)⟩⟩
  have qB:=fJ;refine ae ?_;refine RP ?_;refine dv ?_;intro eD w G lA mx;refine hX ?_;intro w G n1;refine ab ?_;refine cw (λf ah=>∃ (y:Kr) (vE fY dW k5:Nat) (aW F2:Value) (ecs:List (List Value)),(NL [] y.kids ecs)/\(y.kids.length<=2)/\(TkK (sub s y.a y.n) y.k)/\(vE<=s.length)/\(y.keys.length<=keys.length+1)/\((dW=0/\fY=off/\KeyP s keys (sub s q (kh-q)) kh rL iF m (.inr y)/\y.keys.Nodup/\Tok s q (0,kh,rL,iF)/\sub s kh iF≠[clb m]/\vE=y.a+y.n/\q<=vE/\k5<=s.length/\Tok s k5 (0,y.a,y.k,y.n))\/(dW≠0/\Pr cx s D N (.ents m depth kids keys q nd) (.err fY dW)))/\f 10=M y.lead/\f 9=F2/\f 1=J depth/\f 3=ao b3 0/\f 5=ao bH 0/\f 6=ao bq 0/\f 7=ao b7 0/\f 8=M ([clb m])/\f 11=ao da 0/\f 12=ao eD 0/\Cxr w0 ah [(eD,aa 72 [J 5,M [],M [],aW,M []]),(da,aa 150 [J y.k,M (sub s y.a y.n),J y.a]),(b7,aa 72 [J 0,M [],M [],al,M []]),(bq,aa 148 [M [],J 0,J 0,J 0,J 0,J 0,J 0,J 0,J 0,J 0]),(bH,aa 72 [J (kdm m),M lead,M ([opb m]),kv,M []]),(b3,aa 148 [M s,J D,J N,.int .i64 (af),.int .i64 (aj),.int .i64 (ak),J vE,J nd,J fY,J dW])] (⟨72,5,aW,y.kids.length,ecs.flatten⟩::⟨72,5,kv,kids.length,css.flatten⟩::⟨9,1,F2,y.keys.length,y.keys.map λkey=>((M key):Value)⟩::rs)) ?_ ?_
  ·refine az ?_;refine Z (λpH=>?_) (λpH=>?_)
   ·have hm:m=true:=by cases m;exact absurd pH (by decide);rfl
    obtain ⟨ix,iy,bl,bUq,nf,Nr⟩:=((show LR _ 9 1 v9 keys.length _ from .inr (bP _ (b9 ..))).slr G (by decide)).form2;subst bUq;have bV9:uW≠0->rL=0:=λh=>(y8.resolve_left (λh2=>h h2.2.1)).2.1
    have aPt:uW=0->Cq=kh+iF:=λh=>(y8.resolve_right (λh2=>h2.1 h)).2.2.2.2.1
    have bSx:uW=0->kh+iF<=s.length:=λh=>by have:=aPt h;omega
    refine kD ?_;refine bW (bCu s D N af aj ak Cq nd FE uW zp kh rL iF keys ix bl iy _ hs V1 rD (λh=>(Nr h).1) (λh=>(Nr h).2) aOs bV9 aPt bSx) Tryz.func204 B B B B B B ?_;rintro cGg w ⟨Mx,J5,H6,aR8,ks,bIu,JN,rfl,cq,bRp,bQx,aNa,Vs⟩;replace G:=G.callRows cq;simp only [gT,gG] at G;refine an ?_;refine Q5 ?_;intro w G xo;refine ab ?_;refine S B B (av (v:=(M JN)) B B) ?_;refine aq ?_;refine bR (v:=aR8) G 0 B B B B B G.oneS B B mK ?_;intro w G B2;refine aq ?_;replace G:=G.rot2;refine Gm ?_;intro aZs w G bNw aQ3;refine Gn ?_;intro zQ w G bP3;replace G:=G.drop 1;refine an ?_;refine bG G (DY s D N af aj ak Mx nd J5 H6 _ hs I) DM B B B B B B ?_;intro cBu w G aQ5 N0;obtain ⟨X8,Pn,H5,Xt,Pb,Mr,XD,rfl,bSa,bQu,bRt⟩:=N0;refine an ?_;refine Q5 ?_;intro w G B3;refine S B B (av (v:=(M XD)) B B) ?_;refine QU ?_;intro w G B3;refine ab ?_;have kG:(H5=0/\Pn=off/\KeyP s keys (sub s q (kh-q)) kh rL iF m (.inr ⟨ks,keys++[JN],XD,Mr,Xt,Pb⟩)/\(keys++[JN]).Nodup/\Tok s q (0,kh,rL,iF)/\sub s kh iF≠[clb m]/\X8=Mr+Pb/\q<=X8/\Mx<=s.length/\Tok s Mx (0,Mr,Xt,Pb))\/(H5≠0/\Pr cx s D N (.ents m depth kids keys q nd) (.err Pn H5)):=by
     rcases bRt with ⟨ah,F4,F5,F6,Zi,aXr⟩ | ⟨ah,_,_,_,⟨F4,F5⟩ | ⟨F4,F5,F6⟩⟩
     . obtain ⟨_,v2,v3,a2,k2,n2,v4,v5,ny,rW,vX,vW,KA,v12⟩:=Vs.resolve_left (λh=>h.1 ah)
       obtain ⟨_,dt,g3,g4,fe,ly⟩:=y8.resolve_right (λh=>h.1 v2);have er:=g4.len aw;have di:=vX.len er.2.1;have eE:=F6.len aNa;rw [KA] at F6 aXr;rw [v12,aXr,ly,hm];exact .inl ⟨F4,F5.trans (v3.trans g3),.ok v4 v5 ny rW vX vW F6,Pj gh rW,g4,(by rw [<- hm];exact fJ),Zi,I,aNa,by rw [KA];exact F6⟩
     . obtain ⟨_,v2,v3,a2,k2,n2,v4,v5,ny,rW,vX,vW,KA,v12⟩:=Vs.resolve_left (λh=>h.1 F4)
       obtain ⟨_,dt,g3,g4,fe,ly⟩:=y8.resolve_right (λh=>h.1 v2);rw [KA] at F5;exact .inr ⟨ah,.eKey (oe:=(Pn,H5)) g4 fJ (by rw [hm];exact .tokE v4 v5 ny rW vX vW F5 ah)⟩
     . rw [F5,F6]
       refine .inr ⟨F4,?_⟩;rcases Vs with ⟨_,⟨sX,v2,v3⟩ | ⟨sX,v2⟩⟩ | ⟨h,_⟩
       . obtain ⟨_,_,_,_,⟨_,fe⟩ | ⟨fe,_⟩⟩:=y8.resolve_left (λh=>sX h.2.1)
         ·rw [v2,v3];exact .eTok fe sX
         ·exact absurd B fe
       . obtain ⟨_,dt,g3,g4,fe,ly⟩:=y8.resolve_right (λh=>h.1 sX)
         rw [ly] at v2;exact .eKey (oe:=(J5,H6)) g4 fJ (by rw [hm];exact v2)
       ·exact absurd h F4
    exact ⟨_,B,⟨ks,keys++[JN],XD,Mr,Xt,Pb⟩,X8,Pn,H5,Mx,aR8,zQ,bIu,bRp,bQx,bQu,bSa,(by show (keys++[JN]).length<=_;rw [aQ,ll];exact bV _),kG,B,B,aK,aR,bF,aL,aS,bb,B,B,(AU G.rot1 (by simp only [kc,aQ];rfl))⟩
   have hm:m=false:=by cases m;rfl;exact absurd B pH
   refine ab ?_;have kG:(uW=0/\FE=off/\KeyP s keys (sub s q (kh-q)) kh rL iF m (.inr ⟨[],keys,zp,kh,rL,iF⟩)/\keys.Nodup/\Tok s q (0,kh,rL,iF)/\sub s kh iF≠[clb m]/\Cq=kh+iF/\q<=Cq/\q<=s.length/\Tok s q (0,kh,rL,iF))\/(uW≠0/\Pr cx s D N (.ents m depth kids keys q nd) (.err FE uW)):=by
    rcases y8 with ⟨_,dt,g3,g4,fe,ly⟩ | ⟨g1,_,_,_,⟨_,fe⟩ | ⟨fe,_⟩⟩
    . have er:=g4.len aw
      rw [ly,hm];exact .inl ⟨dt,g3,.list,gh,g4,(by rw [<- hm];exact fJ),fe,I,aw,g4⟩
    ·exact .inr ⟨g1,.eTok fe g1⟩
    ·exact absurd B fe
   exact ⟨_,B,⟨[],keys,zp,kh,rL,iF⟩,Cq,FE,uW,q,al,v9,[],NL.nil [],bU _,aOs,V1,Nat.le_succ _,kG,B,b6,aK,aR,bF,aL,aS,bb,B,B,(G.nilRow 72 5)⟩
  intro f w ai;obtain ⟨y,vE,fY,dW,k5,aW,F2,ecs,IZ,bQw,cOj,EQ,B9,kG,cp,b6,aK,aR,bF,aL,aS,bb,cv,cV,G⟩:=ai;have bV8:=vO s y.a y.n;refine cw (λf ah=>∃ (e5 ew:Nat),((ew=0/\dW=0/\e5=fY/\starts (sub s y.a y.n) y.k)\/(ew≠0/\Pr cx s D N (.ents m depth kids keys q nd) (.err e5 ew)))/\f 1=J depth/\f 3=ao b3 0/\f 5=ao bH 0/\f 6=ao bq 0/\f 7=ao b7 0/\f 8=M ([clb m])/\f 9=F2/\f 10=M y.lead/\f 11=ao da 0/\f 12=ao eD 0/\Cxr w0 ah [(eD,aa 72 [J 5,M [],M [],aW,M []]),(da,aa 150 [J y.k,M (sub s y.a y.n),J y.a]),(b7,aa 72 [J 0,M [],M [],al,M []]),(bq,aa 148 [M [],J 0,J 0,J 0,J 0,J 0,J 0,J 0,J 0,J 0]),(bH,aa 72 [J (kdm m),M lead,M ([opb m]),kv,M []]),(b3,aa 148 [M s,J D,J N,.int .i64 (af),.int .i64 (aj),.int .i64 (ak),J vE,J nd,J e5,J ew])] (⟨72,5,aW,y.kids.length,ecs.flatten⟩::⟨72,5,kv,kids.length,css.flatten⟩::⟨9,1,F2,y.keys.length,y.keys.map λkey=>((M key):Value)⟩::rs)) ?_ ?_
  ·refine az ?_;refine aN B B B aO (λhc=>cG B cv Tryz.underlying150 B og (G.row 1 B) B) ?_;refine hg G B B B aO (λhc=>aJv y.k (sub s y.a y.n) y.a _ cR) Tryz.func78 B B B (λhc=>(aX ay B)) ?_;intro w G WX;refine ae ?_;refine cn B (λtF=>?_) (λtF=>?_)
   ·simp only [fS,kP,decide_eq_true_eq,decide_eq_false_iff_not,beq_iff_eq] at tF;obtain ⟨cMa,bOm⟩:=tF;refine ae ?_;refine bo G (DZ s D N af aj ak vE nd fY dW y.k y.a (sub s y.a y.n) _) DN B B B B B B ?_;intro w G W0;refine Q5 ?_;intro w G W7;refine ab ?_;have hR:(if dW=0 then (unx s y.a y.k).2 else dW)≠0/\Pr cx s D N (.ents m depth kids keys q nd) (.err (if dW=0 then (unx s y.a y.k).1 else fY) (if dW=0 then (unx s y.a y.k).2 else dW)):=by
     have aP:(unx s y.a y.k).2≠0:=by unfold unx;split <;> simp
     have z2:dW=0:=I;obtain ⟨_,dM,pK,EF,BV,qB,eQ,ft,kK,zh⟩:=kG.resolve_right (λh=>h.1 z2);rw [U z2,U z2];exact ⟨aP,.eVal BV qB pK (.vBad bOm)⟩
    exact ⟨_,B,_,_,.inr hR,aK,aR,bF,aL,aS,bb,b6,cp,cv,cV,G⟩
   simp only [Bool.and_eq_false_iff,Bool.not_eq_false',decide_eq_true_eq,decide_eq_false_iff_not,beq_eq_false_iff_ne,ne_eq] at tF;refine ab ?_;have hR:(dW=0/\dW=0/\fY=fY/\starts (sub s y.a y.n) y.k)\/(dW≠0/\Pr cx s D N (.ents m depth kids keys q nd) (.err fY dW)):=by
    rcases kG with h | h
    ·exact .inl ⟨h.1,h.1,B,tF.resolve_left (λh2=>h2 (by rw [h.1];rfl))⟩
    ·exact .inr h
   exact ⟨_,B,_,_,hR,aK,aR,bF,aL,aS,bb,b6,cp,cv,cV,G⟩
  intro f w ai;obtain ⟨e5,ew,hR,aK,aR,bF,aL,aS,bb,b6,cp,cv,cV,G⟩:=ai;refine aG ?_;refine Z (λbOn=>?_) (λbOn=>?_)
  ·have U4:Pr cx s D N (.ents m depth kids keys q nd) (.err e5 ew):=by
    rcases hR with ⟨h,_⟩ | ⟨_,h⟩
    ·omega
    ·exact h
   refine ag ?_;refine ei G (G.pick2 5 4 B B B) mixed [(0,137),(1,138)] #[true,true,false,false] ac ac ac ac ?_;refine kC ?_;refine cW ?_;intro w G aRd;refine p2 ?_;refine bn G 3 B B B aL B B gz B B ?_;intro w G Fg;refine hK ⟨.inl (G.pick2 5 4 B B B),?_⟩;refine nD ?_;refine bn G 2 B B B aS B B bA B (lL (G.swapQ).oneS) ?_;intro w G Fg;refine l6 ?_;refine Ko Tryz.results135 aL aS (G.at 3 B) (G.at 2 B) mV B gz de B bA ?_;exact ⟨vE,nd,e5,ew,.mk (kdm m) lead [opb m] kids [],_,_::_::_::rs,B,(hP.mono λr h=>bP _ (bP _ (bP _ h))).node B (bP _ (b9 ..)) _ _ _ _,G.drop 6,EQ,.inl ⟨I,e2 _ U4⟩⟩
  obtain ⟨pX,z2,z3,ck⟩:ew=0/\dW=0/\e5=fY/\starts (sub s y.a y.n) y.k:=by
   rcases hR with h | ⟨h,_⟩
   ·exact h
   ·omega
  obtain ⟨_,dM,pK,EF,BV,qB,eQ,ft,kK,zh⟩:=kG.resolve_right (λh=>h.1 z2);subst pX;have z5:off=e5:=(z3.trans dM).symm;subst z5;refine ae ?_;refine dv ?_;intro AO w G aNf sC;refine bz ?_;refine bW (yN _ s D N af aj ak vE nd off hs EQ xa dr dF y.lead y.a y.k y.n k5 zh kK eQ ck) Tryz.func80 B B B B B B ?_;rintro aXb w ⟨p',dI,fN,eM,t,cs,rs2,rfl,c9,cq,kJ,xm⟩;obtain ⟨cB,n2,n3,rfl⟩:=c9.form cq;replace G:=G.callRows cq;replace G:=G.grab3Q;refine ae ?_;refine bn G 6 B B B aR B B gz B B ?_;intro w G B4;refine s7 ?_;intro w G B4;refine az ?_;refine lg ?_;intro cJn w G cL5 bVd;refine aCp ?_;intro KD w G cN4;replace G:=G.drop 1;refine ab ?_;refine bR (v:=KD) G 1 B B B B B G.oneS B B mK ?_;intro w G Ff;refine an ?_;refine bG G (DY s D N af aj ak p' dI fN eM _ hs I) DM B B B B B B ?_;intro cB1 w G aRb Wj;obtain ⟨aTz,Pp,M1,Xv,uf,lq,aSc,rfl,bSb,cOl,aPg⟩:=Wj;refine an ?_;refine bn G 6 B B B aR B B gz B B ?_;intro w G W9;refine S B B (av (v:=(M aSc)) B B) ?_;refine bn G 2 B B B cv B B og B B ?_;intro w G W9;refine bz ?_;refine Z (λBl=>?_) (λBl=>?_)
  ·have U5:Pr cx s D N (.ents m depth kids keys q nd) (.err Pp M1):=by
    rcases aPg with ⟨_,h,_⟩ | ⟨h1,_,_,_,⟨h2,Y⟩ | ⟨h2,Y,ar⟩⟩
    ·omega
    . rcases xm with ⟨h,_⟩ | ⟨_,_,_,_,cu⟩
      ·exact absurd h2 h
      ·exact .eTok2 BV qB pK cu Y h1
    . rcases xm with ⟨_,h⟩ | ⟨h,_⟩
      ·rw [Y,ar];exact .eVal BV qB pK h
      ·exact absurd h h2
   have bRn:M1≠0:=I;refine ag ?_;refine ei G (G.pick2 6 5 B B B) mixed [(0,137),(1,138)] #[true,true,false,false] ac ac ac ac ?_;refine kC ?_;refine cW ?_;intro w G aRd;refine p2 ?_;refine Q6 ?_;intro w G Fg;refine hK ⟨.inl (G.pick2 6 5 B B B),?_⟩;refine nD ?_;refine aC4 ?_;intro w G Fg;refine l6 ?_;refine Sg ?_;exact ⟨aTz,dI,Pp,M1,.mk (kdm m) lead [opb m] kids [],_,_::_::_::(rs2++rs),B,(hP.mono λr h=>bP _ (bP _ (bP _ (h0 _ h)))).node B (bP _ (b9 ..)) _ _ _ _,G.drop 7,bSb,.inl ⟨bRn,e2 _ U5⟩⟩
  obtain ⟨cS,cZ,c0,Ol,cF1,cF2⟩:eM=0/\M1=0/\Pp=fN/\Tok s p' (0,lq,Xv,uf)/\aTz=lq+uf/\aSc=sub s p' (lq-p'):=by
   rcases aPg with h | ⟨h,_⟩
   ·exact h
   ·omega
  obtain ⟨_,cF3,xg,lG,cu⟩:=xm.resolve_left (λh=>h.1 cS);have bN2:=Ol.len kJ;subst cZ cF1 cF2;have u8:off=Pp:=(c0.trans cF3).symm;subst u8;refine aG ?_;refine S B B (ga (s:=sub s lq uf) (u:=[clb m]) B B B) ?_;refine ab ?_;refine Z (λUM=>?_) (λUM=>?_)
  ·have Xe:=UM;have cOv:=vO s p' (lq-p');refine aq ?_;refine lg ?_;intro cIq w G cK5 cP9;replace G:=G.swapQ;have bRy:=(G.swapQ).oneS;refine nu G D7 dx B B B B B (G.row 0 B) B (lL bRy) I ?_;intro cF9 w G cMy;replace G:=G.drop 1;refine ab ?_;refine bR (v:=cF9) G 5 B B B B B G.oneS B B mK ?_;intro w G Xa;refine aq ?_;refine S B B (iJ (a:=(sub s p' (lq-p'))) (b:=[clb m]) B B B FK) ?_;refine ab ?_;refine bR (v:=(M ((sub s p' (lq-p'))++([clb m])))) G 5 B B B B B B B B gA ?_;intro w G bVo;refine ag ?_;refine ei G (G.pick2 6 5 B B B) mixed [(0,115),(1,116)] #[true,true,false,false] ac ac ac ac ?_;refine kC ?_;refine cW ?_;intro w G cRa;refine p2 ?_;refine Q6 ?_;intro w G OH;refine hK ⟨.inl (G.pick2 6 5 B B B),?_⟩;refine nD ?_;refine bn G 3 B B B aS B B bA B (lL G.oneS) ?_;intro w G OH;refine l6 ?_;refine Sg ?_;have u2:NL (⟨72,5,KD,y.kids.length+1,ecs.flatten++nrow t.kind t.lead t.text (.slice cB n2 n3) t.tail⟩::(rs2++rs)) (kids++[.mk 5 [] [] (y.kids++[t]) []]) (css++[nrow 5 [] [] KD []]) :=
    (hP.mono λr h=>bP _ (h0 _ h)).snoc (IZ.ent (λr h=>absurd h mT) (c9.mono λr h=>bP _ (iM _ h)) rfl (b9 ..))
   exact ⟨lq+uf,dI,off,0,.mk (kdm m) lead [opb m] (kids++[.mk 5 [] [] (y.kids++[t]) []]) (sub s p' (lq-p')++[clb m]),_,_::_::_::(rs2++rs),rfl,(u2.mono λr h=>bP _ (by rcases eX.1 h with h | h;exact h▸b9 ..;exact bP _ (bP _ h))).node (n:=kids.length+1) sK X5 _ _ _ _,G.drop 7,I,.inr ⟨rfl,rfl,I,lG,_,_,rfl,e2 _ (.eLast BV qB pK cu Ol Xe)⟩⟩
  have Xe:=UM;refine az ?_;refine S B B (kO (s:=sub s lq uf) (u:=[44]) B B B) ?_;refine ab ?_;refine Z (λNu=>?_) (λNu=>?_)
  ·have Xf:=Nu;refine ab ?_;refine ei G (G.pick3 6 2 5 B B B B) mixed [(0,120),(1,121),(3,123)] #[true,true,false,true,false,false] ac ac ac ac ?_;refine lk ?_;refine cW ?_;intro w G bVk;refine p2 ?_;refine bo G (DZ s D N af aj ak (lq+uf) dI off 0 Xv lq (sub s lq uf) _) DN B B B B B B ?_;intro w G cQd;refine hK ⟨.inl (G.pick3 6 2 5 B B B B),?_⟩;refine qU ?_;refine Q6 ?_;intro w G Xb;refine hK ⟨.inl (G.pick3 6 2 5 B B B B),?_⟩;refine kb ?_;refine aC4 ?_;intro w G Xb;refine l6 ?_;refine Sg ?_;have aP:(unx s lq Xv).2≠0:=by unfold unx;split <;> simp
   exact ⟨lq+uf,dI,_,_,.mk (kdm m) lead [opb m] kids [],_,_::_::_::(rs2++rs),B,(hP.mono λr h=>bP _ (bP _ (bP _ (h0 _ h)))).node B (bP _ (b9 ..)) _ _ _ _,G.drop 7,I,.inl ⟨aP,e2 _ (.eBad BV qB pK cu Ol Xe Xf)⟩⟩
  have Xf:=Nu;have cO0:p'+1<=lq+uf:=by
   have h1:=aD eC Nu;rw [qN I] at h1;have h2:uf=1:=h1;omega
  refine az ?_;refine S B B (cd (qs:=[(0,(J 11)),(1,(M (sub s p' (lq-p')))),(2,(M ([44])))]) (AQ _ _ _) B B) ?_;refine lg ?_;intro cIv w G cLa cQg;refine s8 ?_;intro P6 w G cM3;replace G:=G.drop 1;refine ab ?_;refine bR (v:=P6) G 1 B B B B B G.oneS B B mK ?_;intro w G cRf;refine aq ?_;refine lg ?_;intro cIy w G cLd bUx;replace G:=G.swapQ;have bRz:=(G.swapQ).oneS;refine nu G D7 dx B B B B B (G.row 0 B) B (lL bRz) I ?_;intro cGb w G cM7;replace G:=G.drop 1;refine ab ?_;refine bR (v:=cGb) G 5 B B B B B G.oneS B B mK ?_;intro w G bVq;refine ab ?_;have u2:NL (⟨72,5,P6,y.kids.length+1+1,ecs.flatten++nrow t.kind t.lead t.text (.slice cB n2 n3) t.tail++nrow 11 (sub s p' (lq-p')) [44] (al) []⟩::(rs2++rs)) (kids++[.mk 5 [] [] (y.kids++[t,.mk 11 (sub s p' (lq-p')) [44] [] []]) []]) (css++[nrow 5 [] [] P6 []]) :=
   (hP.mono λr h=>bP _ (h0 _ h)).snoc (IZ.ent2 (λr h=>absurd h mT) (c9.mono λr h=>bP _ (iM _ h)) (NR.leaf _ _ _ _ _) rfl (b9 ..))
  exact ⟨_,_,I,B,lq+uf,dI,kids++[.mk 5 [] [] (y.kids++[t,.mk 11 (sub s p' (lq-p')) [44] [] []]) []],y.keys,_,F2,css++[nrow 5 [] [] P6 []],_::(rs2++rs),B,I,I,lG,EF,J8,I,u2,λr h=>e2 r (.eMore BV qB pK cu Ol Xf h),b6,aK,aR,bF,aL,aS,bb,(AU ((G.drop 3).permR ((List.Perm.cons _ (List.Perm.swap _ _ _)))) (by rw [aQ,ll,List.flatten_append,pi,List.flatten_nil,cH];rfl))⟩
 exact Ge
theorem bEr (k:Nat)(w0:World):Fc W 355 [J k] w0 (λv _=>v=.bool (decide (k=2\/k=6\/k=10\/k=11))):=by
 refine aI Tryz.func355 B Tryz.ntmps355 B ?_;have G:=Ctx.start w0;refine AL ?_;refine be Tryz.results355 B ?_;refine pd ?_;rw [jE];simp only [hW,decide_eq_true_eq,beq_iff_eq];omega
theorem bG9 {ks:List T}{i:Nat}{k:T}(h:ks[i]?=some k):counts (ks.take (i+1))=counts (ks.take i)+k.count:=by
 rw [List.take_add_one,h,tx];show _+counts [k]=_;rw [jH,kE,gb]
theorem bHa (ks:List T)(i:Nat):counts (ks.take i)<=counts ks:=by
 have:=tx (ks.take i) (ks.drop i);rw [List.take_append_drop] at this;rw [this];omega
theorem cA6 {ks:List T}{i:Nat}{k:T}(h:ks[i]?=some k):prints (ks.take (i+1))=prints (ks.take i)++k.print:=by
 rw [List.take_add_one,h,sO];show _++prints [k]=_;rw [hU,gx,cH]
theorem Ck.inv {d kind:Nat}{lead text tail:List UInt8}{kids:List T}(h:Ck d (.mk kind lead text kids tail)):d<=192/\(1<=kind/\kind<=11)/\(kind=2\/kind=6\/kind=10\/kind=11->kids=[]/\tail=[])/\∀ t∈kids,Ck (d+1) t:=by
 cases h with
 | mk h1 h2 Y ar=>exact ⟨h1,h2,Y,ar⟩
def Mi (t:T)(cs:List Value)(w0:World):Prop:=∀ d seen:Nat,Ck d t->seen+t.count<=524288->Fc W 287 [.agg cs.toArray,J d,J seen] w0 (λv _=>v=.tuple #[J (seen+t.count),J 0])
theorem bDs (k:Nat)(lead text tail:List UInt8)(ks:List T)(cs:List Value)(w0:World)(hv:Nw w0 (.mk k lead text ks tail) cs)(hn:ks.length<=1000000)(ih:∀ t∈ks,∀ (w:World) (cs:List Value),Nw w t cs->Mi t cs w):Mi (.mk k lead text ks tail) cs w0:=by
 obtain ⟨la,lc,lb,rfl,hlc,ez,dN⟩:=hv.kids;unfold Mi;intro d seen jL ec;obtain ⟨eI,fy,w6,rC⟩:=jL.inv;rw [dT] at ec;refine aI Tryz.func287 B Tryz.ntmps287 B ?_;have G:=Ctx.start w0;refine ag ?_;refine bE ?_;intro b3 w G eE gr;refine cK ?_;refine Z (λfW=>?_) (λfW=>?_)
 ·exfalso;omega
 refine aG ?_;refine Z (λgK=>?_) (λgK=>?_)
 ·exfalso;omega
 refine kf ?_;refine Z (λjK=>?_) (λjK=>?_)
 ·exfalso;omega
 refine az ?_;refine bo G (bEr k _) Tryz.func355 B B B B B B ?_;intro w G zk;refine ae ?_;refine aN B B B aO (λhc=>hJ B l2 dx) ?_;refine an ?_;refine aN B B B a8 (λhc=>kO (s:=tail) (u:=([]:List UInt8)) B ay B) ?_;refine ae ?_;refine cn B (λjp=>?_) (λjp=>?_)
 ·exfalso;simp only [fS,hW,decide_eq_true_eq,kP,decide_eq_false_iff_not,bne_iff_ne,ne_eq] at jp;obtain ⟨h1,h2⟩:=jp;obtain ⟨Y,ar⟩:=w6 I;rcases h2 with h2 | h2
  ·rw [Y] at h2;simp at h2
  ·exact h2 ar
 refine aq ?_;refine S B B (av (v:=(J (seen+1))) B B) ?_;refine aG ?_;refine bu (λg f ah=>∃ (i:Nat),g=ks.length-i/\(i<=ks.length)/\f 2=J (seen+1+counts (ks.take i))/\f 8=J i/\f 1=J d/\f 3=ao b3 0/\Cxr w0 ah [(b3,aa 72 [J k,M lead,M text,.slice la ks.length lc,M tail])] []) ((λ(i:Nat)=>ks.length-i) 0) ?_ ?_
 ·exact ⟨0,B,bU _,aJ,aJ,B,B,G⟩
 intro Ei f w ai;obtain ⟨i,aOd,hi,aE,bb,aK,aR,G⟩:=ai;refine cK ?_;refine Z (λqk=>?_) (λqk=>?_)
 ·have dK:i<ks.length:=I;obtain ⟨cy,eI⟩:∃ k,ks[i]?=some k:=⟨_,bS dK⟩;have kI:=cb eI;have ru:=bG9 eI;have j1:=bHa ks (i+1);obtain ⟨ecs,ds,cz⟩:=dN i cy eI;obtain ⟨bj,bg,b4,rfl⟩:=ds.form;refine i6 ?_;refine Sh ?_;refine LI ?_;refine ae ?_;refine bo G (ih cy kI _ _ (ds.up G.ext) (d+1) (seen+1+counts (ks.take i)) (rC cy kI) I) Tryz.func287 B B B B B B ?_;intro w G WU;refine ae ?_;refine S B B (av (v:=(J (seen+1+counts (ks.take i)+cy.count))) B B) ?_;refine mQ ?_;refine az ?_;refine Z (λnR=>?_) (λnR=>?_)
  ·exfalso;omega
  refine qZ ?_;exact ⟨_,_,I,B,i+1,B,I,aJ,aJ,aK,aR,G⟩
 refine an ?_;refine S B B (av (v:=(J (seen+1+counts (ks.take i)))) B B) ?_;refine ae ?_;refine dY Tryz.results287 B B ?_;refine ⟨G.ext,Kw B (aD (Value.int .i64) ?_) B⟩;have w5:i=ks.length:=I;rw [dT,w5,lQ (bV _)];omega
theorem aSo:∀ (n:Nat) (t:T),t.count<=n->t.count<=1000000->∀ (w:World) (cs:List Value),Nw w t cs->Mi t cs w
 | 0,t,h,_,_,_,_=>by have:=yA t;omega
 | n+1,.mk k lead text ks tail,h,hc,w,cs,hv=>by
  have ng:=hc;rw [dT] at h ng;have ie:=jv ks;refine bDs k lead text tail ks cs w hv I λt ht w cs hv=>?_
  have h1:=kq ht;exact aSo n t I I w cs hv
def SF (t:T)(cs:List Value)(w0:World):Prop:=Fc W 148 [.agg cs.toArray] w0 (λv _=>v=(J t.print.length))
theorem bB5 (k:Nat)(lead text tail:List UInt8)(ks:List T)(cs:List Value)(w0:World)(hv:Nw w0 (.mk k lead text ks tail) cs)(hp:(T.mk k lead text ks tail).print.length<=1000000)(hn:ks.length<=1000000)(ih:∀ t∈ks,∀ (w:World) (cs:List Value),Nw w t cs->SF t cs w):SF (.mk k lead text ks tail) cs w0:=by
 obtain ⟨la,lc,lb,rfl,hlc,ez,dN⟩:=hv.kids;rw [dX] at hp;simp only [aQ] at hp;refine aI Tryz.func148 B Tryz.ntmps148 B ?_;have G:=Ctx.start w0;refine ag ?_;refine bE ?_;intro b1 w G er fX;refine oC ?_;refine aEu ?_;refine aG ?_;refine bu (λg f ah=>∃ (i:Nat),g=ks.length-i/\(i<=ks.length)/\f 3=J (lead.length+text.length+tail.length+(prints (ks.take i)).length)/\f 4=J i/\f 1=ao b1 0/\f 2=J 0/\Cxr w0 ah [(b1,aa 72 [J k,M lead,M text,.slice la ks.length lc,M tail])] []) ((λ(i:Nat)=>ks.length-i) 0) ?_ ?_
 ·exact ⟨0,B,bU _,aJ,aJ,B,B,G⟩
 intro gJ f w ai;obtain ⟨i,qp,hi,aR,aM,aK,aE,G⟩:=ai;refine cK ?_;refine Z (λct=>?_) (λct=>?_)
 ·have dK:i<ks.length:=I;obtain ⟨cy,eI⟩:∃ k,ks[i]?=some k:=⟨_,bS dK⟩;have kI:=cb eI;have sx:=xG eI;have fp:=vH ks (i+1);obtain ⟨ecs,ds,cz⟩:=dN i cy eI;obtain ⟨bj,bg,b4,rfl⟩:=ds.form;refine bz ?_;refine Sh ?_;refine LI ?_;refine bo G (ih cy kI _ _ (ds.up G.ext)) Tryz.func148 B B B B B B ?_;intro w G E9;refine az ?_;refine x8 ?_;exact ⟨_,_,I,B,i+1,B,I,aJ,aJ,aK,aE,G⟩
 refine aG ?_;refine be Tryz.results148 B ?_;exact aA4
theorem O3:∀ (n:Nat) (t:T),t.count<=n->t.count<=1000000->t.print.length<=1000000->∀ (w:World) (cs:List Value),Nw w t cs->SF t cs w
 | 0,t,h,_,_,_,_,_=>by have:=yA t;omega
 | n+1,.mk k lead text ks tail,h,hc,hp,w,cs,hv=>by
  have ng:=hc;have ff:=hp;rw [dT] at h ng;rw [dX] at ff;simp only [aQ] at ff;have ie:=jv ks;refine bB5 k lead text tail ks cs w hv hp I λt ht w cs hv=>?_
  have h1:=kq ht;exact O3 n t I I I w cs hv
def SK (t:T)(cs:List Value)(w0:World):Prop:=Fc W 208 [.agg cs.toArray] w0 (λv _=>v=(M t.print))
theorem bCw (k:Nat)(lead text tail:List UInt8)(ks:List T)(cs:List Value)(w0:World)(hv:Nw w0 (.mk k lead text ks tail) cs)(hp:(T.mk k lead text ks tail).print.length<=1000000)(hn:ks.length<=1000000)(ih:∀ t∈ks,∀ (w:World) (cs:List Value),Nw w t cs->SK t cs w):SK (.mk k lead text ks tail) cs w0:=by
 obtain ⟨la,lc,lb,rfl,hlc,ez,dN⟩:=hv.kids;rw [dX] at hp;simp only [aQ] at hp;refine aI Tryz.func208 B Tryz.ntmps208 B ?_;have G:=Ctx.start w0;refine ag ?_;refine bE ?_;intro b1 w G er fX;refine bz ?_;refine S B B (iJ (a:=lead) (b:=text) B B B I) ?_;refine S B B (av (v:=(M (lead++text))) B B) ?_;refine aG ?_;refine bu (λg f ah=>∃ (i:Nat) (acc:List UInt8),g=ks.length-i/\(i<=ks.length)/\(acc=lead++text++prints (ks.take i))/\f 3=M acc/\f 4=J i/\f 1=ao b1 0/\f 2=M []/\Cxr w0 ah [(b1,aa 72 [J k,M lead,M text,.slice la ks.length lc,M tail])] []) ((λ(i:Nat)=>ks.length-i) 0) ?_ ?_
 ·exact ⟨0,lead++text,B,bU _,(by rw [iw,gx,cH]),B,aJ,B,B,G⟩
 intro gJ f w ai;obtain ⟨i,acc,qp,hi,Bh,aR,aM,aK,aE,G⟩:=ai;refine cK ?_;refine Z (λgK=>?_) (λgK=>?_)
 ·have dK:i<ks.length:=I;obtain ⟨cy,eI⟩:∃ k,ks[i]?=some k:=⟨_,bS dK⟩;have kI:=cb eI;have sx:=cA6 eI;have bSw:=xG eI;have fp:=vH ks (i+1);obtain ⟨ecs,ds,cz⟩:=dN i cy eI;obtain ⟨bj,bg,b4,rfl⟩:=ds.form;have bNl:acc.length<=1000000:=by rw [Bh];simp only [aQ];omega
  refine bz ?_;refine Sh ?_;refine LI ?_;refine bo G (ih cy kI _ _ (ds.up G.ext)) Tryz.func208 B B B B B B ?_;intro w G zj;refine S B B (iJ (a:=acc) (b:=cy.print) B B B I) ?_;refine S B B (av (v:=(M (acc++cy.print))) B B) ?_;refine qZ ?_;exact ⟨_,_,I,B,i+1,acc++cy.print,B,I,(by rw [Bh,sx,eB]),B,aJ,aK,aE,G⟩
 refine ae ?_;have bNl:acc.length<=1000000:=by
  have:=vH ks i;rw [Bh];simp only [aQ];omega
 refine ae ?_;refine S B B (iJ (a:=acc) (b:=tail) B B B I) ?_;refine S B B (av (v:=(M (acc++tail))) B B) ?_;refine ag ?_;refine be Tryz.results208 B ?_;refine ⟨G.ext,aD (λl=>(M l)) ?_⟩;have w5:i=ks.length:=I;rw [dX,Bh,w5,lQ (bV _)]
theorem aUb:∀ (n:Nat) (t:T),t.count<=n->t.count<=1000000->t.print.length<=1000000->∀ (w:World) (cs:List Value),Nw w t cs->SK t cs w
 | 0,t,h,_,_,_,_,_=>by have:=yA t;omega
 | n+1,.mk k lead text ks tail,h,hc,hp,w,cs,hv=>by
  have ng:=hc;have ff:=hp;rw [dT] at h ng;rw [dX] at ff;simp only [aQ] at ff;have ie:=jv ks;refine bCw k lead text tail ks cs w hv hp I λt ht w cs hv=>?_
  have h1:=kq ht;exact aUb n t I I I w cs hv
theorem bCv (t:T)(cs:List Value)(w0:World)(hv:Nw w0 t cs)(jL:Ck 1 t)(hc:t.count<=524288)(hp:t.print.length<=1000000):Fc W 207 [.agg cs.toArray] w0 (λv _=>v=(J 0)):=by
 obtain ⟨bj,bg,b4,rfl⟩:=hv.form;refine aI Tryz.func207 B Tryz.ntmps207 B ?_;have G:=Ctx.start w0;refine ag ?_;refine bE ?_;intro b1 w G er fX;refine aq ?_;refine bo G (aSo t.count t (bV _) I _ _ (hv.up G.ext) 1 0 jL I) Tryz.func287 B B B B B B ?_;intro w G iW;refine ae ?_;refine S B B (av (v:=(J (0+t.count))) B B) ?_;refine mQ ?_;refine aG ?_;refine aFm ?_;refine hg G B B B aO (λhc=>O3 t.count t (bV _) I hp _ _ (hv.up G.ext)) Tryz.func148 B B B (λhc=>(aX ay B)) ?_;intro w G oX;refine ae ?_;refine Z (λc8=>?_) (λc8=>?_)
 ·exfalso;omega
 refine an ?_;refine mQ ?_;refine ag ?_;refine be Tryz.results207 B ?_;exact gC
def SL (t:T)(cs jl:List Value)(w0:World):Prop:=Fc W 209 [.agg cs.toArray,.agg jl.toArray] w0 (λv _=>v=.bool true)
theorem bCx (k:Nat)(lead text tail:List UInt8)(ks:List T)(cs:List Value)(w0:World)(hv:Nw w0 (.mk k lead text ks tail) cs)(jl:List Value)(n0:Nw w0 (.mk k lead text ks tail) jl)(hn:ks.length<=1000000)(ih:∀ t∈ks,∀ (w:World) (cs jl:List Value),Nw w t cs->Nw w t jl->SL t cs jl w):SL (.mk k lead text ks tail) cs jl w0:=by
 obtain ⟨la,lc,lb,rfl,hlc,ez,dN⟩:=hv.kids;obtain ⟨O1,JX,XB,rfl,cOr,VB,Vy⟩:=n0.kids;refine aI Tryz.func209 B Tryz.ntmps209 B ?_;have G:=Ctx.start w0;refine ag ?_;refine bE ?_;intro b2 w G di e3;refine bE ?_;intro b3 w G eE gr;refine oC ?_;refine aN B B B a8 (λhc=>kO (s:=lead) (u:=lead) B ay ay) ?_;refine az ?_;refine aN B B B a8 (λhc=>kO (s:=text) (u:=text) B ay ay) ?_;refine az ?_;refine aN B B B a8 (λhc=>kO (s:=tail) (u:=tail) B ay ay) ?_;refine an ?_;refine aFn ?_;refine ag ?_;refine aFn ?_;refine ae ?_;refine cn B (λiA=>?_) (λiA=>?_)
 ·exact absurd iA (by simp)
 refine aG ?_;refine bu (λg f ah=>∃ (i:Nat),g=ks.length-i/\(i<=ks.length)/\f 5=J i/\f 2=ao b2 0/\f 3=ao b3 0/\Cxr w0 ah [(b3,aa 72 [J k,M lead,M text,.slice O1 ks.length JX,M tail]),(b2,aa 72 [J k,M lead,M text,.slice la ks.length lc,M tail])] []) ((λ(i:Nat)=>ks.length-i) 0) ?_ ?_
 ·exact QS
 intro pC f w ai;obtain ⟨i,EA,hi,bF,aE,aR,G⟩:=ai;refine cK ?_;refine Z (λiT=>?_) (λiT=>?_)
 ·have dK:i<ks.length:=I;obtain ⟨cy,eI⟩:∃ k,ks[i]?=some k:=⟨_,bS dK⟩;have kI:=cb eI;obtain ⟨ecs,ds,cz⟩:=dN i cy eI;obtain ⟨bj,bg,b4,rfl⟩:=ds.form;obtain ⟨ecs,w3,Wz⟩:=Vy i cy eI;obtain ⟨dM,eQ,ft,rfl⟩:=w3.form;refine an ?_;refine ei G (G.pick2 1 0 B B B) mixed [(0,48),(1,49),(2,50),(3,51),(4,52),(5,53),(6,54),(7,55),(8,56),(9,57)] #[true,true,true,true,true,true,true,true,true,true,false,false] ac ac ac ac ?_;refine lk ?_;refine bw B (bx B) (λw G=>cT dx bA B (show _=Value.slice (some ⟨lb,0,none⟩) ks.length lc by rw [<- ez I];rfl) B I I) ?_;refine bw B (bx B) (λw G=>cG (l:=nrow cy.kind cy.lead cy.text (.slice bj bg b4) cy.tail) B B de B bA (cz.up G.ext) B) ?_;refine lk ?_;refine bw B (bx B) (λw G=>cT dx bA B (show _=Value.slice (some ⟨XB,0,none⟩) ks.length JX by rw [<- VB I];rfl) B I I) ?_;refine bw B (bx B) (λw G=>cG (l:=nrow cy.kind cy.lead cy.text (.slice dM eQ ft) cy.tail) B B de B bA (Wz.up G.ext) B) ?_;refine cW ?_;intro w G JB;refine kQ ?_;refine bo G (ih cy kI _ _ _ (ds.up G.ext) (w3.up G.ext)) Tryz.func209 B B B B B B ?_;intro w G WU;refine dQ ?_;refine mO ?_;refine ab ?_;refine hY ?_;refine cn B (λNA=>?_) (λNA=>?_)
  ·exact absurd NA (by simp)
  refine qZ ?_;exact ⟨_,_,I,B,i+1,B,I,aJ,aE,aR,G⟩
 refine az ?_;refine be Tryz.results209 B ?_;exact gC
theorem YC:∀ (n:Nat) (t:T),t.count<=n->t.count<=1000000->∀ (w:World) (cs jl:List Value),Nw w t cs->Nw w t jl->SL t cs jl w
 | 0,t,h,_,_,_,_,_,_=>by have:=yA t;omega
 | n+1,.mk k lead text ks tail,h,hc,w,cs,jl,hv,n0=>by
  have ng:=hc;rw [dT] at h ng;have ie:=jv ks;refine bCx k lead text tail ks cs w hv jl n0 I λt ht w cs jl hv n0=>?_
  have h1:=kq ht;exact YC n t I I w cs jl hv n0
theorem bAa (bj:List UInt8)(bg:Int)(b4:Int)(fQ:Int)(ir:Int)(ld:Int)(w:World):(Instr.build 148 ([(0,(M bj)),(1,.agg #[.int .i64 (bg),.int .i64 (b4),.int .i64 (fQ),.int .i64 (ir),.int .i64 (ld)])]:List (Nat×Value)).toArray).run W w=.ok (.agg #[M bj,.int .i64 (bg),.int .i64 (b4),.int .i64 (fQ),.int .i64 (ir),.int .i64 (ld),J 0,J 0,J 0,J 0]) w:=by
 go_simp
 try rfl
theorem bAm (bj:Nat)(bg KJ KK:Nat)(b4:List UInt8)(w:World):(Instr.build 72 ([(0,(J bj)),(3,.slice (some ⟨bg,0,none⟩) KJ KK),(4,(M b4))]:List (Nat×Value)).toArray).run W w=.ok (.agg #[J bj,M [],M [],.slice (some ⟨bg,0,none⟩) KJ KK,M b4]) w:=by
 go_simp
 try rfl
theorem Zh:∀ k:Nat,Hu (49-k)
 | 0=>aJw 49 (by decide) (λh=>absurd h (by decide))
 | k+1=>by
  rcases ma k 49 with h | h
  ·exact aJw _ I (λh2=>bBu _ h2 (by rw [show 49-(k+1)+1=49-k by omega];exact Zh k))
  ·rw [show 49-(k+1)=49-k by omega];exact Zh k
theorem cHd:Hu 1:=Zh 48
theorem bF3 (s:List UInt8)(d n b a e:Int)(w0:World)(hs:s.length<=1000000):Fc W 76 [M s,.agg #[.int .i64 d,.int .i64 n,.int .i64 b,.int .i64 a,.int .i64 e]] w0 (λv _=>∃ o bk:Nat,v=.tuple #[J o,J bk]/\((bk≠0/\Pd cx s d n b a e (.inl (o,bk)))\/(bk=0/\o=0/\okL d n b a e/\¬ b<(s.length:Int)/\Bad s s.length))):=by
 refine aI Tryz.func76 B Tryz.ntmps76 B ?_;have G:=Ctx.start w0;refine ag ?_;refine bE ?_;intro b3 w G eE gr;refine aG ?_;refine bo G (aIs d n b a e _) Tryz.func129 B B B B B B ?_;intro w G jg;refine ag ?_;refine Z (λhD=>?_) (λhD=>?_)
 ·have iC:¬ okL d n b a e:=hD;refine az ?_;refine x7 ?_;exact ⟨G.ext,0,1,B,.inl ⟨by decide,.lim iC⟩⟩
 have cY:okL d n b a e:=hD;refine cF ?_;refine Z (λgK=>?_) (λgK=>?_)
 ·refine az ?_;refine x7 ?_;exact ⟨G.ext,0,10,B,.inl ⟨by decide,.size cY I⟩⟩
 refine aq ?_;refine bG G (aIt s _ I) Tryz.func130 B B B B B B ?_;intro Ki w G sD rG;obtain ⟨Fi,Iz,bQb,rfl⟩:=rG;refine LY ?_;refine bz ?_;refine Z (λct=>?_) (λct=>?_)
 ·refine ae ?_;refine LY ?_;refine ae ?_;refine x7 ?_;exact ⟨G.ext,Fi,5,B,.inl ⟨by decide,.text cY I Iz I⟩⟩
 refine aG ?_;refine x7 ?_;have nU:Fi=s.length:=I;exact ⟨G.ext,0,0,B,.inr ⟨B,B,cY,I,nU▸Iz⟩⟩
theorem Tm (s:List UInt8)(d n b a e:Int)(w0:World)(hs:s.length<=1000000):Ret W 33 [M s,.agg #[.int .i64 d,.int .i64 n,.int .i64 b,.int .i64 a,.int .i64 e]] w0 (λv w'=>∃ (k:Nat) (cI bl ev:List UInt8) (cB:Option Addr) (n2 n3 o bk:Nat) (rs:List Row),v=.tuple #[.agg (nrow k cI bl (.slice cB n2 n3) ev).toArray,J o,J bk]/\Cxr w0 w' [] rs/\((bk≠0/\Pd cx s d n b a e (.inl (o,bk)))\/(bk=0/\o=0/\∃ (t:T) (tail:List UInt8),Pd cx s d n b a e (.inr (.mk 1 [] [] [t] tail))/\Gt t/\t.count<=2*s.length/\t.print.length<=s.length/\NR rs (.mk 1 [] [] [t] tail) (nrow k cI bl (.slice cB n2 n3) ev)))):=by
 refine aI Tryz.func33 B Tryz.ntmps33 B ?_;have G:=Ctx.start w0;refine ag ?_;refine bE ?_;intro b3 w G eE gr;refine dv ?_;intro bp w G gW gN;refine bz ?_;refine bG G (bF3 s d n b a e _ hs) Tryz.func76 B B B B B B ?_;intro Yh w G E6 BM;obtain ⟨aTk,aKz,rfl,yP⟩:=BM;refine ae ?_;refine aHg ?_;refine az ?_;refine Z (λdG=>?_) (λdG=>?_)
 ·obtain ⟨nS,dc⟩:=yP.resolve_right (λh=>I);refine wu ?_;refine ag ?_;refine hX ?_;intro w G ig;refine aHg ?_;refine ag ?_;refine mG Tryz.results33 B B B (G.at 0 B) de B bA ?_;exact ⟨0,[],[],[],none,0,0,aTk,aKz,[],B,G.drop 2,.inl ⟨nS,dc⟩⟩
 obtain ⟨_,_,cY,kY,lC⟩:=yP.resolve_left (λh=>h.1 I);have VW:=cY;unfold okL at VW;obtain ⟨D,rfl⟩:∃ D:Nat,d=D:=⟨d.toNat,I⟩;obtain ⟨N,rfl⟩:∃ N:Nat,n=N:=⟨n.toNat,I⟩;have dF:D<=48:=I;have dr:N<=65536:=I;have Bw:∀ r,Prs cx s D N r->Pd cx s D N b a e r:=λr h=>.doc cY kY lC h
 refine aq ?_;refine S B B (cd (qs:=[(0,(M s)),(1,.agg #[.int .i64 (((D:Nat):Int)),.int .i64 (((N:Nat):Int)),.int .i64 (b),.int .i64 (a),.int .i64 (e)])]) (bAa _ _ _ _ _ _) B B) ?_;refine bG G (DY s D N b a e 0 0 0 0 _ hs I) DM B B B B B B ?_;intro cBl w G E9 V4;obtain ⟨X6,Cm,ri,uc,zu,pt,XC,rfl,bR9,cOi,VU⟩:=V4;refine an ?_;refine wi ?_;intro eZ w G rp tY;refine ov ?_;intro da w G tD pN;refine bn G 1 B B B B B B gz B B ?_;intro w G hG;refine S B B (av (v:=(M XC)) B B) ?_;refine pY ?_;intro w G hG;refine ab ?_;refine cw (λf ah=>∃ (cm bc:Nat),((bc=0/\ri=0/\cm=Cm/\starts (sub s pt zu) uc)\/(bc≠0/\Prs cx s D N (.inl (cm,bc))))/\f 4=ao bp 0/\f 5=J 0/\f 6=J 0/\f 9=ao eZ 0/\f 10=M XC/\f 11=ao da 0/\Cxr w0 ah [(da,aa 150 [J uc,M (sub s pt zu),J pt]),(eZ,aa 148 [M s,J D,J N,.int .i64 (b),.int .i64 (a),.int .i64 (e),J X6,J 0,J cm,J bc]),(bp,aa 72 [J 0,M [],M [],al,M []]),(b3,aa 23 [.int .i64 (((D:Nat):Int)),.int .i64 (((N:Nat):Int)),.int .i64 (b),.int .i64 (a),.int .i64 (e)])] []) ?_ ?_
 ·refine az ?_;refine aN B B B aO (λhc=>cG B ay Tryz.underlying150 B og (G.row 0 B) B) ?_;have bV8:=vO s pt zu;refine hg G B B B aO (λhc=>aJv uc (sub s pt zu) pt _ cR) Tryz.func78 B B B (λhc=>(aX ay B)) ?_;intro w G Oz;refine ae ?_;refine cn B (λiA=>?_) (λiA=>?_)
  ·simp only [fS,kP,decide_eq_true_eq,decide_eq_false_iff_not,beq_iff_eq] at iA;obtain ⟨cL9,bOl⟩:=iA;refine ae ?_;refine bo G (DZ s D N b a e X6 0 Cm ri uc pt (sub s pt zu) _) DN B B B B B B ?_;intro w G bU1;refine bn G 1 B B B B B B gz B B ?_;intro w G jt;refine ab ?_;have ng:(if ri=0 then (unx s pt uc).2 else ri)≠0/\Prs cx s D N (.inl ((if ri=0 then (unx s pt uc).1 else Cm),(if ri=0 then (unx s pt uc).2 else ri))):=by
    have aP:(unx s pt uc).2≠0:=by unfold unx;split <;> simp
    have z2:ri=0:=I;obtain ⟨_,_,dM,BW,eQ,ft⟩:=VU.resolve_right (λh=>h.1 z2);rw [U z2,U z2];exact ⟨aP,.val BW (.vBad bOl)⟩
   exact ⟨_,B,_,_,.inr ng,B,B,B,B,B,B,G⟩
  simp only [Bool.and_eq_false_iff,Bool.not_eq_false',decide_eq_true_eq,decide_eq_false_iff_not,beq_eq_false_iff_ne,ne_eq] at iA;refine ab ?_;have ng:(ri=0/\ri=0/\Cm=Cm/\starts (sub s pt zu) uc)\/(ri≠0/\Prs cx s D N (.inl (Cm,ri))):=by
   rcases VU with h | ⟨h,_,_,_,⟨_,h2⟩ | ⟨h2,_⟩⟩
   ·exact .inl ⟨h.2.1,h.2.1,B,iA.resolve_left (λh2=>h2 (by rw [h.2.1];rfl))⟩
   ·exact .inr ⟨h,.tok h2 h⟩
   ·exact absurd B h2
  exact ⟨_,B,_,_,ng,B,B,B,B,B,B,G⟩
 intro f w ai;obtain ⟨cm,bc,ng,aM,bF,aL,b6,cp,cv,G⟩:=ai;refine aG ?_;refine Z (λqk=>?_) (λqk=>?_)
 ·have U4:Prs cx s D N (.inl (cm,bc)):=by
   rcases ng with ⟨h,_⟩ | ⟨_,h⟩
   ·omega
   ·exact h
  refine ab ?_;refine ei G (G.pick1 1 B) mixed [(0,47),(1,48),(2,49),(3,50),(4,51)] #[true,true,true,true,true,false,false,false] ac ac ac ac ?_;refine GU ?_;refine i1 ?_;refine cW ?_;intro w G OG;refine kb ?_;refine Gl ?_;intro w G qy;refine ta ?_;refine li ?_;refine S B B (av (v:=(J cm)) B B) ?_;refine ta ?_;refine lh ?_;refine S B B (av (v:=(J bc)) B B) ?_;refine l6 ?_;refine mG Tryz.results33 aM B B (G.at 2 B) de B bA ?_;exact ⟨0,[],[],[],none,0,0,cm,bc,[],B,G.drop 4,.inl ⟨I,Bw _ U4⟩⟩
 obtain ⟨pX,z2,z3,ck⟩:bc=0/\ri=0/\cm=Cm/\starts (sub s pt zu) uc:=by
  rcases ng with h | ⟨h,_⟩
  ·exact h
  ·omega
 obtain ⟨_,_,dM,BW,eQ,ft⟩:=VU.resolve_right (λh=>h.1 z2);rw [Nat.sub_zero] at ft;have z4:cm=0:=z3.trans dM;subst pX z4;refine az ?_;refine bW (cHd _ s D N b a e X6 0 0 hs bR9 (bU _) dr dF XC pt uc zu 0 BW (bU _) eQ ck) Tryz.func80 B B B B B B ?_;rintro zQ w ⟨p',dI,fY,dW,t,cs,rs,rfl,c9,cq,kJ,xm⟩;obtain ⟨cB,n2,n3,rfl⟩:=c9.form cq;replace G:=G.callRows cq;simp only [cH] at G;refine ae ?_;refine dv ?_;intro eD w G lA mx;refine Q7 ?_;intro w G oY;refine s7 ?_;intro w G oY;refine an ?_;refine bG G (DY s D N b a e p' dI fY dW _ hs I) DM B B B B B B ?_;intro cSy w G aQ6 Wc;obtain ⟨aTy,Po,rj,xw,aSw,wC,XE,rfl,cO3,cOk,VV⟩:=Wc;refine an ?_;refine Q7 ?_;intro w G lI;refine S B B (av (v:=(M XE)) B B) ?_;refine bn G 1 B B B cv B B og B B ?_;intro w G lI;refine ab ?_;refine cw (λf ah=>∃ (fN eM:Nat),((eM=0/\fN=0/\rj=0/\xw=0)\/(eM≠0/\Prs cx s D N (.inl (fN,eM))))/\f 4=ao bp 0/\f 5=J 0/\f 6=J 0/\f 9=ao eZ 0/\f 12=ao eD 0/\f 13=M XE/\Cxr w0 ah [(eD,aa 72 [J t.kind,M t.lead,M t.text,.slice cB n2 n3,M t.tail]),(da,aa 150 [J xw,M (sub s wC aSw),J wC]),(eZ,aa 148 [M s,J D,J N,.int .i64 (b),.int .i64 (a),.int .i64 (e),J aTy,J dI,J fN,J eM]),(bp,aa 72 [J 0,M [],M [],al,M []]),(b3,aa 23 [.int .i64 (((D:Nat):Int)),.int .i64 (((N:Nat):Int)),.int .i64 (b),.int .i64 (a),.int .i64 (e)])] (rs)) ?_ ?_
 ·refine gp ?_;refine Z (λNB=>?_) (λNB=>?_)
  ·refine ae ?_;refine bo G (DZ s D N b a e aTy dI Po rj xw wC (sub s wC aSw) _) DN B B B B B B ?_;intro w G OC;refine Q7 ?_;intro w G n1;refine ab ?_;have u7:(if rj=0 then (unx s wC xw).2 else rj)≠0/\Prs cx s D N (.inl ((if rj=0 then (unx s wC xw).1 else Po),(if rj=0 then (unx s wC xw).2 else rj))):=by
    have aP:unx s wC xw=(wC,3):=by unfold unx;rw [O I]
    have z2:rj=0:=I;obtain ⟨g1,_,g3,WI,fe,ly⟩:=VV.resolve_right (λh=>h.1 z2);obtain ⟨_,_,_,_,cu⟩:=xm.resolve_left (λh=>h.1 g1);rw [U z2,U z2,aP];exact ⟨by simp,.more BW (ft▸cu) WI I⟩
   exact ⟨_,B,_,_,.inr u7,aM,bF,aL,b6,B,B,G⟩
  refine ab ?_;have u7:(rj=0/\Po=0/\rj=0/\xw=0)\/(rj≠0/\Prs cx s D N (.inl (Po,rj))):=by
   rcases VV with ⟨g1,dt,g3,g4,fe,ly⟩ | ⟨g1,_,_,_,⟨dt,g3⟩ | ⟨dt,g3,g4⟩⟩
   . obtain ⟨_,Nb,_,_,cu⟩:=xm.resolve_left (λh=>h.1 g1)
     exact .inl ⟨dt,g3.trans Nb,dt,I⟩
   . obtain ⟨_,Nb,_,_,cu⟩:=xm.resolve_left (λh=>h.1 dt)
     exact .inr ⟨g1,.tok2 BW (ft▸cu) g3 g1⟩
   . obtain ⟨_,cu⟩:=xm.resolve_right (λh=>dt h.1)
     rw [g3,g4];exact .inr ⟨dt,.val BW (ft▸cu)⟩
  exact ⟨_,B,_,_,u7,aM,bF,aL,b6,B,B,G⟩
 intro f w ai;obtain ⟨fN,eM,u7,aM,bF,aL,b6,cV,kn,G⟩:=ai;refine aG ?_;refine Z (λIE=>?_) (λIE=>?_)
 ·have U5:Prs cx s D N (.inl (fN,eM)):=by
   rcases u7 with ⟨h,_⟩ | ⟨_,h⟩
   ·omega
   ·exact h
  refine ab ?_;refine ei G (G.pick1 2 B) mixed [(0,79),(1,80),(2,81),(3,82),(4,83)] #[true,true,true,true,true,false,false,false] ac ac ac ac ?_;refine GU ?_;refine i1 ?_;refine cW ?_;intro w G Fb;refine kb ?_;refine bn G 3 B B B aM B B bA B B ?_;intro w G l0;refine Di ?_;refine li ?_;refine S B B (av (v:=(J fN)) B B) ?_;refine Di ?_;refine lh ?_;refine S B B (av (v:=(J eM)) B B) ?_;refine l6 ?_;refine aFo ?_;exact ⟨0,[],[],[],none,0,0,fN,eM,rs,B,G.drop 5,.inl ⟨I,Bw _ U5⟩⟩
 obtain ⟨bj,bg,b4,fQ⟩:eM=0/\fN=0/\rj=0/\xw=0:=by
  rcases u7 with h | ⟨h,_⟩
  ·exact h
  ·omega
 obtain ⟨g1,_,g3,WI,fe,ly⟩:=VV.resolve_right (λh=>h.1 b4);obtain ⟨_,_,_,_,cu⟩:=xm.resolve_left (λh=>h.1 g1);subst fQ ft;refine an ?_;refine lg ?_;intro aZz w G cL3 bVb;replace G:=G.toRow (size:=5) (k:=1) B (by decide);refine ab ?_;refine S B B (cd (qs:=[(0,(J 1)),(3,.slice (some ⟨aZz,0,none⟩) 1 1),(4,(M XE))]) (bAm _ _ _ _ _) B B) ?_;refine bn G 3 B B B aM B B bA B B ?_;intro w G sF;refine an ?_;refine aFo ?_;subst ly;have hp:=Bw _ (.ok BW cu WI);obtain ⟨Ji,_,ru,fC,tail,he,aH⟩:=aT7 hp;cases he;have h2:t.print.length<=s.length:=by
  rw [<- Ji,dX,hU];simp only [aQ];omega
 rw [dT,jH,kE] at ru;exact ⟨1,[],[],_,_,_,_,0,0,_::rs,B,G.drop 5,.inr ⟨B,B,t,_,hp,aH,I,h2,(NL.snoc (NL.nil _) (c9.mono λr h=>bP _ h)).node (n:=1) B (by rw [gG,pi,List.flatten_nil,cH];exact b9 ..) _ _ _ _⟩⟩
end Go.Proofs.YthiafbkolhnadaaGreatDoor
end
