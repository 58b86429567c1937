/-
  Several texts in one: Zl, L27, L28, Ge, Gj, Gh, Gg, Gi, Gk, S1, Lw, Lz, Ra, Rc, Gl, Rs, S4, Rq, Rp, Rr, Rt, S3, S2, Rk, Tb, Qj
-/
import Derived.Test.YthiafbkolhnadaaGreatDoorVG
import Derived.ProofKit
import Derived.Test.YthiafbkolhnadaaGreatDoorRows
import Derived.Lib.LaidU8
import Derived.MakeChecks
import Derived.KernelRfl
import Derived.Test.YthiafbkolhnadaaGreatDoorCards
import Derived.Test.YthiafbkolhnadaaGreatDoorTie
import Derived.WalkKit
import Derived.OpenShut
import Derived.JoinedCond
import Derived.Deep.DeepHandedRow
import Derived.Lay
import Derived.SevenTiedAt
import Derived.Shelf.Vars
open Go.Proofs.Tryz renaming prog->W,underlying9->aF,underlying72->de,underlying3->dq,underlying70->dx,underlying5->en,underlying83->fb,underlying79->fk,underlying28->lp,underlying33->mc,underlying148->mV,underlying32->oA,underlying80->oB,underlying159->po,underlying4->pr,underlying81->qd,underlying25->q3,underlying35->q4,underlying23->r9,underlying78->sa,zeroValue4->yr,underlying299->DQ,underlying27->Hq
open List renaming length_append->aQ,length_drop->bC,mem_cons_of_mem->bP,getElem?_eq_getElem->bS,getElem?_eq_some_iff->bT,mem_cons_self->b9,mem_of_getElem?->cb,length_cons->cf,append_nil->cH,length_nil->dC,length_take->dS,append_assoc->eB,length->eC,getElem?_map->eF,mem_cons->eX,length_map->fT,flatMap_cons->gE,length_pos_iff->gF,nil_append->gG,cons_append->gT,mem_singleton->hL,getD_eq_getElem?_getD->hZ,mem_append_right->h0,mem_append->iv,take_zero->iw,mem_append_left->iM,map_cons->jk,take_succ_cons->jG,getElem?_of_mem->jX,map_append->kc,length_singleton->ll,mem_map->lm,take_of_length_le->lQ,getD->l8,drop_zero->mS,take_length->nG,drop_eq_getElem_cons->ph,flatten_cons->pi,replicate->pk,all_eq_true->p7,eq_nil_of_length_eq_zero->p8,take_succ_eq_append_getElem->p9,drop_succ_cons->r7,getElem?_drop->tc,getElem?_take->te
open UInt8 renaming ofNat->bM,toNat_inj->q5,ofNat_toNat->wz
open Nat renaming zero_le->bU,le_refl->bV,add_zero->gb,beq->gU,zero_add->gV,lt_or_ge->ma,le_trans->nI,eq_zero_or_pos->tg,mod_eq_of_lt->yo,zero_lt_one->AF
open Int renaming toNat->dw,toNat_natCast->gD
open Bool renaming and_eq_true->fS,or_eq_true->hW,eq_iff_iff->jE,not_eq_true'->kP,noConfusion->qR,false_eq_true->r0,or_eq_false_iff->uB
open List.cons renaming injEq->iL
open Option.some renaming injEq->kS,inj->mb
open Classical renaming not_not->nB
open Option renaming map_eq_some_iff->nJ,map_some->ti
set_option linter.unusedSimpArgs false
set_option linter.unusedVariables false
set_option maxHeartbeats 4000000
set_option maxRecDepth 100000
section
namespace Go.Dk
open Go Go.RowKit Go.Lib Go.Proofs.YthiafbkolhnadaaGreatDoor
variable {l:List T}{i t:Nat}{d:Dl}{s:List UInt8}{e:Ent}{dp:Int}{E:List Ent}{v:V}
theorem bYe{r:T}(hi:l[i]?=some r):nav (docD l) [i]=some (r,(prints (l.take i)).length):=by
 have h:=xA (t:=docD l) (i:=i) (is:=[]) (u:=r) (off:=0) hi (by rw [nav]);rw [h];show some (r,0+0+(prints (l.take i)).length+0)=_;simp only [gV,gb]
theorem bYc{k:Nat}{r c:T}(au:∀ r∈l,Rok d r)(hi:l[i]?=some r)(hk:r.kids[k]?=some c):nav (docD l) [i,k,0]=some (.mk 2 [] (xP c) [] [],(prints (l.take i)).length+(prints (r.kids.take k)).length):=by
 obtain ⟨ks,tl,rfl,_,he⟩:=(au r (cb hi)).form;obtain ⟨x,m,rfl,_,_⟩:=(he c (cb hk)).form;have h1:nav (.mk 5 [] [] (.mk 2 [] x [] []::m) []) [0]=some (.mk 2 [] x [] [],0):=by
  rw [xA (c:=.mk 2 [] x [] []) (off:=0) B (by rw [nav])];show some (_,0+0+(prints []).length+0)=_;rw [gx];rfl
 have h2:=xA (t:=.mk 8 [] [] ks tl) hk h1;have Y:=xA (t:=docD l) hi h2;rw [Y];show some (_,0+0+(prints (l.take i)).length+(0+0+(prints (ks.take k)).length+0))=_;simp only [gV,gb]
 rfl
theorem bYd {t u:T}{tail:List UInt8}{idx:List Nat}{off:Nat}(h:nav t idx=some (u,off)):nav (.mk 1 [] [] [t] tail) (0::idx)=some (u,off):=by
 rw [xA (t:=.mk 1 [] [] [t] tail) (c:=t) B h];show some (u,0+0+(prints []).length+off)=_;rw [gx];show some (u,0+0+0+off)=_;simp only [gV]
theorem cE9 (t:T):t.tail.length<=t.print.length:=by
 cases t;rw [dX];simp only [aQ,T.tail];omega
theorem Pd.more{d n b a e:Int}{t:T}(h:Pd cx s d n b a e (.inr t))(hs:s.length<=1000000):t.print=s/\Ck 1 t/\t.count<=2*s.length+1/\Pd cx s 48 65536 1048576 1024 65536 (.inr t):=by
 generalize hr:(Sum.inr t:Sum (Nat×Nat) T)=r at h
 cases h with
 | doc h aE hb nl =>
  subst hr;unfold okL at h;obtain ⟨h1,h2,Y,_⟩:=aUe I nl;exact ⟨h1,h2,Y,.doc (by decide) I hb (cA8 I I nl)⟩
 | lim _=>cases hr
 | size _ _=>cases hr
 | text _ _ _ _=>cases hr
def mj (dp:Int)(l:List Ent):List Ent:=l.filter λe=>decide (1<=e.path.length/\(e.path.length:Int)<=dp)
theorem bIq{l:List Ent}(hi:l[i]?=some e)(h:1<=e.path.length/\(e.path.length:Int)<=dp):mj dp (l.take (i+1))=mj dp (l.take i)++[e]:=by
 unfold mj;rw [qP hi,List.filter_append,List.filter_cons_of_pos ku,List.filter_nil]
theorem bIo{l:List Ent}(hi:l[i]?=some e)(h:¬ (1<=e.path.length/\(e.path.length:Int)<=dp)):mj dp (l.take (i+1))=mj dp (l.take i):=by
 unfold mj;rw [qP hi,List.filter_append,List.filter_cons_of_neg ku,List.filter_nil,cH]
theorem aK9(hd:1<=dp)(h:∀ e∈E,1<=e.path.length):mj dp (⟨[],0,0⟩::E)=E.filter λe=>decide (e.path.length<=dp.toNat):=by
 unfold mj;rw [List.filter_cons_of_neg (by simp)];refine List.filter_congr λe he=>?_
 have:=h e he;rw [decide_eq_decide];omega
theorem bIp{l:List Ent}:∀ e∈mj dp l,0<e.path.length:=by
 intro e he;have:=(List.mem_filter.1 he).2;simp at this;omega
theorem cA7{ps:List Value}{es:List Ent}{R:List Row}{p:Value}(hl:ps.length=es.length)(h:∀ q∈iH t ps es,q∈R)(hp:vI t p e∈R):∀ q∈iH t (ps++[p]) (es++[e]),q∈R:=by
 rw [aUd t ps es p e hl];intro q aw;rcases iv.1 aw with aw | aw
 ·exact h q aw
 ·rw [hL.1 aw];exact hp
theorem cAu{rs:List Row}{p:Value}(h:LR rs t 3 p e.path.length (e.path.flatMap e6))(ap:1<=e.path.length):vI t p e∈rs:=by
 rcases h with ⟨h1,_⟩ | h
 ·omega
 ·exact h
structure Bd (s:List UInt8) (dp:Int) (v:V) (D:Nat) (E:List Ent):Prop where
 u:uV D v []=[]::E.map (·.path)
 d:dV D v
 n:D<=100
 l:E.length<=200000
 p:∀ e∈E,1<=e.path.length
theorem Bd.len{D:Nat}(h:Bd s dp v D E):(uV D v []).length=E.length+1:=by rw [h.u,cf,fT]
theorem bAw{d n b a e:Int}{t:T}{tl:List UInt8}(hp:Pd cx s d n b a e (.inr (.mk 1 [] [] [t] tl)))(hs:s.length<=400)(h:Sd t v):Bd s dp v 100 (pT 100 t v 0 []):=by
 obtain ⟨h1,h2,Y,_⟩:=Pd.more hp I;have ru:t.count<=2*s.length+1:=by
  rw [dT,jH,kE] at Y;omega
 have hk:Ck 2 t:=by
  cases h2 with
  | mk _ _ _ hk=>exact hk t (hL.2 rfl)
 have:=Kg 100 t v 0 [];exact ⟨h.paths 100 0 [],h.dV 100 2 hk I,I,I,λe he=>Pz 100 t v 0 [] e he⟩
theorem bAx(hf:DcF s d l)(hs:s.length<=400)(h:Gv d l v):Bd s dp v 2 (rEs (nmD d l) d.hdr 2 0 l 0):=by
 have h1:=PH (nmD d l) d.hdr 2 l 0 0;have h2:=hf.cnt;exact ⟨h.paths hf,h.dV,I,I,λe he=>(Yt he).1⟩
theorem cDq(h1:1<=dp)(h2:dp<=48)(t:T)(v:V):mj dp (⟨[],0,0⟩::pT 100 t v 0 [])=pT dp.toNat t v 0 []:=by
 rw [aK9 h1 λe he=>Pz 100 t v 0 [] e he,Yb dp.toNat 100 I];refine List.filter_congr λe he=>?_
 rw [decide_eq_decide,dC,gV]
theorem cDr(h1:1<=dp):mj dp (⟨[],0,0⟩::rEs (nmD d l) d.hdr 2 0 l 0)=rEs (nmD d l) d.hdr dp.toNat 0 l 0:=by
 rw [aK9 h1 λe he=>(Yt he).1];exact (Ys (nmD d l) d.hdr (dp:=dp.toNat) I l 0 0).symm
theorem cAt{rs:List Row}{dd:List Value}(h:PLs t rs dd (E.map (·.path))):∀ (i:Nat) (e:Ent) (il:Value),((⟨[],0,0⟩:Ent)::E)[i]?=some e->(Value.slice none 0 0::dd)[i]?=some il->LR rs t 3 il e.path.length (e.path.flatMap e6)
 | 0,e,il,h1,h2=>by cases h1;cases h2;exact .inl ⟨B,B⟩
 | i+1,e,il,h1,h2=>h.2 i e.path il (by rw [eF,show E[i]?=some e from h1];rfl) h2
theorem bGx {w0 w:World}{L:List (Nat×Obj)}{R:List Row}{lT:Value}{cols:List (List UInt8)}(G:Cxr w0 w L R)(h:LR R 9 1 lT cols.length (cols.map λx=>Value.string (bs x))):Cls w lT (cols.map bs):=by
 rcases h with ⟨h1,h2⟩ | h
 . obtain rfl:=p8 h1
   subst h2;exact wL (cs:=[]) (G.nilRow 9 1) B
 ·exact wL (u:=9) (n:=cols.length) (by rw [List.map_map];exact G.oneR h) (by rw [fT])
theorem Lc.ilen {t u:T}{p:List Stp}{idx:List Nat}{off:Nat}(h:Lc t p idx u off):idx.length=2*p.length:=by
 induction h with
 | nil t=>rfl
 | list he hy h ih=>simp only [cf,ih];omega
 | map he hd hs hy h ih=>simp only [cf,ih];omega
end Go.Dk
end
section
namespace Go.Proofs.YthiafbkolhnadaaGreatDoor
open Go Go.Dk Go.RowKit Go.Lib
attribute [local irreducible] Go.wpList Go.Code.wp Go.bodyPost Go.wpStill Go.wpQuiet
variable {s:List UInt8}{bD bK af aj ak:Int}
theorem bEx (D:Nat)(v:V)(cells:List Value)(w0:World)(hv:Vw w0 v cells)(hd:dV D v)(dF:D<=400)(hl:(uV D v []).length<=1000000):Ret W 37 [.agg cells.toArray] w0 (λu w'=>∃ (dd:List Value) (rs:List Row),Cxr w0 w' [] (⟨28,1,u,(uV D v []).length,al::dd⟩::rs)/\PLs 107 rs dd (uV D v []).tail):=by
 obtain ⟨ol,uo,um,rfl,_⟩:=hv.form;refine aI Tryz.func37 B Tryz.ntmps37 B ?_;have G:=Ctx.start w0;refine ag ?_;refine bE ?_;intro b1 w G er fX;refine aq ?_;refine bW (aWz D v _ [] (al) _ (hv.up G.ext) hd (LR.pth (e:=107) (F:=[]) ⟨Below.refl _ _,by simp,by simp,by simp,by simp,by simp,by simp⟩ (.inl ⟨B,B⟩)) (by show 0+D<=500;omega) hl) Tryz.func86 B B B B B B ?_;rintro v4 w ⟨dd,rs,cq,fp⟩;replace G:=G.callRows cq;refine ae ?_;refine be Tryz.results37 B ?_;exact ⟨dd,_,G.drop 1,fp.mono λr h=>iM _ h⟩
theorem S1 (a:Option Addr)(n c:Nat)(x y:Int)(w:World):(Instr.build 52 ([(0,.slice a n c),(1,.agg #[.int .i64 x,.int .i64 y])]:List (Nat×Value)).toArray).run W w=.ok (.agg #[.slice a n c,.int .i64 x,.int .i64 y]) w:=by
 go_simp
 try rfl
theorem bE7 (t u:T)(tail:List UInt8)(cs:List Value)(d:Dl)(p:List Stp)(idx:List Nat)(off lo hi:Nat)(ed:Value)(w0:World)(js:Nw w0 (.mk 1 [] [] [t] tail) cs)(jL:Ck 1 (.mk 1 [] [] [t] tail))(qq:Gt t)(yQ:(T.mk 1 [] [] [t] tail).count<=524288)(kK:(T.mk 1 [] [] [t] tail).print.length<=400000)(dc:Pd cx (T.mk 1 [] [] [t] tail).print 48 65536 1048576 1024 65536 (.inr (.mk 1 [] [] [t] tail)))(hp:Pth w0 ed p)(aH:ou p)(I1:Lc t p idx u off)(j3:lo=off+u.lead.length)(tM:hi=off+u.print.length)(rB:idx.length<=10000):Ret W 38 [.int .i64 1,.agg cs.toArray,.agg #[.int .u8 ((d.sep.toNat:Nat):Int),.int .u8 ((d.quo.toNat:Nat):Int),.bool d.hdr,.bool d.typ],ed] w0 (λu w'=>u=.agg #[ed,J lo,J hi]/\Below w0.heap.size w0 w'):=by
 obtain ⟨la,lc,lb,rfl,hlc,ez,dN⟩:=js.kids;obtain ⟨fP,eV,vG,uj,rfl,jP,cu⟩:=hp.form;refine Sv ?_;have G:=Ctx.start w0;refine ag ?_;refine bE ?_;intro bH w G fl fg;refine bE ?_;intro bq w G gX hF;refine Gq ?_;intro cP w G lB jg;refine ae ?_;refine C2 ?_;intro eZ w G rp tY;refine aG ?_;refine cn B (λc8=>?_) (λc8=>?_)
 ·try simp only [dy] at c8
  refine an ?_;refine bW (bGb t u tail _ p idx off _ _ (js.up G.ext) jL qq yQ kK dc (hp.up G.ext) aH I1) Tryz.func87 B B B B B B ?_;rintro v20 w ⟨gw,rs,rfl,cq⟩;replace G:=G.callRows cq;refine an ?_;refine mQ ?_;refine aq ?_;refine bo G (aJz (.mk 1 [] [] [t] tail) u _ off (0::idx) _ _ (js.up G.ext) (LR.slr G (.inr (b9 ..)) AF) (bYd I1.nav) (by simp only [cf];omega) I I) Tryz.func88 B B B B B B ?_;intro w G E8;refine ae ?_;refine Q9 ?_;intro w G hG;refine aq ?_;refine S B B (cd (qs:=[(0,.slice fP p.length eV),(1,.agg #[J (off+u.lead.length),J (off+u.print.length)])]) (S1 _ _ _ _ _) B B) ?_;refine bn G 1 B B B B B B qO B B ?_;intro w G rK;refine ag ?_;refine aGm ?_;exact ⟨by rw [j3,tM],G.ext⟩
 exact absurd c8 (by decide)
theorem bE8 (l:List T)(d:Dl)(la:Option Addr)(lc lb:Nat)(p:List Stp)(ed:Value)(i k:Nat)(dA fa:Stp)(x:List UInt8)(off lo hi:Nat)(w0:World)(hv:DtV w0 d l la lc lb)(hp:Pth w0 ed p)(aH:ou p)(Ez:∀ v,Gv d l v->Fnd v p)(ff:p.length=2)(ap:p[0]?=some dA)(h1:p[1]?=some fa)(aB:dA.index=((ii d.hdr i:Nat):Int))(hS:i<l.length)(hk:k<=100000)(tM:d.hdr=true->0<i)(WE:d.hdr=false->fa.index=(k:Int))(ck:d.hdr=true->∃ k4,(nmD d l)[k]?=some k4/\fa.key=bs k4)(xb:nav (docD l) [i,k,0]=some (.mk 2 [] x [] [],off))(j3:lo=off)(Vm:hi=off+x.length):Ret W 38 [.int .i64 4,.agg (nrow 1 [] [] (.slice la l.length lc) []).toArray,.agg #[.int .u8 ((d.sep.toNat:Nat):Int),.int .u8 ((d.quo.toNat:Nat):Int),.bool d.hdr,.bool d.typ],ed] w0 (λu w'=>u=.agg #[ed,J lo,J hi]/\Below w0.heap.size w0 w'):=by
 obtain ⟨fP,eV,vG,uj,rfl,jP,cu⟩:=hp.form;refine Sv ?_;have G:=Ctx.start w0;refine ag ?_;refine bE ?_;intro bH w G fl fg;refine bE ?_;intro bq w G gX hF;refine Gq ?_;intro cP w G lB jg;refine ae ?_;refine C2 ?_;intro eZ w G rp tY;refine aG ?_;refine cn B (λc8=>?_) (λc8=>?_)
 ·exact absurd c8 (by decide)
 try simp only [dy] at c8
 refine bz ?_;refine Z (λwV=>?_) (λwV=>?_)
 ·refine aq ?_;refine bW (bGc l d la lc lb p _ i k dA fa _ (hv.up G.ext) (hp.up G.ext) aH Ez ff ap h1 aB hS hk tM WE ck) Tryz.func89 B B B B B B ?_;rintro cGf w ⟨gw,rs,rfl,cq⟩;replace G:=G.callRows cq;refine an ?_;refine mQ ?_;refine aq ?_;refine bo G (aJz (docD l) (.mk 2 [] x [] []) _ off [i,k,0] _ _ (hv.nw.up G.ext) (LR.slr G (.inr (b9 ..)) AF) xb (by show 3<=1000000;decide) (by have:=hv.cnt;unfold docD;rw [dT];omega) (by rw [hv.print];have:=hv.ln;omega)) Tryz.func88 B B B B B B ?_;intro w G OA;refine ae ?_;refine Q9 ?_;intro w G qy;refine aq ?_;refine S B B (cd (qs:=[(0,.slice fP p.length eV),(1,.agg #[J (off+(T.mk 2 [] x [] []).lead.length),J (off+(T.mk 2 [] x [] []).print.length)])]) (S1 _ _ _ _ _) B B) ?_;refine bn G 1 B B B B B B qO B B ?_;intro w G oY;refine ag ?_;refine aGm ?_;exact ⟨by rw [j3,Vm,dX];simp only [gx,gG,cH];rfl,G.ext⟩
 exfalso;omega
theorem bE9 (l:List T)(d:Dl)(la:Option Addr)(lc lb:Nat)(p:List Stp)(ed:Value)(i:Nat)(dA:Stp)(r:T)(off lo hi:Nat)(w0:World)(hv:DtV w0 d l la lc lb)(hp:Pth w0 ed p)(km:p.length=1)(ap:p[0]?=some dA)(qz:dA.index=((ii d.hdr i:Nat):Int))(mq:l[i]?=some r)(tM:d.hdr=true->0<i)(xb:nav (docD l) [i]=some (r,off))(j3:lo=off)(Vm:hi=off+r.print.length-r.tail.length):Ret W 38 [.int .i64 4,.agg (nrow 1 [] [] (.slice la l.length lc) []).toArray,.agg #[.int .u8 ((d.sep.toNat:Nat):Int),.int .u8 ((d.quo.toNat:Nat):Int),.bool d.hdr,.bool d.typ],ed] w0 (λu w'=>u=.agg #[ed,J lo,J hi]/\Below w0.heap.size w0 w'):=by
 obtain ⟨fP,eV,vG,uj,rfl,jP,cu⟩:=hp.form;refine Sv ?_;have G:=Ctx.start w0;have jr:=hv.cnt;have nW:=hv.ln;have hS:=(bT.1 mq).1;have vt:=cE9 r;have rF:=Pf xb;rw [hv.print] at rF;obtain ⟨PK,tR,xk⟩:=hv.kid i _ mq;obtain ⟨iQ,hN,jm,rfl,_⟩:=tR.kids2;refine ag ?_;refine bE ?_;intro bH w G fl fg;refine bE ?_;intro bq w G gX hF;refine Gq ?_;intro cP w G lB jg;refine ae ?_;refine C2 ?_;intro eZ w G rp tY;refine aG ?_;refine cn B (λc8=>?_) (λc8=>?_)
 ·exact absurd c8 (by decide)
 try simp only [dy] at c8
 refine bz ?_;refine Z (λwV=>?_) (λwV=>?_)
 ·exfalso;omega
 refine an ?_;refine L2 ?_;refine ab ?_;refine aGk ?_;refine S B B (av (v:=.int .i64 (dA.index)) B B) ?_;refine ab ?_;refine cw (λf ah=>f 14=J i/\f 0=J 4/\f 1=.agg #[J 1,M [],M [],.slice la l.length lc,M []]/\f 2=.agg #[.int .u8 ((d.sep.toNat:Nat):Int),.int .u8 ((d.quo.toNat:Nat):Int),.bool (d.hdr),.bool (d.typ)]/\f 3=.slice fP p.length eV/\f 5=ao bH 0/\f 6=ao bq 0/\f 8=ao cP 0/\f 9=ao eZ 0/\Cxr w0 ah [(eZ,aa 48 [J 0,J 0]),(cP,aa 52 [al,J 0,J 0]),(bq,aa 25 [.int .u8 ((d.sep.toNat:Nat):Int),.int .u8 ((d.quo.toNat:Nat):Int),.bool (d.hdr),.bool (d.typ)]),(bH,aa 72 [J 1,M [],M [],.slice la l.length lc,M []])] []) ?_ ?_
 ·refine aq ?_;refine Z (λnQ=>?_) (λnQ=>?_)
  ·have a1:d.hdr=true:=by simpa using nQ
   have kk:ii d.hdr i=i-1:=by rw [a1];rfl
   have oV:=tM a1;refine ae ?_;refine S B B (av (v:=.int .i64 ((dA.index)+((1:Nat):Int))) B B) ?_;refine ab ?_;exact KW
  have a1:d.hdr=false:=by simpa using nQ
  have kk:ii d.hdr i=i:=by rw [a1];rfl
  refine ab ?_;exact KW
 intro f w ai;obtain ⟨mu,aB,aK,aE,aR,bF,aL,bb,b6,G⟩:=ai;refine an ?_;refine C4 ?_;intro cJg w G aNj bU5;replace G:=G.toRow (size:=1) (k:=1) B (by decide);refine bo G (yz (docD l) r _ off [i] _ _ (hv.nw.up G.ext) (LR.slr G (.inr (b9 ..)) AF) xb (by show 1<=1000000;decide) (by have:=hv.cnt;unfold docD;rw [dT];omega) (by rw [hv.print];have:=hv.ln;omega)) Tryz.func90 B B B B B B ?_;intro w G WW;refine ae ?_;refine bn G 0 B B B b6 B B vQ B B ?_;intro w G np;refine ag ?_;refine ei G (G.pick2 0 3 B B B) mixed [(0,66),(1,67),(2,68),(3,69),(4,70),(5,71),(6,72),(7,73),(8,74),(9,75),(10,76)] #[true,true,true,true,true,true,true,true,true,true,true,false] ac ac ac ac ?_;refine i1 ?_;refine eY ?_;refine aGh ?_;refine eY ?_;refine bw B (bx B) (λw G=>br B B aF B ((xk.up G.ext).cell 4 B)) ?_;refine lk ?_;refine cW ?_;intro w G Fb;refine mO ?_;refine bR (v:=.int .i64 (((off+r.print.length:Nat):Int)-((r.tail.length:Nat):Int))) G 0 B B B B B B B B bN ?_;intro w G l0;refine hY ?_;refine an ?_;refine S B B (cd (qs:=[(0,.slice fP p.length eV),(1,.agg #[J off,.int .i64 (((off+r.print.length:Nat):Int)-((r.tail.length:Nat):Int))])]) (S1 _ _ _ _ _) B B) ?_;refine bn G 1 B B B bb B B qO B B ?_;intro w G sF;refine ag ?_;refine j8 Tryz.results38 bb (G.at 1 B) Tryz.underlying52 B qO ?_;exact ⟨by rw [j3,Vm];exact aD (λz=>Value.agg #[.slice fP p.length eV,J off,Value.int .i64 z]) I,G.ext⟩
theorem bA6  (w:World):(Instr.build 35 ([]:List (Nat×Value)).toArray).run W w=.ok (.agg #[J 0,J 0,J 0,al,al]) w:=by
 go_simp
 try rfl
theorem bA7 (bj:Int)(bg:Nat)(b4:Int)(w:World):(Instr.build 35 ([(0,.int .i64 (bj)),(1,(J bg)),(2,.int .i64 (b4))]:List (Nat×Value)).toArray).run W w=.ok (.agg #[.int .i64 (bj),J bg,.int .i64 (b4),al,al]) w:=by
 go_simp
 try rfl
theorem bD9 (s:List UInt8)(bD bK af aj ak:Int)(w0:World)(hs:s.length<=400):Ret W 32 [M s,.agg #[.int .i64 bD,.int .i64 bK,.int .i64 af,.int .i64 aj,.int .i64 ak]] w0 (λv w'=>∃ (x:V) (cS cZ c0:Value) (o bk:Nat) (rs:List Row),v=.tuple #[.agg (vrow x.sc cS cZ c0).toArray,J o,J bk]/\cS.oneCell'=true/\cZ.oneCell'=true/\c0.oneCell'=true/\Cxr w0 w' [] rs/\((bk≠0/\Pd cx s bD bK af aj ak (.inl (o,bk)))\/(bk=0/\o=0/\(∃ (t:T) (tail:List UInt8),Pd cx s bD bK af aj ak (.inr (.mk 1 [] [] [t] tail))/\Sd t x)/\RR 83 133 rs x (vrow x.sc cS cZ c0)))):=by
 refine (bD4 s bD bK af aj ak w0 I).mono ?_;rintro v w' (⟨o,bk,he,hp,rfl,hb⟩ | ⟨t,tl,x,cells,rs,rfl,hp,BU,dH,G⟩)
 ·exact ⟨.mk ⟨0,false,false,ByteArray.empty,0,0,0,0,0,ByteArray.empty⟩ [] [] [],_,_,_,o,bk,[],B,B,B,B,⟨hb,by simp,by simp,by simp,by simp,by simp,by simp⟩,.inl ⟨he,hp⟩⟩
 . obtain ⟨cS,cZ,c0,rfl,h1,h2,Y⟩:=dH.form G
   exact ⟨x,cS,cZ,c0,0,0,rs,B,h1,h2,Y,G,.inr ⟨B,B,⟨t,tl,hp,BU⟩,dH⟩⟩
theorem bEl (s:List UInt8)(d:Dl)(bD bK af aj ak:Int)(w0:World)(hs:s.length<=400):Ret W 34 [M s,.agg #[.int .u8 ((d.sep.toNat:Nat):Int),.int .u8 ((d.quo.toNat:Nat):Int),.bool d.hdr,.bool d.typ],.agg #[.int .i64 bD,.int .i64 bK,.int .i64 af,.int .i64 aj,.int .i64 ak]] w0 (λv w'=>∃ (x:V) (cS cZ c0:Value) (o bk:Nat) (rs:List Row),v=.tuple #[.agg (vrow x.sc cS cZ c0).toArray,J o,J bk]/\cS.oneCell'=true/\cZ.oneCell'=true/\c0.oneCell'=true/\Cxr w0 w' [] rs/\((bk≠0/\Pq s d bD bK af aj ak (.inl (o,bk)))\/(bk=0/\o=0/\(∃ (l:List T),Pq s d bD bK af aj ak (.inr (docD l))/\Gv d l x)/\RR 83 133 rs x (vrow x.sc cS cZ c0)))):=by
 refine (bEg s d bD bK af aj ak w0 I).mono ?_;rintro v w' (⟨o,bk,he,hp,rfl,hb⟩ | ⟨l,x,cells,rs,rfl,hp,w4,dH,G⟩)
 ·exact ⟨.mk ⟨0,false,false,ByteArray.empty,0,0,0,0,0,ByteArray.empty⟩ [] [] [],_,_,_,o,bk,[],B,B,B,B,⟨hb,by simp,by simp,by simp,by simp,by simp,by simp⟩,.inl ⟨he,hp⟩⟩
 . obtain ⟨cS,cZ,c0,rfl,h1,h2,Y⟩:=dH.form G
   exact ⟨x,cS,cZ,c0,0,0,rs,B,h1,h2,Y,G,.inr ⟨B,B,⟨l,hp,w4⟩,dH⟩⟩
def SI (t0:T)(fmt:Int)(d:Dl)(e:Ent):Prop:=∀ (cs:List Value) (ed:Value) (w:World),Nw w t0 cs->Pth w ed e.path->Ret W 38 [.int .i64 fmt,.agg cs.toArray,.agg #[.int .u8 ((d.sep.toNat:Nat):Int),.int .u8 ((d.quo.toNat:Nat):Int),.bool d.hdr,.bool d.typ],ed] w (λu w'=>u=.agg #[ed,.int .i64 e.fr,.int .i64 e.tu]/\Below w.heap.size w w')
theorem bZc{t:T}{tl:List UInt8}{v:V}(d:Dl)(dc:Pd cx s bD bK af aj ak (.inr (.mk 1 [] [] [t] tl)))(hs:s.length<=400)(BU:Sd t v)(qq:Gt t):∀ e∈pT 100 t v 0 [],e.path.length<=48->SI (.mk 1 [] [] [t] tl) 1 d e:=by
 intro e he Uz cs ed w fo hp;obtain ⟨p,idx,u,off,hlc,rfl⟩:=BU.lc 100 0 [] e he;obtain ⟨h1,h2,Y,ar⟩:=Pd.more dc I;have ru:t.count<=2*s.length+1:=by
  have:=Y;rw [dT,jH,kE] at this;omega
 have bMz:p.length<=48:=Uz;have hS:=hlc.ilen;exact bE7 t u tl cs d p idx off _ _ ed w fo h2 qq I (by rw [h1];omega) (by rw [h1];exact ar) hp ⟨bMz,hlc.stv I⟩ hlc I I I
theorem bH2 {w:World}{d:Dl}{l:List T}{cs:List Value}(fo:Nw w (docD l) cs)(dc:Pq s d bD bK af aj ak (.inr (docD l)))(hs:s.length<=9000):∃ (la:Option Addr) (lc lb:Nat),cs=nrow 1 [] [] (.slice la l.length lc) []/\DtV w d l la lc lb:=by
 obtain ⟨la,lc,lb,rfl,hlc,ez,dN⟩:=fo.kids;have cu:prints l=s:=dc.fact.txt;obtain ⟨_,EI⟩:=dc.more I;exact ⟨la,lc,lb,B,⟨fo,by rw [cu];exact EI,by rw [cu];exact hs,ez,dN⟩⟩
theorem bZd{d:Dl}{l:List T}(dc:Pq s d bD bK af aj ak (.inr (docD l)))(hs:s.length<=400):∀ e∈rEs (nmD d l) d.hdr 2 0 l 0,e.path.length<=48->SI (docD l) 4 d e:=by
 intro e he _ cs ed w fo hp;obtain ⟨la,lc,lb,rfl,hv⟩:=bH2 fo dc I;have hf:=hv.fact;have jr:=hv.cnt;rcases aU3 he with ⟨i,r,hi,hn,rfl⟩ | ⟨i,k,r,c,hi,hn,hk,rfl⟩
 ·exact bE9 l d la lc lb _ ed i (mF (ii d.hdr i)) r _ _ _ w hv hp B B B hi (λh=>Nat.pos_of_ne_zero λap=>hn ⟨h,ap⟩) (bYe hi) B B
 . have hS:=(bT.1 hi).1
   have lE:=(bT.1 hk).1;have hq:=(kq (cb hi)).1;have j0:=jv r.kids;have jn:r.count=1+counts r.kids:=by cases r;exact dT ..
   refine bE8 l d la lc lb _ ed i k (mF (ii d.hdr i)) (mf (nmD d l) k) (xP c) _ _ _ w hv hp (bGo hf I hi hk) (λv w4=>bGn w4 hf I hi hn hk) B B B B hS I (λh=>Nat.pos_of_ne_zero λap=>hn ⟨h,ap⟩) (λh=>?_) (λh=>?_) (bYc hf.ok hi hk) B B
   ·unfold mf;rw [U (FA l h)]
   . have h1:=hf.nml h r (cb hi)
     obtain ⟨k4,lF⟩:∃ k4,(nmD d l)[k]?=some k4:=⟨_,bS I⟩;refine ⟨k4,lF,?_⟩;unfold mf;rw [O (hf.nmn h (λe=>by rw [e] at hi;cases hi)),hZ,lF];rfl
theorem AR (s:List UInt8)(fmt dp:Int)(d:Dl)(bD bK af aj ak:Int)(w0:World)(hs:s.length<=400):Ret W 10 [.int .i64 fmt,M s,.int .i64 dp,.agg #[.int .i64 (bD),.int .i64 (bK),.int .i64 (af),.int .i64 (aj),.int .i64 (ak),.int .u8 ((d.sep.toNat:Nat):Int),.int .u8 ((d.quo.toNat:Nat):Int),.bool (d.hdr),.bool (d.typ)]] w0 (λv w'=>∃ (x:Idx) (o k:Int) (r:List Value),v=.tuple #[.agg r.toArray,.int .i64 o,.int .i64 k]/\IdxV w' x r/\Bx cx s fmt dp d bD bK af aj ak x o k/\Below w0.heap.size w0 w'):=by
 refine aI Tryz.func10 B Tryz.ntmps10 B ?_;have G:=Ctx.start w0;have b6:s.length<=9000:=I;refine dR ?_;refine bE ?_;intro b7 w G nO iW;refine Aa ?_;intro cP w G lB jg;refine kB ?_;refine jF ?_;refine jj ?_;refine eR ?_;refine l7 ?_;refine x5 ?_;refine x6 ?_;refine Df ?_;refine eW ?_;refine yb ?_;refine eW ?_;refine yb ?_;refine eA ?_;refine Z (λBm=>?_) (λBm=>?_)
 ·have aNb:(fmt≠1/\fmt≠4)\/dp<1\/48<dp:=I;refine dR ?_;refine Sw ?_;refine Ab ?_;intro w G jh;refine pe ?_;refine mG Tryz.results10 B B B (G.at 0 B) q4 B oi ?_;exact aAv
 have ry:(fmt=1\/fmt=4)/\1<=dp/\dp<=48:=I;refine iZ ?_;refine eR ?_;refine eW ?_;refine Aq ?_;refine eW ?_;refine S B B (cd (qs:=[(0,.int .i64 (fmt)),(1,(J s.length)),(2,.int .i64 (dp))]) (bA7 _ _ _) B B) ?_;refine Aa ?_;intro da w G tD pN;refine Ab ?_;intro w G ig;refine uH ?_;refine dv ?_;intro eD w G lA mx;refine uH ?_;refine fD ?_;intro jY w G Iw qx;refine eA ?_;refine cw (λf ah=>∃ (dn:V) (cS cZ c0 lT:Value) (t0:T) (k:Nat) (cI bl ev:List UInt8) (cB:Option Addr) (n2 n3 D:Nat) (cols:List (List UInt8)) (E:List Ent) (rs:List Row),(RR 83 133 rs dn (vrow dn.sc cS cZ c0))/\(NR rs t0 (nrow k cI bl (.slice cB n2 n3) ev))/\(Bd s dp dn D E)/\(∀ e∈E,e.path.length<=48->SI t0 fmt d e)/\(Bx cx s fmt dp d bD bK af aj ak ⟨fmt,s.length,dp,mj dp (⟨[],0,0⟩::E),cols.map bs⟩ 0 0)/\(LR rs 9 1 lT cols.length (cols.map λx=>(M x)))/\(lT.oneCell'=true)/\f 0=.int .i64 (fmt)/\f 1=M s/\f 2=.int .i64 (dp)/\f 7=ao b7 0/\f 8=ao cP 0/\f 11=ao da 0/\f 12=ao eD 0/\f 13=ao jY 0/\Cxr w0 ah [(jY,aa 83 [.int .i64 (dn.sc.kind),.bool (dn.sc.b),.bool (dn.sc.neg),.string dn.sc.dig,.int .i64 (dn.sc.exp),.int .i64 (dn.sc.tk),.int .i64 (dn.sc.td),.int .i64 (dn.sc.tn),.int .i64 (dn.sc.tz),.string dn.sc.text,cS,cZ,c0]),(eD,aa 72 [J k,M cI,M bl,.slice cB n2 n3,M ev]),(da,aa 35 [.int .i64 (fmt),J s.length,.int .i64 (dp),al,lT]),(cP,aa 35 [J 0,J 0,J 0,al,al]),(b7,aa 27 [.int .i64 (bD),.int .i64 (bK),.int .i64 (af),.int .i64 (aj),.int .i64 (ak),.int .u8 ((d.sep.toNat:Nat):Int),.int .u8 ((d.quo.toNat:Nat):Int),.bool (d.hdr),.bool (d.typ)])] (rs)) ?_ ?_
 ·refine eR ?_;refine l5 ?_;refine Z (λiT=>?_) (λiT=>?_)
  ·have Ve:fmt=1:=I;refine eR ?_;refine L9 ?_;refine R6 ?_;refine bW (bD9 s bD bK af aj ak _ hs) Tryz.func32 B B B B B B ?_;rintro cUg w ⟨dn,cS,cZ,c0,o,bk,aVl,rfl,gM,gi,iV,TE,cu⟩;replace G:=G.callRows TE;simp only [cH] at G;refine p5 ?_;refine Ao ?_;refine fD ?_;intro yt w G Eo oX;refine Q1 ?_;intro w G iD;refine pg ?_;refine Ay ?_;refine Z (λkH=>?_) (λkH=>?_)
   ·obtain ⟨nS,dc⟩:=cu.resolve_right (λh=>I);refine dR ?_;refine Sw ?_;refine eW ?_;refine eW ?_;refine bn G 4 B B B B B B oi B B ?_;intro w G oY;refine pg ?_;refine yc ?_;refine aGn ?_;exact ⟨⟨0,0,0,[],[]⟩,_,_,_,B,⟨al,al,B,A3 (t:=107) (ps:=[]) (es:=[]) (G.nilRow 52 3) B B (λq h=>by cases h),wL (cs:=[]) (G.nilRow 9 1) B⟩,.berr Ve ry.2.1 ry.2.2 dc,G.ext⟩
   obtain ⟨_,_,⟨t,tail,dc,BU⟩,dH⟩:=cu.resolve_left (λh=>h.1 I);refine tb ?_;refine aGo ?_;refine aDd ?_;intro w G lI;refine eA ?_;refine nE ?_;refine eW ?_;refine L9 ?_;refine aGp ?_;refine bW (Tm s bD bK af aj ak _ I) Tryz.func33 B B B B B B ?_;rintro cUk w ⟨k,cI,bl,ev,cB,n2,n3,ik,aZ,rs2,rfl,cq,Ji⟩;obtain ⟨_,_,t2,YP,xe,qq,_,_,c9⟩:=Ji.resolve_left (λh=>by cases h.2.det dc);obtain ⟨rfl,rfl⟩:t2=t/\YP=tail:=by
    have h:=Sum.inr.inj (xe.det dc)
    injection h with _ _ _ h1 h2
    exact ⟨(List.cons.inj h1).1,h2⟩
   replace G:=G.callRows cq;refine p5 ?_;refine Ao ?_;refine bn G 2 B B B B B B bA B (lL B) ?_;intro w G sE;refine eA ?_;subst Ve;exact ⟨_,B,dn,cS,cZ,c0,al,_,_,_,_,_,_,_,_,100,[],pT 100 t2 dn 0 [],_,(dH.mono λr h=>h0 _ h),(c9.mono λr h=>iM _ h),(bAw dc hs BU),(bZc d dc hs BU qq),(by rw [cDq ry.2.1 ry.2.2];exact .bok B ry.2.1 ry.2.2 dc BU.shp),.inl ⟨B,B⟩,B,B,B,B,B,B,B,B,B,G.drop 1⟩
  have aOb:fmt=4:=I;refine eR ?_;refine S B B (bO Ia B B) ?_;refine S B B (cG (l:=[.int .u8 ((d.sep.toNat:Nat):Int),.int .u8 ((d.quo.toNat:Nat):Int),.bool (d.hdr),.bool (d.typ)]) B B q3 B pW ((G.row 4 B).sub 5 B) B) ?_;refine L9 ?_;refine R6 ?_;refine bW (bEl s d bD bK af aj ak _ hs) Tryz.func34 B B B B B B ?_;rintro aXa w ⟨dn,cS,cZ,c0,o,bk,aVl,rfl,gM,gi,iV,TE,cu⟩;replace G:=G.callRows TE;simp only [cH] at G;refine p5 ?_;refine Ao ?_;refine fD ?_;intro q9 w G aNg E6;refine Q1 ?_;intro w G n1;refine pg ?_;refine Ay ?_;refine Z (λUS=>?_) (λUS=>?_)
  ·obtain ⟨nS,dc⟩:=cu.resolve_right (λh=>I);refine dR ?_;refine Sw ?_;refine eW ?_;refine eW ?_;refine bn G 4 B B B B B B oi B B ?_;intro w G l0;refine pg ?_;refine yc ?_;refine aGn ?_;exact ⟨⟨0,0,0,[],[]⟩,_,_,_,B,⟨al,al,B,A3 (t:=107) (ps:=[]) (es:=[]) (G.nilRow 52 3) B B (λq h=>by cases h),wL (cs:=[]) (G.nilRow 9 1) B⟩,.derr aOb ry.2.1 ry.2.2 dc,G.ext⟩
  obtain ⟨_,_,⟨l,dc,w4⟩,dH⟩:=cu.resolve_left (λh=>h.1 I);refine tb ?_;refine aGo ?_;refine aDd ?_;intro w G sF;refine Dy ?_;refine S B B (bO Ia B B) ?_;refine aGq ?_;refine L9 ?_;refine aGp ?_;refine bW (Tp s d bD bK af aj ak _ I) Tryz.func35 B B B B B B ?_;rintro KD w ⟨k,cI,bl,ev,cB,n2,n3,ik,aZ,rs2,rfl,cq,Ji⟩;obtain ⟨_,_,fh,xe,c9⟩:=Ji.resolve_left (λh=>by cases h.2.det dc);obtain rfl:fh=l:=by
   have h:=Sum.inr.inj (xe.det dc)
   injection h
  replace G:=G.callRows cq;have VS:NR (rs2++aVl) (docD fh) _:=c9.mono λr h=>iM _ h
  obtain ⟨rfl,rfl,rfl,rfl,rfl,_,_⟩:=TO (VS.vw G) dc b6;refine p5 ?_;refine Ao ?_;refine bn G 2 B B B B B B bA B (lL B) ?_;intro w G xo;refine uH ?_;refine S B B (cG B B de B bA (G.row 2 B) B) ?_;refine S B B (bO Ia B B) ?_;refine aGq ?_;obtain ⟨_,_,_,_,_,lb,U2⟩:=TO (VS.vw G) dc b6;refine bW (aJq fh d cB n3 lb _ U2) Tryz.func36 B B B B B B ?_;rintro cUt w ⟨lT,rQ,rfl,oI,hP⟩;replace G:=G.callRows oI;obtain ⟨jw,iX,nq,rfl,_,_,_⟩:=hP.sl2 oI (by decide);refine p5 ?_;refine S B B (av (v:=.slice jw (nmD d fh).length iX) B B) ?_;refine mQ ?_;refine eA ?_;refine nE ?_;refine eW ?_;refine S B B (bO Bb B B) ?_;refine bR (v:=.slice jw (nmD d fh).length iX) G 3 B B B B B B B B FY ?_;intro w G xp;refine eA ?_;subst aOb;exact ⟨_,B,dn,cS,cZ,c0,_,docD fh,1,[],[],[],_,_,_,2,nmD d fh,rEs (nmD d fh) d.hdr 2 0 fh 0,_,(dH.mono λr h=>h0 _ (h0 _ h)),(VS.mono λr h=>h0 _ h),(bAx dc.fact hs w4),(bZd dc hs),(by rw [cDr ry.2.1];exact .dok B ry.2.1 ry.2.2 dc),(hP.mono λr h=>iM _ h),B,B,B,B,B,B,B,B,B,G.drop 1⟩
 intro f w ai;obtain ⟨dn,cS,cZ,c0,lT,t0,k,cI,bl,ev,cB,n2,n3,D,cols,E,rs,dH,c9,lC,VX,bN4,IG,bOz,aB,aK,aE,aS,bb,cv,cV,kn,G⟩:=ai;refine dR ?_;refine S B B (cG B kn fb B c6 (G.row 0 B) B) ?_;refine bW (bEx D dn _ _ (dH.vw G) lC.d (by have:=lC.n;omega) (by rw [lC.len];have:=lC.l;omega)) Tryz.func37 B B B B B B ?_;rintro Kz w ⟨dd,rs2,cq,fp⟩;rw [lC.len] at cq;rw [lC.u,List.tail_cons] at fp;replace G:=G.callRows cq;have bNa:LR ((⟨28,1,Kz,E.length+1,al::dd⟩::rs2)++rs) 28 1 Kz (E.length+1) (al::dd):=.inr (b9 ..);obtain ⟨zD,mD,Yo,rfl,_,Wt,Wu⟩:=bNa.sl2 (G.drop 5) (by decide);have bS1:=fp.1;rw [fT] at bS1;have cK2:=lC.l;refine S B B (av (v:=.slice zD (E.length+1) mD) B B) ?_;refine p4 ?_;refine dR ?_;refine jF ?_;refine ox ?_;refine bu (λg f ah=>∃ (i:Nat) (aW:Value) (ps:List Value),g=E.length+1-i/\(i<=E.length+1)/\(ps.length=(mj dp ((⟨[],0,0⟩::E).take i)).length)/\(∀ q∈iH 107 ps (mj dp ((⟨[],0,0⟩::E).take i)),q∈((⟨28,1,.slice zD (E.length+1) mD,E.length+1,al::dd⟩::rs2)++rs))/\f 23=J i/\f 0=.int .i64 (fmt)/\f 2=.int .i64 (dp)/\f 7=ao b7 0/\f 8=ao cP 0/\f 11=ao da 0/\f 12=ao eD 0/\f 22=.slice zD (E.length+1) mD/\Cxr w0 ah [(jY,aa 83 [.int .i64 (dn.sc.kind),.bool (dn.sc.b),.bool (dn.sc.neg),.string dn.sc.dig,.int .i64 (dn.sc.exp),.int .i64 (dn.sc.tk),.int .i64 (dn.sc.td),.int .i64 (dn.sc.tn),.int .i64 (dn.sc.tz),.string dn.sc.text,cS,cZ,c0]),(eD,aa 72 [J k,M cI,M bl,.slice cB n2 n3,M ev]),(da,aa 35 [.int .i64 (fmt),J s.length,.int .i64 (dp),aW,lT]),(cP,aa 35 [J 0,J 0,J 0,al,al]),(b7,aa 27 [.int .i64 (bD),.int .i64 (bK),.int .i64 (af),.int .i64 (aj),.int .i64 (ak),.int .u8 ((d.sep.toNat:Nat):Int),.int .u8 ((d.quo.toNat:Nat):Int),.bool (d.hdr),.bool (d.typ)])] (⟨52,3,aW,(mj dp ((⟨[],0,0⟩::E).take i)).length,iz ps (mj dp ((⟨[],0,0⟩::E).take i))⟩::((⟨28,1,.slice zD (E.length+1) mD,E.length+1,al::dd⟩::rs2)++rs))) ((λ(i:Nat)=>E.length+1-i) 0) ?_ ?_
 ·exact ⟨0,_,[],rfl,bU _,rfl,(λq h=>by cases h),aJ,aB,aE,aS,bb,cv,cV,rfl,(G.nilRow 52 3)⟩
 intro bMo f w ai;obtain ⟨i,aW,ps,bPv,hi,qt,tU,Jp,aB,aE,aS,bb,cv,cV,zf,G⟩:=ai;refine nF ?_;refine Ma ?_;refine S B B (cU B zf) ?_;refine S B B (hJ B B Tryz.underlying98) ?_;refine l5 ?_;refine Z (λbN9=>?_) (λbN9=>?_)
 ·obtain ⟨dU,ds⟩:∃ dU,((⟨[],0,0⟩::E):List Ent)[i]?=some dU:=⟨_,bS J9⟩;obtain ⟨il,Ob⟩:∃ il,(al::dd)[i]?=some il:=⟨_,bS J9⟩;have sy:LR ((⟨28,1,.slice zD (E.length+1) mD,E.length+1,al::dd⟩::rs2)++rs) 107 3 il dU.path.length (dU.path.flatMap e6):=(cAt fp i dU il ds Ob).mono λr h=>iM _ (bP _ h)
  obtain ⟨iQ,hN,jm,rfl,_,_,_⟩:=sy.sl2 (Cxr.tailF (A:=[]) G) (by decide);have k0:(mj dp ((⟨[],0,0⟩::E).take i)).length<=300000:=by unfold mj;exact nI (List.length_filter_le _ _) (nI (List.length_take_le ..) I)
  refine DA ?_;refine dR ?_;refine S B B (cU B zf) ?_;refine Ma ?_;refine S B B (cT Tryz.underlying98 zK B (show Value.slice zD (E.length+1) mD=.slice (some ⟨Yo,0,none⟩) (E.length+1) mD by rw [Wt I]) B I I) ?_;refine S B B (br (v:=.slice iQ dU.path.length hN) B B lp B (by rw [gD,Nat.mul_one];exact (Wu _ (Cxr.tailF (A:=[]) G) I).cell i Ob)) ?_;refine S B B (hJ B B lp) ?_;refine l7 ?_;refine aN B B B aO (λhc=>cU B zf) ?_;refine aN B B B aO (λhc=>cU B Jp) ?_;refine aN B B B aO (λhc=>cT Tryz.underlying98 zK B ((fV hc B).trans (show Value.slice zD (E.length+1) mD=.slice (some ⟨Yo,0,none⟩) (E.length+1) mD by rw [Wt I])) (fV hc B) I I) ?_;refine aN B B B aO (λhc=>br (v:=.slice iQ dU.path.length hN) B (fV hc B) lp B (by rw [gD,Nat.mul_one];exact (Wu _ (Cxr.tailF (A:=[]) G) I).cell i Ob)) ?_;refine aN B B B aO (λhc=>hJ B (fV hc B) lp) ?_;refine aN B B B aO (λhc=>cU B aE) ?_;refine aN B B B aO (λhc=>gQ B ay ay B) ?_;refine DD ?_;refine Z (λbOf=>?_) (λbOf=>?_)
  ·have WD:1<=dU.path.length/\(dU.path.length:Int)<=dp:=I;have qn:=bIq (dp:=dp) ds WD;have BH:dU∈E:=by
    cases i with
    | zero=>cases ds;exact absurd WD.1 (by decide)
    | succ j=>exact cb ds
   refine CN G (Cxr.keepF (A:=[]) G) mixed [(0,126),(1,127),(2,128),(3,129),(4,130),(5,131),(6,132),(7,133),(8,134),(9,135)] #[true,true,true,true,true,true,true,true,true,true,false,false,false,false,false] ac ac ac ac ?_;refine bw B (bx B) (λw G=>bO u1 B cv) ?_;refine bw B (bx B) (λw G=>br B B oA B (G.cell 2 B B)) ?_;refine GZ ?_;refine bw B (bx B) (λw G=>cG B cV de B bA (G.row 1 B) B) ?_;refine bw B (bx B) (λw G=>bO Ia B aS) ?_;refine bw B (bx B) (λw G=>cG (l:=[.int .u8 ((d.sep.toNat:Nat):Int),.int .u8 ((d.quo.toNat:Nat):Int),.bool (d.hdr),.bool (d.typ)]) B B q3 B pW ((G.row 4 B).sub 5 B) B) ?_;refine bw B (bx B) (λw G=>cU B zf) ?_;refine bw B (bx B) (λw G=>cU B Jp) ?_;refine bw B (bx B) (λw G=>cT Tryz.underlying98 zK B (show Value.slice zD (E.length+1) mD=.slice (some ⟨Yo,0,none⟩) (E.length+1) mD by rw [Wt I]) B I I) ?_;refine bw B (bx B) (λw G=>br (v:=.slice iQ dU.path.length hN) B B lp B (by rw [gD,Nat.mul_one];exact (Wu _ (G.drop 5) I).cell i Ob)) ?_;refine cW ?_;intro w G cQ7;refine kQ ?_;refine bW (VX dU BH I _ _ _ ((c9.mono λr h=>bP _ (h0 _ h)).vw G) (LR.pth (e:=107) (Cxr.tailF (A:=[]) G) sy)) Tryz.func38 B B B B B B ?_;rintro cT3 w ⟨rfl,Ns⟩;replace G:=G.call Ns;refine hK ⟨.inl J7,?_⟩;refine mO ?_;refine aCy ?_;intro cIz w G cLe cQk;refine hK ⟨.inl J7,?_⟩;refine r2 ?_;refine aCz ?_;intro v138 w G cM8;replace G:=G.drop 1;refine dQ ?_;refine pZ ?_;refine S B B (bO u1 B cv) ?_;refine Du ?_;refine bR (v:=v138) G 2 B B B B B G.oneS B B CE ?_;intro w G B4;refine hY ?_;refine nE ?_;refine Ma ?_;refine oy ?_;refine Gw ?_;refine eA ?_;exact ⟨_,_,I,B,i+1,v138,ps++[.slice iQ dU.path.length hN],B,I,(by rw [qn,aQ,aQ,qt];rfl),(by rw [qn];exact cA7 qt tU (cAu sy WD.1)),aJ,aB,aE,aS,bb,cv,cV,zf,(mg G (by rw [qn,aQ];rfl) (by rw [qn,TY _ _ _ _ qt];rfl))⟩
  have qn:=bIo (dp:=dp) (l:=(⟨[],0,0⟩::E)) ds I;refine yd ?_;refine Ma ?_;refine oy ?_;refine Gw ?_;refine eA ?_;exact ⟨_,_,I,B,i+1,aW,ps,B,I,(by rw [qn];exact qt),(by rw [qn];exact tU),aJ,aB,aE,aS,bb,cv,cV,zf,(mg G (by rw [qn]) (by rw [qn]))⟩
 refine Aw ?_;refine S B B (cG B cv q4 B oi (G.row 2 B) B) ?_;refine bn G 3 B B B bb B B oi B (Xs B B B G.oneS bOz) ?_;intro w G Ff;refine pe ?_;refine mG Tryz.results10 bb B B (G.at 3 B) q4 B oi ?_;have nU:((⟨[],0,0⟩::E):List Ent).take i=(⟨[],0,0⟩::E):=lQ J9;rw [nU] at G qt tU;exact ⟨⟨fmt,s.length,dp,mj dp (⟨[],0,0⟩::E),cols.map bs⟩,0,0,_,B,⟨aW,lT,B,bI8 G B qt tU bIp,bGx G (IG.mono λr h=>bP _ (h0 _ h))⟩,bN4,G.ext⟩
end Go.Proofs.YthiafbkolhnadaaGreatDoor
end
section
namespace Go.Proofs.YthiafbkolhnadaaGreatDoor
open Go Go.Dk Go.RowKit Go.Lib
attribute [local irreducible] Go.wpList Go.Code.wp Go.bodyPost Go.wpStill
variable {m:Nat}
theorem bCr (v u:Value)(l m:List Stp)(w0:World)(hv:Pth w0 v l)(aP:Pth w0 u m)(hl:l.length<=140737488355328)(hm:m.length<=140737488355328):Fc W 20 [v,u] w0 (lP λb=>b=true↔l=m):=by
 obtain ⟨a,c,b,o,rfl,a6,hr⟩:=hv.form;obtain ⟨eb,c',q8,gu,rfl,Em,lY⟩:=aP.form;refine aI Tryz.func20 B Tryz.ntmps20 B ?_;have G:=Ctx.start w0;refine kf ?_;refine Z (λe1=>?_) (λe1=>?_)
 ·refine aq ?_;refine be Tryz.results20 B ?_;refine ⟨G.ext,_,B,(λh=>by cases h),λh=>?_⟩;subst h;exact absurd B I
 refine aG ?_;refine bu (λk f ah=>∃ i:Nat,k+i=l.length/\f 0=.slice a l.length c/\f 1=.slice eb m.length c'/\f 5=.int .i64 i/\l.take i=m.take i/\Ctx w0 ah []) (l.length) ?_ ?_
 ·exact ⟨0,I,B,B,B,by simp,G⟩
 intro pC f w ai;obtain ⟨i,hk,aB,aK,bF,hall,G⟩:=ai;refine bz ?_;refine Z (λgK=>?_) (λgK=>?_)
 ·obtain ⟨x,hx⟩:∃ x,l[i]?=some x:=⟨l[i]'(I),bS _⟩;obtain ⟨y,hy⟩:∃ y,m[i]?=some y:=⟨m[i]'(I),bS _⟩;have EX:=hr i x hx;have bTz:=lY i y hy;obtain rfl:=a6 I;obtain rfl:=Em I;refine an ?_;refine iu ?_;intro w G JB;refine lj ?_;refine aGr ?_;refine dP B B (cG B B Tryz.underlying107 B lM (EX.up G.ext) B) ?_;refine lj ?_;refine aGr ?_;refine dP B B (cG B B Tryz.underlying107 B lM (bTz.up G.ext) B) ?_;refine dP B B (Qb bJk (bYg _ _ _ _ _ _) B B B) ?_;refine ST ?_;refine Z (λfI=>?_) (λfI=>?_)
  ·refine aq ?_;refine be Tryz.results20 B ?_;refine ⟨G.ext,_,B,(λh=>by cases h),λh=>?_⟩;subst h;rw [hx] at hy;cases hy;simp at fI
  refine az ?_;refine ⟨pC-1,_,I,B,i+1,I,aB,aK,B,?_,G⟩;obtain ⟨hi,e⟩:=bT.1 hx;obtain ⟨dK,bk⟩:=bT.1 hy;rw [p9 hi,p9 dK,hall,e,bk]
  congr 2
  obtain ⟨bj,bg,b4⟩:=x;obtain ⟨dM,eQ,ft⟩:=y;simp at fI;simp [fI]
 refine az ?_;refine be Tryz.results20 B ?_;refine ⟨G.ext,_,B,λ_=>?_,λ_=>rfl⟩;have e:i=l.length:=I;subst e;rw [nG] at hall;rw [hall,show l.length=m.length by omega,nG]
theorem Tq (a b n:Int)(w0:World):Fc W 43 [.agg #[.int .i64 a,.int .i64 b],.int .i64 n] w0 (lP λr=>r=true↔0<=a/\a<=b/\b<=n):=by
 refine aI Tryz.func43 B Tryz.ntmps43 B ?_;have G:=Ctx.start w0;refine ag ?_;refine bE ?_;intro b2 w G di e3;refine AL ?_;refine be Tryz.results43 B ?_;refine ow ?_;simp only [fS,decide_eq_true_eq];omega
theorem bFa (v:Value)(l:List ByteArray)(w0:World)(hv:Cls w0 v l)(ht:Tabs w0)(hl:l.length<=140737488355328)(ec:∀ c∈l,c.size<=1073741824):Fc W 39 [v] w0 (Ad λm=>m=se l):=by
 obtain ⟨a,c,b,o,rfl,a6,hr⟩:=hv.form;refine aI Tryz.func39 B Tryz.ntmps39 B ?_;have G:=Ctx.start w0;refine i6 ?_;refine bu (λk f ah=>∃ i:Nat,k+i=l.length/\f 0=.slice a l.length c/\f 8=.slice a l.length c/\f 9=.int .i64 l.length/\f 10=.int .i64 i/\(∀ x∈l.take i,¬ uR x)/\Ctx w0 ah []) (l.length) ?_ ?_
 ·exact ⟨0,I,B,B,B,B,by simp,G⟩
 intro h8 f w ai;obtain ⟨i,hk,aB,bb,b6,cp,hall,G⟩:=ai;refine aq ?_;refine Z (λfW=>?_) (λfW=>?_)
 ·obtain ⟨x,hx⟩:∃ x,l[i]?=some x:=⟨l[i]'(I),bS _⟩;have lZ:=hr i x hx;obtain rfl:=a6 I;refine aq ?_;refine S B B (cT mc gA B bb cp I I) ?_;refine Sy ?_;refine aq ?_;refine xJ G (bGd x _ (ht.up G.ext) (by have:=ec x (cb hx);omega)) Tryz.func91 B B B B B B ?_;intro cBg w G sC NW;refine ae ?_;refine Ak ?_;refine ae ?_;refine Z (λdG=>?_) (λdG=>?_)
  ·have hb:uR x:=by
    unfold uR;rcases dG with h | h
    ·left;rw [<- NW];exact h
    ·right;omega
   refine aq ?_;refine be Tryz.results39 B ?_;refine ow ?_;exact (aKi hx hb).symm
  have aNq:validD x.data.toList=true/\x.size<=1024:=by
   refine ⟨?_,I⟩;rw [<- NW];exact dG.1
  refine aq ?_;refine ⟨h8-1,_,I,B,i+1,I,aB,bb,b6,B,λy hy=>?_,G⟩;rcases bXz hx hy with h | rfl
  ·exact hall y h
  . unfold uR
    rintro (h | h)
    ·rw [aNq.1] at h;cases h
    ·have:=aNq.2;omega
 have oV:i=l.length:=I;subst oV;rw [nG] at hall;refine ae ?_;refine Gj ?_;intro DT w G cLg zj;refine cF ?_;refine bu (λk f ah=>∃ (i DT:Nat),k+i=l.length/\f 5=.map (some DT)/\f 24=.slice a l.length c/\f 25=.int .i64 l.length/\f 26=.int .i64 i/\(l.take i).Nodup/\Ctx w0 ah [(DT,.map (ents (l.take i) tt 0).toArray (l.take i).length)]) (l.length) ?_ ?_
 ·exact ⟨0,DT,I,B,B,B,B,by simp,G⟩
 intro so f w ai;obtain ⟨i,DT,hk,bF,aP5,bT5,Oe,BK,G⟩:=ai;refine aq ?_;refine Z (λgL=>?_) (λgL=>?_)
 ·obtain ⟨x,hx⟩:∃ x,l[i]?=some x:=⟨l[i]'(I),bS _⟩;have lZ:=hr i x hx;obtain rfl:=a6 I;refine aq ?_;refine S B B (cT mc gA B aP5 Oe I I) ?_;refine Sy ?_;refine aG ?_;refine S B B (Y7 B B B Tryz.underlying102 aF (yr _) (G.at 0 B)) ?_;refine ab ?_;refine Z (λje=>?_) (λje=>?_)
  ·refine aq ?_;refine be Tryz.results39 B ?_;refine ow ?_;exact (bG1 hall hx (Nn.1 je)).symm
  refine an ?_;refine YB G 0 B B B B B B Tryz.underlying102 aF BK B je ?_;intro w G cM4;refine aq ?_;have lW:=aNc je;refine ⟨so-1,_,I,B,i+1,DT,I,bF,aP5,bT5,B,bYr BK hx lW,?_⟩;rw [qP hx];exact G
 refine az ?_;refine be Tryz.results39 B ?_;refine ow ?_;have rz:i=l.length:=I;subst rz;rw [nG] at BK;exact (aKh hall BK).symm
theorem aWk:(W.info? 5).map (·.size)=some 1:=by kernel_rfl
theorem aYe:Zero W 360 (pk 65 (.int .u8 0)):=ji (v:=.agg (pk 65 (.int .u8 0)).toArray) ac rfl
theorem aJg (w0:World):Fc W 292 [.int .i64 16] w0 (lP λb=>b=true):=by
 refine aI Tryz.func292 B Tryz.ntmps292 B ?_;have G:=Ctx.start w0;refine cK ?_;refine p0 ?_;refine an ?_;refine be Tryz.results292 B ?_;exact ⟨G.ext,_,B,by decide⟩
theorem SS(h:m<256):cQ .and .u64 (m:Int) 15=((m%16:Nat):Int):=by
 have:∀ b:Fin 256,cQ .and .u64 (b.val:Int) 15=((b.val%16:Nat):Int):=by decide +kernel
 exact this ⟨m,h⟩
theorem cEa(h:m<256):shr .u64 (m:Int) 4=((m / 16:Nat):Int):=by
 have:∀ b:Fin 256,shr .u64 (b.val:Int) 4=((b.val / 16:Nat):Int):=by decide +kernel
 exact this ⟨m,h⟩
def TJ:ByteArray:=⟨#[48,49,50,51,52,53,54,55,56,57,97,98,99,100,101,102,103,104,105,106,107,108,109,110,111,112,113,114,115,116,117,118,119,120,121,122]⟩
theorem TK(h:m<16):fu TJ (m:Int)=((mn m).toNat:Int):=by
 have:∀ b:Fin 16,fu TJ (b.val:Int)=((mn b.val).toNat:Int):=by decide +kernel
 exact this ⟨m,h⟩
theorem bHv(h:m<256):fu TJ (cQ .and .u64 (m:Int) 15)=((mn (m%16)).toNat:Int):=by rw [SS h];exact TK I
theorem cEn {a:UInt8}:strOf [(a.toNat:Int)]=bs [a]:=CD [a]
theorem cEo {a b:UInt8}:strOf [(a.toNat:Int),(b.toNat:Int)]=bs [a,b]:=CD [a,b]
theorem bC3 (m:Nat)(w0:World)(hm:m<16)(ht:Tabs w0):Fc W 216 [al,.int .u64 m,.int .i64 16,.bool false,.bool false] w0 (λv _=>∃ x,v=.tuple #[x,M (qo m)]):=by
 refine aI Tryz.func216 B Tryz.ntmps216 B ?_;have G:=Ctx.start w0;refine aHq ?_;refine kR ?_;refine ae ?_;refine kN G aYe B B B ?_;intro eD w G lA mx;refine cF ?_;refine kR ?_;refine aq ?_;refine xJ G (aJg _) Tryz.func292 B B B B B B ?_;intro PC w G B0 xd;subst xd;refine ab ?_;refine Mb ?_;refine ae ?_;refine Dr ?_;refine aDe ?_;intro cBo w G Oy V7;subst V7;refine Dr ?_;refine aq ?_;refine S B B (xR B B dq DQ) ?_;refine aq ?_;refine Dr ?_;refine S B B (Zb B B B) ?_;refine an ?_;refine bu (λk f ah=>f 1=.int .u64 m/\f 13=.int .i64 65/\(∃ eD,f 12=ao eD 0/\Ctx w0 ah [(eD,.cells (pk 65 (Value.int .u8 0)).toArray 360)])/\f 15=.int .u64 16/\f 16=.int .u64 15/\f 14=.int .u64 4/\f 3=.bool false/\f 4=.bool false/\f 10=al) (0) ?_ ?_
 ·exact ⟨B,B,⟨_,B,G⟩,B,B,B,B,B,B⟩
 intro Ei f w ai;obtain ⟨aK,kn,⟨eD,cV,G⟩,kZ,jf,mu,aR,aM,cp⟩:=ai;refine aG ?_;refine cn B (λqk=>?_) (λqk=>?_)
 ·exfalso;simp at qk;omega
 try simp only [dy] at qk
 refine cF ?_;refine aGs ?_;refine Sz ?_;refine bR (v:=.int .u8 (mn (m)).toNat) G 0 B B B B (aD (Value.int .u8) (TK I)) B B B mJ ?_;intro w G xo;refine az ?_;refine kR ?_;refine az ?_;refine kR ?_;refine an ?_;refine aGt ?_;refine S B B (sY B fk en aF (ns:=[((mn m).toNat:Int)]) ((G.row 0 B).sub 64 B) B B) ?_;refine ae ?_;refine aHd ?_;rw [cEn];unfold qo;rw [U I]
theorem bC4 (m:Nat)(w0:World)(hm:16<=m)(vk:m<256)(ht:Tabs w0):Fc W 216 [al,.int .u64 m,.int .i64 16,.bool false,.bool false] w0 (λv _=>∃ x,v=.tuple #[x,M (qo m)]):=by
 refine aI Tryz.func216 B Tryz.ntmps216 B ?_;have G:=Ctx.start w0;refine aHq ?_;refine kR ?_;refine ae ?_;refine kN G aYe B B B ?_;intro eD w G lA mx;refine cF ?_;refine kR ?_;refine aq ?_;refine xJ G (aJg _) Tryz.func292 B B B B B B ?_;intro PC w G B0 xd;subst xd;refine ab ?_;refine Mb ?_;refine ae ?_;refine Dr ?_;refine aDe ?_;intro cBo w G Oy V7;subst V7;refine Dr ?_;refine aq ?_;refine S B B (xR B B dq DQ) ?_;refine aq ?_;refine Dr ?_;refine S B B (Zb B B B) ?_;refine an ?_;refine bu (λk f ah=>∃ (u:Nat) (cs:List Value),((k=1/\m=u/\cs=pk 65 (Value.int .u8 0))\/(k=0/\m / 16=u/\cs=(pk 65 (Value.int .u8 0)).set 64 (.int .u8 (mn (m%16)).toNat)))/\f 1=.int .u64 u/\f 13=J (64+k)/\(∃ eD,f 12=ao eD 0/\Ctx w0 ah [(eD,.cells cs.toArray 360)])/\f 15=.int .u64 16/\f 16=.int .u64 15/\f 14=.int .u64 4/\f 3=.bool false/\f 4=.bool false/\f 10=al) (1) ?_ ?_
 ·exact ⟨m,_,.inl ⟨B,B,B⟩,B,B,⟨_,B,G⟩,B,B,B,B,B,B⟩
 intro Ei f w ai;obtain ⟨u,cs,Bt,aK,kn,⟨eD,cV,G⟩,kZ,jf,mu,aR,aM,cp⟩:=ai;refine aG ?_;refine Z (λqk=>?_) (λqk=>?_)
 ·rcases Bt with ⟨rfl,rfl,rfl⟩ | ⟨rfl,rfl,rfl⟩
  case inr=>exfalso;omega
  refine kf ?_;refine p0 ?_;refine S B B (zT B B B aF (by rw [SS I];omega) (by rw [SS I];show _<(36:Int);omega)) ?_;refine Sz ?_;refine bR (v:=.int .u8 (mn (m%16)).toNat) G 0 B B B B (aD (Value.int .u8) (bHv I)) B B B mJ ?_;intro w G np;refine an ?_;refine x1 ?_;refine ag ?_;refine ⟨0,_,I,B,m / 16,_,.inr ⟨B,B,B⟩,aD (Value.int .u64) (cEa I),B,⟨_,cV,G⟩,kZ,jf,mu,aR,aM,cp⟩
 rcases Bt with ⟨rfl,rfl,rfl⟩ | ⟨rfl,rfl,rfl⟩
 case inl=>exfalso;omega
 refine cF ?_;refine aGs ?_;refine Sz ?_;refine bR (v:=.int .u8 (mn (m / 16)).toNat) G 0 B B B B (aD (Value.int .u8) (TK I)) B B B mJ ?_;intro w G xo;refine az ?_;refine kR ?_;refine az ?_;refine kR ?_;refine an ?_;refine aGt ?_;refine S B B (sY B fk en aF (ns:=[((mn (m / 16)).toNat:Int),((mn (m%16)).toNat:Int)]) ((G.row 0 B).sub 63 B) B B) ?_;refine ae ?_;refine aHd ?_;rw [cEo];unfold qo;rw [O I]
theorem bC2 (m:Nat)(w0:World)(vk:m<256)(ht:Tabs w0):Fc W 216 [al,.int .u64 m,.int .i64 16,.bool false,.bool false] w0 (λv _=>∃ x,v=.tuple #[x,M (qo m)]):=by
 by_cases h:m<16
 ·exact bC3 m w0 h ht
 ·exact bC4 m w0 I vk ht
theorem bCb (m:Nat)(w0:World)(hm:m<256)(ht:Tabs w0):Fc W 153 [.int .i64 m,.int .i64 16] w0 (λv _=>v=(M (qo m))):=by
 refine aI Tryz.func153 B Tryz.ntmps153 B ?_;have G:=Ctx.start w0;refine cF ?_;refine kR ?_;refine an ?_;refine S B B (Y6 B B Tryz.underlying2 DQ hm) ?_;refine ag ?_;refine S B B (cGr B B B I) ?_;refine bG G (bC2 _ _ hm (ht.up G.ext)) Tryz.func216 B B B B B B ?_;intro Yl w G OB BN;obtain ⟨cKc,rfl⟩:=BN;refine i6 ?_;refine be Tryz.results153 B ?_;exact gC
theorem bB9 (m:Nat)(w0:World)(hm:m<256)(ht:Tabs w0):Fc W 151 [.int .i64 m,.int .i64 16] w0 (λv _=>v=(M (qo m))):=by
 refine aI Tryz.func151 B Tryz.ntmps151 B ?_;have G:=Ctx.start w0;refine bz ?_;refine bG G (bCb _ _ hm (ht.up G.ext)) Tryz.func153 B B B B B B ?_;intro Kk w G iW zb;subst zb;refine ae ?_;refine be Tryz.results151 B ?_;exact gC
theorem bB8 (m:Int)(w0:World)(ht:Tabs w0)(ap:0<=m)(hm:m<256):Fc W 151 [.int .i64 m,.int .i64 16] w0 (λv _=>v=(M (qo m.toNat))):=by
 have h:=bB9 m.toNat w0 I ht;rw [show ((m.toNat:Nat):Int)=m by omega] at h;exact h
theorem bGe (s:ByteArray)(w0:World)(hs:s.size<=1073741824):Fc W 93 [.string s] w0 (λu _=>u=.int .i64 (Ih s)):=by
 refine aI Tryz.func93 B Tryz.ntmps93 B ?_;have G:=Ctx.start w0;refine cF ?_;refine bu (λk f ah=>∃ i:Nat,k+i=s.size/\f 0=.string s/\f 3=.int .i64 i/\(∀ j:Nat,j<i->FF s j)/\Ctx w0 ah []) (s.size) ?_ ?_
 ·exact ⟨0,I,B,B,λj h=>I,G⟩
 intro h8 f w ai;obtain ⟨i,hk,aB,aR,hall,G⟩:=ai;refine aq ?_;refine wk ?_;refine an ?_;refine Hb ?_;refine an ?_;refine Hb ?_;refine aq ?_;refine aGu ?_;refine an ?_;refine Hb ?_;refine az ?_;refine aGu ?_;refine bz ?_;refine Hb ?_;refine aq ?_;refine Hb ?_;refine aq ?_;refine Z (λBn=>?_) (λBn=>?_)
 ·refine aG ?_;refine ⟨h8-1,_,I,B,i+1,I,aB,B,λj ax=>?_,G⟩;rcases ma j i with h | h
  ·exact hall j h
  . obtain rfl:j=i:=I
    unfold FF qF uS;omega
 refine aG ?_;refine be Tryz.results93 B ?_;have hf:Eg s i:=by
  refine ⟨I,hall,λb8 h1=>?_⟩;unfold FF qF uS at h1;have VE:(i:Int)<(s.size:Int):=I;simp only [VE,not_true_eq_false,false_or] at Bn;omega
 exact ⟨G.ext,aD (λz:Nat=>Value.int .i64 (z:Int)) (aMl hf).symm⟩
theorem bGf (s:ByteArray)(w0:World)(hs:s.size<=1073741824)(ht:Tabs w0):Fc W 94 [.string s] w0 (λv _=>v=(M ([34]++jz s.data.toList++[34]))):=by
 refine aI Tryz.func94 B Tryz.ntmps94 B ?_;have G:=Ctx.start w0;refine az ?_;refine qT ?_;intro bq w G gX hF;replace G:=Cxr.toRow (size:=1) (k:=1) G B (by decide);refine az ?_;refine wk ?_;refine ae ?_;refine bu (λk f ah=>∃ (i:Nat) (v:Value),k+i=s.size/\f 0=.string s/\f 8=.int .i64 s.size/\f 9=.int .i64 i/\f 3=v/\Cxr w0 ah [] [⟨5,1,v,1+(jz (s.data.toList.take i)).length,(34::jz (s.data.toList.take i)).map bv⟩]) (s.size) ?_ ?_
 ·exact ⟨0,_,I,B,B,B,B,G.row_eq B B⟩
 intro gJ f w ai;obtain ⟨i,v,hk,aB,bb,b6,aR,G⟩:=ai;have bQ9:=Yp (s.data.toList.take i);have b8:=List.length_take_le i s.data.toList;have bRa:s.data.toList.length=s.size:=by simp
 obtain ⟨c,Bu⟩:∃ c,s.data.toList.getD i 0=c:=⟨_,rfl⟩;have nf:fu s (i:Int)=(c.toNat:Int):=by unfold fu;rw [gD,Bu]
 have VF:=aOa (fu s (i:Int)).toNat;have cOx:=aOa c.toNat;refine aq ?_;refine Z (λe1=>?_) (λe1=>?_)
 ·refine i6 ?_;refine Ah ?_;refine kf ?_;refine cn B (λeH=>?_) (λeH=>?_)
  ·simp only [hW,decide_eq_true_eq,beq_iff_eq] at eH;refine ae ?_;refine Ri ?_;intro cI5 w G cLi Ov;refine xY ?_;intro cT7 w G cNd;replace G:=G.drop 1;refine az ?_;have nZ:=cDw (c:=c) (by rw [nf] at eH;omega);have aw:=PF s i I;rw [Bu,nZ] at aw;refine ⟨gJ-1,_,I,B,i+1,_,I,aB,bb,B,B,Kp G aw ?_ ?_⟩
   ·simp only [aQ,cf,dC,nf,gD] <;> omega
   ·exact aD (λz=>(34::jz (s.data.toList.take i)).map bv++z) (show [Value.int .u8 92,Value.int .u8 (fu s (i:Int))]=_ by rw [nf];rfl)
  simp only [uB,decide_eq_false_iff_not,beq_eq_false_iff_ne] at eH;refine az ?_;refine cn B (λnP=>?_) (λnP=>?_)
  ·simp only [hW,decide_eq_true_eq,beq_iff_eq] at nP;refine ag ?_;refine K8 ?_;intro aW5 w G cNf;refine az ?_;have nZ:=cDt (c:=c) (by rw [nf] at nP;omega);exact Qz
  simp only [uB,decide_eq_false_iff_not,beq_eq_false_iff_ne] at nP;refine az ?_;refine cn B (λh9=>?_) (λh9=>?_)
  ·simp only [hW,decide_eq_true_eq,beq_iff_eq] at h9;refine ag ?_;refine K8 ?_;intro cGf w G cNh;refine az ?_;have nZ:=cDv (c:=c) (by rw [nf] at h9;omega);exact Qz
  simp only [uB,decide_eq_false_iff_not,beq_eq_false_iff_ne] at h9;refine az ?_;refine cn B (λiA=>?_) (λiA=>?_)
  ·simp only [hW,decide_eq_true_eq,beq_iff_eq] at iA;refine ag ?_;refine K8 ?_;intro aW6 w G cNl;refine az ?_;have nZ:=cDu (c:=c) (by rw [nf] at iA;omega);exact Qz
  simp only [uB,decide_eq_false_iff_not,beq_eq_false_iff_ne] at iA;refine cF ?_;refine cn B (λiT=>?_) (λiT=>?_)
  ·simp only [hW,decide_eq_true_eq,beq_iff_eq] at iT;refine ae ?_;refine S B B (v7 B B en Tryz.underlying2 (wG _ _) (wF _ _)) ?_;refine bG G (bB8 _ _ (ht.up G.ext) (wG _ _) (wF _ _)) Tryz.func151 B B B B B B ?_;intro cSw w G aQ3 bSi;subst bSi;refine Hc ?_;refine Hc ?_;refine K8 ?_;intro cUh w G cNs;refine az ?_;have nZ:=cD3 (c:=c) (by rw [nf] at nP;omega) (by rw [nf] at h9;omega) (by rw [nf] at iA;omega) (by rw [nf] at iT;omega);have aw:=PF s i I;rw [Bu,nZ] at aw;refine ⟨gJ-1,_,I,B,i+1,_,I,aB,bb,B,B,Kp G aw ?_ ?_⟩
   ·simp only [aQ,cf,dC,nf,gD] <;> omega
   ·exact aD (λz=>(34::jz (s.data.toList.take i)).map bv++z) (aD (List.map bv) (show [92,117,123]++qo (fu s (i:Int)).toNat++[125]=_ by rw [nf,gD]))
  simp only [uB,decide_eq_false_iff_not,beq_eq_false_iff_ne] at iT;refine ae ?_;refine qT ?_;intro q9 w G aNg E6;refine xY ?_;intro cT5 w G cNb;replace G:=G.drop 1;refine az ?_;have nZ:=cD1 (c:=c) (by rw [nf] at eH;omega) (by rw [nf] at iT;omega);have aw:=PF s i I;rw [Bu,nZ] at aw;refine ⟨gJ-1,_,I,B,i+1,_,I,aB,bb,B,B,Kp G aw ?_ ?_⟩
  ·simp only [aQ,cf,dC,nf,gD] <;> omega
  ·exact aD (λz=>(34::jz (s.data.toList.take i)).map bv++z) (show [Value.int .u8 (fu s (i:Int))]=_ by rw [nf];rfl)
 refine an ?_;refine qT ?_;intro aZt w G bNy aQ6;refine xY ?_;intro cGk w G bP4;replace G:=G.drop 1;have sy:i=s.size:=I;subst sy;rw [show s.data.toList.take s.size=s.data.toList from lQ (by simp)] at G;replace G:=Kp (q':=jz s.data.toList++[34]) (sg:=[34]) G B (by simp only [cf,dC] <;> omega) B;obtain ⟨pB,mY,rfl,bTt⟩:=G.bytes (l:=34::(jz s.data.toList++[34])) (by simp only [aQ,cf,dC] <;> omega) rfl I;refine S B B (sY B fk en aF (ns:=(34::(jz s.data.toList++[34])).map λx:UInt8=>(x.toNat:Int)) (by rw [List.map_map];exact bTt) (by simp only [fT,aQ,cf,dC] <;> omega) B) ?_;refine ae ?_;refine be Tryz.results94 B ?_;refine x0 ?_;exact aD Value.string (CD (34::(jz s.data.toList++[34])))
end Go.Proofs.YthiafbkolhnadaaGreatDoor
end
section
namespace Go.Proofs.YthiafbkolhnadaaGreatDoor
open Go Go.Dk Go.RowKit Go.Lib
attribute [local irreducible] Go.wpList Go.Code.wp Go.bodyPost Go.wpStill Go.wpQuiet
theorem bFh (u:Value)(l:List Stp)(w0:World)(hv:Pth w0 u l)(aH:∀ s∈l,Gh s)(hl:l.length<=48)(ht:Tabs w0):Fc W 41 [u] w0 (λv _=>v=(M (jy l))):=by
 obtain ⟨a,c,b,o,rfl,a6,hr⟩:=hv.form;refine aI Tryz.func41 B Tryz.ntmps41 B ?_;have G:=Ctx.start w0;refine gp ?_;refine Z (λfm=>?_) (λfm=>?_)
 ·refine aq ?_;refine be Tryz.results41 B ?_;have e:l=[]:=p8 I;subst e;exact gC
 refine ae ?_;have bt:l≠[]:=by rintro rfl;simp at fm
 have xf:0<l.length:=gF.2 bt;obtain ⟨c1,qz⟩:∃ x,l[0]?=some x:=⟨l[0]'xf,bS _⟩;have Wv:=hr 0 c1 qz;obtain rfl:=a6 xf;replace G:=G.nilRow 5 1;refine ag ?_;refine cw (λf ah=>∃ v,f 0=.slice (some ⟨b,o,none⟩) l.length c/\f 3=v/\Cxr w0 ah [] [⟨5,1,v,(n8 l).length,(n8 l).map bv⟩]) ?_ ?_
 ·refine ae ?_;refine Sl ?_;refine ab ?_;refine S B B (br B B pr B ((Wv.up G.ext).cell 0 B)) ?_;refine ab ?_;refine Z (λco=>?_) (λco=>?_)
  ·refine ag ?_;refine qT ?_;intro yt w G Eo oX;refine xY ?_;intro cGc w G cNa;replace G:=G.drop 1;refine ag ?_;exact aAu
  refine ab ?_;exact aAu
 intro f w ai;obtain ⟨v,aB,aR,G⟩:=ai;refine bz ?_;refine bu (λk f ah=>∃ (i:Nat) (v:Value),k+i=l.length/\f 16=.slice (some ⟨b,o,none⟩) l.length c/\f 17=.int .i64 l.length/\f 18=.int .i64 i/\f 3=v/\Cxr w0 ah [] [⟨5,1,v,(n8 l++(l.take i).flatMap fZ).length,(n8 l++(l.take i).flatMap fZ).map bv⟩]) (l.length) ?_ ?_
 ·exact ⟨0,_,I,B,B,B,aR,G.row_eq (by simp) (by simp)⟩
 intro qi f w ai;obtain ⟨i,v,hk,jf,sA,sB,aR,G⟩:=ai;refine aq ?_;refine Z (λeH=>?_) (λeH=>?_)
 ·obtain ⟨x,hx⟩:∃ x,l[i]?=some x:=⟨l[i]'(I),bS _⟩;have lZ:=hr i x hx;have Vl:=aH x (cb hx);have ie:=bW7 l;have oU:=aMi (l:=l.take i) (λy hy=>aH y (List.mem_of_mem_take hy));rw [dS] at oU;have k0:=aV8 Vl;have cPi:=Yp x.key.data.toList;have nj:x.key.data.toList.length=x.key.size:=by simp
  refine aq ?_;refine S B B (cT lp lM B jf sB I I) ?_;refine aF4 ?_;refine K4 ?_;intro bH w G fl fg;refine K5 ?_;intro w G bVn;refine bz ?_;refine Z (λjd=>?_) (λjd=>?_)
  ·have rB:=Vl.1 jd;have hS:=xv rB.1 I;refine an ?_;refine xX ?_;intro PC w G B0 xd;subst xd;refine Hc ?_;refine Hc ?_;refine Re ?_;intro v37 w G cNg;refine az ?_;have nZ:=cEh jd;exact Qy
  have lE:=Vl.2 jd;refine ab ?_;refine GN ?_;refine fA B B (λw G cA=>bO T8 B B) ?_;refine fA B B (λw G cA=>br B B aF B (G.cell 0 B B)) ?_;refine fA B B (λw G cA=>wa B B B) ?_;refine GO ?_;refine aGv ?_;refine aGw ?_;refine aUt B B B (by exact F8 B) (λhc=>aVq Tryz.func93 B B B (aX (fV hc B) B)) (λhc w G cA=>bGe x.key w I) ?_;refine aGv ?_;refine aGw ?_;refine gy B B B (by exact F8 B) (λhc w G cA=>Qf B (fV hc B) aF) ?_;refine gy B B B (by exact F8 B) (λhc w G cA=>gQ B (fV hc B) (fV hc B) B) ?_;refine fA B B (λw G cA=>zS B B B B) ?_;refine fA B B (λw G cA=>av B B) ?_;refine Kl ?_;rintro w ⟨G,cRd⟩;refine Z (λjp=>?_) (λjp=>?_)
  ·have lW:=(aS3 x.key).1 jp;refine an ?_;refine S B B (iJ (a:=[46]) (b:=x.key.data.toList) B B B (by simp only [cf,dC];omega)) ?_;refine Re ?_;intro cGh w G cNq;refine az ?_;have nZ:=cEi jd lW;exact Qy
  have lW:¬ vw x.key:=λh=>by have:=(aS3 x.key).2 h;rcases jp with h | h;exact this.1 h;exact h this.2
  refine an ?_;refine bG G (bGf _ _ I (ht.up G.ext)) Tryz.func94 B B B B B B ?_;intro Kj w G tX vp;subst vp;refine Hc ?_;refine Re ?_;intro v27 w G cNc;refine az ?_;have nZ:=cEj jd lW;exact Qy
 refine ae ?_;have hi:i=l.length:=I;subst hi;rw [nG] at G;have fp:0<(n8 l++l.flatMap fZ).length:=by rw [<- aT6 bt];exact cAp l
 obtain ⟨cKn,cJx,rfl,bTs⟩:=G.bytes (l:=n8 l++l.flatMap fZ) rfl rfl fp;refine ab ?_;refine S B B (sY B fk en aF (ns:=(n8 l++l.flatMap fZ).map λx:UInt8=>(x.toNat:Int)) (by rw [List.map_map];exact bTs) (by rw [fT]) B) ?_;refine ae ?_;refine be Tryz.results41 B ?_;exact ⟨G.ext,aD Value.string ((CD _).trans (aD bs (aT6 bt).symm))⟩
structure Szd (x:Idx):Prop where
 el:x.ents.length<=1048576
 cl:x.cols.length<=1048576
 csz:∀ c∈x.cols,c.size<=1073741824
 pl:∀ e∈x.ents,e.path.length<=1048576
noncomputable def Cd (l:List Ent):List ByteArray:=l.map λy=>bs (jy y.path)
theorem aR6 {l:List Ent}{i:Nat}{e:Ent}(h:l[i]?=some e):Cd (l.take (i+1))=Cd (l.take i)++[bs (jy e.path)]:=by
 unfold Cd;rw [qP h,kc]
 rfl
theorem bYq {l:List ByteArray}{k:ByteArray}(hn:l.Nodup)(h:k∉l):(l++[k]).Nodup:=by
 refine List.nodup_append.2 ⟨hn,by simp,?_⟩;intro a a6 b hb Bg;obtain rfl:=hL.1 hb;exact h (Bg▸a6)
theorem bBq (r:List Value)(x:Idx)(w0:World)(hx:IdxV w0 x r)(ht:Tabs w0)(hs:Szd x):Fc W 13 [.agg r.toArray] w0 (Ad λm=>m=h5 x):=by
 obtain ⟨gR,jB,rfl,cc,yL⟩:=hx;obtain ⟨a,c,b,o,rfl,a6,hr⟩:=cc.form;obtain ⟨a2,a7,b2,ik,rfl,_,_⟩:=yL.form;refine aI Tryz.func13 B Tryz.ntmps13 B ?_;have G:=Ctx.start w0;refine ag ?_;refine bE ?_;intro b1 w G er fX;refine Mo ?_;refine oC ?_;refine Z (λpI=>?_) (λpI=>?_)
 ·have a1:tK x:=by unfold tK;omega
  refine aq ?_;refine DH ?_;exact (bGt a1).symm
 have a1:¬ tK x:=by unfold tK;omega
 refine az ?_;refine PR G (bFa _ _ _ (yL.up G.ext) (ht.up G.ext) (by have:=hs.cl;omega) hs.csz) Tryz.func39 B B B B B B ?_;intro Yl w G OB BN;subst BN;refine aG ?_;refine Z (λu9=>?_) (λu9=>?_)
 ·refine az ?_;refine DH ?_;exact (bGu a1 u9).symm
 have rr:=u9;refine ae ?_;refine Gj ?_;intro DU w G cLx Jy;refine oC ?_;have tL:=hs.el;refine bu (λk f ah=>∃ (i DU b1:Nat),k+i=x.ents.length/\f 1=ao b1 0/\f 4=.map (some DU)/\f 5=.int .i64 (Fs (x.ents.take i))/\f 56=.slice a x.ents.length c/\f 57=.int .i64 x.ents.length/\f 58=.int .i64 i/\Past x x.ents i/\(Cd (x.ents.take i)).Nodup/\Ctx w0 ah [(DU,.map (ents (Cd (x.ents.take i)) tt 0).toArray (Cd (x.ents.take i)).length),(b1,aa 35 [.int .i64 x.fmt,.int .i64 x.size,.int .i64 x.depth,.slice a x.ents.length c,.slice a2 x.cols.length a7])]) (x.ents.length) ?_ ?_
 ·exact ⟨0,DU,b1,I,B,B,B,B,B,B,Past.zero _ _,by simp [Cd],G⟩
 intro so f w ai;obtain ⟨i,DU,b1,hk,aK,aM,bF,EZ,E0,WB,BQ,BK,G⟩:=ai;refine aq ?_;refine Z (λNA=>?_) (λNA=>?_)
 ·obtain ⟨e,he⟩:∃ e,x.ents[i]?=some e:=⟨x.ents[i]'(I),bS _⟩;obtain ⟨p,lZ,hp⟩:=hr i e he;obtain ⟨fP,eV,rfl,Wk⟩:=hp.sl;obtain rfl:=a6 I;have fp:=hs.pl e (cb he);refine aq ?_;refine S B B (cT oA qO B EZ WB I I) ?_;refine aGx ?_;refine Gq ?_;intro b7 w G nO iW;refine bn G 0 B B B B B B qO B B ?_;intro w G lI;refine az ?_;refine xJ G (bFe _ _ _ (hp.up G.ext) I) Tryz.func40 B B B B B B ?_;intro cSz w G aQ7 aPr;refine Mn ?_;refine Z (λyS=>?_) (λyS=>?_)
  ·have lC:qK x e:=by
    unfold qK;rcases yS with ((h | h) | h) | h
    ·exact .inl λaH=>by rw [aPr.2 aH] at h;cases h
    ·exact .inr (.inl I)
    ·exact .inr (.inr (.inl I))
    ·exact .inr (.inr (.inr I))
   refine aq ?_;refine DH ?_;show (21:Int)=h5 x;rw [HH a1 rr];exact (T4 he BQ (bJa lC) (by decide)).symm
  have Bz:ou e.path:=aPr.1 yS.1.1.1;have BI:¬ qK x e:=by
   unfold qK;rintro (h | h)
   ·exact h Bz
   ·omega
  refine Mn ?_;refine Z (λbOa=>?_) (λbOa=>?_)
  ·have Nr:rP x (x.ents.take i) e:=by unfold rP;omega
   refine aq ?_;refine DH ?_;show (2:Int)=h5 x;rw [HH a1 rr];exact (T4 he BQ (bI9 BI Nr) (by decide)).symm
  have c9:¬ rP x (x.ents.take i) e:=by unfold rP;omega
  refine i6 ?_;refine Gr ?_;intro cSl w G bUv bR4;subst bR4;refine aG ?_;refine S B B (Y7 B B B Tryz.underlying102 aF (yr _) (G.at 1 B)) ?_;refine ab ?_;refine Z (λNv=>?_) (λNv=>?_)
  ·refine aq ?_;refine DH ?_;show (8:Int)=h5 x;rw [HH a1 rr];exact (T4 he BQ (bJb BI c9 ((aV0 BQ Bz).1 (Nn.1 Nv))) (by decide)).symm
  have lF:=aNc Nv;have ap:lU x (x.ents.take i) e=0:=T2 BI c9 λh=>lF ((aV0 BQ Bz).2 h)
  refine an ?_;refine YB G 1 B B B B B B Tryz.underlying102 aF BK B Nv ?_;intro w G aOh;refine aq ?_;refine ⟨so-1,_,I,B,i+1,DU,b1,I,aK,aM,aD (Value.int .i64) (aR9 he).symm,EZ,E0,B,BQ.succ he ap,?_,?_⟩
  ·rw [aR6 he];exact bYq BK lF
  ·rw [aR6 he];exact G.drop 1
 refine az ?_;refine DH ?_;show (0:Int)=h5 x;rw [HH a1 rr];exact (aLq λj e ax he=>BQ j e I he).symm
theorem bYh (kg b1 a2 b2:Int)(w:World) :
  (binOp .neq 48 (.agg #[.int .i64 kg,.int .i64 a2]) (.agg #[.int .i64 b1,.int .i64 b2])).run W w=.ok (.bool (!(kg==b1&&a2==b2))) w:=by
 go_simp
 by_cases h1:kg=b1 <;> by_cases h2:a2=b2 <;> simp [h1,h2]
theorem bCy (v u:Value)(l:List Stp)(w0:World)(hv:Pth w0 v l)(aP:Pth w0 u l)(hl:l.length<=140737488355328):Fc W 20 [v,u] w0 (λv _=>v=.bool true) :=
 (bCr v u l l w0 hv aP hl hl).mono λv w' _ ⟨r,hv,hr⟩=>by rw [hv,hr.2 rfl]
theorem HB (r1 mE:List Value)(x:Idx)(w0:World)(h1:IdxV w0 x r1)(h2:IdxV w0 x mE)(hs:Szd x):Fc W 11 [.agg r1.toArray,.agg mE.toArray] w0 (lP λb=>b=true):=by
 obtain ⟨gR,jB,rfl,cc,yL⟩:=h1;obtain ⟨a,c,b,o,rfl,a6,hr⟩:=cc.form;obtain ⟨a2,a7,b2,ik,rfl,UH,nl⟩:=yL.form;obtain ⟨cTw,zP,rfl,UC,UB⟩:=h2;obtain ⟨d,k,bl,cSh,rfl,hd,aw⟩:=UC.form;obtain ⟨jI,k2,cJo,cSi,rfl,qm,lH⟩:=UB.form;have tL:=hs.el;have j1:=hs.cl;refine aI Tryz.func11 B Tryz.ntmps11 B ?_;have G:=Ctx.start w0;refine dR ?_;refine bE ?_;intro b2 w G di e3;refine bE ?_;intro b3 w G eE gr;refine jF ?_;refine nF ?_;refine S B B (bO Uc B B) ?_;refine Dm ?_;refine S B B (bO Uc B B) ?_;refine Ds ?_;refine l7 ?_;refine aN B B B a8 (λhc=>bO Ud B ay) ?_;refine aGy ?_;refine aN B B B a8 (λhc=>bO Ud B ay) ?_;refine Mc ?_;refine Md ?_;refine Ap ?_;refine eW ?_;refine aN B B B a8 (λhc=>bO Ue B ay) ?_;refine aGy ?_;refine aN B B B a8 (λhc=>bO Ue B ay) ?_;refine Mc ?_;refine Md ?_;refine Ap ?_;refine eW ?_;refine aN B B B a8 (λhc=>bO Bb B ay) ?_;refine aN B B B a8 (λhc=>br B ay mc B (G.cell 1 B B)) ?_;refine aGz ?_;refine aN B B B a8 (λhc=>bO Bb B ay) ?_;refine aN B B B a8 (λhc=>br B ay mc B (G.cell 0 B B)) ?_;refine aGz ?_;refine Md ?_;refine Ap ?_;refine eW ?_;refine aN B B B a8 (λhc=>bO u1 B ay) ?_;refine aN B B B a8 (λhc=>br B ay oA B (G.cell 1 B B)) ?_;refine aG0 ?_;refine aN B B B a8 (λhc=>bO u1 B ay) ?_;refine aN B B B a8 (λhc=>br B ay oA B (G.cell 0 B B)) ?_;refine aG0 ?_;refine Md ?_;refine Ap ?_;refine eA ?_;refine cn B (λkV=>?_) (λkV=>?_)
 ·exact absurd kV (by simp)
 try simp only [dy] at kV
 refine iZ ?_;refine nF ?_;refine jF ?_;refine ox ?_;refine bu (λg f ah=>∃ i b1 b3:Nat,g+i=x.cols.length/\f 2=.pointer (some ⟨b1,0,none⟩)/\f 3=.pointer (some ⟨b3,0,none⟩)/\f 5=.int .i64 i/\Ctx w0 ah [(b3,.cells ([.int .i64 x.fmt,.int .i64 x.size,.int .i64 x.depth,.slice d x.ents.length k,.slice jI x.cols.length k2]:List Value).toArray 35),(b1,.cells ([.int .i64 x.fmt,.int .i64 x.size,.int .i64 x.depth,.slice a x.ents.length c,.slice a2 x.cols.length a7]:List Value).toArray 35)]) (x.cols.length) ?_ ?_
 ·exact ⟨0,_,_,I,B,B,B,G⟩
 intro pC f w ai;obtain ⟨i,b1,b3,bPw,aE,aR,bF,G⟩:=ai;refine nF ?_;refine C9 ?_;refine S B B (bO Bb B aE) ?_;refine S B B (br B B mc B (G.cell 1 B B)) ?_;refine S B B (hJ B B mc) ?_;refine l5 ?_;refine Z (λgq=>?_) (λgq=>?_)
 ·obtain ⟨y,hy⟩:∃ y,x.cols[i]?=some y:=⟨x.cols[i]'(I),bS _⟩;have lZ:=nl i y hy;have EX:=lH i y hy;obtain rfl:=UH I;obtain rfl:=qm I;refine DA ?_;refine jj ?_;refine GN ?_;refine fA B B (λw G cA=>bO Bb B aE) ?_;refine fA B B (λw G cA=>br B B mc B (G.cell 1 B B)) ?_;refine RH ?_;refine aG1 ?_;refine fA B B (λw G cA=>br B B aF B ((lZ.up G.ext).cell 0 B)) ?_;refine fA B B (λw G cA=>bO Bb B aR) ?_;refine fA B B (λw G cA=>br B B mc B (G.cell 0 B B)) ?_;refine RH ?_;refine aG1 ?_;refine fA B B (λw G cA=>br B B aF B ((EX.up G.ext).cell 0 B)) ?_;refine fA B B (λw G cA=>wa B B B) ?_;refine Kl ?_;rintro w ⟨G,bVm⟩;refine cn B (λrq=>?_) (λrq=>?_)
  ·exact absurd rq (by simp)
  try simp only [dy] at rq
  refine yd ?_;refine C9 ?_;refine oy ?_;refine jF ?_;exact ⟨pC-1,_,I,B,i+1,b1,b3,I,aE,aR,B,G⟩
 refine wp_exit ?_;refine nF ?_;refine jF ?_;refine ox ?_;refine bu (λg f ah=>∃ i b1 b3:Nat,g+i=x.ents.length/\f 2=.pointer (some ⟨b1,0,none⟩)/\f 3=.pointer (some ⟨b3,0,none⟩)/\f 6=.int .i64 i/\Ctx w0 ah [(b3,.cells ([.int .i64 x.fmt,.int .i64 x.size,.int .i64 x.depth,.slice d x.ents.length k,.slice jI x.cols.length k2]:List Value).toArray 35),(b1,.cells ([.int .i64 x.fmt,.int .i64 x.size,.int .i64 x.depth,.slice a x.ents.length c,.slice a2 x.cols.length a7]:List Value).toArray 35)]) (x.ents.length) ?_ ?_
 ·exact ⟨0,b1,b3,I,aE,aR,B,G⟩
 intro so f w ai;obtain ⟨i,b1,b3,bPw,aE,aR,aL,G⟩:=ai;refine nF ?_;refine qW ?_;refine S B B (bO u1 B aE) ?_;refine S B B (br B B oA B (G.cell 1 B B)) ?_;refine S B B (hJ B B oA) ?_;refine l5 ?_;refine Z (λBp=>?_) (λBp=>?_)
 ·obtain ⟨e,he⟩:∃ e,x.ents[i]?=some e:=⟨x.ents[i]'(I),bS _⟩;obtain ⟨p,lZ,hp⟩:=hr i e he;obtain ⟨ch,EX,ff⟩:=aw i e he;obtain rfl:=a6 I;obtain rfl:=hd I;have fp:=hs.pl e (cb he);refine DA ?_;refine jj ?_;refine GN ?_;refine fA B B (λw G cA=>bO u1 B aE) ?_;refine fA B B (λw G cA=>br B B oA B (G.cell 1 B B)) ?_;refine fA B B (λw G cA=>cU B aL) ?_;refine aG2 ?_;refine fA B B (λw G cA=>bO Ug B B) ?_;refine fA B B (λw G cA=>cG B B Tryz.underlying48 B vQ (l:=[.int .i64 e.fr,.int .i64 e.tu]) ((lZ.up G.ext).sub 1 B) B) ?_;refine fA B B (λw G cA=>bO u1 B aR) ?_;refine fA B B (λw G cA=>br B B oA B (G.cell 0 B B)) ?_;refine fA B B (λw G cA=>cU B aL) ?_;refine aG2 ?_;refine fA B B (λw G cA=>bO Ug B B) ?_;refine fA B B (λw G cA=>cG B B Tryz.underlying48 B vQ (l:=[.int .i64 e.fr,.int .i64 e.tu]) ((EX.up G.ext).sub 1 B) B) ?_;refine fA B B (λw G cA=>Qb bJl (bYh _ _ _ _) B B B) ?_;refine GO ?_;refine gy B B B a8 (λhc w G cA=>bO u1 B aE) ?_;refine gy B B B a8 (λhc w G cA=>br B ay oA B (G.cell 1 B B)) ?_;refine gy B B B a8 (λhc w G cA=>cU B aL) ?_;refine aG3 ?_;refine gy B B B a8 (λhc w G cA=>bO Uf B ay) ?_;refine gy B B B a8 (λhc w G cA=>br B ay lp B ((lZ.up G.ext).cell 0 B)) ?_;refine gy B B B a8 (λhc w G cA=>bO u1 B aR) ?_;refine gy B B B a8 (λhc w G cA=>br B ay oA B (G.cell 0 B B)) ?_;refine gy B B B a8 (λhc w G cA=>cU B aL) ?_;refine aG3 ?_;refine gy B B B a8 (λhc w G cA=>bO Uf B ay) ?_;refine gy B B B a8 (λhc w G cA=>br B ay lp B ((EX.up G.ext).cell 0 B)) ?_;refine aUt (v:=.bool true) B B B a8 (λhc=>aVq Tryz.func20 B B B (aX X7 (aX X7 B))) (λhc w G cA=>bCy _ _ e.path _ (hp.up G.ext) (ff.up G.ext) I) ?_;refine gy B B B a8 (λhc w G cA=>vZ B ay) ?_;refine fA B B (λw G cA=>CK B B B B) ?_;refine Kl ?_;rintro w ⟨G,cRc⟩;refine cn B (λw1=>?_) (λw1=>?_)
  ·exact absurd w1 (by simp)
  try simp only [dy] at w1
  refine yd ?_;refine qW ?_;refine oy ?_;refine jF ?_;exact ⟨so-1,_,I,B,i+1,b1,b3,I,aE,aR,B,G⟩
 refine Aw ?_;refine qY ?_;refine be Tryz.results11 B ?_;exact ⟨G.ext,true,B,B⟩
end Go.Proofs.YthiafbkolhnadaaGreatDoor
end
section
set_option maxRecDepth 10000
namespace Go.Dk
open Go Go.RowKit Go.Lib Go.Proofs.YthiafbkolhnadaaGreatDoor
open Go.Proofs.YthiafbkolhnadaaGreatDoor renaming Tok->yTok
def fH:List UInt8:=[123,97,58,32,91,49,44,32,50,93,44,32,98,58,32,51,125]
theorem bXb {u:List UInt8}(h:(¬ ja (u.getD 0 0)/\(u.getD 0 0).toNat≠10/\(u.getD 0 0).toNat≠13/\(u.getD 0 0).toNat≠47)/\pun (u.getD 0 0).toNat):Lex u 0 4 1:=by
 obtain ⟨⟨a,b,c,d⟩,e⟩:=h;unfold Lex;rw [O a,O b,O c,O d,U e];exact ⟨B,B,B⟩
theorem lexB {u:List UInt8}(h:ja (u.getD 0 0)/\pre ja u=1):Lex u 0 1 1:=by
 unfold Lex;rw [U h.1];exact ⟨B,B,h.2.symm⟩
theorem JY {u:List UInt8}(h:(¬ ja (u.getD 0 0)/\(u.getD 0 0).toNat≠10/\(u.getD 0 0).toNat≠13/\(u.getD 0 0).toNat≠47)/\(¬ pun (u.getD 0 0).toNat/\(u.getD 0 0).toNat≠34/\¬ (((u.getD 0 0).toNat=116\/(u.getD 0 0).toNat=98)/\1<u.length/\(u.getD 1 0).toNat=34))/\jD (u.getD 0 0)/\pre jD u=1/\(numb (u.take 1)\/isBare (u.take 1))):Lex u 0 6 1:=by
 obtain ⟨⟨a,b,c,d⟩,⟨e,f,g⟩,i,j,k⟩:=h;have hw:gB u=(0,1):=by unfold gB;rw [j,U k]
 unfold Lex;rw [O a,O b,O c,O d,O e,O f,O g,U i,hw];exact ⟨B,B,B⟩
theorem F0 {s:List UInt8}{p k:Nat}(ap:p<s.length)(hl:Lex (s.drop p) 0 k 1)(hk:3<k):yTok s p (0,p,k,1) :=
 .done (by unfold kz;rw [O I];exact ⟨0,k,1,hl,by rw [O (by decide),O I]⟩)
theorem cFk {s:List UInt8}{p:Nat}{r:Nat×Nat×Nat×Nat}(ap:p<s.length)(hl:Lex (s.drop p) 0 1 1)(ht:yTok s (p+1) r):yTok s p r :=
 .more (by unfold kz;rw [O I];exact ⟨0,1,1,hl,by rw [O (by decide),U (by decide)]⟩) ht
theorem zN {p:Nat}(h:p<17/\((¬ ja ((fH.drop p).getD 0 0)/\((fH.drop p).getD 0 0).toNat≠10/\((fH.drop p).getD 0 0).toNat≠13/\((fH.drop p).getD 0 0).toNat≠47)/\pun ((fH.drop p).getD 0 0).toNat)):yTok fH p (0,p,4,1):=F0 h.1 (bXb h.2) (by decide)
def A9:T:=.mk 4 [] [123] [.mk 5 [] [] [.mk 6 [] [97] [] [],.mk 11 [] [58] [] [],.mk 3 [32] [91] [.mk 5 [] [] [.mk 2 [] [49] [] [],.mk 11 [] [44] [] []] [],.mk 5 [] [] [.mk 2 [32] [50] [] []] []] [93],.mk 11 [] [44] [] []] [],.mk 5 [] [] [.mk 6 [32] [98] [] [],.mk 11 [] [58] [] [],.mk 2 [32] [51] [] []] []] [125]
theorem YD {x:List UInt8}{k:Nat}(h:¬ (x=zX\/x=wc\/x=wb)/\(x.getD 0 0).toNat≠34/\(x.getD 0 0).toNat≠116/\(x.getD 0 0).toNat≠98)(hd:oK x=0):ScR cx x 0:=by
 unfold ScR;rw [O h.1,O h.2.1,O h.2.2.1,O h.2.2.2];exact hd.symm
theorem Xy {x:List UInt8}(h:(x.getD 0 0).toNat≠34):KeyR x x:=by unfold KeyR;rw [O h]
theorem Zi:yTok fH 5 (0,5,6,1):=F0 (by decide) (JY (by decide)) (by decide)
theorem cHg:yTok fH 8 (0,8,6,1):=F0 (by decide) (JY (by decide)) (by decide)
theorem ah:yTok fH 1 (0,1,6,1):=F0 (by decide) (JY (by decide)) (by decide)
theorem cHe:yTok fH 12 (0,12,6,1):=F0 (by decide) (JY (by decide)) (by decide)
theorem cHf:yTok fH 15 (0,15,6,1):=F0 (by decide) (JY (by decide)) (by decide)
theorem MD {p:Nat}{r:Nat×Nat×Nat×Nat}(h:p<17/\ja ((fH.drop p).getD 0 0)/\pre ja (fH.drop p)=1)(ht:yTok fH (p+1) r):yTok fH p r:=cFk h.1 (lexB h.2) ht
theorem YG {x:List UInt8}(h:numb x):starts x 6:=.inr (.inr ⟨rfl,.inl h⟩)
theorem bJ2:Prs cx fH 48 65536 (.inr (.mk 1 [] [] [A9] [])):=by
 refine Prs.ok (a:=0) (k:=4) (n:=1) (t:=A9) (p:=17) (nodes:=5) (a2:=17) (n2:=0) (zN (by decide)) ?_ (.done (by unfold kz;rw [U (by decide)];rfl));refine Pr.vEnts (m:=true) (kids:=A9.kids) (tail:=[125]) B (by decide) (by decide) ?_;refine Pr.eMore (t:=.mk 3 [32] [91] [.mk 5 [] [] [.mk 2 [] [49] [] [],.mk 11 [] [44] [] []] [],.mk 5 [] [] [.mk 2 [32] [50] [] []] []] [93]) (p':=10) (nodes':=4) (a2:=10) (k2:=4) (n2:=1) ah (by decide) (KeyP.ok (key:=[97]) (a2:=2) (k2:=4) (n2:=1) (a3:=4) (k3:=4) (n3:=1) (.inl ⟨B,by decide⟩) (Xy (by decide)) (by decide) (by decide) (zN (by decide)) (by decide) (MD (by decide) (zN (by decide)))) ?_ (zN (by decide)) (by decide) ?_
 . refine Pr.vEnts (m:=false) (kids:=[.mk 5 [] [] [.mk 2 [] [49] [] [],.mk 11 [] [44] [] []] [],.mk 5 [] [] [.mk 2 [32] [50] [] []] []]) (tail:=[93]) B (by decide) (by decide) ?_
   refine Pr.eMore (t:=.mk 2 [] [49] [] []) (p':=6) (nodes':=3) (a2:=6) (k2:=4) (n2:=1) Zi (by decide) .list (Pr.vSc (YG (by decide)) (by decide) (by decide) (by decide) (YD (k:=0) (by decide) (by decide))) (zN (by decide)) (by decide) ?_;exact Pr.eLast (t:=.mk 2 [32] [50] [] []) (p':=9) (nodes':=4) (a2:=9) (k2:=4) (n2:=1) (MD (by decide) cHg) (by decide) .list (Pr.vSc (YG (by decide)) (by decide) (by decide) (by decide) (YD (k:=0) (by decide) (by decide))) (zN (by decide)) (by decide)
 ·exact Pr.eLast (t:=.mk 2 [32] [51] [] []) (p':=16) (nodes':=5) (a2:=16) (k2:=4) (n2:=1) (MD (by decide) cHe) (by decide) (KeyP.ok (key:=[98]) (a2:=13) (k2:=4) (n2:=1) (a3:=15) (k3:=6) (n3:=1) (.inl ⟨B,by decide⟩) (Xy (by decide)) (by decide) (by decide) (zN (by decide)) (by decide) (MD (by decide) cHf)) (Pr.vSc (YG (by decide)) (by decide) (by decide) (by decide) (YD (k:=0) (by decide) (by decide))) (zN (by decide)) (by decide)
theorem bJ1:Bad fH fH.length :=
 Lp.more (s':=1) (show gf fH 0=.inl 1 from rfl) <| Lp.more (s':=2) (show gf fH 1=.inl 2 from rfl) <| Lp.more (s':=3) (show gf fH 2=.inl 3 from rfl) <| Lp.more (s':=4) (show gf fH 3=.inl 4 from rfl) <| Lp.more (s':=5) (show gf fH 4=.inl 5 from rfl) <| Lp.more (s':=6) (show gf fH 5=.inl 6 from rfl) <| Lp.more (s':=7) (show gf fH 6=.inl 7 from rfl) <| Lp.more (s':=8) (show gf fH 7=.inl 8 from rfl) <| Lp.more (s':=9) (show gf fH 8=.inl 9 from rfl) <| Lp.more (s':=10) (show gf fH 9=.inl 10 from rfl) <| Lp.more (s':=11) (show gf fH 10=.inl 11 from rfl) <| Lp.more (s':=12) (show gf fH 11=.inl 12 from rfl) <| Lp.more (s':=13) (show gf fH 12=.inl 13 from rfl) <| Lp.more (s':=14) (show gf fH 13=.inl 14 from rfl) <| Lp.more (s':=15) (show gf fH 14=.inl 15 from rfl) <| Lp.more (s':=16) (show gf fH 15=.inl 16 from rfl) <| Lp.more (s':=17) (show gf fH 16=.inl 17 from rfl) <| Lp.done (show gf fH 17=.inr 17 from rfl)
theorem aLx:Pd cx fH 48 65536 1048576 1024 65536 (.inr (.mk 1 [] [] [A9] [])):=.doc (by decide) (by decide) bJ1 bJ2
end Go.Dk
end
section
set_option maxRecDepth 10000
namespace Go.Dk
open Go Go.RowKit Go.Lib Go.Proofs.YthiafbkolhnadaaGreatDoor
def M2:List Ent:=[⟨[⟨false,bs [97],0⟩],4,10⟩,⟨[⟨false,bs [98],0⟩],15,16⟩]
def py:Idx:=⟨1,17,1,M2,[]⟩
theorem aL0 {gj x fh:List UInt8}{r:List T}{key:List UInt8}{v:T}(hx:(x.getD 0 0).toNat≠34)(h:EntOk true (.mk 5 [] [] (.mk 6 gj x [] []::.mk 11 fh [58] [] []::r) []) key v):key=x:=by
 obtain ⟨qh,more,he,_,af,bg,aj,rfl,hk,_⟩:=h
 injection he with _ _ _ h1 _
 have h2:=(List.cons.inj h1).1
 injection h2 with _ _ Y _ _
 subst Y;exact hk.det (Xy hx)
theorem bJ4 {v:V}(h:Shp A9 v):pT 1 A9 v 0 []=M2:=by
 have e:pT 1 A9 v 0 []=[⟨[iI v 0],4,10⟩,⟨[iI v 1],15,16⟩]:=B;rcases Shp.inv h with ⟨h1,_⟩ | ⟨h1,_⟩ | ⟨_,hk,l,hl,he,hf,_⟩
 ·exact absurd h1 (by decide)
 ·exact absurd h1 (by decide)
 obtain ⟨dM,eQ,rfl⟩:∃ dM eQ,l=[dM,eQ]:=by
  match l,hl with
  | [a,b],_=>exact ⟨a,b,rfl⟩
  | [],h=>cases h
  | [a],h=>simp at h
  | a::b::c::d,h=>simp at h
 simp only [jk,List.map_nil,iL,and_true] at hl hf;obtain ⟨bm,aZ⟩:=hl;have cy:=he dM (b9 ..);have k2:=he eQ (bP _ (b9 ..));rw [<- bm] at cy;rw [<- aZ] at k2;have g1:=aL0 (by decide) cy;have dt:=aL0 (by decide) k2;rw [g1,dt] at hf;have jb:=aD (λl:List ByteArray=>l[0]?) hf;have db:=aD (λl:List ByteArray=>l[1]?) hf;simp only [eF] at jb db;have dA:iI v 0=⟨false,bs [97],0⟩:=by unfold iI;rw [U hk,jb];rfl
 have fa:iI v 1=⟨false,bs [98],0⟩:=by unfold iI;rw [U hk,db];rfl
 rw [e,dA,fa];rfl
theorem bJ3 {dl:Dl}{x:Idx}{o k:Int}(h:Bx cx fH 1 1 dl 48 65536 1048576 1024 65536 x o k):x=py/\o=0/\k=0:=by
 cases h with
 | arg h=>exfalso;omega
 | berr _ _ _ hp=>cases hp.det aLx
 | bok _ _ _ hp hs =>
  have bm:=Sum.inr.inj (hp.det aLx);cases bm;refine ⟨?_,B,B⟩;unfold py;rw [<- bJ4 hs];rfl
 | derr h _ _ _=>exfalso;omega
 | dok h _ _ _=>exfalso;omega
theorem bYi {c:UInt8}(h:qF (fu (bs [c]) ((0:Nat):Int))):vw (bs [c]):=by
 refine ⟨by rw [gI];exact AF,λj ax=>.inl ?_⟩;rw [gI] at ax;have:j=0:=by have:j<1:=ax;omega
 subst this;exact h
theorem aKs {u:Nat}(h:u<10):decDigits u=[bM (48+u)]:=by rw [decDigits,dif_pos h]
theorem bHn {u:Nat}(h:¬ u<10)(h2:u / 10<10):decDigits u=[bM (48+u / 10),bM (48+u%10)]:=by rw [decDigits,dif_neg h,aKs h2];rfl
theorem aRs {u:Nat}(h:u<10):itoa (u:Int)=[bM (48+u)]:=by rw [Fl,aKs h]
theorem OP {u:Nat}(h:¬ u<10)(h2:u / 10<10):itoa (u:Int)=[bM (48+u / 10),bM (48+u%10)]:=by rw [Fl,bHn h h2]
theorem aL1 {c:UInt8}(h:qF (fu (bs [c]) ((0:Nat):Int))):jy [⟨false,bs [c],0⟩]=[46,c]:=by
 show (if (false:Bool)=true then [46] else [])++[(⟨false,bs [c],0⟩:Stp)].flatMap fZ=_;rw [O (by decide),gG,gE,List.flatMap_nil,cH];unfold fZ;rw [O (λh=>by cases h),U (bYi h)];rfl
theorem bJ6:CG py=[105,110,100,101,120,32,98,114,97,99,101,32,49,55,32,49,10,52,32,49,48,32,46,97,10,49,53,32,49,54,32,46,98,10]:=by
 rw [cFj];unfold XI;have ap:yV py=[105,110,100,101,120,32,98,114,97,99,101,32,49,55,32,49]:=by
  unfold yV;rw [show py.size=((17:Nat):Int) from B,show py.depth=((1:Nat):Int) from B,OP (by decide) (by decide),aRs (by decide)];rfl
 have h1:entT ⟨[⟨false,bs [97],0⟩],4,10⟩=[52,32,49,48,32,46,97]:=by
  unfold entT;show itoa ((4:Nat):Int)++[32]++itoa ((10:Nat):Int)++[32]++jy [⟨false,bs [97],0⟩]=_;rw [aRs (by decide),OP (by decide) (by decide),aL1 (by unfold qF;decide)];rfl
 have h2:entT ⟨[⟨false,bs [98],0⟩],15,16⟩=[49,53,32,49,54,32,46,98]:=by
  unfold entT;show itoa ((15:Nat):Int)++[32]++itoa ((16:Nat):Int)++[32]++jy [⟨false,bs [98],0⟩]=_;rw [OP (by decide) (by decide),OP (by decide) (by decide),aL1 (by unfold qF;decide)];rfl
 rw [ap,show py.cols=[] from B,show py.ents=[⟨[⟨false,bs [97],0⟩],4,10⟩,⟨[⟨false,bs [98],0⟩],15,16⟩] from B];simp only [jk,List.map_nil,gG,h1,h2]
 rfl
theorem aLz {c:UInt8}(h:validD [c]=true):ou [⟨false,bs [c],0⟩]:=by
 refine ⟨by show 1<=48;decide,λs hs=>?_⟩;rw [hL] at hs;subst hs;exact ⟨(λh=>by cases h),λ_=>⟨B,by rw [gI];show 1<=1024;decide,by rw [tp];exact h⟩⟩
theorem aLy:h5 py=0:=by
 rw [HH (by unfold tK;decide) (aKh (λc h=>by cases h) List.nodup_nil)];refine aLq λj e ax he=>?_
 have vh:j<2:=ax;have:j=0\/j=1:=I;rcases this with rfl | rfl
 . cases he
   exact T2 (by unfold qK;rintro (h | h | h | h);exact h (aLz (by decide));cases h;revert h;decide;exact absurd h.1 (by decide)) (by unfold rP;decide) (λ⟨y,hy,_⟩=>by cases hy)
 . cases he
   refine T2 (by unfold qK;rintro (h | h | h | h);exact h (aLz (by decide));cases h;revert h;decide;exact absurd h.1 (by decide)) (by unfold rP;decide) (λ⟨y,hy,hp⟩=>?_);have ju:y=⟨[⟨false,bs [97],0⟩],4,10⟩:=by simpa [py,M2] using hy
   subst ju;have:=(List.cons.inj hp).1
   injection this with _ h _
   exact absurd (tq h) (by decide)
end Go.Dk
end
section
namespace Go.Proofs.YthiafbkolhnadaaGreatDoor
open Go Go.Dk Go.RowKit Go.Lib
attribute [local irreducible] Go.wpList Go.Code.wp Go.bodyPost Go.wpStill Go.wpQuiet
end Go.Proofs.YthiafbkolhnadaaGreatDoor
end
section
namespace Go.Proofs.YthiafbkolhnadaaGreatDoor
open Go Go.Dk Go.RowKit Go.Lib
attribute [local irreducible] Go.wpList Go.Code.wp Go.bodyPost Go.wpStill Go.wpQuiet
end Go.Proofs.YthiafbkolhnadaaGreatDoor
end
section
namespace Go.Proofs.YthiafbkolhnadaaGreatDoor
open Go Go.Dk Go.RowKit Go.Lib
attribute [local irreducible] Go.wpList Go.Code.wp Go.bodyPost Go.wpStill Go.wpQuiet
end Go.Proofs.YthiafbkolhnadaaGreatDoor
end
section
namespace Go.Proofs.YthiafbkolhnadaaGreatDoor
open Go Go.Dk Go.RowKit Go.Lib
attribute [local irreducible] Go.wpList Go.Code.wp Go.bodyPost Go.wpStill Go.wpQuiet
noncomputable def CH (x:Idx):List UInt8:=if h5 x=0 then CG x else []
theorem aWw {x:Idx}(h:h5 x=0):CH x=CG x:=by unfold CH;rw [U h]
theorem cFz {x:Idx}(h:¬ h5 x=0):CH x=[]:=by unfold CH;rw [O h]
end Go.Proofs.YthiafbkolhnadaaGreatDoor
end
section
namespace Go.Proofs.YthiafbkolhnadaaGreatDoor
open Go Go.Dk Go.RowKit Go.Lib
attribute [local irreducible] Go.wpList Go.Code.wp Go.bodyPost Go.wpStill
section
variable {P:Program} {o:Oper} {w:World} {ρ:Operand->Value}
theorem bJo (d:Nat){t e:TypeId}(a:Option Addr)(l c:Nat)(aP:P.underlying t=some (.slice e)):(Op.equalIn (d+1) t (.slice a l c) (al)).run P w=.ok a.isNone w:=by
 cases a <;> simp [Op.equalIn,run_underlying aP]
theorem aXh {t ee e:TypeId}{x y:Operand}{a:Option Addr}{l c:Nat}(au:o.op=.binOp .eql t x y ee)(hx:ρ x=.slice a l c)(hy:ρ y=al)(aP:P.underlying t=some (.slice e)) :
  (execOp ρ o).run P w=.ok (.value (.bool a.isNone)) w:=by
 unfold execOp;rw [au];simp only [hx,hy];have h1:(Op.equal t (.slice a l c) (al)).run P w=.ok a.isNone w:=bJo 9999 a l c aP;simp [eqGuard,binOp,h1]
end
theorem bEw (w0:World):Fc W 369 [al] w0 (λv _=>v=al):=by
 refine aI Tryz.func369 B Tryz.ntmps369 B ?_;have G:=Ctx.start w0;refine bz ?_;refine S B B (aXh B B B fk) ?_;refine ab ?_;refine cn B (λhR=>?_) (λhR=>?_)
 ·try simp only [dy] at hR
  refine aq ?_;refine be Tryz.results369 B ?_;exact gC
 exact absurd hR (by decide)
theorem bEu (w0:World):Fc W 365 [al] w0 (λv _=>v=al):=by
 refine aI Tryz.func365 B Tryz.ntmps365 B ?_;have G:=Ctx.start w0;refine bz ?_;refine S B B (aXh B B B qd) ?_;refine ab ?_;refine cn B (λhR=>?_) (λhR=>?_)
 ·try simp only [dy] at hR
  refine aq ?_;refine be Tryz.results365 B ?_;exact gC
 exact absurd hR (by decide)
theorem CA {c:UInt8}(n:Nat)(h:(c.toNat:Int)=n):((xK c).toNat:Int)=(((xK (bM n)).toNat:Nat):Int):=by
 have h1:c.toNat=n:=I;have:c=bM n:=by
  rw [<- h1];exact q5.1 (by rw [UInt8.toNat_ofNat'];exact (yo c.toNat_lt).symm)
 rw [this]
theorem cD9 {c:UInt8}(h:(c.toNat:Int)≠34/\(c.toNat:Int)≠92/\(c.toNat:Int)≠8/\(c.toNat:Int)≠12/\(c.toNat:Int)≠10/\(c.toNat:Int)≠13/\(c.toNat:Int)≠9):xK c=0:=by
 obtain ⟨a,b,d,e,f,g,i⟩:=h;have k:∀ (n:UInt8),(c.toNat:Int)≠(n.toNat:Int)->c≠n:=λn h e=>h (by rw [e])
 unfold xK;rw [O (k 34 a),O (k 92 b),O (k 8 d),O (k 12 e),O (k 10 f),O (k 13 g),O (k 9 i)]
theorem bD0 (c:UInt8)(w0:World):Fc W 302 [.int .u8 ((c.toNat:Nat):Int)] w0 (λv _=>v=.int .u8 (((xK c).toNat:Nat):Int)):=by
 refine aI Tryz.func302 B Tryz.ntmps302 B ?_;have G:=Ctx.start w0;refine aHp ?_;refine Z (λhR=>?_) (λhR=>?_)
 ·refine ab ?_;exact Zx
 refine an ?_;exact Zx
theorem bFf (w0:World):Fc W 405 [al,.int .i64 0,.int .i64 0,.func (.func 367) #[] #[]] w0 (λv _=>v=.tuple #[]):=by
 refine aI Tryz.func405 B Tryz.ntmps405 B ?_;have G:=Ctx.start w0;refine an ?_;refine S B B (av (v:=(J (0+1))) B B) ?_;refine ag ?_;refine bu (λg f ah=>g=0/\f 8=J 1/\f 0=al/\f 1=J 0/\f 2=J 0/\f 3=.func (.func 367) #[] #[]/\Cxr w0 ah [] []) (0) ?_ ?_
 ·exact ⟨B,aJ,B,B,B,B,G⟩
 intro Ng f w ai;obtain ⟨NI,bb,aB,aK,aE,aR,G⟩:=ai;refine aG ?_;refine cn B (λgK=>?_) (λgK=>?_)
 ·exact absurd gK (by decide)
 try simp only [dy] at gK
 refine ab ?_;refine mH (.inr B) Tryz.results405 ?_;exact gC
theorem bFc (w0:World):Fc W 397 [al,.int .i64 0,.func (.func 367) #[] #[]] w0 (λv _=>v=.tuple #[]):=by
 refine aI Tryz.func397 B Tryz.ntmps397 B ?_;have G:=Ctx.start w0;refine bz ?_;refine S B B (av (v:=(J 20)) B B) ?_;refine ae ?_;refine bu (λg f ah=>g=0/\f 6=J 20/\f 7=J 0/\f 8=J 20/\f 0=al/\f 1=J 0/\f 2=.func (.func 367) #[] #[]/\Cxr w0 ah [] []) (0) ?_ ?_
 ·exact ⟨B,aJ,aJ,aJ,B,B,B,G⟩
 intro h8 f w ai;obtain ⟨ni,aL,aS,bb,aB,aK,aE,G⟩:=ai;refine aG ?_;refine cn B (λe8=>?_) (λe8=>?_)
 ·exact absurd e8 (by decide)
 try simp only [dy] at e8
 refine aG ?_;refine bo G (bFf _) Tryz.func405 B B B B B B ?_;intro w G zk;refine ag ?_;refine bu (λg f ah=>g=0/\f 6=J 20/\f 0=al/\f 1=J 0/\f 2=.func (.func 367) #[] #[]/\Cxr w0 ah [] []) (0) ?_ ?_
 ·exact ⟨B,aL,aB,aK,aE,G⟩
 intro qi f w ai;obtain ⟨IN,aL,aB,aK,aE,G⟩:=ai;refine aG ?_;refine cn B (λnP=>?_) (λnP=>?_)
 ·exact absurd nP (by decide)
 try simp only [dy] at nP
 refine ab ?_;refine mH (.inr B) Tryz.results397 ?_;exact gC
theorem bEv (w0:World):Fc W 366 [al,.func (.func 367) #[] #[]] w0 (λv _=>v=.tuple #[]):=by
 refine aI Tryz.func366 B Tryz.ntmps366 B ?_;have G:=Ctx.start w0;refine aq ?_;refine bo G (bFc _) Tryz.func397 B B B B B B ?_;intro w G jg;refine ab ?_;refine mH (.inr B) Tryz.results366 ?_;exact gC
theorem bC6 (w0:World):Fc W 220 [al] w0 (λv _=>v=.int .i64 0):=by
 refine aI Tryz.func220 B Tryz.ntmps220 B ?_;have G:=Ctx.start w0;refine az ?_;refine Gj ?_;intro b7 w G nO iW;replace G:=G.drop 1;refine cF ?_;refine bu (λg f ah=>g=0/\f 10=J 0/\f 9=J 0/\f 2=J 0/\f 3=.map (some b7)/\f 8=al/\Cxr w0 ah [] []) (0) ?_ ?_
 ·exact ⟨B,aJ,aJ,aJ,B,B,G⟩
 intro gJ f w ai;obtain ⟨qp,cp,b6,aE,aR,bb,G⟩:=ai;refine aq ?_;refine cn B (λfW=>?_) (λfW=>?_)
 ·exact absurd fW (by decide)
 try simp only [dy] at fW
 refine az ?_;refine be Tryz.results220 B ?_;exact gC
end Go.Proofs.YthiafbkolhnadaaGreatDoor
end
section
namespace Go.Proofs.YthiafbkolhnadaaGreatDoor
open Go Go.Dk Go.RowKit Go.Lib
attribute [local irreducible] Go.wpList Go.Code.wp Go.bodyPost Go.wpStill Go.wpQuiet
variable {m:Int}
theorem cEy:(W.info? 245).map (·.size)=some 2:=by kernel_rfl
theorem YK:(W.info? 243).map (·.size)=some 1:=by kernel_rfl
theorem aL3:bY W 245 0 0:=b5 (tt:=243) Tryz.underlying245 rfl YK rfl
theorem aL4:bY W 245 1 1:=b5 (tt:=79) Tryz.underlying245 rfl FZ rfl
theorem cIa:Zero W 245 [.pointer none,al]:=ji (v:=.agg #[.pointer none,al]) ac rfl
theorem bJ0:Extern.findNext Tryz.f348=none:=by kernel_rfl
theorem bJz:Extern.find Tryz.f348=some Extern.AbiNoEscape.same:=by kernel_rfl
theorem cCz (x:Value)(w:World):(callFunc 348 #[x]).run W w=.ok (.value x) w:=by
 have hf : Tryz.prog.funcs[348]? = some Tryz.f348 := Tryz.func348;have hn : (Tryz.f348.name == "runtime.NumGoroutine") = false := by kernel_rfl
 have hb:Tryz.f348.body.isNone=true:=by kernel_rfl
 have hr:(Extern.AbiNoEscape.same #[x]).run W w=.ok x w:=B;simp [callFunc,hf,hn,hb,bJ0,bJz];rw [O (by simpa using hn),U (by simpa using hb)];simp [hr]
theorem aUa (a:Option Addr)(w:World):(binOp .eql 243 (.pointer a) (.pointer none)).run W w=.ok (.bool a.isNone) w:=by
 cases a <;> go_simp
theorem bY7 {l:List UInt8}(ap:0<=m)(h1:m<256):l.map bv++[Value.int .u8 m]=(l++[bM m.toNat]).map bv:=by
 rw [kc]
 congr 1
 show _=[bv _];unfold bv;rw [sW I,Int.toNat_of_nonneg ap]
theorem ON:W.info? 245=some ((W.info? 245).getD default):=by kernel_rfl
theorem bWf:((W.info? 245).getD default).size≠0:=by
 have h:=cEy;rw [ON] at h;intro e;simp only [ti,kS] at h;omega
theorem bXh:liesAt W W.depth 245 (2 / W.cellsOf 245) 0 245 1=true:=by kernel_rfl
theorem _root_.Go.Dk.Cxr.shape {w0 w:World}{L:List (Nat×Obj)}{R:List Row}(h:Cxr w0 w L R)(i:Nat){b t:Nat}{l:List Value}(hi:L[i]?=some (b,.cells l.toArray t)):w.shape? b=some (t,l.length):=by
 have:=h.at i hi;simp [World.shape?,this]
theorem bDk (aA w0:World)(b:Nat)(v:Value)(L:List (Nat×Obj))(R:List Row)(cM:Cxr aA w0 ((b,aa 245 [.pointer none,v])::L) R):Ret W 271 [ao b 0] w0 (λu w'=>u=.tuple #[]/\Cxr aA w' ((b,aa 245 [ao b 0,v])::L) R):=by
 refine aI Tryz.func271 B Tryz.ntmps271 B ?_;have G:=cM;refine eR ?_;refine qX ?_;refine Me ?_;refine SA ?_;refine S B B (aXg Tryz.underlying243 (aUa _) B B B) ?_;refine eA ?_;refine Mb ?_;refine nE ?_;refine eW ?_;refine eW ?_;refine S B B (aXd (Lib.run_to_unsafe _ ⟨b,0,none⟩ Tryz.underlying243 Tryz.underlying380 ON bWf (G.shape 0 B) (by show 0<2;omega)) B B) ?_;refine S B B (cGt (cCz _) B B B) ?_;refine S B B (aXd (Lib.run_from_unsafe _ ⟨b,0,none⟩ Tryz.underlying380 Tryz.underlying243 ON (G.shape 0 B) bXh) B B) ?_;refine qX ?_;refine Me ?_;refine bR (v:=(ao b 0)) G 0 B B B B B B B B YK ?_;intro w G ko;refine eA ?_;refine mH (.inr B) Tryz.results271 ?_;exact ⟨B,G⟩
theorem bDl (aA w0:World)(b:Nat)(v:Value)(L:List (Nat×Obj))(R:List Row)(cM:Cxr aA w0 ((b,aa 245 [ao b 0,v])::L) R):Ret W 271 [ao b 0] w0 (λu w'=>u=.tuple #[]/\Cxr aA w' ((b,aa 245 [ao b 0,v])::L) R):=by
 refine aI Tryz.func271 B Tryz.ntmps271 B ?_;have G:=cM;refine eR ?_;refine qX ?_;refine Me ?_;refine SA ?_;refine S B B (aXg Tryz.underlying243 (aUa _) B B B) ?_;refine eA ?_;refine kR ?_;refine eR ?_;refine qX ?_;refine Me ?_;refine SA ?_;refine eW ?_;refine S B B (cG4 Tryz.underlying243 (j:=_) (ON) B B B) ?_;refine eA ?_;refine kR ?_;refine iZ ?_;refine mH (.inr B) Tryz.results271 ?_;exact ⟨B,G⟩
theorem aJa (aA w0:World)(b:Nat)(L:List (Nat×Obj))(R:List Row)(l:List UInt8)(h:BCx 245 aA w0 b L R l):Ret W 271 [ao b 0] w0 (λu w'=>u=.tuple #[]/\∃ v,Cxr aA w' ((b,aa 245 [ao b 0,v])::L) (⟨5,1,v,l.length,l.map bv⟩::R)):=by
 obtain ⟨a,v,cM,a6⟩:=h;rcases a6 with rfl | rfl
 ·exact (bDk aA w0 b v L _ cM).mono λu w' ⟨h1,h2⟩=>⟨h1,v,h2⟩
 ·exact (bDl aA w0 b v L _ cM).mono λu w' ⟨h1,h2⟩=>⟨h1,v,h2⟩
theorem Th (aA w0:World)(b:Nat)(L:List (Nat×Obj))(R:List Row)(l:List UInt8)(m:Int)(h:BCx 245 aA w0 b L R l)(ap:0<=m)(h1:m<256)(hl:l.length+1<=140737488355328):Ret W 225 [ao b 0,.int .u8 m] w0 (λu w'=>u=.nilIface/\BCx 245 aA w' b L R (l++[bM m.toNat])):=by
 refine aI Tryz.func225 B Tryz.ntmps225 B ?_;refine dR ?_;refine yg ?_;refine bW (aJa aA _ b L R l h) Tryz.func271 B B B B B B ?_;rintro PD w ⟨rfl,v,G⟩;refine Dy ?_;refine eW ?_;refine qX ?_;refine Mf ?_;refine aG4 ?_;refine eW ?_;refine qT ?_;intro jY w G Iw qx;refine xY ?_;intro F1 w G bP1;replace G:=G.drop 1;refine qX ?_;refine Mf ?_;refine bR (v:=F1) G 0 B B B B B G.oneS B B FZ ?_;intro w G jh;refine uH ?_;refine qY ?_;refine be Tryz.results225 B ?_;exact ⟨B,_,_,G.row_eq (by simp) (bY7 ap h1),.inr B⟩
theorem bCq (aA w0:World)(b:Nat)(L:List (Nat×Obj))(R:List Row)(l a:List UInt8)(h:BCx 245 aA w0 b L R l)(hl:l.length+a.length<=140737488355328):Ret W 197 [ao b 0,M a] w0 (λu w'=>(∃ n,u=.tuple #[.int .i64 n,.nilIface])/\BCx 245 aA w' b L R (l++a)):=by
 refine aI Tryz.func197 B Tryz.ntmps197 B ?_;refine Dt ?_;refine yg ?_;refine bW (aJa aA _ b L R l h) Tryz.func271 B B B B B B ?_;rintro Kk w ⟨rfl,v,G⟩;refine Dy ?_;refine eW ?_;refine qX ?_;refine Mf ?_;refine aG4 ?_;refine eW ?_;refine Kq G D8 fk aF B B B B B I ?_;intro F1 w G bP1;refine qX ?_;refine Mf ?_;refine bR (v:=F1) G 0 B B B B B G.oneS B B FZ ?_;intro w G jh;refine Dy ?_;refine wk ?_;refine pe ?_;refine dY Tryz.results197 B B ?_;exact ⟨⟨_,B⟩,_,_,G.row_eq (by simp) (by rw [kc]),.inr B⟩
theorem bC5 (c:ByteArray)(w0:World):Fc W 217 [.agg (leaf c).toArray] w0 (lP λb=>b=false):=by
 refine aI Tryz.func217 B Tryz.ntmps217 B ?_;have G:=Ctx.start w0;refine dR ?_;refine bE ?_;intro b1 w G er fX;refine DB ?_;refine Hd ?_;refine Ds ?_;refine yg ?_;refine l7 ?_;refine aN B B B aO (λhc=>bO aL9 B ay) ?_;refine aN B B B aO (λhc=>br B ay pr B (G.cell 0 B B)) ?_;refine Df ?_;refine DI ?_;refine aN B B B aO (λhc=>bO Uh B ay) ?_;refine aG5 ?_;refine aN B B B aO (λhc=>cd bAn B B) ?_;refine aN B B B aO (λhc=>Qb bJm bY2 B l2 l2) ?_;refine yh ?_;refine DI ?_;refine aN B B B aO (λhc=>bO Ui B ay) ?_;refine aG6 ?_;refine aN B B B aO (λhc=>cd aIc B B) ?_;refine aN B B B aO (λhc=>Qb bJn bY3 B l2 l2) ?_;refine yh ?_;refine DI ?_;refine aN B B B aO (λhc=>bO Ib B ay) ?_;refine aG7 ?_;refine aN B B B aO (λhc=>wa B ay B) ?_;refine yh ?_;refine DI ?_;refine aN B B B aO (λhc=>bO Ic B ay) ?_;refine aN B B B aO (λhc=>br B ay fk B (G.cell 0 B B)) ?_;refine aN B B B aO (λhc=>hJ B ay fk) ?_;refine x6 ?_;refine yh ?_;refine DI ?_;refine aN B B B aO (λhc=>bO Ie B ay) ?_;refine aN B B B aO (λhc=>br B ay oB B (G.cell 0 B B)) ?_;refine aN B B B aO (λhc=>hJ B ay oB) ?_;refine x6 ?_;refine yh ?_;refine DI ?_;refine aN B B B aO (λhc=>bO Ed B ay) ?_;refine aN B B B aO (λhc=>br B ay qd B (G.cell 0 B B)) ?_;refine aN B B B aO (λhc=>hJ B ay qd) ?_;refine x6 ?_;refine yh ?_;refine qY ?_;refine be Tryz.results217 B ?_;exact ⟨G.ext,_,B,B⟩
theorem bCc (c:ByteArray)(aA w0:World)(b:Nat)(L:List (Nat×Obj))(cM:Cxr aA w0 ((b,aa 3 [.int .i64 0])::L) [])(hv:validD c.data.toList=true)(hc:c.size<=1024):Ret W 154 [.agg (leaf c).toArray,.int .i64 1,ao b 0] w0 (λv w'=>v=.int .i64 0/\Cxr aA w' ((b,aa 3 [.int .i64 1])::L) []):=by
 refine aI Tryz.func154 B Tryz.ntmps154 B ?_;have G:=cM;refine dR ?_;refine bE ?_;intro b3 w G eE gr;refine yg ?_;refine qX ?_;refine DG ?_;refine qX ?_;refine bR (v:=.int .i64 1) G 1 B B B B B B B B bN ?_;intro w G ko;refine p4 ?_;refine ox ?_;refine eR ?_;refine pf ?_;refine kR ?_;refine eR ?_;refine qX ?_;refine Dm ?_;refine pf ?_;refine yi ?_;refine Hd ?_;refine Ds ?_;refine l7 ?_;refine aN B B B a8 (λhc=>bO M6 B ay) ?_;refine Mc ?_;refine Mh ?_;refine eW ?_;refine aN B B B a8 (λhc=>cG B ay fb B c6 (G.row 0 B) B) ?_;refine Cy G B B B a8 (λhc=>bC5 c _) Tryz.func217 B B B (λhc=>(aX ay B)) ?_;intro aUn w G Oz V8;obtain rfl:aUn=false:=V8 (by first | rfl | decide | simp);refine Ap ?_;refine jF ?_;refine yi ?_;refine Hd ?_;refine Ds ?_;refine l7 ?_;refine aN B B B aO (λhc=>bO Uh B ay) ?_;refine aG5 ?_;refine Cy G B B B aO (λhc=>(absurd hc (by simp):Fc _ _ _ _ (lP λ_=>True))) Tryz.func218 B B B (λhc=>(aX ay B)) ?_;intro aUp w G Fa aPp;refine LM ?_;refine Df ?_;refine eW ?_;refine aN B B B a8 (λhc=>bO M6 B ay) ?_;refine Mc ?_;refine SE ?_;refine aN B B B aO (λhc=>bO Ui B ay) ?_;refine aG6 ?_;refine Cy G B B B aO (λhc=>(absurd hc (by simp):Fc _ _ _ _ (lP λ_=>True))) Tryz.func219 B B B (λhc=>(aX ay B)) ?_;intro cBs w G aQ4 aPq;refine LM ?_;refine yh ?_;refine jF ?_;refine yi ?_;refine Hd ?_;refine Ds ?_;refine l7 ?_;refine aN B B B aO (λhc=>bO Ib B ay) ?_;refine aG7 ?_;refine Cy G B B B aO (λhc=>aJ0 c _ I) Tryz.func92 B B B (λhc=>(aX ay B)) ?_;intro aUr w G WX Wf;obtain rfl:aUr=true:=(Wf (by first | rfl | decide | simp)).trans hv;refine LM ?_;refine Df ?_;refine jF ?_;refine yi ?_;refine S B B (bO Ib B B) ?_;refine aG8 ?_;refine wk ?_;refine l7 ?_;refine aN B B B a8 (λhc=>bO Ic B ay) ?_;refine aN B B B a8 (λhc=>br B ay fk B (G.cell 0 B B)) ?_;refine aN B B B a8 (λhc=>hJ B ay fk) ?_;refine Mh ?_;refine jF ?_;refine cn B (λnh=>?_) (λnh=>?_)
 ·simp only [hW,decide_eq_true_eq] at nh;exfalso;omega
 try simp only [dy] at nh
 refine iZ ?_;refine nF ?_;refine S B B (bO Ed B B) ?_;refine aG9 ?_;refine bG G (bC6 _) Tryz.func220 B B B B B B ?_;intro cS6 w G cQz bSq;subst bSq;refine yg ?_;refine l5 ?_;refine kR ?_;refine iZ ?_;refine nF ?_;refine S B B (bO Ie B B) ?_;refine S B B (br B B oB B (G.cell 0 B B)) ?_;refine S B B (hJ B B oB) ?_;refine Dz ?_;refine bu (λk f ah=>∃ b3,f 3=ao b3 0/\f 90=.int .i64 0/\f 91=.int .i64 0/\Cxr aA ah ((b3,.cells (leaf c).toArray 83)::(b,aa 3 [.int .i64 1])::L) []) (0) ?_ ?_
 ·exact ⟨_,B,B,B,G⟩
 intro cKr f w ai;obtain ⟨b3,aR,bT6,bT7,G⟩:=ai;refine dR ?_;refine S B B (gQ B bT7 bT6 B) ?_;refine p4 ?_;refine kR ?_;refine wp_exit ?_;refine nF ?_;refine S B B (bO Ed B aR) ?_;refine aG9 ?_;refine S B B (hJ B B qd) ?_;refine Dz ?_;refine bu (λk f ah=>∃ b3,f 3=ao b3 0/\f 106=.int .i64 0/\f 107=.int .i64 0/\Cxr aA ah ((b3,.cells (leaf c).toArray 83)::(b,aa 3 [.int .i64 1])::L) []) (0) ?_ ?_
 ·exact ⟨_,aR,B,B,G⟩
 intro cKu f w ai;obtain ⟨b3,aR,bT1,bT2,G⟩:=ai;refine dR ?_;refine S B B (gQ B bT2 bT1 B) ?_;refine p4 ?_;refine kR ?_;refine Aw ?_;refine qY ?_;refine be Tryz.results154 B ?_;exact ⟨B,G.drop 1⟩
theorem bGi (c:ByteArray)(w0:World)(hv:validD c.data.toList=true)(hc:c.size<=1024):Fc W 97 [.agg (leaf c).toArray] w0 (Ad λm=>m=0):=by
 refine aI Tryz.func97 B Tryz.ntmps97 B ?_;have G:=Ctx.start w0;refine ag ?_;refine bE ?_;intro b1 w G er fX;refine an ?_;refine kN G z3 B B B ?_;intro b3 w G eE gr;refine bR (v:=.int .i64 0) G 0 B B B B B B B B bN ?_;intro w G ko;refine an ?_;refine bW (bCc c _ _ _ _ G hv hc) Tryz.func154 B B B B B B ?_;rintro v5 w ⟨rfl,G⟩;refine ae ?_;refine be Tryz.results97 B ?_;exact ⟨G.ext,_,B,B⟩
theorem bD2 (c:ByteArray)(w0:World):Fc W 304 [.agg (leaf c).toArray,.int .i64 65536] w0 (λv _=>v=.agg (leaf c).toArray):=by
 refine aI Tryz.func304 B Tryz.ntmps304 B ?_;have G:=Ctx.start w0;refine dR ?_;refine bE ?_;intro b2 w G di e3;refine fD ?_;intro bp w G gW gN;refine uH ?_;refine S B B (bO Ic B B) ?_;refine S B B (br B B fk B (G.cell 1 B B)) ?_;refine bG G (bEw _) Tryz.func369 B B B B B B ?_;intro cBf w G qx EN;subst EN;refine S B B (bO Ic B B) ?_;refine bR (v:=al) G 1 B B B B B B B B FZ ?_;intro w G ko;refine Ay ?_;refine kR ?_;refine tb ?_;refine jF ?_;refine nF ?_;refine S B B (bO Ie B B) ?_;refine S B B (br B B oB B (G.cell 1 B B)) ?_;refine S B B (hJ B B oB) ?_;refine Dz ?_;refine bu (λk f ah=>∃ b2 bp:Nat,f 2=ao b2 0/\f 4=ao bp 0/\f 5=al/\f 22=.int .i64 0/\f 23=.int .i64 0/\Ctx w0 ah [(bp,aa 83 [.int .i64 0,.bool false,.bool false,.string ByteArray.empty,.int .i64 0,.int .i64 0,.int .i64 0,.int .i64 0,.int .i64 0,.string ByteArray.empty,al,al,al]),(b2,.cells (leaf c).toArray 83)]) (0) ?_ ?_
 ·exact ⟨_,_,B,B,B,B,B,G⟩
 intro qi f w ai;obtain ⟨b2,bp,aE,aM,bF,zf,Jp,G⟩:=ai;refine dR ?_;refine S B B (gQ B Jp zf B) ?_;refine p4 ?_;refine kR ?_;refine Aw ?_;refine jF ?_;refine nF ?_;refine S B B (bO Ed B aE) ?_;refine S B B (br B B qd B (G.cell 1 B B)) ?_;refine S B B (hJ B B qd) ?_;refine Dz ?_;refine bu (λk f ah=>∃ b2 bp:Nat,f 2=ao b2 0/\f 4=ao bp 0/\f 5=al/\f 8=al/\f 37=.int .i64 0/\f 38=.int .i64 0/\Ctx w0 ah [(bp,aa 83 [.int .i64 0,.bool false,.bool false,.string ByteArray.empty,.int .i64 0,.int .i64 0,.int .i64 0,.int .i64 0,.int .i64 0,.string ByteArray.empty,al,al,al]),(b2,.cells (leaf c).toArray 83)]) (0) ?_ ?_
 ·exact ⟨_,_,aE,aM,bF,B,B,B,G⟩
 intro cKq f w ai;obtain ⟨b2,bp,aE,aM,bF,bb,qv,WA,G⟩:=ai;refine dR ?_;refine S B B (gQ B WA qv B) ?_;refine p4 ?_;refine kR ?_;refine Aw ?_;refine C9 ?_;refine S B B (cU B bb) ?_;refine S B B (bO Ie B aE) ?_;refine bR (v:=al) G 1 B B B B B B B B zL ?_;intro w G B2;refine S B B (bO Ed B aE) ?_;refine bR (v:=al) G 1 B B B B B B B B CF ?_;intro w G B2;refine uH ?_;refine S B B (cG B aE fb B c6 (G.row 1 B) B) ?_;refine bn G 0 B B B aM B B c6 B B ?_;intro w G xp;refine yc ?_;refine j8 Tryz.results304 aM (G.at 0 B) fb B c6 ?_;exact gC
theorem bC9 (c:ByteArray)(w0:World):Fc W 227 [.agg (leaf c).toArray] w0 (λv _=>v=.agg (leaf c).toArray):=by
 refine aI Tryz.func227 B Tryz.ntmps227 B ?_;have G:=Ctx.start w0;refine ag ?_;refine bE ?_;intro b1 w G er fX;refine fD ?_;intro b2 w G di e3;refine an ?_;refine bG G (bD2 c _) Tryz.func304 B B B B B B ?_;intro qL w G gN Jf;subst Jf;refine lO ?_;intro w G ko;refine ag ?_;refine j8 Tryz.results227 B (G.at 0 B) fb B c6 ?_;exact gC
theorem bD1 (c:ByteArray)(w0:World):Fc W 303 [.agg (leaf c).toArray] w0 (λv _=>v=al):=by
 refine aI Tryz.func303 B Tryz.ntmps303 B ?_;have G:=Ctx.start w0;refine ag ?_;refine bE ?_;intro b1 w G er fX;refine az ?_;refine bG G (bEu _) Tryz.func365 B B B B B B ?_;intro PD w G hF ER;subst ER;refine aq ?_;refine bG G (bEv _) Tryz.func366 B B B B B B ?_;intro Yn w G jg BP;subst BP;refine aG ?_;refine be Tryz.results303 B ?_;exact gC
theorem bC8 (c:ByteArray)(w0:World):Fc W 226 [.agg (leaf c).toArray] w0 (λv _=>v=.agg (leaf c).toArray):=by
 refine aI Tryz.func226 B Tryz.ntmps226 B ?_;have G:=Ctx.start w0;refine ag ?_;refine bE ?_;intro b1 w G er fX;refine fD ?_;intro b2 w G di e3;refine cF ?_;refine bu (λk f ah=>∃ b1 b2:Nat,f 1=ao b1 0/\f 2=ao b2 0/\f 7=.int .i64 0/\f 8=.int .i64 0/\Ctx w0 ah [(b2,aa 83 [.int .i64 0,.bool false,.bool false,.string ByteArray.empty,.int .i64 0,.int .i64 0,.int .i64 0,.int .i64 0,.int .i64 0,.string ByteArray.empty,al,al,al]),(b1,.cells (leaf c).toArray 83)]) (0) ?_ ?_
 ·exact ⟨_,_,B,B,B,B,G⟩
 intro h8 f w ai;obtain ⟨b1,b2,aK,aE,aS,bb,G⟩:=ai;refine aq ?_;refine kR ?_;refine an ?_;refine bG G (bD1 c _) Tryz.func303 B B B B B B ?_;intro aUj w G zj Jc;subst Jc;refine ab ?_;refine bR (v:=al) G 1 B B B B B B B B CF ?_;intro w G jt;refine cF ?_;refine bu (λk f ah=>∃ b1 b2:Nat,f 1=ao b1 0/\f 2=ao b2 0/\f 27=.int .i64 0/\f 28=.int .i64 0/\Ctx w0 ah [(b2,aa 83 [.int .i64 0,.bool false,.bool false,.string ByteArray.empty,.int .i64 0,.int .i64 0,.int .i64 0,.int .i64 0,.int .i64 0,.string ByteArray.empty,al,al,al]),(b1,.cells (leaf c).toArray 83)]) (0) ?_ ?_
 ·exact ⟨_,_,aK,aE,B,B,G⟩
 intro Ni f w ai;obtain ⟨b1,b2,aK,aE,Jq,aP6,G⟩:=ai;refine aq ?_;refine kR ?_;refine an ?_;refine z8 ?_;intro w G n1;refine ag ?_;refine j8 Tryz.results226 aE (G.at 0 B) fb B c6 ?_;exact gC
theorem bCe (c:ByteArray)(w0:World):Fc W 156 [.agg (leaf c).toArray] w0 (λv _=>v=.agg (leaf c).toArray):=by
 refine aI Tryz.func156 B Tryz.ntmps156 B ?_;have G:=Ctx.start w0;refine ag ?_;refine bE ?_;intro b1 w G er fX;refine fD ?_;intro b2 w G di e3;refine an ?_;refine bG G (bC9 c _) Tryz.func227 B B B B B B ?_;intro qL w G gN Jf;subst Jf;refine bG G (bC8 c _) Tryz.func226 B B B B B B ?_;intro cBr w G fg Wa;subst Wa;refine lO ?_;intro w G ko;refine ag ?_;refine j8 Tryz.results156 B (G.at 0 B) fb B c6 ?_;exact gC
def zl:ByteArray:=⟨#[48,49,50,51,52,53,54,55,56,57,97,98,99,100,101,102]⟩
theorem bVv(ap:0<=m)(h1:m<256):0<=shr .u8 m (dw 4)/\shr .u8 m (dw 4)<(16:Int)/\bM (fu zl (shr .u8 m (dw 4))).toNat=mn (m.toNat / 16):=by
 obtain ⟨n,rfl⟩:=Int.eq_ofNat_of_zero_le ap;have:∀ b:Fin 256,0<=shr .u8 (b.val:Int) (dw 4)/\shr .u8 (b.val:Int) (dw 4)<(16:Int)/\bM (fu zl (shr .u8 (b.val:Int) (dw 4))).toNat=mn (b.val / 16):=by decide +kernel
 exact this ⟨n,I⟩
theorem bVw(ap:0<=m)(h1:m<256):0<=cQ .and .u8 m 15/\cQ .and .u8 m 15<(16:Int)/\bM (fu zl (cQ .and .u8 m 15)).toNat=mn (m.toNat%16):=by
 obtain ⟨n,rfl⟩:=Int.eq_ofNat_of_zero_le ap;have:∀ b:Fin 256,0<=cQ .and .u8 (b.val:Int) 15/\cQ .and .u8 (b.val:Int) 15<(16:Int)/\bM (fu zl (cQ .and .u8 (b.val:Int) 15)).toNat=mn (b.val%16):=by decide +kernel
 exact this ⟨n,I⟩
theorem bDz (m:Int)(w:World)(ap:0<=m)(h1:m<256):Fc W 302 [.int .u8 m] w λv _=>v=.int .u8 ((xK (bM m.toNat)).toNat:Int):=by
 obtain ⟨n,rfl⟩:=Int.eq_ofNat_of_zero_le ap;have e:(bM n).toNat=n:=by rw [UInt8.toNat_ofNat'];exact yo I
 have:=bD0 (bM n) w;rw [e] at this;exact this
theorem cD8 {c:UInt8}(h:¬ (c.toNat:Int)=0):c≠0:=λe=>h (by rw [e];rfl)
theorem cD7 {c:UInt8}(h:(c.toNat:Int)=0):c=0:=by
 have h1:c.toNat=0:=I;exact q5.1 (by rw [h1];rfl)
theorem cEt {aA w:World}{b:Nat}{L:List (Nat×Obj)}{R:List Row}{l:List UInt8}{a v:Value}(G:Cxr aA w ((b,aa 245 [a,v])::L) (⟨5,1,v,l.length,l.map bv⟩::R))(a6:a=.pointer none\/a=(ao b 0)):Ret W 157 [ao b 0] w (λu w'=>u=M l/\Below aA.heap.size aA w'):=by
 have cz:=G.rows _ (b9 ..);have NV:=G.off _ (b9 ..);simp only at cz NV;have oP:Lib.BuilderAtF 245 5 aA.heap.size b a (Lib.byteCells l) w:=by
  refine ⟨G.lo _ (b9 ..),v,G.at 0 B,?_,λe=>NV b e (by simp)⟩;have h1:=World.ownsRowF_of cz;have e:(Lib.byteCells l).length=l.length:=Lib.byteCells_length l;rw [e];exact h1
 have hb:Lib.IsBuilderF 245 5 aA.heap.size b (Lib.byteCells l) w:=by
  rcases a6 with rfl | rfl
  ·exact .inl oP
  ·exact .inr oP
 exact Calls.mono (Go.Proofs.Tryz.Builder_String_any_k aA.heap.size b l w hb G.ext.size) λe w' ⟨he,_,hb,_⟩=>⟨_,he,B,G.ext.trans hb⟩
theorem bC7 (aA w0:World)(b:Nat)(L:List (Nat×Obj))(R:List Row)(l:List UInt8)(s:ByteArray)(h:BCx 245 aA w0 b L R l)(hl:l.length<=1073741824)(hs:s.size<=3000000):Ret W 223 [ao b 0,.string s] w0 (λu w'=>u=.tuple #[]/\BCx 245 aA w' b L R (l++sf s)):=by
 refine aI Tryz.func223 B Tryz.ntmps223 B ?_;refine ae ?_;refine Rf ?_;rintro Yn w ⟨rfl,h⟩;refine aG ?_;refine bu (λk f ah=>∃ i:Nat,k+i=s.size/\f 0=ao b 0/\f 1=.string s/\f 4=.int .i64 i/\BCx 245 aA ah b L R (l++(34::xH (s.data.toList.take i)))) (s.size) ?_ ?_
 ·exact ⟨0,I,B,B,B,h.eq (by simp [xH])⟩
 intro h8 f w ai;obtain ⟨i,hk,aB,aK,aM,h⟩:=ai;have bQ9:=aUz (s.data.toList.take i);have b8:=List.length_take_le i s.data.toList;have bRa:s.data.toList.length=s.size:=by simp
 have tM:=bVv (wG s i) (wF s i);have VD:=bVw (wG s i) (wF s i);refine aq ?_;refine wk ?_;refine ag ?_;refine Z (λco=>?_) (λco=>?_)
 ·refine aG ?_;refine Ah ?_;refine aq ?_;refine bW (bDz _ _ (wG _ _) (wF _ _)) Tryz.func302 B B B B B B ?_;rintro cBi w ⟨Np,rfl⟩;replace h:=h.call Np;refine cK ?_;refine Z (λjK=>?_) (λjK=>?_)
  ·have bt:=cD8 jK;refine ae ?_;refine Rf ?_;rintro Yk w ⟨rfl,h⟩;refine an ?_;refine bW (Th aA _ b L R _ _ h I (by have:=(xK (bM (fu s (i:Int)).toNat)).toNat_lt;omega) mB) Tryz.func225 B B B B B B ?_;rintro aUl w ⟨rfl,h⟩;refine az ?_;have aw:=Yq s i I;have hb:s.data.toList.getD i 0=bM (fu s i).toNat:=by unfold fu;rw [gD,gD];exact wz.symm
   refine SB ?_;rw [aw,hb];unfold Cz;rw [U bt];simp only [gD,wz,eB,gT,gG]
   rfl
  have iU:=cD7 jK;refine az ?_;refine Z (λfJ=>?_) (λfJ=>?_)
  ·refine ae ?_;refine bW (bCq aA _ b L R _ [92,117,48,48] h mB) Tryz.func197 B B B B B B ?_;rintro cBn w ⟨⟨cR5,rfl⟩,h⟩;refine aq ?_;refine x1 ?_;refine S B B (zT (s:=zl) B B B aF tM.1 tM.2.1) ?_;refine Rg ?_;rintro cBp w ⟨rfl,h⟩;refine an ?_;refine p0 ?_;refine S B B (zT (s:=zl) B B B aF VD.1 VD.2.1) ?_;refine Rg ?_;rintro aUo w ⟨rfl,h⟩;refine az ?_;have aw:=Yq s i I;have hb:s.data.toList.getD i 0=bM (fu s i).toNat:=by unfold fu;rw [gD,gD];exact wz.symm
   refine SB ?_;have j3:=wG s i;have bP8:=wF s i;have Uy:bM (fu s i).toNat<32:=by
    rw [UInt8.lt_iff_toNat_lt,sW I];show (fu s i).toNat<32;omega
   rw [aw,hb];unfold Cz;rw [O (by rw [iU];simp),U Uy,sW I,tM.2.2,VD.2.2];exact QP
  refine ae ?_;refine Rg ?_;rintro Yj w ⟨rfl,h⟩;refine az ?_;have aw:=Yq s i I;have hb:s.data.toList.getD i 0=bM (fu s i).toNat:=by unfold fu;rw [gD,gD];exact wz.symm
  refine SB ?_;have j3:=wG s i;have bP8:=wF s i;have Uy:¬ bM (fu s i).toNat<32:=by
   rw [UInt8.lt_iff_toNat_lt,sW I];show ¬ (fu s i).toNat<32;omega
  rw [aw,hb];unfold Cz;rw [O (by rw [iU];simp),O Uy];exact QP
 refine ae ?_;refine Rf ?_;rintro aUp w ⟨rfl,h⟩;refine ab ?_;refine mH (.inr B) Tryz.results223 ?_;have hi:i=s.size:=I;subst hi;rw [show s.data.toList.take s.size=s.data.toList from lQ (by simp)] at h;refine ⟨B,h.eq ?_⟩;unfold sf;simp
theorem bCd (aA w0:World)(b:Nat)(L:List (Nat×Obj))(R:List Row)(l:List UInt8)(c:ByteArray)(h:BCx 245 aA w0 b L R l)(hl:l.length<=1073741824)(hc:c.size<=1024):Ret W 155 [ao b 0,.agg (leaf c).toArray] w0 (λu w'=>u=.tuple #[]/\BCx 245 aA w' b L R (l++sf c)):=by
 refine aI Tryz.func155 B Tryz.ntmps155 B ?_;obtain ⟨a,v,G,a6⟩:=id h;refine dR ?_;refine bE ?_;intro b3 w G eE gr;replace h:=h.call gr;refine uH ?_;refine Hd ?_;refine Ds ?_;refine eA ?_;refine ox ?_;refine dR ?_;refine pf ?_;refine yi ?_;refine pf ?_;refine yi ?_;refine pf ?_;refine yi ?_;refine pf ?_;refine yi ?_;refine pf ?_;refine Mb ?_;refine nE ?_;refine eW ?_;refine S B B (bO Ib B B) ?_;refine aG8 ?_;refine bW (bC7 aA _ b L R l c h hl I) Tryz.func223 B B B B B B ?_;rintro cSr w ⟨rfl,h⟩;refine eA ?_;refine mH (.inr B) Tryz.results155 ?_;exact ⟨B,h⟩
theorem bGj (c:ByteArray)(w0:World)(hc:c.size<=1024):Fc W 98 [.agg (leaf c).toArray] w0 (λv _=>v=(M (sf c))):=by
 refine aI Tryz.func98 B Tryz.ntmps98 B ?_;have G:=Ctx.start w0;refine ag ?_;refine bE ?_;intro b1 w G er fX;refine an ?_;refine kN G cIa B B B ?_;intro b3 w G eE gr;refine an ?_;refine bG G (bCe c _) Tryz.func156 B B B B B B ?_;intro cBr w G fg Wa;subst Wa;refine bW (bCd w0 _ b3 _ [] [] c ⟨_,_,G.nilRow 5 1,.inl B⟩ (by simp) hc) Tryz.func155 B B B B B B ?_;rintro PD w ⟨rfl,bM3⟩;obtain ⟨cIn,ny,G,bNk⟩:=bM3;refine ae ?_;refine bW (cEt G bNk) Tryz.func157 B B B B B B ?_;rintro Kk w ⟨rfl,wS⟩;refine ae ?_;refine be Tryz.results98 B ?_;exact ⟨wS,B⟩
theorem bFk (c:ByteArray)(w0:World)(hv:validD c.data.toList=true)(hc:c.size<=1024):Fc W 48 [.agg (leaf c).toArray] w0 (λv _=>v=.tuple #[M (sf c),.int .i64 0]):=by
 refine aI Tryz.func48 B Tryz.ntmps48 B ?_;have G:=Ctx.start w0;refine ag ?_;refine bE ?_;intro b1 w G er fX;refine aG ?_;refine PR G (bGi c _ hv hc) Tryz.func97 B B B B B B ?_;intro PD w G hF ER;subst ER;refine aG ?_;refine kR ?_;refine an ?_;refine bG G (bGj c _ hc) Tryz.func98 B B B B B B ?_;intro aUg w G pN y9;subst y9;refine an ?_;refine dY Tryz.results48 B B ?_;exact gC
theorem bCz (r:List Value)(x:Idx)(w0:World)(hx:IdxV w0 x r)(ht:Tabs w0)(hs:Szd x):Fc W 21 [.agg r.toArray] w0 (λv _=>v=.tuple #[M (CH x),.int .i64 (h5 x)]):=by
 have rn:=hx;obtain ⟨gR,jB,rfl,cc,yL⟩:=hx;obtain ⟨a,c,b,o,rfl,a6,hr⟩:=cc.form;obtain ⟨a2,a7,b2,ik,rfl,UH,nl⟩:=yL.form;have tL:=hs.el;have j1:=hs.cl;refine aI Tryz.func21 B Tryz.ntmps21 B ?_;have G:=Ctx.start w0;refine ag ?_;refine bE ?_;intro b1 w G er fX;refine aG ?_;refine PR G (bBq _ x _ (rn.up G.ext) (ht.up G.ext) hs) Tryz.func13 B B B B B B ?_;intro aUh w G oX Ja;subst Ja;refine aG ?_;refine Z (λc8=>?_) (λc8=>?_)
 ·refine aG ?_;refine dY Tryz.results21 B B ?_;refine ⟨G.ext,aD (λl=>Value.tuple #[M l,Value.int .i64 (h5 x)]) ?_⟩;exact (cFz c8).symm
 have w2:=c8;obtain ⟨ry,bUc,bUd,cMi,cMj⟩:=Tz w2;have cN7:=xv bUc bUd;have cN8:=xv (n:=x.depth) I I;have lG:(o3 x.fmt).length<=5:=by unfold o3;split <;> simp
 have cN5:=aNz w2;refine aq ?_;refine cw (λf ah=>∃ b1:Nat,f 1=ao b1 0/\f 5=M (o3 x.fmt)/\Ctx w0 ah [(b1,aa 35 [.int .i64 x.fmt,.int .i64 x.size,.int .i64 x.depth,.slice a x.ents.length c,.slice a2 x.cols.length a7])]) ?_ ?_
 ·refine az ?_;refine Z (λct=>?_) (λct=>?_)
  ·refine ae ?_;exact aAn
  refine ab ?_;exact aAn
 intro f w ai;obtain ⟨b1,aK,bF,G⟩:=ai;refine cw (λf ah=>∃ (b1 g cap n:Nat) (cg:Array Value) (c7:Nat×Nat),f 1=ao b1 0/\f 6=.slice (some ⟨g,0,none⟩) n cap/\Ctx w0 ah [(g,.cells cg 5 c7),(b1,aa 35 [.int .i64 x.fmt,.int .i64 x.size,.int .i64 x.depth,.slice a x.ents.length c,.slice a2 x.cols.length a7])]/\Outs cg c7 n cap (yV x++[10])) ?_ ?_
 ·refine ei G (G.pick1 0 B) mixed [(0,21),(1,22),(2,23),(3,24),(4,25),(8,29),(9,30)] #[true,true,true,true,true,false,false,false,true,true,false,false,false,false,false] ac ac ac ac ?_;refine eY ?_;refine bw B (bx B) (λw G=>iJ (a:=[105,110,100,101,120,32]) (b:=o3 x.fmt) B B B mB) ?_;refine bw B (bx B) (λw G=>iJ (a:=([105,110,100,101,120,32]++o3 x.fmt)) (b:=[32]) B B B mB) ?_;refine i1 ?_;refine cW ?_;intro w G JC;refine kb ?_;refine xX ?_;intro cBk w G E8 V3;subst V3;refine gS ?_;refine fR (i:=6) (j:=10) ac B B ?_ ?_
  ·refine aHa ?_;refine gS ?_;refine fR (i:=7) (j:=10) ac B B ?_ ?_
   ·refine aDr ?_;refine gS ?_;refine kQ ?_;refine xX ?_;intro aUm w G aQy Je;subst Je;exact aBh
   refine xX ?_;intro aUm w G aQy Je;subst Je;exact ZE
  refine xX ?_;intro aUm w G aQy Je;subst Je;refine gS ?_;refine li ?_;refine aHa ?_;exact ZE
 intro f w ai;obtain ⟨b1,g,cap,n,cg,c7,aK,aL,G,nN⟩:=ai;refine cK ?_;refine bu (λk f ah=>∃ (i b1 g cap n:Nat) (cg:Array Value) (c7:Nat×Nat),k+i=x.cols.length/\f 1=ao b1 0/\f 6=.slice (some ⟨g,0,none⟩) n cap/\f 36=.slice a2 x.cols.length a7/\f 37=.int .i64 x.cols.length/\f 38=.int .i64 i/\Ctx w0 ah [(g,.cells cg 5 c7),(b1,aa 35 [.int .i64 x.fmt,.int .i64 x.size,.int .i64 x.depth,.slice a x.ents.length c,.slice a2 x.cols.length a7])]/\Outs cg c7 n cap (rR x i)) (x.cols.length) ?_ ?_
 ·exact ⟨0,b1,g,cap,n,cg,c7,I,aK,aL,B,B,B,G,by rw [cFe];exact nN⟩
 intro so f w ai;obtain ⟨i,b1,g,cap,n,cg,c7,hk,aK,aL,rI,qv,WA,G,nN⟩:=ai;have bNe:=nN.2.1;refine aq ?_;refine Z (λpG=>?_) (λpG=>?_)
 ·obtain ⟨y,hy⟩:∃ y,x.cols[i]?=some y:=⟨x.cols[i]'(I),bS _⟩;have lZ:=nl i y hy;obtain rfl:=UH I;obtain ⟨bV7,aRo⟩:=aKa w2 y (cb hy);have B9:=aKj aRo;have vt:=aWp w2 i I;refine aq ?_;refine S B B (cT mc gA B rI WA I I) ?_;refine Sy ?_;refine aq ?_;refine S B B (cd (qs:=[(0,.int .i64 4),(4,.string y)]) (bAu y) B B) ?_;refine bG G (bFk y _ bV7 aRo) Tryz.func48 B B B B B B ?_;intro aUo w G OA V9;subst V9;refine cK ?_;refine S B B (iJ (a:=[99,111,108,117,109,110,32]) (b:=sf y) B B B mB) ?_;refine S B B (iJ (a:=([99,111,108,117,109,110,32]++sf y)) (b:=[10]) B B B mB) ?_;refine aCi ?_;intro cKm cJ2 cKk cJ0 w G nN;refine az ?_;exact ⟨so-1,_,I,B,i+1,b1,_,_,_,_,_,I,aK,B,rI,qv,B,G,by rw [cFd hy];exact nN⟩
 refine cF ?_;refine bu (λk f ah=>∃ (i b1 g cap n:Nat) (cg:Array Value) (c7:Nat×Nat),k+i=x.ents.length/\f 1=ao b1 0/\f 6=.slice (some ⟨g,0,none⟩) n cap/\f 55=.slice a x.ents.length c/\f 56=.int .i64 x.ents.length/\f 57=.int .i64 i/\Ctx w0 ah [(g,.cells cg 5 c7),(b1,aa 35 [.int .i64 x.fmt,.int .i64 x.size,.int .i64 x.depth,.slice a x.ents.length c,.slice a2 x.cols.length a7])]/\Outs cg c7 n cap (rS x i)) (x.ents.length) ?_ ?_
 ·have oV:i=x.cols.length:=I;subst oV;exact ⟨0,b1,g,cap,n,cg,c7,I,aK,aL,B,B,B,G,by rw [cFi];exact nN⟩
 intro Uu f w ai;obtain ⟨i,b1,g,cap,n,cg,c7,hk,aK,aL,Oh,EZ,E0,G,nN⟩:=ai;have bNe:=nN.2.1;refine aq ?_;refine Z (λjq=>?_) (λjq=>?_)
 ·obtain ⟨e,he⟩:∃ e,x.ents[i]?=some e:=⟨x.ents[i]'(I),bS _⟩;obtain ⟨p,lZ,hp⟩:=hr i e he;obtain ⟨fP,eV,rfl,Wk⟩:=hp.sl;obtain rfl:=a6 I;have nT:=cb he;obtain ⟨Bz,aOg⟩:=aKb w2 e nT;obtain ⟨Wv,Oc,aP2⟩:=aKd w2 e nT;have rz:=xv (n:=e.fr) Wv I;have mq:=xv (n:=e.tu) I I;have fp:=aT5 Bz;have vt:=cFf w2 i I;refine ab ?_;refine cw (λf ah=>∃ (b1 g cap n:Nat) (cg:Array Value) (c7:Nat×Nat),f 1=ao b1 0/\f 6=.slice (some ⟨g,0,none⟩) n cap/\f 55=.slice (some ⟨b,o,none⟩) x.ents.length c/\f 56=.int .i64 x.ents.length/\f 57=.int .i64 i/\Ctx w0 ah [(g,.cells cg 5 c7),(b1,aa 35 [.int .i64 x.fmt,.int .i64 x.size,.int .i64 x.depth,.slice (some ⟨b,o,none⟩) x.ents.length c,.slice a2 x.cols.length a7])]/\Outs cg c7 n cap (rS x (i+1))) ?_ ?_
  ·refine ae ?_;refine S B B (cT oA qO B Oh E0 I I) ?_;refine aGx ?_;refine Gq ?_;intro eD w G lA mx;refine bn G 0 B B B B B B qO B B ?_;intro w G xo;refine ab ?_;refine ei G (G.pick1 0 B) mixed [(0,61),(1,62),(2,63),(3,64),(6,67),(7,68),(8,69),(12,73),(13,74)] #[true,true,true,true,false,false,true,true,true,false,false,false,true,true,false,false,false,false,false] ac ac ac ac ?_;refine yf ?_;refine eY ?_;refine cW ?_;intro w G bVi;refine qU ?_;refine xX ?_;intro cS0 w G bU6 bSk;subst bSk;refine gS ?_;refine fR (i:=5) (j:=9) ac B B ?_ ?_
   ·refine SC ?_;refine gS ?_;refine qV ?_;refine xX ?_;intro aUs w G WY ES;subst ES;exact Zw
   refine xX ?_;intro aUs w G WY ES;subst ES;refine gS ?_;refine fR (i:=5) (j:=14) ac B B ?_ ?_
   ·refine SC ?_;exact Zw
   refine Gr ?_;intro Ym w G OC BO;subst BO;refine gS ?_;refine kb ?_;refine SC ?_;exact ZZ
  intro f w ai;obtain ⟨b1,g,cap,n,cg,c7,aK,aL,Oh,EZ,E0,G,nN⟩:=ai;refine an ?_;exact ⟨Uu-1,_,I,B,i+1,b1,_,_,_,_,_,I,aK,aL,Oh,EZ,B,G,nN⟩
 refine an ?_;have hi:i=x.ents.length:=I;subst hi;refine S B B (sY B fk en aF (ns:=(CG x).map λx:UInt8=>(x.toNat:Int)) (by rw [List.map_map];exact Outs.row G nN) (by rw [fT];exact nN.2.1.symm) B) ?_;refine an ?_;refine dY Tryz.results21 B B ?_;refine x0 ?_;rw [aWw w2,w2];exact aD (λs=>Value.tuple #[Value.string s,Value.int .i64 0]) (CD (CG x))
theorem bAe (w:World):(Instr.build 25 ([(0,.int .u8 44),(1,.int .u8 34),(2,.bool true),(3,.bool true)]:List (Nat×Value)).toArray).run W w=.ok (.agg #[.int .u8 44,.int .u8 34,.bool (true),.bool (true)]) w:=by
 go_simp
 try rfl
theorem bAf (w:World):(Instr.build 27 ([(0,.agg #[.int .i64 (48),.int .i64 (65536),.int .i64 (1048576),.int .i64 (1024),.int .i64 (65536)]),(1,.agg #[.int .u8 44,.int .u8 34,.bool (true),.bool (true)])]:List (Nat×Value)).toArray).run W w=.ok (.agg #[.int .i64 (48),.int .i64 (65536),.int .i64 (1048576),.int .i64 (1024),.int .i64 (65536),.int .u8 44,.int .u8 34,.bool (true),.bool (true)]) w:=by
 go_simp
 try rfl
theorem bJ5:Szd py:=⟨by show 2<=1048576;decide,bU _,(λc h=>by cases h),λe he=>by
 have h2:e∈M2:=he;rcases eX.1 h2 with rfl | h2
 ·show 1<=1048576;decide
 ·rw [hL.1 h2];show 1<=1048576;decide⟩
theorem bFm (w0:World):Fc W 61 [] w0 (λv _=>v=.agg #[.int .u8 44,.int .u8 34,.bool (true),.bool (true)]):=by
 refine aI Tryz.func61 B Tryz.ntmps61 B ?_;have G:=Ctx.start w0;refine ag ?_;refine kN G z25 B B B ?_;intro b0 w G u4 vv;refine ae ?_;refine S B B (cd (qs:=[(0,.int .u8 44),(1,.int .u8 34),(2,.bool true),(3,.bool true)]) bAe B B) ?_;refine bn G 0 B B B B B B pW B B ?_;intro w G ko;refine ag ?_;refine j8 Tryz.results61 B (G.at 0 B) q3 B pW ?_;exact gC
theorem bDb (w0:World):Fc W 25 [] w0 (λv _=>v=.agg #[.int .i64 (48),.int .i64 (65536),.int .i64 (1048576),.int .i64 (1024),.int .i64 (65536),.int .u8 44,.int .u8 34,.bool (true),.bool (true)]):=by
 refine aI Tryz.func25 B Tryz.ntmps25 B ?_;have G:=Ctx.start w0;refine ag ?_;refine kN G z27 B B B ?_;intro b0 w G u4 vv;refine ae ?_;refine La ?_;intro w G fX;refine bo G (bFm _) Tryz.func61 B B B B B B ?_;intro w G e3;refine S B B (cd (qs:=[(0,.agg #[.int .i64 (48),.int .i64 (65536),.int .i64 (1048576),.int .i64 (1024),.int .i64 (65536)]),(1,.agg #[.int .u8 44,.int .u8 34,.bool (true),.bool (true)])]) bAf B B) ?_;refine bn G 0 B B B B B B zJ B B ?_;intro w G ko;refine ag ?_;refine j8 Tryz.results25 B (G.at 0 B) Hq B zJ ?_;exact gC
theorem Tv (w0:World)(ht:Tabs w0)(jr:Cnt w0):Fc W 8 [] w0 (λv _=>v=.bool true):=by
 refine aI Tryz.func8 B Tryz.ntmps8 B ?_;have G:=Ctx.start w0;refine az ?_;refine bo G (bDb _) Tryz.func25 B B B B B B ?_;intro w G iW;refine bW (D0 fH 1 1 ⟨44,34,true,true⟩ 48 65536 1048576 1024 65536 _ (by decide) (ht.up G.ext) (jr.up G.ext)) Tryz.func9 B B B B B B ?_;rintro vX w ⟨x,o,e,r,rfl,rn,Nk,hb⟩;obtain ⟨rfl,rfl,rfl⟩:=bJ3 Nk;obtain ⟨gR,jB,rfl,cc,yL⟩:=id rn;obtain ⟨cU0,cU3,_,_,rfl,_,_⟩:=cc.form;obtain ⟨cU6,cVa,_,_,rfl,_,_⟩:=yL.form;replace G:=G.call hb;have El:=G.ext;replace G:=Ctx.start w;have ht2:=ht.up El;refine an ?_;refine Aa ?_;intro b1 w G er fX;refine Ab ?_;intro w G ko;refine mQ ?_;refine mQ ?_;refine an ?_;refine bo G (bCz _ py _ (rn.up G.ext) (ht2.up G.ext) bJ5) Tryz.func21 B B B B B B ?_;intro w G oX;refine ae ?_;refine S B B (av (v:=(M (CH py))) B B) ?_;refine S B B (av (v:=.int .i64 (h5 py)) B B) ?_;refine gp ?_;refine aN B B B aO (λhc=>ga (s:=CH py) (u:=[105,110,100,101,120,32,98,114,97,99,101,32,49,55,32,49,10,52,32,49,48,32,46,97,10,49,53,32,49,54,32,46,98,10]) B ay B) ?_;refine an ?_;refine be Tryz.results8 B ?_;refine ⟨El.trans (G.ext.mono El.size),?_⟩;rw [aWw aLy,bJ6,aLy]
 rfl
theorem aWj:(W.info? 30).map (·.size)=some 13:=by kernel_rfl
theorem bK7:bY W 30 0 0:=b5 (tt:=3) Tryz.underlying30 rfl bN rfl
theorem bK8:bY W 30 1 1:=b5 (tt:=9) Tryz.underlying30 rfl gA rfl
theorem bK9:bY W 30 2 2:=b5 (tt:=3) Tryz.underlying30 rfl bN rfl
theorem bLa:bY W 30 3 3:=b5 (tt:=27) Tryz.underlying30 rfl zJ rfl
theorem bLb:bY W 30 4 12:=b5 (tt:=28) Tryz.underlying30 rfl zK rfl
theorem Bx.szd {s:List UInt8}{fmt dp:Int}{dl:Dl}{d n b a e:Int}{x:Idx}{o k:Int}(hs:s.length<=400)(h:Bx cx s fmt dp dl d n b a e x o k):Szd x:=by
 have z:Szd ⟨0,0,0,[],[]⟩:=⟨by decide,by decide,(λc h=>by cases h),λc h=>by cases h⟩
 cases h with
 | arg h=>exact z
 | berr _ _ _ _=>exact z
 | derr _ _ _ _=>exact z
 | @bok hf h1 h2 t tl v hp mv =>
  obtain ⟨_,_,Y,_⟩:=Pd.more hp I;rw [dT,jH,kE] at Y;have ar:=Kg dp.toNat t v 0 [];refine ⟨by show (pT dp.toNat t v 0 []).length<=_;omega,bU _,(λc h=>by cases h),λy hy=>?_⟩;have ju:y∈pT dp.toNat t v 0 []:=hy;rw [Yb dp.toNat 100 I] at ju;have:=(List.mem_filter.1 ju).2;simp at this;omega
 | @dok hf h1 h2 l hp =>
  have hf:=hp.fact;have Y:=hf.cnt;have ar:=PH (nmD dl l) dl.hdr dp.toNat l 0 0;have bd:=jv l;refine ⟨by show (rEs (nmD dl l) dl.hdr dp.toNat 0 l 0).length<=_;omega,?_,?_,λy hy=>?_⟩
  . show ((nmD dl l).map bs).length<=_
    rw [fT]
    cases a1:dl.hdr with
    | false=>rw [FA l a1];exact bU _
    | true =>
     cases l with
     | nil=>unfold nmD;rw [U a1];exact bU _
     | cons r fh =>
      have h6:=hf.nml a1 r (b9 ..);have h7:=jv r.kids;have hq:r.count=1+counts r.kids:=by cases r;exact dT ..
      rw [jH] at Y;omega
  . intro c hc
    obtain ⟨u,aP,rfl⟩:=lm.1 (show c∈(nmD dl l).map bs from hc);rw [gI]
    cases a1:dl.hdr with
    | false=>rw [FA l a1] at aP;cases aP
    | true =>
     cases l with
     | nil=>unfold nmD at aP;rw [U a1] at aP;cases aP
     | cons r fh =>
      rw [FB _ _ a1] at aP;have:=(hf.hd a1 r B).2 u aP;omega
  . have ju:y∈rEs (nmD dl l) dl.hdr dp.toNat 0 l 0:=hy
    rw [Ys (nmD dl l) dl.hdr I l 0 0] at ju;have:=(Yt (List.mem_filter.1 ju).1).2;omega
theorem bBm (r1 mE:List Value)(x:Idx)(w0:World)(h1:IdxV w0 x r1)(h2:IdxV w0 x mE)(hs:Szd x):Fc W 11 [.agg r1.toArray,.agg mE.toArray] w0 (λv _=>v=.bool true):=(HB r1 mE x w0 h1 h2 hs).mono λv w' _ ⟨b,h1,h2⟩=>by rw [h1,h2]
theorem nK (s:List UInt8)(fmt dp:Int)(d:Dl)(bD bK af aj ak:Int)(fP:Option Addr)(dE eV:Nat)(w0:World):Fc W 7 [.agg #[.int .i64 (fmt),M s,.int .i64 (dp),.int .i64 (bD),.int .i64 (bK),.int .i64 (af),.int .i64 (aj),.int .i64 (ak),.int .u8 ((d.sep.toNat:Nat):Int),.int .u8 ((d.quo.toNat:Nat):Int),.bool (d.hdr),.bool (d.typ),.slice fP dE eV]] w0 (λv _=>v=.bool (decide ((s.length:Int)<=400)&&decide ((dE:Int)<=60))):=by
 refine aI Tryz.func7 B Tryz.ntmps7 B ?_;have G:=Ctx.start w0;refine ag ?_;refine bE ?_;intro b1 w G er fX;refine Mm ?_;refine be Tryz.results7 B ?_;exact gC
theorem bW2 (s:List UInt8)(fmt dp:Int)(d:Dl)(bD bK af aj ak:Int)(fP:Option Addr)(dE eV:Nat)(w0:World)(ht:Tabs w0)(jr:Cnt w0):Fc W 3 [.agg #[.int .i64 (fmt),M s,.int .i64 (dp),.int .i64 (bD),.int .i64 (bK),.int .i64 (af),.int .i64 (aj),.int .i64 (ak),.int .u8 ((d.sep.toNat:Nat):Int),.int .u8 ((d.quo.toNat:Nat):Int),.bool (d.hdr),.bool (d.typ),.slice fP dE eV]] w0 (lP λb=>b=true):=by
 refine aI Tryz.func3 B Tryz.ntmps3 B ?_;have G:=Ctx.start w0;refine ag ?_;refine bE ?_;intro b1 w G er fX;refine az ?_;refine bo G (nK s fmt dp d bD bK af aj ak fP dE eV _) Tryz.func7 B B B B B B ?_;intro w G xn;refine ag ?_;refine Z (λfW=>?_) (λfW=>?_)
 ·refine ag ?_;refine bo G (Tv _ (ht.up G.ext) (jr.up G.ext)) Tryz.func8 B B B B B B ?_;intro w G mx;refine ae ?_;refine be Tryz.results3 B ?_;exact ⟨G.ext,true,B,B⟩
 have aM:s.length<=400:=I;refine cF ?_;refine S B B (cG (l:=[.int .i64 (bD),.int .i64 (bK),.int .i64 (af),.int .i64 (aj),.int .i64 (ak),.int .u8 ((d.sep.toNat:Nat):Int),.int .u8 ((d.quo.toNat:Nat):Int),.bool (d.hdr),.bool (d.typ)]) B B Hq B zJ ((G.row 0 B).sub 3 B) B) ?_;refine bW (D0 s fmt dp d bD bK af aj ak _ I (ht.up G.ext) (jr.up G.ext)) Tryz.func9 B B B B B B ?_;rintro v22 w ⟨x,o,e,r,rfl,rn,Nk,hb⟩;obtain ⟨jC,cUu,rfl,bM7,bM6⟩:=id rn;obtain ⟨cU1,cU4,_,_,rfl,_,_⟩:=bM7.form;obtain ⟨cU7,cVb,_,_,rfl,_,_⟩:=bM6.form;have ec:=Bx.szd I Nk;replace G:=G.call hb;have Od:=G.row 0 B;have El:=G.ext;replace G:=Ctx.start w;refine an ?_;refine Aa ?_;intro b3 w G eE gr;refine Ab ?_;intro w G ig;refine aHc ?_;refine an ?_;refine S B B (br B B dq B ((Od.up G.ext).cell 0 B)) ?_;refine ab ?_;refine S B B (br B B aF B ((Od.up G.ext).cell 1 B)) ?_;refine ab ?_;refine S B B (br B B dq B ((Od.up G.ext).cell 2 B)) ?_;refine ab ?_;refine S B B (cG (l:=[.int .i64 (bD),.int .i64 (bK),.int .i64 (af),.int .i64 (aj),.int .i64 (ak),.int .u8 ((d.sep.toNat:Nat):Int),.int .u8 ((d.quo.toNat:Nat):Int),.bool (d.hdr),.bool (d.typ)]) B B Hq B zJ (RowAt.sub 3 (Od.up G.ext) B) B) ?_;refine bW (AR s fmt dp d bD bK af aj ak _ I) Tryz.func10 B B B B B B ?_;rintro cUa w ⟨bg,ik,aZ,mE,rfl,aM8,bM5,di⟩;obtain ⟨rfl,rfl,rfl⟩:=Nk.det bM5;obtain ⟨zW,cUv,rfl,UC,UB⟩:=id aM8;obtain ⟨cU2,cU5,_,_,rfl,_,_⟩:=UC.form;obtain ⟨cU8,cVc,_,_,rfl,_,_⟩:=UB.form;replace G:=G.call di;have bTr:=G.row 0 B;have aMy:=El.trans (G.ext.mono El.size);replace rn:=rn.up G.ext;replace G:=Ctx.start w;refine an ?_;refine Aa ?_;intro bq w G gX hF;refine Ab ?_;intro w G hG;refine aHc ?_;refine ae ?_;refine S B B (cG B B q4 B oi (bTr.up G.ext) B) ?_;refine ab ?_;refine bo G (bBm _ _ x _ (rn.up G.ext) (aM8.up G.ext) ec) Tryz.func11 B B B B B B ?_;intro w G Jx;refine gp ?_;refine hg G B B B aO (λhc=>Tv _ ((ht.up aMy).up G.ext) ((jr.up aMy).up G.ext)) Tryz.func8 B B B (λhc=>rfl) ?_;intro w G WT;refine an ?_;refine be Tryz.results3 B ?_;exact ⟨aMy.trans (G.ext.mono aMy.size),_,B,by simp⟩
end Go.Proofs.YthiafbkolhnadaaGreatDoor
end
section
namespace Go.Proofs.YthiafbkolhnadaaGreatDoor
open Go Go.Dk Go.RowKit
section
variable {H:Type} {enc:TypeId×Value->H} {w:World} {lu:Nat} {vM:Nat->Bool} {vf:Bool}
theorem lR {t k:Nat}(h:(W.info? t).map (·.size)=some k):W.cellsOf t=k:=by unfold Program.cellsOf;rw [h];rfl
theorem PL {t k n:Nat}{fs:Array Field}{cs:List Value}{x:DataW H×List MemPlace}(ht:W.underlying t=some (.struct fs))(hk:W.cellsOf t=k)(h:DataW.trod enc W w lu vM vf n t cs=some x) :
  cs.length=k/\∀ (i ty off m:Nat),(fs[i]?.map λf=>(f.type,f.offset))=some (ty,off)->W.cellsOf ty=m->∃ (n':Nat) (y:DataW H×List MemPlace),DataW.trod enc W w lu vM vf n' ty ((cs.drop off).take m)=some y:=by
 cases n with
 | zero=>simp [DataW.trod] at h
 | succ n =>
 obtain ⟨xs,n',hn,rfl,hl,kY,hf⟩:=DataW.trod_struct ht h;refine ⟨hl.trans hk,λi ty off m ss hm=>?_⟩
 cases NG:fs[i]? with
 | none=>rw [NG] at ss;cases ss
 | some f =>
 rw [NG] at ss;simp only [ti,kS,Prod.mk.injEq] at ss;obtain ⟨rfl,rfl⟩:=ss;subst hm;have hi:i<xs.length:=by rw [kY];exact (Array.getElem?_eq_some_iff.1 NG).1
 have h1:=hf i f NG;rw [bS hi] at h1;exact ⟨n',xs[i],h1⟩
theorem Cu {t n:Nat}{k:IntKind}{cs:List Value}{x:DataW H×List MemPlace}(ht:W.underlying t=some (.int k))(h:DataW.trod enc W w lu vM vf n t cs=some x):∃ m,cs=[.int k m]:=by
 obtain ⟨m,h1,_⟩:=DataW.trod_int ht h;exact ⟨m,h1⟩
theorem aVf {t n:Nat}{cs:List Value}{x:DataW H×List MemPlace}(ht:W.underlying t=some (.int .u8))(h:DataW.trod enc W w lu vM vf n t cs=some x):∃ c:UInt8,cs=[.int .u8 ((c.toNat:Nat):Int)]:=by
 obtain ⟨m,h1,_,Y⟩:=DataW.trod_int ht h;have ar:=Bool.and_eq_true_iff.1 Y;have bd:(0:Int)<=m:=of_decide_eq_true ar.1;have h6:m<=255:=of_decide_eq_true ar.2;obtain ⟨k,rfl⟩:∃ k:Nat,m=k:=⟨m.toNat,I⟩;have hk:k<256:=I;have e:(bM k).toNat=k:=by
  rw [UInt8.toNat_ofNat'];exact yo hk
 exact ⟨bM k,by rw [h1,e]⟩
theorem aVe {t n:Nat}{cs:List Value}{x:DataW H×List MemPlace}(ht:W.underlying t=some .bool)(h:DataW.trod enc W w lu vM vf n t cs=some x):∃ m,cs=[.bool m]:=by
 obtain ⟨m,h1,_⟩:=DataW.trod_bool ht h;exact ⟨m,h1⟩
theorem cCi {t n:Nat}{cs:List Value}{x:DataW H×List MemPlace}(ht:W.underlying t=some .string)(h:DataW.trod enc W w lu vM vf n t cs=some x):∃ s:List UInt8,cs=[.string (bs s)]:=by
 obtain ⟨s,h1,rfl,_⟩:=DataW.trod_string ht h;exact ⟨s.data.toList,by rw [h1,aIi]⟩
theorem cCh {t n:Nat}{e:TypeId}{cs:List Value}{x:DataW H×List MemPlace}(ht:W.underlying t=some (.slice e))(h:DataW.trod enc W w lu vM vf n t cs=some x):∃ (a:Option Addr) (l c:Nat),cs=[.slice a l c]:=by
 cases n with
 | zero=>simp [DataW.trod] at h
 | succ n =>
 rcases DataW.trod_slice ht h with ⟨rfl,rfl⟩ | ⟨a,len,cap,cJ6,bh,n',hn,rfl,rfl,_⟩
 ·exact ⟨none,0,0,B⟩
 ·exact ⟨some a,len,cap,B⟩
theorem bXj {l:List Value}(h:l.length=4):∃ tr cC a7 eL,l=[tr,cC,a7,eL]:=by
 match l,h with
 | [tr,cC,a7,eL],_=>exact ⟨_,_,_,_,rfl⟩
theorem bXk {l:List Value}(h:l.length=5):∃ tr cC a7 eL rc,l=[tr,cC,a7,eL,rc]:=by
 match l,h with
 | [tr,cC,a7,eL,rc],_=>exact ⟨_,_,_,_,_,rfl⟩
theorem bXi {l:List Value}(h:l.length=13):∃ tr cC a7 eL rc yy tw nK MH D0 AR HB S7,l=[tr,cC,a7,eL,rc,yy,tw,nK,MH,D0,AR,HB,S7]:=by
 match l,h with
 | [tr,cC,a7,eL,rc,yy,tw,nK,MH,D0,AR,HB,S7],_=>exact ⟨_,_,_,_,_,_,_,_,_,_,_,_,_,rfl⟩
theorem cCg {n:Nat}{cs:List Value}{x:DataW H×List MemPlace}(h:DataW.trod enc W w lu vM vf n 23 cs=some x):∃ bD bK af aj ak:Int,cs=[.int .i64 bD,.int .i64 bK,.int .i64 af,.int .i64 aj,.int .i64 ak]:=by
 obtain ⟨hl,hf⟩:=PL r9 (lR pV) h;obtain ⟨tr,cC,a7,eL,rc,rfl⟩:=bXk hl;obtain ⟨_,aX0,t0⟩:=hf 0 3 0 1 rfl (lR bN);obtain ⟨_,dM,fC⟩:=hf 1 3 1 1 rfl (lR bN);obtain ⟨_,eQ,t2⟩:=hf 2 3 2 1 rfl (lR bN);obtain ⟨_,ft,t3⟩:=hf 3 3 3 1 rfl (lR bN);obtain ⟨_,cH0,t4⟩:=hf 4 3 4 1 rfl (lR bN);simp only [r7,mS,jG,iw] at t0 fC t2 t3 t4;obtain ⟨a0,e0⟩:=Cu dq t0;obtain ⟨kg,bm⟩:=Cu dq fC;obtain ⟨a2,aZ⟩:=Cu dq t2;obtain ⟨a3,gg⟩:=Cu dq t3;obtain ⟨a4,e4⟩:=Cu dq t4;simp only [iL,and_true] at e0 bm aZ gg e4;subst e0 bm aZ gg e4;exact ⟨_,_,_,_,_,B⟩
theorem cCf {n:Nat}{cs:List Value}{x:DataW H×List MemPlace}(h:DataW.trod enc W w lu vM vf n 25 cs=some x):∃ d:Dl,cs=[.int .u8 ((d.sep.toNat:Nat):Int),.int .u8 ((d.quo.toNat:Nat):Int),.bool d.hdr,.bool d.typ]:=by
 obtain ⟨hl,hf⟩:=PL q3 (lR pW) h;obtain ⟨tr,cC,a7,eL,rfl⟩:=bXj hl;obtain ⟨_,aX0,t0⟩:=hf 0 5 0 1 rfl (lR mJ);obtain ⟨_,dM,fC⟩:=hf 1 5 1 1 rfl (lR mJ);obtain ⟨_,eQ,t2⟩:=hf 2 4 2 1 rfl (lR xM);obtain ⟨_,ft,t3⟩:=hf 3 4 3 1 rfl (lR xM);simp only [r7,mS,jG,iw] at t0 fC t2 t3;obtain ⟨a0,e0⟩:=aVf en t0;obtain ⟨kg,bm⟩:=aVf en fC;obtain ⟨a2,aZ⟩:=aVe pr t2;obtain ⟨a3,gg⟩:=aVe pr t3;simp only [iL,and_true] at e0 bm aZ gg;subst e0 bm aZ gg;exact ⟨⟨a0,kg,a2,a3⟩,B⟩
theorem cCe {n:Nat}{cs:List Value}{x:DataW H×List MemPlace}(h:DataW.trod enc W w lu vM vf n 30 cs=some x):∃ (s:List UInt8) (fmt dp:Int) (d:Dl) (bD bK af aj ak:Int) (fP:Option Addr) (dE eV:Nat),cs=[.int .i64 fmt,.string (bs s),.int .i64 dp,.int .i64 bD,.int .i64 bK,.int .i64 af,.int .i64 aj,.int .i64 ak,.int .u8 ((d.sep.toNat:Nat):Int),.int .u8 ((d.quo.toNat:Nat):Int),.bool d.hdr,.bool d.typ,.slice fP dE eV]:=by
 obtain ⟨hl,hf⟩:=PL Tryz.underlying30 (lR aWj) h;obtain ⟨tr,cC,a7,eL,rc,yy,tw,nK,MH,D0,AR,HB,S7,rfl⟩:=bXi hl;obtain ⟨_,aX0,t0⟩:=hf 0 3 0 1 rfl (lR bN);obtain ⟨_,dM,fC⟩:=hf 1 9 1 1 rfl (lR gA);obtain ⟨_,eQ,t2⟩:=hf 2 3 2 1 rfl (lR bN);obtain ⟨_,ft,t3⟩:=hf 3 27 3 9 rfl (lR zJ);obtain ⟨_,cH0,t4⟩:=hf 4 28 12 1 rfl (lR zK);simp only [r7,mS,jG,iw] at t0 fC t2 t3 t4;obtain ⟨_,aH⟩:=PL Hq (lR zJ) t3;obtain ⟨_,z0,FM⟩:=aH 0 23 0 5 rfl (lR pV);obtain ⟨_,pX,kw⟩:=aH 1 25 5 4 rfl (lR pW);simp only [r7,mS,jG,iw] at FM kw;obtain ⟨fmt,e0⟩:=Cu dq t0;obtain ⟨s,bm⟩:=cCi aF fC;obtain ⟨dp,aZ⟩:=Cu dq t2;obtain ⟨bD,bK,af,aj,ak,gg⟩:=cCg FM;obtain ⟨d,lv⟩:=cCf kw;obtain ⟨fP,dE,eV,e4⟩:=cCh lp t4;simp only [iL,and_true] at e0 bm aZ gg e4 lv;obtain ⟨rfl,rfl,rfl,rfl,rfl⟩:=gg;obtain ⟨rfl,rfl,rfl,rfl⟩:=lv;subst e0 bm aZ e4;exact ⟨s,fmt,dp,d,bD,bK,af,aj,ak,fP,dE,eV,B⟩
theorem aZf {x a b:Value}{l:List Value}(h:x.cells.toList=a::b::l):x=.agg (a::b::l).toArray:=by
 cases x <;> simp [Value.cells] at h
 rename_i cs;rw [<- h]
end
end Go.Proofs.YthiafbkolhnadaaGreatDoor
end
section
namespace Go.Proofs.YthiafbkolhnadaaGreatDoor
open Go Go.Dk Go.RowKit Go.Lib
set_option maxRecDepth 100000
theorem YN {P:Program}{oD:World}{name:String}{k:IntKind}{s6:List Int}{g:Nat}{t e:TypeId}{n:Nat}
  (aH:P.globalNamed name=some g) (zh:(P.globals[g]?).map (·.type)=some t) (ht:P.underlying t=some (.array n e)) (he:P.underlying e=some (.int k)) (rr:P.cellsOf e=1) (ru:P.cellsOf t=n)
  (h:VarReads P oD name (tabData k s6)):TabIs P oD name k s6:=by
 obtain ⟨Eh,ee,cs,pA,p,bPs,aV,Oq,hd⟩:=h;obtain rfl:=mb (aH.symm.trans bPs);obtain rfl:=mb (zh.symm.trans aV);unfold TabIs;rw [Oq,<- cells_of_tab ht he rr ru hd]
theorem cA1:(Rows.laid_internal_strconv_uint64pow10:DataW Unit)=tabData .u64 pow10Tab:=by kernel_rfl
theorem bA4:(Rows.laid_math_bits_deBruijn64tab:DataW Unit)=tabData .u8 (deBruijn64tab.map λn:Nat=>(n:Int)):=by kernel_rfl
theorem bL9:(Rows.laid_unicode_utf8_first:DataW Unit)=firstData:=by kernel_rfl
theorem aZe:(Rows.laid_unicode_utf8_acceptRanges:DataW Unit)=acceptData:=by kernel_rfl
theorem MI:W.cellsOf 5=1:=by kernel_rfl
theorem cE8 {oD : World} (h2 : VarReads Tryz.prog oD "math/bits.deBruijn64tab" Rows.laid_math_bits_deBruijn64tab) (Y : VarReads Tryz.prog oD "internal/strconv.uint64pow10" Rows.laid_internal_strconv_uint64pow10)
  (ar : VarReads Tryz.prog oD "unicode/utf8.acceptRanges" Rows.laid_unicode_utf8_acceptRanges) (bd : VarReads Tryz.prog oD "unicode/utf8.first" Rows.laid_unicode_utf8_first) : Tabs oD := by
 rw [cA1] at Y;rw [bA4] at h2;rw [bL9] at bd;rw [aZe] at ar;have fe : Tryz.prog.globalNamed "unicode/utf8.first" = some 0 := by kernel_rfl
 have g4 : Tryz.prog.globalNamed "unicode/utf8.acceptRanges" = some 1 := by kernel_rfl
 have dt : Tryz.prog.globalNamed "math/bits.deBruijn64tab" = some 7 := by kernel_rfl
 have aZ:=YN dt (t:=406) ac Tryz.underlying406 en MI ac h2;have lv:=YN fe (t:=233) ac Tryz.underlying233 en MI ac bd;refine ⟨YN (g:=2) (t:=358) ac ac Tryz.underlying358 DQ ac ac Y,λj ax=>?_,λc hc=>?_,λi hi=>?_⟩
 . have h:=aZ.cell dt j (by rw [fT];exact ax)
   rw [h]
   congr 2
   have y0:j<deBruijn64tab.length:=ax;simp [l8,eF,bS y0]
 . have bN5:c<firstTab.length:=by unfold firstTab;simpa using hc
   have h:=lv.cell fe c bN5;rw [h]
   congr 2
   unfold firstTab;simp [l8,hc]
 . obtain ⟨g,t,cs,pA,p,aH,zh,Oq,hd⟩:=ar
   obtain rfl:=mb (g4.symm.trans aH);obtain rfl:236=t:=mb ((show (W.globals[1]?).map (·.type)=some 236 by kernel_rfl).symm.trans zh);obtain ⟨cKj,d,q,vc,he⟩:=array_elem Tryz.underlying236 hd i hi;simp only [eF,List.getElem?_range hi,ti,kS] at vc;subst vc;have aI6:W.cellsOf 235=2:=by kernel_rfl
   rw [aI6] at he;have ia:=ints_of_struct Tryz.underlying235 (λj f ax=>by
    match j,ax with
    | 0,ax=>simp at ax;subst ax;exact ⟨en,B,MI⟩
    | 1,ax=>simp at ax;subst ax;exact ⟨en,B,MI⟩
    | j+2,ax=>simp at ax) (by rw [aI6];rfl) he
   have e0:=aD (·[0]?) ia;have bm:=aD (·[1]?) ia;simp only [te,tc] at e0 bm;constructor
   . rw [World.var?_cell aH Oq (2*i),<- Array.getElem?_toList]
     simpa [Nat.mul_comm] using e0
   . rw [World.var?_cell aH Oq (2*i+1),<- Array.getElem?_toList]
     simpa [Nat.mul_comm] using bm
end Go.Proofs.YthiafbkolhnadaaGreatDoor
end
section
namespace Go.Proofs.YthiafbkolhnadaaGreatDoor.indexBuilds
open Go Go.Dk Go.ChangeShapes Go.WideShapes Go.ChangeAt Go.RowKit
theorem own:ownKnob W.godebug=none:=by kernel_rfl
theorem laidOut:laidOutB W=true:=by kernel_rfl
theorem bW1 (os:Os):laidMet W Rows.indexBuildsRow.laid ((World.laidAll W os Rows.indexBuildsRow.laid).forCall (λ_ _=>0) ⟨#[],#[.agg #[.int .i64 0,.string ⟨#[]⟩,.int .i64 0,.int .i64 0,.int .i64 0,.int .i64 0,.int .i64 0,.int .i64 0,.int .u8 0,.int .u8 0,.bool false,.bool false,.slice none 0 0]],[]⟩).memory :=
 laidMet_laidAll _ ac ac
theorem reads (os:Os){H:Type}(enc:TypeId×Value->H):∃ aT9,DataW.whole enc W ((World.laidAll W os Rows.indexBuildsRow.laid).forCall (λ_ _=>0) ⟨#[],#[.agg #[.int .i64 0,.string ⟨#[]⟩,.int .i64 0,.int .i64 0,.int .i64 0,.int .i64 0,.int .i64 0,.int .i64 0,.int .u8 0,.int .u8 0,.bool false,.bool false,.slice none 0 0]],[]⟩).memory Tryz.f3.params.toList Rows.indexBuildsSpec.vars false (#[.agg #[.int .i64 0,.string ⟨#[]⟩,.int .i64 0,.int .i64 0,.int .i64 0,.int .i64 0,.int .i64 0,.int .i64 0,.int .u8 0,.int .u8 0,.bool false,.bool false,.slice none 0 0]]:Array Value).toList 8=some ([.agg [.lit (.int .i64 0),.lit (.string []),.lit (.int .i64 0),.agg [.agg [.lit (.int .i64 0),.lit (.int .i64 0),.lit (.int .i64 0),.lit (.int .i64 0),.lit (.int .i64 0)],.agg [.lit (.int .u8 0),.lit (.int .u8 0),.lit (.bool false),.lit (.bool false)]],.nil]],[],aT9) :=
 ⟨[],by kernel_rfl⟩
theorem cE7 {oD:World}(h:laidMetH W Rows.indexBuildsRow.laid oD):Tabs oD:=by
 rw [MakeChecks.laidMetH_plain _ _ _ ac] at h;exact cE8 (Go.Lib.laidMet.reads h (bP _ (b9 ..))) (Go.Lib.laidMet.reads h (bP _ (bP _ (b9 ..)))) (Go.Lib.laidMet.reads h (bP _ (bP _ (bP _ (b9 ..))))) (Go.Lib.laidMet.reads h (bP _ (bP _ (bP _ (bP _ (b9 ..))))))
theorem lifted (os:Os)(started:os.Started)(H:Type)(enc:TypeId×Value->H)(F:Stop.Interp) :
  ReturnsInHanded {} Tryz.checked os 3 .any ((OpenSpec.ofChange Rows.indexBuildsSpec).preRow enc W Tryz.f3 Rows.indexBuildsRow.domain false Rows.indexBuildsRow.laid) (((OpenSpec.ofChange Rows.indexBuildsSpec).at F).post enc W Tryz.f3 false true false false):=by
 obtain ⟨aT9,hx⟩:=reads os enc;refine returnsInHanded_of_row (C:=Tryz.checked) (s:=OpenSpec.ofChange Rows.indexBuildsSpec) own started ac Tryz.func3
  (witness_row_at (enc:=enc) (C:=Tryz.checked) false (World.laidAll W os Rows.indexBuildsRow.laid) #[.agg #[.int .i64 0,.string ⟨#[]⟩,.int .i64 0,.int .i64 0,.int .i64 0,.int .i64 0,.int .i64 0,.int .i64 0,.int .u8 0,.int .u8 0,.bool false,.bool false,.slice none 0 0]] (World.laidAll_os _ _ _) ac ac ac
    (OpenSpec.preRow_of_cond 8 hx ac (λk hk=>by cases hk) ac (bW1 os))) ?_
 intro oD lu args jl cKw cJt Oo aM7 _ bOx _ hP mv _;have ht:=cE7 hP;have jr:Cnt oD:=Go.Proofs.cell_of_shapedOpen_int (P:=W) (g:=3) (t:=3) (zero:=#[.int .i64 0]) mv (of_decide_eq_true ac) ac B ac ac dq;have bNj:=aM7;obtain ⟨p,q,aMx,yN,rfl,yX,jO⟩:=aM7;have qj:DataW.TrodAll enc W oD 0 (λ_=>true) true Tryz.f3.params.toList args.toList jl p:=aMx;rw [Tryz.params3] at qj Oo;obtain ⟨v0,cUw,sh,cJ4,k5,FM,hA,rfl,rfl,ap,im⟩:=trodAll_cons qj;obtain ⟨rfl,rfl,rfl⟩:=trodAll_nil im;obtain rfl:args=#[v0]:=by cases args;simp_all
 obtain ⟨rfl,rfl⟩:=trodVars_none yN;have l1:=ap;have bXp:∀ x∈k5,x.block<oD.heap.size:=by obtain ⟨m,hm⟩:=l1;exact DataW.trod_lt m _ _ _ hm
 obtain ⟨m0,t0⟩:=ap
 obtain ⟨dA,bMe,bHy,bHw,bXs,bXu,bXv,bXw,bXx,cAm,cAv,cAq,e0⟩:=cCe t0;obtain rfl:=aZf e0
 clear aMx
 refine Calls.mono (bW2 dA bMe bHy bHw bXs bXu bXv bXw bXx cAm cAv cAq oD ht jr) λe cIm ⟨r,he,aIg,b,hr,hb⟩=>?_
 subst hr hb he;exact ⟨_,B,_,_,_,[],_,[],bNj,trodAll_mk1 (shut_bool pr _),(trodAll_cons_mk (Below.trod laidOut ac (of_decide_eq_true ac) l1 aIg bXp) trodAll_mk0),B,aIg.frame _,λh=>by cases h⟩
end Go.Proofs.YthiafbkolhnadaaGreatDoor.indexBuilds
end
