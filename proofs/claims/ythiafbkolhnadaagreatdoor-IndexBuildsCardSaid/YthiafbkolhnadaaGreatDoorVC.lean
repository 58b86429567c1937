/-
  Several texts in one: Gc, Ia, Ic, Ie, Il, In, Io, Bu, K0, Yd, K3, K4, K5, K6, Bq, Ig, Nd, Yf, K7, K8, Rb, Xb, Da, N1, Db, N2, Iq, Dc
-/
import Derived.Test.YthiafbkolhnadaaGreatDoorVB
import Derived.Laws.OwnMore
import Derived.Lib.Builder
open Go.Proofs.Tryz renaming prog->W,underlying9->aF,underlying72->de,underlying3->dq,underlying70->dx,underlying5->en,underlying83->fb,underlying79->fk,underlying28->lp,underlying33->mc,underlying148->mV,underlying32->oA,underlying80->oB,underlying159->po,underlying4->pr,underlying81->qd,underlying25->q3,underlying35->q4,underlying23->r9,underlying78->sa,func182->ww,zeroValue4->yr,func343->AH,func115->DL,underlying129->SM
open List renaming length_append->aQ,length_drop->bC,mem_cons_of_mem->bP,getElem?_eq_getElem->bS,getElem?_eq_some_iff->bT,mem_cons_self->b9,mem_of_getElem?->cb,length_cons->cf,append_nil->cH,length_nil->dC,length_take->dS,append_assoc->eB,length->eC,getElem?_map->eF,mem_cons->eX,drop_drop->fE,length_map->fT,flatMap_cons->gE,length_pos_iff->gF,nil_append->gG,cons_append->gT,mem_singleton->hL,getD_eq_getElem?_getD->hZ,mem_append->iv,take_zero->iw,mem_append_left->iM,map_cons->jk,take_succ_cons->jG,getElem?_of_mem->jX,map_append->kc,length_singleton->ll,mem_map->lm,take_of_length_le->lQ,getD->l8,getElem?_append_left->l9,drop_zero->mS,not_mem_nil->mT,take_length->nG,drop_eq_getElem_cons->ph,flatten_cons->pi,getElem?_append_right->pj,replicate->pk,all_eq_true->p7,eq_nil_of_length_eq_zero->p8,drop_eq_nil_of_le->q0,drop_succ_cons->r7,getElem?_drop->tc,getElem?_take->te,perm_middle->tf,drop_take->yk,foldl_cons->yl,nodup_cons->ym,drop_of_length_le->AD,getElem?_cons_zero->AE,length_replicate->SH
open UInt8 renaming ofNat->bM,toNat_inj->q5
open Nat renaming zero_le->bU,le_refl->bV,add_zero->gb,beq->gU,zero_add->gV,lt_or_ge->ma,add_assoc->mU,le_trans->nI,pow_le_pow_right->pn,eq_zero_or_pos->tg,min_eq_left->yn,mod_eq_of_lt->yo
open Int renaming toNat->dw,toNat_natCast->gD
open Bool renaming and_eq_true->fS,or_eq_true->hW,eq_iff_iff->jE,not_eq_true'->kP,noConfusion->qR,false_eq_true->r0,or_eq_false_iff->uB
open Option renaming bind_some->ke,map_eq_some_iff->nJ,bind_none->th,map_some->ti
open Option.some renaming injEq->kS,inj->mb
open Classical renaming byContradiction->nA,not_not->nB
set_option linter.unusedSimpArgs false
set_option linter.unusedVariables false
set_option maxHeartbeats 4000000
set_option maxRecDepth 100000
section
namespace Go.Proofs.YthiafbkolhnadaaGreatDoor
open Go Go.Dk Go.RowKit Go.Lib
attribute [local irreducible] Go.wpList Go.Code.wp Go.bodyPost Go.wpStill
theorem aI3 (r:Nat)(w0:World):Fc W 193 [.int .i64 r] w0 (Ad λm=>m=s4 r):=by
 refine aI Tryz.func193 B Tryz.ntmps193 B ?_;have G:=Ctx.start w0;refine i6 ?_;refine Z (λkG=>?_) (λkG=>?_)
 ·refine aq ?_;refine Li ?_;refine ow ?_;show (_:Int)=_;unfold s4;rw [U I]
  rfl
 refine az ?_;refine Z (λoS=>?_) (λoS=>?_)
 ·refine aq ?_;refine Li ?_;refine ow ?_;show (_:Int)=_;unfold s4;rw [O I];rw [U I]
  rfl
 refine az ?_;refine Z (λhD=>?_) (λhD=>?_)
 ·refine aq ?_;refine Li ?_;refine ow ?_;show (_:Int)=_;unfold s4;rw [O I];rw [O I];rw [U I]
  rfl
 refine az ?_;refine Li ?_;refine ow ?_;show (_:Int)=_;unfold s4;rw [O I];rw [O I];rw [O I]
 rfl
theorem bCn (b:Nat)(w0:World)(hb:b<256):Fc W 191 [.int .u8 b] w0 (λv _=>v=.tuple #[.int .i64 (ey b).1,.int .i64 (ey b).2]):=by
 refine aI Tryz.func191 B Tryz.ntmps191 B ?_;have G:=Ctx.start w0;refine kf ?_;refine Z (λhR=>?_) (λhR=>?_)
 ·refine ae ?_;refine Lj ?_;refine an ?_;refine GB ?_;have he:ey b=(1,b):=by
   unfold ey;rw [U I]
  refine x0 ?_;exact Kx he B B
 refine cF ?_;refine Z (λhD=>?_) (λhD=>?_)
 ·refine ae ?_;refine p0 ?_;refine Lj ?_;refine an ?_;refine GB ?_;have he:ey b=(2,b%32):=by
   unfold ey;rw [O I];rw [U I]
  refine x0 ?_;exact Kx he B (aD (Value.int .i64) (aHy hb))
 refine cF ?_;refine Z (λeH=>?_) (λeH=>?_)
 ·refine ae ?_;refine p0 ?_;refine Lj ?_;refine an ?_;refine GB ?_;have he:ey b=(3,b%16):=by
   unfold ey;rw [O I];rw [O I];rw [U I]
  refine x0 ?_;exact Kx he B (aD (Value.int .i64) (aHw hb))
 refine cF ?_;refine Z (λgY=>?_) (λgY=>?_)
 ·refine ae ?_;refine p0 ?_;refine Lj ?_;refine an ?_;refine GB ?_;have he:ey b=(4,b%8):=by
   unfold ey;rw [O I];rw [O I];rw [O I];rw [U I]
  refine x0 ?_;exact Kx he B (aD (Value.int .i64) (aHz hb))
 refine aG ?_;refine GB ?_;have he:ey b=(0,0):=by
  unfold ey;rw [O I];rw [O I];rw [O I];rw [O I]
 refine x0 ?_;exact Kx he B B
theorem aIq (s:ByteArray)(a:Nat)(w0:World)(hs:s.size<=1073741824)(a6:a<s.size):Fc W 121 [.string s,.int .i64 a] w0 (λv _=>∃ r:Int,v=.tuple #[.int .i64 r,.int .i64 (fB s a)]):=by
 refine aI Tryz.func121 B Tryz.ntmps121 B ?_;have G:=Ctx.start w0;refine kf ?_;refine Ak ?_;refine ae ?_;refine Z (λc8=>?_) (λc8=>?_)
 ·refine az ?_;refine GC ?_;exfalso;omega
 refine aq ?_;refine Ah ?_;refine bG G (bCn _ _ (i7 s a)) Tryz.func191 B B B B B B ?_;intro Yi w G WR za;subst za;refine kD ?_;refine Ak ?_;refine ab ?_;refine aN B B B a8 (λhc=>sZ B ay ay eJ eJ) ?_;refine ae ?_;refine Z (λml=>?_) (λml=>?_)
 ·refine az ?_;refine GC ?_;exact ⟨G.ext,0,vU (m:=0) (cE1 a6 I) B B⟩
 refine aG ?_;have j3:=bO3 (aY s a) (i7 s a);refine bu (λk f ah=>∃ i:Nat,1<=i/\k+i=(ey (aY s a)).1/\(∀ j,1<=j->j<i->aY s (a+j) / 64=2)/\f 0=.string s/\f 1=.int .i64 a/\f 6=.int .i64 (ey (aY s a)).1/\f 4=.int .i64 (kT s a (ey (aY s a)).2 (i-1))/\f 7=.int .i64 i/\Ctx w0 ah []) ((ey (aY s a)).1-1) ?_ ?_
 ·exact ⟨1,I,I,λj h1 h2=>I,B,B,B,B,B,G⟩
 intro qi f w ai;obtain ⟨i,hi,hk,hall,aB,aK,aL,aM,aS,G⟩:=ai;have Bh:=Ms s a (ey (aY s a)).2 I (i-1) I;have aM9:256*64^(i-1)<=67108864:=nI (Nat.mul_le_mul_left 256 (pn (by decide) (show i-1<=3 by omega))) (by decide);refine aG ?_;refine Z (λpF=>?_) (λpF=>?_)
 ·refine cK ?_;refine Ah ?_;refine az ?_;refine p0 ?_;refine ag ?_;refine Z (λqk=>?_) (λqk=>?_)
  ·refine az ?_;refine GC ?_;refine ⟨G.ext,0,vU (m:=0) (cE0 (i:=i) I I (λh=>qk ?_)) B B⟩;rw [show ((a:Int)+(i:Int))=((a+i:Nat):Int) by omega,rb];exact (aHx (i7 _ _)).2 h
  refine ae ?_;refine Le ?_;refine ab ?_;refine p0 ?_;refine S B B (v7 B B en dq (by rw [show ((a:Int)+(i:Int))=((a+i:Nat):Int) by omega,rb,SU (i7 _ _)];omega) (by rw [show ((a:Int)+(i:Int))=((a+i:Nat):Int) by omega,rb,SU (i7 _ _)];omega)) ?_;refine Rp ?_;refine aG ?_;refine ⟨qi-1,_,I,B,i+1,I,I,λj h1 h2=>?_,aB,aK,aL,aD (Value.int .i64) ?_,B,G⟩
  . rcases ma j i with Y | Y
    ·exact hall j h1 Y
    . obtain rfl:j=i:=I
      rw [show ((a:Int)+(j:Int))=((a+j:Nat):Int) by omega,rb] at qk;exact (aHx (i7 _ _)).1 qk
  . rw [show ((a:Int)+(i:Int))=((a+i:Nat):Int) by omega,rb,SU (i7 _ _)]
    exact ZH
 refine aq ?_;refine xJ G (aI2 _ _) Tryz.func192 B B B B B B ?_;intro aUq w G Jy tT;refine ae ?_;refine cDf G B B B a8 (λhc=>aI3 _ _) Tryz.func193 B B B (λhc=>(aX ay B)) ?_;intro cBt w G WU NZ;refine an ?_;refine Z (λrq=>?_) (λrq=>?_)
 ·refine az ?_;refine GC ?_;have dK:i=(ey (aY s a)).1:=I;have hz:fB s a=0:=by
   rw [aWm a6 I I (λj h1 h2=>hall j h1 I),<- dK,O];rintro ⟨bm,aZ⟩;rcases rq with h | h
   ·rw [tT,bm] at h;cases h
   ·rw [NZ (by rw [tT,bm];rfl)] at h;omega
  exact ⟨G.ext,0,vU (m:=0) hz B B⟩
 refine cK ?_;refine GC ?_;have dK:i=(ey (aY s a)).1:=I;obtain ⟨h1,h2⟩:=rq;have hz:fB s a=(ey (aY s a)).1:=by
  rw [aWm a6 I I (λj h1 h2=>hall j h1 I),<- dK,U];refine ⟨by rw [<- tT];exact h1,?_⟩;have:=NZ (by rw [h1];rfl);omega
 exact ⟨G.ext,_,vU hz B B⟩
theorem bB7 (s:ByteArray)(w0:World)(hs:s.size<=1073741824):Fc W 150 [.string s] w0 (λv _=>∃ n:Int,v=.tuple #[.int .i64 n,.int .i64 (if validD s.data.toList=true then 0 else 5)]):=by
 refine aI Tryz.func150 B Tryz.ntmps150 B ?_;have G:=Ctx.start w0;refine oC ?_;refine bu (λk f ah=>∃ i m:Nat,k+i=s.size/\m<=i/\validD s.data.toList=validD (s.data.toList.drop i)/\f 0=.string s/\f 5=.int .i64 i/\f 4=.int .i64 m/\Ctx w0 ah []) (s.size) ?_ ?_
 ·exact ⟨0,0,I,I,B,B,B,B,G⟩
 intro gJ f w ai;obtain ⟨i,m,hk,hm,js,aB,bF,aM,G⟩:=ai;refine aq ?_;refine wk ?_;refine ag ?_;refine Z (λfW=>?_) (λfW=>?_)
 ·have ec:=Kv s i I;refine aG ?_;refine bG G (aIq _ _ _ I I) Tryz.func121 B B B B B B ?_;intro Yh w G E6 BM;obtain ⟨H4,rfl⟩:=BM;refine i6 ?_;refine Z (λdG=>?_) (λdG=>?_)
  ·refine az ?_;refine dY Tryz.results150 B B ?_;have hz:(5:Int)=(if validD s.data.toList=true then 0 else 5):=by rw [js,aXl s i I I];rfl
   exact ⟨G.ext,0,aWv hz B B⟩
  refine i6 ?_;have ec:=Kv s i I;refine ⟨gJ-fB s i,_,I,B,i+fB s i,m+1,I,I,?_,aB,?_,B,G⟩
  ·rw [js];exact Qg s i I I
  . show Value.int .i64 _=_
    congr 1
 refine bz ?_;refine dY Tryz.results150 B B ?_;have hz:(0:Int)=(if validD s.data.toList=true then 0 else 5):=by rw [js,aXo s i I];rfl
 exact ⟨G.ext,_,aWv hz B B⟩
theorem aJ0 (s:ByteArray)(w0:World)(hs:s.size<=1073741824):Fc W 92 [.string s] w0 (lP λb=>b=validD s.data.toList):=by
 refine aI Tryz.func92 B Tryz.ntmps92 B ?_;have G:=Ctx.start w0;refine aG ?_;refine bG G (bB7 _ _ I) Tryz.func150 B B B B B B ?_;intro Kk w G iW zb;obtain ⟨cJ7,rfl⟩:=zb;refine kf ?_;refine be Tryz.results92 B ?_;refine ow ?_;show (_:Bool)=_;cases validD s.data.toList <;> rfl
end Go.Proofs.YthiafbkolhnadaaGreatDoor
end
section
namespace Go.Dk
open Go Go.RowKit Go.Lib
end Go.Dk
namespace Go.Dk
open Go Go.RowKit Go.Lib
theorem getD_some {s:List UInt8}{i:Nat}(h:i<s.length):s[i]?=some (s.getD i 0):=by
 rw [l8,bS h];rfl
theorem Nc {a:List UInt8}{j:Nat}(h:j<a.length):a.getD j 0∈a:=cb (getD_some h)
end Go.Dk
end
section
namespace Go.Dk
open Go Go.RowKit Go.Lib
end Go.Dk
end
section
namespace Go.Dk
open Go Go.RowKit Go.Lib
section
variable {w0 w w' aA:World} {L:List (Nat×Obj)} {R gH:List Row}
theorem bZw {b q8 e size n:Nat}{v:Value}{xs:List Value}{w:World}(h:w.ownsRow b e size v n xs)(hb:q8<=b):w.ownsRow q8 e size v n xs:=by
 refine ⟨h.1,?_⟩;rcases h.2 with h2 | ⟨g,cap,cg,h1,h2,Y⟩
 ·exact .inl h2
 ·exact .inr ⟨g,cap,cg,h1,nI hb h2,Y⟩
theorem Cxr.callRows (h:Cxr aA w L R){rs:List Row}(hc:Cxr w w' [] rs):Cxr aA w' L (rs++R):=by
 have h1:=h.call hc.ext;have j3:∀ r∈rs,∀ k,r.v.ownBlock=some k->w.heap.size<=k:=λr hr k hk=>((hc.rows r hr).lt k hk).1
 refine ⟨h1.ext,h1.own,h1.lo,h1.nd,λr hr=>?_,λr hr k hk hm=>?_,?_⟩
 . rcases iv.1 hr with hr | hr
   ·exact bZw (hc.rows r hr) h.ext.size
   ·exact h1.rows r hr
 . rcases iv.1 hr with hr | hr
   . obtain ⟨p,hp,rfl⟩:=lm.1 hm
     have h2:=j3 r hr _ hk;have Y:=h.lt p hp;omega
   ·exact h1.off r hr k hk hm
 . refine List.pairwise_append.2 ⟨hc.pw,h1.pw,λr hr s hs k hk bX=>?_⟩
   have h2:=j3 r hr k hk;have Y:=((h.rows s hs).lt k bX).2;omega
theorem cA9 {e n:Nat}{v:Value}{l:List Stp}(h:Cxr w0 w L (⟨e,3,v,n,l.flatMap e6⟩::R))(hn:n=l.length):Pth w v l:=by
 subst hn;obtain ⟨b,hs,hr⟩:=h.rowA;refine ⟨b,0,hs,λi x hx j u aP=>?_⟩;have b8:=(bT.1 hx).1;have:=hr (by rw [aV5];omega) (i*3+j) u (Ul l i j x u hx aP);rwa [show 0+i*3+j=0+(i*3+j) by omega]
theorem cBa {t n:Nat}{v:Value}{l:List Stp}(h:Cxr w0 w L R)(hr:(⟨t,3,v,n,l.flatMap e6⟩:Row)∈R)(hn:n=l.length):Pth w v l:=cA9 (h.oneR hr) hn
theorem A3 {t u n:Nat}{gR:Value}{ps:List Value}{es:List Ent}(h:Cxr w0 w L (⟨u,3,gR,n,iz ps es⟩::R))(hn:n=es.length)(hl:ps.length=es.length)(hm:∀ q∈iH t ps es,q∈R):Ens w gR es:=by
 subst hn;obtain ⟨b,hs,hr⟩:=h.rowA;refine ⟨b,0,hs,λi x hx=>?_⟩;have b8:=(bT.1 hx).1;have hr:=hr (by rw [TX ps es hl];omega);obtain ⟨p,h1,h2⟩:=TW t ps es i x hl hx;refine ⟨p,λj v hv=>?_,cBa h (bP _ (hm _ h1)) B⟩;have:=hr (i*3+j) v (h2 j v hv);rwa [show 0+i*3+j=0+(i*3+j) by omega]
end
end Go.Dk
end
section
namespace Go.Dk
open Go Go.RowKit Go.Lib
def eO (b:Nat):Int:=if Nat.ble 48 b&&Nat.ble b 57 then Int.ofNat (b-48) else if Nat.ble 97 b&&Nat.ble b 102 then Int.ofNat (b-87) else Int.negSucc 0
theorem Fh (b:Nat):eO b<16:=by
 unfold eO;split
 . rename_i h
   simp only [fS,Nat.ble_eq] at h;show ((b-48:Nat):Int)<16;omega
 . split
   . rename_i h
     simp only [fS,Nat.ble_eq] at h;show ((b-87:Nat):Int)<16;omega
   ·decide
end Go.Dk
namespace Go.Dk
open Go Go.RowKit Go.Lib
end Go.Dk
end
section
namespace Go.Dk
open Go Go.RowKit Go.Lib
section
variable {P:Program} {o:Oper} {w:World} {ρ:Operand->Value}
theorem cGy {t:TypeId}{x:Operand}{p:Int}(au:o.op=.unOp .neg t x)(hx:ρ x=.int .i64 p)(ap:-9223372036854775807<=p)(h1:p<=9223372036854775807):(execOp ρ o).run P w=.ok (.value (.int .i64 (-p))) w:=by
 unfold execOp;rw [au];have e:IntKind.i64.wrap (-p)=-p:=by simp [IntKind.wrap,IntKind.signed,IntKind.bits];omega
 simp [hx,Op.unary,Op.intArith,e]
end
end Go.Dk
end
section
namespace Go.Dk
open Go Go.RowKit Go.Lib
section
variable {P:Program} {ops:Array Oper} {Q:Exit->Act->World->Prop} {bh:List Oper} {o:Oper} {n:Nat} {f:Nat->Value} {w w0:World} {L:List (Nat×Obj)} {R:List Row} {ρ:Operand->Value}
theorem aVw {t e bytes d nn:Nat}{x:Operand}{s6:List Value}(G:Cxr w0 w L R)(ht:P.underlying t=some (.slice e))(hi:∃ i z,P.info? e=some i/\i.zero=some z/\i.size=1/\i.bytes=bytes/\z.cells=s6.toArray)(hz:s6.length=1)
  (aH:o.guard=none) (hd:o.dst=some d) (au:o.op=.makeSlice t x x) (hx:aW n f x=.int .i64 (nn:Int)) (hb:bytes*nn<=281474976710656) (hn:nn<=maxLen)
  (h:∀ v w',Cxr w0 w' L (⟨e,1,v,nn,pk nn (s6.getD 0 undef)⟩::R)->w.grownBy w' none->(∃ g,v=.slice (some ⟨g,0,none⟩) nn nn)->wpList P ops Q bh (aC n (eh f d v)) w'):wpList P ops Q (o::bh) (aC n f) w:=by
 obtain ⟨i,z,h1,h2,Y,ar,bd⟩:=hi;obtain ⟨w',hr,cz,fx⟩:=run_make_full (P:=P) w w0.heap.size t e i z 1 ht h1 h2 Y .i64 .i64 nn (by rw [ar];exact hb) hn G.ext.size;refine od (w':=w') (v:=.slice (some ⟨w.heap.size,0,none⟩) nn nn) aH hd ?_ (h _ _ ?_ fx ⟨_,B⟩)
 ·unfold execOp;rw [au];simp [hx,hr]
 . have sq:Below w.heap.size w w':=⟨fx.os,fx.tape,fx.output,fx.size,λk hk=>fx.block k hk (by simp)⟩
   obtain ⟨z0,rfl⟩:∃ z0,s6=[z0]:=List.length_eq_one_iff.1 hz;have bm:(madeCells z.cells (nn*1)).toList=pk nn z0:=by
    rw [Nat.mul_one,bd];exact toList_madeCells_one z0 nn
   rw [bm] at cz;refine (G.call sq).addRow _ cz ?_ ?_
   . intro q aw hm
     simp only [Value.ownBlock,kS] at aw;obtain ⟨p,hp,rfl⟩:=lm.1 hm;have:=G.lt p hp;omega
   . intro s hs q aw EV
     simp only [Value.ownBlock,kS] at aw;have:=((G.rows s hs).lt _ EV).2;omega
theorem YA {t:TypeId}{x y:Operand}{e k cap g j:Nat}{xs:List Value}{v:Value}(G:Cxr w0 w L (⟨e,1,.slice (some ⟨g,0,none⟩) k cap,k,xs⟩::R))(aH:o.guard=none)(hd:o.dst=none)(au:o.op=.store t x y)(hx:aW n f x=.pointer (some ⟨g,j,none⟩))(hy:aW n f y=v)(h1:v.oneCell'=true)(ax:j<xs.length)(hs:(P.info? t).map (·.size)=some 1)
  (h:∀ w',Cxr w0 w' L (⟨e,1,.slice (some ⟨g,0,none⟩) k cap,k,xs.set j v⟩::R)->w.grownBy w' (some g)->wpList P ops Q bh (aC n f) w'):wpList P ops Q (o::bh) (aC n f) w:=by
 have nY:=G.rows _ (b9 ..);have sw:=G.off _ (b9 ..);have vq:=(List.pairwise_cons.1 G.pw).1;simp only at nY sw vq;obtain ⟨ck,fx⟩:=World.ownsRow.stored (w:=w) nY j v;have hc:v.cells=#[v]:=by cases v <;> first | rfl | simp [Value.oneCell'] at h1
 have NC:w.cell? ⟨g,j,none⟩=some xs[j]:=by
  obtain ⟨Eh,c',he,_,_,hr⟩:=G.rowS (by omega:0<xs.length);cases he;have:=hr j xs[j] (bS ax);simpa using this
 have yW:w.frozen? ⟨g,j,none⟩=false:=World.ownsRow.frozenAt nY j;refine FR (w':=w.setCell ⟨g,j,none⟩ v) aH hd ?_ (h _ ?_ fx)
 . unfold execOp;rw [au]
   exact aBl
 . have IH:Cxr w0 (w.setCell ⟨g,j,none⟩ v) L R:=by
     refine ⟨G.ext.grown fx G.ext.size (λk hk=>by simp at hk;subst hk;exact (nY.lt _ B).1),?_,G.lo,G.nd,?_,λr hr=>G.off r (bP _ hr),(List.pairwise_cons.1 G.pw).2⟩
     . intro p kJ
       exact aBs
     . intro r hr
       exact aBa
   exact IH.addRow _ ck sw vq
theorem s0 {t ee:TypeId}{x y:Operand}{p q r:Int}(au:o.op=.binOp .sub t x y ee)(hx:ρ x=.int .i64 p)(hy:ρ y=.int .i64 q)(he:p-q=r)(h1:-9223372036854775808<=r)(h2:r<=9223372036854775807):(execOp ρ o).run P w=.ok (.value (.int .i64 r)) w:=by
 subst he;exact sZ au hx hy h1 h2
end
theorem bZt:∀ (a:Fin 32) (b:Fin 2),cQ .or .i64 (shl .i64 (a.val:Int) 1) (b.val:Int)=((2*a.val+b.val:Nat):Int):=by decide +kernel
theorem bZs {a b:Nat}(a6:a<32)(hb:b<2):cQ .or .i64 (shl .i64 (a:Int) 1) (b:Int)=((2*a+b:Nat):Int):=bZt ⟨a,a6⟩ ⟨b,hb⟩
theorem bZo:∀ (a:Fin 256) (b:Fin 2) (k:Fin 8),0<=cQ .or .u8 (a.val:Int) (shl .u8 (b.val:Int) k.val)/\cQ .or .u8 (a.val:Int) (shl .u8 (b.val:Int) k.val)<256:=by decide +kernel
theorem bZn {a b k:Nat}(a6:a<256)(hb:b<2)(hk:k<8):∃ c:UInt8,cQ .or .u8 (a:Int) (shl .u8 (b:Int) k)=((c.toNat:Nat):Int):=by
 obtain ⟨h1,h2⟩:=bZo ⟨a,a6⟩ ⟨b,hb⟩ ⟨k,hk⟩;simp only at h1 h2;refine ⟨bM (cQ .or .u8 (a:Int) (shl .u8 (b:Int) k)).toNat,?_⟩;rw [sW I];omega
theorem cEc:∀ (a:Fin 256) (k:Fin 8),0<=shr .u8 (a.val:Int) k.val/\shr .u8 (a.val:Int) k.val<256:=by decide +kernel
theorem cEb {a k:Nat}(a6:a<256)(hk:k<8):0<=shr .u8 (a:Int) k/\shr .u8 (a:Int) k<256:=cEc ⟨a,a6⟩ ⟨k,hk⟩
end Go.Dk
end
section
namespace Go.Dk
open Go Go.RowKit Go.Lib
section
variable {P:Program} {o:Oper} {n:Nat} {w w0:World} {L:List (Nat×Obj)} {R:List Row} {ρ:Operand->Value}
theorem cGq {s t e:TypeId}{x:Operand}(au:o.op=.convert s t x)(hs:P.underlying s=some (.slice e))(he:P.underlying e=some (.int .u8))(ht:P.underlying t=some .string)(hx:ρ x=.slice none 0 0):(execOp ρ o).run P w=.ok (.value (.string (bs []))) w:=by
 unfold execOp;rw [au];have aZ:bs []=ByteArray.empty:=B;rw [aZ];simp [hx,convert,run_underlying hs,run_underlying ht,run_underlying he,Conv.bytesToString]
theorem Y8 {s t e:TypeId}{x:Operand}{v:Value}{m:Nat}{l:List UInt8}(G:Cxr w0 w L (⟨5,1,v,m,l.map bv⟩::R))(au:o.op=.convert s t x)(hs:P.underlying s=some (.slice e))(he:P.underlying e=some (.int .u8))(ht:P.underlying t=some .string)(hx:ρ x=v):(execOp ρ o).run P w=.ok (.value (.string (bs l))) w:=by
 have cz:=G.rows _ (b9 ..);simp only at cz;have hm:m=l.length:=by have:=cz.1;simp at this;omega
 rcases tg m with ap | ap
 . have hl:l=[]:=p8 I
   subst hl;rcases cz.2 with ⟨rfl,h2⟩ | ⟨g,cap,cg,rfl,Y⟩
   ·exact cGq au hs he ht hx
   . have ar:=sY (P:=P) (w:=w) (ns:=[]) (m:=m) au hs he ht (b:=g) (off:=0) (c:=cap) (λj y ax=>by simp at ax) (by simp;omega) hx
     exact ar
 . obtain ⟨g,c,rfl,hr⟩:=G.bytes hm rfl ap
   have ar:=sY (P:=P) (w:=w) (ns:=l.map λx:UInt8=>(x.toNat:Int)) (m:=m) au hs he ht (by rw [List.map_map];exact hr) (by rw [fT];omega) hx;rw [CD] at ar;exact ar
end
end Go.Dk
end
section
namespace Go.Proofs.YthiafbkolhnadaaGreatDoor
open Go Go.Dk Go.RowKit Go.Lib
attribute [local irreducible] Go.wpList Go.Code.wp Go.bodyPost Go.wpStill Go.wpQuiet
theorem bX2:∃ i z,W.info? 5=some i/\i.zero=some z/\i.size=1/\i.bytes=1/\z.cells=[Value.int .u8 0].toArray:=by
 exact aAm
theorem YS (x:Nat)(h:x<256):IntKind.u8.wrap ((x:Nat):Int)=(((bM x).toNat:Nat):Int):=by
 rw [rU h,show (bM x).toNat=x from by simp [yo h]]
theorem bEc (r:Nat)(w0:World)(h:e7 r=true):Fc W 333 [J r] w0 (λv _=>v=.tuple #[M (dh r),J 0]):=by
 refine aI Tryz.func333 B Tryz.ntmps333 B ?_;have G:=Ctx.start w0;refine cK ?_;refine bG G (aI2 r _) Tryz.func192 B B B B B B ?_;intro Yn w G jg BP;obtain ⟨cP,rfl,BP⟩:=BP;refine ag ?_;refine cn B (λhD=>?_) (λhD=>?_)
 ·rw [BP,h] at hD;cases hD
 refine an ?_;refine bG G (aI3 r _) Tryz.func193 B B B B B B ?_;intro aUg w G pN y9;obtain ⟨cR3,rfl,y9⟩:=y9;obtain ⟨n,hn⟩:∃ n,n=s4 r:=⟨_,rfl⟩;rw [<- hn] at y9;subst y9;refine Aj ?_;refine aG ?_;refine Z (λe8=>?_) (λe8=>?_)
 ·refine ae ?_;have h1:n=1:=I;have Oc:r<128:=by unfold s4 at hn;split at hn;assumption;split at hn;omega;split at hn <;> omega
  have he:dh r=[bM r]:=by unfold dh;rw [O (by rw [h];decide),U Oc]
  refine S B B ((show (execOp _ _).run W _=.ok (.value (bv (bM r))) _ from (xR B B dq en).trans (by rw [YS r I];rfl))) ?_;refine qT ?_;intro sd w G No sD;replace G:=G.toRow (size:=1) (k:=1) B (by decide);refine S B B (Y8 (l:=[bM r]) (G.row_eq B B) B fk en aF B) ?_;refine S B B (av (v:=(M ([bM r]))) B B) ?_;refine ae ?_;refine dY Tryz.results333 B B ?_;exact ⟨G.ext,by rw [he];rfl⟩
 have h1:n≠1:=I;have rv:=bI4 h hn h1;have hr:=((nL r).1 h).1;refine an ?_;refine aVw (nn:=n) G fk bX2 B B B B B I FH ?_;intro P8 w G aOh bUp;obtain ⟨g0,rfl⟩:=bUp;refine aG ?_;refine S B B (av (v:=.int .i64 (((n:Nat):Int)-((1:Nat):Int))) B B) ?_;refine ag ?_;refine bu (λg f ah=>∃ (i Cx:Nat),g=i/\(i+1<=n)/\(Cx=r / 64^(n-1-i))/\f 0=J Cx/\f 6=J i/\f 5=.slice (some ⟨g0,0,none⟩) n n/\f 2=M []/\f 3=J 0/\f 4=J n/\Cxr w0 ah [] [⟨5,1,.slice (some ⟨g0,0,none⟩) n n,n,(pk (i+1) 0++vS r (n-1-i)).map bv⟩]) ((λ(i:Nat)=>i) (n-1)) ?_ ?_
 ·exact ⟨n-1,r,B,I,(by rw [show n-1-(n-1)=0 by omega,Nat.pow_zero,Nat.div_one]),aJ,aJ,B,B,B,B,(G.row_eq B (by rw [show n-1-(n-1)=0 by omega,show n-1+1=n by omega,vS,cH,List.map_replicate];rfl))⟩
 intro Ni f w ai;obtain ⟨i,Cx,Vi,hi,dH,aB,aL,bF,aE,aR,aM,G⟩:=ai;refine az ?_;refine Z (λjK=>?_) (λjK=>?_)
 ·refine bz ?_;refine Ax ?_;refine GD ?_;refine YA (v:=bv (bM (128+r / 64^(n-1-i)%64))) G B B B B (show Value.int _ _=_ from aD (Value.int .u8) (by rw [AN (by rw [dH];exact Nat.lt_of_le_of_lt (Nat.div_le_self _ _) I),Cp I,YS _ I,dH])) B (by rw [fT,aQ,SH];omega) mJ ?_;intro w G aOi;rw [show 0+dw (i:Int)*1=i by omega,<- List.map_set] at G;refine ae ?_;refine S B B ((show (execOp _ _).run W _=.ok (.value (J (Cx / 64))) _ from (Za B B B (by decide)).trans (by rw [show dw 6=6 from B,CB 6 (by decide)]))) ?_;refine S B B (av (v:=(J (Cx / 64))) B B) ?_;refine an ?_;refine aDu ?_;refine ab ?_;exact ⟨_,_,I,B,i-1,Cx / 64,B,I,(by rw [dH,Nat.div_div_eq_div_mul,show n-1-(i-1)=n-1-i+1 by omega,Nat.pow_succ]),aJ,aJ,bF,aE,aR,aM,(G.row_eq B (by rw [show i-1+1=i by omega,show n-1-(i-1)=n-1-i+1 by omega];exact aD (List.map bv) (cFm I _ B)))⟩
 refine ae ?_;have bTw:Cx=r / 64^(n-1):=by rw [dH,show n-1-i=n-1 by omega]
 refine ag ?_;refine Lk ?_;refine p0 ?_;refine ab ?_;refine He ?_;refine GD ?_;refine YA (v:=bv (bM (xy n+r / 64^(n-1)))) G B B B B (show Value.int _ _=_ from aD (Value.int .u8) (by rw [bTw,show dw (n:Int)=n from B,bW9 rv.2.1 rv.2.2.1 rv.2.2.2,YS _ (bW6 rv.2.2.2)])) B (by rw [fT,aQ,SH];omega) mJ ?_;intro w G aOi;rw [show 0+dw (0:Int)*1=0 by omega,<- List.map_set] at G;refine an ?_;have oV:i=0:=I;subst oV;replace G:Cxr w0 w [] [⟨5,1,.slice (some ⟨g0,0,none⟩) n n,n,(dh r).map bv⟩]:=G.row_eq B (by rw [rv.1];rfl);refine S B B (Y8 (l:=dh r) G B fk en aF B) ?_;refine S B B (av (v:=(M (dh r))) B B) ?_;refine ae ?_;refine dY Tryz.results333 B B ?_;exact gC
end Go.Proofs.YthiafbkolhnadaaGreatDoor
end
section
namespace Go.Proofs.YthiafbkolhnadaaGreatDoor
open Go Go.Dk Go.RowKit Go.Lib
variable {n m r k:Nat}{u:List UInt8}
theorem bH8 {b0 b1 b2 b3 cC a7 eL:Nat}(ap:b0<256)(h1:b1<256)(h2:b2<256)(Y:b3<256)(hn:iP n b0 b1 b2 b3≠0)(hm:iP n b0 b1 b2 b3<=m)
  (bm:1<iP n b0 b1 b2 b3->cC=b1) (aZ:2<iP n b0 b1 b2 b3->a7=b2) (gg:3<iP n b0 b1 b2 b3->eL=b3):iP m b0 cC a7 eL=iP n b0 b1 b2 b3:=by
 by_cases g1:b0<128
 ·rw [HP g1,HP g1]
 by_cases dt:b0<192\/248<=b0
 ·exact absurd (HT I dt ap) hn
 by_cases g3:b0<224
 . by_cases q:n<2\/b1 / 64≠2
   ·exact absurd (HU I g3 q) hn
   . have e:=HQ (n:=n) (b0:=b0) (b1:=b1) (b2:=b2) (b3:=b3) I g3 I I
     by_cases c:128<=b0%32*64+b1%64
     . rw [U c] at e
       rw [e] at hm bm ⊢;rw [bm I,HQ I g3 hm I,U c]
     ·rw [O c] at e;exact absurd e hn
 by_cases g4:b0<240
 . by_cases q:n<3\/b1 / 64≠2\/b2 / 64≠2
   ·exact absurd (HV I g4 q) hn
   . have e:=HR (n:=n) (b0:=b0) (b1:=b1) (b2:=b2) (b3:=b3) I g4 I I I
     split at e
     . rename_i c
       rw [e] at hm bm aZ ⊢;rw [bm I,aZ I,HR I g4 hm I I,U c]
     ·exact absurd e hn
 . by_cases q:n<4\/b1 / 64≠2\/b2 / 64≠2\/b3 / 64≠2
   ·exact absurd (HW I I q) hn
   . have e:=HS (n:=n) (b0:=b0) (b1:=b1) (b2:=b2) (b3:=b3) I I I I I I
     split at e
     . rename_i c
       rw [e] at hm bm aZ gg ⊢;rw [bm I,aZ I,gg I,HS I I hm I I I,U c]
     ·exact absurd e hn
theorem aXu {v:List UInt8}(h:dB v≠0)(hm:dB v<=m)(hl:m<=v.length):dB (v.take m)=dB v:=by
 unfold dB fB at *;have g:∀ j,j<m->aY (bs (v.take m)) j=aY (bs v) j:=λj ax=>by unfold aY;rw [tp,tp,sn _ _ _ ax]
 have bRc:0<m:=I;rw [show aY (bs (v.take m)) 0=aY (bs v) 0 from g 0 bRc];have aZ:(bs (v.take m)).size=m:=by rw [gI,dS];omega
 exact bH8 (i7 _ _) (i7 _ _) (i7 _ _) (i7 _ _) h (by rw [aZ];exact hm) (λax=>g _ I) (λax=>g _ I) (λax=>g _ I)
theorem aXn {v:List UInt8}(h:dB v≠0)(bt:v≠[]):validD (v.take (dB v))=true:=by
 have hl:=(us bt).1;have e:=aXu h (bV _) hl;have:=Qg (bs (v.take (dB v))) 0 (by rw [gI,dS];omega) (by show dB (v.take (dB v))≠0;rw [e];exact h);rw [tp,mS,gV] at this;rw [this,show fB (bs (v.take (dB v))) 0=dB v from e,AD vD]
 rfl
theorem Zd (a z:List UInt8)(h:validD a=true):validD (a++z)=validD z:=by
 have:=aXp (λb=>[b]) (λ_ _=>rfl) (λb hb x hx=>by simp at hx;rw [hx];exact hb) a.length a (bV _) h z;rwa [show a.flatMap (λb=>[b])=a by induction a with
  | nil=>rfl
  | cons x t ih=>simp [gE]] at this
theorem qQ(h:n<256):(bM n).toNat=n:=sW h
theorem cG8 {l:List UInt8}(h:dB l=l.length)(bt:l≠[]):validD l=true:=by
 have:=aXn (v:=l) (by rw [h];exact λe=>bt (List.length_eq_zero_iff.1 e)) bt;rw [h,nG] at this;exact this
theorem aXt(h:e7 r=true):dB (dh r)=(dh r).length/\dh r≠[]:=by
 have hr:=(nL r).1 h;unfold dh;rw [O (by rw [h];exact qR)];split
 ·exact ⟨cHh (by rw [qQ I];assumption),by simp⟩
 split
 . refine ⟨?_,by simp⟩
   have e0:(bM (192+r / 64)).toNat=192+r / 64:=qQ I;have bm:(bM (128+r%64)).toNat=128+r%64:=qQ I;show iP 2 (bM (192+r / 64)).toNat (bM (128+r%64)).toNat 0 0=2;rw [e0,bm,HQ I I I I,U I]
 split
 . refine ⟨?_,by simp⟩
   have e0:(bM (224+r / 4096)).toNat=224+r / 4096:=qQ I;have bm:(bM (128+r / 64%64)).toNat=128+r / 64%64:=qQ I;have aZ:(bM (128+r%64)).toNat=128+r%64:=qQ I;show iP 3 (bM (224+r / 4096)).toNat (bM (128+r / 64%64)).toNat (bM (128+r%64)).toNat 0=3;rw [e0,bm,aZ,HR I I I I I,U I]
 . refine ⟨?_,by simp⟩
   have e0:(bM (240+r / 262144)).toNat=240+r / 262144:=qQ I;have bm:(bM (128+r / 4096%64)).toNat=128+r / 4096%64:=qQ I;have aZ:(bM (128+r / 64%64)).toNat=128+r / 64%64:=qQ I;have gg:(bM (128+r%64)).toNat=128+r%64:=qQ I;show iP 4 (bM (240+r / 262144)).toNat (bM (128+r / 4096%64)).toNat (bM (128+r / 64%64)).toNat (bM (128+r%64)).toNat=4;rw [e0,bm,aZ,gg,HS I I I I I I,U I]
theorem MW (r:Nat):(dh r).length<=4:=by
 unfold dh
 repeat' split
 all_goals simp
theorem cG7(h:e7 r=true):validD (dh r)=true:=cG8 (aXt h).1 (aXt h).2
theorem Vd:∀ (k:Nat) (u:List UInt8) (n m:Nat),(kX k u n).1=0->k<=m->kX k (u.take m) n=kX k u n/\k<=u.length
 | 0,u,n,m,_,_=>by simp [kX]
 | k+1,[],n,m,h,_=>by simp [kX] at h
 | k+1,c::t,n,m,h,hm=>by
  cases m with
  | zero=>omega
  | succ m =>
   rw [jG];unfold kX at h ⊢
   cases hd:eO c with
   | none=>rw [hd] at h;simp at h
   | some d =>
    rw [hd] at h;have:=Vd k t (16*n+d) m h I;exact ⟨this.1,by simp only [cf];omega⟩
theorem Vb(h:(bJ u).1=0)(hm:4<=m):bJ (u.take m)=bJ u:=(Vd 4 u 0 m h hm).1
theorem aN6(h:(bJ u).1=0):4<=u.length:=(Vd 4 u 0 4 h (bV _)).2
theorem bJr {c:Nat}(h:kj c=some r):r<256/\r<128:=by
 unfold kj at h
 repeat' split at h
 all_goals first | cases h;omega | cases h
theorem H9(h:(bL u).1=0):e7 (bL u).2.1=true/\1<=(bL u).2.2/\(bL u).2.2<=u.length/\(bL u).2.1<4294967296:=by
 have qA:=Ex (u.drop 1);have aRk:=Ex (u.drop 7);unfold bL at h ⊢;by_cases ap:u=[]
 ·rw [U ap] at h;simp at h
 rw [O ap] at h ⊢;have kY:1<=u.length:=gF.2 ap;by_cases h1:(u.getD 0 0).toNat=117
 . rw [U h1] at h ⊢
   by_cases h2:(bJ (u.drop 1)).1≠0
   ·rw [U h2] at h;exact absurd h h2
   rw [O h2] at h ⊢;have oW:=aN6 (nB.1 h2);rw [bC] at oW;by_cases Y:(bJ (u.drop 1)).2<55296\/57343<(bJ (u.drop 1)).2
   . rw [U Y]
     exact QK
   rw [O Y] at h ⊢;by_cases ar:56319<(bJ (u.drop 1)).2
   ·rw [U ar] at h;simp at h
   rw [O ar] at h ⊢;by_cases bd:u.length<=5
   ·rw [U bd] at h;simp at h
   rw [O bd] at h ⊢;by_cases h6:(u.getD 5 0).toNat≠92
   ·rw [U h6] at h;simp at h
   rw [O h6] at h ⊢;by_cases h7:u.length<=6
   ·rw [U h7] at h;simp at h
   rw [O h7] at h ⊢;by_cases hq:(u.getD 6 0).toNat≠117
   ·rw [U hq] at h;simp at h
   rw [O hq] at h ⊢;by_cases j0:(bJ (u.drop 7)).1≠0
   ·rw [U j0] at h;exact absurd h j0
   rw [O j0] at h ⊢;have bQ1:=aN6 (nB.1 j0);rw [bC] at bQ1;by_cases jn:(bJ (u.drop 7)).2<56320\/57343<(bJ (u.drop 7)).2
   ·rw [U jn] at h;simp at h
   rw [O jn];exact QK
 . rw [O h1] at h ⊢
   cases he:kj (u.getD 0 0).toNat with
   | none=>rw [he] at h;simp at h
   | some r =>
    have:=bJr he;exact QK
theorem bJy(h:(bL u).1=0)(hm:(bL u).2.2<=m)(VI:m<=u.length):bL (u.take m)=bL u:=by
 have bRd:1<=m:=nI (H9 h).2.1 hm;unfold bL at h hm ⊢;by_cases ap:u=[]
 ·rw [U ap] at h;simp at h
 rw [O ap] at h hm ⊢;have kY:1<=u.length:=gF.2 ap;rw [O (show ¬ u.take m=[] by intro e;have:=aD eC e;rw [dS] at this;simp only [dC] at this;omega)];rw [sn u m 0 I];by_cases h1:(u.getD 0 0).toNat=117
 . rw [U h1] at h hm ⊢
   rw [U h1];by_cases h2:(bJ (u.drop 1)).1≠0
   ·rw [U h2] at h;exact absurd h h2
   rw [O h2] at h hm ⊢;have lD:(u.take m).drop 1=(u.drop 1).take (m-1):=by rw [yk]
   by_cases Y:(bJ (u.drop 1)).2<55296\/57343<(bJ (u.drop 1)).2
   . rw [U Y] at hm ⊢
     simp only at hm;rw [lD,Vb (nB.1 h2) I,O h2,U Y]
   rw [O Y] at h hm ⊢;by_cases ar:56319<(bJ (u.drop 1)).2
   ·rw [U ar] at h;simp at h
   rw [O ar] at h hm ⊢;by_cases bd:u.length<=5
   ·rw [U bd] at h;simp at h
   rw [O bd] at h hm ⊢;by_cases h6:(u.getD 5 0).toNat≠92
   ·rw [U h6] at h;simp at h
   rw [O h6] at h hm ⊢;by_cases h7:u.length<=6
   ·rw [U h7] at h;simp at h
   rw [O h7] at h hm ⊢;by_cases hq:(u.getD 6 0).toNat≠117
   ·rw [U hq] at h;simp at h
   rw [O hq] at h hm ⊢;by_cases j0:(bJ (u.drop 7)).1≠0
   ·rw [U j0] at h;exact absurd h j0
   rw [O j0] at h hm ⊢;by_cases jn:(bJ (u.drop 7)).2<56320\/57343<(bJ (u.drop 7)).2
   ·rw [U jn] at h;simp at h
   rw [O jn] at hm ⊢;simp only at hm;have bO1:(u.take m).drop 7=(u.drop 7).take (m-7):=by rw [yk]
   rw [lD,Vb (nB.1 h2) I,O h2,O Y,O ar,O vD,sn u m 5 I,O h6,O vD,sn u m 6 I,O hq,bO1,
    Vb (nB.1 j0) I,O j0,O jn]
 . rw [O h1] at h hm ⊢
   rw [O h1]
theorem cB4{N:Nat}(dr:N<=u.length){ul:Nat×List UInt8}{r:Nat×List UInt8×Nat}(h:Lp (fs (iY u)) ul r):r.1=0->r.2.2<=N->Lp (fs (iY (u.take N))) ul r/\ul.1<r.2.2:=by
 induction h with
 | @done s r h =>
  intro ap hn;unfold fs iY at h;by_cases cC:u.length<=s.1
  ·rw [U cC] at h;cases h;simp at ap
  rw [O cC] at h;by_cases a7:(u.getD s.1 0).toNat=34
  . rw [U a7] at h
    cases h;simp only at hn;refine ⟨.done ?_,by simp⟩;unfold fs iY;rw [O vD,sn u N s.1 I,U a7]
  exact aAq
 | @more s s' r h t ih =>
  intro ap hn;have ih:=ih ap hn;unfold fs iY at h;by_cases cC:u.length<=s.1
  ·rw [U cC] at h;cases h
  rw [O cC] at h;by_cases a7:(u.getD s.1 0).toNat=34
  ·rw [U a7] at h;cases h
  rw [O a7] at h;by_cases eL:(u.getD s.1 0).toNat=92
  . rw [U eL] at h
    split at h
    ·cases h
    . rename_i he
      cases h;simp only at ih;have cY:=H9 (nB.1 he);have e:bL ((u.take N).drop (s.1+1))=bL (u.drop (s.1+1)):=by
       rw [yk];exact bJy (nB.1 he) I jx
      refine ⟨.more ?_ ih.1,I⟩;unfold fs iY;rw [O vD,sn u N s.1 I,O a7,U eL,e,O he]
  rw [O eL] at h;split at h
  ·cases h
  . rename_i he
    cases h;simp only at ih;have bt:u.drop s.1≠[]:=by intro e;have:=aD eC e;rw [bC] at this;simp at this;omega
    have e:dB ((u.take N).drop s.1)=dB (u.drop s.1):=by
     rw [yk];exact aXu I I jx
    refine ⟨.more ?_ ih.1,I⟩;unfold fs iY;rw [O vD,sn u N s.1 I,O a7,O eL,e,O he,yk,List.take_take,yn I]
theorem cB2{ul:Nat×List UInt8}{r:Nat×List UInt8×Nat}(h:Lp (fs (iY u)) ul r):r.1=0->r.2.2<=u.length/\r.2.1.length+4*ul.1<=4*r.2.2+ul.2.length/\(validD ul.2=true->validD r.2.1=true)/\ul.1<r.2.2:=by
 induction h with
 | @done s r h =>
  intro ap;unfold fs iY at h;by_cases cC:u.length<=s.1
  ·rw [U cC] at h;cases h;simp at ap
  rw [O cC] at h;by_cases a7:(u.getD s.1 0).toNat=34
  . rw [U a7] at h
    cases h;exact ⟨by simp only;omega,by simp only;omega,id,by simp⟩
  exact aAq
 | @more s s' r h t ih =>
  intro ap;obtain ⟨pO,i2,i3,i4⟩:=ih ap;unfold fs iY at h;by_cases cC:u.length<=s.1
  ·rw [U cC] at h;cases h
  rw [O cC] at h;by_cases a7:(u.getD s.1 0).toNat=34
  ·rw [U a7] at h;cases h
  rw [O a7] at h;by_cases eL:(u.getD s.1 0).toNat=92
  . rw [U eL] at h
    split at h
    ·cases h
    . rename_i he
      cases h;have cY:=H9 (nB.1 he);have hl:=MW (bL (u.drop (s.1+1))).2.1
      dsimp only at i2 i4
      rw [aQ] at i2;exact ⟨pO,I,λhv=>i3 (by rw [Zd _ _ hv];exact cG7 cY.1),I⟩
  rw [O eL] at h;split at h
  ·cases h
  . rename_i he
    cases h;have bt:u.drop s.1≠[]:=by intro e;have:=aD eC e;rw [bC] at this;simp at this;omega
    have hw:=us bt
    dsimp only at i2 i4
    rw [aQ,dS] at i2;exact ⟨pO,I,λhv=>i3 (by rw [Zd _ _ hv];exact aXn I bt),I⟩
theorem Quo.len {o:List UInt8}(h:Quo u (0,o,n)):2<=n/\n<=u.length/\validD o=true/\o.length<=4*n:=by
 have:=cB2 h B;have h2:o.length+4*1<=4*n+0:=this.2.1;exact ⟨this.2.2.2,this.1,this.2.2.1 B,I⟩
theorem Quo.take {o:List UInt8}(h:Quo u (0,o,n)):Quo (u.take n) (0,o,n):=(cB4 h.len.2.1 h rfl (bV _)).1
theorem bG5{i:Nat}{r:Nat×Nat}(h:Lp (fs (mh u)) i r):r.1=0->i<=u.length->r.2<=u.length/\i<=r.2:=by
 induction h with
 | @done s r h =>
  intro ap hi;unfold fs mh at h;by_cases cC:u.length<=s
  . rw [U cC] at h
    split at h
    ·cases h;simp at ap
    ·cases h;exact ⟨hi,bV _⟩
  rw [O cC] at h;split at h
  ·cases h;exact ⟨hi,bV _⟩
  split at h
  ·rename_i hc;cases h;exact ⟨by simp only;omega,by simp⟩
  split at h
  ·cases h;simp at ap
  ·cases h
 | @more s s' r h t ih =>
  intro ap hi;unfold fs mh at h;by_cases cC:u.length<=s
  . rw [U cC] at h
    split at h <;> cases h
  rw [O cC] at h;split at h
  ·cases h
  split at h
  ·cases h
  split at h
  ·cases h
  . cases h
    have bt:u.drop s≠[]:=by intro e;have:=aD eC e;rw [bC] at this;simp at this;omega
    have hw:=(us bt).1;rw [bC] at hw;have:=ih ap I;exact ⟨this.1,I⟩
theorem Lex.len(h:Lex u 0 k n)(bt:u≠[]):1<=n/\n<=u.length/\1<=k/\k<=6:=by
 have hl:1<=u.length:=gF.2 bt;have hp:∀ (p:UInt8->Prop) [DecidablePred p],p (u.getD 0 0)->1<=pre p u/\pre p u<=u.length:=by
  intro p _ hc;refine ⟨?_,FL p u⟩
  cases u with
  | nil=>exact absurd rfl bt
  | cons c t =>
   rw [pre,U (by simpa using hc)];omega
 unfold Lex at h;split at h
 . rename_i hc
   obtain ⟨_,rfl,rfl⟩:=h;have:=hp ja hc;omega
 split at h
 ·omega
 split at h
 . split at h
   ·omega
   split at h
   ·omega
   ·omega
 split at h
 . obtain ⟨m,h1,h2,Y⟩:=h
   rw [U B] at h2 Y;subst h2 Y;unfold Com at h1;split at h1
   ·cases h1
   split at h1
   ·cases h1
   . have:=bG5 h1 B I
     simp only at this;omega
 split at h
 ·omega
 split at h
 . obtain ⟨o,m,h1,h2,Y⟩:=h
   rw [U B] at h2 Y;subst h2 Y;have:=h1.len;omega
 split at h
 . obtain ⟨o,m,h1,h2,Y⟩:=h
   rw [U B] at h2 Y;subst h2 Y;have:=h1.len;rw [bC] at this;omega
 split at h
 . rename_i hc
   obtain ⟨h1,h2,Y⟩:=h;rw [U B] at h2 Y;subst h2 Y;have:=hp jD hc;unfold gB at h1 ⊢;split
   ·simp only;omega
   . rw [O cj] at h1
     split at h1 <;> simp at h1
 ·omega
theorem Vc:∀ (k:Nat) (u:List UInt8) (n:Nat),(kX k u n).1=0\/(kX k u n).1=3\/(kX k u n).1=4
 | 0,u,n=>.inl rfl
 | k+1,[],n=>.inr (.inr rfl)
 | k+1,c::t,n=>by
  unfold kX
  cases eO c with
  | none=>exact .inr (.inl rfl)
  | some d=>exact Vc k t _
def Ge4 (r:Nat×Nat×Nat):Prop:=r.1=0\/r.1=3\/r.1=4\/r.1=5
theorem Ge4.ite {c:Prop} [Decidable c]{a b:Nat×Nat×Nat}(a6:Ge4 a)(hb:Ge4 b):Ge4 (if c then a else b):=by
 by_cases h:c
 ·rw [U h];exact a6
 ·rw [O h];exact hb
theorem bJv (u:List UInt8):(bL u).1=0\/(bL u).1=3\/(bL u).1=4\/(bL u).1=5:=by
 have h1:(bJ (u.drop 1)).1=0\/(bJ (u.drop 1)).1=3\/(bJ (u.drop 1)).1=4:=Vc 4 (u.drop 1) 0;have h7:(bJ (u.drop 7)).1=0\/(bJ (u.drop 7)).1=3\/(bJ (u.drop 7)).1=4:=Vc 4 (u.drop 7) 0;have g0:∀ a b,Ge4 (0,a,b):=λ_ _=>.inl B
 have g4:Ge4 (4,0,0):=.inr (.inr (.inl B));have fe:Ge4 (5,0,0):=.inr (.inr (.inr B));show Ge4 (bL u);unfold bL;refine .ite g4 (.ite (.ite (h1.imp id (Or.imp id .inl)) (.ite (g0 _ _) (.ite fe (.ite g4 (.ite fe (.ite g4 (.ite fe (.ite (h7.imp id (Or.imp id .inl)) (.ite fe (g0 _ _)))))))))) ?_)
 cases kj (u.getD 0 0).toNat with
 | some r=>exact g0 _ _
 | none=>exact .inr (.inl rfl)
theorem aU0{ul:Nat×List UInt8}{r:Nat×List UInt8×Nat}(h:Lp (fs (iY u)) ul r):r.1=0\/r.1=3\/r.1=4\/r.1=5:=by
 induction h with
 | @done s r h =>
  unfold fs iY at h;have:=bJv (u.drop (s.1+1))
  repeat' split at h
  all_goals first | (cases h;simp;done) | (cases h;simpa using this) | cases h
 | more _ _ ih=>exact ih
theorem bG4{i:Nat}{r:Nat×Nat}(h:Lp (fs (mh u)) i r):r.1=0\/r.1=3\/r.1=4\/r.1=5:=by
 induction h with
 | @done s r h =>
  unfold fs mh at h
  repeat' split at h
  all_goals first | (cases h;simp;done) | cases h
 | more _ _ ih=>exact ih
theorem bXc{e:Nat}(h:Lex u e k n):e=0\/e=3\/e=4\/e=5:=by
 unfold Lex at h;split at h
 ·omega
 split at h
 ·omega
 split at h
 . repeat' split at h
   all_goals omega
 split at h
 . obtain ⟨m,h1,_⟩:=h
   unfold Com at h1;split at h1
   ·cases h1;simp
   split at h1
   ·cases h1;simp
   ·exact bG4 h1
 split at h
 ·omega
 split at h
 . obtain ⟨o,m,h1,_⟩:=h
   exact aU0 h1
 split at h
 . obtain ⟨o,m,h1,_⟩:=h
   exact aU0 h1
 split at h
 . obtain ⟨h1,_⟩:=h
   rw [h1];have:∀ r,gB u=r->r.1=0\/r.1=3\/r.1=4\/r.1=5:=by
    intro r h;unfold gB at h
    repeat' split at h
    all_goals (subst h;simp)
   exact this _ B
 ·omega
theorem cFt {s:List UInt8}{a:Nat}{r:Nat×Nat×Nat×Nat}(h:Tok s a r):a<=s.length->(r.1≠0->r.2.1<=s.length/\r.2.2=(0,0))/\(r.1=0->a<=r.2.1/\r.2.1+r.2.2.2<=s.length/\(r.2.2.1=0->r.2.1=s.length/\r.2.2.2=0)/\(r.2.2.1≠0->4<=r.2.2.1/\r.2.1<s.length/\Lex (s.drop r.2.1) 0 r.2.2.1 r.2.2.2)):=by
 induction h with
 | @done a r h =>
  intro a6;unfold kz at h;split at h
  ·cases h;exact ⟨λh=>absurd B h,λ_=>⟨by simp only;omega,by simp,λ_=>⟨B,B⟩,λh=>absurd B h⟩⟩
  . obtain ⟨e,k,n,hl,hx⟩:=h
    split at hx
    . rename_i he
      cases hx;exact ⟨λ_=>⟨by simp only;split <;> omega,B⟩,λap=>absurd ap he⟩
    . rename_i he
      split at hx
      ·cases hx
      . cases hx
        have he:e=0:=nB.1 he;subst he;have bt:s.drop a≠[]:=by intro e;have:=aD eC e;rw [bC] at this;simp at this;omega
        have:=hl.len bt;rw [bC] at this;exact ⟨λh=>absurd B h,λ_=>⟨bV _,by simp only;omega,λh=>by simp only at h;omega,λ_=>⟨by simp only;omega,by simp only;omega,hl⟩⟩⟩
 | @more a eb r h t ih =>
  intro a6;unfold kz at h;split at h
  ·cases h
  . obtain ⟨e,k,n,hl,hx⟩:=h
    split at hx
    ·cases hx
    . rename_i he
      split at hx
      . cases hx
        have he:e=0:=nB.1 he;subst he;have bt:s.drop a≠[]:=by intro e;have:=aD eC e;rw [bC] at this;simp at this;omega
        have hb:=hl.len bt;rw [bC] at hb;obtain ⟨pO,i2⟩:=ih I;refine ⟨pO,λap=>?_⟩;obtain ⟨cRv,JK⟩:=i2 ap;exact ⟨I,JK⟩
      ·cases hx
theorem Tok.len {s:List UInt8}{p a:Nat}(h:Tok s p (0,a,k,n))(hp:p<=s.length):p<=a/\a+n<=s.length/\(k=0->a=s.length/\n=0)/\(k≠0->4<=k/\k<=6/\0<n/\Lex (s.drop a) 0 k n):=by
 obtain ⟨h1,h2,Y,ar⟩:=(cFt h hp).2 rfl;refine ⟨h1,h2,Y,λhk=>?_⟩;obtain ⟨g1,dt,g3⟩:=ar hk;have bt:s.drop a≠[]:=by intro e;have:=aD eC e;rw [bC] at this;simp at this;simp only at dt;omega
 have:=g3.len bt;exact ⟨g1,this.2.2.2,this.1,g3⟩
end Go.Proofs.YthiafbkolhnadaaGreatDoor
end
section
namespace Go.Proofs.YthiafbkolhnadaaGreatDoor
open Go Go.Dk Go.RowKit Go.Lib
attribute [local irreducible] Go.wpList Go.Code.wp Go.bodyPost Go.wpStill Go.wpQuiet
theorem bEb (s:List UInt8)(w0:World)(hs:s.length<=1073741824):Fc W 332 [M s] w0 (λv _=>∃ r n:Nat,v=.tuple #[J r,J n,J ((bL s).1)]/\((bL s).1=0->r=(bL s).2.1/\n=(bL s).2.2)):=by
 refine aI Tryz.func332 B Tryz.ntmps332 B ?_;have G:=Ctx.start w0;refine Dt ?_;refine kB ?_;refine jF ?_;refine jj ?_;refine eR ?_;refine Al ?_;refine eA ?_;refine Z (λco=>?_) (λco=>?_)
 ·refine Dx ?_;have e:bL s=(4,0,0):=by
   unfold bL;rw [U co]
  exact QE
 have kY:0<s.length:=gF.2 co;refine Hf ?_;refine eR ?_;refine Am ?_;refine l5 ?_;refine Z (λef=>?_) (λef=>?_)
 ·have aPe:¬ (s.getD 0 0).toNat=117:=I;refine jj ?_;refine eR ?_;refine Am ?_;refine bG G (bD7 (s.getD 0 0) _) Tryz.func329 B B B B B B ?_;intro cBh w G Ou V0;obtain ⟨aRw,rfl,aOo⟩:=V0;refine S B B (av (v:=.int .i64 (aRw)) B B) ?_;refine Dy ?_;refine l5 ?_;refine Z (λct=>?_) (λct=>?_)
  ·obtain ⟨j,ax,cOb,Vq⟩:∃ j:Nat,aRw=j/\j<8/\kj (s.getD 0 0).toNat=some (([34,92,47,8,12,10,13,9]:List UInt8).getD j 0).toNat:=by
    rcases aOo with ⟨h,_⟩ | h
    ·omega
    ·exact h
   subst ax;refine eR ?_;refine S B B (dm (s:=[34,92,47,8,12,10,13,9]) (i:=j) B B B aF (by simp only [cf,dC];omega)) ?_;refine Rv ?_;refine S B B (av (v:=(J ((([34,92,47,8,12,10,13,9]:List UInt8).getD j 0).toNat))) B B) ?_;refine pe ?_;refine GG ?_;have e:bL s=(0,(([34,92,47,8,12,10,13,9]:List UInt8).getD j 0).toNat,1):=by
    unfold bL;rw [O co,O aPe,Vq]
   exact ⟨G.ext,(([34,92,47,8,12,10,13,9]:List UInt8).getD j 0).toNat,1,zO (e:=0) (show (bL s).1=0 by rw [e]) B B B,λh=>by rw [e] at h ⊢;exact ⟨B,B⟩⟩
  have Vq:kj (s.getD 0 0).toNat=none:=by
   rcases aOo with ⟨_,h⟩ | ⟨j,h,_⟩
   ·exact h
   ·omega
  refine iZ ?_;refine Dx ?_;have e:bL s=(3,0,0):=by
   unfold bL;rw [O co,O aPe,Vq]
  exact ⟨G.ext,0,0,zO (e:=3) (show (bL s).1=3 by rw [e]) B B B,λh=>by rw [e] at h ⊢;exact absurd h Pv⟩
 have aP:(s.getD 0 0).toNat=117:=I;have qA:=Ex (s.drop 1);have aRk:=Ex (s.drop 7);refine iZ ?_;refine eR ?_;refine Rw ?_;refine bo G (aJr (s.drop 1) _ cR) Tryz.func377 B B B B B B ?_;intro w G zk;refine p5 ?_;refine S B B (av (v:=(J ((bJ (s.drop 1)).2))) B B) ?_;refine S B B (av (v:=(J ((bJ (s.drop 1)).1))) B B) ?_;refine ya ?_;refine l7 ?_;refine yb ?_;refine eW ?_;refine yb ?_;refine eA ?_;refine Z (λpG=>?_) (λpG=>?_)
 ·refine eR ?_;refine eW ?_;refine S B B (av (v:=(J ((bJ (s.drop 1)).2))) B B) ?_;refine kB ?_;refine S B B (av (v:=(J ((bJ (s.drop 1)).1))) B B) ?_;refine yc ?_;refine GG ?_;by_cases ap:(bJ (s.drop 1)).1=0
  . have e:bL s=(0,(bJ (s.drop 1)).2,5):=by
      unfold bL;rw [O co,U aP,O (λh=>h ap),U I]
    exact ⟨G.ext,(bJ (s.drop 1)).2,5,zO (show (bL s).1=(bJ (s.drop 1)).1 by rw [e,ap]) B B B,λ_=>by rw [e];exact ⟨B,B⟩⟩
  . have e:bL s=((bJ (s.drop 1)).1,0,0):=by
      unfold bL;rw [O co,U aP,U ap]
    exact ⟨G.ext,(bJ (s.drop 1)).2,5,zO (show (bL s).1=(bJ (s.drop 1)).1 by rw [e]) B B B,λh=>absurd (by rw [e] at h;exact h) ap⟩
 have jn:(bJ (s.drop 1)).1=0:=I;have Y:¬ ((bJ (s.drop 1)).2<55296\/57343<(bJ (s.drop 1)).2):=I;refine Hf ?_;refine eR ?_;refine l5 ?_;refine Z (λkV=>?_) (λkV=>?_)
 ·refine Dx ?_;have e:bL s=(5,0,0):=by
   unfold bL;rw [O co,U aP,O (λh=>h jn),O Y,U I]
  exact KT
 have ar:¬ 56319<(bJ (s.drop 1)).2:=I;refine iZ ?_;refine nF ?_;refine Ri ?_;intro SW w G Ix aQ2;refine cDj G fk en B B B B ?_;intro w G;refine S B B (hJ B B fk) ?_;refine Dz ?_;refine bu (λg f ah=>∃ (j:Nat),g=2-j/\((j=0\/j=1/\5<s.length/\(s.getD 5 0).toNat=92\/j=2/\6<s.length/\(s.getD 5 0).toNat=92/\(s.getD 6 0).toNat=117))/\f 47=J j/\f 0=M s/\f 6=J ((bJ (s.drop 1)).2)/\f 7=J ((bJ (s.drop 1)).1)/\f 45=.slice (some ⟨SW,0,none⟩) 2 2/\f 46=J 2/\Cxr w0 ah [(SW,.cells #[.int .u8 92,.int .u8 117] 5 (2,3))] []) ((λ(j:Nat)=>2-j) 0) ?_ ?_
 ·exact ⟨0,B,.inl B,aJ,B,B,B,B,B,G⟩
 intro Ej f w ai;obtain ⟨j,cMs,vh,Of,aB,aL,aS,aP7,aP8,G⟩:=ai;refine dR ?_;refine S B B (gQ B Of aP8 B) ?_;refine p4 ?_;refine Z (λgq=>?_) (λgq=>?_)
 ·refine DA ?_;refine dR ?_;refine S B B (cU B Of) ?_;obtain ⟨HI,bOu,ND⟩:∃ HI:UInt8,(#[(.int .u8 92:Value),.int .u8 117]:Array Value).toList[0+dw ((j:Nat):Int)*1]?=some (.int .u8 ((HI.toNat:Nat):Int))/\(j=0->HI.toNat=92)/\(j=1->HI.toNat=117):=by
   rcases vh with rfl | ⟨rfl,_⟩ | ⟨rfl,_⟩
   ·exact ⟨92,B,λ_=>rfl,λh=>I⟩
   ·exact ⟨117,B,λh=>I,λ_=>rfl⟩
   ·omega
  refine S B B (cT fk mJ B aP7 Of I I) ?_;refine S B B (br B B en B (G.cell 0 B bOu)) ?_;refine Ry ?_;refine S B B (av (v:=.int .u8 ((HI.toNat:Nat):Int)) B B) ?_;refine ya ?_;refine oy ?_;refine uG ?_;refine l5 ?_;refine Z (λnQ=>?_) (λnQ=>?_)
  ·refine Dx ?_;rcases vh with rfl | ⟨rfl,g1,dt⟩ | ⟨rfl,_⟩
   ·have e:bL s=(4,0,0):=by
     unfold bL;rw [O co,U aP,O (λh=>h jn),O Y,O ar,U I]
    exact QE
   ·have e:bL s=(4,0,0):=by
     unfold bL;rw [O co,U aP,O (λh=>h jn),O Y,O ar,O I,O I,U I]
    exact QE
   ·omega
  refine tb ?_;refine wl ?_;refine p6 ?_;refine S B B (dm (s:=s) (i:=5+j) B B B aF I) ?_;refine eW ?_;refine l5 ?_;refine Z (λnR=>?_) (λnR=>?_)
  ·refine Dx ?_;rcases vh with rfl | ⟨rfl,g1,dt⟩ | ⟨rfl,_⟩
   . have:=ND.1 B
     simp only [Nat.reduceAdd] at nR;have e:bL s=(5,0,0):=by
      unfold bL;rw [O co,U aP,O (λh=>h jn),O Y,O ar,O I,U I]
     exact KT
   . have:=ND.2 B
     simp only [Nat.reduceAdd] at nR;have e:bL s=(5,0,0):=by
      unfold bL;rw [O co,U aP,O (λh=>h jn),O Y,O ar,O I,O I,O I,U I]
     exact KT
   ·omega
  refine yd ?_;refine S B B (rX B Of B I I) ?_;refine SD ?_;exact ⟨_,_,I,B,j+1,B,by
   rcases vh with rfl | ⟨rfl,g1,dt⟩ | ⟨rfl,_⟩
   ·have:=ND.1 B;simp only [Nat.reduceAdd] at nR;omega
   ·have:=ND.2 B;simp only [Nat.reduceAdd] at nR;omega
   ·omega,aJ,aB,aL,aS,aP7,aP8,G⟩
 have bd:6<s.length/\(s.getD 5 0).toNat=92/\(s.getD 6 0).toNat=117:=by
  rcases vh with rfl | ⟨rfl,_⟩ | ⟨rfl,h⟩
  ·omega
  ·omega
  ·exact h
 refine Aw ?_;refine wl ?_;refine S B B (ka (s:=s) (i:=7) B B B aF I) ?_;refine bo G (aJr (s.drop 7) _ cR) Tryz.func377 B B B B B B ?_;intro w G aQ8;refine p5 ?_;refine S B B (av (v:=(J ((bJ (s.drop 7)).2))) B B) ?_;refine S B B (av (v:=(J ((bJ (s.drop 7)).1))) B B) ?_;refine Ay ?_;refine Z (λnh=>?_) (λnh=>?_)
 ·refine eR ?_;refine kB ?_;refine kB ?_;refine S B B (av (v:=(J ((bJ (s.drop 7)).1))) B B) ?_;refine yc ?_;refine GG ?_;have e:bL s=((bJ (s.drop 7)).1,0,0):=by
   unfold bL;rw [O co,U aP,O (λh=>h jn),O Y,O ar,O I,O I,O I,O I,U I]
  exact ⟨G.ext,0,0,zO (e:=(bJ (s.drop 7)).1) (show (bL s).1=(bJ (s.drop 7)).1 by rw [e]) B B B,λh=>by rw [e] at h ⊢;exact absurd h Pv⟩
 have aMv:(bJ (s.drop 7)).1=0:=I;refine Hf ?_;refine eR ?_;refine l7 ?_;refine yb ?_;refine eA ?_;refine Z (λIE=>?_) (λIE=>?_)
 ·refine Dx ?_;have e:bL s=(5,0,0):=by
   unfold bL;rw [O co,U aP,O (λh=>h jn),O Y,O ar,O I,O I,O I,O I,O (λh=>h aMv),U I]
  exact KT
 refine tb ?_;refine qW ?_;refine Lm ?_;refine S B B (KE B B B I I) ?_;refine oy ?_;refine p6 ?_;refine Lm ?_;refine kB ?_;refine pe ?_;refine GG ?_;have e:bL s=(0,65536+((bJ (s.drop 1)).2-55296)*1024+(bJ (s.drop 7)).2-56320,11):=by
  unfold bL;rw [O co,U aP,O (λh=>h jn),O Y,O ar,O I,O I,O I,O I,O (λh=>h aMv),O I]
 exact ⟨G.ext,65536+((bJ (s.drop 1)).2-55296)*1024+(bJ (s.drop 7)).2-56320,11,zO (e:=0) (show (bL s).1=0 by rw [e]) (aD (Value.int .i64) I) B B,λ_=>by rw [e];exact ⟨B,B⟩⟩
theorem Ti (s:List UInt8)(w0:World)(hs:s.length<=1073741824)(h1:1<=s.length):Fc W 264 [.string (bs s)] w0 (λv _=>∃ (e n:Nat) (o:List UInt8),v=.tuple #[.string (bs o),.int .i64 ((n:Nat):Int),.int .i64 ((e:Nat):Int)]/\Quo s (e,o,n)/\n<=s.length):=by
 refine aI Tryz.func264 B Tryz.ntmps264 B ?_;have G:=Ctx.start w0;refine Dt ?_;refine kB ?_;refine DB ?_;refine jF ?_;refine nF ?_;refine jF ?_;refine ox ?_;refine bu (λg f ah=>∃ (i:Nat) (et:List UInt8) (k1:Value),g=s.length-i/\(i<=s.length)/\(1<=i)/\(et.length<=4*i)/\(∀ r,Lp (fs (iY s)) (i,et) r->Quo s r)/\f 6=J i/\f 5=k1/\f 0=M s/\Cxr w0 ah [] [⟨5,1,k1,et.length,et.map bv⟩]) ((λ(i:Nat)=>s.length-i) 1) ?_ ?_
 ·exact ⟨1,[],_,B,h1,bV _,bU _,λr h=>h,aJ,B,B,G.nilRow 5 1⟩
 intro gJ f w ai;obtain ⟨i,et,k1,qp,hi,rz,au,aw,aL,bF,aB,G⟩:=ai;refine nF ?_;refine qW ?_;refine uG ?_;refine l5 ?_;refine Z (λhB=>?_) (λhB=>?_)
 ·refine iZ ?_;refine ox ?_;refine DC ?_;refine qW ?_;refine uE ?_;refine Ru ?_;refine eA ?_;refine ox ?_;refine eR ?_;refine pf ?_;refine Z (λiT=>?_) (λiT=>?_)
  ·refine dR ?_;refine C9 ?_;refine aDv ?_;refine qW ?_;refine oy ?_;refine S B B (av (v:=(M et)) B B) ?_;refine Gw ?_;refine qY ?_;refine Ln ?_;exact ⟨G.ext,0,i+1,et,B,aw _ (.done (by
    unfold fs iY;rw [O jU,U jU])),I⟩
  refine eR ?_;refine pf ?_;refine Z (λu9=>?_) (λu9=>?_)
  ·refine DC ?_;refine qW ?_;refine oy ?_;refine S B B (ka (s:=s) (i:=i+1) B B B aF I) ?_;refine bG G (bEb (s.drop (i+1)) _ cR) Tryz.func332 B B B B B B ?_;intro cBv w G WV Wb;obtain ⟨A7,T1,rfl,bPh⟩:=Wb;refine p5 ?_;refine Ao ?_;refine S B B (av (v:=(J A7)) B B) ?_;refine S B B (av (v:=(J T1)) B B) ?_;refine aDw ?_;refine Ay ?_;refine Z (λva=>?_) (λva=>?_)
   ·refine eR ?_;refine kB ?_;refine kB ?_;refine aDw ?_;refine yc ?_;refine Ln ?_;exact ⟨G.ext,_,0,[],B,aw _ (.done (by
     unfold fs iY;rw [O jU,O jU,U jU,U jU])),I⟩
   refine tb ?_;obtain ⟨NE,ic⟩:=bPh I;have cY:=H9 (u:=s.drop (i+1)) I;have ds:e7 A7=true:=by rw [NE];exact cY.1
   rw [bC] at cY;have tL:=MW A7;refine eW ?_;refine bG G (bEc A7 _ ds) Tryz.func333 B B B B B B ?_;intro cS2 w G bU8 bSm;subst bSm;refine p5 ?_;refine S B B (av (v:=(M (dh A7))) B B) ?_;refine mQ ?_;refine uH ?_;refine C9 ?_;refine eW ?_;refine Kq (l:=dh A7) G D8 fk aF B B B B B I ?_;intro aXa w G cNy;refine jF ?_;refine nE ?_;refine qW ?_;refine p6 ?_;refine oy ?_;refine S B B (av (v:=(J (i+(1+T1)))) B B) ?_;refine eA ?_;exact ⟨_,_,I,B,i+(1+T1),et++dh A7,_,B,I,I,by rw [aQ];omega,λr h=>aw r (.more (by
    unfold fs iY;rw [O jU,O jU,U jU,O jU]) (by rw [NE,ic,show i+(1+(bL (s.drop (i+1))).2.2)=i+1+(bL (s.drop (i+1))).2.2 by omega] at h;exact h)),aJ,B,aB,(G.row_eq (by simp) (by simp))⟩
  refine DC ?_;refine qW ?_;have bt:s.drop i≠[]:=by intro e;have:=aD eC e;rw [bC] at this;simp only [dC] at this;omega
  have hw:=us bt;rw [bC] at hw;have k0:(sub s i (dB (s.drop i))).length=dB (s.drop i):=qN I;refine Rk ?_;intro Kj w G tX vp;obtain ⟨cTf,vp⟩:=vp;rw [xN] at vp;subst vp;refine p5 ?_;refine kB ?_;refine Lo ?_;refine ya ?_;refine l7 ?_;refine yb ?_;refine eA ?_;refine Z (λml=>?_) (λml=>?_)
  ·refine Mg ?_;refine Ln ?_;exact ⟨G.ext,5,0,[],B,aw _ (.done (by
    unfold fs iY;rw [O jU,O jU,O jU,U jU])),I⟩
  refine tb ?_;refine C9 ?_;refine wl ?_;refine qW ?_;refine qW ?_;refine p6 ?_;refine S B B (ur (s:=s) (i:=i) (n:=(dB (s.drop i))) B B B B aF I) ?_;refine Kq (l:=sub s i (dB (s.drop i))) G D8 fk aF B B B B B I ?_;intro cUc w G cNj;refine jF ?_;refine nE ?_;refine qW ?_;refine p6 ?_;refine Lq ?_;refine eA ?_;exact ⟨_,_,I,B,i+dB (s.drop i),et++sub s i (dB (s.drop i)),_,B,I,I,by rw [aQ];omega,λr h=>aw r (.more (by
   unfold fs iY;rw [O jU,O jU,O jU,O jU]
   rfl) h),aJ,rfl,aB,(G.row_eq (by simp) (by simp))⟩
 refine wp_exit ?_;refine Mg ?_;refine Ln ?_;exact ⟨G.ext,4,0,[],B,aw _ (.done (by
  unfold fs iY;rw [U jU])),I⟩
theorem bD6 (s:List UInt8)(w0:World)(hs:s.length<=1073741824)(h1:1<=s.length):Fc W 328 [M s] w0 (λv _=>∃ e n:Nat,v=.tuple #[J n,J e]/\Com s (e,n)):=by
 refine aI Tryz.func328 B Tryz.ntmps328 B ?_;have G:=Ctx.start w0;refine i6 ?_;refine Z (λhD=>?_) (λhD=>?_)
 ·refine az ?_;refine Ar ?_;exact ⟨G.ext,4,0,B,by unfold Com;rw [U I]⟩
 refine aq ?_;refine GH ?_;refine ae ?_;refine aDx ?_;refine ae ?_;refine Z (λhQ=>?_) (λhQ=>?_)
 ·refine az ?_;refine Ar ?_;exact ⟨G.ext,3,0,B,by unfold Com;rw [O I,U I]⟩
 refine aG ?_;refine bu (λg f ah=>∃ (i:Nat),g=s.length-i/\(i<=s.length)/\(2<=i)/\(∀ r,Lp (fs (mh s)) i r->Lp (fs (mh s)) 2 r)/\f 4=J i/\f 0=M s/\Cxr w0 ah [] []) ((λ(i:Nat)=>s.length-i) 2) ?_ ?_
 ·exact ⟨2,B,I,bV _,λr h=>h,aJ,B,G⟩
 intro Nh f w ai;obtain ⟨i,aOe,hi,rz,aw,aM,aB,G⟩:=ai;refine bz ?_;refine Z (λdG=>?_) (λdG=>?_)
 ·refine aG ?_;refine GH ?_;refine an ?_;refine Gy ?_;refine an ?_;refine aN B B B a8 (λhc=>ka (s:=s) (i:=i) B ay ay aF eJ) ?_;refine hg G B B B a8 (λhc=>aJn (s.drop i) 13 10 13 10 _ cR B B) AH B B B (λhc=>(aX ay (aX B B))) ?_;intro w G aQz;refine an ?_;refine Z (λjJ=>?_) (λjJ=>?_)
  ·simp only [du,bC,gb] at jJ;refine ae ?_;refine mR ?_;refine ae ?_;refine Ar ?_;exact ⟨G.ext,0,i,B,by unfold Com;rw [O I,O I];exact aw _ (.done (by
    unfold fs mh;rw [O I,U I]))⟩
  simp only [du,bC,gb] at jJ;refine ae ?_;refine GH ?_;refine an ?_;refine aN B B B aO (λhc=>ka (s:=s) (i:=i) B ay ay aF eJ) ?_;refine hg G B B B aO (λhc=>aJn (s.drop i) 42 47 42 47 _ cR B B) AH B B B (λhc=>(aX ay (aX B B))) ?_;intro w G Fa;refine ae ?_;refine Z (λpG=>?_) (λpG=>?_)
  ·simp only [du,bC,gb] at pG;refine an ?_;refine S B B (av (v:=(J (i+2))) B B) ?_;refine ae ?_;refine Ar ?_;exact ⟨G.ext,0,i+2,B,by unfold Com;rw [O I,O I];exact aw _ (.done (by
    unfold fs mh;rw [O I,O I,U I]))⟩
  simp only [du,bC,gb] at pG;refine aq ?_;have bt:s.drop i≠[]:=by intro e;have:=aD eC e;rw [bC] at this;simp only [dC] at this;omega
  have hw:=us bt;rw [bC] at hw;refine Rk ?_;intro aUq w G Jy tT;obtain ⟨cTh,tT⟩:=tT;rw [xN] at tT;subst tT;refine an ?_;refine Lo ?_;refine aG ?_;refine Z (λjq=>?_) (λjq=>?_)
  ·refine az ?_;refine Ar ?_;exact ⟨G.ext,5,0,B,by unfold Com;rw [O I,O I];exact aw _ (.done (by
    unfold fs mh;rw [O I,O I,O I,U I]))⟩
  refine aq ?_;refine Lq ?_;refine ab ?_;exact ⟨_,_,I,B,i+dB (s.drop i),B,I,I,λr h=>aw r (.more (by
   unfold fs mh;rw [O I,O I,O I,O I]) h),aJ,aB,G⟩
 refine aq ?_;refine GH ?_;refine ag ?_;refine Z (λsr=>?_) (λsr=>?_)
 ·refine az ?_;refine Ar ?_;exact ⟨G.ext,4,0,B,by unfold Com;rw [O I,O I];exact aw _ (.done (by
   unfold fs mh;rw [U I,U I]))⟩
 refine aq ?_;refine S B B (av (v:=(J s.length)) B B) ?_;refine ae ?_;refine Ar ?_;obtain rfl:i=s.length:=I;exact ⟨G.ext,0,s.length,B,by unfold Com;rw [O I,O I];exact aw _ (.done (by
  unfold fs mh;rw [U I,O I]))⟩
theorem og:(W.info? 150).map (·.size)=some 3:=by kernel_rfl
theorem bKu:bY W 150 0 0:=b5 (tt:=3) Tryz.underlying150 rfl bN rfl
theorem bKv:bY W 150 1 1:=b5 (tt:=9) Tryz.underlying150 rfl gA rfl
theorem bKw:bY W 150 2 2:=b5 (tt:=3) Tryz.underlying150 rfl bN rfl
theorem cH7:Zero W 150 [.int .i64 0,.string ByteArray.empty,.int .i64 0]:=ji (v:=.agg #[.int .i64 0,.string ByteArray.empty,.int .i64 0]) ac rfl
theorem bEa (s:List UInt8)(w0:World)(hs:s.length<=1000000):Fc W 331 [M s] w0 (λv _=>v=.tuple #[J ((gB s).2),J ((gB s).1)]):=by
 refine aI Tryz.func331 B Tryz.ntmps331 B ?_;have G:=Ctx.start w0;refine gp ?_;refine bu (λg f ah=>∃ (i:Nat),g=s.length-i/\(i<=s.length)/\(∀ j,j<i->jD (s.getD j 0))/\f 4=J i/\f 0=M s/\f 2=J 0/\f 3=J 0/\Cxr w0 ah [] []) ((λ(i:Nat)=>s.length-i) 0) ?_ ?_
 ·exact ⟨0,B,bU _,λj h=>I,aJ,B,B,B,G⟩
 intro h8 f w ai;obtain ⟨i,ni,hi,hb,aM,aB,aE,aR,G⟩:=ai;refine Dw ?_;refine hg G B B B aO (λhc=>aJj (s.getD i 0) _) Tryz.func330 B B B (λhc=>(aX ay B)) ?_;intro w G oX;refine ag ?_;refine Z (λef=>?_) (λef=>?_)
 ·refine yj ?_;exact ⟨_,_,I,B,i+1,B,I,λj ax=>by by_cases e:j=i;(subst e;exact ef.2);exact hb j I,aJ,aB,aE,aR,G⟩
 have hp:pre jD s=i:=ob jD s i hi hb (by
  rcases ef with h | h
  ·exact .inl I
  ·exact .inr h)
 have vt:(s.take i).length=i:=by rw [dS];omega
 refine az ?_;refine S B B (xS (s:=s) (i:=i) B B B aF I) ?_;refine S B B (av (v:=(M (s.take i))) B B) ?_;refine aq ?_;refine bo G (Tj (s.take i) _ cR) Tryz.func268 B B B B B B ?_;intro w G zj;refine ag ?_;refine hg G B B B a8 (λhc=>Tb (s.take i) _ cR) Tryz.func185 B B B (λhc=>(aX ay B)) ?_;intro w G E8;refine ae ?_;refine Z (λdG=>?_) (λdG=>?_)
 ·refine ae ?_;refine mR ?_;refine ae ?_;refine dY Tryz.results331 B B ?_;exact ⟨G.ext,Kw (n:=(gB s).2) (e:=0) (by unfold gB;rw [U (by rw [hp];exact dG)]) (show Value.int .i64 (i:Int)=_ by unfold gB;rw [U (by rw [hp];exact dG),hp]) B⟩
 refine bz ?_;refine aN B B B aO (λhc=>iJ (a:=s.take i) (b:=[48]) B ay B FK) ?_;refine hg G B B B aO (λhc=>Tj ((s.take i)++([48])) _ cR) Tryz.func268 B B B (λhc=>(aX ay B)) ?_;intro w G Oy;refine ae ?_;refine Z (λgY=>?_) (λgY=>?_)
 ·refine az ?_;refine dY Tryz.results331 B B ?_;have hw:gB s=(4,0):=by unfold gB;rw [hp,O (λh=>by rcases h with h | h;exact dG.1 h;exact dG.2 h),U ⟨I,gY.2⟩]
  exact ⟨G.ext,Kw (n:=(gB s).2) (e:=4) (by rw [hw]) (show Value.int .i64 0=_ by rw [hw];rfl) B⟩
 refine aG ?_;refine dY Tryz.results331 B B ?_;have hw:gB s=(3,0):=by unfold gB;rw [hp,O (λh=>by rcases h with h | h;exact dG.1 h;exact dG.2 h),O (λh=>by rcases gY with h2 | h2;omega;exact h2 h.2)]
 exact ⟨G.ext,Kw (n:=(gB s).2) (e:=3) (by rw [hw]) (show Value.int .i64 0=_ by rw [hw];rfl) B⟩
theorem bD5 (s:List UInt8)(w0:World)(hs:s.length<=1000000)(h1:1<=s.length):Fc W 327 [M s] w0 (λv _=>∃ e n:Nat,v=.tuple #[J n,J e]/\(if (s.getD 0 0).toNat=10 then e=0/\n=1 else if s.length<=1 then e=4/\n=0 else if (s.getD 1 0).toNat=10 then e=0/\n=2 else e=3/\n=0)):=by
 refine aI Tryz.func327 B Tryz.ntmps327 B ?_;have G:=Ctx.start w0;refine cF ?_;refine Am ?_;refine ae ?_;refine Z (λhR=>?_) (λhR=>?_)
 ·refine az ?_;refine Lr ?_;exact ⟨G.ext,0,1,B,by rw [U I];exact ⟨B,B⟩⟩
 refine aG ?_;refine Z (λfm=>?_) (λfm=>?_)
 ·refine az ?_;refine Lr ?_;exact ⟨G.ext,4,0,B,by rw [O I,U I];exact ⟨B,B⟩⟩
 refine ae ?_;refine GH ?_;refine ae ?_;refine Z (λco=>?_) (λco=>?_)
 ·refine az ?_;refine Lr ?_;exact ⟨G.ext,3,0,B,by rw [O I,O I,O I];exact ⟨B,B⟩⟩
 refine aG ?_;refine Lr ?_;exact ⟨G.ext,0,2,B,by rw [O I,O I,U I];exact ⟨B,B⟩⟩
theorem bDd (s:List UInt8)(w0:World)(hs:s.length<=1000000)(h1:1<=s.length):Fc W 260 [M s] w0 (λv _=>∃ e k n l1 jS:Nat,v=.tuple #[J l1,J jS,J e]/\Lex s e k n/\(e=0->l1=k/\jS=n)):=by
 refine aI Tryz.func260 B Tryz.ntmps260 B ?_;have G:=Ctx.start w0;refine cK ?_;refine Am ?_;refine S B B (av (v:=.int .u8 (((s.getD 0 0).toNat:Nat):Int)) B B) ?_;refine kf ?_;refine Z (λdG=>?_) (λdG=>?_)
 ·refine az ?_;refine bu (λg f ah=>∃ (i:Nat),g=s.length-i/\(i<=s.length)/\(∀ j,j<i->ja (s.getD j 0))/\f 6=J i/\f 0=M s/\f 2=J 0/\f 3=J 0/\f 4=J 0/\f 5=.int .u8 (((s.getD 0 0).toNat:Nat):Int)/\Cxr w0 ah [] []) ((λ(i:Nat)=>s.length-i) 1) ?_ ?_
  ·exact ⟨1,B,h1,by intro j h;cases Nat.lt_one_iff.1 h;unfold ja;omega,aJ,B,B,B,B,B,G⟩
  intro pC f w ai;obtain ⟨i,EA,hi,hb,aL,aB,aE,aR,aM,bF,G⟩:=ai;refine Dw ?_;refine an ?_;refine GI ?_;refine an ?_;refine Z (λkV=>?_) (λkV=>?_)
  ·refine yj ?_;exact ⟨_,_,I,B,i+1,B,I,λj ax=>by by_cases e:j=i;(subst e;unfold ja;omega);exact hb j I,aJ,aB,aE,aR,aM,bF,G⟩
  have hp:pre ja s=i:=ob ja s i hi hb (by
   by_cases h:i=s.length
   ·exact .inl h
   ·exact .inr uh)
  have u4:ja (s.getD 0 0):=by unfold ja;omega
  refine aq ?_;refine mR ?_;refine ae ?_;refine x3 ?_;exact ⟨G.ext,0,1,i,1,i,B,by unfold Lex;rw [U u4];exact ⟨B,B,hp.symm⟩,λ_=>⟨B,B⟩⟩
 refine cF ?_;refine Z (λpI=>?_) (λpI=>?_)
 ·refine ae ?_;refine bG G (bD5 s _ cR cR) Tryz.func327 B B B B B B ?_;intro cSx w G bU4 bSj;obtain ⟨bIj,bYa,rfl,vj⟩:=bSj;refine ae ?_;refine aHe ?_;refine az ?_;refine aHe ?_;refine ag ?_;refine x3 ?_;by_cases jn:(s.getD 0 0).toNat=10
  . rw [U jn] at vj
    obtain ⟨rfl,rfl⟩:=vj;exact ⟨G.ext,0,2,1,2,1,B,by unfold Lex;rw [O uh,U jn];exact ⟨B,B,B⟩,λ_=>⟨B,B⟩⟩
  . rw [O jn] at vj
    by_cases oW:s.length<=1
    . rw [U oW] at vj
      obtain ⟨rfl,rfl⟩:=vj;exact ⟨G.ext,4,0,0,2,0,B,by unfold Lex;rw [O uh,O jn,U I,U oW];exact ⟨B,B,B⟩,λh=>by cases h⟩
    . rw [O oW] at vj
      by_cases aK:(s.getD 1 0).toNat=10
      . rw [U aK] at vj
        obtain ⟨rfl,rfl⟩:=vj;exact ⟨G.ext,0,2,2,2,2,B,by unfold Lex;rw [O uh,O jn,U I,O oW,U aK];exact ⟨B,B,B⟩,λ_=>⟨B,B⟩⟩
      . rw [O aK] at vj
        obtain ⟨rfl,rfl⟩:=vj;exact ⟨G.ext,3,0,0,2,0,B,by unfold Lex;rw [O uh,O jn,U I,O oW,O aK];exact ⟨B,B,B⟩,λh=>by cases h⟩
 refine az ?_;refine Z (λrq=>?_) (λrq=>?_)
 ·refine ae ?_;refine bG G (bD6 s _ cR cR) Tryz.func328 B B B B B B ?_;intro cS1 w G bU7 bSl;obtain ⟨MU,Pc,rfl,bTc⟩:=bSl;refine ae ?_;refine aHf ?_;refine az ?_;refine aHf ?_;refine ag ?_;refine x3 ?_;exact ⟨G.ext,MU,(if MU=0 then 3 else 0),(if MU=0 then Pc else 0),3,Pc,B,by unfold Lex;rw [O uh,O I,O I,U I];exact ⟨Pc,bTc,B,B⟩,by intro h;rw [U h,U h];exact ⟨B,B⟩⟩
 refine ae ?_;refine bG G (bD8 (s.getD 0 0) _) Tryz.func329 B B B B B B ?_;intro cBx w G W0 Wg;obtain ⟨cRx,rfl,IT⟩:=Wg;refine ae ?_;refine Z (λnh=>?_) (λnh=>?_)
 ·refine aG ?_;refine x3 ?_;exact ⟨G.ext,0,4,1,4,1,B,by unfold Lex;rw [O uh,O I,O I,O I,U (IT.1 nh)];exact ⟨B,B,B⟩,by exact λ_=>⟨B,B⟩⟩
 refine az ?_;refine Z (λtG=>?_) (λtG=>?_)
 ·refine ae ?_;refine bG G (Ti s _ cR cR) Tryz.func264 B B B B B B ?_;intro cBz w G aRa Wi;obtain ⟨H0,zw,aTq,rfl,bTd,cPh⟩:=Wi;refine an ?_;refine S B B (av (v:=(M aTq)) B B) ?_;refine S B B (av (v:=(J zw)) B B) ?_;refine Rz ?_;refine az ?_;refine S B B (av (v:=(J zw)) B B) ?_;refine Rz ?_;refine ag ?_;refine x3 ?_;exact ⟨G.ext,H0,(if H0=0 then 5 else 0),(if H0=0 then zw else 0),5,zw,B,by unfold Lex;rw [O uh,O I,O I,O I,O (λh=>by have:=IT.2 h;omega),U I];exact ⟨aTq,zw,bTd,B,B⟩,by intro h;rw [U h,U h];exact ⟨B,B⟩⟩
 refine oC ?_;refine aDx ?_;refine an ?_;refine Z (λwZ=>?_) (λwZ=>?_)
 ·refine ae ?_;refine Rw ?_;refine bG G (Ti (s.drop 1) _ cR cR) Tryz.func264 B B B B B B ?_;intro cSk w G cP8 bR3;obtain ⟨HX,J1,aTh,rfl,bS3,bTh⟩:=bR3;refine an ?_;refine S B B (av (v:=(M aTh)) B B) ?_;refine S B B (av (v:=(J J1)) B B) ?_;refine S B B (av (v:=(J HX)) B B) ?_;refine an ?_;rw [bC] at bTh;refine ae ?_;refine S B B (av (v:=(J (J1+1))) B B) ?_;refine S B B (av (v:=(J HX)) B B) ?_;refine ag ?_;refine x3 ?_;exact ⟨G.ext,HX,(if HX=0 then 5 else 0),(if HX=0 then (J1+1) else 0),5,(J1+1),B,by unfold Lex;rw [O uh,O I,O I,O I,O (λh=>by have:=IT.2 h;omega),O I,U I];exact ⟨aTh,J1,bS3,B,B⟩,by intro h;rw [U h,U h];exact ⟨B,B⟩⟩
 refine ae ?_;refine bo G (aJj (s.getD 0 0) _) Tryz.func330 B B B B B B ?_;intro w G cQb;refine ag ?_;refine Z (λUN=>?_) (λUN=>?_)
 ·refine ae ?_;refine bo G (bEa s _ cR) Tryz.func331 B B B B B B ?_;intro w G bUv;refine ae ?_;refine aHb ?_;refine az ?_;refine aHb ?_;refine ag ?_;refine x3 ?_;exact ⟨G.ext,(gB s).1,(if (gB s).1=0 then 6 else 0),(if (gB s).1=0 then (gB s).2 else 0),6,(gB s).2,B,by unfold Lex;rw [O uh,O I,O I,O I,O (λh=>by have:=IT.2 h;omega),O I,O I,U UN];exact ⟨B,B,B⟩,by intro h;rw [U h,U h];exact ⟨B,B⟩⟩
 refine bz ?_;refine x3 ?_;exact ⟨G.ext,3,0,0,0,0,B,by unfold Lex;rw [O uh,O I,O I,O I,O (λh=>by have:=IT.2 h;omega),O I,O I,O UN];exact ⟨B,B,B⟩,by exact λh=>by cases h⟩
theorem bAb  (w:World):(Instr.build 150 ([]:List (Nat×Value)).toArray).run W w=.ok (.agg #[J 0,M [],J 0]) w:=by
 go_simp
 try rfl
theorem aH7 (bj:Nat)(bg:List UInt8)(b4:Nat)(w:World):(Instr.build 150 ([(0,(J bj)),(1,(M bg)),(2,(J b4))]:List (Nat×Value)).toArray).run W w=.ok (.agg #[J bj,M bg,J b4]) w:=by
 go_simp
 try rfl
theorem bCh (s:List UInt8)(a:Nat)(w0:World)(hs:s.length<=1000000)(a6:a<=s.length):Fc W 181 [M s,J a] w0 (λv _=>∃ (e k n eP:Nat) (tt:List UInt8) (cI:Nat),v=.tuple #[.agg #[J eP,M tt,J cI],J e]/\(e=0->eP=k/\tt=sub s a n/\cI=a)/\((a=s.length/\e=7)\/(a<s.length/\Lex (s.drop a) e k n))):=by
 refine aI Tryz.func181 B Tryz.ntmps181 B ?_;have G:=Ctx.start w0;refine ag ?_;refine ov ?_;intro bp w G gW gN;refine kD ?_;refine Z (λc8=>?_) (λc8=>?_)
 ·exfalso;omega
 refine cK ?_;refine Z (λdG=>?_) (λdG=>?_)
 ·refine ag ?_;refine GJ ?_;refine pY ?_;intro w G hG;refine ae ?_;refine RA ?_;exact ⟨G.ext,7,0,0,0,[],0,B,(λh=>absurd h (by decide)),.inl ⟨I,B⟩⟩
 have b8:a<s.length:=I;have kW:(s.drop a).length=s.length-a:=bC;refine aq ?_;refine S B B (ka (s:=s) (i:=a) B B B aF I) ?_;refine bG G (bDd (s.drop a) _ cR cR) Tryz.func260 B B B B B B ?_;intro Yk w G zk Jd;obtain ⟨MT,bWt,n27,OR,O9,rfl,Xh,bQh⟩:=Jd;refine an ?_;refine S B B (av (v:=(J OR)) B B) ?_;refine S B B (av (v:=(J O9)) B B) ?_;refine S B B (av (v:=(J MT)) B B) ?_;refine aG ?_;refine Z (λje=>?_) (λje=>?_)
 ·refine ag ?_;refine GJ ?_;refine ab ?_;refine pY ?_;intro w G iD;refine S B B (av (v:=(J MT)) B B) ?_;refine ag ?_;refine RA ?_;exact ⟨G.ext,MT,bWt,n27,0,[],0,B,(λh=>absurd h I),.inr ⟨b8,Xh⟩⟩
 have e0:MT=0:=I;obtain ⟨eI,fy⟩:=bQh e0;subst e0 eI fy;have lG:=(Xh.len (by intro e;rw [e] at kW;simp only [dC] at kW;omega)).2.1;refine cK ?_;refine S B B (ur (s:=s) (i:=a) (n:=O9) B B B B aF I) ?_;refine ab ?_;refine S B B (cd (qs:=[(0,(J OR)),(1,(M (sub s a O9))),(2,(J a))]) (aH7 _ _ _) B B) ?_;refine pY ?_;intro w G qy;refine ae ?_;refine RA ?_;exact ⟨G.ext,0,OR,O9,OR,_,a,B,(λ_=>⟨B,B,B⟩),.inr ⟨b8,Xh⟩⟩
theorem Tc (s:List UInt8)(w0:World)(hs:s.length<=1000000):Fc W 186 [M s] w0 (λv _=>∃ (e:Nat) (o:List UInt8),v=.tuple #[M o,J e]/\(∀ k m,(s.getD 0 0).toNat=34->Quo s (0,k,m)->m=s.length->e=0/\o=k)/\o.length<=4*s.length):=by
 refine aI Tryz.func186 B Tryz.ntmps186 B ?_;have G:=Ctx.start w0;refine cK ?_;refine Al ?_;refine ab ?_;refine Z (λfm=>?_) (λfm=>?_)
 ·refine az ?_;refine GK ?_;exact aBj
 have kY:1<=s.length:=gF.2 fm;refine aq ?_;refine Am ?_;refine ag ?_;refine Z (λfW=>?_) (λfW=>?_)
 ·refine az ?_;refine GK ?_;exact aB2
 refine an ?_;refine bG G (Ti s _ cR cR) Tryz.func264 B B B B B B ?_;intro aUh w G oX Ja;obtain ⟨yB,zt,Pm,rfl,pL,cPg⟩:=Ja;refine an ?_;refine Ls ?_;refine S B B (av (v:=(J zt)) B B) ?_;refine GL ?_;refine aG ?_;refine Z (λeH=>?_) (λeH=>?_)
 ·refine an ?_;refine GL ?_;refine ag ?_;refine GK ?_;exact ⟨G.ext,yB,[],B,(λk m eG h hm=>by cases h.det pL;exact absurd B I),bU _⟩
 refine cK ?_;refine Z (λiS=>?_) (λiS=>?_)
 ·refine az ?_;refine GK ?_;exact ⟨G.ext,3,[],B,(λk m eG h hm=>by cases h.det pL;omega),bU _⟩
 refine an ?_;refine Ls ?_;refine ae ?_;refine GK ?_;exact ⟨G.ext,0,Pm,B,(λk m eG h hm=>by cases h.det pL;exact ⟨B,B⟩),(by have e0:yB=0:=I;rw [e0] at pL;have:=pL.len;omega)⟩
end Go.Proofs.YthiafbkolhnadaaGreatDoor
end
section
namespace Go.Dk
open Go Go.RowKit Go.Lib
variable {w:World}{L:List (Nat×Obj)}{R:List Row}
def BCx (T:TypeId)(aA w:World)(b:Nat)(L:List (Nat×Obj))(R:List Row)(l:List UInt8):Prop :=
 ∃ a v,Cxr aA w ((b,.cells ([a,v]:List Value).toArray T)::L) (⟨5,1,v,l.length,l.map bv⟩::R)/\(a=.pointer none\/a=.pointer (some ⟨b,0,none⟩))
theorem BCx.call {T:TypeId}{aA w':World}{b:Nat}{l:List UInt8}(h:BCx T aA w b L R l)(hb:Below w.heap.size w w'):BCx T aA w' b L R l:=by
 obtain ⟨a,v,G,a6⟩:=h;exact ⟨a,v,G.call hb,a6⟩
theorem BCx.eq {T:TypeId}{aA:World}{b:Nat}{l iE:List UInt8}(h:BCx T aA w b L R l)(e:l=iE):BCx T aA w b L R iE:=e▸h
theorem Cxr.oneS {w0:World}{e k n:Nat}{v:Value}{xs:List Value}(h:Cxr w0 w L (⟨e,k,v,n,xs⟩::R)):v.oneCell'=true:=by
 have cz:=h.rows _ (b9 ..);simp only at cz;rcases cz.2 with ⟨rfl,_⟩ | ⟨g,cap,cg,rfl,_⟩ <;> rfl
section
variable {P:Program} {o:Oper} {w:World} {ρ:Operand->Value}
theorem aXg {t ee e:TypeId}{x y:Operand}{a:Option Addr}(aP:P.underlying t=some (.pointer e))(h:∀ w,(binOp .eql t (.pointer a) (.pointer none)).run P w=.ok (.bool a.isNone) w)(au:o.op=.binOp .eql t x y ee)(hx:ρ x=.pointer a)(hy:ρ y=.pointer none):(execOp ρ o).run P w=.ok (.value (.bool a.isNone)) w:=by
 unfold execOp;rw [au];simp [hx,hy,eqGuard,h w]
theorem cG4 {t ee e:TypeId}{j:TypeInfo}{x y:Operand}{a:Addr}(hp:P.underlying t=some (.pointer e))(bUg:P.info? e=some j)(au:o.op=.binOp .neq t x y ee)(hx:ρ x=.pointer (some a))(hy:ρ y=.pointer (some a)):(execOp ρ o).run P w=.ok (.value (.bool false)) w:=by
 unfold execOp;rw [au];have h:=Lib.run_neq_ptr_same (P:=P) w a hp bUg;simp [hx,hy,eqGuard,h]
theorem aXd {s t:TypeId}{x:Operand}{v u:Value}(h:(convert s t v).run P w=.ok u w)(au:o.op=.convert s t x)(hx:ρ x=v):(execOp ρ o).run P w=.ok (.value u) w:=by
 unfold execOp;rw [au];simp [hx,h]
theorem cGt {k:Nat}{x:Operand}{gd:Array TypeId}{v u:Value}(h:∀ w,(callFunc k #[v]).run P w=.ok (.value u) w)(au:o.op=.call { callee:=.value (.func k),args:=#[x],argTypes:=gd })(hx:ρ x=v)(hf:ρ (.func k)=.func (.func k) #[] #[]):(execOp ρ o).run P w=.ok (.value u) w:=by
 unfold execOp;rw [au];simp [resolve,hx,hf,Deferred.ofValue,invoke,h w]
end
end Go.Dk
end
section
namespace Go.Dk
open Go Go.RowKit Go.Lib
variable {w w0:World}{v:Value}{n e k t u:Nat}{xs cs:List Value}{R:List Row}{L:List (Nat×Obj)}
structure Sc where
 kind:Int
 b:Bool
 neg:Bool
 dig:ByteArray
 exp:Int
 tk:Int
 td:Int
 tn:Int
 tz:Int
 text:ByteArray
inductive V where
 | mk (s:Sc) (bytes:List UInt8) (list:List V) (fields:List (ByteArray×V))
def V.sc:V->Sc | .mk s _ _ _=>s
def V.bytes:V->List UInt8 | .mk _ b _ _=>b
def V.list:V->List V | .mk _ _ l _=>l
def V.fields:V->List (ByteArray×V) | .mk _ _ _ f=>f
def vrow (s:Sc)(bs ls fs:Value):List Value :=
 [.int .i64 s.kind,.bool s.b,.bool s.neg,.string s.dig,.int .i64 s.exp,.int .i64 s.tk,.int .i64 s.td,.int .i64 s.tn,.int .i64 s.tz,.string s.text,bs,ls,fs]
def SlR (w:World)(v:Value)(n:Nat)(xs:List Value):Prop:=∃ b,SliceAt (λb=>b<w.heap.size) v n b 0/\(0<n->RowAt w b 0 xs)
theorem SlR.up {w':World}(h:Below w.heap.size w w')(hp:SlR w v n xs):SlR w' v n xs:=by
 obtain ⟨b,hs,hr⟩:=hp;exact ⟨b,hs.mono λ_ hb=>Nat.lt_of_lt_of_le hb h.size,λap=>(hr ap).up h⟩
theorem SlR.form(h:SlR w v n xs):∃ a c b,v=.slice a n c/\(0<n->a=some ⟨b,0,none⟩/\RowAt w b 0 xs):=by
 obtain ⟨b,hs,hr⟩:=h;obtain ⟨a,c,rfl,a6⟩:=hs.form;exact ⟨a,c,b,B,λap=>⟨a6 ap,hr ap⟩⟩
def fcells:List ByteArray->List (List Value)->List Value
 | k::ks,cs::css=>.string k::cs++fcells ks css
 | _,_=>[]
inductive Vw (w:World):V->List Value->Prop where
 | mk (s:Sc) (bytes:List UInt8) (list:List V) (fields:List (ByteArray×V)) (bs ls fs:Value) (css fss:List (List Value))
  (hb:SlR w bs bytes.length (bytes.map bv))
  (hl:SlR w ls list.length css.flatten) (hlc:css.length=list.length) (hlv:∀ (i:Nat) (v:V) (cs:List Value),list[i]?=some v->css[i]?=some cs->Vw w v cs)
  (hf:SlR w fs fields.length (fcells (fields.map (·.1)) fss)) (hfc:fss.length=fields.length) (hfv:∀ (i:Nat) (kv:ByteArray×V) (cs:List Value),fields[i]?=some kv->fss[i]?=some cs->Vw w kv.2 cs) :
  Vw w (.mk s bytes list fields) (vrow s bs ls fs)
theorem Vw.up {w':World}(h:Below w.heap.size w w'){v:V}(hv:Vw w v cs):Vw w' v cs:=by
 induction hv with
 | mk s bytes list fields bs ls fs css fss hb hl hlc hlv hf hfc hfv JH n7=>exact .mk s bytes list fields bs ls fs css fss (hb.up h) (hl.up h) hlc JH (hf.up h) hfc n7
theorem Vw.len{v:V}(h:Vw w v cs):cs.length=13:=by
 cases h;rfl
def LR (R:List Row)(e k:Nat)(v:Value)(n:Nat)(xs:List Value):Prop:=(n=0/\v=.slice none 0 0)\/(⟨e,k,v,n,xs⟩:Row)∈R
theorem LR.mono {gH:List Row}(h:∀ r∈R,r∈gH)(hl:LR R e k v n xs):LR gH e k v n xs:=hl.imp id (h _)
theorem LR.slr(G:Cxr w0 w L R)(hl:LR R e k v n xs)(hk:0<k):SlR w v n xs:=by
 rcases hl with ⟨h1,h2⟩ | h
 ·exact ⟨0,.inl ⟨h1,h2⟩,λh=>I⟩
 . have h1:=G.oneR h
   obtain ⟨b,hs,hr⟩:=h1.rowA;refine ⟨b,hs,λap=>hr ?_⟩;have h2:=(h1.rows _ (b9 ..)).1;simp only at h2;rw [h2];exact Nat.mul_pos ap hk
theorem LR.one(G:Cxr w0 w L R)(hl:LR R e k v n xs):v.oneCell'=true:=by
 rcases hl with ⟨_,rfl⟩ | h
 ·rfl
 ·exact (G.oneR h).oneS
inductive RR (t u:Nat) (R:List Row):V->List Value->Prop where
 | mk (s:Sc) (bytes:List UInt8) (list:List V) (fields:List (ByteArray×V)) (bs ls fs:Value) (css fss:List (List Value))
  (hb:LR R 5 1 bs bytes.length (bytes.map bv))
  (hl:LR R t 13 ls list.length css.flatten) (hlc:css.length=list.length) (hlv:∀ (i:Nat) (v:V) (cs:List Value),list[i]?=some v->css[i]?=some cs->RR t u R v cs)
  (hf:LR R u 14 fs fields.length (fcells (fields.map (·.1)) fss)) (hfc:fss.length=fields.length) (hfv:∀ (i:Nat) (kv:ByteArray×V) (cs:List Value),fields[i]?=some kv->fss[i]?=some cs->RR t u R kv.2 cs) :
  RR t u R (.mk s bytes list fields) (vrow s bs ls fs)
theorem RR.mono{gH:List Row}(h:∀ r∈R,r∈gH){v:V}(hv:RR t u R v cs):RR t u gH v cs:=by
 induction hv with
 | mk s bytes list fields bs ls fs css fss hb hl hlc hlv hf hfc hfv JH n7=>exact .mk s bytes list fields bs ls fs css fss (hb.mono h) (hl.mono h) hlc JH (hf.mono h) hfc n7
theorem RR.vw(G:Cxr w0 w L R){v:V}(hv:RR t u R v cs):Vw w v cs:=by
 induction hv with
 | mk s bytes list fields bs ls fs css fss hb hl hlc hlv hf hfc hfv JH n7=>exact .mk s bytes list fields bs ls fs css fss (hb.slr G I) (hl.slr G I) hlc JH (hf.slr G I) hfc n7
theorem RR.len{v:V}(h:RR t u R v cs):cs.length=13:=by
 cases h;rfl
theorem RR.form(G:Cxr w0 w L R){v:V}(h:RR t u R v cs):∃ bs ls fs,cs=vrow v.sc bs ls fs/\bs.oneCell'=true/\ls.oneCell'=true/\fs.oneCell'=true:=by
 cases h with
 | mk s bytes list fields bs ls fs css fss hb hl hlc hlv hf hfc hfv=>exact ⟨bs,ls,fs,rfl,hb.one G,hl.one G,hf.one G⟩
theorem aMb:∀ (ks:List ByteArray) (css:List (List Value)) (k:ByteArray) (cs:List Value),ks.length=css.length->fcells (ks++[k]) (css++[cs])=fcells ks css++(.string k::cs)
 | [],[],k,cs,_=>by simp [fcells]
 | q::ks,c::css,k,cs,h=>by
  simp only [gT,fcells,aMb ks css k cs ku,eB]
 | [],_::_,_,_,h=>by simp at h
 | _::_,[],_,_,h=>by simp at h
theorem mM {s:Sc}{bs ls fs:Value}(h1:bs.oneCell'=true)(h2:ls.oneCell'=true)(Y:fs.oneCell'=true):(vrow s bs ls fs).all (·.oneCell')=true:=by
 rw [p7];intro v hv;simp only [vrow,eX,mT,or_false] at hv;rcases hv with rfl | rfl | rfl | rfl | rfl | rfl | rfl | rfl | rfl | rfl | rfl | rfl | rfl <;> first | rfl | assumption
theorem Uo:∀ (css:List (List Value)) (i j:Nat) (cs:List Value) (x:Value),(∀ c∈css,c.length=13)->css[i]?=some cs->cs[j]?=some x->css.flatten[i*13+j]?=some x
 | [],i,j,cs,x,_,h,_=>by simp at h
 | c::css,0,j,cs,x,hl,h,hx=>by
  simp only [AE,kS] at h;subst h;have ax:=(bT.1 hx).1;rw [pi,show 0*13+j=j by omega,l9 ax];exact hx
 | c::css,i+1,j,cs,x,hl,h,hx=>by
  rw [pi,pj (by rw [hl c (by simp)];omega),hl c (by simp),show (i+1)*13+j-13=i*13+j by omega];exact Uo css i j cs x (λc hc=>hl c (by simp [hc])) ku hx
theorem Uj:∀ (ks:List ByteArray) (css:List (List Value)) (i:Nat) (k:ByteArray) (cs:List Value),(∀ c∈css,c.length=13)->ks[i]?=some k->css[i]?=some cs->∀ j x,(Value.string k::cs)[j]?=some x->(fcells ks css)[i*14+j]?=some x
 | [],_,i,k,cs,_,h,_,_,_,_=>by simp at h
 | _::_,[],i,k,cs,_,_,h,_,_,_=>by simp at h
 | q::ks,c::css,0,k,cs,hl,h,h2,j,x,hx=>by
  simp only [AE,kS] at h h2;subst h h2;have ax:=(bT.1 hx).1;simp only [fcells];rw [show 0*14+j=j by omega,l9 ax];exact hx
 | q::ks,c::css,i+1,k,cs,hl,h,h2,j,x,hx=>by
  simp only [fcells];rw [pj (by rw [cf,hl c (by simp)];omega),cf,hl c (by simp),show (i+1)*14+j-(13+1)=i*14+j by omega];exact Uj ks css i k cs (λc hc=>hl c (by simp [hc])) ku (by simpa using h2) j x hx
theorem Vw.lens{list:List V}{css:List (List Value)}(hlc:css.length=list.length)(hlv:∀ (i:Nat) (v:V) (cs:List Value),list[i]?=some v->css[i]?=some cs->Vw w v cs):∀ c∈css,c.length=13:=by
 intro c hc;obtain ⟨i,hi⟩:=jX hc;have b8:=(bT.1 hi).1;exact (hlv i list[i] c (bS I) hi).len
end Go.Dk
namespace Go.Dk
open Go Go.RowKit Go.Lib
theorem RowAt.one {w:World}{b i:Nat}{xs:List Value}{x:Value}(h:RowAt w b 0 xs)(hx:xs[i]?=some x):RowAt w b (0+i*1) [x]:=by
 intro j y hy
 cases j with
 | zero =>
  simp only [AE,kS] at hy;subst hy;have:=h i x hx;rwa [show 0+i*1+0=0+i by omega]
 | succ j=>simp at hy
theorem cCr {w0 w:World}{L:List (Nat×Obj)}{R:List Row}{g n c i:Nat}{l:List UInt8}(G:Cxr w0 w L (⟨5,1,.slice (some ⟨g,0,none⟩) n c,n,l.map bv⟩::R))(hi:i<l.length):RowAt w g (0+i*1) [bv (l.getD i 0)]:=by
 obtain ⟨Eh,c',he,_,_,hr⟩:=G.rowS (by simp;omega);cases he;exact hr.one (by rw [eF,getD_some hi];rfl)
end Go.Dk
end
section
namespace Go.Dk
open Go Go.RowKit Go.Lib Go.Proofs.YthiafbkolhnadaaGreatDoor
variable {w:World}{t:T}{cs:List Value}{R:List Row}{l:List T}{css:List (List Value)}
def nrow (k:Nat)(a b:List UInt8)(kv:Value)(c:List UInt8):List Value:=[.int .i64 ((k:Nat):Int),.string (bs a),.string (bs b),kv,.string (bs c)]
inductive NR (R:List Row):T->List Value->Prop where
 | mk (k:Nat) (a b:List UInt8) (ks:List T) (c:List UInt8) (kv:Value) (css:List (List Value)) (hl:LR R 72 5 kv ks.length css.flatten) (hc:css.length=ks.length)
  (hv:∀ (i:Nat) (t:T) (cs:List Value),ks[i]?=some t->css[i]?=some cs->NR R t cs):NR R (.mk k a b ks c) (nrow k a b kv c)
inductive Nw (w:World):T->List Value->Prop where
 | mk (k:Nat) (a b:List UInt8) (ks:List T) (c:List UInt8) (kv:Value) (css:List (List Value)) (hl:SlR w kv ks.length css.flatten) (hc:css.length=ks.length)
  (hv:∀ (i:Nat) (t:T) (cs:List Value),ks[i]?=some t->css[i]?=some cs->Nw w t cs):Nw w (.mk k a b ks c) (nrow k a b kv c)
theorem Nw.up {w':World}(h:Below w.heap.size w w')(hv:Nw w t cs):Nw w' t cs:=by
 induction hv with
 | mk k a b ks c kv css hl hc hv ih=>exact .mk k a b ks c kv css (hl.up h) hc ih
theorem NR.mono {gH:List Row}(h:∀ r∈R,r∈gH)(hv:NR R t cs):NR gH t cs:=by
 induction hv with
 | mk k a b ks c kv css hl hc hv ih=>exact .mk k a b ks c kv css (hl.mono h) hc ih
theorem NR.vw {w0:World}{L:List (Nat×Obj)}(G:Cxr w0 w L R)(hv:NR R t cs):Nw w t cs:=by
 induction hv with
 | mk k a b ks c kv css hl hc hv ih=>exact .mk k a b ks c kv css (hl.slr G (by decide)) hc ih
theorem NR.len(h:NR R t cs):cs.length=5:=by cases h;rfl
theorem Nw.len(h:Nw w t cs):cs.length=5:=by cases h;rfl
theorem NR.form {w0:World}{L:List (Nat×Obj)}(G:Cxr w0 w L R)(h:NR R t cs):∃ a n c,cs=nrow t.kind t.lead t.text (.slice a n c) t.tail:=by
 cases h with
 | mk k a b ks c kv css hl hc hv =>
  obtain ⟨ad,bHb,_,e,_⟩:=(hl.slr G (by decide)).form;exact ⟨ad,_,bHb,by rw [e];rfl⟩
theorem NR.leaf (R:List Row)(k:Nat)(a b c:List UInt8):NR R (.mk k a b [] c) (nrow k a b (.slice none 0 0) c):=.mk k a b [] c _ [] (.inl ⟨rfl,rfl⟩) rfl (λi t cs h=>by simp at h)
structure NL (R:List Row) (l:List T) (css:List (List Value)):Prop where
 hc:css.length=l.length
 hv:∀ (i:Nat) (t:T) (cs:List Value),l[i]?=some t->css[i]?=some cs->NR R t cs
theorem NL.nil (R:List Row):NL R [] []:=⟨rfl,λi t cs h=>by simp at h⟩
theorem NL.mono {gH:List Row}(h:∀ r∈R,r∈gH)(hv:NL R l css):NL gH l css:=⟨hv.hc,λi t cs h1 h2=>(hv.hv i t cs h1 h2).mono h⟩
theorem NL.snoc(h:NL R l css)(hn:NR R t cs):NL R (l++[t]) (css++[cs]):=by
 refine ⟨by simp [h.hc],λi u jl h1 h2=>?_⟩;rw [List.getElem?_append] at h1 h2;by_cases hi:i<l.length
 . rw [U hi] at h1
   rw [U (by rw [h.hc];exact hi)] at h2;exact h.hv i u jl h1 h2
 . rw [O hi] at h1
   rw [O (by rw [h.hc];exact hi)] at h2;have e:i-l.length=0:=by
    have:=(bT.1 h1).1;simp at this;omega
   rw [e] at h1;rw [h.hc,e] at h2;simp at h1 h2;subst h1 h2;exact hn
theorem NL.node(h:NL R l css){kv:Value}{n:Nat}(hn:n=l.length)(hr:(⟨72,5,kv,n,css.flatten⟩:Row)∈R)(k:Nat)(a b c:List UInt8):NR R (.mk k a b l c) (nrow k a b kv c):=by
 subst hn;exact .mk k a b l c kv css (.inr hr) h.hc h.hv
theorem lL {k:Nat}{a b c:List UInt8}{kv:Value}(h:kv.oneCell'=true):(nrow k a b kv c).all (·.oneCell')=true:=by
 show (true&&(true&&(true&&(kv.oneCell'&&(true&&true)))))=true;rw [h];rfl
theorem bMb(h:NL R l css):css.flatten.length=5*l.length:=by
 have:∀ cs∈css,cs.length=5:=by
  intro cs ia;obtain ⟨i,hi⟩:=jX ia;have b8:=(bT.1 hi).1;rw [h.hc] at b8;exact (h.hv i _ cs (bS b8) hi).len
 rw [<- h.hc]
 clear h
 induction css with
 | nil=>rfl
 | cons a t ih =>
  rw [pi,aQ,this a (b9 ..),ih (λcs ia=>this cs (bP _ ia)),cf];omega
def fK (keys:List (List UInt8)):Obj:=.map (ents (keys.map bs) tt 0).toArray (keys.map bs).length
theorem aNd (keys:List (List UInt8))(key:List UInt8):jo (keys.map bs) (bs key)=decide (key∈keys):=by
 rw [jE,Nn,decide_eq_true_eq,lm];exact ⟨λ⟨x,h,e⟩=>by rw [<- tq e];exact h,λh=>⟨key,h,B⟩⟩
theorem bYp {keys:List (List UInt8)}(h:keys.Nodup):(keys.map bs).Nodup:=by
 induction keys with
 | nil=>exact List.nodup_nil
 | cons a t ih =>
  rw [ym] at h;rw [jk,ym];refine ⟨λhm=>?_,ih h.2⟩;obtain ⟨x,hx,e⟩:=lm.1 hm;exact h.1 (by rw [<- tq e];exact hx)
theorem bXt (keys:List (List UInt8))(key:List UInt8):Obj.map (ents (keys.map bs++[bs key]) tt 0).toArray (keys.map bs++[bs key]).length=fK (keys++[key]):=by
 unfold fK;rw [kc,jk,List.map_nil]
section
variable {P:Program} {ops:Array Oper} {Q:Exit->Act->World->Prop} {bh:List Oper} {o:Oper} {n:Nat} {f:Nat->Value} {w w0:World} {L:List (Nat×Obj)} {R:List Row} {ρ:Operand->Value}
theorem aXf {t kL qg:TypeId}{x y:Operand}{b:Nat}{key:List UInt8}{keys:List (List UInt8)}(au:o.op=.lookup t x y false)(hx:ρ x=.map (some b))(hy:ρ y=.string (bs key))(ht:P.underlying t=some (.map kL qg))(hk:P.underlying kL=some .string)
  (hz:(zeroValue qg).run P w=.ok (.bool false) w) (hb:w.heap[b]?=some (fK keys)):(execOp ρ o).run P w=.ok (.value (.bool (decide (key∈keys)))) w:=by
 rw [<- aNd];exact Y7 au hx hy ht hk hz hb
theorem aVx {t kL qg:TypeId}{x y z:Operand}{b:Nat}{key:List UInt8}{keys:List (List UInt8)}(G:Cxr w0 w L R)(i:Nat)(aH:o.guard=none)(hd:o.dst=none)(au:o.op=.mapUpdate t x y z)(hx:aW n f x=.map (some b))(hy:aW n f y=.string (bs key))(hz:aW n f z=.bool true)
  (ht:P.underlying t=some (.map kL qg)) (hk:P.underlying kL=some .string) (hn:keys.Nodup) (hi:L[i]?=some (b,fK keys)) (sv:key∉keys)
  (h:∀ w',Cxr w0 w' (L.set i (b,fK (keys++[key]))) R->wpList P ops Q bh (aC n f) w'):wpList P ops Q (o::bh) (aC n f) w :=
 YB G i aH hd au hx hy hz ht hk (bYp hn) hi (by rw [aNd];exact decide_eq_false sv) λw' pv _=>h w' (by rw [<- bXt];exact pv)
end
def Ee (o e:Nat):Value:=.iface 126 (.agg #[.int .i64 ((o:Nat):Int),.int .i64 ((e:Nat):Int)])
def hH (s:List UInt8)(D N:Nat)(af aj ak:Int)(p nodes:Nat):List Value:=[.string (bs s),.int .i64 ((p:Nat):Int),.int .i64 ((D:Nat):Int),.int .i64 ((N:Nat):Int),.int .i64 af,.int .i64 aj,.int .i64 ak,.int .i64 ((nodes:Nat):Int)]
end Go.Dk
end
section
namespace Go.Proofs.YthiafbkolhnadaaGreatDoor
open Go Go.Dk Go.RowKit Go.Lib
variable {x:List UInt8}{k n:Nat}
theorem ra(h:isBare x):(x.getD 0 0).toNat≠34:=by
 intro e;rcases h.2 0 (gF.2 h.1) with h | ⟨h,_⟩
 ·unfold oG jR at h;omega
 ·omega
theorem vP (s:List UInt8)(a:Nat):sub s a 0=[]:=by unfold sub;simp
theorem bXd {u:List UInt8}(h:Lex u 0 k n):k<=3\/(k=4/\n=1/\pun (u.getD 0 0).toNat)\/(k=5/\(u.getD 0 0).toNat=34/\∃ o,Quo u (0,o,n)) \/
  (k=5/\((u.getD 0 0).toNat=116\/(u.getD 0 0).toNat=98)/\(u.getD 1 0).toNat=34/\∃ o m,n=m+1/\Quo (u.drop 1) (0,o,m))\/(k=6/\jD (u.getD 0 0)/\n=pre jD u/\(numb (u.take n)\/isBare (u.take n))):=by
 unfold Lex at h;split at h
 ·exact .inl I
 split at h
 ·exact .inl I
 split at h
 . left
   repeat' split at h
   all_goals omega
 split at h
 . obtain ⟨m,_,h2,_⟩:=h
   rw [U B] at h2;exact .inl I
 split at h
 . rename_i hp
   exact .inr (.inl ⟨h.2.1,h.2.2,hp⟩)
 split at h
 . rename_i eG
   obtain ⟨o,m,h1,h2,Y⟩:=h;rw [U B] at h2 Y;subst h2 Y;exact .inr (.inr (.inl ⟨B,eG,o,h1⟩))
 split at h
 . rename_i ht
   obtain ⟨o,m,h1,h2,Y⟩:=h;rw [U B] at h2 Y;subst h2 Y;exact .inr (.inr (.inr (.inl ⟨B,ht.1,ht.2.2,o,m,B,h1⟩)))
 split at h
 . rename_i hw
   obtain ⟨h1,h2,Y⟩:=h;rw [U B] at h2 Y;subst h2 Y;have e:gB u=(0,(gB u).2):=by rw [h1]
   unfold gB at e;split at e
   . rename_i hb
     have aZ:(gB u).2=pre jD u:=by unfold gB;rw [U hb]
     exact .inr (.inr (.inr (.inr ⟨B,hw,aZ,by rw [aZ];exact hb⟩)))
   ·split at e <;> cases e
 ·omega
theorem P3 {s:List UInt8}{a j:Nat}(h:j<n):(sub s a n).getD j 0=s.getD (a+j) 0:=by
 unfold sub;rw [sn _ _ _ h,du]
theorem Ci(h:numb x):x≠[]/\(bf (x.getD 0 0)\/(x.getD 0 0).toNat=45):=by
 unfold numb bI at h;by_cases ho:(x.getD 0 0).toNat=45
 ·exact ⟨λe=>by rw [e] at ho;exact absurd ho (by decide),.inr ho⟩
 . rw [O ho] at h
   have h1:=h.1
   cases x with
   | nil=>exact absurd rfl h1
   | cons c t =>
    refine ⟨by simp,.inl ?_⟩;unfold aT pre at h1;split at h1
    ·simpa using (by assumption:bf c)
    ·exact absurd B h1
theorem bY1(h:numb x):¬ isBare x:=by
 intro hb;have h1:=(Ci h).2;rcases hb.2 0 (gF.2 hb.1) with h2 | h2
 ·unfold oG jR at h2;unfold bf at h1;omega
 ·omega
structure TkK (x:List UInt8) (k:Nat):Prop where
 z:k=0->x=[]
 p:k=4->∃ c:UInt8,x=[c]/\pun c.toNat
 q:k=5->((x.getD 0 0).toNat=34/\∃ o,Quo x (0,o,x.length))\/(((x.getD 0 0).toNat=116\/(x.getD 0 0).toNat=98)/\(x.getD 1 0).toNat=34/\1<x.length/\∃ o,Quo (x.drop 1) (0,o,(x.drop 1).length))
 w:k=6->numb x\/isBare x
 kd:k=0\/k=4\/k=5\/k=6
 ne:k≠0->x≠[]
theorem vT {s:List UInt8}{p a:Nat}(h:Tok s p (0,a,k,n))(hp:p<=s.length):TkK (sub s a n) k:=by
 obtain ⟨h1,h2,Y,ar⟩:=h.len hp;have k0:=qN h2;by_cases kk:k=0
 . obtain ⟨_,rfl⟩:=Y kk
   subst kk;exact ⟨λ_=>vP _ _,λh=>I,λh=>I,λh=>I,.inl B,λh=>absurd B h⟩
 obtain ⟨g1,dt,g3,g4⟩:=ar kk;have bt:sub s a n≠[]:=by intro e;have:=aD eC e;rw [k0] at this;simp only [dC] at this;omega
 have e0:(sub s a n).getD 0 0=(s.drop a).getD 0 0:=by rw [P3 I,du]
 rcases bXd g4 with hk | ⟨rfl,rfl,hc⟩ | ⟨rfl,hc,o,aw⟩ | ⟨rfl,hc,u6,o,m,rfl,aw⟩ | ⟨rfl,hc,hn,hb⟩
 ·omega
 . refine ⟨λh=>I,λ_=>⟨(s.drop a).getD 0 0,?_,hc⟩,λh=>I,λh=>I,I,λ_=>bt⟩
   unfold sub
   cases hd:s.drop a with
   | nil=>have:=aD eC hd;rw [bC] at this;simp only [dC] at this;omega
   | cons c t=>simp
 . refine ⟨λh=>I,λh=>I,λ_=>.inl ⟨by rw [e0];exact hc,o,?_⟩,λh=>I,I,λ_=>bt⟩
   rw [k0];exact aw.take
 . have Oa:=aw.len
   refine ⟨λh=>I,λh=>I,λ_=>.inr ⟨by rw [e0];exact hc,?_,by rw [k0];omega,o,?_⟩,λh=>I,I,λ_=>bt⟩
   ·rw [P3 I,<- du];exact u6
   . have:(sub s a (m+1)).drop 1=((s.drop a).drop 1).take m:=by unfold sub;rw [yk,Nat.add_sub_cancel]
     rw [this,show (((s.drop a).drop 1).take m).length=m by rw [dS];omega];exact aw.take
 ·exact ⟨λh=>I,λh=>I,λh=>I,λ_=>hb,I,λ_=>bt⟩
theorem cBd {c:UInt8}(h:pun c.toNat):¬ isBare [c]:=by
 intro hb;have:=hb.2 0 (by simp);unfold oG jR at this;unfold pun at h;simp only [List.getD_cons_zero] at this;omega
theorem cB3(h:(x.getD 0 0).toNat=34\/((x.getD 1 0).toNat=34/\1<x.length)):¬ isBare x:=by
 intro hb;rcases h with h | ⟨h,hl⟩
 ·exact ra hb h
 . have:=hb.2 1 hl
   unfold oG jR bf at this;omega
theorem Xz(h:TkK x k):keyT x k↔isBare x\/(x.getD 0 0).toNat=34:=by
 constructor
 . rintro (⟨_,h⟩ | ⟨_,h⟩)
   ·exact .inl h
   ·exact .inr h
 . rintro hx
   rcases h.kd with rfl | rfl | rfl | rfl
   . rw [h.z B] at hx
     rcases hx with hx | hx
     ·exact absurd B hx.1
     ·exact absurd hx (by decide)
   . obtain ⟨c,hc,hp⟩:=h.p rfl
     rw [hc] at hx;rcases hx with hx | hx
     ·exact absurd hx (cBd hp)
     . simp only [List.getD_cons_zero] at hx
       unfold pun at hp;omega
   . rcases h.q rfl with ⟨eG,_⟩ | ⟨h1,h2,Y,_⟩
     ·exact .inr ⟨B,eG⟩
     . rcases hx with hx | hx
       ·exact absurd hx (cB3 (.inr ⟨h2,Y⟩))
       ·omega
   . rcases hx with hx | hx
     ·exact .inl ⟨B,hx⟩
     . exfalso
       rcases h.w rfl with hw | hw
       ·have:=(Ci hw).2;unfold bf at this;omega
       ·exact ra hw hx
theorem bZh{m:Bool}(h:TkK x k)(hx:x=[opb m]):k=4:=by
 subst hx;rcases h.kd with rfl | rfl | rfl | rfl
 ·exact absurd (h.z B) (by simp)
 ·rfl
 . exfalso
   rcases h.q rfl with ⟨h1,_⟩ | ⟨_,_,h1,_⟩
   ·cases m <;> exact absurd h1 (by decide)
   ·simp at h1
 . exfalso
   rcases h.w rfl with h1 | h1
   . have:=(Ci h1).2
     cases m <;> exact absurd this (by decide)
   . have:=h1.2 0 (by simp)
     cases m <;> exact absurd this (by decide)
theorem aV6(h:TkK x 6)(hb:¬ isBare x\/x=zX\/x=wc\/x=wb):starts x 6:=by
 refine .inr (.inr ⟨B,?_⟩);rcases hb with hb | hb
 ·exact .inl ((h.w B).resolve_right hb)
 ·exact .inr hb
theorem bYv(hb:isBare x)(h1:x≠zX)(h2:x≠wc)(Y:x≠wb):¬ starts x 6:=by
 rintro (⟨h,_⟩ | h | ⟨_,h | h | h | h⟩)
 ·omega
 ·omega
 ·exact bY1 h hb
 ·exact h1 h
 ·exact h2 h
 ·exact Y h
theorem aR3(h:TkK x k)(hk:keyT x k):∃ key,KeyR x key:=by
 rcases hk with ⟨_,hb⟩ | ⟨rfl,eG⟩
 ·exact ⟨x,by unfold KeyR;rw [O (ra hb)]⟩
 . rcases h.q rfl with ⟨_,o,aw⟩ | ⟨h1,_⟩
   ·exact ⟨o,by unfold KeyR;rw [U eG];exact ⟨_,aw⟩⟩
   ·omega
end Go.Proofs.YthiafbkolhnadaaGreatDoor
end
section
namespace Go.Proofs.YthiafbkolhnadaaGreatDoor
open Go Go.Dk Go.RowKit Go.Lib
attribute [local irreducible] Go.wpList Go.Code.wp Go.bodyPost Go.wpStill Go.wpQuiet
theorem aZ7 (bj:Nat)(bg:Nat)(w:World):(Instr.build 126 ([(0,(J bj)),(1,(J bg))]:List (Nat×Value)).toArray).run W w=.ok (.agg #[J bj,J bg]) w:=by
 go_simp
 try rfl
theorem aH8 (bj:Nat)(w:World):(Instr.build 150 ([(2,(J bj))]:List (Nat×Value)).toArray).run W w=.ok (.agg #[J 0,M [],J bj]) w:=by
 go_simp
 try rfl
theorem pV:(W.info? 23).map (·.size)=some 5:=by kernel_rfl
theorem mK:(W.info? 70).map (·.size)=some 1:=by kernel_rfl
theorem bA:(W.info? 72).map (·.size)=some 5:=by kernel_rfl
theorem cEx:(W.info? 126).map (·.size)=some 2:=by kernel_rfl
theorem bK1:bY W 23 0 0:=b5 (tt:=3) r9 rfl bN rfl
theorem bK2:bY W 23 1 1:=b5 (tt:=3) r9 rfl bN rfl
theorem bK3:bY W 23 2 2:=b5 (tt:=3) r9 rfl bN rfl
theorem bK4:bY W 23 3 3:=b5 (tt:=3) r9 rfl bN rfl
theorem bK5:bY W 23 4 4:=b5 (tt:=3) r9 rfl bN rfl
theorem bKc:bY W 129 0 0:=b5 (tt:=9) SM rfl gA rfl
theorem bKd:bY W 129 1 1:=b5 (tt:=3) SM rfl bN rfl
theorem bKe:bY W 129 2 2:=b5 (tt:=23) SM rfl pV rfl
theorem bKf:bY W 129 3 7:=b5 (tt:=3) SM rfl bN rfl
theorem bLr:bY W 72 0 0:=b5 (tt:=3) de rfl bN rfl
theorem bLs:bY W 72 1 1:=b5 (tt:=9) de rfl gA rfl
theorem aL8:bY W 72 2 2:=b5 (tt:=9) de rfl gA rfl
theorem yH:bY W 72 3 3:=b5 (tt:=70) de rfl mK rfl
theorem bLt:bY W 72 4 4:=b5 (tt:=9) de rfl gA rfl
theorem bKa:bY W 126 0 0:=b5 (tt:=3) Tryz.underlying126 rfl bN rfl
theorem bKb:bY W 126 1 1:=b5 (tt:=36) Tryz.underlying126 rfl xL rfl
theorem cH9:Zero W 23 [.int .i64 0,.int .i64 0,.int .i64 0,.int .i64 0,.int .i64 0]:=ji (v:=.agg #[.int .i64 0,.int .i64 0,.int .i64 0,.int .i64 0,.int .i64 0]) ac rfl
theorem z70:Zero W 70 [al]:=ji (v:=al) ac rfl
theorem z72:Zero W 72 [.int .i64 0,.string ByteArray.empty,.string ByteArray.empty,al,.string ByteArray.empty]:=ji (v:=.agg #[.int .i64 0,.string ByteArray.empty,.string ByteArray.empty,al,.string ByteArray.empty]) ac rfl
theorem D7:ot W 72 5 80:=uT (z:=.agg #[.int .i64 0,.string ByteArray.empty,.string ByteArray.empty,al,.string ByteArray.empty]) ac rfl rfl rfl
theorem cH4:Zero W 126 [.int .i64 0,.int .i64 0]:=ji (v:=.agg #[.int .i64 0,.int .i64 0]) ac rfl
def q1 (aA:World)(P:Nat->Nat->Prop):Value->World->Prop:=λx w'=>∃ o e:Nat,x=Ee o e/\e≠0/\P o e/\Below aA.heap.size aA w'
theorem o8 {P:Program}{fn:Func}{T:Value->World->Prop}{n:Nat}{f:Nat->Value}{aA w:World}{x:Value}{A ea:Nat->Nat->Prop}(h:q1 aA A x w)(hp:∀ o e,e≠0->A o e->ea o e):bodyPost P fn (uI T (q1 aA ea)) (.panic (q2 x)) (aC n f) w:=by
 obtain ⟨o,e,hx,he,a6,hb⟩:=h;exact xF ⟨o,e,hx,he,hp o e he a6,hb⟩
theorem Ye {P:Program}{fn:Func}{T:Value->World->Prop}{n:Nat}{f:Nat->Value}{aA w:World}{x:Value}{o e:Nat}{ea:Nat->Nat->Prop}(h:x=Ee o e/\Below aA.heap.size aA w)(he:e≠0)(hp:ea o e):bodyPost P fn (uI T (q1 aA ea)) (.panic (q2 x)) (aC n f) w:=xF ⟨o,e,h.1,he,hp,h.2⟩
theorem cF6 {s x:List UInt8}{a k:Nat}(h:TkK x k):(if x=[] then (s.length,4) else (a,3))=unx s a k:=by
 unfold unx;by_cases hk:k=0
 ·rw [U (h.z hk),U hk]
 ·rw [O (h.ne hk),O hk]
theorem wI (o e:Nat)(aA w0:World)(hb:Below aA.heap.size aA w0):r8 W 182 [J o,J e] w0 (λ_ _=>False) (λx w'=>x=Ee o e/\Below aA.heap.size aA w'):=by
 refine zC ww B Tryz.ntmps182 B ?_;have G:=Ctx.start w0;refine ae ?_;refine S B B (cd (qs:=[(0,(J o)),(1,(J e))]) (aZ7 _ _) B B) ?_;refine S B B (cGw (v:=.agg #[J o,J e]) B B Tryz.underlying126) ?_;refine cDl B B B ?_;exact xF ⟨B,hb⟩
theorem bBk (aA w0:World)(b:Nat)(s:List UInt8)(D N:Nat)(af aj ak:Int)(p nodes:Nat)(L:List (Nat×Obj))(R:List Row)(cM:Cxr aA w0 ((b,.cells (hH s D N af aj ak p nodes).toArray 129)::L) R)(hs:s.length<=1000000)(hp:p<=s.length)(kl:nodes<=1000000)(dF:D<=48)(dr:N<=65536)(eP:Nat)(tt:List UInt8)(cI:Nat):r8 W 117 [ao b 0,.agg #[J eP,M tt,J cI]] w0 (λ_ _=>False) (q1 aA λo e=>(o,e)=if tt=[] then (s.length,4) else (cI,3)):=by
 refine zC Tryz.func117 B Tryz.ntmps117 B ?_;have G:=cM;refine ag ?_;refine bE ?_;intro b3 w G eE gr;refine az ?_;refine S B B (ga (s:=tt) (u:=([]:List UInt8)) B B B) ?_;refine ab ?_;refine Z (λoS=>?_) (λoS=>?_)
 ·refine az ?_;refine jA (wI s.length 4 aA _ G.ext) ww B B B B B (aX B (aX B B)) (λx w cc=>?_) ?_
  ·exact xF ⟨_,_,cc.1,by decide,by rw [U oS],cc.2⟩
  exact qS
 refine an ?_;refine jA (wI cI 3 aA _ G.ext) ww B B B B B (aX B (aX B B)) (λx w cc=>?_) ?_
 ·exact xF ⟨_,_,cc.1,by decide,by rw [O oS],cc.2⟩
 exact qS
theorem HC (aA w0:World)(b:Nat)(s:List UInt8)(D N:Nat)(af aj ak:Int)(p nodes:Nat)(L:List (Nat×Obj))(R:List Row)(cM:Cxr aA w0 ((b,.cells (hH s D N af aj ak p nodes).toArray 129)::L) R)(hs:s.length<=1000000)(hp:p<=s.length)(kl:nodes<=1000000)(dF:D<=48)(dr:N<=65536)(eP k:Nat)(tt:List UInt8)(cI:Nat)(j5:TkK tt k):r8 W 117 [ao b 0,.agg #[J eP,M tt,J cI]] w0 (λ_ _=>False) (q1 aA λo e=>(o,e)=unx s cI k):=by
 have:=bBk aA w0 b s D N af aj ak p nodes L R cM hs hp kl dF dr eP tt cI;rwa [cF6 j5] at this
theorem aI1 (aA w0:World)(b:Nat)(s:List UInt8)(D N:Nat)(af aj ak:Int)(p nodes:Nat)(L:List (Nat×Obj))(R:List Row)(cM:Cxr aA w0 ((b,.cells (hH s D N af aj ak p nodes).toArray 129)::L) R)(hs:s.length<=1000000)(hp:p<=s.length)(kl:nodes<=1000000)(dF:D<=48)(dr:N<=65536)(eP:Nat)(tt:List UInt8)(cI:Nat)(dp:Nat):r8 W 183 [ao b 0,.agg #[J eP,M tt,J cI],J dp] w0 (λv w'=>v=.tuple #[]/\dp<=D/\nodes<N/\Cxr aA w' ((b,.cells (hH s D N af aj ak p (nodes+1)).toArray 129)::L) R) (q1 aA λo e=>(D<dp/\o=cI/\e=9)\/(dp<=D/\N<=nodes/\o=cI/\e=10)):=by
 refine zC Tryz.func183 B Tryz.ntmps183 B ?_;have G:=cM;refine ag ?_;refine bE ?_;intro bp w G gW gN;refine i6 ?_;refine Z (λco=>?_) (λco=>?_)
 ·refine ae ?_;refine jA (wI cI 9 aA _ G.ext) ww B B B B B (aX B (aX B B)) (λx w cc=>?_) ?_
  ·exact xF ⟨_,_,cc.1,by decide,.inl ⟨I,B,B⟩,cc.2⟩
  exact qS
 refine cF ?_;refine aDh ?_;intro w G ig;refine ag ?_;refine iu ?_;intro w G OF;refine ye ?_;refine Z (λje=>?_) (λje=>?_)
 ·refine ae ?_;refine jA (wI cI 10 aA _ G.ext) ww B B B B B (aX B (aX B B)) (λx w cc=>?_) ?_
  ·exact xF ⟨_,_,cc.1,by decide,.inr ⟨I,I,B,B⟩,cc.2⟩
  exact qS
 refine ab ?_;refine cAx (.inl B) Tryz.results183 ?_;exact ⟨B,I,I,G.drop 1⟩
theorem DW (aA w0:World)(b:Nat)(s:List UInt8)(D N:Nat)(af aj ak:Int)(p nodes:Nat)(L:List (Nat×Obj))(R:List Row)(cM:Cxr aA w0 ((b,.cells (hH s D N af aj ak p nodes).toArray 129)::L) R)(hs:s.length<=1000000)(hp:p<=s.length)(kl:nodes<=1000000)(dF:D<=48)(dr:N<=65536):r8 W 115 [ao b 0] w0 (λv w'=>∃ a k n,Tok s p (0,a,k,n)/\v=.tuple #[M (sub s p (a-p)),.agg #[J k,M (sub s a n),J a]]/\Cxr aA w' ((b,.cells (hH s D N af aj ak (a+n) nodes).toArray 129)::L) R) (q1 aA λo e=>Tok s p (e,o,0,0)):=by
 refine zC DL B Tryz.ntmps115 B ?_;have G:=cM;refine ae ?_;refine ov ?_;intro b3 w G eE gr;refine aG ?_;refine Da ?_;refine ag ?_;refine bu (λg f ah=>∃ (q:Nat),g=s.length-q/\(q<=s.length)/\(p<=q)/\(∀ r,Tok s q r->Tok s p r)/\f 0=ao b 0/\f 3=ao b3 0/\f 4=J p/\Cxr aA ah ((b3,aa 150 [J 0,M [],J 0])::(b,.cells (hH s D N af aj ak q nodes).toArray 129)::L) (R)) ((λ(q:Nat)=>s.length-q) p) ?_ ?_
 ·exact ⟨p,B,hp,bV _,λr h=>h,B,B,B,G⟩
 intro h8 f w ai;obtain ⟨q,ni,aw,j4,ht,aB,aR,aM,G⟩:=ai;refine ab ?_;refine cw (λf ah=>∃ (bH e k n eP:Nat) (tt:List UInt8) (cI:Nat),(e=0->eP=k/\tt=sub s q n/\cI=q)/\((q=s.length/\e=7)\/(q<s.length/\Lex (s.drop q) e k n))/\f 5=ao bH 0/\f 6=J e/\f 0=ao b 0/\f 3=ao b3 0/\f 4=J p/\Cxr aA ah ((bH,aa 150 [J eP,M tt,J cI])::(b3,aa 150 [J 0,M [],J 0])::(b,.cells (hH s D N af aj ak q nodes).toArray 129)::L) (R)) ?_ ?_
 ·refine F7 G mixed [(0,13),(1,14),(2,15),(3,16),(4,17),(5,18),(6,19),(7,20)] #[true,true,true,true,true,true,true,true,false,false,false,false,false,false,false] ac ac ac ac ?_;refine yf ?_;refine cW ?_;intro w G W3;refine fR (i:=8) (j:=12) ac B B ?_ ?_
  ·refine aDi ?_;intro Yi w G WR za;obtain ⟨TP,aRx,aSr,aR7,aWt,aHu,rfl,aOq,OJ⟩:=za;refine dQ ?_;refine fR (i:=9) (j:=12) ac B B ?_ ?_
   ·refine ej ?_;refine Ga (i:=10) (j:=11) (m:=12) ac B B B ?_ ?_ ?_
    ·refine ej ?_;refine fR (i:=11) (j:=12) ac B B ?_ ?_
     ·exact ZF
     refine ov ?_;intro bH w G fl fg;refine C7 ?_;exact ZP
    ·refine ej ?_;refine fR (i:=10) (j:=12) ac B B ?_ ?_
     ·exact ZF
     refine ov ?_;intro bH w G fl fg;refine C7 ?_;refine kQ ?_;refine ej ?_;exact KV
    refine ov ?_;intro bH w G fl fg;refine C7 ?_;exact Qs
   refine ov ?_;intro bH w G fl fg;refine C7 ?_;refine qV ?_;refine ej ?_;exact Qs
  refine ov ?_;intro bH w G fl fg;refine C7 ?_;refine mP ?_;refine aDi ?_;intro Yi w G WR za;obtain ⟨TP,aRx,aSr,aR7,aWt,aHu,rfl,aOq,OJ⟩:=za;refine Dv ?_;refine ej ?_;exact Qs
 intro f w ai;obtain ⟨bH,e,k,n,eP,tt,cI,hk,hx,bF,aL,aB,aR,aM,G⟩:=ai;refine gp ?_;refine Z (λfJ=>?_) (λfJ=>?_)
 ·have e0:e=0:=I;subst e0;obtain ⟨eI,fy,w6⟩:=hk rfl;replace eI:=eI.symm;replace w6:=w6.symm;subst eI fy w6;have Wr:=(hx.resolve_left I).2;have cPf:=(hx.resolve_left I).1;have bt:s.drop q≠[]:=by intro h;have:=aD eC h;rw [bC] at this;simp only [dC] at this;omega
  have nW:=Wr.len bt;rw [bC] at nW;have vt:(sub s q n).length=n:=qN I;refine Ht ?_;refine Z (λnh=>?_) (λnh=>?_)
  ·refine ab ?_;refine F7 G mixed [(0,72),(1,73),(2,74),(3,75),(4,76),(5,77),(6,78),(7,79),(8,80),(9,81),(10,7)] #[true,true,true,true,true,true,true,true,true,true,true] ac ac ac ac ?_;refine yf ?_;refine eY ?_;refine aDy ?_;refine RB ?_;refine cW ?_;intro w G W2;refine Rn ?_;refine ab ?_;refine F7 G mixed [(0,82),(1,83),(2,84),(3,85),(4,86),(5,87),(6,88),(7,89),(8,90),(9,91)] #[true,true,true,true,true,true,true,true,true,true,false] ac ac ac ac ?_;refine i1 ?_;refine kC ?_;refine aDz ?_;refine lk ?_;refine cW ?_;intro w G B1;refine kQ ?_;refine aDj ?_;intro w G n1;refine l6 ?_;refine F7 G mixed [(0,92),(1,93),(2,2)] #[true,true,true,false] ac ac ac ac ?_;refine kC ?_;refine RB ?_;refine cW ?_;intro w G Jz;refine nD ?_;refine bn G 1 B B B aR B B og B B ?_;intro w G np;refine l6 ?_;refine aD0 ?_;refine ⟨q,k,n,ht _ (.done (by
    unfold kz;rw [O I];exact ⟨_,_,_,Wr,by rw [O (λh=>h B),O I]⟩)),B,?_⟩
   rw [vt] at G;exact G.drop 2
  refine ab ?_;refine F7 G mixed [(0,94),(1,95),(2,96),(3,97),(4,98),(5,99),(6,100),(7,101),(8,102),(9,103)] #[true,true,true,true,true,true,true,true,true,true,false] ac ac ac ac ?_;refine i1 ?_;refine kC ?_;refine aDz ?_;refine lk ?_;refine cW ?_;intro w G Fb;refine kQ ?_;refine aDj ?_;intro w G l0;refine hY ?_;rw [vt] at G;exact ⟨_,_,I,B,q+n,B,I,I,λr h=>ht r (.more (by
   unfold kz;rw [O I];exact ⟨0,_,_,Wr,by rw [O (λh=>h B),U I]⟩) h),aB,aR,aM,G.drop 1⟩
 refine aq ?_;refine Z (λml=>?_) (λml=>?_)
 ·refine ab ?_;refine F7 G mixed [(0,35),(1,36),(2,37),(3,38),(4,39),(5,40),(6,41),(7,42),(8,43),(9,44),(10,45),(11,46),(12,47),(13,48),(14,49),(15,2)] #[true,true,true,true,true,true,true,true,true,true,true,true,true,true,true,true,false] ac ac ac ac ?_;refine yf ?_;refine eY ?_;refine aDy ?_;refine i1 ?_;refine bw B (bx B) (λw G=>cd (qs:=[(2,(J q))]) (aH8 _) B B) ?_;refine RB ?_;refine cW ?_;intro w G JC;refine Gu ?_;refine bn G 1 B B B aR B B og B B ?_;intro w G iD;refine l6 ?_;refine aD0 ?_;have Oa:q=s.length:=by
   rcases hx with h | ⟨_,h⟩
   ·exact h.1
   ·have:=bXc h;omega
  subst Oa;exact ⟨s.length,0,0,ht _ (.done (by unfold kz;rw [U (bV _)])),B,G.drop 2⟩
 refine aq ?_;refine Z (λwX=>?_) (λwX=>?_)
 ·refine aG ?_;refine jA (wI s.length e aA _ G.ext) ww B B B B B (aX B (aX B B)) (λx w cc=>?_) ?_
  ·have Ws:=(hx.resolve_left I).2;have Oa:=(hx.resolve_left I).1;exact xF ⟨_,_,cc.1,I,ht _ (.done (by
    unfold kz;rw [O I];exact ⟨_,_,_,Ws,by rw [U I,U I]⟩)),cc.2⟩
  exact qS
 refine az ?_;refine jA (wI q e aA _ G.ext) ww B B B B B (aX B (aX B B)) (λx w cc=>?_) ?_
 ·have Ws:=(hx.resolve_left I).2;have Oa:=(hx.resolve_left I).1;exact xF ⟨_,_,cc.1,I,ht _ (.done (by
   unfold kz;rw [O I];exact ⟨_,_,_,Ws,by rw [U I,O I]⟩)),cc.2⟩
 exact qS
theorem AQ (bj:Nat)(bg:List UInt8)(b4:List UInt8)(w:World):(Instr.build 72 ([(0,(J bj)),(1,(M bg)),(2,(M b4))]:List (Nat×Value)).toArray).run W w=.ok (.agg #[J bj,M bg,M b4,al,M []]) w:=by
 go_simp
 try rfl
theorem aIn (s:List UInt8)(w0:World)(hs:s.length<=1000000):Fc W 118 [M s] w0 (λv _=>∃ (key:List UInt8) (ok:Bool),v=.tuple #[M key,.bool ok]/\(isBare s->ok=true/\key=s)/\(¬ isBare s->(s.getD 0 0).toNat≠34->ok=false)/\(∀ k,¬ isBare s->(s.getD 0 0).toNat=34->Quo s (0,k,s.length)->ok=true/\key=k)):=by
 refine aI Tryz.func118 B Tryz.ntmps118 B ?_;have G:=Ctx.start w0;refine cK ?_;refine bo G (Tb s _ cR) Tryz.func185 B B B B B B ?_;intro w G iW;refine ab ?_;refine Z (λiB=>?_) (λiB=>?_)
 ·refine ae ?_;refine Lf ?_;refine ae ?_;refine dY Tryz.results118 B B ?_;exact ⟨G.ext,s,true,B,(λ_=>⟨B,B⟩),(λh=>absurd iB h),(λk h=>absurd iB h)⟩
 refine aq ?_;refine Al ?_;refine ag ?_;refine aD1 ?_;refine ae ?_;refine Z (λef=>?_) (λef=>?_)
 ·refine az ?_;refine dY Tryz.results118 B B ?_;exact ⟨G.ext,[],false,rfl,(λh=>absurd h iB),(λ_ _=>rfl),(λk _ eG=>by rcases ef with h | h;(rw [h] at eG;exact absurd eG (by decide));exact absurd eG I)⟩
 refine an ?_;refine bG G (Tc s _ cR) Tryz.func186 B B B B B B ?_;intro cBh w G Ou V0;obtain ⟨bIb,X0,rfl,bUk,cPu⟩:=V0;refine ae ?_;refine S B B (av (v:=(M X0)) B B) ?_;refine S B B (av (v:=(J bIb)) B B) ?_;refine az ?_;refine S B B (av (v:=(M X0)) B B) ?_;refine ae ?_;refine dY Tryz.results118 B B ?_;exact ⟨G.ext,X0,_,rfl,(λh=>absurd h iB),(λ_ h=>by exfalso;have:=ef.2;omega),(λk _ eG aw=>by obtain ⟨g1,dt⟩:=bUk k _ eG aw rfl;exact ⟨by rw [g1];rfl,dt⟩)⟩
theorem bDe (dJ:Nat)(keys:List (List UInt8))(aA w0:World)(b:Nat)(s:List UInt8)(D N:Nat)(af aj ak:Int)(p nodes:Nat)(L:List (Nat×Obj))(R:List Row)(cM:Cxr aA w0 ((b,.cells (hH s D N af aj ak p nodes).toArray 129)::(dJ,fK keys)::L) R)(hs:s.length<=1000000)(hp:p<=s.length)(kl:nodes<=1000000)(dF:D<=48)(dr:N<=65536)(lead:List UInt8)(a k n k5:Nat)(hn:keys.Nodup)(j5:Tok s k5 (0,a,k,n))(kK:k5<=s.length)(jP:p=a+n):r8 W 261 [ao b 0,M lead,.agg #[J k,M (sub s a n),J a],.map (some dJ)] w0 (λv w'=>∃ (key:List UInt8) (a2 k2 n2:Nat),keyT (sub s a n) k/\KeyR (sub s a n) key/\key.length<=1024/\key∉keys/\Tok s (a+n) (0,a2,k2,n2)/\sub s a2 n2=[58]/\Cxr aA w' ((b,.cells (hH s D N af aj ak (a2+n2) nodes).toArray 129)::(dJ,fK (keys++[key]))::L) (⟨72,5,v,2,nrow 6 lead (sub s a n) (al) []++nrow 11 (sub s (a+n) (a2-(a+n))) [58] (al) []⟩::R)) (q1 aA λo e=>KeyP s keys lead a k n true (.inl (o,e))):=by
 refine zC Tryz.func261 B Tryz.ntmps261 B ?_;have G:=cM;refine ag ?_;refine bE ?_;intro bq w G gX hF;refine az ?_;have eN:=vT j5 kK;have IA:=j5.len kK;have k0:(sub s a n).length=n:=qN IA.2.1;refine bG G (aIn (sub s a n) _ cR) Tryz.func118 B B B B B B ?_;intro cBg w G sC NW;obtain ⟨OV,cSf,rfl,Vu,bQn,aOr⟩:=NW;refine ae ?_;refine S B B (av (v:=(M OV)) B B) ?_;refine bz ?_;refine Z (λeH=>?_) (λeH=>?_)
 ·have lF:¬ keyT (sub s a n) k:=by
   rw [Xz eN];rintro (hb | eG)
   ·rw [(Vu hb).1] at eH;cases eH
   . by_cases hb:isBare (sub s a n)
     ·rw [(Vu hb).1] at eH;cases eH
     . have jN:keyT (sub s a n) k:=(Xz eN).2 (.inr eG)
       obtain ⟨key,hk⟩:=aR3 eN jN;unfold KeyR at hk;rw [U eG] at hk;obtain ⟨m,hk⟩:=hk;have hm:m=(sub s a n).length:=by
        rcases eN.q (jN.elim (λh=>absurd h.2 hb) (λh=>h.1)) with ⟨_,o,aw⟩ | ⟨h1,_⟩
        ·cases hk.det aw;rfl
        ·omega
       subst hm;rw [(aOr key hb eG hk).1] at eH;cases eH
  refine ae ?_;refine jA (HC aA _ b s D N af aj ak p nodes _ _ (G.pick 1 B) hs I I dF dr k k (sub s a n) a eN) Tryz.func117 B B B B B (aX B (aX B B)) (λx w cc=>?_) ?_
  ·exact o8 cc λo e _ h=>(h.symm▸.noKey lF:KeyP s keys lead a k n true (.inl (o,e)))
  exact qS
 have nj:isBare (sub s a n)\/((sub s a n).getD 0 0).toNat=34:=by
  by_cases hb:isBare (sub s a n)
  ·exact .inl hb
  . refine .inr (nA λeG=>?_)
    rw [bQn hb eG] at eH;cases eH
 have jN:keyT (sub s a n) k:=(Xz eN).2 nj;have vi:KeyR (sub s a n) OV:=by
  unfold KeyR;rcases nj with hb | eG
  ·rw [O (ra hb)];exact (Vu hb).2
  . rw [U eG]
    obtain ⟨key,hk⟩:=aR3 eN jN;unfold KeyR at hk;rw [U eG] at hk;obtain ⟨m,hk⟩:=hk;have hm:m=(sub s a n).length:=by
     rcases eN.q (jN.elim (λh=>absurd eG (ra h.2)) (λh=>h.1)) with ⟨_,o,aw⟩ | ⟨h1,_⟩
     ·cases hk.det aw;rfl
     ·omega
    subst hm;exact ⟨_,by rw [((aOr key (λhb=>ra hb eG) eG hk).2)];exact hk⟩
 refine bz ?_;refine Z (λfI=>?_) (λfI=>?_)
 ·refine ae ?_;refine jA (wI a 10 aA _ G.ext) ww B B B B B (aX B (aX B B)) (λx w cc=>?_) ?_
  ·exact Ye cc (by decide) (.long jN vi I)
  exact qS
 refine az ?_;refine S B B (aXf (keys:=keys) B B B Tryz.underlying102 aF (yr _) (G.at 2 B)) ?_;refine ab ?_;refine Z (λfJ=>?_) (λfJ=>?_)
 ·refine ae ?_;refine jA (wI a 8 aA _ G.ext) ww B B B B B (aX B (aX B B)) (λx w cc=>?_) ?_
  ·exact Ye cc (by decide) (.twice jN vi I fJ)
  exact qS
 refine aq ?_;refine aVx (keys:=keys) G 2 B B B B B B Tryz.underlying102 aF hn B fJ ?_;intro w G;refine az ?_;refine S B B (cd (qs:=[(0,(J 6)),(1,(M lead)),(2,(M (sub s a n)))]) (AQ _ _ _) B B) ?_;refine lg ?_;intro SV w G cLm Jx;replace G:=G.toRow (size:=5) (k:=1) B (by decide);refine aq ?_;refine jA (DW aA _ b s D N af aj ak p nodes _ _ (G.pick 1 B) hs I I dF dr) DL B B B B B (aX B B) (λx w cc=>?_) ?_
 ·exact o8 cc λo e he h=>.colE jN vi I fJ (by rw [<- jP];exact h) he
 rintro aW6 w ⟨sb,JL,Cg,zg,rfl,G⟩;replace G:=G.unpick ((bq,aa 150 [J k,M (sub s a n),J a])::(b,.cells (hH s D N af aj ak p nodes).toArray 129)::(dJ,fK (keys++[OV]))::L) 1 B;have Ix:=zg.len I;refine ae ?_;refine S B B (av (v:=(M (sub s p (sb-p)))) B B) ?_;refine pY ?_;intro w G lI;refine az ?_;refine S B B (kO (s:=sub s sb Cg) (u:=[58]) B B B) ?_;refine ab ?_;refine Z (λIC=>?_) (λIC=>?_)
 ·refine ae ?_;refine jA (HC aA _ b s D N af aj ak (sb+Cg) nodes _ _ (G.pick 1 B) hs I I dF dr JL JL (sub s sb Cg) sb (vT zg hp)) Tryz.func117 B B B B B (aX B (aX B B)) (λx w cc=>?_) ?_
  ·exact o8 cc λo e _ h=>(h.symm▸.noCol jN vi I fJ (by rw [<- jP];exact zg) IC:KeyP s keys lead a k n true (.inl (o,e)))
  exact qS
 refine aq ?_;refine S B B (cd (qs:=[(0,(J 11)),(1,(M (sub s p (sb-p)))),(2,(M ([58])))]) (AQ _ _ _) B B) ?_;refine lg ?_;intro cJe w G cLy bU4;refine s8 ?_;intro cGi w G cNr;replace G:=G.drop 1;refine ae ?_;refine cA0 Tryz.results261 B ?_;have bM0:sub s sb Cg=[58]:=IC;subst jP;exact ⟨OV,sb,JL,Cg,jN,vi,I,fJ,zg,bM0,G.drop 1⟩
theorem sT:(W.info? 76).map (·.size)=some 3:=by kernel_rfl
theorem o9:(W.info? 78).map (·.size)=some 4:=by kernel_rfl
theorem FZ:(W.info? 79).map (·.size)=some 1:=by kernel_rfl
theorem zL:(W.info? 80).map (·.size)=some 1:=by kernel_rfl
theorem CF:(W.info? 81).map (·.size)=some 1:=by kernel_rfl
theorem c6:(W.info? 83).map (·.size)=some 13:=by kernel_rfl
theorem Ku:(W.info? 133).map (·.size)=some 14:=by kernel_rfl
theorem bLu:bY W 78 0 0:=b5 (tt:=3) sa rfl bN rfl
theorem bLv:bY W 78 1 1:=b5 (tt:=3) sa rfl bN rfl
theorem bLw:bY W 78 2 2:=b5 (tt:=3) sa rfl bN rfl
theorem bLx:bY W 78 3 3:=b5 (tt:=3) sa rfl bN rfl
theorem M6:bY W 83 0 0:=b5 (tt:=3) fb rfl bN rfl
theorem aL9:bY W 83 1 1:=b5 (tt:=4) fb rfl xM rfl
theorem Uh:bY W 83 2 2:=b5 (tt:=76) fb rfl sT rfl
theorem Ui:bY W 83 3 5:=b5 (tt:=78) fb rfl o9 rfl
theorem Ib:bY W 83 4 9:=b5 (tt:=9) fb rfl gA rfl
theorem Ic:bY W 83 5 10:=b5 (tt:=79) fb rfl FZ rfl
theorem Ie:bY W 83 6 11:=b5 (tt:=80) fb rfl zL rfl
theorem Ed:bY W 83 7 12:=b5 (tt:=81) fb rfl CF rfl
theorem bKg:bY W 133 0 0:=b5 (tt:=9) Tryz.underlying133 rfl gA rfl
theorem bKh:bY W 133 1 1:=b5 (tt:=83) Tryz.underlying133 rfl c6 rfl
theorem z76:Zero W 76 [.bool false,.string ByteArray.empty,.int .i64 0]:=ji (v:=.agg #[.bool false,.string ByteArray.empty,.int .i64 0]) ac rfl
theorem cIh:Zero W 78 [.int .i64 0,.int .i64 0,.int .i64 0,.int .i64 0]:=ji (v:=.agg #[.int .i64 0,.int .i64 0,.int .i64 0,.int .i64 0]) ac rfl
theorem aYc:Zero W 83 [.int .i64 0,.bool false,.bool false,.string ByteArray.empty,.int .i64 0,.int .i64 0,.int .i64 0,.int .i64 0,.int .i64 0,.string ByteArray.empty,al,al,al]:=ji (v:=.agg #[.int .i64 0,.bool false,.bool false,.string ByteArray.empty,.int .i64 0,.int .i64 0,.int .i64 0,.int .i64 0,.int .i64 0,.string ByteArray.empty,al,al,al]) ac rfl
theorem MV:ot W 83 13 168:=uT (z:=.agg #[.int .i64 0,.bool false,.bool false,.string ByteArray.empty,.int .i64 0,.int .i64 0,.int .i64 0,.int .i64 0,.int .i64 0,.string ByteArray.empty,al,al,al]) ac rfl rfl rfl
theorem cH5:Zero W 133 [.string ByteArray.empty,.int .i64 0,.bool false,.bool false,.string ByteArray.empty,.int .i64 0,.int .i64 0,.int .i64 0,.int .i64 0,.int .i64 0,.string ByteArray.empty,al,al,al]:=ji (v:=.agg #[.string ByteArray.empty,.int .i64 0,.bool false,.bool false,.string ByteArray.empty,.int .i64 0,.int .i64 0,.int .i64 0,.int .i64 0,.int .i64 0,.string ByteArray.empty,al,al,al]) ac rfl
theorem aLd:ot W 133 14 184:=uT (z:=.agg #[.string ByteArray.empty,.int .i64 0,.bool false,.bool false,.string ByteArray.empty,.int .i64 0,.int .i64 0,.int .i64 0,.int .i64 0,.int .i64 0,.string ByteArray.empty,al,al,al]) ac rfl rfl rfl
def leaf (c:ByteArray):List Value:=[.int .i64 4,.bool false,.bool false,.string ByteArray.empty,.int .i64 0,.int .i64 0,.int .i64 0,.int .i64 0,.int .i64 0,.string c,al,al,al]
theorem bAu (c:ByteArray)(w:World):(Instr.build 83 ([(0,.int .i64 4),(4,.string c)]:List (Nat×Value)).toArray).run W w=.ok (.agg (leaf c).toArray) w:=by
 unfold leaf
 go_simp
 rfl
theorem bAn (w:World):(Instr.build 76 ([]:List (Nat×Value)).toArray).run W w=.ok (.agg #[.bool false,.string ByteArray.empty,.int .i64 0]) w:=by
 go_simp
 try rfl
theorem bJm:W.eqGuardType W.depth 76=false:=by kernel_rfl
theorem bY2 (w:World):(binOp .neq 76 (.agg #[.bool false,.string ByteArray.empty,.int .i64 0]) (.agg #[.bool false,.string ByteArray.empty,.int .i64 0])).run W w=.ok (.bool false) w:=by
 go_simp
theorem aIc (w:World):(Instr.build 78 ([]:List (Nat×Value)).toArray).run W w=.ok (.agg #[.int .i64 0,.int .i64 0,.int .i64 0,.int .i64 0]) w:=by
 go_simp
 try rfl
theorem bJn:W.eqGuardType W.depth 78=false:=by kernel_rfl
theorem bY3 (w:World):(binOp .neq 78 (.agg #[.int .i64 0,.int .i64 0,.int .i64 0,.int .i64 0]) (.agg #[.int .i64 0,.int .i64 0,.int .i64 0,.int .i64 0])).run W w=.ok (.bool false) w:=by
 go_simp
end Go.Proofs.YthiafbkolhnadaaGreatDoor
end
section
namespace Go.Dk
open Go Go.RowKit Go.Lib Go.Proofs.YthiafbkolhnadaaGreatDoor
theorem vO (s:List UInt8)(i n:Nat):(sub s i n).length<=s.length:=by
 unfold sub;rw [dS,bC];omega
theorem Pj {α:Type}{l:List α}{a:α}(h:l.Nodup)(a6:a∉l):(l++[a]).Nodup:=by
 rw [List.nodup_append];exact ⟨h,ym.2 ⟨mT,List.nodup_nil⟩,λx hx y hy=>by rw [hL] at hy;subst hy;exact λe=>a6 (e▸hx)⟩
section
variable {w0 w:World} {L:List (Nat×Obj)} {A ea R rs:List Row}
theorem Cxr.leftQ (h:Cxr w0 w L (A++ea)):Cxr w0 w L A :=
 ⟨h.ext,h.own,h.lo,h.nd,λr hr=>h.rows r (iM _ hr),λr hr=>h.off r (iM _ hr),(List.pairwise_append.1 h.pw).1⟩
theorem cAs {α:Type}(A ea R:List α)(r q:α):(A++(r::q::(ea++R))).Perm (r::q::((A++ea)++R)):=by
 rw [eB];refine (tf).trans (List.Perm.cons _ ?_);exact tf
theorem Cxr.grab2Q {r q:Row}(h:Cxr w0 w L (A++(r::q::(ea++R)))):Cxr w0 w L (r::q::((A++ea)++R)):=h.permR (cAs _ _ _ _ _)
theorem Cxr.swapQ {r q:Row}(h:Cxr w0 w L (r::q::R)):Cxr w0 w L (q::r::R):=h.permR (List.Perm.swap _ _ _)
theorem NR.formQ (G:Cxr w0 w L (A++ea)){t:T}{cs:List Value}(h:NR A t cs):∃ a n c,cs=nrow t.kind t.lead t.text (.slice a n c) t.tail:=h.form G.leftQ
theorem NL.ent {R:List Row}{l:List T}{css:List (List Value)}(h:NL R l css){gH:List Row}(pD:∀ r∈R,r∈gH){t:T}{cs:List Value}(hn:NR gH t cs){kv:Value}{n:Nat}(hk:n=l.length+1)
  (hr:(⟨72,5,kv,n,css.flatten++cs⟩:Row)∈gH):NR gH (.mk 5 [] [] (l++[t]) []) (nrow 5 [] [] kv []):=by
 refine ((h.mono pD).snoc hn).node (n:=n) (by simp [hk]) ?_ _ _ _ _;rw [List.flatten_append,pi,List.flatten_nil,cH];exact hr
theorem NL.ent2 {R:List Row}{l:List T}{css:List (List Value)}(h:NL R l css){gH:List Row}(pD:∀ r∈R,r∈gH){t u:T}{cs jl:List Value}(hn:NR gH t cs)(aP:NR gH u jl){kv:Value}{n:Nat}(hk:n=l.length+1+1)
  (hr:(⟨72,5,kv,n,css.flatten++cs++jl⟩:Row)∈gH):NR gH (.mk 5 [] [] (l++[t,u]) []) (nrow 5 [] [] kv []):=by
 have:=(((h.mono pD).snoc hn).snoc aP).node (n:=n) (kv:=kv) (by simp [hk]) (by
  rw [List.flatten_append,List.flatten_append,pi,List.flatten_nil,cH,pi,List.flatten_nil,cH];exact hr) 5 [] [] []
 rwa [eB] at this
end
end Go.Dk
end
section
namespace Go.Dk
open Go Go.RowKit Go.Lib Go.Proofs.YthiafbkolhnadaaGreatDoor
variable {l t:List UInt8}{n k:Nat}{c:UInt8}
def s5 (c:UInt8):Prop:=c.toNat=48
instance z48D (c:UInt8):Decidable (s5 c):=by unfold s5;infer_instance
def cO (l:List UInt8):List UInt8:=l.drop (pre s5 l)
def tz (l:List UInt8):Nat:=pre s5 l.reverse
def ba (l:List UInt8):Nat:=l.foldl (λn c=>n*10+(c.toNat-48)) 0
def iG (l:List UInt8)(x:Int):Nat :=
 if cO l=[] then 0 else if 120<(cO l).length-tz (cO l)\/400<x\/400<x+tz (cO l)\/x+tz (cO l) < -400 then 2 else 0
def gO (r:List UInt8):List UInt8:=if (r.getD 0 0).toNat=46 then (r.drop 1).take (aT (r.drop 1)) else []
def kM (r:List UInt8):List UInt8:=if (r.getD 0 0).toNat=46 then r.drop (1+aT (r.drop 1)) else r
def Fz (q:List UInt8):Int:=if q=[] then 0 else if ((q.drop 1).getD 0 0).toNat=45 then -((ba (hj (q.drop 1)):Nat):Int) else ((ba (hj (q.drop 1)):Nat):Int)
def qG (s:List UInt8):List UInt8:=(bI s).take (aT (bI s))
def eT (s:List UInt8):List UInt8:=(bI s).drop (aT (bI s))
def oK (s:List UInt8):Nat:=iG (qG s++gO (eT s)) (Fz (kM (eT s))-(((gO (eT s)).length:Nat):Int))
theorem YR (l:List UInt8):tz l<=l.length:=by have:=FL s5 l.reverse;rw [List.length_reverse] at this;exact this
theorem Ks (l:List UInt8):(cO l).length<=l.length:=by unfold cO;rw [bC];omega
theorem aMo{j:Nat}(h:j<l.length):l.reverse.getD j 0=l.getD (l.length-1-j) 0:=by
 rw [hZ,hZ,List.getElem?_reverse h]
theorem aWx(hn:n<=l.length)(h:∀ j,j<n->(l.getD (l.length-1-j) 0).toNat=48)(he:n=l.length\/(l.getD (l.length-1-n) 0).toNat≠48):tz l=n:=by
 refine ob s5 l.reverse n (by rw [List.length_reverse];exact hn) (λj ax=>?_) ?_
 . show (l.reverse.getD j 0).toNat=48
   rw [aMo I];exact h j ax
 . rw [List.length_reverse]
   rcases he with he | he
   ·exact .inl he
   . rcases ma n l.length with h2 | h2
     . refine .inr ?_
       show ¬ (l.reverse.getD n 0).toNat=48;rw [aMo h2];exact he
     ·exact .inl I
theorem aV9(hn:n<=l.length)(h:∀ j,j<n->(l.getD j 0).toNat=48)(he:n=l.length\/(l.getD n 0).toNat≠48):cO l=l.drop n:=by
 unfold cO;rw [ob s5 l n hn h he]
theorem bH4 (l:List UInt8):∀ a:Nat,(∀ c∈l,bf c)->l.foldl (λn c=>n*10+(c.toNat-48)) a<(a+1)*10^l.length:=by
 induction l with
 | nil=>intro a _;simp
 | cons c t ih =>
  intro a h;have h1:=h c (b9 ..);have h2:=ih (a*10+(c.toNat-48)) λx hx=>h x (bP _ hx)
  rw [yl];refine Nat.lt_of_lt_of_le h2 ?_;rw [cf,Nat.pow_succ,Nat.mul_comm (10^t.length) 10,<- Nat.mul_assoc];refine Nat.mul_le_mul_right _ ?_;unfold bf at h1;omega
theorem aKx(h:∀ c∈l,bf c):ba l<10^l.length:=by
 have:=bH4 l 0 h;unfold ba;omega
theorem bH3 (l:List UInt8):∀ a:Nat,a*10^l.length<=l.foldl (λn c=>n*10+(c.toNat-48)) a:=by
 induction l with
 | nil=>intro a;simp
 | cons c t ih =>
  intro a;rw [yl];refine nI ?_ (ih _);rw [cf,Nat.pow_succ,Nat.mul_comm (10^t.length) 10,<- Nat.mul_assoc];exact Nat.mul_le_mul_right _ I
theorem bH6(h:bf c)(ap:c.toNat≠48):10^t.length<=ba (c::t):=by
 unfold ba;rw [yl];refine nI ?_ (bH3 t _);unfold bf at h;refine nI ?_ (Nat.mul_le_mul_right (10^t.length) (show 1<=0*10+(c.toNat-48) by omega));omega
theorem bH7(h:c.toNat=48):ba (c::t)=ba t:=by
 unfold ba;rw [yl,h]
theorem MQ (l:List UInt8):ba (cO l)=ba l:=by
 induction l with
 | nil=>rfl
 | cons c t ih =>
  by_cases h:s5 c
  . have e:cO (c::t)=cO t:=by unfold cO;rw [pre,U h,r7]
    rw [e,ih,bH7 h]
  . have e:cO (c::t)=c::t:=by unfold cO;rw [pre,O h,mS]
    rw [e]
theorem P1 (l:List UInt8):cO l=[]\/((cO l).getD 0 0).toNat≠48:=by
 rcases PA s5 l with h | h
 ·exact .inl (by unfold cO;rw [h];exact q0 (bV _))
 ·exact .inr (by unfold cO;rw [du,gb];exact h)
theorem P2(h:c∈cO l):c∈l:=List.mem_of_mem_drop h
theorem HO{i:Nat}(h:i<l.length):ba (l.take (i+1))=ba (l.take i)*10+((l.getD i 0).toNat-48):=by
 have e:l.take (i+1)=l.take i++[l.getD i 0]:=by
  rw [List.take_add_one,bS h,hZ,bS h];rfl
 rw [e];unfold ba;rw [List.foldl_append];rfl
theorem bH5(h:∀ c∈l,bf c)(hn:n<(cO l).length):10^n<=ba l:=by
 rw [<- MQ l];rcases hs:cO l with _ | ⟨c,t⟩
 ·rw [hs] at hn;simp at hn
 . have h1:=(P1 l).resolve_left (by rw [hs];simp)
   rw [hs] at h1;rw [hs,cf] at hn;refine nI (pn (by decide) I) (bH6 (t:=t) (h c (P2 (by rw [hs];exact b9 ..))) h1)
theorem FO (l:List UInt8):∀ c∈l.take (aT l),bf c:=by
 intro c hc;obtain ⟨i,hi⟩:=jX hc;have hl:=(bT.1 hi).1;rw [dS] at hl;have h2:=Yf bf l i (show i<aT l by omega);rw [te,U I] at hi;rw [hZ,hi] at h2;exact h2
theorem bYs (l:List UInt8){x y:Int}(hx:400<x)(hy:400<y):iG l x=iG l y:=by
 unfold iG;split
 ·rfl
 ·rw [U (.inr (.inl hx)),U (.inr (.inl hy))]
theorem bYt(hl:l.length<=2000000){x y:Int}(hx:x < -2000400)(hy:y < -2000400):iG l x=iG l y:=by
 have h1:=YR (cO l);have h2:=Ks l;unfold iG;split
 ·rfl
 ·rw [U (.inr (.inr (.inr I))),U (.inr (.inr (.inr I)))]
def pw (k far:Nat)(w:List UInt8):Nat:=if k<(cO w).length then far else ba w
theorem aS7 {w:List UInt8}{far f:Nat}(hl:l.length<=2000000)(hf:f<=1000000)(hw:∀ c∈w,bf c)(hk:9<=k)(cMo:1000000000<=far):iG l (((pw k far w:Nat):Int)-(f:Int))=iG l (((ba w:Nat):Int)-(f:Int))/\iG l (-((pw k far w:Nat):Int)-(f:Int))=iG l (-((ba w:Nat):Int)-(f:Int)):=by
 unfold pw;split
 . rename_i h
   have h1:=bH5 hw h;have h2:10^9<=10^k:=pn (by decide) hk;have Y:10^9=1000000000:=by decide
   exact ⟨bYs l I I,bYt hl I I⟩
 ·exact ⟨B,B⟩
theorem Yg {far:Nat}{w:List UInt8}(hw:∀ c∈w,bf c):pw k far w<=far\/pw k far w<10^k:=by
 unfold pw;split
 ·exact .inl (bV _)
 . rename_i h
   refine .inr ?_;rw [<- MQ];exact Nat.lt_of_lt_of_le (aKx λc hc=>hw c (P2 hc)) (pn (by decide) I)
theorem cEm(h:t≠[])(ap:(t.getD 0 0).toNat=48):cO (t.drop 1)=cO t:=by
 obtain ⟨c,u,rfl⟩:=List.exists_cons_of_ne_nil h;have hc:s5 c:=ap;unfold cO;rw [pre,U hc];rfl
theorem aWa(h:t=[]\/(t.getD 0 0).toNat≠48):cO t=t:=by
 rcases h with rfl | h
 ·rfl
 ·exact aV9 (bU _) (λj ax=>I) (.inr h)
theorem aWb (l:List UInt8):cO (cO l)=cO l:=aWa (P1 l)
theorem cF0 {s:List UInt8}(hk:k<=s.length)(h:∀ j,k<=j->j<s.length->(s.getD j 0).toNat=48)(he:k=0\/(s.getD (k-1) 0).toNat≠48):s.take k=s.take (s.length-tz s):=by
 have:tz s=s.length-k:=aWx I (λj ax=>h _ I I) (by
  rcases he with he | he
  ·exact .inl I
  . rcases tg k with ap | ap
    ·exact .inl I
    ·exact .inr (by rw [show s.length-1-(s.length-k)=k-1 by omega];exact he))
 rw [this,show s.length-(s.length-k)=k by omega]
theorem zI (s:List UInt8)(a n:Nat):(sub s a n).length<=s.length:=by
 unfold sub;rw [dS,bC];omega
end Go.Dk
end
section
namespace Go.Proofs.YthiafbkolhnadaaGreatDoor
open Go Go.Dk Go.RowKit Go.Lib
attribute [local irreducible] Go.wpList Go.Code.wp Go.bodyPost Go.wpStill Go.wpQuiet
variable {s:List UInt8}{k:Nat}
theorem bAo  (w:World):(Instr.build 76 ([]:List (Nat×Value)).toArray).run W w=.ok (.agg #[.bool (false),M [],J 0]) w:=by
 go_simp
 try rfl
theorem aIb (bj:Bool)(bg:List UInt8)(b4:Int)(w:World):(Instr.build 76 ([(0,.bool (bj)),(1,(M bg)),(2,.int .i64 (b4))]:List (Nat×Value)).toArray).run W w=.ok (.agg #[.bool (bj),M bg,.int .i64 (b4)]) w:=by
 go_simp
 try rfl
theorem Tl (s:List UInt8)(a:Nat)(w0:World)(hs:s.length<=1073741824)(a6:a<=s.length):Fc W 281 [M s,J a] w0 (λv _=>v=(J (a+aT (s.drop a)))):=by
 refine aI Tryz.func281 B Tryz.ntmps281 B ?_;have G:=Ctx.start w0;refine az ?_;refine bu (λg f ah=>∃ (j:Nat),g=s.length-j/\(a<=j)/\(j<=s.length)/\(∀ i,i<j-a->bf ((s.drop a).getD i 0))/\f 1=J j/\f 0=M s/\f 4=J 0/\Cxr w0 ah [] []) ((λ(j:Nat)=>s.length-j) a) ?_ ?_
 ·exact ⟨a,B,bV _,a6,(λi h=>I),aJ,B,B,G⟩
 intro Ng f w ai;obtain ⟨j,NI,cK3,ax,hb,aK,aB,aM,G⟩:=ai;refine cF ?_;refine Lt ?_;refine aq ?_;refine Lt ?_;refine ae ?_;refine Z (λct=>?_) (λct=>?_)
 ·refine aq ?_;refine As ?_;refine ab ?_;have UZ:bf ((s.drop a).getD (j-a) 0):=by rw [du,show a+(j-a)=j by omega];unfold bf;omega
  exact ⟨_,_,I,B,j+1,B,I,I,(λi h=>by by_cases e:i=j-a;(subst e;exact UZ);exact hb i I),aJ,aB,aM,G⟩
 refine an ?_;refine Ry ?_;refine ag ?_;refine be Tryz.results281 B ?_;have e:aT (s.drop a)=j-a:=ob bf (s.drop a) (j-a) jx hb (by
  rw [bC,du,show a+(j-a)=j by omega];unfold bf;omega)
 exact aB3
theorem bEo (s:List UInt8)(w0:World)(hs:s.length<=1073741824):Fc W 352 [M s] w0 (λv _=>v=(M (cO s))):=by
 refine aI Tryz.func352 B Tryz.ntmps352 B ?_;have G:=Ctx.start w0;refine cF ?_;refine bu (λg f ah=>∃ (i:Nat),g=s.length-i/\(i<=s.length)/\(∀ j,j<i->(s.getD j 0).toNat=48)/\f 3=J i/\f 0=M s/\f 2=M []/\Cxr w0 ah [] []) ((λ(i:Nat)=>s.length-i) 0) ?_ ?_
 ·exact QM
 intro h8 f w ai;obtain ⟨i,ni,hi,hb,aR,aB,aE,G⟩:=ai;refine Dw ?_;refine ae ?_;refine Z (λe8=>?_) (λe8=>?_)
 ·refine yj ?_;exact ⟨_,_,I,B,i+1,B,I,(λj h=>by by_cases e:j=i;(subst e;omega);exact hb j I),aJ,aB,aE,G⟩
 refine aq ?_;refine S B B (ka (s:=s) (i:=i) B B B aF I) ?_;refine S B B (av (v:=(M (s.drop i))) B B) ?_;refine ag ?_;refine be Tryz.results352 B ?_;exact ⟨G.ext,aD (λl=>(M l)) (aV9 hi hb I).symm⟩
theorem bEq (s:List UInt8)(w0:World)(hs:s.length<=1073741824):Fc W 354 [M s] w0 (λv _=>v=(J (tz s))):=by
 refine aI Tryz.func354 B Tryz.ntmps354 B ?_;have G:=Ctx.start w0;refine cF ?_;refine bu (λg f ah=>∃ (n:Nat),g=s.length-n/\(n<=s.length)/\(∀ j,j<n->(s.getD (s.length-1-j) 0).toNat=48)/\f 3=J n/\f 0=M s/\f 2=J 0/\Cxr w0 ah [] []) ((λ(n:Nat)=>s.length-n) 0) ?_ ?_
 ·exact QM
 intro h8 f w ai;obtain ⟨n,ni,hn,hb,aR,aB,aE,G⟩:=ai;refine gp ?_;refine aN B B B aO (λhc=>sZ B ay B eJ eJ) ?_;refine ab ?_;refine aN B B B aO (λhc=>sZ B ay ay eJ eJ) ?_;refine Db ?_;refine ae ?_;refine Z (λhQ=>?_) (λhQ=>?_)
 ·have T0:dw (((s.length:Nat):Int)-1-((n:Nat):Int))=s.length-1-n:=I;rw [T0] at hQ;refine aq ?_;refine Lu ?_;refine ab ?_;exact ⟨_,_,I,B,n+1,B,I,(λj h=>by by_cases e:j=n;(subst e;omega);exact hb j I),aJ,aB,aE,G⟩
 have T0:dw (((s.length:Nat):Int)-1-((n:Nat):Int))=s.length-1-n:=I;rw [T0] at hQ;refine an ?_;refine Aj ?_;refine ag ?_;refine be Tryz.results354 B ?_;exact ⟨G.ext,aD (λn:Nat=>Value.int .i64 (n:Int)) (aWx hn hb I).symm⟩
theorem bFd (s:List UInt8)(w0:World)(hs:s.length<=1073741824)(hd:∀ c∈s,bf c):Fc W 399 [M s] w0 (λv _=>v=.bool true):=by
 refine aI Tryz.func399 B Tryz.ntmps399 B ?_;have G:=Ctx.start w0;refine cF ?_;refine bu (λg f ah=>∃ (i:Nat),g=s.length-i/\(i<=s.length)/\f 3=J i/\f 0=M s/\Cxr w0 ah [] []) ((λ(i:Nat)=>s.length-i) 0) ?_ ?_
 ·exact ⟨0,B,bU _,aJ,B,G⟩
 intro h8 f w ai;obtain ⟨i,ni,hi,aR,aB,G⟩:=ai;refine bz ?_;refine Z (λiB=>?_) (λiB=>?_)
 ·refine aG ?_;refine uE ?_;refine an ?_;refine GI ?_;refine ae ?_;refine Z (λeH=>?_) (λeH=>?_)
  ·exact QI
  refine qZ ?_;exact ⟨_,_,I,B,i+1,B,I,aJ,aB,G⟩
 refine az ?_;refine be Tryz.results399 B ?_;exact gC
theorem bEy (s:List UInt8)(w0:World)(hs:s.length<=600)(hd:∀ c∈s,bf c)(ap:s=[]\/(s.getD 0 0).toNat≠48):Fc W 370 [M s] w0 (λv _=>v=.bool true):=by
 refine aI Tryz.func370 B Tryz.ntmps370 B ?_;have G:=Ctx.start w0;refine gp ?_;refine hg G B B B aO (λhc=>bFd s _ I hd) Tryz.func399 B B B (λhc=>(aX ay B)) ?_;intro w G jg;refine aG ?_;refine aD1 ?_;refine az ?_;refine be Tryz.results370 B ?_;refine pd ?_;simp only [fS,hW,kP,decide_eq_true_eq,decide_eq_false_iff_not,beq_iff_eq,bne_iff_ne,ne_eq];refine ⟨⟨I,trivial⟩,?_⟩;rcases ap with ap | ap
 ·exact .inl (by rw [ap];rfl)
 ·exact .inr I
theorem bEp (s:List UInt8)(w0:World)(hs:s.length<=12)(hd:∀ c∈s,bf c)(ap:s=[]\/(s.getD 0 0).toNat≠48):Fc W 353 [M s] w0 (λv _=>v=.tuple #[J (ba s),J 0]):=by
 refine aI Tryz.func353 B Tryz.ntmps353 B ?_;have G:=Ctx.start w0;refine cK ?_;refine bo G (bEy s _ I hd ap) Tryz.func370 B B B B B B ?_;intro w G iW;refine ag ?_;refine cn B (λfm=>?_) (λfm=>?_)
 ·exact absurd fm (by decide)
 try simp only [dy] at fm
 refine kf ?_;refine aN B B B aO (λhc=>(show (execOp _ _).run _ _=.ok (.value (.bool false)) _ from by exfalso;simp only [dy] at hc;omega)) ?_;refine ae ?_;refine Z (λct=>?_) (λct=>?_)
 ·exfalso;rcases ct with h | h <;> omega
 refine gp ?_;refine bu (λg f ah=>∃ (i n:Nat),g=s.length-i/\(i<=s.length)/\(n=ba (s.take i))/\(n<10^i)/\f 5=J i/\f 4=J n/\f 0=M s/\f 2=J 0/\f 3=J 0/\Cxr w0 ah [] []) ((λ(i:Nat)=>s.length-i) 0) ?_ ?_
 ·exact ⟨0,0,B,bU _,B,(by decide),aJ,aJ,B,B,B,G⟩
 intro qi f w ai;obtain ⟨i,n,IN,hi,hn,aP,bF,aM,aB,aE,aR,G⟩:=ai;refine bz ?_;refine Z (λiS=>?_) (λiS=>?_)
 ·have vc:=hd (s.getD i 0) (Nc I);unfold bf at vc;have xh:10^i<=10^12:=pn (by decide) I;have BL:10^12=1000000000000:=by decide
  refine bz ?_;refine uE ?_;refine Rv ?_;refine aG ?_;refine x8 ?_;exact ⟨_,_,I,B,i+1,n*10+((s.getD i 0).toNat-48),B,I,(by rw [HO I,<- hn]),(by rw [Nat.pow_succ];omega),aJ,aJ,aB,aE,aR,G⟩
 refine an ?_;refine Aj ?_;refine ae ?_;refine dY Tryz.results353 B B ?_;exact aBb
theorem bDp (s:List UInt8)(w0:World)(hs:s.length<=1073741824)(hd:∀ c∈s,bf c):Fc W 282 [M s] w0 (λv _=>v=(J (pw 9 1000000000 s))):=by
 refine aI Tryz.func282 B Tryz.ntmps282 B ?_;have G:=Ctx.start w0;have k0:=Ks s;refine aG ?_;refine aDk ?_;intro w G iW;refine RC ?_;refine bz ?_;refine Z (λe1=>?_) (λe1=>?_)
 ·refine aq ?_;refine be Tryz.results282 B ?_;exact ⟨G.ext,aD (λn:Nat=>Value.int .i64 (n:Int)) (show 1000000000=pw 9 1000000000 s by unfold pw;rw [U I])⟩
 refine an ?_;refine bo G (bEp (cO s) _ I (λc hc=>hd c (P2 hc)) (P1 s)) Tryz.func353 B B B B B B ?_;intro w G qx;refine ae ?_;refine S B B (av (v:=(J (ba (cO s)))) B B) ?_;refine mQ ?_;refine an ?_;refine S B B (av (v:=(J (ba (cO s)))) B B) ?_;refine ag ?_;refine be Tryz.results282 B ?_;exact ⟨G.ext,aD (λn:Nat=>Value.int .i64 (n:Int)) (show ba (cO s)=pw 9 1000000000 s by unfold pw;rw [O I,MQ])⟩
theorem bDq (nq:Bool)(s:List UInt8)(x:Int)(w0:World)(hs:s.length<=2000000)(qz:-4000000000<=x)(qA:x<=4000000000):Fc W 283 [.bool nq,M s,.int .i64 x] w0 (λv _=>∃ (b:Bool) (d:List UInt8) (y:Int) (e:Nat),v=.tuple #[.agg #[.bool b,M d,.int .i64 y],J e]/\e=iG s x):=by
 refine aI Tryz.func283 B Tryz.ntmps283 B ?_;have G:=Ctx.start w0;have k0:=Ks s;have vt:=YR (cO s);have b8:((cO s).take ((cO s).length-tz (cO s))).length=(cO s).length-tz (cO s):=by rw [dS];omega
 refine ag ?_;refine wj ?_;intro bq w G gX hF;refine aq ?_;refine aDk ?_;intro w G xn;refine RC ?_;refine aq ?_;refine S B B (ga (s:=cO s) (u:=([]:List UInt8)) B B B) ?_;refine ab ?_;refine Z (λco=>?_) (λco=>?_)
 ·refine wt ?_;refine s9 ?_;intro w G ig;refine ae ?_;refine RD ?_;exact ⟨G.ext,_,[],_,0,B,by unfold iG;rw [U co]⟩
 refine an ?_;refine bo G (bEq (cO s) _ I) Tryz.func354 B B B B B B ?_;intro w G sC;refine S B B (av (v:=(J (tz (cO s)))) B B) ?_;refine aG ?_;refine S B B (s0 (r:=(((cO s).length-tz (cO s):Nat):Int)) B B B I I I) ?_;refine S B B (xS (s:=cO s) (i:=(cO s).length-tz (cO s)) B B B aF I) ?_;refine S B B (av (v:=(M ((cO s).take ((cO s).length-tz (cO s))))) B B) ?_;refine aq ?_;refine S B B (oo (s:=(cO s).take ((cO s).length-tz (cO s))) B B aF) ?_;refine bz ?_;refine Lg ?_;refine aq ?_;refine Lg ?_;refine ae ?_;refine Z (λiA=>?_) (λiA=>?_)
 ·refine wt ?_;refine s9 ?_;intro w G iD;refine ae ?_;refine RD ?_;exact ⟨G.ext,_,[],_,2,B,by unfold iG;rw [O co,U I]⟩
 refine bz ?_;refine S B B (cd (qs:=[(0,.bool (nq)),(1,(M ((cO s).take ((cO s).length-tz (cO s))))),(2,.int .i64 ((x)+((tz (cO s):Nat):Int)))]) (aIb _ _ _) B B) ?_;refine s9 ?_;intro w G qy;refine ae ?_;refine RD ?_;exact ⟨G.ext,_,_,_,0,B,by unfold iG;rw [O co,O I]⟩
theorem aTa(hn:numb s){i0:Nat}(ho:bI s=s.drop i0):aT (s.drop i0)≠0/\¬ (1<aT (s.drop i0)/\(s.getD i0 0).toNat=48)/\kt (s.drop (i0+aT (s.drop i0)))/\qG s=sub s i0 (aT (s.drop i0))/\eT s=s.drop (i0+aT (s.drop i0)):=by
 unfold numb FD at hn;rw [ho] at hn;refine ⟨hn.1,?_,?_,?_,?_⟩
 ·have:=hn.2.1;rw [du,gb] at this;exact this
 ·have:=hn.2.2;rw [fE] at this;exact this
 ·unfold qG;rw [ho];rfl
 ·unfold eT;rw [ho,fE]
theorem aTe(hf:kt (s.drop k))(h:(s.getD k 0).toNat=46):aT (s.drop (k+1))≠0/\numE (s.drop (k+1+aT (s.drop (k+1))))/\gO (s.drop k)=sub s (k+1) (aT (s.drop (k+1)))/\kM (s.drop k)=s.drop (k+1+aT (s.drop (k+1))):=by
 have ap:((s.drop k).getD 0 0).toNat=46:=by rw [du,gb];exact h
 unfold kt at hf;rw [U ap,fE,fE,<- mU] at hf;refine ⟨hf.1,hf.2,?_,?_⟩
 ·unfold gO;rw [U ap,fE];rfl
 ·unfold kM;rw [U ap,fE,fE,<- mU]
theorem bYy(hf:kt (s.drop k))(h:(s.getD k 0).toNat≠46):numE (s.drop k)/\gO (s.drop k)=[]/\kM (s.drop k)=s.drop k:=by
 have ap:((s.drop k).getD 0 0).toNat≠46:=by rw [du,gb];exact h
 unfold kt at hf;rw [O ap] at hf;exact ⟨hf,by unfold gO;rw [O ap],by unfold kM;rw [O ap]⟩
theorem Pk{j a:Nat}(he:numE (s.drop j))(ax:j<s.length)(aP:hj (s.drop (j+1))=s.drop a):((s.getD j 0).toNat=101\/(s.getD j 0).toNat=69)/\aT (s.drop a)≠0/\a+aT (s.drop a)=s.length/\(∀ c∈s.drop a,bf c)/\Fz (s.drop j)=(if (s.getD (j+1) 0).toNat=45 then -((ba (s.drop a):Nat):Int) else ((ba (s.drop a):Nat):Int)):=by
 unfold numE at he;have bt:s.drop j≠[]:=λe=>by rw [List.drop_eq_nil_iff] at e;omega
 obtain ⟨h1,h2⟩:=he.resolve_left bt;rw [du,gb] at h1;unfold vA at h2;rw [fE,aP] at h2;have Y:aT (s.drop a)=(s.drop a).length:=h2.2;have bd:(s.drop a).length≠0:=λe=>h2.1 (p8 e)
 refine ⟨h1,I,by rw [Y];rw [bC] at bd ⊢;omega,?_,?_⟩
 . have:=FO (s.drop a)
   rw [Y,nG] at this;exact this
 . unfold Fz
   rw [O bt,fE,du,gb,aP]
theorem bYw{i0:Nat}(ho:bI s=s.drop i0):qG s=sub s i0 (aT (s.drop i0))/\eT s=s.drop (i0+aT (s.drop i0)) :=
 ⟨by unfold qG;rw [ho];rfl,by unfold eT;rw [ho,fE]⟩
theorem bY0(h:(s.getD k 0).toNat=46):gO (s.drop k)=sub s (k+1) (aT (s.drop (k+1)))/\kM (s.drop k)=s.drop (k+1+aT (s.drop (k+1))):=by
 have ap:((s.drop k).getD 0 0).toNat=46:=by rw [du,gb];exact h
 refine ⟨?_,?_⟩
 ·unfold gO;rw [U ap,fE];rfl
 ·unfold kM;rw [U ap,fE,fE,<- mU]
theorem bYz(h:(s.getD k 0).toNat≠46):gO (s.drop k)=[]/\kM (s.drop k)=s.drop k:=by
 have ap:((s.drop k).getD 0 0).toNat≠46:=by rw [du,gb];exact h
 exact ⟨by unfold gO;rw [O ap],by unfold kM;rw [O ap]⟩
theorem YI (s:List UInt8)(a:Nat):∀ c∈sub s a (aT (s.drop a)),bf c:=FO (s.drop a)
theorem aI5 (s:List UInt8)(w0:World)(hs:s.length<=1000000):Fc W 201 [M s] w0 (λv _=>∃ (b:Bool) (d:List UInt8) (y:Int) (e:Nat),v=.tuple #[.agg #[.bool b,M d,.int .i64 y],J e]/\(numb s->e=oK s)):=by
 refine aI Tryz.func201 B Tryz.ntmps201 B ?_;have G:=Ctx.start w0;refine ag ?_;refine wj ?_;intro b2 w G di e3;refine az ?_;refine cw (λf ah=>∃ (i0:Nat),(i0<=s.length)/\(i0<=1)/\(bI s=s.drop i0)/\f 4=J i0/\f 0=M s/\f 2=ao b2 0/\f 3=J 0/\Cxr w0 ah [(b2,aa 76 [.bool (false),M [],J 0])] []) ?_ ?_
 ·refine aG ?_;refine aN B B B aO (λhc=>dm (s:=s) (i:=0) B ay B aF fO) ?_;refine ae ?_;refine Z (λct=>?_) (λct=>?_)
  ·refine ae ?_;exact ⟨_,B,1,I,I,by unfold bI;rw [U I],aJ,B,B,B,G⟩
  refine ab ?_;exact ⟨_,B,0,I,I,by unfold bI;rw [O (λh=>by have:=nc (l:=s) (j:=0) I;omega)];rfl,aJ,B,B,B,G⟩
 intro f w ai;obtain ⟨i0,oV,rz,ho,aM,aB,aE,aR,G⟩:=ai;refine az ?_;refine cw (λf ah=>∃ (k:Nat),(k=i0+aT (s.drop i0))/\(k<=s.length)/\f 6=J k/\f 0=M s/\f 2=ao b2 0/\f 3=J 0/\f 4=J i0/\f 5=.bool (((i0:Nat):Int)==((1:Nat):Int))/\Cxr w0 ah [(b2,aa 76 [.bool (false),M [],J 0])] []) ?_ ?_
 ·refine ae ?_;refine bo G (Tl s i0 _ I I) Tryz.func281 B B B B B B ?_;intro w G tX;have bTp:=mI (s.drop i0);rw [bC] at bTp;refine RE ?_;refine ab ?_;exact ⟨_,B,_,B,I,aJ,aB,aE,aR,aM,B,G⟩
 intro f w ai;obtain ⟨k,hk,lE,aL,aB,aE,aR,aM,bF,G⟩:=ai;refine cK ?_;refine aD2 ?_;refine an ?_;refine r3 ?_;refine an ?_;refine Z (λiA=>?_) (λiA=>?_)
 ·refine wt ?_;refine C5 ?_;intro w G iD;refine ae ?_;refine GM ?_;exact ⟨G.ext,_,[],_,3,B,λhn=>by
   exfalso;obtain ⟨h1,h2,_⟩:=aTa hn ho;rcases iA with h | h
   ·omega
   ·exact h2 ⟨I,I⟩⟩
 obtain ⟨UD,Bf⟩:=bYw ho;have rm:numb s->kt (s.drop k):=λhn=>by have:=(aTa hn ho).2.2.1;rw [<- hk] at this;exact this
 rw [<- hk] at Bf;have vi:aT (s.drop i0)=k-i0:=I;rw [vi] at UD;refine az ?_;refine S B B (pb (s:=s) (i:=i0) (j:=k) B B B B aF I I) ?_;refine S B B (av (v:=(M (sub s i0 (k-i0)))) B B) ?_;refine aq ?_;refine cw (λf ah=>∃ (j c7:Nat) (dg:List UInt8),(j<=s.length)/\(numb s->numE (s.drop j))/\(dg=qG s++gO (eT s))/\(kM (eT s)=s.drop j)/\(c7=(gO (eT s)).length)/\(c7<=1000000)/\(dg.length<=2000000)/\f 6=J j/\f 7=M dg/\f 8=.int .i64 (-((c7:Nat):Int))/\f 0=M s/\f 2=ao b2 0/\f 5=.bool (((i0:Nat):Int)==((1:Nat):Int))/\Cxr w0 ah [(b2,aa 76 [.bool (false),M [],J 0])] []) ?_ ?_
 ·refine cK ?_;refine aN B B B aO (λhc=>dm (s:=s) (i:=k) B ay ay aF fO) ?_;refine ae ?_;refine Z (λkH=>?_) (λkH=>?_)
  ·obtain ⟨aMt,bMy⟩:=bY0 (s:=s) (k:=k) I;have nl:=mI (s.drop (k+1));rw [bC] at nl;refine aq ?_;refine bo G (Tl s (k+1) _ I I) Tryz.func281 B B B B B B ?_;intro w G aQ5;have bTq:=mI (s.drop (k+1));rw [bC] at bTq;refine aD3 ?_;refine cK ?_;refine Z (λyR=>?_) (λyR=>?_)
   ·refine wt ?_;refine C5 ?_;intro w G np;refine ae ?_;refine GM ?_;exact ⟨G.ext,_,[],_,3,B,λhn=>by exfalso;have:=(aTe (rm hn) I).1;omega⟩
   refine bz ?_;refine S B B (pb (s:=s) (i:=k+1) (j:=(k+1)+aT (s.drop (k+1))) B B B B aF I I) ?_;refine S B B (iJ (a:=sub s i0 (k-i0)) (b:=sub s (k+1) (k+1+aT (s.drop (k+1))-(k+1))) B B B (by have h1:=zI s i0 (k-i0);have h2:=zI s (k+1) (k+1+aT (s.drop (k+1))-(k+1));omega)) ?_;refine aG ?_;refine S B B (s0 (r:=-((aT (s.drop (k+1)):Nat):Int)) B B B I I I) ?_;refine S B B (av (v:=.int .i64 (-((aT (s.drop (k+1)):Nat):Int))) B B) ?_;refine ae ?_;refine aD3 ?_;refine ab ?_;exact ⟨_,B,k+1+aT (s.drop (k+1)),aT (s.drop (k+1)),_,I,(λhn=>(aTe (rm hn) I).2.1),(by rw [UD,Bf,aMt,show k+1+aT (s.drop (k+1))-(k+1)=aT (s.drop (k+1)) by omega]),(by rw [Bf];exact bMy),(by rw [Bf,aMt];unfold sub;rw [dS,bC];omega),I,(by rw [aQ];have h1:=zI s i0 (k-i0);have h2:=zI s (k+1) (k+1+aT (s.drop (k+1))-(k+1));omega),aJ,B,aJ,aB,aE,bF,G⟩
  have VL:(s.getD k 0).toNat≠46:=λh=>by have:=nc (l:=s) (j:=k) I;omega
  obtain ⟨aPc,bRs⟩:=bYz VL;refine ab ?_;exact ⟨_,B,k,0,_,lE,(λhn=>(bYy (rm hn) VL).1),(by rw [UD,Bf,aPc,cH]),(by rw [Bf];exact bRs),(by rw [Bf,aPc];rfl),I,(by have h1:=zI s i0 (k-i0);omega),aL,B,aJ,aB,aE,bF,G⟩
 intro f w ai;obtain ⟨j,c7,dg,ax,cc,vb,pD,hf,oU,kW,aL,aS,bb,aB,aE,bF,G⟩:=ai;refine cw (λf ah=>∃ (JK:Nat) (x:Int),(numb s->JK=s.length)/\(numb s->iG dg x=oK s)/\(-3000000000<=x)/\(x<=3000000000)/\f 6=J JK/\f 8=.int .i64 (x)/\f 0=M s/\f 2=ao b2 0/\f 5=.bool (((i0:Nat):Int)==((1:Nat):Int))/\f 7=M dg/\Cxr w0 ah [(b2,aa 76 [.bool (false),M [],J 0])] []) ?_ ?_
 ·refine cK ?_;refine Lt ?_;refine an ?_;refine aD4 ?_;refine an ?_;refine Z (λyT=>?_) (λyT=>?_)
  ·refine an ?_;refine As ?_;refine cF ?_;refine RF ?_;refine an ?_;refine cw (λf ah=>∃ (a:Nat),(a<=s.length)/\(hj (s.drop (j+1))=s.drop a)/\f 6=J a/\f 0=M s/\f 2=ao b2 0/\f 5=.bool (((i0:Nat):Int)==((1:Nat):Int))/\f 7=M dg/\f 8=.int .i64 (-((c7:Nat):Int))/\f 10=.bool ((decide (((j+1:Nat):Int)<((s.length:Nat):Int)))&&((((s.getD (j+1) 0).toNat:Nat):Int)==((45:Nat):Int)))/\Cxr w0 ah [(b2,aa 76 [.bool (false),M [],J 0])] []) ?_ ?_
   ·refine cK ?_;refine RF ?_;refine an ?_;refine aD5 ?_;refine an ?_;refine Z (λbOe=>?_) (λbOe=>?_)
    ·refine ae ?_;refine S B B (av (v:=(J (j+1+1))) B B) ?_;refine ab ?_;exact ⟨_,B,j+1+1,I,by unfold hj;rw [du,gb,U I,fE],aJ,aB,aE,bF,aS,bb,B,G⟩
    refine ab ?_;exact ⟨_,B,j+1,I,by unfold hj;rw [du,gb,O (λh=>by have:=nc (l:=s) (j:=j+1) I;omega)],aJ,aB,aE,bF,aS,bb,B,G⟩
   intro f w ai;obtain ⟨a,a6,aP,aL,aB,aE,bF,aS,bb,cp,G⟩:=ai;refine an ?_;refine bo G (Tl s a _ I I) Tryz.func281 B B B B B B ?_;intro w G cQe;have bTo:=mI (s.drop a);rw [bC] at bTo;refine Lv ?_;refine bz ?_;refine Z (λbOg=>?_) (λbOg=>?_)
   ·refine wt ?_;refine C5 ?_;intro w G B4;refine ae ?_;refine GM ?_;exact ⟨G.ext,_,[],_,3,rfl,λhn=>by exfalso;obtain ⟨_,h2,_⟩:=Pk (cc hn) I aP;omega⟩
   refine az ?_;refine S B B (ur (s:=s) (i:=a) (n:=(aT (s.drop a))) B B B B aF I) ?_;refine bo G (bDp (sub s a (aT (s.drop a))) _ (by have:=zI s a (aT (s.drop a));omega) (YI s a)) Tryz.func282 B B B B B B ?_;intro w G bUx;have xh:=aS7 (l:=dg) (w:=(sub s a (aT (s.drop a)))) (k:=9) (far:=1000000000) (f:=c7) kW oU (YI s a) (by decide) (by decide);have cO9:=Yg (k:=9) (far:=1000000000) (YI s a);have Jg:10^9=1000000000:=by decide
   refine S B B (av (v:=(J (pw 9 1000000000 (sub s a (aT (s.drop a)))))) B B) ?_;refine ab ?_;refine cw (λf ah=>∃ (y:Int),(numb s->iG dg (y-(c7:Int))=oK s)/\(-1000000000<=y)/\(y<=1000000000)/\f 12=.int .i64 (y)/\f 0=M s/\f 2=ao b2 0/\f 5=.bool (((i0:Nat):Int)==((1:Nat):Int))/\f 6=J a/\f 7=M dg/\f 8=.int .i64 (-((c7:Nat):Int))/\f 11=J (a+aT (s.drop a))/\Cxr w0 ah [(b2,aa 76 [.bool (false),M [],J 0])] []) ?_ ?_
   ·refine an ?_;refine Z (λbOh=>?_) (λbOh=>?_)
    ·refine ag ?_;refine Lx ?_;refine S B B (av (v:=.int .i64 (-((pw 9 1000000000 (sub s a (aT (s.drop a))):Nat):Int))) B B) ?_;refine ab ?_;exact ⟨_,B,_,(λhn=>by
      obtain ⟨_,_,hx3,_,xr⟩:=Pk (cc hn) I aP;have WC:(sub s a (aT (s.drop a)))=s.drop a:=by unfold sub;rw [lQ jx]
      refine xh.2.trans ?_;unfold oK;rw [<- vb,pD,<- hf,xr,U I,WC]),I,I,aJ,aB,aE,bF,aL,aS,bb,B,G⟩
    refine ab ?_;exact ⟨_,B,_,(λhn=>by
     obtain ⟨_,_,hx3,_,xr⟩:=Pk (cc hn) I aP;have WC:(sub s a (aT (s.drop a)))=s.drop a:=by unfold sub;rw [lQ jx]
     refine xh.1.trans ?_;unfold oK;rw [<- vb,pD,<- hf,xr,O (λh=>by have:=nc (l:=s) (j:=j+1) I;omega),WC]),I,I,aJ,aB,aE,bF,aL,aS,bb,B,G⟩
   intro f w ai;obtain ⟨y,hy,aRm,Xk,cV,aB,aE,bF,aL,aS,bb,cv,G⟩:=ai;refine aq ?_;refine S B B (av (v:=.int .i64 ((-((c7:Nat):Int))+(y))) B B) ?_;refine ae ?_;refine Lv ?_;refine ab ?_;exact ⟨_,B,a+aT (s.drop a),-((c7:Nat):Int)+y,(λhn=>(Pk (cc hn) I aP).2.2.1),(by rw [show -((c7:Nat):Int)+y=y-(c7:Int) by omega];exact hy),I,I,aJ,aJ,aB,aE,bF,aS,G⟩
  refine ab ?_;have tN:numb s->j=s.length:=λhn=>by
   rcases cc hn with h | h
   ·rw [List.drop_eq_nil_iff] at h;omega
   . have h2:=nc (l:=s) (j:=j) (by have:=h.1;rw [du,gb] at this;omega)
     have:=h.1;rw [du,gb] at this;exfalso;omega
  exact ⟨_,B,j,_,tN,(λhn=>by unfold oK;rw [<- vb,pD,<- hf,tN hn,List.drop_length];unfold Fz;rw [U B,Int.zero_sub]),I,I,aL,bb,aB,aE,bF,aS,G⟩
 intro f w ai;obtain ⟨JK,x,vh,hx,qz,qA,aL,bb,aB,aE,bF,aS,G⟩:=ai;refine bz ?_;refine Z (λbOj=>?_) (λbOj=>?_)
 ·refine wt ?_;refine C5 ?_;intro w G OH;refine ae ?_;refine GM ?_;exact ⟨G.ext,_,[],_,3,B,λhn=>by exfalso;have:=vh hn;omega⟩
 refine az ?_;refine bG G (bDq (((i0:Nat):Int)==((1:Nat):Int)) dg (x) _ I I I) Tryz.func283 B B B B B B ?_;intro cSn w G cQl bR6;obtain ⟨aZo,bHg,cHy,aKy,rfl,bO9⟩:=bR6;refine ag ?_;refine C5 ?_;intro w G bVp;refine S B B (av (v:=(J aKy)) B B) ?_;refine ag ?_;refine GM ?_;exact ⟨G.ext,aZo,bHg,cHy,aKy,B,λhn=>bO9.trans (hx hn)⟩
end Go.Proofs.YthiafbkolhnadaaGreatDoor
end
section
namespace Go.Dk
open Go Go.RowKit Go.Lib Go.Proofs.YthiafbkolhnadaaGreatDoor
variable {c:UInt8}{i k m j a b:Nat}{s:List UInt8}
def fU:List UInt8:=[65,66,67,68,69,70,71,72,73,74,75,76,77,78,79,80,81,82,83,84,85,86,87,88,89,90,97,98,99,100,101,102,103,104,105,106,107,108,109,110,111,112,113,114,115,116,117,118,119,120,121,122,48,49,50,51,52,53,54,55,56,57,43,47]
def FC (c a:UInt8):Prop:=a.toNat≠c.toNat
instance nqD (c a:UInt8):Decidable (FC c a):=by unfold FC;infer_instance
def fw (c:UInt8):Nat:=pre (FC c) fU
def sH (c:UInt8):Prop:=fw c<64
instance isAD (c:UInt8):Decidable (sH c):=by unfold sH;infer_instance
def c4 (s:List UInt8):Nat:=pre sH s
def zR (c:UInt8):Int:=if fw c<64 then (fw c:Int) else -1
def pu (s:List UInt8):Prop:=(∀ c∈s.drop (c4 s),c.toNat=61)/\((c4 s%4=0/\s.length=c4 s)\/(c4 s%4=2/\s.length=c4 s+2/\fw (s.getD (c4 s-1) 0)%16=0)\/(c4 s%4=3/\s.length=c4 s+1/\fw (s.getD (c4 s-1) 0)%4=0))
theorem bL3(hi:i<64)(h:(fU.getD i 0).toNat=c.toNat)(hb:∀ j,j<i->(fU.getD j 0).toNat≠c.toNat):fw c=i :=
 ob (FC c) fU i (Nat.le_of_lt hi) hb (.inr λh2=>h2 h)
theorem bL4(hb:∀ j,j<64->(fU.getD j 0).toNat≠c.toNat):fw c=64:=ob (FC c) fU 64 (bV _) hb (.inl rfl)
theorem Uk(h:fw c<64):fU.getD (fw c) 0=c:=by
 rcases PA (FC c) fU with h1 | h1
 . have:fw c=64:=h1
   omega
 ·exact q5.1 (nB.1 h1)
theorem bL2:∀ k:Fin 64,fw (fU.getD k.val 0)=k.val:=by decide +kernel
theorem bL1(h:k<64):fw (fU.getD k 0)=k:=bL2 ⟨k,h⟩
def lN (a k:Nat):Nat:=(a >>> k)%2
theorem aWo (a k:Nat):lN a k<2:=Nat.mod_lt _ (by decide)
def h4 (l:List UInt8)(i:Nat):Nat:=if i / 8<l.length then lN (l.getD (i / 8) 0).toNat (7-i%8) else 0
def rf (s:List UInt8)(i:Nat):Nat:=lN (fw (s.getD (i / 6) 0)) (5-i%6)
def acc (f:Nat->Nat)(i:Nat):Nat->Nat
 | 0=>0
 | t+1=>2*acc f i t+f (i+t)
theorem aHv {f:Nat->Nat}(hf:∀ i,f i<2)(i t:Nat):acc f i t<2^t:=by
 induction t with
 | zero=>simp [acc]
 | succ t ih =>
  have:=hf (i+t);rw [acc,Nat.pow_succ];omega
theorem Mt {f g:Nat->Nat}:∀ t,(∀ j,j<t->f (i+j)=g (i+j))->acc f i t=acc g i t
 | 0,_=>rfl
 | t+1,h=>by rw [acc,acc,Mt t (λj ax=>h j I),h t I]
theorem cEd:∀ a:Fin 64,acc (λk=>lN a.val (5-k)) 0 6=a.val:=by decide +kernel
theorem bMh:∀ a:Fin 64,acc (λk=>if k<4 then lN a.val (5-k) else 0) 0 6=a.val-a.val%4:=by decide +kernel
theorem cFw:∀ a:Fin 64,acc (λk=>if k<2 then lN a.val (5-k) else 0) 0 6=a.val-a.val%16:=by decide +kernel
theorem Mu (f:Nat->Nat)(i:Nat):∀ t,acc f i t=acc (λk=>f (i+k)) 0 t
 | 0=>rfl
 | t+1=>by rw [acc,acc,Mu f i t,gV]
def jm (s:List UInt8)(m i:Nat):Nat:=if i<8*m then rf s i else 0
theorem bIs(h:6*j+6<=8*m)(a6:fw (s.getD j 0)<64):acc (jm s m) (6*j) 6=fw (s.getD j 0):=by
 rw [Mu];refine Eq.trans (Mt 6 λk hk=>?_) (cEd ⟨_,a6⟩);simp only [gV];unfold jm rf;rw [U I,show (6*j+k) / 6=j by omega,show (6*j+k)%6=k by omega]
theorem aLb(h:6*j+4=8*m)(a6:fw (s.getD j 0)<64):acc (jm s m) (6*j) 6=fw (s.getD j 0)-fw (s.getD j 0)%4:=by
 rw [Mu];refine Eq.trans (Mt 6 λk hk=>?_) (bMh ⟨_,a6⟩);simp only [gV];unfold jm rf;by_cases ar:k<4
 ·rw [U I,U ar,show (6*j+k) / 6=j by omega,show (6*j+k)%6=k by omega]
 ·rw [O I,O ar]
theorem aLc(h:6*j+2=8*m)(a6:fw (s.getD j 0)<64):acc (jm s m) (6*j) 6=fw (s.getD j 0)-fw (s.getD j 0)%16:=by
 rw [Mu];refine Eq.trans (Mt 6 λk hk=>?_) (cFw ⟨_,a6⟩);simp only [gV];unfold jm rf;by_cases ar:k<2
 ·rw [U I,U ar,show (6*j+k) / 6=j by omega,show (6*j+k)%6=k by omega]
 ·rw [O I,O ar]
def D9 (f:Nat->Nat)(m:Nat):List UInt8:=(List.range ((8*m+5) / 6)).map λj=>fU.getD (acc f (6*j) 6) 0
def Ea (f:Nat->Nat)(m:Nat)(xE:Bool):List UInt8:=D9 f m++pk (if xE=true then (4-(8*m+5) / 6%4)%4 else 0) 61
theorem bI3 (f:Nat->Nat)(m:Nat):(D9 f m).length=(8*m+5) / 6:=by unfold D9;rw [fT,List.length_range]
theorem aLf {f:Nat->Nat}(h:j<(8*m+5) / 6):(D9 f m)[j]?=some (fU.getD (acc f (6*j) 6) 0):=by
 unfold D9;rw [eF,List.getElem?_range h];rfl
theorem bYb (s:List UInt8):c4 s<=s.length:=FL sH s
theorem xz(h:j<c4 s):fw (s.getD j 0)<64:=Yf sH s j h
theorem aWn{n:Nat}(h:j<n):(s.take n).getD j 0=s.getD j 0:=sn s n j h
theorem bIt(hm:m=6*c4 s / 8):∀ i,jm (s.take (c4 s)) m i=jm s m i:=by
 intro i;unfold jm rf;split
 ·rw [aWn I]
 ·rfl
theorem Im(h:j<s.length):s[j]?=some (s.getD j 0):=by
 rw [hZ,bS h];rfl
theorem aZu (s:List UInt8):Ea (jm s (6*c4 s / 8)) (6*c4 s / 8) true=s↔pu s:=by
 have j2:=bYb s
 generalize hm:6*c4 s / 8=m
 have tL:=bI3 (jm s m) m;unfold Ea;rw [U B];have hr:c4 s%4=0\/c4 s%4=1\/c4 s%4=2\/c4 s%4=3:=I;have dig:∀ j,6*j+6<=8*m->j<c4 s->fU.getD (acc (jm s m) (6*j) 6) 0=s.getD j 0:=by
  intro j h1 h2;rw [bIs h1 (xz h2),Uk (xz h2)]
 constructor
 . intro h
   have nW:=aD eC h;rw [aQ,tL,SH] at nW;have oP:∀ j,j<(8*m+5) / 6->s.getD j 0=fU.getD (acc (jm s m) (6*j) 6) 0:=by
    intro j ax;have h1:=aD (λl:List UInt8=>l[j]?) h;rw [l9 (by rw [tL];exact ax),aLf ax,Im I] at h1;exact (mb h1).symm
   have dc:(8*m+5) / 6=c4 s->∀ c∈s.drop (c4 s),c.toNat=61:=by
    intro he c hc;have e:s.drop (c4 s)=pk ((4-(8*m+5) / 6%4)%4) 61:=by
     conv=>lhs;arg 2;rw [<- h]
     rw [<- he,List.drop_append_of_le_length (by rw [tL];exact bV _),q0 (by rw [tL];exact bV _),gG]
    rw [e] at hc;rw [List.eq_of_mem_replicate hc];rfl
   rcases hr with hr | hr | hr | hr
   ·exact ⟨dc I,.inl ⟨hr,I⟩⟩
   ·exfalso;omega
   . refine ⟨dc I,.inr (.inl ⟨hr,I,?_⟩)⟩
     have h1:=oP (c4 s-1) I;rw [aLc I (xz I)] at h1;exact Zs
   . refine ⟨dc I,.inr (.inr ⟨hr,I,?_⟩)⟩
     have h1:=oP (c4 s-1) I;rw [aLb I (xz I)] at h1;exact Zs
 . rintro ⟨hp,h⟩
   have nW:(8*m+5) / 6=c4 s/\s.length=c4 s+(4-(8*m+5) / 6%4)%4:=by
    rcases h with ⟨h1,h2⟩ | ⟨h1,h2,_⟩ | ⟨h1,h2,_⟩ <;> omega
   refine List.ext_getElem? λj=>?_
   rcases ma j (c4 s) with ax | ax
   . rw [l9 (by rw [tL];omega),aLf I,Im I]
     congr 1
     by_cases hf:6*j+6<=8*m
     ·exact dig j hf ax
     . have tN:j=c4 s-1:=I
       subst tN;rcases h with ⟨h1,h2⟩ | ⟨h1,h2,Y⟩ | ⟨h1,h2,Y⟩
       ·exfalso;omega
       ·rw [aLc I (xz ax),Y,Nat.sub_zero,Uk (xz ax)]
       ·rw [aLb I (xz ax),Y,Nat.sub_zero,Uk (xz ax)]
   . rw [pj (by rw [tL];omega),tL,List.getElem?_replicate]
     split
     . have Vr:j<s.length:=I
       rw [Im Vr]
       congr 1
       have h1:=hp (s.getD j 0) (by
        rw [List.mem_iff_getElem?];exact ⟨j-c4 s,by rw [tc,show c4 s+(j-c4 s)=j by omega,Im Vr]⟩)
       exact (q5.1 h1).symm
     ·rw [List.getElem?_eq_none I]
theorem aZi:∀ (a:Fin 256) (k:Fin 8),cQ .and .i64 (shr .u8 (a.val:Int) k.val) 1=((lN a.val k.val:Nat):Int):=by decide +kernel
theorem aZh(a6:a<256)(hk:k<8):cQ .and .i64 (shr .u8 (a:Int) k) 1=((lN a k:Nat):Int):=aZi ⟨a,a6⟩ ⟨k,hk⟩
theorem aZj:∀ (a:Fin 64) (k:Fin 6),cQ .and .i64 (shr .i64 (a.val:Int) k.val) 1=((lN a.val k.val:Nat):Int):=by decide +kernel
theorem aZk(a6:a<64)(hk:k<6):cQ .and .i64 (shr .i64 (a:Int) k) 1=((lN a k:Nat):Int):=aZj ⟨a,a6⟩ ⟨k,hk⟩
theorem bZq:∀ (a:Fin 256) (b:Fin 2) (k:Fin 8),∀ j:Fin 8,lN (cQ .or .u8 (a.val:Int) (shl .u8 (b.val:Int) k.val)).toNat j.val=if j.val=k.val then max (lN a.val j.val) b.val else lN a.val j.val:=by decide +kernel
theorem bZp(a6:a<256)(hb:b<2)(hk:k<8):∃ c:UInt8,cQ .or .u8 (a:Int) (shl .u8 (b:Int) k)=((c.toNat:Nat):Int)/\∀ j,j<8->lN c.toNat j=if j=k then max (lN a j) b else lN a j:=by
 obtain ⟨c,hc⟩:=bZn a6 hb hk;refine ⟨c,hc,λj ax=>?_⟩;have:=bZq ⟨a,a6⟩ ⟨b,hb⟩ ⟨k,hk⟩ ⟨j,ax⟩;simp only at this;rw [hc] at this;exact this
theorem SY (l:List UInt8)(i:Nat):h4 l i<2:=by
 unfold h4;split
 ·exact aWo _ _
 ·decide
theorem aZ4 {l:List UInt8}{x:UInt8}(hi:i / 8<l.length)(hx:∀ j,j<8->lN x.toNat j=if j=7-i%8 then max (lN (l.getD (i / 8) 0).toNat j) b else lN (l.getD (i / 8) 0).toNat j)(ap:h4 l i=0)(my:Nat):h4 (l.set (i / 8) x) my=if my=i then b else h4 l my:=by
 unfold h4 at ap ⊢;rw [U hi] at ap;rw [List.length_set];by_cases hq:my / 8=i / 8
 . have j0:my / 8<l.length:=by rw [hq];exact hi
   rw [U j0,U j0,hq];have e:(l.set (i / 8) x).getD (i / 8) 0=x:=by rw [hZ,List.getElem?_set_self hi];rfl
   rw [e,hx _ I];by_cases he:my=i
   ·subst he;rw [U B,U B,ap];exact Nat.zero_max b
   ·rw [O (show ¬ 7-my%8=7-i%8 by omega),O he]
 . have e:(l.set (i / 8) x).getD (my / 8) 0=l.getD (my / 8) 0:=by rw [hZ,List.getElem?_set_ne (λh=>hq h.symm),<- hZ]
   rw [e,O (show ¬ my=i from λh=>hq (by rw [h]))]
theorem aZ5 (m j:Nat):h4 (pk m 0) j=0:=by
 unfold h4;split
 . rename_i h
   rw [SH] at h;have:(pk m (0:UInt8)).getD (j / 8) 0=0:=by rw [hZ,List.getElem?_replicate,U h];rfl
   rw [this];show (0 >>> (7-j%8))%2=0;rw [Nat.zero_shiftRight]
 ·rfl
theorem Y3(h:fw c<64):zR c=((fw c:Nat):Int):=U h
theorem cGm(hi:i<64)(h:(fU.getD i 0).toNat=c.toNat)(hb:∀ j,j<i->(fU.getD j 0).toNat≠c.toNat):zR c=(i:Int):=by
 have:=bL3 hi h hb;rw [Y3 I,this]
theorem cGn(hb:∀ j,j<64->(fU.getD j 0).toNat≠c.toNat):zR c=-1:=by unfold zR;rw [bL4 hb];rfl
theorem Qa (c:UInt8):0<=zR c↔sH c:=by
 unfold zR sH;split
 ·exact ⟨λ_=>by assumption,λ_=>Int.natCast_nonneg _⟩
 ·exact ⟨λh=>absurd h (by decide),λh=>absurd h cj⟩
def A2 (f:Nat->Nat)(k:Nat):List UInt8:=(List.range k).map λj=>fU.getD (acc f (6*j) 6) 0
theorem bI5 (f:Nat->Nat)(k:Nat):A2 f (k+1)=A2 f k++[fU.getD (acc f (6*k) 6) 0]:=by unfold A2;rw [List.range_succ,kc];rfl
theorem aZ3 {l:List UInt8}(hl:l.length=m)(h:∀ i,i<8*m->h4 l i=rf s i):h4 l=jm s m:=by
 funext i
 unfold jm;split
 ·exact h i cj
 ·unfold h4;rw [O I]
theorem aSy(hi:i<=s.length)(hb:∀ j,j<i->sH (s.getD j 0))(he:i=s.length\/¬ sH (s.getD i 0)):c4 s=i:=ob sH s i hi hb he
theorem bZm:∀ (a b:Fin 64),cQ .or .i64 (shl .i64 (a.val:Int) 6) (b.val:Int)=((a.val*64+b.val:Nat):Int):=by decide +kernel
theorem bZl(a6:a<64)(hb:b<64):cQ .or .i64 (shl .i64 (a:Int) 6) (b:Int)=((a*64+b:Nat):Int):=bZm ⟨a,a6⟩ ⟨b,hb⟩
theorem aZn:∀ (a b:Fin 64) (t:Fin 5),cQ .and .i64 ((a.val*64+b.val:Nat):Int) (shl .i64 1 t.val-1)=((b.val%2^t.val:Nat):Int):=by decide +kernel
theorem aZm {t:Nat}(a6:a<64)(hb:b<64)(ht:t<5):cQ .and .i64 ((a*64+b:Nat):Int) (shl .i64 1 t-1)=((b%2^t:Nat):Int):=aZn ⟨a,a6⟩ ⟨b,hb⟩ ⟨t,ht⟩
theorem cD5:∀ t:Fin 5,shl .i64 1 t.val=((2^t.val:Nat):Int):=by decide +kernel
theorem aV3 {t:Nat}(ht:t<5):shl .i64 1 t=((2^t:Nat):Int):=cD5 ⟨t,ht⟩
def mz (s:List UInt8)(k:Nat):Nat:=if k=0 then 0 else fw (s.getD (k-1) 0)%2^(6*k%8)
theorem aSh (s:List UInt8)(k:Nat):mz s (k+1)=fw (s.getD k 0)%2^(6*(k+1)%8):=rfl
theorem bXg (s:List UInt8)(k:Nat):mz s k<2^(6*k%8)/\mz s k<64:=by
 have h:mz s k<2^(6*k%8):=by
  unfold mz;split
  ·exact Nat.two_pow_pos _
  ·exact Nat.mod_lt _ (Nat.two_pow_pos _)
 refine ⟨h,Nat.lt_of_lt_of_le h (pn (by decide) (show 6*k%8<=6 by omega))⟩
theorem aZv(hp:∀ c∈s.drop (c4 s),c.toNat=61):pu s↔(c4 s%4=0/\s.length=c4 s)\/(2<=c4 s%4/\s.length=c4 s+(4-c4 s%4)/\mz s (c4 s)=0):=by
 have aZ:c4 s%4=2->mz s (c4 s)=fw (s.getD (c4 s-1) 0)%16:=λh=>by unfold mz;rw [O I,show 6*c4 s%8=4 by omega]
 have gg:c4 s%4=3->mz s (c4 s)=fw (s.getD (c4 s-1) 0)%4:=λh=>by unfold mz;rw [O I,show 6*c4 s%8=2 by omega]
 constructor
 . rintro ⟨_,h | ⟨h1,h2,Y⟩ | ⟨h1,h2,Y⟩⟩
   ·exact .inl h
   ·exact .inr ⟨I,I,by rw [aZ h1];exact Y⟩
   ·exact .inr ⟨I,I,by rw [gg h1];exact Y⟩
 . rintro (h | ⟨h1,h2,Y⟩)
   ·exact ⟨hp,.inl h⟩
   . have:c4 s%4=2\/c4 s%4=3:=I
     rcases this with h | h
     ·exact ⟨hp,.inr (.inl ⟨h,I,by rw [<- aZ h];exact Y⟩)⟩
     ·exact ⟨hp,.inr (.inr ⟨h,I,by rw [<- gg h];exact Y⟩)⟩
theorem bJj(rA:i<=j)(ax:j<s.length):s.getD j 0∈s.drop i:=by
 rw [List.mem_iff_getElem?];exact ⟨j-i,by rw [tc,show i+(j-i)=j by omega,Im ax]⟩
theorem aZg(h:∀ j,i<=j->j<s.length->(s.getD j 0).toNat=61):∀ c∈s.drop i,c.toNat=61:=by
 intro c hc;obtain ⟨j,ax⟩:=jX hc;rw [tc] at ax;have hl:=(bT.1 ax).1;have:=h (i+j) I hl;rw [hZ,ax] at this;exact this
end Go.Dk
end
section
namespace Go.Proofs.YthiafbkolhnadaaGreatDoor
open Go Go.Dk Go.RowKit Go.Lib
attribute [local irreducible] Go.wpList Go.Code.wp Go.bodyPost Go.wpStill Go.wpQuiet
theorem bX3:∃ i z,W.info? 5=some i/\i.zero=some z/\i.size=1/\i.bytes=1/\z.cells=[Value.int .u8 0].toArray:=by
 exact aAm
theorem aJc (c:UInt8)(w0:World):Fc W 279 [M fU,.int .u8 ((c.toNat:Nat):Int)] w0 (λv _=>v=.int .i64 (zR c)):=by
 refine aI Tryz.func279 B Tryz.ntmps279 B ?_;have G:=Ctx.start w0;have Iv:fU.length=64:=B;refine cF ?_;refine bu (λg f ah=>∃ (i:Nat),g=64-i/\(i<=64)/\(∀ j,j<i->(fU.getD j 0).toNat≠c.toNat)/\f 5=J i/\f 0=M fU/\f 1=.int .u8 ((c.toNat:Nat):Int)/\Cxr w0 ah [] []) ((λ(i:Nat)=>64-i) 0) ?_ ?_
 ·exact ⟨0,B,by decide,(λj h=>I),aJ,B,B,G⟩
 intro h8 f w ai;obtain ⟨i,ni,hi,hb,bF,aB,aK,G⟩:=ai;refine bz ?_;refine Z (λhD=>?_) (λhD=>?_)
 ·refine aG ?_;refine S B B (dm (s:=fU) (i:=i) B B B aF I) ?_;refine ae ?_;refine Z (λc8=>?_) (λc8=>?_)
  ·refine ae ?_;refine mR ?_;refine ag ?_;refine be Tryz.results279 B ?_;exact aB4
  refine qZ ?_;exact ⟨_,_,I,B,i+1,B,I,(λj h=>by by_cases e:j=i;(subst e;omega);exact hb j I),aJ,aB,aK,G⟩
 refine az ?_;refine be Tryz.results279 B ?_;exact aB5
theorem bDa (v:Value)(l:List UInt8)(i:Nat)(w0:World)(hb:SlR w0 v l.length (l.map bv))(hl:l.length<=5000000)(hi:i<=100000000):Fc W 238 [v,J i] w0 (λu _=>u=(J (h4 l i))):=by
 obtain ⟨a,c,b,rfl,a6⟩:=hb.form;refine aI Tryz.func238 B Tryz.ntmps238 B ?_;have G:=Ctx.start w0;refine bz ?_;refine RG ?_;refine an ?_;refine Z (λhD=>?_) (λhD=>?_)
 ·refine aq ?_;refine be Tryz.results238 B ?_;exact ⟨G.ext,aD (λn:Nat=>Value.int .i64 (n:Int)) (show 0=h4 l i by unfold h4;rw [O I])⟩
 have hq:i / 8<l.length:=I;obtain ⟨rfl,cz⟩:=a6 I;have bVu:(l.map bv)[i / 8]?=some (bv (l.getD (i / 8) 0)):=by rw [eF,getD_some hq];rfl
 have bTu:=cz.one bVu;have Bk:=(l.getD (i / 8) 0).toNat_lt;have mv:0<=shr .u8 (((l.getD (i / 8) 0).toNat:Nat):Int) (dw ((7-i%8:Nat):Int))/\shr .u8 (((l.getD (i / 8) 0).toNat:Nat):Int) (dw ((7-i%8:Nat):Int))<256:=cEb Bk I;refine aq ?_;refine RG ?_;refine GD ?_;refine S B B (br B B en B ((bTu.up G.ext).cell 0 B)) ?_;refine ab ?_;refine S B B (v8 (q:=8) B B B (by decide)) ?_;refine aD6 ?_;refine aD7 ?_;refine Lk ?_;refine S B B (v7 B B en dq mv.1 mv.2) ?_;refine p0 ?_;refine ae ?_;refine be Tryz.results238 B ?_;exact ⟨G.ext,aD (Value.int .i64) (by unfold h4;rw [U hq];exact aZh Bk I)⟩
theorem bCf (v:Value)(l:List UInt8)(xE:Bool)(w0:World)(hb:SlR w0 v l.length (l.map bv))(hl:l.length<=5000000):Fc W 162 [v,.bool xE] w0 (λu _=>u=(M (Ea (h4 l) l.length xE))):=by
 obtain ⟨a,c,b0,rfl,a6⟩:=hb.form;refine aI Tryz.func162 B Tryz.ntmps162 B ?_;have G:=Ctx.start w0;refine kD ?_;refine bu (λg f ah=>∃ (q:Nat) (v5:Value),g=(8*l.length+5) / 6-q/\q<=(8*l.length+5) / 6/\f 0=.slice a l.length c/\f 1=.bool xE/\f 5=v5/\f 6=J (6*q)/\Cxr w0 ah [] [⟨5,1,v5,q,(A2 (h4 l) q).map bv⟩]) ((8*l.length+5) / 6) ?_ ?_
 ·exact ⟨0,_,I,I,B,B,B,B,G.nilRow 5 1⟩
 intro gJ f w ai;obtain ⟨q,v5,aH,aw,aB,aK,bF,aL,G⟩:=ai;obtain ⟨i,aOk⟩:∃ i,i=6*q:=⟨_,rfl⟩;rw [<- aOk] at aL;refine cK ?_;refine Z (λe8=>?_) (λe8=>?_)
 ·refine kD ?_;refine bu (λg f ah=>∃ (k n:Nat),g+k=i+6/\i<=k/\n=acc (h4 l) i (k-i)/\f 0=.slice a l.length c/\f 1=.bool xE/\f 5=v5/\f 6=.int .i64 i/\f 7=.int .i64 n/\f 8=.int .i64 k/\Cxr w0 ah [] [⟨5,1,v5,q,(A2 (h4 l) q).map bv⟩]) (6) ?_ ?_
  ·exact ⟨i,0,I,I,(by rw [Nat.sub_self];rfl),aB,aK,bF,aL,B,B,G⟩
  intro qi f w ai;obtain ⟨k,n,bPy,w5,hn,aB,aK,bF,aL,aS,bb,G⟩:=ai;refine bz ?_;refine Z (λct=>?_) (λct=>?_)
  ·have bRk:n<32:=by
    have h1:2^(k-i)<=2^5:=pn (by decide) I;have h2:=aHv (SY l) i (k-i);omega
   refine aq ?_;refine Le ?_;refine ag ?_;refine bG G (bDa _ l k _ (hb.up G.ext) I I) Tryz.func238 B B B B B B ?_;intro Yk w G zk Jd;subst Jd;refine S B B ((Qc B B B).trans (by rw [show cQ .or .i64 (shl .i64 (n:Int) (dw 1)) ((h4 l k:Nat):Int)=((2*n+h4 l k:Nat):Int) from bZs bRk (SY l k)])) ?_;refine aG ?_;refine ⟨qi-1,_,I,B,k+1,2*n+h4 l k,I,I,?_,aB,aK,bF,aL,B,B,G⟩;rw [show k+1-i=(k-i)+1 by omega,acc,<- hn,show i+(k-i)=k by omega]
  have Vt:k-i=6:=I;have cOz:n<64:=by
   have h2:=aHv (SY l) i (k-i);rw [<- hn,Vt] at h2;exact h2
  refine an ?_;refine S B B (vY (s:=fU) B B B aF I (by rw [show fU.length=64 from B];omega)) ?_;refine qT ?_;intro AP w G Ep Ox;refine xY ?_;intro cGe w G cNe;replace G:=G.drop 1;refine aG ?_;exact ⟨gJ-1,_,I,B,q+1,_,I,I,aB,aK,B,aD (Value.int .i64) I,G.row_eq B (by rw [bI5,kc,<- aOk,<- Vt,<- hn];rfl)⟩
 refine ae ?_;refine bu (λg f ah=>∃ (r:Nat) (v5:Value),g+r=(4-q%4)%4/\(xE=false->r=0)/\f 0=.slice a l.length c/\f 1=.bool xE/\f 5=v5/\Cxr w0 ah [] [⟨5,1,v5,q+r,(A2 (h4 l) q++pk r 61).map bv⟩]) ((4-q%4)%4) ?_ ?_
 ·have aPz:(8*l.length+5) / 6=q:=I;exact ⟨0,v5,I,λ_=>rfl,aB,aK,bF,G.row_eq B (by rw [List.replicate_zero,cH])⟩
 intro Ei f w ai;obtain ⟨r,v5,fx,bTv,aB,aK,bF,G⟩:=ai;have aPz:(8*l.length+5) / 6=q:=I;obtain ⟨a5,yy,rfl⟩:=G.rowSl;refine aG ?_;refine aD8 ?_;refine ae ?_;refine Z (λiA=>?_) (λiA=>?_)
 ·refine an ?_;refine qT ?_;intro cI8 w G cLn cQt;refine xY ?_;intro cUe w G cNk;replace G:=G.drop 1;refine ag ?_;exact ⟨Ei-1,_,I,B,r+1,_,I,(λh=>by rw [h] at iA;simp at iA),aB,aK,B,G.row_eq I (by rw [List.replicate_succ',<- eB,kc (l₂:=[61])];rfl)⟩
 refine an ?_;refine aDv ?_;refine ae ?_;refine be Tryz.results162 B ?_;refine ⟨G.ext,aD (λl=>(M l)) ?_⟩;unfold Ea D9;rw [show (List.range ((8*l.length+5) / 6)).map (λj=>fU.getD (acc (h4 l) (6*j) 6) 0)=A2 (h4 l) q from by rw [aPz];rfl]
 congr 2
 cases xE with
 | false=>rw [O (by decide)];exact bTv B
 | true=>rw [U rfl];simp at iA;omega
theorem bDo (s:List UInt8)(w0:World)(hs:s.length<=5000000)(qj:∀ j,j<s.length->fw (s.getD j 0)<64):Fc W 280 [M s] w0 (λv w'=>∃ l:List UInt8,w'.ownsRow w0.heap.size 5 1 v l.length (l.map bv)/\l.length=s.length*6 / 8/\∀ i,i<8*l.length->h4 l i=rf s i):=by
 refine aI Tryz.func280 B Tryz.ntmps280 B ?_;have G:=Ctx.start w0;refine cK ?_;refine S B B (CL (p:=s.length*6) (q:=8) B (show _=(J (s.length*6)) by exact aD (Value.int .i64) I) B I (by decide)) ?_;refine aVw (nn:=s.length*6 / 8) G fk bX3 B B B B B I FH ?_;intro vW w G cMw bUo;obtain ⟨g0,rfl⟩:=bUo;refine bz ?_;refine bu (λg f ah=>∃ (i:Nat) (l:List UInt8),g+i=8*(s.length*6 / 8)/\l.length=s.length*6 / 8/\(∀ j,j<i->h4 l j=rf s j)/\(∀ j,i<=j->h4 l j=0)/\f 0=M s/\f 3=.slice (some ⟨g0,0,none⟩) (s.length*6 / 8) (s.length*6 / 8)/\f 4=.int .i64 i/\Cxr w0 ah [] [⟨5,1,.slice (some ⟨g0,0,none⟩) (s.length*6 / 8) (s.length*6 / 8),s.length*6 / 8,l.map bv⟩]) (8*(s.length*6 / 8)) ?_ ?_
 ·exact ⟨0,pk (s.length*6 / 8) 0,I,by simp,(λj h=>I),(λj _=>aZ5 _ j),B,B,B,G.row_eq B (by rw [List.map_replicate];rfl)⟩
 intro gJ f w ai;obtain ⟨i,l,aH,nW,aNw,hz,aB,aR,aM,G⟩:=ai;refine cK ?_;refine Z (λef=>?_) (λef=>?_)
 ·refine aG ?_;have ss:=qj (i / 6) I;refine S B B (CL (q:=6) B B B I (by decide)) ?_;refine x4 ?_;refine bG G (aJc (s.getD (i / 6) 0) _) Tryz.func279 B B B B B B ?_;intro Yj w G E7 EO;rw [Y3 ss] at EO;subst EO;refine ae ?_;have bO4:rf s i<2:=aWo _ _;have aOl:i / 8<l.length:=I;obtain ⟨x,hx,bV3⟩:=bZp (a:=(l.getD (i / 8) 0).toNat) (b:=rf s i) (k:=7-i%8) (l.getD (i / 8) 0).toNat_lt bO4 I;refine ag ?_;refine RG ?_;refine GD ?_;refine S B B (br B B en B ((cCr G aOl).cell 0 B)) ?_;refine ag ?_;refine S B B (v8 (q:=6) B B B (by decide)) ?_;refine S B B (s0 (r:=((5-i%6:Nat):Int)) B B B I I I) ?_;refine S B B (Y6 (m:=5-i%6) B B dq Tryz.underlying237 I) ?_;refine Lk ?_;refine S B B ((Y4 B B B).trans (by rw [show cQ .and .i64 (shr .i64 ((fw (s.getD (i / 6) 0):Nat):Int) (dw ((5-i%6:Nat):Int))) 1=((rf s i:Nat):Int) from aZk ss I])) ?_;refine S B B ((show (execOp _ _).run W _=.ok (.value (.int .u8 ((rf s i:Nat):Int))) _ from (xR B B dq en).trans (by rw [rU I]))) ?_;refine ab ?_;refine S B B (v8 (q:=8) B B B (by decide)) ?_;refine aD6 ?_;refine aD7 ?_;refine S B B (Y9 B B B I) ?_;refine S B B ((Qc B B B).trans (by rw [show cQ .or .u8 (((l.getD (i / 8) 0).toNat:Nat):Int) (shl .u8 ((rf s i:Nat):Int) (dw ((7-i%8:Nat):Int)))=((x.toNat:Nat):Int) from hx])) ?_;refine GD ?_;refine YA (v:=bv x) G B B B B B B (by rw [fT];omega) mJ ?_;intro w G aOi;rw [show 0+dw ((i / 8:Nat):Int)*1=i / 8 by omega,<- List.map_set] at G;refine az ?_;have Bj:=aZ4 aOl bV3 (hz i (bV _));exact ⟨gJ-1,_,I,B,i+1,l.set (i / 8) x,I,by rw [List.length_set,nW],(λj h=>by rw [Bj];split;(rename_i e;rw [e]);exact aNw j I),(λj h=>by rw [Bj,O I];exact hz j I),aB,aR,B,G⟩
 refine aG ?_;refine be Tryz.results280 B ?_;have h:=G.rows _ (b9 ..);simp only at h;refine ⟨G.ext,l,?_,nW,λj ax=>aNw j I⟩;rw [nW];exact h
theorem bCs (s:List UInt8)(w0:World)(hs:s.length<=5000000):Fc W 200 [M s,.bool true] w0 (λv w'=>∃ (u:Value) (l:List UInt8) (e:Nat),v=.tuple #[u,J e]/\w'.ownsRow w0.heap.size 5 1 u l.length (l.map bv)/\(e=0↔pu s)/\(e=0->l.length=6*c4 s / 8)):=by
 refine aI Tryz.func200 B Tryz.ntmps200 B ?_;have G:=Ctx.start w0;refine gp ?_;refine bu (λg f ah=>∃ i:Nat,g+i=s.length/\i<=s.length/\(∀ j,j<i->sH (s.getD j 0))/\f 0=M s/\f 1=.bool true/\f 6=.int .i64 i/\Ctx w0 ah []) (s.length) ?_ ?_
 ·exact ⟨0,I,I,(λj h=>I),B,B,B,G⟩
 intro h8 f w ai;obtain ⟨i,aH,hi,hb,aB,aK,aL,G⟩:=ai;refine cF ?_;refine Db ?_;refine FQ G B B B aO (λhc=>aJc (s.getD (dw (i:Int)) 0) _) Tryz.func279 B B B (λhc=>(aX B (aX l2 B))) ?_;intro Yh w G E6 BM;refine aN B B B aO (λhc=>gQ B ((fV hc B).trans (BM hc)) B B) ?_;refine ag ?_;refine Z (λeH=>?_) (λeH=>?_)
 ·refine aG ?_;exact ⟨h8-1,_,I,B,i+1,I,I,(λj h=>by by_cases e:j=i;(subst e;exact (Qa _).1 eH.2);exact hb j I),aB,aK,B,G⟩
 refine aq ?_;refine S B B (Y5 B B B aF I I) ?_;have AV:=G;have I8:c4 s=i:=aSy hi hb (by
  rcases eH with h | h
  ·exact .inl I
  ·exact .inr λh2=>absurd ((Qa _).2 h2) h)
 refine bG G (bDo (s.take (dw (i:Int))) _ vD (λj ax=>by rw [dS] at ax;rw [aWn I];exact hb j I)) Tryz.func280 B B B B B B ?_;intro Kj w G tX vp;obtain ⟨l,cz,ie,UL⟩:=vp;rw [dS,yn I] at ie;replace ie:l.length=i*6 / 8:=ie;replace G:=AV.callRow tX cz;have yP:h4 l=jm s (6*c4 s / 8):=by
  rw [aZ3 (s:=s.take i) (m:=6*c4 s / 8) I (λj ax=>UL j I)]
  funext j
  have:=bIt (s:=s) (m:=6*c4 s / 8) B j;rw [I8] at this ⊢;exact this
 have yY:Ea (h4 l) l.length true=s↔pu s:=by
  rw [yP,show l.length=6*c4 s / 8 by omega];exact aZu s
 refine az ?_;refine bG G (bCf Kj l true _ (LR.slr (k:=1) (e:=5) G (.inr (b9 ..)) I) I) Tryz.func162 B B B B B B ?_;intro aUk w G Ov EP;subst EP;refine aG ?_;refine S B B (ga (s:=Ea (h4 l) l.length true) (u:=s) B B B) ?_;refine ab ?_;refine Z (λfJ=>?_) (λfJ=>?_)
 ·refine aG ?_;refine dY Tryz.results200 B B ?_;exact ⟨G.ext,Kj,l,0,B,G.rows _ (b9 ..),⟨λ_=>yY.1 fJ,λ_=>rfl⟩,λ_=>I⟩
 refine Ht ?_;refine aN B B B aO (λhc=>Y5 B ay ay aF eJ eJ) ?_;refine ab ?_;refine aN B B B aO (λhc=>ga B ay ay) ?_;refine ae ?_;refine Z (λID=>?_) (λID=>?_)
 ·refine az ?_;exact aAs
 refine aG ?_;exact aAs
end Go.Proofs.YthiafbkolhnadaaGreatDoor
end
section
namespace Go.Dk
open Go Go.RowKit Go.Lib
def zq (y:Nat):Bool:=(y%4==0&&y%100 != 0)||y%400==0
def o2 (y m:Nat):Nat :=
 if y<1\/9999<y then 0 else if m=1\/m=3\/m=5\/m=7\/m=8\/m=10\/m=12 then 31 else if m=4\/m=6\/m=9\/m=11 then 30 else if m=2 then (if zq y then 29 else 28) else 0
theorem O8 (y m:Nat):o2 y m<=31:=by
 unfold o2
 repeat' split
 all_goals omega
def Fx (y:Nat):Nat->Nat
 | 0=>0
 | m+1=>Fx y m+o2 y (m+1)
def O2 (y:Nat):Nat:=Fx y 12
theorem aSp (y m:Nat):Fx y m<=31*m:=by
 induction m with
 | zero=>simp [Fx]
 | succ m ih =>
  have:=O8 y (m+1);simp only [Fx];omega
theorem bXa (y:Nat):O2 y<=372:=by
 have:=aSp y 12;unfold O2;omega
theorem Zl (p:Int):0<=IntKind.u8.wrap p/\IntKind.u8.wrap p<256:=by
 simp [IntKind.wrap,IntKind.signed,IntKind.bits];omega
end Go.Dk
namespace Go.Dk
open Go Go.RowKit Go.Lib
end Go.Dk
end
section
namespace Go.Dk
open Go Go.RowKit Go.Lib Go.Proofs.YthiafbkolhnadaaGreatDoor
variable {s:List UInt8}
def cD:List UInt8->List UInt8->Bool
 | [],_=>true
 | _::_,[]=>false
 | p::ps,c::cs=>(if p.toNat=100 then decide (bf c) else decide (c.toNat=p.toNat))&&cD ps cs
theorem JZ:∀ p s:List UInt8,cD p s=true↔p.length<=s.length/\∀ i,i<p.length->if (p.getD i 0).toNat=100 then bf (s.getD i 0) else (s.getD i 0).toNat=(p.getD i 0).toNat
 | [],s=>by simp [cD]
 | p::ps,[]=>by simp [cD]
 | p::ps,c::cs=>by
  rw [cD,fS,JZ ps cs];constructor
  . rintro ⟨h1,h2,Y⟩
    refine ⟨by simpa using h2,λi hi=>?_⟩
    cases i with
    | zero =>
     show if p.toNat=100 then bf c else c.toNat=p.toNat
     split
     ·rw [U cj] at h1;exact of_decide_eq_true h1
     ·rw [O cj] at h1;exact of_decide_eq_true h1
    | succ i=>exact Y i (by simpa using hi)
  . rintro ⟨h1,h2⟩
    refine ⟨?_,by simpa using h1,λi hi=>h2 (i+1) (by simpa using hi)⟩;have Y:if p.toNat=100 then bf c else c.toNat=p.toNat:=h2 0 (by simp)
    split
    ·rw [U cj] at Y;exact decide_eq_true Y
    ·rw [O cj] at Y;exact decide_eq_true Y
def lS:List UInt8:=[100,100,58,100,100,58,100,100]
def na:List UInt8:=[100,100,100,100,45,100,100,45,100,100]
def Cs:List UInt8:=[43,100,100,58,100,100]
def Ce:List UInt8:=[45,100,100,58,100,100]
def l4 (s:List UInt8):Option ((Nat×Nat×Nat)×List UInt8) :=
 if cD lS s=true then
  (if ((s.drop 8).getD 0 0).toNat=46 then
    (if 1<=aT (s.drop 9)/\aT (s.drop 9)<=9 then some ((ba (s.take 2),ba ((s.drop 3).take 2),ba ((s.drop 6).take 2)),(s.drop 9).drop (aT (s.drop 9))) else none)
  else some ((ba (s.take 2),ba ((s.drop 3).take 2),ba ((s.drop 6).take 2)),s.drop 8))
 else none
def l3 (x:Nat×Nat×Nat):Bool:=decide (x.1<=23/\x.2.1<=59/\x.2.2<=59)
def xI (x:Nat×Nat):Bool:=decide (x.1<=23/\x.2<=59)
def j9 (s:List UInt8):Option Bool:=if s=[90]\/s=[122] then some true else if s.length=6/\(cD Cs s=true\/cD Ce s=true) then some (xI (ba ((s.drop 1).take 2),ba ((s.drop 4).take 2))) else none
def gm (y m d:Nat):Bool:=decide (1<=d/\d<=o2 y m)
def h3 (b:Bool):Nat:=if b=true then 0 else 2
def sS (c:UInt8):Prop:=c.toNat=84\/c.toNat=116\/c.toNat=32
instance sepTD (c:UInt8):Decidable (sS c):=by unfold sS;infer_instance
def ue (v:Bool)(r:List UInt8):Nat :=
 if r=[] then h3 v else if ¬ sS (r.getD 0 0) then 3 else
  match l4 (r.drop 1) with
  | none=>3
  | some (x,q)=>if q=[] then h3 (v&&l3 x) else
   match j9 q with
   | none=>3
   | some o=>h3 (v&&(l3 x&&o))
def fL (s:List UInt8):Nat :=
 if cD na s=true then ue (gm (ba (s.take 4)) (ba ((s.drop 5).take 2)) (ba ((s.drop 8).take 2))) (s.drop 10)
 else match l4 s with
  | none=>3
  | some (x,q)=>if q=[] then h3 (l3 x) else 3
def cE (k:Nat)(s:List UInt8):Option (Nat×List UInt8):=if k<=s.length/\∀ c∈s.take k,bf c then some (ba (s.take k),s.drop k) else none
def dz (a:List UInt8)(s:List UInt8):Option (UInt8×List UInt8):=if s≠[]/\s.getD 0 0∈a then some (s.getD 0 0,s.drop 1) else none
def FJ (s:List UInt8):Option (List UInt8):=if 1<=aT s/\aT s<=9 then some (s.drop (aT s)) else none
def oa (s:List UInt8):Option ((Nat×Nat×Nat)×List UInt8) :=
 (cE 4 s).bind λy=>(dz [45] y.2).bind λa=>(cE 2 a.2).bind λm=>(dz [45] m.2).bind λb=>(cE 2 b.2).bind λd=>some ((y.1,m.1,d.1),d.2)
def qJ (s:List UInt8):Option ((Nat×Nat×Nat)×List UInt8) :=
 (cE 2 s).bind λy=>(dz [58] y.2).bind λa=>(cE 2 a.2).bind λm=>(dz [58] m.2).bind λb=>(cE 2 b.2).bind λd=>some ((y.1,m.1,d.1),d.2)
def vF (s:List UInt8):Option ((Nat×Nat×Nat)×List UInt8) :=
 (qJ s).bind λx=>if (x.2.getD 0 0).toNat=46 then (FJ (x.2.drop 1)).bind λq=>some (x.1,q) else some x
def o6 (s:List UInt8):Option ((Nat×Nat)×List UInt8) :=
 (dz [90,122,43,45] s).bind λc=>if c.1.toNat=43\/c.1.toNat=45 then (cE 2 c.2).bind λh=>(dz [58] h.2).bind λa=>(cE 2 a.2).bind λm=>some ((h.1,m.1),m.2) else some ((0,0),c.2)
theorem sV (a:UInt8)(n:Nat)(hn:n<256):a=bM n↔a.toNat=n:=by
 constructor
 ·rintro rfl;simp;omega
 ·intro h;exact q5.1 (by rw [h];simp;omega)
theorem aT2 (s:List UInt8):oa s=if cD na s=true then some ((ba (s.take 4),ba ((s.drop 5).take 2),ba ((s.drop 8).take 2)),s.drop 10) else none:=by
 match s with
 | [] | [_] | [_,_] | [_,_,_]=>unfold oa cE;simp [cD,na]
 | [a,b,c,d]=>unfold oa cE;simp only [jG,iw,r7,mS];split <;> simp [dz,cD,na]
 | a::b::c::d::e::t =>
  have ho:e=45↔e.toNat=45:=sV e 45 (by decide);by_cases h1:bf a/\bf b/\bf c/\bf d
  . by_cases h2:e.toNat=45
    . have bm:oa (a::b::c::d::e::t)=(cE 2 t).bind λm=>(dz [45] m.2).bind λb2=>(cE 2 b2.2).bind λx=>some ((ba [a,b,c,d],m.1,x.1),x.2):=by
        unfold oa;have:cE 4 (a::b::c::d::e::t)=some (ba [a,b,c,d],e::t):=by unfold cE;rw [U];rfl;simp [h1]
        rw [this,ke];have:dz [45] (e::t)=some (e,t):=by unfold dz;rw [U];rfl;simp [ho,h2]
        simp only [this,ke]
      rw [bm]
      match t with
      | [] | [_]=>simp [cE,cD,na]
      | [f,g]=>unfold cE;simp only [jG,iw,r7,mS];split <;> simp [dz,cD,na]
      | f::g::h::t =>
       have aMs:h=45↔h.toNat=45:=sV h 45 (by decide);by_cases Y:bf f/\bf g
       . have:cE 2 (f::g::h::t)=some (ba [f,g],h::t):=by unfold cE;rw [U];rfl;simp [Y]
         rw [this,ke];by_cases ar:h.toNat=45
         . have:dz [45] (h::t)=some (h,t):=by unfold dz;rw [U];rfl;simp [aMs,ar]
           simp only [this,ke]
           match t with
           | [] | [_]=>simp [cE,cD,na]
           | i::j::t =>
            by_cases bd:bf i/\bf j
            . have:cE 2 (i::j::t)=some (ba [i,j],t):=by unfold cE;rw [U];rfl;simp [bd]
              rw [this,ke,U]
              ·rfl
              ·simp [cD,na,h1,h2,Y,ar,bd]
            . have:cE 2 (i::j::t)=none:=by unfold cE;rw [O];simp;intro h6 h7;exact bd ⟨h6,h7⟩
              rw [this,O]
              ·rfl
              ·simp [cD,na,h1,h2,Y,ar];intro h6 h7;exact bd ⟨h6,h7⟩
         . have:dz [45] (h::t)=none:=by unfold dz;rw [O];simp [aMs,ar]
           simp only [this,th];rw [O];simp [cD,na,ar]
       . have:cE 2 (f::g::h::t)=none:=by unfold cE;rw [O];simp;intro h6 h7;exact Y ⟨h6,h7⟩
         rw [this,th,O];simp [cD,na];intro _ _ _ _ _ h6 h7;exact absurd ⟨h6,h7⟩ Y
    . have:oa (a::b::c::d::e::t)=none:=by
        unfold oa;have:cE 4 (a::b::c::d::e::t)=some (ba [a,b,c,d],e::t):=by unfold cE;rw [U];rfl;simp [h1]
        rw [this,ke];have:dz [45] (e::t)=none:=by unfold dz;rw [O];simp [ho,h2]
        simp only [this,th]
      rw [this,O];simp [cD,na,h2]
  . have:oa (a::b::c::d::e::t)=none:=by
      unfold oa;have:cE 4 (a::b::c::d::e::t)=none:=by unfold cE;rw [O];simp;intro h6 h7 hq j0;exact h1 ⟨h6,h7,hq,j0⟩
      rw [this,th]
    rw [this,O];simp [cD,na];intro h6 h7 hq j0;exact absurd ⟨h6,h7,hq,j0⟩ h1
theorem cAg (s:List UInt8):qJ s=if cD lS s=true then some ((ba (s.take 2),ba ((s.drop 3).take 2),ba ((s.drop 6).take 2)),s.drop 8) else none:=by
 match s with
 | [] | [_]=>unfold qJ cE;simp [cD,lS]
 | [a,b]=>unfold qJ cE;simp only [jG,iw,r7,mS];split <;> simp [dz,cD,lS]
 | a::b::e::t =>
  have jc:e=58↔e.toNat=58:=sV e 58 (by decide);by_cases h1:bf a/\bf b
  . by_cases h2:e.toNat=58
    . have bm:qJ (a::b::e::t)=(cE 2 t).bind λm=>(dz [58] m.2).bind λb2=>(cE 2 b2.2).bind λx=>some ((ba [a,b],m.1,x.1),x.2):=by
        unfold qJ;have:cE 2 (a::b::e::t)=some (ba [a,b],e::t):=by unfold cE;rw [U];rfl;simp [h1]
        rw [this,ke];have:dz [58] (e::t)=some (e,t):=by unfold dz;rw [U];rfl;simp [jc,h2]
        simp only [this,ke]
      rw [bm]
      match t with
      | [] | [_]=>simp [cE,cD,lS]
      | [f,g]=>unfold cE;simp only [jG,iw,r7,mS];split <;> simp [dz,cD,lS]
      | f::g::h::t =>
       have It:h=58↔h.toNat=58:=sV h 58 (by decide);by_cases Y:bf f/\bf g
       . have:cE 2 (f::g::h::t)=some (ba [f,g],h::t):=by unfold cE;rw [U];rfl;simp [Y]
         rw [this,ke];by_cases ar:h.toNat=58
         . have:dz [58] (h::t)=some (h,t):=by unfold dz;rw [U];rfl;simp [It,ar]
           simp only [this,ke]
           match t with
           | [] | [_]=>simp [cE,cD,lS]
           | i::j::t =>
            by_cases bd:bf i/\bf j
            . have:cE 2 (i::j::t)=some (ba [i,j],t):=by unfold cE;rw [U];rfl;simp [bd]
              rw [this,ke,U]
              ·rfl
              ·simp [cD,lS,h1,h2,Y,ar,bd]
            . have:cE 2 (i::j::t)=none:=by unfold cE;rw [O];simp;intro h6 h7;exact bd ⟨h6,h7⟩
              rw [this,O]
              ·rfl
              ·simp [cD,lS,h1,h2,Y,ar];intro h6 h7;exact bd ⟨h6,h7⟩
         . have:dz [58] (h::t)=none:=by unfold dz;rw [O];simp [It,ar]
           simp only [this,th];rw [O];simp [cD,lS,ar]
       . have:cE 2 (f::g::h::t)=none:=by unfold cE;rw [O];simp;intro h6 h7;exact Y ⟨h6,h7⟩
         rw [this,th,O];simp [cD,lS];intro _ _ _ h6 h7;exact absurd ⟨h6,h7⟩ Y
    . have:qJ (a::b::e::t)=none:=by
        unfold qJ;have:cE 2 (a::b::e::t)=some (ba [a,b],e::t):=by unfold cE;rw [U];rfl;simp [h1]
        rw [this,ke];have:dz [58] (e::t)=none:=by unfold dz;rw [O];simp [jc,h2]
        simp only [this,th]
      rw [this,O];simp [cD,lS,h2]
  . have:qJ (a::b::e::t)=none:=by
      unfold qJ;have:cE 2 (a::b::e::t)=none:=by unfold cE;rw [O];simp;intro h6 h7;exact h1 ⟨h6,h7⟩
      rw [this,th]
    rw [this,O];simp [cD,lS];intro h6 h7;exact absurd ⟨h6,h7⟩ h1
theorem Kf (s:List UInt8):vF s=l4 s:=by
 unfold vF l4;rw [cAg];split
 . rw [ke]
   simp only [fE];split
   . unfold FJ
     split
     ·rw [ke,Nat.add_comm 9];simp only [fE,Nat.add_comm 9]
     ·rfl
   ·rfl
 ·rfl
theorem cAi {q:List UInt8}(aw:q≠[]):(∀ o,j9 q=some o->∃ x,o6 q=some (x,[])/\xI x=o)/\(j9 q=none->∀ x,o6 q≠some (x,[])):=by
 obtain ⟨c,t,rfl⟩:=List.exists_cons_of_ne_nil aw;have yz:c=90↔c.toNat=90:=sV c 90 (by decide);have yx:c=122↔c.toNat=122:=sV c 122 (by decide);have Tq:c=43↔c.toNat=43:=sV c 43 (by decide);have aJu:c=45↔c.toNat=45:=sV c 45 (by decide);by_cases hz:c.toNat=90\/c.toNat=122
 . have hp:o6 (c::t)=some ((0,0),t):=by
     unfold o6;have:dz [90,122,43,45] (c::t)=some (c,t):=by unfold dz;rw [U];rfl;simp [yz,yx];omega
     rw [this,ke,O (by show ¬ (c.toNat=43\/c.toNat=45);omega)]
   cases t with
   | nil =>
    have au:j9 [c]=some true:=by unfold j9;rw [U];simp [yz,yx];exact hz
    rw [au,hp];exact ⟨λo h=>⟨_,B,by cases h;rfl⟩,λh=>by cases h⟩
   | cons d u =>
    have au:j9 (c::d::u)=none:=by
     unfold j9;rw [O (by simp),O];rintro ⟨_,h | h⟩
     ·rw [Cs,cD] at h;simp at h;omega
     ·rw [Ce,cD] at h;simp at h;omega
    rw [au,hp];exact ⟨(λo h=>by cases h),λ_ x h=>by simp at h⟩
 . by_cases hs:c.toNat=43\/c.toNat=45
   . have hp:o6 (c::t)=(cE 2 t).bind λh=>(dz [58] h.2).bind λa=>(cE 2 a.2).bind λm=>some ((h.1,m.1),m.2):=by
       unfold o6;have:dz [90,122,43,45] (c::t)=some (c,t):=by unfold dz;rw [U];rfl;simp [Tq,aJu];omega
       rw [this,ke,U (show c.toNat=43\/c.toNat=45 from hs)]
     have hl:(cD Cs (c::t)=true\/cD Ce (c::t)=true)↔cD [100,100,58,100,100] t=true:=by
      rw [Cs,Ce,cD,cD];simp;constructor
      ·rintro (⟨_,h⟩ | ⟨_,h⟩) <;> exact h
      . intro h;rcases hs with h2 | h2
        ·exact .inl ⟨h2,h⟩
        ·exact .inr ⟨h2,h⟩
     have au:j9 (c::t)=if (c::t).length=6/\cD [100,100,58,100,100] t=true then some (xI (ba (t.take 2),ba ((t.drop 3).take 2))) else none:=by
      unfold j9;rw [O (by simp [yz,yx];omega)];simp only [hl]
      rfl
     have key:(∀ x,o6 (c::t)=some (x,[])->(c::t).length=6/\cD [100,100,58,100,100] t=true)/\((c::t).length=6/\cD [100,100,58,100,100] t=true->o6 (c::t)=some ((ba (t.take 2),ba ((t.drop 3).take 2)),[])):=by
      rw [hp]
      match t with
      | [] | [_]=>simp [cE]
      | [f,g]=>unfold cE;simp only [jG,iw,r7,mS];split <;> simp [dz]
      | f::g::h::t =>
       have It:h=58↔h.toNat=58:=sV h 58 (by decide);by_cases Y:bf f/\bf g
       . have:cE 2 (f::g::h::t)=some (ba [f,g],h::t):=by unfold cE;rw [U];rfl;simp [Y]
         rw [this,ke];by_cases ar:h.toNat=58
         . have:dz [58] (h::t)=some (h,t):=by unfold dz;rw [U];rfl;simp [It,ar]
           simp only [this,ke]
           match t with
           | [] | [_]=>simp [cE]
           | i::j::t =>
            by_cases bd:bf i/\bf j
            . have:cE 2 (i::j::t)=some (ba [i,j],t):=by unfold cE;rw [U];rfl;simp [bd]
              rw [this,ke];constructor
              . intro x hx
                simp at hx;refine ⟨by simp [hx.2],by simp [cD,Y,ar,bd]⟩
              . rintro ⟨hx,_⟩
                simp at hx;subst hx;rfl
            . have:cE 2 (i::j::t)=none:=by unfold cE;rw [O];simp;intro h6 h7;exact bd ⟨h6,h7⟩
              rw [this,th];refine ⟨(λx hx=>by cases hx),λhx=>?_⟩;exfalso;have:=hx.2;simp [cD,ar] at this;exact bd ⟨this.2.2.1,this.2.2.2⟩
         . have:dz [58] (h::t)=none:=by unfold dz;rw [O];simp [It,ar]
           simp only [this,th];refine ⟨(λx hx=>by cases hx),λhx=>?_⟩;have:=hx.2;simp [cD,ar] at this
       . have:cE 2 (f::g::h::t)=none:=by unfold cE;rw [O];simp;intro h6 h7;exact Y ⟨h6,h7⟩
         rw [this,th];refine ⟨(λx hx=>by cases hx),λhx=>?_⟩;exfalso;have:=hx.2;simp [cD] at this;exact Y ⟨this.1,this.2.1⟩
     rw [au];constructor
     . intro o h
       split at h
       . rename_i h1
         exact ⟨_,key.2 h1,by cases h;rfl⟩
       ·cases h
     . intro h x hx
       rw [U (key.1 x hx)] at h;cases h
   . have hp:o6 (c::t)=none:=by
       unfold o6;have:dz [90,122,43,45] (c::t)=none:=by unfold dz;rw [O];simp [yz,yx,Tq,aJu];omega
       rw [this,th]
     have au:j9 (c::t)=none:=by
      unfold j9;rw [O (by simp [yz,yx];omega),O];rintro ⟨_,h | h⟩
      ·rw [Cs,cD] at h;simp at h;omega
      ·rw [Ce,cD] at h;simp at h;omega
     rw [au,hp];exact ⟨λo h=>(by cases h),λ_ x h=>by cases h⟩
theorem wM {l:List UInt8}{k:Nat}(h:∀ c∈l,bf c)(hl:l.length<=k):ba l<10^k:=Nat.lt_of_lt_of_le (aKx h) (pn (by decide) hl)
theorem XJ {p:List UInt8}(h:cD p s=true):p.length<=s.length:=((JZ p s).1 h).1
theorem vy {p:List UInt8}(h:cD p s=true){a k:Nat}(hk:a+k<=p.length)(hp:∀ j,j<k->(p.getD (a+j) 0).toNat=100):∀ c∈(s.drop a).take k,bf c:=by
 intro c hc;obtain ⟨j,ax⟩:=jX hc;have tN:=(bT.1 ax).1;rw [dS,bC] at tN;have h1:=((JZ p s).1 h).2 (a+j) I;rw [U (hp j I)] at h1;rw [te,U I,tc] at ax;rw [hZ,ax] at h1;exact h1
theorem bGw(h:cD lS s=true):8<=s.length/\(∀ c∈s.take 2,bf c)/\(∀ c∈(s.drop 3).take 2,bf c)/\∀ c∈(s.drop 6).take 2,bf c :=
 ⟨XJ h,vy (a:=0) h (by decide) (by decide),vy (a:=3) h (by decide) (by decide),vy (a:=6) h (by decide) (by decide)⟩
theorem bHl(h:cD na s=true):10<=s.length/\(∀ c∈s.take 4,bf c)/\(∀ c∈(s.drop 5).take 2,bf c)/\∀ c∈(s.drop 8).take 2,bf c :=
 ⟨XJ h,vy (a:=0) h (by decide) (by decide),vy (a:=5) h (by decide) (by decide),vy (a:=8) h (by decide) (by decide)⟩
theorem bY8(h:cD Cs s=true\/cD Ce s=true):(∀ c∈(s.drop 1).take 2,bf c)/\∀ c∈(s.drop 4).take 2,bf c:=by
 rcases h with h | h
 ·exact ⟨vy (a:=1) h (by decide) (by decide),vy (a:=4) h (by decide) (by decide)⟩
 ·exact ⟨vy (a:=1) h (by decide) (by decide),vy (a:=4) h (by decide) (by decide)⟩
theorem cE3(h:cD lS s=false):l4 s=none:=by unfold l4;rw [O (by rw [h];decide)]
theorem cE2(h:cD lS s=true)(hd:((s.drop 8).getD 0 0).toNat=46):(¬ (1<=aT (s.drop 9)/\aT (s.drop 9)<=9)->l4 s=none)/\(1<=aT (s.drop 9)/\aT (s.drop 9)<=9->l4 s=some ((ba (s.take 2),ba ((s.drop 3).take 2),ba ((s.drop 6).take 2)),(s.drop 9).drop (aT (s.drop 9)))):=by
 unfold l4;rw [U h,U hd];exact ⟨λh=>O h,λh=>U h⟩
theorem cE4(h:cD lS s=true)(hd:((s.drop 8).getD 0 0).toNat≠46):l4 s=some ((ba (s.take 2),ba ((s.drop 3).take 2),ba ((s.drop 6).take 2)),s.drop 8):=by
 unfold l4;rw [U h,O hd]
def St2 {α:Type}(d iN:Bool)(o:Option α)(r:α):Prop:=(iN=true/\(d=true\/o=none))\/(iN=false/\d=false/\o=some r)
theorem St2.bind {α z6:Type}{d cr jI:Bool}{o:Option α}{f:α->Option z6}{r1:α}{mE:z6}(h1:St2 d cr o r1)(h2:St2 cr jI (f r1) mE):St2 d jI (o.bind f) mE:=by
 rcases h1 with ⟨rfl,h⟩ | ⟨rfl,rfl,rfl⟩
 . rcases h2 with ⟨rfl,_⟩ | ⟨_,Y,_⟩
   . rcases h with h | h
     ·exact .inl ⟨B,.inl h⟩
     ·exact .inl ⟨B,.inr (by rw [h];rfl)⟩
   ·cases Y
 . rcases h2 with ⟨rfl,h⟩ | ⟨rfl,_,Y⟩
   . rcases h with h | h
     ·cases h
     ·exact .inl ⟨B,.inr h⟩
   ·exact .inr ⟨B,B,Y⟩
theorem St2.ret {α:Type}(d:Bool)(r:α):St2 d d (some r) r:=by
 cases d with
 | true=>exact .inl ⟨rfl,.inl rfl⟩
 | false=>exact .inr ⟨rfl,rfl,rfl⟩
section
variable {d cr jI fG nM oJ HM:Bool} {s fa k7 oc pU kx PQ:List UInt8} {y m z:Nat} {a b c:UInt8}
theorem cAf (h1:St2 d cr (cE 4 s) (y,fa))(h2:St2 cr jI (dz [45] fa) (a,k7))(Y:St2 jI fG (cE 2 k7) (m,oc))(ar:St2 fG nM (dz [45] oc) (b,pU))(bd:St2 nM oJ (cE 2 pU) (z,kx)):St2 d oJ (oa s) ((y,m,z),kx):=by
 unfold oa;exact aAy
theorem aT3 (h1:St2 d cr (cE 2 s) (y,fa))(h2:St2 cr jI (dz [58] fa) (a,k7))(Y:St2 jI fG (cE 2 k7) (m,oc))(ar:St2 fG nM (dz [58] oc) (b,pU))(bd:St2 nM oJ (cE 2 pU) (z,kx)):St2 d oJ (qJ s) ((y,m,z),kx):=by
 unfold qJ;exact aAy
theorem cAd {x:Nat×Nat×Nat}(h:St2 d oJ (qJ s) (x,kx))(oO:(kx.getD 0 0).toNat≠46):St2 d oJ (vF s) (x,kx):=by
 unfold vF;refine St2.bind (r1:=(x,kx)) h ?_;show St2 oJ oJ (if (kx.getD 0 0).toNat=46 then _ else _) _;rw [O oO];exact St2.ret _ _
theorem cAe {x:Nat×Nat×Nat}(h:St2 d oJ (qJ s) (x,kx))(oO:(kx.getD 0 0).toNat=46)(h2:St2 oJ HM (FJ (kx.drop 1)) PQ):St2 d HM (vF s) (x,PQ):=by
 unfold vF;refine St2.bind (r1:=(x,kx)) h ?_;show St2 oJ HM (if (kx.getD 0 0).toNat=46 then _ else _) _;rw [U oO];exact St2.bind h2 (St2.ret _ _)
theorem cAj(h:St2 d cr (dz [90,122,43,45] s) (c,fa))(hc:¬ (c.toNat=43\/c.toNat=45)):St2 d cr (o6 s) ((0,0),fa):=by
 unfold o6;refine St2.bind (r1:=(c,fa)) h ?_;show St2 cr cr (if c.toNat=43\/c.toNat=45 then _ else _) _;rw [O hc];exact St2.ret _ _
theorem cAk(h:St2 d cr (dz [90,122,43,45] s) (c,fa))(hc:c.toNat=43\/c.toNat=45)(h1:St2 cr jI (cE 2 fa) (y,k7))(h2:St2 jI fG (dz [58] k7) (a,oc))(Y:St2 fG nM (cE 2 oc) (m,pU)):St2 d nM (o6 s) ((y,m),pU):=by
 unfold o6;refine St2.bind (r1:=(c,fa)) h ?_;show St2 cr nM (if c.toNat=43\/c.toNat=45 then _ else _) _;rw [U hc];refine St2.bind (r1:=(y,k7)) h1 ?_;refine St2.bind (r1:=(a,oc)) h2 ?_;exact St2.bind (r1:=(m,pU)) Y (St2.ret _ _)
theorem PZ {α:Type}{o:Option α}{r:α}(h:o=none):St2 d true o r:=.inl ⟨rfl,.inr h⟩
theorem YH {α:Type}{o:Option α}{r:α}(h:o=some r):St2 d d o r:=by rw [h];exact St2.ret _ _
end
def sk (n:Nat)(CT:Nat×Nat×Nat)(su:Nat×Nat×Nat)(o:Nat×Nat):Nat:=if (n≠2/\gm CT.1 CT.2.1 CT.2.2=false)\/l3 su=false\/xI o=false then 2 else 0
def Gg (s:List UInt8)(iN:Bool)(s':List UInt8)(n:Nat)(CT su:Nat×Nat×Nat)(o:Nat×Nat):Prop:=(iN=true/\fL s=3)\/(iN=false/\(s'≠[]->fL s=3)/\(s'=[]->fL s=sk n CT su o))
theorem bX4 {s:List UInt8}(h:(s.getD 2 0).toNat=58):cD na s=false:=by
 match s with
 | [] | [_] | [_,_]=>simp at h
 | a::b::c::t =>
  have hc:c.toNat=58:=h;have:¬ bf c:=by unfold bf;omega
  simp [na,cD,this]
theorem bGv {s:List UInt8}(h:(s.getD 2 0).toNat≠58):l4 s=none:=by
 unfold l4;rw [O]
 match s with
 | [] | [_] | [_,_]=>simp [lS,cD]
 | a::b::c::t =>
  have hc:c.toNat≠58:=h;simp [lS,cD,hc]
theorem Mz {b:Bool}(h:b=true):h3 b=0:=U h
theorem My {b:Bool}(h:b=false):h3 b=2:=O (by rw [h];decide)
theorem bMi {s s':List UInt8}{iN:Bool}{su CT:Nat×Nat×Nat}(jc:(s.getD 2 0).toNat=58)(h:St2 false iN (vF s) (su,s')):Gg s iN s' 2 CT su (0,0):=by
 rw [Kf] at h;have hm:=bX4 jc;rcases h with ⟨rfl,h | h⟩ | ⟨rfl,_,h⟩
 ·cases h
 ·exact .inl ⟨B,by unfold fL;rw [O (by rw [hm];decide),h]⟩
 . refine .inr ⟨B,λhs=>?_,λhs=>?_⟩
   ·unfold fL;rw [O (by rw [hm];decide),h];simp only;rw [O hs]
   . unfold fL;rw [O (by rw [hm];decide),h];simp only;rw [U hs]
     unfold sk
     cases hr:l3 su with
     | true=>rw [O (by simp;decide)];rfl
     | false=>rw [U (by simp)];rfl
theorem HN {s:List UInt8}{x:Nat×Nat×Nat}{r:List UInt8}(h:oa s=some (x,r)):fL s=ue (gm x.1 x.2.1 x.2.2) r:=by
 rw [aT2] at h;split at h
 . rename_i h1
   cases h;unfold fL;rw [U h1]
 ·cases h
theorem TF {s:List UInt8}(jc:(s.getD 2 0).toNat≠58)(h:oa s=none):fL s=3:=by
 rw [aT2] at h;split at h
 ·cases h
 . rename_i h1
   unfold fL;rw [O h1,bGv jc]
theorem aTv {r:List UInt8}(hr:r≠[]):dz [84,116,32] r=if sS (r.getD 0 0) then some (r.getD 0 0,r.drop 1) else none:=by
 unfold dz sS;have kg:=sV (r.getD 0 0) 84 (by decide);have a2:=sV (r.getD 0 0) 116 (by decide);have a3:=sV (r.getD 0 0) 32 (by decide);have e:(r≠[]/\r.getD 0 0∈[84,116,32])↔((r.getD 0 0).toNat=84\/(r.getD 0 0).toNat=116\/(r.getD 0 0).toNat=32):=by
  rw [<- kg,<- a2,<- a3];simp only [eX,mT,or_false];exact ⟨λh=>h.2,λh=>⟨hr,h⟩⟩
 simp only [e]
theorem bMj {s r:List UInt8}{cr:Bool}{x:Nat×Nat×Nat}(jc:(s.getD 2 0).toNat≠58)(h:St2 false cr (oa s) (x,r))(hr:r=[]):Gg s cr r 1 x (0,0,0) (0,0):=by
 rcases h with ⟨rfl,h | h⟩ | ⟨rfl,_,h⟩
 ·cases h
 ·exact .inl ⟨B,TF jc h⟩
 . refine .inr ⟨B,λh2=>absurd hr h2,λ_=>?_⟩
   rw [HN h,ue,U hr];unfold sk
   cases hv:gm x.1 x.2.1 x.2.2 with
   | true=>rw [O (by simp;decide)];rfl
   | false=>rw [U (by simp)];rfl
theorem bMk {s r q:List UInt8}{cr fG:Bool}{x y:Nat×Nat×Nat}(jc:(s.getD 2 0).toNat≠58)(h:St2 false cr (oa s) (x,r))(ap:r≠[]\/cr=true)(h2:St2 cr fG ((dz [84,116,32] r).bind λt=>vF t.2) (y,q))(aw:q=[]):Gg s fG q 3 x y (0,0):=by
 rcases h with ⟨rfl,h | h⟩ | ⟨rfl,_,h⟩
 ·cases h
 . rcases h2 with ⟨rfl,_⟩ | ⟨_,Y,_⟩
   ·exact .inl ⟨B,TF jc h⟩
   ·cases Y
 . have hr:r≠[]:=ap.resolve_right (by decide)
   rw [aTv hr] at h2;rcases h2 with ⟨rfl,Y | Y⟩ | ⟨rfl,_,Y⟩
   ·cases Y
   . refine .inl ⟨B,?_⟩
     rw [HN h,ue,O hr];by_cases hp:sS (r.getD 0 0)
     . rw [U hp,ke,Kf] at Y
       rw [O (by simpa using hp),Y]
     ·rw [U hp]
   . refine .inr ⟨B,λar=>absurd aw ar,λ_=>?_⟩
     rw [HN h,ue,O hr];by_cases hp:sS (r.getD 0 0)
     . rw [U hp,ke,Kf] at Y
       rw [O (by simpa using hp),Y];simp only;rw [U aw];unfold sk
       cases hv:gm x.1 x.2.1 x.2.2 with
       | true =>
        cases hy:l3 y with
        | true=>rw [O (by simp;decide)];rfl
        | false=>rw [U (by simp)];rfl
       | false=>rw [U (by simp)];rfl
     ·rw [O hp] at Y;cases Y
theorem bMl {s r q q':List UInt8}{cr fG nM:Bool}{x y:Nat×Nat×Nat}{o:Nat×Nat}(jc:(s.getD 2 0).toNat≠58)(h:St2 false cr (oa s) (x,r))(ap:r≠[]\/cr=true)(h2:St2 cr fG ((dz [84,116,32] r).bind λt=>vF t.2) (y,q))(aw:q≠[]\/fG=true)(Y:St2 fG nM (o6 q) (o,q')):Gg s nM q' 4 x y o:=by
 rcases h with ⟨rfl,h | h⟩ | ⟨rfl,_,h⟩
 ·cases h
 . rcases h2 with ⟨rfl,_⟩ | ⟨_,ar,_⟩
   . rcases Y with ⟨rfl,_⟩ | ⟨_,ar,_⟩
     ·exact .inl ⟨B,TF jc h⟩
     ·cases ar
   ·cases ar
 . have hr:r≠[]:=ap.resolve_right (by decide)
   rw [aTv hr] at h2;rcases h2 with ⟨rfl,ar | ar⟩ | ⟨rfl,_,ar⟩
   ·cases ar
   . rcases Y with ⟨rfl,_⟩ | ⟨_,bd,_⟩
     . refine .inl ⟨B,?_⟩
       rw [HN h,ue,O hr];by_cases hp:sS (r.getD 0 0)
       . rw [U hp,ke,Kf] at ar
         rw [O (by simpa using hp),ar]
       ·rw [U hp]
     ·cases bd
   . have lH:q≠[]:=aw.resolve_right (by decide)
     by_cases hp:sS (r.getD 0 0)
     . rw [U hp,ke,Kf] at ar
       have hm:fL s=match j9 q with
         | none=>3
         | some o=>h3 (gm x.1 x.2.1 x.2.2&&(l3 y&&o)):=by
        rw [HN h,ue,O hr,O (by simpa using hp),ar];simp only;rw [O lH]
       obtain ⟨a6,hb⟩:=cAi lH;rcases Y with ⟨rfl,bd | bd⟩ | ⟨rfl,_,bd⟩
       ·cases bd
       . refine .inl ⟨B,?_⟩
         rw [hm]
         cases ht:j9 q with
         | none=>rfl
         | some ik=>obtain ⟨z,h6,_⟩:=a6 ik ht;rw [bd] at h6;cases h6
       . refine .inr ⟨B,λh6=>?_,λh6=>?_⟩
         . rw [hm]
           cases ht:j9 q with
           | none=>rfl
           | some ik =>
            obtain ⟨z,h7,_⟩:=a6 ik ht;rw [bd] at h7;cases h7;exact absurd B h6
         . subst h6
           rw [hm]
           cases ht:j9 q with
           | none=>exact absurd bd (hb ht _)
           | some ik =>
            obtain ⟨z,h7,hq⟩:=a6 ik ht;rw [bd] at h7;cases h7;subst hq;unfold sk
            cases hv:gm x.1 x.2.1 x.2.2 with
            | true =>
             cases hy:l3 y with
             | true =>
              cases au:xI o with
              | true=>rw [O (by simp)];rfl
              | false=>rw [U (by simp)];rfl
             | false=>rw [U (by simp)];rfl
            | false=>rw [U (by simp)];rfl
     ·rw [O hp] at ar;cases ar
theorem bZg {a s:List UInt8}(h:∀ j,j<a.length->(s.getD 0 0).toNat≠(a.getD j 0).toNat):dz a s=none:=by
 unfold dz;rw [O];rintro ⟨_,h2⟩;obtain ⟨j,ax⟩:=jX h2;have hl:=(bT.1 ax).1;have:=h j hl;rw [hZ (l:=a),ax] at this;exact this B
theorem bZf {a s:List UInt8}(h:s=[]):dz a s=none:=by unfold dz;rw [O (λh2=>h2.1 h)]
theorem bZe {a s:List UInt8}(hs:s≠[]){i:Nat}(hi:i<a.length)(h:(s.getD 0 0).toNat=(a.getD i 0).toNat):dz a s=some (a.getD i 0,s.drop 1):=by
 have e:s.getD 0 0=a.getD i 0:=q5.1 h;unfold dz;rw [U ⟨hs,by rw [e,hZ,bS hi];exact List.getElem_mem hi⟩,e]
theorem aTd {k:Nat}{s:List UInt8}(h:s.length<k\/∃ i,i<k/\i<s.length/\¬ bf (s.getD i 0)):cE k s=none:=by
 unfold cE;rw [O];rintro ⟨h1,h2⟩;rcases h with h | ⟨i,Y,ar,bd⟩
 ·omega
 . refine bd (h2 _ ?_)
   rw [List.mem_iff_getElem?];refine ⟨i,?_⟩;rw [te,U Y,hZ,bS ar];rfl
theorem bYx {k:Nat}{s:List UInt8}(h:k<=s.length)(h2:∀ i,i<k->bf (s.getD i 0)):cE k s=some (ba (s.take k),s.drop k):=by
 unfold cE;rw [U];refine ⟨h,λc hc=>?_⟩;obtain ⟨i,hi⟩:=jX hc;have hl:=(bT.1 hi).1;rw [dS] at hl;rw [te,U I] at hi;have:=h2 i I;rw [hZ,hi] at this;exact this
theorem bL6 {n:Nat}{a b c:Nat}{h:Nat×Nat×Nat}{o:Nat×Nat}(hn:n≠2)(hv:h3 (gm a b c)≠0):sk n (a,b,c) h o=2:=by
 unfold sk;rw [U];refine .inl ⟨hn,?_⟩
 cases hx:gm a b c with
 | true=>rw [hx] at hv;exact absurd B hv
 | false=>rfl
theorem bL8 {n:Nat}{y:Nat×Nat×Nat}{a b c:Nat}{d e:Nat}(h:23<a\/59<b\/59<c\/23<d\/59<e):sk n y (a,b,c) (d,e)=2:=by
 unfold sk l3 xI;rw [U];simp only [decide_eq_false_iff_not];omega
theorem bL7 {n:Nat}{p q r:Nat}{a b c:Nat}{d e:Nat}(hv:n=2\/h3 (gm p q r)=0)(h:¬ (23<a\/59<b\/59<c\/23<d\/59<e)):sk n (p,q,r) (a,b,c) (d,e)=0:=by
 unfold sk l3 xI;rw [O];simp only [decide_eq_false_iff_not];rintro (⟨h1,h2⟩ | h2 | h2)
 . rcases hv with hv | hv
   ·exact h1 hv
   ·rw [h2] at hv;cases hv
 ·omega
 ·omega
end Go.Dk
end
