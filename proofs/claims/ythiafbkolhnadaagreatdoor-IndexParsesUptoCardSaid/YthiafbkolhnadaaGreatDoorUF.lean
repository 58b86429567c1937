/-
  Several texts in one: J4, J5, Jq, Jr, J6, J7, J8, Jt, J9, ShM, JA, Ry
-/
import Derived.Test.YthiafbkolhnadaaGreatDoorUE
import Derived.Laws.CopyRow
import Derived.Lib.MinMax
import Derived.Shelf.LaysC
import Derived.Shelf.Strconv.ToError
import Derived.Shelf.Strconv.ToErrorRange
import Derived.Shelf.Strconv.AtoiAll
import Derived.Test.YthiafbkolhnadaaGreatDoorProg
set_option linter.unusedSimpArgs false
set_option linter.unusedVariables false
set_option maxHeartbeats 4000000
set_option maxRecDepth 10000
section
namespace Go.Proofs.YthiafbkolhnadaaGreatDoor
open Go Go.Dk Go.RowKit Go.Lib
attribute [local irreducible] Go.wpList Go.Code.wp Go.bodyPost Go.wpStill Go.wpQuiet
theorem bd83dec (b:Bool)(d:ByteArray)(x:Int)(w:World):(Instr.build 83 ([(0,.int .i64 2),(2,.agg #[.bool b,.string d,.int .i64 x])]:List (Nat×Value)).toArray).run Tryz.prog w=.ok (.agg (vrow ⟨2,false,b,d,x,0,0,0,0,ByteArray.empty⟩ (.slice none 0 0) (.slice none 0 0) (.slice none 0 0)).toArray) w:=by
 unfold vrow
 go_simp
 try rfl
theorem c253 (D:Nat)(wb w0:World)(b p:Nat)(d:Bool)(s:List UInt8)(L:List (Nat×Obj))(R:List Row)(cx0:Cxr wb w0 ((b,.cells ([.string (bs s),.int .i64 p,.bool d]:List Value).toArray 261)::L) R)(hp:p≤s.length)(hs8:s.length≤100000000):Ret Tryz.prog 253 [.pointer (some ⟨b,0,none⟩)] w0 (PP 83 133 261 wb b s L R p (D+1)):=by
 refine ret_enter Tryz.func253 rfl Tryz.ntmps253 rfl ?_
 have hs:s.length≤1073741824:=by omega
 have cx:=cx0
 refine K0 ?_
 refine Hx ?_;intro b2 w cx hb2 hw2
 refine K3 ?_
 refine K3p ?_
 refine K9t ?_
 refine K2 ?_
 refine w_loop (fun g f w1=>∃ (q b2:Nat),g+q=s.length∧p≤q∧f 0=.pointer (some ⟨b,0,none⟩)∧f 2=.pointer (some ⟨b2,0,none⟩)∧f 3=.int .i64 p∧Cxr wb w1 ((b2,.cells ((vrow sc0 (.slice none 0 0) (.slice none 0 0) (.slice none 0 0))).toArray 83)::(b,.cells ([.string (bs s),.int .i64 q,.bool d]:List Value).toArray 261)::L) R) (s.length-p) ?_ ?_
 ·
  exact ⟨p,_,by omega,by omega,rfl,rfl,rfl,cx⟩
 intro gk2 f w hJ
 obtain ⟨q,b2,hgq,hpq,hs0,hs2,hs3,cx⟩:=hJ
 refine K9 ?_
 refine s_fn cx (c248w s q b d _ (cx.row 1 rfl) (by omega)) Tryz.func248 rfl rfl rfl rfl rfl rfl ?_;intro q12 w cx hw12 hp12
 subst hp12
 refine K4i ?_
 refine Ko ?_
 refine cSp rfl (fun hc34=>?_) (fun hc34=>?_)
 ·
  refine K0 ?_
  refine w_ordF cx mixed [(0,43),(1,44),(2,45),(3,46),(4,47),(5,48),(6,49),(7,50),(8,51),(9,52)] #[true,true,true,true,true,true,true,true,true,true,false,false,false,false,false,false,false] p1q p1q p1q p1q ?_
  refine Ku ?_
  refine K9u ?_
  refine pu_one rfl (wnt_none rfl) (fun w cx=>v_fa fa261_0 rfl rfl) ?_
  refine pu_one rfl (wnt_none rfl) (fun w cx=>v_load1 rfl rfl Tryz.underlying9 rfl ((cx.row 1 rfl).cell 0 rfl)) ?_
  refine K34 ?_
  refine Ku ?_
  refine K9u ?_
  refine pu_one rfl (wnt_none rfl) (fun w cx=>v_fa fa261_1 rfl rfl) ?_
  refine pu_one rfl (wnt_none rfl) (fun w cx=>v_load1 rfl rfl Tryz.underlying3 rfl ((cx.row 1 rfl).cell 1 rfl)) ?_
  refine Kdc ?_
  refine Hv ?_;intro w cx hwD5
  refine x_two (i:=10) (j:=14) p1q rfl rfl ?_ ?_
  ·
   refine H1u ?_;intro q53 w cx hw53 hp53
   obtain ⟨db,dt,dx,de,rfl,hdt,hdx0,hdx1,hde⟩:=hp53
   rw [List.length_drop,List.length_take,Int.toNat_natCast,Int.toNat_natCast] at hdt hde
   refine Kg ?_
   refine x_two (i:=11) (j:=14) p1q rfl rfl ?_ ?_
   ·
    refine K17 ?_
    refine x_three (i:=12) (j:=13) (m:=14) p1q rfl rfl rfl ?_ ?_ ?_
    ·
     refine K17 ?_
     refine x_two (i:=13) (j:=14) p1q rfl rfl ?_ ?_
     ·
      exact Bz169
     refine H8 ?_;intro b5 w cx hb5 hw5
     refine K44 ?_
     refine x_two (i:=13) (j:=15) p1q rfl rfl ?_ ?_
     ·
      exact Bz192
     exact Bz194
    ·
     refine K17 ?_
     refine x_two (i:=12) (j:=14) p1q rfl rfl ?_ ?_
     ·
      exact Bz169
     refine H8 ?_;intro b5 w cx hb5 hw5
     refine K44 ?_
     refine K3d ?_
     exact Bz192
    refine H8 ?_;intro b5 w cx hb5 hw5
    refine K44 ?_
    exact Bz163
   refine H8 ?_;intro b5 w cx hb5 hw5
   refine K44 ?_
   exact Bz197
  refine H8 ?_;intro b5 w cx hb5 hw5
  refine K44 ?_
  refine K1r ?_
  refine H1u ?_;intro q53 w cx hw53 hp53
  obtain ⟨db,dt,dx,de,rfl,hdt,hdx0,hdx1,hde⟩:=hp53
  rw [List.length_drop,List.length_take,Int.toNat_natCast,Int.toNat_natCast] at hdt hde
  refine Kg ?_
  exact Bz197
 have hnz:nxF s q d≠0:=by omega
 have hql:=(nxF_pos hnz).2
 refine K2f ?_
 refine K3p ?_
 refine K9t ?_
 refine Kac ?_
 refine s_store1 (v:=.int .i64 ((q+1:Nat):Int)) cx 1 rfl rfl rfl rfl rfl rfl rfl rfl sz3 ?_;intro w cx hwS4
 refine SS ?_
 exact ⟨gk2-1,_,by omega,rfl,q+1,b2,by omega,by omega,hs0,hs2,hs3,cx⟩
def VP (D dd:Nat):Prop:=∀ (wb w0:World) (b p:Nat) (d:Bool) (s:List UInt8) (L:List (Nat×Obj)) (R:List Row) (cx0:Cxr wb w0 ((b,.cells ([.string (bs s),.int .i64 p,.bool d]:List Value).toArray 261)::L) R) (hp:p≤s.length) (hs8:s.length≤100000000),Ret Tryz.prog 173 [.pointer (some ⟨b,0,none⟩),.int .i64 (dd:Nat)] w0 (PP 83 133 261 wb b s L R p D)
theorem c251s (D dd:Nat)(hd:dd≤48)(hV:VP D (dd+1))(wb w0:World)(b p:Nat)(d:Bool)(s:List UInt8)(L:List (Nat×Obj))(R:List Row)(cx0:Cxr wb w0 ((b,.cells ([.string (bs s),.int .i64 p,.bool d]:List Value).toArray 261)::L) R)(hp:p≤s.length)(hs8:s.length≤100000000):Ret Tryz.prog 251 [.pointer (some ⟨b,0,none⟩),.int .i64 (dd:Nat)] w0 (PP 83 133 261 wb b s L R p (D+1)):=by
 refine ret_enter Tryz.func251 rfl Tryz.ntmps251 rfl ?_
 have hs:s.length≤1073741824:=by omega
 have cx:=cx0
 refine K0 ?_
 refine Hx ?_;intro b4 w cx hb4 hw4
 refine K1 ?_
 refine s_val rfl rfl (v_build (qs:=[(0,.int .i64 6)]) bd836 rfl rfl) ?_
 refine Hx ?_;intro b5 w cx hb5 hw5
 refine H13 ?_;intro w cx hwS1
 refine K2 ?_
 replace cx:=cx.swap3
 refine s_call (c320w wb _ b p d s _ _ cx (by omega) hs [91] (by decide)) Tryz.func320 rfl rfl rfl rfl rfl rfl ?_;rintro v8 w ⟨hv8,q8,e8,cx,hq8,hql8,hqa8,hqd8⟩
 replace hqa8:e8=true∨q8=p+1:=hqa8
 replace cx:=cx.swap3b
 refine K1 ?_
 have hg8:s.length+(if e8 then 0 else 1)-q8+q8=s.length+(if e8 then 0 else 1):=by
  have:(if e8=true then 0 else 1:Nat)≤1:=by split <;> omega
  omega
 have hst8:(e8=true∨(([]:List V).length+p+1≤q8∧GF D [] [] (q8-p))):=hqa8.imp id fun h=>⟨by simp only [List.length_nil];omega,by rw [h,show p+1-p=1 by omega];exact GF.start D⟩
 refine w_loop (fun g f1 w1=>∃ (q b4 b5:Nat) (e:Bool) (l:List V) (css:List (List Value)) (lv:Value) (rs:List Row),g+q=s.length+(if e then 0 else 1)∧p≤q∧q≤s.length∧l.length≤s.length+1∧(e=true∨(l.length+p+1≤q∧GF D l [] (q-p)))∧LF 83 133 rs l [] css [] l.length∧f1 0=.pointer (some ⟨b,0,none⟩)∧f1 1=.int .i64 (dd:Nat)∧f1 4=.pointer (some ⟨b4,0,none⟩)∧f1 5=.pointer (some ⟨b5,0,none⟩)∧Cxr wb w1 ((b5,.cells (vrow ⟨6,false,false,ByteArray.empty,0,0,0,0,0,ByteArray.empty⟩ (.slice none 0 0) lv (.slice none 0 0)).toArray 83)::(b4,.cells ((vrow sc0 (.slice none 0 0) (.slice none 0 0) (.slice none 0 0))).toArray 83)::(b,.cells ([.string (bs s),.int .i64 q,.bool e]:List Value).toArray 261)::L) (⟨83,13,lv,l.length,css.flatten⟩::(rs++R))) (s.length+(if e8 then 0 else 1)-q8) ?_ ?_
 ·
  exact ⟨q8,_,_,e8,[],[],_,[],hg8,by omega,by omega,by simp,hst8,LF.start0 83 133 [],rfl,rfl,rfl,rfl,cx.nilRow 83 13⟩
 intro gk3 f w hJ
 obtain ⟨q,b4,b5,e,l,css,lv,rs,hg,hpq,hql,hll,hme,lf,hs0,hs1,hs4,hs5,cx⟩:=hJ
 obtain ⟨la,lc,hlv⟩:=cx.rowSl
 refine K9 ?_
 refine H1v ?_;intro q10 w cx hw10 hp10
 subst hp10
 refine K2p ?_
 refine K5g ?_
 refine s_gval rfl rfl rfl wT (fun hc=>v_fa fa261_2 rfl gX) ?_
 refine Kez ?_
 refine K1 ?_
 refine cSp rfl (fun hc18=>?_) (fun hc18=>?_)
 ·
  have he:e=false:=hc18.2
  have hme2:=hme.resolve_left (by simp [he])
  rw [he,if_neg (by decide)] at hg
  refine K0 ?_
  refine w_cut (fun f1 w1=>∃ (q2 b4 b5:Nat) (e2:Bool),q≤q2∧q2≤s.length∧f1 0=.pointer (some ⟨b,0,none⟩)∧f1 1=.int .i64 (dd:Nat)∧f1 4=.pointer (some ⟨b4,0,none⟩)∧f1 5=.pointer (some ⟨b5,0,none⟩)∧Cxr wb w1 ((b5,.cells (vrow ⟨6,false,false,ByteArray.empty,0,0,0,0,0,ByteArray.empty⟩ (.slice none 0 0) lv (.slice none 0 0)).toArray 83)::(b4,.cells ((vrow sc0 (.slice none 0 0) (.slice none 0 0) (.slice none 0 0))).toArray 83)::(b,.cells ([.string (bs s),.int .i64 q2,.bool e2]:List Value).toArray 261)::L) (⟨83,13,lv,l.length,css.flatten⟩::(rs++R))) ?_ ?_
  ·
   refine K0 ?_
   refine s_val rfl rfl (v_fa fa83_6 rfl hs5) ?_
   refine K3n ?_
   refine s_val rfl rfl (v_lenSlice rfl hlv Tryz.underlying80) ?_
   refine K0 ?_
   refine cSp rfl (fun hc22=>?_) (fun hc22=>?_)
   ·
    refine K1g ?_
    replace cx:=cx.swap3
    refine H1w ?_;rintro v24 w ⟨hv24,q24,e24,cx,hq24,hql24,hqa24,hqd24⟩
    replace hqa24:e24=true∨q24=q+1:=hqa24
    replace cx:=cx.swap3b
    refine SS ?_
    exact Bz117
   refine SS ?_
   exact Bz117
  intro f w hJ
  obtain ⟨q2,b4,b5,e2,hq2,hql2,hs0,hs1,hs4,hs5,cx⟩:=hJ
  refine w_ord cx (cx.pick1 0 rfl) mixed [(0,25),(1,26),(2,27),(3,28),(4,29)] #[true,true,true,true,true,false,false,false,false,false] p1q p1q p1q p1q ?_
  refine pu_one rfl (wnt_none rfl) (fun w cx=>v_fa fa83_6 rfl hs5) ?_
  refine Kbo ?_
  refine Ku ?_
  refine K7s ?_
  refine K3q ?_
  refine Hv ?_;intro w cx hwD6
  refine K31 ?_
  replace cx:=cx.swap3
  refine s_call (hV wb _ b q2 e2 s _ _ cx (by omega) hs8) Tryz.func173 rfl rfl rfl rfl rfl rfl ?_;rintro v30 w ⟨v,cells,q30,e30,rs2,rfl,cx,hrr,hq30,hql30,hsz⟩
  obtain ⟨a1,n1,c1,a2,n2s,c2,a3,n3,c3,rfl⟩:=hrr.form2 (cx.leftR)
  replace cx:=cx.swap3b.grab
  refine K3r ?_
  refine K32 ?_
  refine H17 ?_;intro b31 w cx hb31 hw31
  refine K3r ?_
  refine K1s ?_
  refine H18 ?_;intro v32 w cx hgr32
  replace cx:=cx.drop 1
  refine Kg ?_
  refine K1h ?_
  refine s_val rfl rfl (v_fa fa83_6 rfl hs5) ?_
  refine Kg ?_
  refine K1c ?_
  refine s_store1 (v:=v32) cx 0 rfl rfl rfl rfl rfl cx.oneS rfl rfl sz80 ?_;intro w cx hwS6
  refine K5t ?_
  have hgf:=hme2.2
  refine ⟨s.length+(if e30 then 0 else 1)-q30,_,?_,rfl,q30,b4,b5,e30,l++[v],css++[_],v32,rs2++rs,?_,by omega,by omega,by simp only [List.length_append,List.length_cons,List.length_nil];omega,?_,lf.addL0 hrr,hs0,hs1,hs4,hs5,cx.row_eq (by simp) (by simp [List.flatten_append])⟩
  · cases he30:e30 with
    | true=>simp only [if_true];omega
    | false =>
     have:=(hsz.resolve_left (by simp [he30])).1
     simp only [Bool.false_eq_true,if_false];omega
  · have:(if e30=true then 0 else 1:Nat)≤1:=by split <;> omega
    omega
  · rcases hsz with h | ⟨h1,h2,h3⟩
    · exact .inl h
    · refine .inr ⟨by simp only [List.length_append,List.length_cons,List.length_nil];omega,?_⟩
      have h4:=hgf.addL h2 h3
      exact h4.upA (by omega)
 refine K9 ?_
 replace cx:=cx.swap3
 refine s_call (c320w wb _ b q e s _ _ cx (by omega) hs [93] (by decide)) Tryz.func320 rfl rfl rfl rfl rfl rfl ?_;rintro v35 w ⟨hv35,q35,e35,cx,hq35,hql35,hqa35,hqd35⟩
 replace hqa35:e35=true∨q35=q+1:=hqa35
 replace cx:=cx.swap3b
 refine K1 ?_
 refine Kbp ?_
 refine s_storeAll cx 1 rfl rfl rfl hs4 rfl rfl sz83 rfl (vrow_one rfl cx.oneS rfl) ?_;intro w cx hwS8
 refine K0 ?_
 refine ret_cell Tryz.results251 hs4 (cx.at 1 rfl) Tryz.underlying83 rfl sz83 ?_
 refine ⟨.mk ⟨6,false,false,ByteArray.empty,0,0,0,0,0,ByteArray.empty⟩ [] l [],_,q35,e35,⟨83,13,lv,l.length,css.flatten⟩::rs,rfl,cx.drop 2,RR.mk ⟨6,false,false,ByteArray.empty,0,0,0,0,0,ByteArray.empty⟩ [] l [] _ _ _ css [] (.inl ⟨rfl,rfl⟩) (.inr (List.mem_cons_self ..)) lf.hlc (fun i v cs h h2=>(lf.hlv i v cs h h2).mono fun r hr=>List.mem_cons_of_mem _ hr) (.inl ⟨rfl,rfl⟩) rfl (fun i kv cs h=>by simp at h),by omega,by omega,?_⟩
 cases he:e35 with
 | true=>exact .inl rfl
 | false =>
  right
  have h1:=hqa35.resolve_left (by simp [he])
  have h2:e=false:=by
   cases h3:e with
   | false=>rfl
   | true=>have:=hqd35 h3;rw [he] at this;cases this
  have hgf:=(hme.resolve_left (by simp [h2])).2
  obtain ⟨g1,g2⟩:=(hgf.upA (Nat.le_succ _)).fin 6
  exact ⟨by omega,g1,by rw [show q35-p=q-p+1 by omega];exact g2⟩
theorem c252s (D dd:Nat)(hd:dd≤48)(hV:VP D (dd+1))(wb w0:World)(b p:Nat)(d:Bool)(s:List UInt8)(L:List (Nat×Obj))(R:List Row)(cx0:Cxr wb w0 ((b,.cells ([.string (bs s),.int .i64 p,.bool d]:List Value).toArray 261)::L) R)(hp:p≤s.length)(hs8:s.length≤100000000):Ret Tryz.prog 252 [.pointer (some ⟨b,0,none⟩),.int .i64 (dd:Nat)] w0 (PP 83 133 261 wb b s L R p (D+1)):=by
 refine ret_enter Tryz.func252 rfl Tryz.ntmps252 rfl ?_
 have hs:s.length≤1073741824:=by omega
 have cx:=cx0
 refine K0 ?_
 refine Hx ?_;intro b4 w cx hb4 hw4
 refine K1 ?_
 refine s_val rfl rfl (v_build (qs:=[(0,.int .i64 7)]) bd837 rfl rfl) ?_
 refine Hx ?_;intro b5 w cx hb5 hw5
 refine H13 ?_;intro w cx hwS1
 refine K2 ?_
 replace cx:=cx.swap3
 refine s_call (c320w wb _ b p d s _ _ cx (by omega) hs [123] (by decide)) Tryz.func320 rfl rfl rfl rfl rfl rfl ?_;rintro v9 w ⟨hv9,q9,e9,cx,hq9,hql9,hqa9,hqd9⟩
 replace hqa9:e9=true∨q9=p+1:=hqa9
 replace cx:=cx.swap3b
 refine K1 ?_
 have hg9:s.length+(if e9 then 0 else 1)-q9+q9=s.length+(if e9 then 0 else 1):=by
  have:(if e9=true then 0 else 1:Nat)≤1:=by split <;> omega
  omega
 have hst9:(e9=true∨(([]:List (ByteArray×V)).length+p+1≤q9∧GF D [] [] (q9-p))):=hqa9.imp id fun h=>⟨by simp only [List.length_nil];omega,by rw [h,show p+1-p=1 by omega];exact GF.start D⟩
 refine w_loop (fun g f1 w1=>∃ (q b4 b5:Nat) (e:Bool) (f0:List (ByteArray×V)) (fss:List (List Value)) (fv:Value) (rs:List Row),g+q=s.length+(if e then 0 else 1)∧p≤q∧q≤s.length∧f0.length≤s.length+1∧(e=true∨(f0.length+p+1≤q∧GF D [] f0 (q-p)))∧LF 83 133 rs [] f0 [] fss f0.length∧f1 0=.pointer (some ⟨b,0,none⟩)∧f1 1=.int .i64 (dd:Nat)∧f1 4=.pointer (some ⟨b4,0,none⟩)∧f1 5=.pointer (some ⟨b5,0,none⟩)∧Cxr wb w1 ((b5,.cells (vrow ⟨7,false,false,ByteArray.empty,0,0,0,0,0,ByteArray.empty⟩ (.slice none 0 0) (.slice none 0 0) fv).toArray 83)::(b4,.cells ((vrow sc0 (.slice none 0 0) (.slice none 0 0) (.slice none 0 0))).toArray 83)::(b,.cells ([.string (bs s),.int .i64 q,.bool e]:List Value).toArray 261)::L) (⟨133,14,fv,f0.length,fcells (f0.map fun kv:ByteArray×V=>kv.1) fss⟩::(rs++R))) (s.length+(if e9 then 0 else 1)-q9) ?_ ?_
 ·
  exact ⟨q9,_,_,e9,[],[],_,[],hg9,by omega,by omega,by simp,hst9,LF.start0 83 133 [],rfl,rfl,rfl,rfl,cx.nilRow 133 14⟩
 intro gk3 f w hJ
 obtain ⟨q,b4,b5,e,f0,fss,fv,rs,hg,hpq,hql,hll,hme,lf,hs0,hs1,hs4,hs5,cx⟩:=hJ
 obtain ⟨la,lc,hlv⟩:=cx.rowSl
 refine K9 ?_
 refine H1v ?_;intro q11 w cx hw11 hp11
 subst hp11
 refine K2p ?_
 refine K5g ?_
 refine s_gval rfl rfl rfl wT (fun hc=>v_fa fa261_2 rfl gX) ?_
 refine Kez ?_
 refine K1 ?_
 refine cSp rfl (fun hc19=>?_) (fun hc19=>?_)
 ·
  have he:e=false:=hc19.2
  have hme2:=hme.resolve_left (by simp [he])
  rw [he,if_neg (by decide)] at hg
  refine K0 ?_
  refine w_cut (fun f1 w1=>∃ (q2 b4 b5:Nat) (e2:Bool),q≤q2∧q2≤s.length∧f1 0=.pointer (some ⟨b,0,none⟩)∧f1 1=.int .i64 (dd:Nat)∧f1 4=.pointer (some ⟨b4,0,none⟩)∧f1 5=.pointer (some ⟨b5,0,none⟩)∧Cxr wb w1 ((b5,.cells (vrow ⟨7,false,false,ByteArray.empty,0,0,0,0,0,ByteArray.empty⟩ (.slice none 0 0) (.slice none 0 0) fv).toArray 83)::(b4,.cells ((vrow sc0 (.slice none 0 0) (.slice none 0 0) (.slice none 0 0))).toArray 83)::(b,.cells ([.string (bs s),.int .i64 q2,.bool e2]:List Value).toArray 261)::L) (⟨133,14,fv,f0.length,fcells (f0.map fun kv:ByteArray×V=>kv.1) fss⟩::(rs++R))) ?_ ?_
  ·
   refine K0 ?_
   refine s_val rfl rfl (v_fa fa83_7 rfl hs5) ?_
   refine K59 ?_
   refine s_val rfl rfl (v_lenSlice rfl hlv Tryz.underlying81) ?_
   refine K0 ?_
   refine cSp rfl (fun hc23=>?_) (fun hc23=>?_)
   ·
    refine K1g ?_
    replace cx:=cx.swap3
    refine H1w ?_;rintro v25 w ⟨hv25,q25,e25,cx,hq25,hql25,hqa25,hqd25⟩
    replace hqa25:e25=true∨q25=q+1:=hqa25
    replace cx:=cx.swap3b
    refine SS ?_
    exact Bz118
   refine SS ?_
   exact Bz118
  intro f w hJ
  obtain ⟨q2,b4,b5,e2,hq2,hql2,hs0,hs1,hs4,hs5,cx⟩:=hJ
  refine Km ?_
  replace cx:=cx.swap3
  refine s_call (c250w wb _ b q2 e2 s _ _ cx (by omega) hs) Tryz.func250 rfl rfl rfl rfl rfl rfl ?_;rintro v27 w ⟨t27,rfl,q27,e27,cx,hq27,hql27,ht27,_⟩
  replace cx:=cx.swap3b
  refine K1p ?_
  replace cx:=cx.swap3
  refine s_call (c320w wb _ b q27 e27 s _ _ cx (by omega) hs [58] (by decide)) Tryz.func320 rfl rfl rfl rfl rfl rfl ?_;rintro v29 w ⟨hv29,q29,e29,cx,hq29,hql29,hqa29,hqd29⟩
  replace hqa29:e29=true∨q29=q27+1:=hqa29
  replace cx:=cx.swap3b
  refine SS ?_
  refine w_ord cx (cx.pick1 0 rfl) mixed [(0,30),(1,31),(2,32),(3,33),(4,34),(5,35)] #[true,true,true,true,true,true,false,false,false,false,false,false] p1q p1q p1q p1q ?_
  refine pu_one rfl (wnt_none rfl) (fun w cx=>v_fa fa83_7 rfl hs5) ?_
  refine Kbq ?_
  refine Kz ?_
  refine Ku ?_
  refine K7s ?_
  refine K3q ?_
  refine Hv ?_;intro w cx hwD8
  refine K32 ?_
  replace cx:=cx.swap3
  refine s_call (hV wb _ b q29 e29 s _ _ cx (by omega) hs8) Tryz.func173 rfl rfl rfl rfl rfl rfl ?_;rintro v36 w ⟨v,cells,q36,e36,rs2,rfl,cx,hrr,hq36,hql36,hsz⟩
  obtain ⟨a1,n1,c1,a2,n2s,c2,a3,n3,c3,rfl⟩:=hrr.form2 (cx.leftR)
  replace cx:=cx.swap3b.grab
  refine K3r ?_
  refine K1s ?_
  refine s_val rfl rfl (v_build (qs:=[(0,.string (bs t27)),(1,.agg (vrow v.sc (.slice a1 n1 c1) (.slice a2 n2s c2) (.slice a3 n3 c3)).toArray)]) (bd133k _ _ _ _ _ _ _ _ _ _ _) rfl rfl) ?_
  refine K3r ?_
  refine K1h ?_
  refine H19 ?_;intro b38 w cx hb38 hw38
  refine K3r ?_
  refine K1c ?_
  refine H1a ?_;intro v39 w cx hgr39
  replace cx:=cx.drop 1
  refine Kg ?_
  refine K1r ?_
  refine s_val rfl rfl (v_fa fa83_7 rfl hs5) ?_
  refine K6u ?_
  refine s_store1 (v:=v39) cx 0 rfl rfl rfl rfl rfl cx.oneS rfl rfl sz81 ?_;intro w cx hwS8
  refine K5t ?_
  have hgf:=hme2.2
  have hks:(bs t27).size=t27.length:=bs_size _
  refine ⟨s.length+(if e36 then 0 else 1)-q36,_,?_,rfl,q36,b4,b5,e36,f0++[(bs t27,v)],fss++[_],v39,rs2++rs,?_,by omega,by omega,by simp only [List.length_append,List.length_cons,List.length_nil];omega,?_,lf.addF0 hrr,hs0,hs1,hs4,hs5,cx.row_eq (by simp) p1eq⟩
  · cases he36:e36 with
    | true=>simp only [if_true];omega
    | false =>
     have:=(hsz.resolve_left (by simp [he36])).1
     simp only [Bool.false_eq_true,if_false];omega
  · have:(if e36=true then 0 else 1:Nat)≤1:=by split <;> omega
    omega
  · rcases hsz with h | ⟨h1,h2,h3⟩
    · exact .inl h
    · refine .inr ⟨by simp only [List.length_append,List.length_cons,List.length_nil];omega,?_⟩
      have h4:=hgf.addF (k:=bs t27) (n:=q36-q2) h2 (by omega)
      exact h4.upA (by omega)
 refine K9 ?_
 replace cx:=cx.swap3
 refine s_call (c320w wb _ b q e s _ _ cx (by omega) hs [125] (by decide)) Tryz.func320 rfl rfl rfl rfl rfl rfl ?_;rintro v42 w ⟨hv42,q42,e42,cx,hq42,hql42,hqa42,hqd42⟩
 replace hqa42:e42=true∨q42=q+1:=hqa42
 replace cx:=cx.swap3b
 refine K1 ?_
 refine Kbp ?_
 refine s_storeAll cx 1 rfl rfl rfl hs4 rfl rfl sz83 rfl (vrow_one rfl rfl cx.oneS) ?_;intro w cx hwS10
 refine K0 ?_
 refine ret_cell Tryz.results252 hs4 (cx.at 1 rfl) Tryz.underlying83 rfl sz83 ?_
 refine ⟨.mk ⟨7,false,false,ByteArray.empty,0,0,0,0,0,ByteArray.empty⟩ [] [] f0,_,q42,e42,⟨133,14,fv,f0.length,fcells (f0.map fun kv:ByteArray×V=>kv.1) fss⟩::rs,rfl,cx.drop 2,RR.mk ⟨7,false,false,ByteArray.empty,0,0,0,0,0,ByteArray.empty⟩ [] [] f0 _ _ _ [] fss (.inl ⟨rfl,rfl⟩) (.inl ⟨rfl,rfl⟩) rfl (fun i v cs h=>by simp at h) (.inr (List.mem_cons_self ..)) lf.hfc (fun i kv cs h h2=>(lf.hfv i kv cs h h2).mono fun r hr=>List.mem_cons_of_mem _ hr),by omega,by omega,?_⟩
 cases he:e42 with
 | true=>exact .inl rfl
 | false =>
  right
  have h1:=hqa42.resolve_left (by simp [he])
  have h2:e=false:=by
   cases h3:e with
   | false=>rfl
   | true=>have:=hqd42 h3;rw [he] at this;cases this
  have hgf:=(hme.resolve_left (by simp [h2])).2
  obtain ⟨g1,g2⟩:=(hgf.upA (Nat.le_succ _)).fin 7
  exact ⟨by omega,g1,by rw [show q42-p=q-p+1 by omega];exact g2⟩
theorem bd83tm (k d n z:Int)(w:World):(Instr.build 83 ([(0,.int .i64 3),(3,.agg #[.int .i64 k,.int .i64 d,.int .i64 n,.int .i64 z])]:List (Nat×Value)).toArray).run Tryz.prog w=.ok (.agg (vrow ⟨3,false,false,ByteArray.empty,0,k,d,n,z,ByteArray.empty⟩ (.slice none 0 0) (.slice none 0 0) (.slice none 0 0)).toArray) w:=by
 unfold vrow
 go_simp
 try rfl
theorem c173s (D dd:Nat)(hd:dd≤48)(hV:VP D (dd+1))(wb w0:World)(b p:Nat)(d:Bool)(s:List UInt8)(L:List (Nat×Obj))(R:List Row)(cx0:Cxr wb w0 ((b,.cells ([.string (bs s),.int .i64 p,.bool d]:List Value).toArray 261)::L) R)(hp:p≤s.length)(hs8:s.length≤100000000):Ret Tryz.prog 173 [.pointer (some ⟨b,0,none⟩),.int .i64 (dd:Nat)] w0 (PP 83 133 261 wb b s L R p (D+1)):=by
 refine Kbj ?_
 have hs:s.length≤1073741824:=by omega
 have cx:=cx0
 refine K0 ?_
 refine Hx ?_;intro b4 w cx hb4 hw4
 refine K5 ?_
 refine cSp rfl (fun hc10=>?_) (fun hc10=>?_)
 ·
  exfalso
  omega
 refine K3 ?_
 refine s_fn cx (c248w s p b d _ (cx.row 1 rfl) (by omega)) Tryz.func248 rfl rfl rfl rfl rfl rfl ?_;intro q16 w cx hw16 hp16
 subst hp16
 have hnlt:=nxF_lt s p d
 refine K5 ?_
 refine cSp rfl (fun hc17=>?_) (fun hc17=>?_)
 ·
  refine K1 ?_
  refine Kb1 ?_
  replace cx:=cx.swapL
  refine s_call (c249 wb _ b p d s [110,117,108,108] (vrow sc0 (.slice none 0 0) (.slice none 0 0) (.slice none 0 0)) _ _ cx (by omega) hs (by decide) rfl rfl) Tryz.func249 rfl rfl rfl rfl rfl rfl ?_;rintro v21 w ⟨rfl,q21,e21,cx,hq21,hql21,hqa21⟩
  replace cx:=cx.swapL
  refine H13 ?_;intro w cx hwS6
  refine K2s ?_
  refine ⟨.mk sc0 [] [] [],_,q21,e21,[],rfl,cx.drop 1,RR.leafS 83 133 [] sc0,by omega,by omega,?_⟩
  refine hqa21.imp id fun h=>⟨by (try simp only [List.length_cons,List.length_nil] at h);omega,Dp_leaf D _ [] (gs0 rfl),?_⟩
  exact Bz98
 refine K3 ?_
 refine cSp rfl (fun hc22=>?_) (fun hc22=>?_)
 ·
  refine K2d ?_
  refine K2r ?_
  refine K4g ?_
  refine q_val rfl rfl (fun w cx hwQ=>v_load1 rfl rfl Tryz.underlying3 rfl ((cx.row 1 rfl).cell 1 rfl)) ?_
  refine Kah ?_
  refine K2r ?_
  refine K4f ?_
  refine q_val rfl rfl (fun w cx hwQ=>v_load1 rfl rfl Tryz.underlying9 rfl ((cx.row 1 rfl).cell 0 rfl)) ?_
  refine Kbi ?_
  refine K25 ?_
  refine Kj ?_
  refine K7e ?_
  refine q_gval rfl rfl rfl wT (fun hc w cx hwQ=>v_nilCk rfl gX) ?_
  refine q_gval rfl rfl rfl wT (fun hc w cx hwQ=>v_fa fa261_0 rfl gX) ?_
  refine q_gval rfl rfl rfl wT (fun hc w cx hwQ=>v_load1 rfl gX Tryz.underlying9 rfl ((cx.row 1 rfl).cell 0 rfl)) ?_
  refine K7e ?_
  refine q_gval rfl rfl rfl wT (fun hc w cx hwQ=>v_nilCk rfl gX) ?_
  refine q_gval rfl rfl rfl wT (fun hc w cx hwQ=>v_fa fa261_1 rfl gX) ?_
  refine q_gval rfl rfl rfl wT (fun hc w cx hwQ=>v_load1 rfl gX Tryz.underlying3 rfl ((cx.row 1 rfl).cell 1 rfl)) ?_
  refine q_gval rfl rfl rfl wT (fun hc w cx hwQ=>v_add rfl gX rfl p0q p0q) ?_
  refine K8v ?_
  refine Kaz ?_
  refine K3h ?_
  refine q_nil ?_;rintro w ⟨cx,hwQ8⟩
  refine cSp rfl (fun hc47=>?_) (fun hc47=>?_)
  ·
   have hpl:=(nxF_pos (s:=s) (p:=p) (d:=d) (by omega)).2
   refine K2 ?_
   refine K3p ?_
   refine K9t ?_
   refine Kac ?_
   refine H1x ?_;intro w cx hwS9
   refine K2 ?_
   replace cx:=cx.swapL
   refine H1y ?_;rintro v57 w ⟨t57,rfl,q57,e57,cx,hq57,hql57,ht57,hte57⟩
   replace cx:=cx.swapL
   refine s_fn cx (c187 t57 _ (by omega)) Tryz.func187 rfl rfl rfl rfl rfl rfl ?_;intro q58 w cx hw58 hp58
   obtain ⟨tk,td,tn,tz,te,rfl⟩:=hp58
   refine K1 ?_
   refine H1 ?_;intro b5 w cx hb5 hw5
   refine H0 ?_;intro w cx hwS10
   refine K5 ?_
   refine K1q ?_
   refine Kcd ?_
   refine K3 ?_
   refine K1q ?_
   refine s_store1 (v:=.bool (e57||!(te==0))) cx 2 rfl rfl rfl rfl rfl rfl rfl rfl sz4 ?_;intro w cx hwS11
   refine K1 ?_
   refine K90 ?_
   refine s_val rfl rfl (v_build (qs:=[(0,.int .i64 3),(3,.agg #[.int .i64 tk,.int .i64 td,.int .i64 tn,.int .i64 tz])]) (bd83tm tk td tn tz) rfl rfl) ?_
   refine H15 ?_;intro w cx hwS12
   refine K0 ?_
   refine ret_cell Tryz.results173 rfl (cx.at 1 rfl) Tryz.underlying83 rfl sz83 ?_
   refine ⟨.mk ⟨3,false,false,ByteArray.empty,0,tk,td,tn,tz,ByteArray.empty⟩ [] [] [],_,q57,(e57||!(te==0)),[],rfl,cx.drop 2,RR.leafS 83 133 [] ⟨3,false,false,ByteArray.empty,0,tk,td,tn,tz,ByteArray.empty⟩,by omega,by omega,?_⟩
   refine .inr ⟨by omega,Dp_leaf D _ [] (gs0 rfl),?_⟩
   rw [vs_leaf]
   show 1+0+0+0≤_
   omega
  refine K2 ?_
  refine Kdd ?_
  replace cx:=cx.swapL
  refine s_call (c249 wb _ b p d s [116,114,117,101] (vrow ⟨1,true,false,ByteArray.empty,0,0,0,0,0,ByteArray.empty⟩ (.slice none 0 0) (.slice none 0 0) (.slice none 0 0)) _ _ cx (by omega) hs (by decide) rfl rfl) Tryz.func249 rfl rfl rfl rfl rfl rfl ?_;rintro v76 w ⟨rfl,q76,e76,cx,hq76,hql76,hqa76⟩
  replace cx:=cx.swapL
  refine H13 ?_;intro w cx hwS13
  refine K2s ?_
  refine ⟨.mk ⟨1,true,false,ByteArray.empty,0,0,0,0,0,ByteArray.empty⟩ [] [] [],_,q76,e76,[],rfl,cx.drop 1,RR.leafS 83 133 [] ⟨1,true,false,ByteArray.empty,0,0,0,0,0,ByteArray.empty⟩,by omega,by omega,?_⟩
  refine hqa76.imp id fun h=>⟨by (try simp only [List.length_cons,List.length_nil] at h);omega,Dp_leaf D _ [] (gs0 rfl),?_⟩
  exact Bz98
 refine K3 ?_
 refine cSp rfl (fun hc77=>?_) (fun hc77=>?_)
 ·
  refine K1 ?_
  refine s_val rfl rfl (v_build (qs:=[(0,.int .i64 1)]) bd83f rfl rfl) ?_
  replace cx:=cx.swapL
  refine s_call (c249 wb _ b p d s [102,97,108,115,101] (vrow ⟨1,false,false,ByteArray.empty,0,0,0,0,0,ByteArray.empty⟩ (.slice none 0 0) (.slice none 0 0) (.slice none 0 0)) _ _ cx (by omega) hs (by decide) rfl rfl) Tryz.func249 rfl rfl rfl rfl rfl rfl ?_;rintro v81 w ⟨rfl,q81,e81,cx,hq81,hql81,hqa81⟩
  replace cx:=cx.swapL
  refine H13 ?_;intro w cx hwS15
  refine K2s ?_
  refine ⟨.mk ⟨1,false,false,ByteArray.empty,0,0,0,0,0,ByteArray.empty⟩ [] [] [],_,q81,e81,[],rfl,cx.drop 1,RR.leafS 83 133 [] ⟨1,false,false,ByteArray.empty,0,0,0,0,0,ByteArray.empty⟩,by omega,by omega,?_⟩
  refine hqa81.imp id fun h=>⟨by (try simp only [List.length_cons,List.length_nil] at h);omega,Dp_leaf D _ [] (gs0 rfl),?_⟩
  exact Bz98
 refine K3 ?_
 refine cSp rfl (fun hc82=>?_) (fun hc82=>?_)
 ·
  refine K1 ?_
  replace cx:=cx.swapL
  refine s_call (c250w wb _ b p d s _ _ cx (by omega) hs) Tryz.func250 rfl rfl rfl rfl rfl rfl ?_;rintro v85 w ⟨t85,rfl,q85,e85,cx,hq85,hql85,ht85,hte85⟩
  replace cx:=cx.swapL
  refine s_val rfl rfl (v_build (qs:=[(0,.int .i64 4),(4,.string (bs t85))]) (bd83s (bs t85)) rfl rfl) ?_
  refine H13 ?_;intro w cx hwS17
  refine K2s ?_
  refine ⟨.mk (scT (bs t85)) [] [] [],_,q85,e85,[],rfl,cx.drop 1,RR.leafS 83 133 [] (scT (bs t85)),by omega,by omega,?_⟩
  refine hte85.imp id fun h=>⟨by omega,Dp_leaf D _ [] (gs0 rfl),?_⟩
  rw [vs_leaf]
  show 1+(bs t85).size+0+0≤_
  rw [bs_size]
  omega
 refine K3 ?_
 refine cSp rfl (fun hc87=>?_) (fun hc87=>?_)
 ·
  have hpl:=(nxF_pos (s:=s) (p:=p) (d:=d) (by omega)).2
  refine K2 ?_
  refine K3p ?_
  refine K9t ?_
  refine Kac ?_
  refine H1x ?_;intro w cx hwS19
  refine K2 ?_
  replace cx:=cx.swapL
  refine H1y ?_;rintro v98 w ⟨t98,rfl,q98,e98,cx,hq98,hql98,ht98,hte98⟩
  replace cx:=cx.swapL
  have cxB:=cx
  refine s_fn cx (c188 t98 true _ (by omega)) Tryz.func188 rfl rfl rfl rfl rfl rfl ?_;intro q99 w cx hw99 hp99
  obtain ⟨ub,lb,eb,rfl,hrow,hlb⟩:=hp99
  replace cx:=cxB.callRow hw99 hrow
  obtain ⟨ab,cb,rfl⟩:=cx.rowSl
  refine Ka ?_
  refine K1q ?_
  refine Kbk ?_
  refine K3 ?_
  refine K1q ?_
  refine s_store1 (v:=.bool (e98||!(eb==0))) cx 1 rfl rfl rfl rfl rfl rfl rfl rfl sz4 ?_;intro w cx hwS21
  refine K2 ?_
  refine Kde ?_
  refine H13 ?_;intro w cx hwS22
  refine K2s ?_
  refine ⟨.mk ⟨5,false,false,ByteArray.empty,0,0,0,0,0,ByteArray.empty⟩ lb [] [],_,q98,(e98||!(eb==0)),[⟨5,1,.slice ab lb.length cb,lb.length,lb.map bv⟩],rfl,cx.drop 1,RR.mk ⟨5,false,false,ByteArray.empty,0,0,0,0,0,ByteArray.empty⟩ lb [] [] _ _ _ [] [] (.inr (List.mem_cons_self ..)) (.inl ⟨rfl,rfl⟩) rfl (fun i v cs h=>by simp at h) (.inl ⟨rfl,rfl⟩) rfl (fun i kv cs h=>by simp at h),by omega,by omega,?_⟩
  refine .inr ⟨by omega,Dp_leaf D _ _ (gs0 rfl),?_⟩
  rw [vs_leaf]
  show 1+0+0+lb.length≤_
  omega
 refine K3 ?_
 refine cSp rfl (fun hc115=>?_) (fun hc115=>?_)
 ·
  refine K2 ?_
  replace cx:=cx.swapL
  refine s_call (c251s D dd hd hV wb _ b p d s _ _ cx (by omega) hs8) Tryz.func251 rfl rfl rfl rfl rfl rfl ?_;rintro v119 w ⟨v,cells,q119,e119,rs,rfl,cx,hrr,hq119,hql119,hsz⟩
  obtain ⟨a1,n1,c1,a2,n2,c2,a3,n3,c3,rfl⟩:=hrr.form2 (cx.leftR)
  replace cx:=cx.swapL
  refine H13 ?_;intro w cx hwS24
  refine K2s ?_
  exact ⟨v,_,q119,e119,rs,rfl,cx.drop 1,hrr,by omega,by omega,hsz⟩
 refine K3 ?_
 refine cSp rfl (fun hc120=>?_) (fun hc120=>?_)
 ·
  refine K2 ?_
  replace cx:=cx.swapL
  refine s_call (c252s D dd hd hV wb _ b p d s _ _ cx (by omega) hs8) Tryz.func252 rfl rfl rfl rfl rfl rfl ?_;rintro v124 w ⟨v,cells,q124,e124,rs,rfl,cx,hrr,hq124,hql124,hsz⟩
  obtain ⟨a1,n1,c1,a2,n2,c2,a3,n3,c3,rfl⟩:=hrr.form2 (cx.leftR)
  replace cx:=cx.swapL
  refine H13 ?_;intro w cx hwS26
  refine K2s ?_
  exact ⟨v,_,q124,e124,rs,rfl,cx.drop 1,hrr,by omega,by omega,hsz⟩
 refine K2 ?_
 replace cx:=cx.swapL
 refine s_call (c253 D wb _ b p d s _ _ cx (by omega) hs8) Tryz.func253 rfl rfl rfl rfl rfl rfl ?_;rintro v126 w ⟨v,cells,q126,e126,rs,rfl,cx,hrr,hq126,hql126,hsz⟩
 obtain ⟨a1,n1,c1,a2,n2,c2,a3,n3,c3,rfl⟩:=hrr.form2 (cx.leftR)
 replace cx:=cx.swapL
 refine H13 ?_;intro w cx hwS27
 refine K2s ?_
 exact ⟨v,_,q126,e126,rs,rfl,cx.drop 1,hrr,by omega,by omega,hsz⟩
theorem c1730 (wb w0:World)(b p:Nat)(d:Bool)(s:List UInt8)(L:List (Nat×Obj))(R:List Row)(cx0:Cxr wb w0 ((b,.cells ([.string (bs s),.int .i64 p,.bool d]:List Value).toArray 261)::L) R)(hp:p≤s.length)(hs8:s.length≤100000000):Ret Tryz.prog 173 [.pointer (some ⟨b,0,none⟩),.int .i64 (49:Nat)] w0 (PP 83 133 261 wb b s L R p 0):=by
 refine Kbj ?_
 have hs:s.length≤1073741824:=by omega
 have cx:=cx0
 refine K0 ?_
 refine Hx ?_;intro b4 w cx hb4 hw4
 refine K5 ?_
 refine cSp rfl (fun hc10=>?_) (fun hc10=>?_)
 ·
  refine K2 ?_
  refine K1q ?_
  refine s_store1 (v:=.bool true) cx 1 rfl rfl rfl rfl rfl rfl rfl rfl sz4 ?_;intro w cx hwS2
  refine K1 ?_
  refine Kb1 ?_
  refine H13 ?_;intro w cx hwS3
  refine K2s ?_
  exact ⟨.mk sc0 [] [] [],_,p,true,[],rfl,cx.drop 1,RR.leafS 83 133 [] sc0,by omega,by omega,.inl rfl⟩
 exfalso
 omega
theorem c173d:∀ (D dd:Nat),D+dd=49→VP D dd
 | 0,dd,h=>by
  obtain rfl:dd=49:=by omega
  exact fun wb w0 b p d s L R cx0 hp hs8=>c1730 wb w0 b p d s L R cx0 hp hs8
 | D+1,dd,h=>fun wb w0 b p d s L R cx0 hp hs8=>c173s D dd (by omega) (c173d D (dd+1) (by omega)) wb w0 b p d s L R cx0 hp hs8
theorem c173w (wb w0:World)(b p:Nat)(d:Bool)(s:List UInt8)(L:List (Nat×Obj))(R:List Row)(cx0:Cxr wb w0 ((b,.cells ([.string (bs s),.int .i64 p,.bool d]:List Value).toArray 261)::L) R)(hp:p≤s.length)(hs8:s.length≤100000000):Ret Tryz.prog 173 [.pointer (some ⟨b,0,none⟩),.int .i64 1] w0 (PP 83 133 261 wb b s L R p 48):=c173d 48 1 (by decide) wb w0 b p d s L R cx0 hp hs8
theorem eq76 (b:Bool)(d:ByteArray)(x:Int)(w:World):(binOp .eql 76 (.agg #[.bool b,.string d,.int .i64 x]) (.agg #[.bool false,.string ByteArray.empty,.int .i64 0])).run Tryz.prog w=.ok (.bool (b==false&&(decide (d=ByteArray.empty)&&x==0))) w:=by
 go_simp
 exact Bz64
theorem c295I (s:List UInt8)(w0:World)(hs:s.length≤1073741824):Fc Tryz.prog 295 [.string (bs s)] w0 (IsI fun _=>True) :=
 (c295 s w0 hs).mono fun v w' _ ⟨i,h,_⟩=>⟨i,h,trivial⟩
theorem c92w (s:ByteArray)(w0:World)(hs:s.size≤1073741824):Fc Tryz.prog 92 [.string s] w0 (IsB fun _=>True) :=
 (c92 s w0 hs).mono fun v w' _ ⟨b,h,_⟩=>⟨b,h,trivial⟩
theorem c218l (b:Bool)(s:List UInt8)(x:Int)(w0:World)(hs:s.length≤1073741824):Fc Tryz.prog 218 [.agg #[.bool b,.string (bs s),.int .i64 x]] w0 (IsB fun _=>True):=by
 refine ret_enter Tryz.func218 rfl Tryz.ntmps218 rfl ?_
 have cx:=Ctx.start w0
 refine K0 ?_
 refine Hc ?_;intro b1 w cx hb1 hw1
 refine K3 ?_
 refine K6j ?_
 refine K2e ?_
 refine cSp rfl (fun hc5=>?_) (fun hc5=>?_)
 ·
  refine K0 ?_
  refine Kad ?_
  refine Kex ?_
  refine s_val rfl rfl (v_agg eqg76 (eq76 _ _ _) rfl rfl rfl) ?_
  exact Bz125
 refine K1 ?_
 refine K6j ?_
 refine s_fnB cx ((c294 s _ hs)) Tryz.func294 rfl rfl rfl rfl rfl rfl ?_;intro q11 w cx hw11 hp11
 refine SS ?_
 refine K91 ?_
 refine K2k ?_
 refine K2 ?_
 refine K91 ?_
 refine K2k ?_
 refine s_gfnI cx rfl rfl rfl wT (fun hc=>(c295I s _ hs)) Tryz.func295 rfl rfl rfl (fun hc=>(cons_eq gX rfl)) ?_;intro q21 w cx hw21 hp21
 refine K1 ?_
 refine K80 ?_
 refine K23 ?_
 refine K1 ?_
 refine K80 ?_
 refine K23 ?_
 refine K0 ?_
 exact Bz125
theorem c218w (b:Bool)(s:ByteArray)(x:Int)(w0:World)(hs:s.size≤1073741824):Fc Tryz.prog 218 [.agg #[.bool b,.string s,.int .i64 x]] w0 (IsB fun _=>True):=by
 have h:=c218l b s.data.toList x w0 p21q
 rwa [bs_of] at h
theorem c219w (k d n z:Int)(w0:World):Fc Tryz.prog 219 [.agg #[.int .i64 k,.int .i64 d,.int .i64 n,.int .i64 z]] w0 (IsB fun b=>b=true→0≤d∧d≤3652058∧0≤n∧n≤86399999999999∧-1439≤z∧z≤1439):=by
 refine ret_enter Tryz.func219 rfl Tryz.ntmps219 rfl ?_
 have cx:=Ctx.start w0
 refine K0 ?_
 refine Hc ?_;intro b1 w cx hb1 hw1
 refine K3 ?_
 refine K42 ?_
 refine K2a ?_
 refine s_gval rfl rfl rfl wF (fun hc=>v_fa fa78_0 rfl gX) ?_
 refine Ki ?_
 refine K7i ?_
 refine Ki ?_
 refine K7i ?_
 refine Ki ?_
 refine K7j ?_
 refine Ki ?_
 refine K7j ?_
 refine Ki ?_
 refine K7k ?_
 refine Ki ?_
 refine K7k ?_
 refine Ki ?_
 refine cSp rfl (fun hc40=>?_) (fun hc40=>?_)
 ·
  refine K3 ?_
  refine ret_tmp Tryz.results219 rfl ?_
  exact Eze
 refine K2 ?_
 refine K42 ?_
 refine K5v ?_
 refine cSp rfl (fun hc43=>?_) (fun hc43=>?_)
 ·
  refine K0 ?_
  refine K98 ?_
  exact Bz30
 refine K3 ?_
 refine cSp rfl (fun hc53=>?_) (fun hc53=>?_)
 ·
  refine K0 ?_
  refine K9a ?_
  exact Bz30
 refine K3 ?_
 refine cSp rfl (fun hc63=>?_) (fun hc63=>?_)
 ·
  refine K0 ?_
  refine s_val rfl rfl (v_fa fa78_3 rfl rfl) ?_
  refine K12 ?_
  refine SS ?_
  exact Bz170
 refine K1 ?_
 exact Bz170
theorem c296w (s:ByteArray)(w0:World)(hs:s.size≤1073741824):Fc Tryz.prog 296 [.string s] w0 (IsI fun _=>True):=by
 refine ret_enter Tryz.func296 rfl Tryz.ntmps296 rfl ?_
 have cx:=Ctx.start w0
 refine K6 ?_
 refine s_fnB cx ((c92w _ _ (by omega))) Tryz.func92 rfl rfl rfl rfl rfl rfl ?_;intro q4 w cx hw4 hp4
 refine K0 ?_
 refine cSp rfl (fun hc5=>?_) (fun hc5=>?_)
 ·
  exact Bz46
 refine K3 ?_
 refine K1t ?_
 refine cSp rfl (fun hc8=>?_) (fun hc8=>?_)
 ·
  exact Bz46
 refine SS ?_
 exact Bz46
theorem c217w (v:V)(cells:List Value)(w0:World)(hv:Vw w0 v cells):Fc Tryz.prog 217 [.agg cells.toArray] w0 (IsB fun _=>True):=by
 obtain ⟨ub,ul,uf,rfl,hb,hl,hf⟩:=hv.form
 obtain ⟨ba,bc,bb,rfl,hb1,hb2⟩:=hb
 obtain ⟨la,lc,lb,rfl,hlc,hl1,hl2⟩:=hl
 obtain ⟨fa,fc,fb,rfl,hfc,hf1,hf2⟩:=hf
 refine ret_enter Tryz.func217 rfl Tryz.ntmps217 rfl ?_
 have cx:=Ctx.start w0
 refine K0 ?_
 refine Hc ?_;intro b1 w cx hb1 hw1
 refine K2 ?_
 refine K6n ?_
 refine K93 ?_
 refine K94 ?_
 refine K3 ?_
 refine K57 ?_
 refine Kb3 ?_
 refine s_gval rfl rfl rfl wT (fun hc=>v_build (qs:=[]) bd76 rfl rfl) ?_
 refine Kdi ?_
 refine K4 ?_
 refine K3l ?_
 refine Kb4 ?_
 refine s_gval rfl rfl rfl wT (fun hc=>v_build (qs:=[]) bd78 rfl rfl) ?_
 refine Kdj ?_
 refine K4 ?_
 refine K9g ?_
 refine K2k ?_
 refine Kao ?_
 refine K4 ?_
 refine s_gval rfl rfl rfl wT (fun hc=>v_fa fa83_5 rfl gX) ?_
 refine Ke0 ?_
 refine Kax ?_
 refine K5 ?_
 refine s_gval rfl rfl rfl wT (fun hc=>v_fa fa83_6 rfl gX) ?_
 refine Ke1 ?_
 refine Ke2 ?_
 refine K5 ?_
 refine s_gval rfl rfl rfl wT (fun hc=>v_fa fa83_7 rfl gX) ?_
 refine Ke3 ?_
 refine Ke4 ?_
 refine K4 ?_
 refine ret_tmp Tryz.results217 rfl ?_
 exact Ezj
theorem c220w (u:Value)(fl:List (ByteArray×V))(w0:World)(hu:Fw w0 u fl)(hn:fl.length≤10000000)(hk:∀ kv∈fl,kv.1.size≤10000000):Fc Tryz.prog 220 [u] w0 (IsI fun _=>True):=by
 obtain ⟨fa,fc,fb,rfl,hfc,hf1,hf2⟩:=hu
 refine ret_enter Tryz.func220 rfl Tryz.ntmps220 rfl ?_
 have cx:=Ctx.start w0
 refine K4 ?_
 refine s_makeMap cx rfl rfl rfl ?_;intro b7 w cx hb7 hw7
 refine K8 ?_
 refine w_loop (fun k f w1=>∃ (i b7:Nat) (ks:List ByteArray),k+i=fl.length∧f 3=.map (some b7)∧f 8=.slice fa fl.length fc∧f 9=.int .i64 fl.length∧f 10=.int .i64 i∧ks.Nodup∧Ctx w0 w1 [(b7,.map (ents ks tt 0).toArray ks.length)]) (fl.length) ?_ ?_
 ·
  exact ⟨0,b7,[],by omega,rfl,rfl,rfl,rfl,by simp,cx⟩
 intro gk3 f w hJ
 obtain ⟨i,b7,ks,hki,hs3,hs8,hs9,hs10,hnod,cx⟩:=hJ
 refine K0 ?_
 refine Kap ?_
 refine K0 ?_
 refine cSp rfl (fun hc11=>?_) (fun hc11=>?_)
 ·
  have hfa:=hf1 (by omega)
  subst hfa
  obtain ⟨kv,hkv⟩:∃ kv,fl[i]?=some kv:=⟨fl[i]'(by omega),List.getElem?_eq_getElem _⟩
  obtain ⟨kcs,hrw,hvw⟩:=hf2 i kv hkv
  obtain ⟨kb,kl,kf,rfl,_,_,_⟩:=hvw.form
  have hks:=hk kv (List.mem_of_getElem? hkv)
  refine K3 ?_
  refine s_val rfl rfl (v_ia Tryz.underlying81 sz133 rfl hs8 hs10 (by omega) (by omega)) ?_
  refine Kdx ?_
  refine H11 ?_;intro b5 w cx hb5 hw5
  refine s_storeAll cx 0 rfl rfl rfl rfl rfl rfl sz133 rfl (fone hvw.one) ?_;intro w cx hwS4
  refine K2 ?_
  refine K3m ?_
  refine K15 ?_
  refine s_fnI cx ((c296w kv.1 _ (by omega))) Tryz.func296 rfl rfl rfl rfl rfl rfl ?_;intro q16 w cx hw16 hp16
  refine K5 ?_
  refine cSp rfl (fun hc18=>?_) (fun hc18=>?_)
  ·
   refine K1 ?_
   exact Bz63
  refine K20 ?_
  refine K3m ?_
  refine K15 ?_
  refine Kf0 ?_
  refine SS ?_
  refine cSp rfl (fun hc23=>?_) (fun hc23=>?_)
  ·
   refine K0 ?_
   exact Bz63
  refine K36 ?_
  refine K3m ?_
  refine K15 ?_
  refine s_mapSetT cx 1 rfl rfl rfl rfl rfl rfl Tryz.underlying102 Tryz.underlying9 hnod rfl hc23 ?_;intro w cx hgr10
  refine K0 ?_
  refine K8h ?_
  refine K0 ?_
  have hnm:=hasK_F hc23
  exact ⟨gk3-1,_,by omega,rfl,i+1,b7,ks++[kv.1],by omega,hs3,hs8,hs9,rfl,List.nodup_append.2 ⟨hnod,by simp,fun a ha b hb=>by rw [List.mem_singleton.1 hb];rintro rfl;exact hnm ha⟩,cx.drop 1⟩
 refine K1 ?_
 exact Bz63
def CK (D:Nat):Prop:=∀ (v:V) (cells:List Value) (wb w0:World) (b n d:Nat) (L:List (Nat×Obj)) (R:List Row) (cx0:Cxr wb w0 ((b,.cells ([.int .i64 ((n:Nat):Int)]:List Value).toArray 3)::L) R) (hv:Vw wb v cells) (hD:Dp D v) (hz:vs D v≤2200000) (hd:d≤1000) (hn:n≤65536),Ret Tryz.prog 154 [.agg cells.toArray,.int .i64 (d:Nat),.pointer (some ⟨b,0,none⟩)] w0 (fun u w'=>∃ (e:Int) (m:Nat),u=.int .i64 e∧(e=0→m≤65536)∧m≤65537∧Cxr wb w' ((b,.cells ([.int .i64 ((m:Nat):Int)]:List Value).toArray 3)::L) R)
theorem c154s (D:Nat)(ih:CK D)(v:V)(cells:List Value)(wb w0:World)(b n d:Nat)(L:List (Nat×Obj))(R:List Row)(cx0:Cxr wb w0 ((b,.cells ([.int .i64 ((n:Nat):Int)]:List Value).toArray 3)::L) R)(hv:Vw wb v cells)(hD:Dp (D+1) v)(hz:vs (D+1) v≤2200000)(hd:d≤1000)(hn:n≤65536):Ret Tryz.prog 154 [.agg cells.toArray,.int .i64 (d:Nat),.pointer (some ⟨b,0,none⟩)] w0 (fun u w'=>∃ (e:Int) (m:Nat),u=.int .i64 e∧(e=0→m≤65536)∧m≤65537∧Cxr wb w' ((b,.cells ([.int .i64 ((m:Nat):Int)]:List Value).toArray 3)::L) R):=by
 have hown:=vs_own hD
 have hlen:=vs_lens hD
 have hfk:∀ kv∈v.fields,kv.1.size≤10000000:=fun kv h=>by have:=(vs_field hD h).2;omega
 obtain ⟨ub,ul,uf,rfl,hb,hl,hf⟩:=hv.form
 obtain ⟨ba,bc,bb,rfl,hb1,hb2⟩:=hb
 have hl':=hl
 obtain ⟨la,lc,lb,rfl,hlc,hl1,hl2⟩:=hl'
 have hf':=hf
 obtain ⟨fa,fc,fb,rfl,hfc,hf1,hf2⟩:=hf'
 refine ret_enter Tryz.func154 rfl Tryz.ntmps154 rfl ?_
 have cx:=cx0
 refine K0 ?_
 refine Hc ?_;intro b3 w cx hb3 hw3
 refine K4 ?_
 refine K1m ?_
 refine K0 ?_
 refine s_store1 (v:=.int .i64 ((n+1:Nat):Int)) cx 1 rfl rfl rfl rfl rfl rfl rfl rfl sz3 ?_;intro w cx hwS1
 refine K7 ?_
 refine cSp rfl (fun hc19=>?_) (fun hc19=>?_)
 ·
  refine K0 ?_
  exact Bz8
 refine K2 ?_
 refine K1m ?_
 refine K1 ?_
 refine cSp rfl (fun hc22=>?_) (fun hc22=>?_)
 ·
  refine K0 ?_
  exact Bz8
 refine K6q ?_
 refine K58 ?_
 refine Ki ?_
 refine K5f ?_
 refine s_gfnB cx rfl rfl rfl wF (fun hc=>(c217w v _ _ (hv.up cx.ext))) Tryz.func217 rfl rfl rfl (fun hc=>(cons_eq gX rfl)) ?_;intro q38 w cx hw38 hp38
 refine K1 ?_
 refine cSp rfl (fun hc27=>?_) (fun hc27=>?_)
 ·
  refine K0 ?_
  exact Bz8
 refine K6q ?_
 refine K57 ?_
 refine Kb3 ?_
 refine s_gfnB cx rfl rfl rfl wT (fun hc=>(c218w v.sc.neg v.sc.dig v.sc.exp _ (by omega))) Tryz.func218 rfl rfl rfl (fun hc=>(cons_eq gX rfl)) ?_;intro q47 w cx hw47 hp47
 refine K1 ?_
 refine K58 ?_
 refine K6m ?_
 refine K3l ?_
 refine s_gval rfl rfl rfl wT (fun hc=>v_load rfl gX Tryz.underlying78 rfl sz78 (l:=[.int .i64 v.sc.tk,.int .i64 v.sc.td,.int .i64 v.sc.tn,.int .i64 v.sc.tz]) ((cx.row 0 rfl).sub 5 rfl) rfl) ?_
 refine s_gfnB cx rfl rfl rfl wT (fun hc=>(c219w v.sc.tk v.sc.td v.sc.tn v.sc.tz _)) Tryz.func219 rfl rfl rfl (fun hc=>(cons_eq gX rfl)) ?_;intro q57 w cx hw57 hp57
 refine K3 ?_
 refine cSp rfl (fun hc40=>?_) (fun hc40=>?_)
 ·
  refine K0 ?_
  exact Bz8
 refine K6q ?_
 refine K9g ?_
 refine K2k ?_
 refine s_gfnB cx rfl rfl rfl wT (fun hc=>(c92w v.sc.text _ (by omega))) Tryz.func92 rfl rfl rfl (fun hc=>(cons_eq gX rfl)) ?_;intro q68 w cx hw68 hp68
 refine K2 ?_
 refine cSp rfl (fun hc61=>?_) (fun hc61=>?_)
 ·
  refine K0 ?_
  exact Bz8
 refine K6o ?_
 refine K1t ?_
 refine K6k ?_
 refine K2 ?_
 refine cSp rfl (fun hc71=>?_) (fun hc71=>?_)
 ·
  refine K0 ?_
  exact Bz8
 refine K6p ?_
 refine s_fnI cx ((c220w _ v.fields _ (hf.up cx.ext) (by omega) hfk)) Tryz.func220 rfl rfl rfl rfl rfl rfl ?_;intro q84 w cx hw84 hp84
 refine K5 ?_
 refine cSp rfl (fun hc86=>?_) (fun hc86=>?_)
 ·
  exact Bz178
 refine K2 ?_
 refine K33 ?_
 refine K3n ?_
 refine K2 ?_
 refine w_loop (fun g f1 w1=>∃ (i n2 b3:Nat),g+i=v.list.length∧n2≤65536∧f1 1=.int .i64 (d:Nat)∧f1 2=.pointer (some ⟨b,0,none⟩)∧f1 3=.pointer (some ⟨b3,0,none⟩)∧f1 89=.slice la v.list.length lc∧f1 90=.int .i64 v.list.length∧f1 91=.int .i64 i∧Cxr wb w1 ((b3,.cells (vrow v.sc (.slice ba v.bytes.length bc) (.slice la v.list.length lc) (.slice fa v.fields.length fc)).toArray 83)::(b,.cells ([.int .i64 ((n2:Nat):Int)]:List Value).toArray 3)::L) R) (v.list.length) ?_ ?_
 ·
  exact ⟨0,n+1,_,by omega,by omega,rfl,rfl,rfl,rfl,rfl,rfl,cx⟩
 intro gk18 f w hJ
 obtain ⟨i,n2,b3,hg,hn2,hs1,hs2,hs3,hs89,hs90,hs91,cx⟩:=hJ
 refine K0 ?_
 refine s_val rfl rfl (v_cmp rfl hs91 hs90 rfl) ?_
 refine K0 ?_
 refine cSp rfl (fun hc92=>?_) (fun hc92=>?_)
 ·
  obtain ⟨x,hx⟩:∃ x,v.list[i]?=some x:=⟨v.list[i]'(by omega),List.getElem?_eq_getElem _⟩
  have hla:=hl1 (by omega)
  subst hla
  obtain ⟨xcs,hrx,hvx⟩:=hl2 i x hx
  obtain ⟨xb,xl,xf,rfl,_,_,_⟩:=hvx.form
  have hdx:=vs_list hD (List.mem_of_getElem? hx)
  refine K3 ?_
  refine s_val rfl rfl (v_ia Tryz.underlying80 sz83 rfl hs89 hs91 (by omega) (by omega)) ?_
  refine Kf1 ?_
  refine Hx ?_;intro b9 w cx hb9 hw9
  refine s_storeAll cx 0 rfl rfl rfl rfl rfl rfl sz83 rfl hvx.one ?_;intro w cx hwS19
  refine K1 ?_
  refine K16 ?_
  refine K3b ?_
  refine Kp ?_
  replace cx:=cx.swap3
  refine s_call (ih x _ wb _ b n2 (d+1) _ R cx hvx hdx.1 (by omega) (by omega) hn2) Tryz.func154 rfl rfl rfl rfl rfl rfl ?_;rintro v99 w ⟨e99,n3,rfl,hn30,hn31,cx⟩
  replace cx:=cx.swap3b
  refine K5 ?_
  refine cSp rfl (fun hc101=>?_) (fun hc101=>?_)
  ·
   exact Bz178
  refine K0 ?_
  refine s_val rfl rfl (v_add rfl hs91 rfl (by omega) (by omega)) ?_
  refine K0 ?_
  exact ⟨gk18-1,_,by omega,rfl,i+1,n3,b3,by omega,hn30 (by omega),hs1,hs2,hs3,hs89,hs90,rfl,cx.drop 1⟩
 refine K2 ?_
 refine s_val rfl rfl (v_fa fa83_7 rfl hs3) ?_
 refine K59 ?_
 refine K2 ?_
 refine w_loop (fun g f1 w1=>∃ (i n2 b3:Nat),g+i=v.fields.length∧n2≤65536∧f1 1=.int .i64 (d:Nat)∧f1 2=.pointer (some ⟨b,0,none⟩)∧f1 3=.pointer (some ⟨b3,0,none⟩)∧f1 105=.slice fa v.fields.length fc∧f1 106=.int .i64 v.fields.length∧f1 107=.int .i64 i∧Cxr wb w1 ((b3,.cells (vrow v.sc (.slice ba v.bytes.length bc) (.slice la v.list.length lc) (.slice fa v.fields.length fc)).toArray 83)::(b,.cells ([.int .i64 ((n2:Nat):Int)]:List Value).toArray 3)::L) R) (v.fields.length) ?_ ?_
 ·
  exact ⟨0,n2,b3,by omega,hn2,hs1,hs2,hs3,rfl,rfl,rfl,cx⟩
 intro gk25 f w hJ
 obtain ⟨i,n2,b3,hg,hn2,hs1,hs2,hs3,hs105,hs106,hs107,cx⟩:=hJ
 refine K0 ?_
 refine s_val rfl rfl (v_cmp rfl hs107 hs106 rfl) ?_
 refine K0 ?_
 refine cSp rfl (fun hc108=>?_) (fun hc108=>?_)
 ·
  obtain ⟨kv,hx⟩:∃ x,v.fields[i]?=some x:=⟨v.fields[i]'(by omega),List.getElem?_eq_getElem _⟩
  have hfa:=hf1 (by omega)
  subst hfa
  obtain ⟨xcs,hrx,hvx⟩:=hf2 i kv hx
  obtain ⟨xb,xl,xf,rfl,_,_,_⟩:=hvx.form
  have hdx:=vs_field hD (List.mem_of_getElem? hx)
  refine K3 ?_
  refine s_val rfl rfl (v_ia Tryz.underlying81 sz133 rfl hs105 hs107 (by omega) (by omega)) ?_
  refine Kf2 ?_
  refine H11 ?_;intro b12 w cx hb12 hw12
  refine s_storeAll cx 0 rfl rfl rfl rfl rfl rfl sz133 rfl (fone hvx.one) ?_;intro w cx hwS26
  refine K1 ?_
  refine K96 ?_
  refine Kf3 ?_
  refine K3b ?_
  refine Kp ?_
  replace cx:=cx.swap3
  refine s_call (ih kv.2 _ wb _ b n2 (d+1) _ R cx hvx hdx.1 (by omega) (by omega) hn2) Tryz.func154 rfl rfl rfl rfl rfl rfl ?_;rintro v116 w ⟨e116,n3,rfl,hn30,hn31,cx⟩
  replace cx:=cx.swap3b
  refine K5 ?_
  refine cSp rfl (fun hc118=>?_) (fun hc118=>?_)
  ·
   exact Bz178
  refine K0 ?_
  refine s_val rfl rfl (v_add rfl hs107 rfl (by omega) (by omega)) ?_
  refine K0 ?_
  exact ⟨gk25-1,_,by omega,rfl,i+1,n3,b3,by omega,hn30 (by omega),hs1,hs2,hs3,hs105,hs106,rfl,cx.drop 1⟩
 refine K1 ?_
 exact Bz8
theorem c154w:∀ D,CK D
 | 0=>fun v cells wb w0 b n d L R cx0 hv h=>h.elim
 | D+1=>fun v cells wb w0 b n d L R cx0 hv hD hz hd hn=>c154s D (c154w D) v cells wb w0 b n d L R cx0 hv hD hz hd hn
theorem c97w (D:Nat)(v:V)(cells:List Value)(w0:World)(hv:Vw w0 v cells)(hD:Dp D v)(hz:vs D v≤2200000):Fc Tryz.prog 97 [.agg cells.toArray] w0 (IsI fun _=>True):=by
 refine ret_enter Tryz.func97 rfl Tryz.ntmps97 rfl ?_
 have cx:=Ctx.start w0
 refine K0 ?_
 refine Hc ?_;intro b1 w cx hb1 hw1
 refine K2 ?_
 refine s_alloc cx z3 rfl rfl rfl ?_;intro b3 w cx hb3 hw3
 refine s_store1 (v:=.int .i64 ((0:Nat):Int)) cx 0 rfl rfl rfl rfl rfl rfl rfl rfl sz3 ?_;intro w cx hwS1
 refine K1 ?_
 refine K9v ?_
 refine s_call (c154w D v cells w0 _ _ 0 1 _ _ cx hv hD hz (by omega) (by omega)) Tryz.func154 rfl rfl rfl rfl rfl rfl ?_;rintro v5 w ⟨e5,n3,rfl,hn30,hn31,cx⟩
 refine K1 ?_
 refine ret_tmp Tryz.results97 rfl ?_
 exact Ezj
end Go.Proofs.YthiafbkolhnadaaGreatDoor
end
section
namespace Go.Dk
open Go Go.RowKit Go.Lib
abbrev LT:=V×List Value×List Row
abbrev FT:=FC×List Row
def lcs (z:List LT):List Value:=z.flatMap (·.2.1)
def lrs (z:List LT):List Row:=z.flatMap (·.2.2)
def fcs (z:List FT):List Value:=(z.map (·.1)).flatMap rc
def frs (z:List FT):List Row:=z.flatMap (·.2)
def lvs (z:List LT):List V:=z.map (·.1)
def fvs (z:List FT):List (ByteArray×V):=z.map fun p=>p.1.1
inductive RT (t u:Nat):V→List Value→List Row→Prop where
 | mk (s:Sc) (bytes:List UInt8) (zl:List LT) (zf:List FT) (bs ls fs:Value)
  (hl:∀ p∈zl,RT t u p.1 p.2.1 p.2.2) (hf:∀ p∈zf,RT t u p.1.1.2 p.1.2 p.2) :
  RT t u (.mk s bytes (lvs zl) (fvs zf)) (vrow s bs ls fs)
   (⟨5,1,bs,bytes.length,bytes.map bv⟩::⟨t,13,ls,zl.length,lcs zl⟩::⟨u,14,fs,zf.length,fcs zf⟩::(lrs zl++frs zf))
theorem fcs_eq:∀ z:List FT,fcs z=fcells ((fvs z).map (·.1)) (z.map fun p=>p.1.2)
 | []=>rfl
 | p::z=>by
  have:=fcs_eq z
  unfold fcs fvs at *
  simp only [List.map_cons,List.flatMap_cons,fcells,this,rc]
theorem lcs_eq (z:List LT):lcs z=(z.map (·.2.1)).flatten:=by unfold lcs;rw [List.flatMap_def]
theorem RT.rr {t u:Nat}{v:V}{cs:List Value}{rs:List Row}(h:RT t u v cs rs):RR t u rs v cs:=by
 induction h with
 | mk s bytes zl zf bs ls fs hl hf ih1 ih2 =>
  have e1:zl.length=(lvs zl).length:=by simp [lvs]
  have e2:zf.length=(fvs zf).length:=by simp [fvs]
  refine .mk s bytes (lvs zl) (fvs zf) bs ls fs (zl.map (·.2.1)) (zf.map fun p=>p.1.2) (.inr (by simp)) (.inr ?_) (by simp [lvs]) (fun i v cs h1 h2=>?_) (.inr ?_) (by simp [fvs]) (fun i kv cs h1 h2=>?_)
  · rw [← lcs_eq,← e1];simp
  · unfold lvs at h1
    rw [List.getElem?_map] at h1 h2
    cases hp:zl[i]? with
    | none=>rw [hp] at h1;cases h1
    | some p =>
     rw [hp] at h1 h2
     cases h1;cases h2
     have hm:=List.mem_of_getElem? hp
     refine (ih1 p hm).mono fun r hr=>?_
     simp only [List.mem_cons,List.mem_append]
     exact .inr (.inr (.inr (.inl (List.mem_flatMap.2 ⟨p,hm,hr⟩))))
  · rw [← fcs_eq,← e2];simp
  · unfold fvs at h1
    rw [List.getElem?_map] at h1 h2
    cases hp:zf[i]? with
    | none=>rw [hp] at h1;cases h1
    | some p =>
     rw [hp] at h1 h2
     cases h1;cases h2
     have hm:=List.mem_of_getElem? hp
     refine (ih2 p hm).mono fun r hr=>?_
     simp only [List.mem_cons,List.mem_append]
     exact .inr (.inr (.inr (.inr (List.mem_flatMap.2 ⟨p,hm,hr⟩))))
theorem RT.len {t u:Nat}{v:V}{cs:List Value}{rs:List Row}(h:RT t u v cs rs):cs.length=13:=by
 cases h;rfl
theorem lcs_len {t u:Nat}{z:List LT}(h:∀ p∈z,RT t u p.1 p.2.1 p.2.2):(lcs z).length=z.length*13:=by
 induction z with
 | nil=>rfl
 | cons p z ih =>
  have h1:=(h p (by simp)).len
  have h2:=ih fun q hq=>h q (by simp [hq])
  unfold lcs at *
  rw [List.flatMap_cons,List.length_append,h1,h2,List.length_cons]
  omega
theorem perm_map_inv {α β:Type}(f:α→β){Z Y:List β}(h:Z.Perm Y):∀ ts:List α,Y=ts.map f→∃ ts':List α,ts'.Perm ts∧Z=ts'.map f:=by
 induction h with
 | nil =>
  intro ts h
  have:ts=[]:=List.map_eq_nil_iff.1 h.symm
  subst this
  exact ⟨[],List.Perm.refl _,rfl⟩
 | cons x _ ih =>
  intro ts h
  cases ts with
  | nil=>cases h
  | cons t ts =>
   simp only [List.map_cons,List.cons.injEq] at h
   obtain ⟨ts',h1,h2⟩:=ih ts h.2
   exact ⟨t::ts',h1.cons t,by rw [List.map_cons,h2,h.1]⟩
 | swap x y l =>
  intro ts h
  cases ts with
  | nil=>cases h
  | cons t ts =>
   cases ts with
   | nil=>simp at h
   | cons t2 ts =>
    simp only [List.map_cons,List.cons.injEq] at h
    refine ⟨t2::t::ts,List.Perm.swap _ _ _,?_⟩
    simp only [List.map_cons,List.cons.injEq]
    exact ⟨h.2.1,h.1,h.2.2⟩
 | trans _ _ ih1 ih2 =>
  intro ts h
  obtain ⟨ts2,h1,h2⟩:=ih2 ts h
  obtain ⟨ts3,h3,h4⟩:=ih1 ts2 h2
  exact ⟨ts3,h3.trans h1,h4⟩
theorem lrs_snoc (z:List LT)(p:LT):lrs (z++[p])=lrs z++p.2.2:=by simp [lrs]
theorem frs_snoc (z:List FT)(p:FT):frs (z++[p])=frs z++p.2:=by simp [frs]
theorem lcs_snoc (z:List LT)(p:LT):lcs (z++[p])=lcs z++p.2.1:=by simp [lcs]
theorem fcs_snoc (z:List FT)(p:FT):fcs (z++[p])=fcs z++rc p.1:=by simp [fcs]
theorem lrs_mid (A B:List LT)(p:LT):lrs (A++p::B)=lrs A++(p.2.2++lrs B):=by simp [lrs]
theorem frs_mid (A B:List FT)(p:FT):frs (A++p::B)=frs A++(p.2++frs B):=by simp [frs]
theorem lcs_mid (A B:List LT)(p:LT):lcs (A++p::B)=lcs A++(p.2.1++lcs B):=by simp [lcs]
theorem fcs_mid (A B:List FT)(p:FT):fcs (A++p::B)=fcs A++(rc p.1++fcs B):=by simp [fcs]
theorem perm_mid3 {α:Type}(X A P B:List α):(X++(A++(P++B))).Perm (P++(X++(A++B))):=by
 have h1:(X++(A++(P++B)))=(X++A)++(P++B):=by simp
 have h2:P++(X++(A++B))=P++((X++A)++B):=by simp
 rw [h1,h2,← List.append_assoc,← List.append_assoc P]
 exact List.Perm.append_right B List.perm_append_comm
theorem vs_eqL {D:Nat}{A B:List LT}{p q:LT}(h:vs D p.1=vs D q.1):((lvs (A++p::B)).map (vs D)).sum=((lvs (A++q::B)).map (vs D)).sum:=by
 simp [lvs,h]
theorem RT.of {t u:Nat}{v:V}{zl:List LT}{zf:List FT}{bs ls fs:Value}(e1:lvs zl=v.list)(e2:fvs zf=v.fields)(hl:∀ p∈zl,RT t u p.1 p.2.1 p.2.2)(hf:∀ p∈zf,RT t u p.1.1.2 p.1.2 p.2) :
  RT t u v (vrow v.sc bs ls fs) (⟨5,1,bs,v.bytes.length,v.bytes.map bv⟩::⟨t,13,ls,zl.length,lcs zl⟩::⟨u,14,fs,zf.length,fcs zf⟩::(lrs zl++frs zf)):=by
 cases v with
 | mk s b l f =>
  simp only [V.list,V.fields] at e1 e2
  subst e1 e2
  exact .mk s b zl zf bs ls fs hl hf
theorem RT.one {w0 w:World}{L:List (Nat×Obj)}{R:List Row}{t u:Nat}{v:V}{cs:List Value}{rs:List Row}(h:RT t u v cs rs)(cx:Cxr w0 w L R)(hs:∀ r∈rs,r∈R):cs.all (·.oneCell')=true:=((h.rr.mono hs).vw cx).one
theorem Cxr.grabE {w0 w:World}{L:List (Nat×Obj)}{rs rs2:List Row}{a b:Row}(h:Cxr w0 w L (rs2++(a::b::rs))):Cxr w0 w L (a::b::(rs++rs2)):=h.permR List.perm_append_comm
theorem Cxr.grabE3 {w0 w:World}{L:List (Nat×Obj)}{rs rt rs2:List Row}{a b c:Row}(h:Cxr w0 w L (rs2++(a::b::c::(rs++rt)))):Cxr w0 w L (a::b::c::(rs++(rt++rs2))):=by
 have:=h.permR List.perm_append_comm
 rwa [List.cons_append,List.cons_append,List.cons_append,List.append_assoc] at this
theorem perm_cfb {α:Type}{a b c:α}{X Y:List α}:(a::b::c::(X++Y)).Perm (c::b::a::(X++Y)):=by
 have h:=List.Perm.append_right (X++Y) (List.reverse_perm [c,b,a])
 exact h
theorem perm_lbf {α:Type}{b l f:α}{x y R:List α}:((b::l::f::(x++y))++R).Perm (l::b::f::(x++(y++R))):=by
 rw [List.cons_append,List.cons_append,List.cons_append,List.append_assoc]
 exact List.Perm.swap _ _ _
theorem perm_f1 {α:Type}{f' l b f:α}{x y y' R:List α}(h:y'.Perm y):(f'::l::b::f::(x++(y++R))).Perm (f::f'::l::b::(y'++(x++R))):=by
 have h1:(f'::l::b::f::(x++(y++R))).Perm (f::f'::l::b::(x++(y++R))):=List.perm_middle (l₁:=[f',l,b])
 refine h1.trans ?_
 refine (((List.Perm.cons b ?_).cons l).cons f').cons f
 rw [← List.append_assoc,← List.append_assoc]
 exact List.Perm.append_right R (List.perm_append_comm.trans (List.Perm.append_right x h.symm))
theorem perm_fin {α:Type}{f l b:α}{x y R:List α}:(f::l::b::(y++(x++R))).Perm ((b::l::f::(x++y))++R):=by
 rw [List.cons_append,List.cons_append,List.cons_append]
 refine (perm_cfb (X:=y) (Y:=x++R)).trans ?_
 refine ((List.Perm.cons f ?_).cons l).cons b
 rw [← List.append_assoc]
 exact List.Perm.append_right R List.perm_append_comm
theorem perm_out {α:Type}{a b c:α}(A P B Y:List α):(a::b::c::((A++(P++B))++Y)).Perm (P++(a::b::c::(A++(B++Y)))):=by
 rw [List.append_assoc,List.append_assoc]
 exact perm_mid3 [a,b,c] A P (B++Y)
theorem fcs_flat (z:List FT):fcs z=(z.map fun p=>rc p.1).flatten:=by
 unfold fcs
 rw [List.flatMap_def,List.map_map]
 rfl
theorem fcs_len {t u:Nat}{z:List FT}(h:∀ p∈z,RT t u p.1.1.2 p.1.2 p.2):(fcs z).length=z.length*14:=by
 induction z with
 | nil=>rfl
 | cons p z ih =>
  have h1:=(h p (by simp)).len
  have h2:=ih fun q hq=>h q (by simp [hq])
  unfold fcs at *
  rw [List.map_cons,List.flatMap_cons,List.length_append,h2,List.length_cons]
  simp only [rc,List.length_cons]
  omega
theorem lcs_at {w:World}{g:Nat}{A B:List LT}{p:LT}(h:RowAt w g 0 (lcs (A++p::B)))(hA:(lcs A).length=A.length*13):RowAt w g (0+A.length*13) p.2.1:=by
 rw [lcs_mid] at h
 rw [← hA]
 exact h.right.left
theorem fcs_at {w:World}{g:Nat}{A B:List FT}{p:FT}(h:RowAt w g 0 (fcs (A++p::B)))(hA:(fcs A).length=A.length*14):RowAt w g (0+A.length*14) (rc p.1):=by
 rw [fcs_mid] at h
 rw [← hA]
 exact h.right.left
section
variable {P:Program} {ops:Array Oper} {Q:Exit→Act→World→Prop} {rest:List Oper} {o:Oper} {n:Nat} {f:Nat→Value} {w w0:World} {L:List (Nat×Obj)} {R:List Row}
theorem s_storeRow {t:TypeId}{x y:Operand}{e size k cap g j:Nat}{xs l:List Value}(cx:Cxr w0 w L (⟨e,size,.slice (some ⟨g,0,none⟩) k cap,k,xs⟩::R))(hg:o.guard=none)(hd:o.dst=none)(ho:o.op=.store t x y)(hx:ev n f x=.pointer (some ⟨g,j,none⟩))(hy:ev n f y=.agg l.toArray)
  (hs:(P.info? t).map (·.size)=some l.length) (hj:j+l.length≤k*size) (h1:l.all (·.oneCell')=true)
  (h:∀ w',Cxr w0 w' L (⟨e,size,.slice (some ⟨g,0,none⟩) k cap,k,xs.take j++l++xs.drop (j+l.length)⟩::R)→w.grownBy w' (some g)→w'.heap.size=w.heap.size→wpList P ops Q rest (St n f) w'):wpList P ops Q (o::rest) (St n f) w:=by
 have hrow0:=cx.rows _ (List.mem_cons_self ..)
 have hoff0:=cx.off _ (List.mem_cons_self ..)
 have hpw0:=(List.pairwise_cons.1 cx.pw).1
 simp only at hrow0 hoff0 hpw0
 rcases hrow0.2 with ⟨h0,_⟩ | ⟨g',cap',cur,he,hbg,hgc,hkc,hcm,hcs,htake⟩
 · cases h0
 simp only [Value.slice.injEq,Option.some.injEq,Addr.mk.injEq,and_true,true_and] at he
 obtain ⟨rfl,rfl⟩:=he
 have hle:k*size≤cap*size:=Nat.mul_le_mul_right _ hkc
 have hrun:=run_storeCells_at P g j e l 0 cur w hgc (by rw [hcs];omega) (fun v hv=>List.all_eq_true.1 h1 v hv)
 simp only [Nat.add_zero] at hrun
 refine s_put (w':=w.setRow g (cur.toList.take j++l++cur.toList.drop (j+l.length)).toArray) hg hd ?_ ?_
 · unfold execOp;rw [ho]
   cases hq:P.info? t with
   | none=>simp [hq] at hs
   | some i =>
    have hs':l.length=i.size:=by simp [hq] at hs;omega
    simp [hx,hy,Instr.storeAt,Instr.sureAddr,storeVar,sizeOf,typeInfo,hq,Value.cells,hs',hrun]
 · have hgr:w.grownBy (w.setRow g (cur.toList.take j++l++cur.toList.drop (j+l.length)).toArray) (some g):=⟨rfl,rfl,rfl,by simp,fun k _ hne=>setRow_other w g k _ fun e=>hne (by rw [e])⟩
   refine h _ ?_ hgr (by simp)
   have hcx0:Cxr w0 (w.setRow g (cur.toList.take j++l++cur.toList.drop (j+l.length)).toArray) L R:=by
    refine ⟨cx.ext.grown hgr cx.ext.size (fun k hk=>by simp at hk;omega),?_,cx.lo,cx.nd,?_,fun r hr=>cx.off r (List.mem_cons_of_mem _ hr),(List.pairwise_cons.1 cx.pw).2⟩
    · intro p hp'
      exact Bz144
    · intro r hr
      exact Bz107
   refine hcx0.addRow _ ⟨?_,.inr ⟨g,cap,_,rfl,hbg,setRow_heap w g cur _ _ _ hgc,hkc,hcm,?_,?_⟩⟩ hoff0 hpw0
   · have:=hrow0.1
     simp only [List.length_append,List.length_take,List.length_drop]
     omega
   · simp only [List.size_toArray,List.length_append,List.length_take,List.length_drop,Array.length_toList]
     omega
   · rw [← htake]
     have hl:cur.toList.length=cap*size:=by simpa using hcs
     generalize cur.toList=c at hl
     apply List.ext_getElem?
     intro i
     simp only [List.getElem?_take,List.getElem?_append,List.length_take,List.getElem?_drop,List.length_append]
     have e1:min j c.length=j:=by omega
     have e2:min j (min (k*size) c.length)=j:=by omega
     rw [e1,e2]
     by_cases hi:i<k*size
     · rw [if_pos hi]
       by_cases h2:i<j+l.length
       · rw [if_pos h2,if_pos h2]
         by_cases h3:i<j
         · rw [if_pos h3,if_pos h3,if_pos h3,if_pos h3,if_pos hi]
         · rw [if_neg h3,if_neg h3]
       · rw [if_neg h2,if_neg h2,if_pos (by omega)]
     · rw [if_neg hi,if_neg (by omega),if_neg (by omega)]
end
section
variable {P:Program} {ops:Array Oper} {Q:Exit→Act→World→Prop} {rest:List Oper} {o:Oper} {n:Nat} {f:Nat→Value} {w w0:World} {L:List (Nat×Obj)} {R:List Row}
theorem s_storeL {t e:TypeId}{x y:Operand}{k cap g:Nat}{A B:List LT}{p q:LT}(cx:Cxr w0 w L (⟨e,13,.slice (some ⟨g,0,none⟩) k cap,k,lcs (A++p::B)⟩::R))(hg:o.guard=none)(hd:o.dst=none)(ho:o.op=.store t x y)(hx:ev n f x=.pointer (some ⟨g,0+A.length*13,none⟩))(hy:ev n f y=.agg q.2.1.toArray)
  (hs:(P.info? t).map (·.size)=some 13) (hA:(lcs A).length=A.length*13) (hp:p.2.1.length=13) (hq:q.2.1.length=13) (hk:A.length<k) (ho1:q.2.1.all (·.oneCell')=true)
  (h:∀ w',Cxr w0 w' L (⟨e,13,.slice (some ⟨g,0,none⟩) k cap,k,lcs (A++q::B)⟩::R)→wpList P ops Q rest (St n f) w'):wpList P ops Q (o::rest) (St n f) w:=by
 refine s_storeRow cx hg hd ho hx hy (by rw [hq];exact hs) (by rw [hq];omega) ho1 fun w' cx' _ _=>h w' ?_
 have e2:(lcs (A++p::B)).take (0+A.length*13)++q.2.1++(lcs (A++p::B)).drop (0+A.length*13+q.2.1.length)=lcs (A++q::B):=by
  rw [Nat.zero_add,lcs_mid,lcs_mid,← hA,hq,← hp,List.take_left,List.drop_length_add_append]
  simp
 rwa [e2] at cx'
theorem s_storeF {t e:TypeId}{x y:Operand}{k cap g:Nat}{A B:List FT}{p q:FT}(cx:Cxr w0 w L (⟨e,14,.slice (some ⟨g,0,none⟩) k cap,k,fcs (A++p::B)⟩::R))(hg:o.guard=none)(hd:o.dst=none)(ho:o.op=.store t x y)(hx:ev n f x=.pointer (some ⟨g,0+A.length*14+1,none⟩))(hy:ev n f y=.agg q.1.2.toArray)
  (hs:(P.info? t).map (·.size)=some 13) (hA:(fcs A).length=A.length*14) (hp:p.1.2.length=13) (hq:q.1.2.length=13) (hkey:q.1.1.1=p.1.1.1) (hk:A.length<k) (ho1:q.1.2.all (·.oneCell')=true)
  (h:∀ w',Cxr w0 w' L (⟨e,14,.slice (some ⟨g,0,none⟩) k cap,k,fcs (A++q::B)⟩::R)→wpList P ops Q rest (St n f) w'):wpList P ops Q (o::rest) (St n f) w:=by
 refine s_storeRow cx hg hd ho hx hy (by rw [hq];exact hs) (by rw [hq];omega) ho1 fun w' cx' _ _=>h w' ?_
 have e2:(fcs (A++p::B)).take (0+A.length*14+1)++q.1.2++(fcs (A++p::B)).drop (0+A.length*14+1+q.1.2.length)=fcs (A++q::B):=by
  have h1:fcs (A++p::B)=(fcs A++[Value.string p.1.1.1])++(p.1.2++fcs B):=by rw [fcs_mid];simp [rc]
  have h2:(fcs A++[Value.string p.1.1.1]).length=0+A.length*14+1:=by simp only [List.length_append,List.length_cons,List.length_nil,hA];omega
  rw [h1,← h2,hq,← hp,List.take_left,List.drop_length_add_append,List.drop_left,fcs_mid]
  simp [rc,hkey]
 rwa [e2] at cx'
end
end Go.Dk
end
section
namespace Go.Dk
open Go Go.RowKit Go.Lib
abbrev Els:=List (List Value)
def Rw (r:List Value):Prop:=∃ k c,r=.string k::c∧c.length=13∧c.all (·.oneCell')=true
theorem Rw.len {r:List Value}(h:Rw r):r.length=14:=by obtain ⟨k,c,rfl,h,_⟩:=h;simp [h]
theorem Rw.one {r:List Value}(h:Rw r):r.all (·.oneCell')=true:=by obtain ⟨k,c,rfl,_,h⟩:=h;rw [List.all_cons,h];rfl
theorem flat14:∀ (rs:Els),(∀ r∈rs,Rw r)→rs.flatten.length=rs.length*14
 | [],_=>rfl
 | r::rs,h=>by
  rw [List.flatten_cons,List.length_append,flat14 rs fun r hr=>h r (List.mem_cons_of_mem _ hr),(h r (by simp)).len,List.length_cons];omega
theorem flat_set14:∀ (rs:Els) (j:Nat) (l:List Value),(∀ r∈rs,Rw r)→j<rs.length→l.length=14→rs.flatten.take (j*14)++l++rs.flatten.drop (j*14+l.length)=(rs.set j l).flatten
 | [],j,l,_,h,_=>by simp at h
 | x::rs,0,l,hr,h,hl=>by
  have h1:=(hr x (by simp)).len
  rw [List.flatten_cons]
  simp only [Nat.zero_mul,Nat.zero_add,List.take_zero,List.nil_append,List.set_cons_zero,List.flatten_cons]
  rw [hl,← h1,List.drop_left]
 | x::rs,j+1,l,hr,h,hl=>by
  have h1:=(hr x (by simp)).len
  have ih:=flat_set14 rs j l (fun r hr'=>hr r (List.mem_cons_of_mem _ hr')) p19q hl
  rw [List.set_cons_succ,List.flatten_cons,List.flatten_cons,← ih,show (j+1)*14=x.length+j*14 by omega,show x.length+j*14+l.length=x.length+(j*14+l.length) by omega]
  rw [List.take_length_add_append,List.drop_length_add_append]
  simp [List.append_assoc]
theorem flat_at14:∀ (rs:Els) (j:Nat) (r:List Value),(∀ r∈rs,Rw r)→rs[j]?=some r→∀ i x,r[i]?=some x→rs.flatten[j*14+i]?=some x
 | [],j,r,_,h,_,_,_=>by simp at h
 | y::rs,0,r,hr,h,i,x,hx=>by
  simp only [List.getElem?_cons_zero,Option.some.injEq] at h
  subst h
  rw [List.flatten_cons,show 0*14+i=i by omega,List.getElem?_append_left (List.getElem?_eq_some_iff.1 hx).1]
  exact hx
 | y::rs,j+1,r,hr,h,i,x,hx=>by
  have h1:=(hr y (by simp)).len
  rw [List.flatten_cons,List.getElem?_append_right (by rw [h1];omega),h1,show (j+1)*14+i-14=j*14+i by omega]
  exact flat_at14 rs j r (fun r hr'=>hr r (List.mem_cons_of_mem _ hr')) p19q i x hx
theorem RowAt.el {w:World}{rs:Els}{g j:Nat}{r:List Value}(h:RowAt w g 0 rs.flatten)(hr:∀ r∈rs,Rw r)(hj:rs[j]?=some r):RowAt w g (0+j*14) r:=by
 intro i x hx
 have:=h (j*14+i) x (flat_at14 rs j r hr hj i x hx)
 rwa [show 0+j*14+i=0+(j*14+i) by omega]
theorem Rw.set {rs:Els}(h:∀ r∈rs,Rw r)(j:Nat){l:List Value}(hl:Rw l):∀ r∈rs.set j l,Rw r:=fun r hr=>by
 rcases List.mem_or_eq_of_mem_set hr with h1 | h1
 · exact h r h1
 · subst h1;exact hl
theorem Rw.perm {rs rs':Els}(h:∀ r∈rs,Rw r)(hp:rs'.Perm rs):∀ r∈rs',Rw r:=fun r hr=>h r (hp.mem_iff.1 hr)
theorem set_perm1 {α:Type}:∀ (E:List α) (i:Nat) (x y:α),E[i]?=some x→(y::E).Perm (x::E.set i y)
 | [],i,x,y,h=>by simp at h
 | a::E,0,x,y,h=>by
  simp only [List.getElem?_cons_zero,Option.some.injEq] at h
  subst h
  exact List.Perm.swap _ _ _
 | a::E,i+1,x,y,h=>by
  have h1:=set_perm1 E i x y p19q
  rw [List.set_cons_succ]
  exact (List.Perm.swap a y E).trans ((h1.cons a).trans (List.Perm.swap x a _))
theorem swap_perm {α:Type}{E:List α}{i j:Nat}{x y:α}(hi:E[i]?=some x)(hj:E[j]?=some y):((E.set i y).set j x).Perm E:=by
 have h1:=set_perm1 E i x y hi
 have hj2:(E.set i y)[j]?=some y:=by
  rw [List.getElem?_set]
  split
  · rename_i e
    subst e
    rw [if_pos (List.getElem?_eq_some_iff.1 hi).1]
  · exact hj
 have h2:=set_perm1 (E.set i y) j y x hj2
 -- x :: E.set i y ~ y :: (..), y :: E ~ x :: E.set i y
 exact ((h1.trans h2).cons_inv).symm
theorem el_at {E E0:Els}{n:Nat}(hp:E.Perm E0)(hR:∀ r∈E0,Rw r)(hn:E0.length=n){k:Int}(h0:0≤k)(h1:k<n):∃ x,E[k.toNat]?=some x∧Rw x:=by
 have hl:=hp.length_eq
 have hk:k.toNat<E.length:=by omega
 exact ⟨E[k.toNat],List.getElem?_eq_getElem hk,hR _ (hp.mem_iff.1 (List.getElem_mem hk))⟩
section
variable {P:Program} {ops:Array Oper} {Q:Exit→Act→World→Prop} {rest:List Oper} {o:Oper} {n:Nat} {f:Nat→Value} {w w0:World} {L:List (Nat×Obj)} {R:List Row} {ρ:Operand→Value}
theorem s_storeEl {e:Nat}{t:TypeId}{x y:Operand}{k cap g j:Nat}{rs:Els}{l:List Value}(cx:Cxr w0 w L (⟨e,14,.slice (some ⟨g,0,none⟩) k cap,k,rs.flatten⟩::R))(hg:o.guard=none)(hd:o.dst=none)(ho:o.op=.store t x y)(hx:ev n f x=.pointer (some ⟨g,0+j*14,none⟩))(hy:ev n f y=.agg l.toArray)
  (hs:(P.info? t).map (·.size)=some 14) (hrs:∀ r∈rs,Rw r) (hk:rs.length=k) (hj:j<rs.length) (hl:Rw l)
  (h:∀ w',Cxr w0 w' L (⟨e,14,.slice (some ⟨g,0,none⟩) k cap,k,(rs.set j l).flatten⟩::R)→wpList P ops Q rest (St n f) w'):wpList P ops Q (o::rest) (St n f) w:=by
 refine s_storeRow cx hg hd ho hx hy (by rw [hl.len];exact hs) (by rw [hl.len];omega) hl.one fun w' cx' _ _=>?_
 rw [Nat.zero_add,flat_set14 rs j l hrs hj hl.len] at cx'
 exact h w' cx'
theorem Cxr.el {e k j:Nat}{v:Value}{rs:Els}{r:List Value}(cx:Cxr w0 w L (⟨e,14,v,k,rs.flatten⟩::R))(hrs:∀ r∈rs,Rw r)(hk:rs.length=k)(hj:rs[j]?=some r):∃ g c,v=.slice (some ⟨g,0,none⟩) k c:=by
 obtain ⟨g,c,rfl,_⟩:=cx.rowS (by rw [flat14 rs hrs];have:=(List.getElem?_eq_some_iff.1 hj).1;omega)
 exact ⟨g,c,rfl⟩
theorem Cxr.elAt {e k j g c:Nat}{rs:Els}{r:List Value}(cx:Cxr w0 w L (⟨e,14,.slice (some ⟨g,0,none⟩) k c,k,rs.flatten⟩::R))(hrs:∀ r∈rs,Rw r)(hk:rs.length=k)(hj:rs[j]?=some r):RowAt w g (0+j*14) r:=by
 obtain ⟨g',c',e',_,_,hr⟩:=cx.rowS (by rw [flat14 rs hrs];have:=(List.getElem?_eq_some_iff.1 hj).1;omega)
 cases e'
 exact hr.el hrs hj
theorem shr1 (p:Int):shr .u64 p (1:Int).toNat=p / 2:=by
 unfold shr
 have e:min (1:Int).toNat IntKind.u64.bits=1:=by decide
 rw [e,Int.fdiv_eq_ediv_of_nonneg _ (by decide)]
 rfl
theorem v_convQ {s t:TypeId}{x:Operand}{k k':IntKind}{m m':Int}{d:TypeDesc}(ho:o.op=.convert s t x)(hx:ρ x=.int k' m)(hs:P.underlying s=some d)(ht:P.underlying t=some (.int k))(he:k.wrap m=m') :
  (execOp ρ o).run P w=.ok (.value (.int k m')) w:=by subst he;exact v_conv ho hx hs ht
theorem v_shr1 {t t':TypeId}{x y:Operand}{p:Int}(ho:o.op=.binOp .shr t x y t')(hx:ρ x=.int .u64 p)(hy:ρ y=.int .u64 1):(execOp ρ o).run P w=.ok (.value (.int .u64 (p / 2))) w:=by
 have:=v_shr (P:=P) (w:=w) ho hx hy (by decide)
 rwa [shr1] at this
end
section
variable {P:Program} {o:Oper} {w:World} {ρ:Operand→Value}
theorem equalIn_nil (d:Nat){t e:TypeId}(a:Option Addr)(l c:Nat)(hu:P.underlying t=some (.slice e)):(Op.equalIn (d+1) t (.slice a l c) (.slice none 0 0)).run P w=.ok a.isNone w:=by
 cases a <;> simp [Op.equalIn,run_underlying hu]
theorem v_slNil {t t' e:TypeId}{x y:Operand}{a:Option Addr}{l c:Nat}(ho:o.op=.binOp .eql t x y t')(hx:ρ x=.slice a l c)(hy:ρ y=.slice none 0 0)(hu:P.underlying t=some (.slice e)) :
  (execOp ρ o).run P w=.ok (.value (.bool a.isNone)) w:=by
 unfold execOp;rw [ho]
 simp only [hx,hy]
 have h1:(Op.equal t (.slice a l c) (.slice none 0 0)).run P w=.ok a.isNone w:=equalIn_nil 9999 a l c hu
 simp [eqGuard,binOp,h1]
end
theorem v_minI {P:Program}{o:Oper}{w:World}{ρ:Operand→Value}{x y:Operand}{ats:Array TypeId}{p q r:Int}(ho:o.op=.call { callee:=.builtin .min,args:=#[x,y],argTypes:=ats })(hx:ρ x=.int .i64 p)(hy:ρ y=.int .i64 q)(hr:min p q=r):(execOp ρ o).run P w=.ok (.value (.int .i64 r)) w:=by
 subst hr
 unfold execOp;rw [ho]
 have h:=fun t=>Lib.run_min_ints (P:=P) w ats t .i64 .i64 p q
 simp [resolve,invoke,builtin,hx,hy,h]
theorem shl8 {r:Nat}(h:r<4294967296):shl .i64 (r:Int) 8=((r*256:Nat):Int):=by
 unfold shl
 have e:((r:Int)*2^min 8 IntKind.i64.bits)=((r*256:Nat):Int):=by simp [IntKind.bits]
 rw [e]
 exact Ez4
theorem or_add8 {r x:Nat}(h:r<4294967296)(hx:x<256):bitOp .or .i64 ((r*256:Nat):Int) (x:Int)=((r*256+x:Nat):Int):=by
 unfold bitOp
 simp only
 have e1:IntKind.i64.bits=64:=rfl
 rw [e1,ofI,ofI,BitVec.toNat_or,BitVec.toNat_ofNat,BitVec.toNat_ofNat,Nat.mod_eq_of_lt (by omega),Nat.mod_eq_of_lt (by omega)]
 have e2:r*256 ||| x=r*256+x:=by
  have:=Nat.shiftLeft_add_eq_or_of_lt (i:=8) (show x<2^8 by omega) r
  rw [Nat.shiftLeft_eq] at this
  exact this.symm
 rw [e2]
 exact Ez4
theorem Cxr.slForm {w0 w:World}{L:List (Nat×Obj)}{R:List Row}{e k n:Nat}{v:Value}{xs:List Value}(cx:Cxr w0 w L (⟨e,k,v,n,xs⟩::R)):(v=.slice none 0 0∧n=0)∨∃ g c,v=.slice (some ⟨g,0,none⟩) n c:=by
 have h:=cx.rows _ (List.mem_cons_self ..)
 simp only at h
 rcases h.2 with ⟨h0,h1⟩ | ⟨g',cap',cur,he,_⟩
 · exact .inl ⟨h0,h1⟩
 · exact .inr ⟨g',cap',he⟩
def kc (r s:List Value):Int:=match r,s with
 | .string a::_,.string b::_=>Extern.BytealgCompare.cmp a b
 | _,_=>0
def SE (e:Nat)(wb w:World)(L:List (Nat×Obj))(R:List Row)(v:Value)(n:Nat)(E0:Els):Prop:=∃ E:Els,E.Perm E0∧Cxr wb w L (⟨e,14,v,n,E.flatten⟩::R)
theorem LR.at13 {R:List Row}{e k n:Nat}{v:Value}{xs:List Value}(h:LR R e k v n xs){w0 w:World}{L:List (Nat×Obj)}(cx:Cxr w0 w L R):∃ (a:Option Addr) (c b:Nat),v=.slice a n c∧(0<n→0<xs.length→a=some ⟨b,0,none⟩∧∀ (wA wB:World) (L':List (Nat×Obj)),Cxr wA wB L' R→RowAt wB b 0 xs):=by
 rcases h with ⟨rfl,rfl⟩ | hm
 · exact ⟨none,0,0,rfl,fun h=>by omega⟩
 · obtain ⟨a,c,rfl⟩:=(cx.oneR hm).rowSl
   by_cases h0:0<xs.length
   · obtain ⟨g,c',e,_,_,_⟩:=(cx.oneR hm).rowS h0
     cases e
     refine ⟨_,_,g,rfl,fun _ _=>⟨rfl,fun wA wB L' cx'=>?_⟩⟩
     obtain ⟨g',c2,e',_,_,hr⟩:=(cx'.oneR hm).rowS h0
     cases e'
     exact hr
   · exact ⟨a,c,0,rfl,fun _ h=>absurd h h0⟩
theorem RR.formL {t u:Nat}{R:List Row}{v:V}{cells:List Value}(h:RR t u R v cells){w0 w:World}{L:List (Nat×Obj)}(cx:Cxr w0 w L R):∃ (ba:Option Addr) (bc:Nat) (la:Option Addr) (lc lb:Nat) (fa:Option Addr) (fc fb:Nat),
  cells=vrow v.sc (.slice ba v.bytes.length bc) (.slice la v.list.length lc) (.slice fa v.fields.length fc)∧LR R 5 1 (.slice ba v.bytes.length bc) v.bytes.length (v.bytes.map bv) ∧
  (0<v.list.length→la=some ⟨lb,0,none⟩)∧(∀ (i:Nat) (x:V),v.list[i]?=some x→∃ cs,RR t u R x cs∧∀ (wA wB:World) (L':List (Nat×Obj)),Cxr wA wB L' R→RowAt wB lb (0+i*13) cs) ∧
  (0<v.fields.length→fa=some ⟨fb,0,none⟩)∧∀ (i:Nat) (kv:ByteArray×V),v.fields[i]?=some kv→∃ cs,RR t u R kv.2 cs∧∀ (wA wB:World) (L':List (Nat×Obj)),Cxr wA wB L' R→RowAt wB fb (0+i*14) (.string kv.1::cs):=by
 cases h with
 | mk s bytes list fields bs ls fs css fss hb hl hlc hlv hf hfc hfv =>
  have h13:∀ c∈css,c.length=13:=fun c hc=>by
   exact Bz115
  have h13f:∀ c∈fss,c.length=13:=fun c hc=>by
   obtain ⟨i,hi⟩:=List.getElem?_of_mem hc
   have hlt:=(List.getElem?_eq_some_iff.1 hi).1
   exact (hfv i fields[i] c (List.getElem?_eq_getElem (by omega)) hi).len
  have hlen:=flat13_len css h13
  have hflen:∀ (ks:List ByteArray) (cs:List (List Value)),0<ks.length→ks.length=cs.length→0<(fcells ks cs).length:=fun ks cs h1 h2=>by
   cases ks with
   | nil=>simp at h1
   | cons k ks=>cases cs with
    | nil=>simp at h2
    | cons c cs=>simp [fcells]
  obtain ⟨ba,bc,_,rfl,_⟩:=hb.at13 cx
  obtain ⟨la,lc,lb,rfl,hl2⟩:=hl.at13 cx
  obtain ⟨fa,fc,fb,rfl,hf2⟩:=hf.at13 cx
  refine ⟨ba,bc,la,lc,lb,fa,fc,fb,rfl,hb,fun h0=>(hl2 h0 (by have h0':0<list.length:=h0;rw [hlen];omega)).1,fun i x hx=>?_,fun h0=>(hf2 h0 (hflen _ _ (by have h0':0<fields.length:=h0;simpa using h0') (by simp [hfc]))).1,fun i kv hx=>?_⟩
  · have hlt:i<list.length:=(List.getElem?_eq_some_iff.1 hx).1
    have hi:css[i]?=some (css[i]'(by omega)):=List.getElem?_eq_getElem (by omega)
    exact ⟨_,hlv i x _ hx hi,fun wA wB L' cx'=>flat_row ((hl2 (by omega) (by rw [hlen];omega)).2 wA wB L' cx') h13 hi⟩
  · have hlt:i<fields.length:=(List.getElem?_eq_some_iff.1 hx).1
    have hi:fss[i]?=some (fss[i]'(by omega)):=List.getElem?_eq_getElem (by omega)
    exact ⟨_,hfv i kv _ hx hi,fun wA wB L' cx'=>fc_row ((hf2 (by omega) (hflen _ _ (by simp only [List.length_map];omega) (by simp [hfc]))).2 wA wB L' cx') h13f (by have hx':fields[i]?=some kv:=hx;rw [List.getElem?_map,hx'];rfl) hi⟩
theorem keep48 {t:List UInt8}{c:UInt8}(h:c∈t)(hc:c≠48)(hl:((t.getD (Int.toNat ((t.length:Int)-1)) 0).toNat:Int)=48):c∈t.take (Int.toNat ((t.length:Int)-1)):=by
 have hp:0<t.length:=List.length_pos_of_mem h
 have e:Int.toNat ((t.length:Int)-1)=t.length-1:=by omega
 rw [e] at hl ⊢
 have h1:=h
 rw [← List.take_append_drop (t.length-1) t] at h1
 rcases List.mem_append.1 h1 with h1 | h1
 · exact h1
 · exfalso
   rw [List.drop_eq_getElem_cons (by omega),show t.length-1+1=t.length by omega,List.drop_length] at h1
   rw [List.mem_singleton] at h1
   apply hc
   rw [h1]
   rw [List.getD,List.getElem?_eq_getElem (by omega)] at hl
   refine UInt8.toNat_inj.1 ?_
   have h2:(t[t.length-1]'(by omega)).toNat=48:=by simpa using (Int.ofNat.inj hl)
   rw [h2];rfl
def DgI (i n k:Nat)(l:List UInt8):Prop:=(0<n∧n<10^i)∨∃ j,i≤j∧j<k∧l.getD j 0≠48
theorem DgI.step {i n k:Nat}{l:List UInt8}(h:DgI (i+1) n k l)(hl:l.length=k)(hi:i<k):DgI i (n / 10) k (l.set i (UInt8.ofNat (48+n%10))):=by
 by_cases h0:n%10=0
 · rcases h with ⟨h1,h2⟩ | ⟨j,h1,h2,h3⟩
   · rw [Nat.pow_succ] at h2
     exact .inl ⟨by omega,by omega⟩
   · refine .inr ⟨j,by omega,h2,?_⟩
     rw [List.getD,List.getElem?_set_ne (by omega)]
     exact h3
 · refine .inr ⟨i,Nat.le_refl _,hi,?_⟩
   rw [List.getD,List.getElem?_set_self (by omega)]
   intro e
   have e2:=congrArg UInt8.toNat e
   simp [UInt8.toNat_ofNat'] at e2
   omega
theorem DgI.fin {n k:Nat}{l:List UInt8}(h:DgI 0 n k l)(hl:l.length=k):∃ c∈l,c≠48:=by
 rcases h with ⟨h1,h2⟩ | ⟨j,_,h2,h3⟩
 · simp at h2;omega
 · refine ⟨l.getD j 0,?_,h3⟩
   rw [List.getD,List.getElem?_eq_getElem (by omega)]
   exact List.getElem_mem _
end Go.Dk
end
section
namespace Go.Proofs.YthiafbkolhnadaaGreatDoor
open Go Go.Dk Go.RowKit Go.Lib
attribute [local irreducible] Go.wpList Go.Code.wp Go.bodyPost Go.wpStill Go.wpQuiet
theorem _root_.Go.Dk.rwPerm {E E0:Els}(h:∀ r∈E0,Rw r)(hp:E.Perm E0):∀ r∈E,Rw r:=Rw.perm h hp
theorem ex407n:Extern.findNext Tryz.f407=none:=by kernel_rfl
theorem ex407:Extern.find Tryz.f407=some Extern.BytealgCompare.compare:=by kernel_rfl
theorem run407 (a b:ByteArray)(w:World):(callFunc 407 #[.string a,.string b]).run Tryz.prog w=.ok (.value (.int .i64 (Extern.BytealgCompare.cmp a b))) w:=by
 have hf:Tryz.prog.funcs[407]?=some Tryz.f407:=Tryz.func407
 have hn : (Tryz.f407.name == "runtime.NumGoroutine") = false := by kernel_rfl
 have hb:Tryz.f407.body.isNone=true:=by kernel_rfl
 have e:Extern.BytealgCompare.compare #[.string a,.string b]=(do pure (goInt (Extern.BytealgCompare.cmp (← Extern.Bytes.bytesOf (.string a)) (← Extern.Bytes.bytesOf (.string b))))):=rfl
 simp [callFunc,hf,hn,hb,ex407n,ex407,e,Extern.Bytes.bytesOf,goInt]
 rw [if_neg (by simpa using hn),if_pos (by simpa using hb)]
theorem v_cmpE {o:Oper}{w:World}{n:Nat}{f:Nat→Value}{x y:Operand}{ats:Array TypeId}{a b:ByteArray}(ho:o.op=.call { callee:=.value (.func 407),args:=#[x,y],argTypes:=ats })(hx:ev n f x=.string a)(hy:ev n f y=.string b):(execOp (ev n f) o).run Tryz.prog w=.ok (.value (.int .i64 (Extern.BytealgCompare.cmp a b))) w:=by
 have h:=run407 a b w
 unfold execOp;rw [ho]
 have he:ev n f (.func 407)=.func (.func 407) #[] #[]:=rfl
 simp [resolve,he,Deferred.ofValue,invoke,hx,hy,h]
theorem c398 (a b:ByteArray)(w0:World):Fc Tryz.prog 398 [.string a,.string b] w0 (fun u _=>u=.int .i64 (Extern.BytealgCompare.cmp a b)):=by
 refine ret_enter Tryz.func398 rfl Tryz.ntmps398 rfl ?_
 have cx:=Ctx.start w0
 refine K6 ?_
 refine s_val rfl rfl (v_cmpE rfl rfl rfl) ?_
 refine K1 ?_
 refine ret_tmp Tryz.results398 rfl ?_
 exact Ez2
theorem c368 (a b:ByteArray)(w0:World):Fc Tryz.prog 368 [.string a,.string b] w0 (fun u _=>u=.int .i64 (Extern.BytealgCompare.cmp a b)):=by
 refine ret_enter Tryz.func368 rfl Tryz.ntmps368 rfl ?_
 have cx:=Ctx.start w0
 refine K6 ?_
 refine s_fn cx (c398 _ _ _) Tryz.func398 rfl rfl rfl rfl rfl rfl ?_;intro q7 w cx hw7 hp7
 subst hp7
 refine K1 ?_
 refine ret_tmp Tryz.results368 rfl ?_
 exact Ez2
theorem c367 (r s:List Value)(w0:World)(hr:Rw r)(hs:Rw s):Fc Tryz.prog 367 [.agg r.toArray,.agg s.toArray] w0 (fun u _=>u=.int .i64 (kc r s)):=by
 obtain ⟨k1,l1,rfl,hl1,ho1⟩:=hr
 obtain ⟨k2,l2,rfl,hl2,ho2⟩:=hs
 refine ret_enter Tryz.func367 rfl Tryz.ntmps367 rfl ?_
 have cx:=Ctx.start w0
 refine K0 ?_
 refine Hc ?_;intro b2 w cx hb2 hw2
 refine Hc ?_;intro b3 w cx hb3 hw3
 refine K2 ?_
 refine K3m ?_
 refine s_val rfl rfl (v_load1 rfl rfl Tryz.underlying9 rfl (cx.cell 1 rfl rfl)) ?_
 refine K3m ?_
 refine K15 ?_
 refine s_fn cx (c368 _ _ _) Tryz.func368 rfl rfl rfl rfl rfl rfl ?_;intro q9 w cx hw9 hp9
 subst hp9
 refine K1 ?_
 refine ret_tmp Tryz.results367 rfl ?_
 exact Ez2
theorem c413w (wb:World)(L:List (Nat×Obj))(R:List Row)(g c n:Nat)(E0:Els)(hR:∀ r∈E0,Rw r)(hn:E0.length=n)(hn1:n≤3000000)(fv:Value)(a b m:Int)(w0:World)(E:Els)(hp:E.Perm E0)(cx0:Cxr wb w0 L (⟨133,14,.slice (some ⟨g,0,none⟩) n c,n,List.flatten E⟩::R))(h0:0≤a)(h1:0≤b)(h2:0≤m)(h3:a+m≤n)(h4:b+m≤n):Ret Tryz.prog 413 [.slice (some ⟨g,0,none⟩) n c,.int .i64 a,.int .i64 b,.int .i64 m,fv] w0 (fun _ w'=>SE 133 wb w' L R (.slice (some ⟨g,0,none⟩) n c) n E0):=by
 refine ret_enter Tryz.func413 rfl Tryz.ntmps413 rfl ?_
 have cx:=cx0
 refine K3 ?_
 refine w_loop (fun k f w1=>∃ (i:Nat) (E:Els),k+i=m.toNat∧f 0=.slice (some ⟨g,0,none⟩) n c∧f 1=.int .i64 a∧f 2=.int .i64 b∧f 3=.int .i64 m∧f 10=.int .i64 i∧E.Perm E0∧Cxr wb w1 L (⟨133,14,.slice (some ⟨g,0,none⟩) n c,n,List.flatten E⟩::R)) (m.toNat) ?_ ?_
 ·
  exact ⟨0,E,by omega,rfl,rfl,rfl,rfl,rfl,hp,cx⟩
 intro gk1 f w hJ
 obtain ⟨i,E,hki,hs0,hs1,hs2,hs3,hs10,hp,cx⟩:=hJ
 refine K4s ?_
 refine K6l ?_
 refine cSp rfl (fun hc13=>?_) (fun hc13=>?_)
 ·
  have hE:=rwPerm hR hp
  have hlen:E.length=n:=by rw [hp.length_eq,hn]
  obtain ⟨x,hx,hrx⟩:=el_at (k:=a+i) hp hR hn (by omega) (by omega)
  obtain ⟨y,hy,hry⟩:=el_at (k:=b+i) hp hR hn (by omega) (by omega)
  refine K1 ?_
  refine w_ord cx (Ctx.sub0 cx) mixed [(0,16),(1,17),(2,18),(3,19),(4,20),(5,21),(6,22),(7,23),(8,24),(9,25),(10,26),(11,27),(12,28),(14,30),(15,31),(16,32),(17,33),(18,34)] #[true,true,true,true,true,true,true,true,true,true,true,true,true,false,true,true,true,true,true,false,false,false,false,false] p1q p1q p1q p1q ?_
  refine Ku ?_
  refine K7s ?_
  refine K9w ?_
  refine K3q ?_
  refine Ku ?_
  refine K9x ?_
  refine K9w ?_
  refine K3q ?_
  refine Ku ?_
  refine K9x ?_
  refine K9w ?_
  refine K3q ?_
  refine K35 ?_
  refine Ku ?_
  refine K7s ?_
  refine K9w ?_
  refine K3q ?_
  refine K35 ?_
  refine Hv ?_;intro w cx hwD3
  refine x_two (i:=13) (j:=19) p1q rfl rfl ?_ ?_
  ·
   refine K3s ?_
   refine Kn ?_
   refine x_one (i:=19) p1q rfl ?_
   refine K3t ?_
   exact Bz19
  refine K3t ?_
  refine Kn ?_
  refine K3e ?_
  refine K3s ?_
  exact Bz19
 refine SS ?_
 refine ret_no (.inr rfl) Tryz.results413 ?_
 exact ⟨E,hp,cx⟩
theorem c411w (wb:World)(L:List (Nat×Obj))(R:List Row)(g c n:Nat)(E0:Els)(hR:∀ r∈E0,Rw r)(hn:E0.length=n)(hn1:n≤3000000)(fv:Value)(a m b:Int)(w0:World)(E:Els)(hp:E.Perm E0)(cx0:Cxr wb w0 L (⟨133,14,.slice (some ⟨g,0,none⟩) n c,n,List.flatten E⟩::R))(h0:0≤a)(h1:a<m)(h2:m<b)(h3:b≤n):Ret Tryz.prog 411 [.slice (some ⟨g,0,none⟩) n c,.int .i64 a,.int .i64 m,.int .i64 b,fv] w0 (fun _ w'=>SE 133 wb w' L R (.slice (some ⟨g,0,none⟩) n c) n E0):=by
 refine ret_enter Tryz.func411 rfl Tryz.ntmps411 rfl ?_
 have cx:=cx0
 refine K4i ?_
 refine w_loop (fun k f w1=>∃ (i j:Int) (E:Els),k=(i+j).toNat∧f 0=.slice (some ⟨g,0,none⟩) n c∧f 1=.int .i64 a∧f 2=.int .i64 m∧f 3=.int .i64 b∧f 4=fv∧f 10=.int .i64 i∧f 11=.int .i64 j∧0<i∧0<j∧i≤m-a∧j≤b-m∧E.Perm E0∧Cxr wb w1 L (⟨133,14,.slice (some ⟨g,0,none⟩) n c,n,List.flatten E⟩::R)) ((m-a+(b-m)).toNat) ?_ ?_
 ·
  exact ⟨_,_,E,rfl,rfl,rfl,rfl,rfl,rfl,rfl,rfl,by omega,by omega,by omega,by omega,hp,cx⟩
 intro gk2 f w hJ
 obtain ⟨i,j,E,hk,hs0,hs1,hs2,hs3,hs4,hs10,hs11,hi0,hj0,hi1,hj1,hp,cx⟩:=hJ
 refine K4s ?_
 refine K1y ?_
 refine K0 ?_
 refine cSp rfl (fun hc20=>?_) (fun hc20=>?_)
 ·
  refine K2 ?_
  refine Kw ?_
  refine K1y ?_
  refine K0 ?_
  refine cSp rfl (fun hc23=>?_) (fun hc23=>?_)
  ·
   refine Km ?_
   refine Kp ?_
   refine Kw ?_
   refine SS ?_
   refine Kp ?_
   refine K1y ?_
   refine Ke ?_
   refine H1z ?_;rintro v31 w ⟨E2,hp2,cx⟩
   refine K0 ?_
   refine Kw ?_
   refine K1y ?_
   refine K1 ?_
   exact ⟨(i-j+j).toNat,_,by omega,rfl,i-j,j,E2,rfl,hs0,hs1,hs2,hs3,hs4,rfl,hs11,by omega,by omega,by omega,by omega,hp2,cx⟩
  refine Km ?_
  refine Kp ?_
  refine Kw ?_
  refine SS ?_
  refine Kp ?_
  refine K1y ?_
  refine SS ?_
  refine Kw ?_
  refine SS ?_
  refine Kw ?_
  refine Ke ?_
  refine H1z ?_;rintro v46 w ⟨E2,hp2,cx⟩
  refine K0 ?_
  refine K1y ?_
  refine Kw ?_
  refine K1 ?_
  exact ⟨(i+(j-i)).toNat,_,by omega,rfl,i,j-i,E2,rfl,hs0,hs1,hs2,hs3,hs4,hs10,rfl,by omega,by omega,by omega,by omega,hp2,cx⟩
 refine Km ?_
 refine Kp ?_
 refine Kw ?_
 refine SS ?_
 refine Kp ?_
 refine Kw ?_
 refine Ke ?_
 refine H1z ?_;rintro v57 w ⟨E2,hp2,cx⟩
 refine SS ?_
 refine ret_no (.inr rfl) Tryz.results411 ?_
 exact ⟨E2,hp2,cx⟩
theorem c405w (wb:World)(L:List (Nat×Obj))(R:List Row)(g c n:Nat)(E0:Els)(hR:∀ r∈E0,Rw r)(hn:E0.length=n)(hn1:n≤3000000)(a b:Int)(w0:World)(E:Els)(hp:E.Perm E0)(cx0:Cxr wb w0 L (⟨133,14,.slice (some ⟨g,0,none⟩) n c,n,List.flatten E⟩::R))(h0:0≤a)(h1:b≤n)(h2:a≤n):Ret Tryz.prog 405 [.slice (some ⟨g,0,none⟩) n c,.int .i64 a,.int .i64 b,.func (.func 367) #[] #[]] w0 (fun _ w'=>SE 133 wb w' L R (.slice (some ⟨g,0,none⟩) n c) n E0):=by
 refine ret_enter Tryz.func405 rfl Tryz.ntmps405 rfl ?_
 have cx:=cx0
 refine K5 ?_
 refine w_loop (fun k f w1=>∃ (i:Int) (E:Els),k=(b-i).toNat∧f 0=.slice (some ⟨g,0,none⟩) n c∧f 1=.int .i64 a∧f 2=.int .i64 b∧f 3=.func (.func 367) #[] #[]∧f 8=.int .i64 i∧a<i∧E.Perm E0∧Cxr wb w1 L (⟨133,14,.slice (some ⟨g,0,none⟩) n c,n,List.flatten E⟩::R)) ((b-(a+1)).toNat) ?_ ?_
 ·
  exact ⟨a+1,E,rfl,rfl,rfl,rfl,rfl,rfl,by omega,hp,cx⟩
 intro gk1 f w hJ
 obtain ⟨i,E,hk,hs0,hs1,hs2,hs3,hs8,hai,hp,cx⟩:=hJ
 refine K18 ?_
 refine Kp ?_
 refine K0 ?_
 refine cSp rfl (fun hc14=>?_) (fun hc14=>?_)
 ·
  refine K3 ?_
  refine Kv ?_
  refine K1 ?_
  refine w_loop (fun k f w1=>∃ (j:Int) (E:Els),k=(j-a).toNat∧f 0=.slice (some ⟨g,0,none⟩) n c∧f 1=.int .i64 a∧f 2=.int .i64 b∧f 3=.func (.func 367) #[] #[]∧f 8=.int .i64 i∧f 9=.int .i64 j∧a≤j∧j≤i∧E.Perm E0∧Cxr wb w1 L (⟨133,14,.slice (some ⟨g,0,none⟩) n c,n,List.flatten E⟩::R)) ((i-a).toNat) ?_ ?_
  ·
   exact ⟨i,E,rfl,hs0,hs1,hs2,hs3,hs8,rfl,by omega,by omega,hp,cx⟩
  intro gk4 f w hJ
  obtain ⟨j,E,hk2,hs0,hs1,hs2,hs3,hs8,hs9,haj0,hji,hp,cx⟩:=hJ
  have hE:=rwPerm hR hp
  have hlen:E.length=n:=by rw [hp.length_eq,hn]
  obtain ⟨x,hx,hrx⟩:=el_at (k:=j) hp hR hn (by omega) (by omega)
  obtain ⟨y,hyy⟩:∃ y,a<j→(E[(j-1).toNat]?=some y∧Rw y):=by
   by_cases h:a<j
   · obtain ⟨y,hy,hry⟩:=el_at (k:=j-1) hp hR hn (by omega) (by omega)
     exact ⟨y,fun _=>⟨hy,hry⟩⟩
   · exact ⟨[],fun h2=>absurd h2 h⟩
  refine K2d ?_
  refine q_val rfl rfl (fun w cx hwQ=>v_move rfl hs9) ?_
  refine K8t ?_
  refine K25 ?_
  refine Kj ?_
  refine q_gval rfl rfl rfl wT (fun hc w cx hwQ=>v_move rfl hs3) ?_
  refine K56 ?_
  refine q_gval rfl rfl rfl wT (fun hc w cx hwQ=>v_move rfl hs9) ?_
  refine q_gval rfl rfl rfl wT (fun hc w cx hwQ=>v_ia Tryz.underlying81 sz133 rfl (gve hc rfl) (gve hc rfl) (by omega) (by omega)) ?_
  refine q_gval rfl rfl rfl wT (fun hc w cx hwQ=>v_load rfl (gve hc rfl) Tryz.underlying133 rfl sz133 (cx.elAt hE hlen hx) hrx.len) ?_
  refine K56 ?_
  refine q_gval rfl rfl rfl wT (fun hc w cx hwQ=>v_move rfl hs9) ?_
  refine q_gval rfl rfl rfl wT (fun hc w cx hwQ=>v_sub rfl (gve hc rfl) rfl (by omega) (by omega)) ?_
  refine q_gval rfl rfl rfl wT (fun hc w cx hwQ=>v_ia Tryz.underlying81 sz133 rfl (gve hc rfl) (gve hc rfl) p24q p24q) ?_
  refine q_gval rfl rfl rfl wT (fun hc w cx hwQ=>v_load rfl (gve hc rfl) Tryz.underlying133 rfl sz133 (cx.elAt hE hlen (hyy p24q).1) (hyy p24q).2.len) ?_
  refine q_gcall (v:=.int .i64 (kc x y)) rfl rfl rfl wT (fun hc=>runs_fnv0 Tryz.func367 rfl rfl rfl (gve hc rfl) (cons_eq (gve hc rfl) (cons_eq (gve hc rfl) rfl))) (fun hc w cx hwQ=>c367 _ _ _ hrx (hyy p24q).2) ?_
  refine Kaz ?_
  refine K3h ?_
  refine q_nil ?_;rintro w ⟨cx,hwQ4⟩
  refine cSp rfl (fun hc34=>?_) (fun hc34=>?_)
  ·
   have haj:=hc34.1
   obtain ⟨hy,hry⟩:=hyy haj
   refine K1 ?_
   refine w_ord cx (Ctx.sub0 cx) mixed [(0,37),(1,38),(2,39),(3,40),(4,41),(5,42),(6,43),(7,44),(8,45),(10,47),(11,48),(12,49)] #[true,true,true,true,true,true,true,true,true,false,true,true,true,false,false,false,false,false] p1q p1q p1q p1q ?_
   refine Ku ?_
   refine K9y ?_
   refine Ku ?_
   refine K9y ?_
   refine K5i ?_
   refine Ku ?_
   refine K9y ?_
   refine K5i ?_
   refine K35 ?_
   refine Ku ?_
   refine K9y ?_
   refine K35 ?_
   refine Hv ?_;intro w cx hwD6
   refine x_two (i:=9) (j:=13) p1q rfl rfl ?_ ?_
   ·
    refine K3s ?_
    refine Kn ?_
    refine K3e ?_
    refine K3t ?_
    exact Bz16
   refine K3t ?_
   refine Kn ?_
   refine K1c ?_
   refine K3s ?_
   exact Bz16
  refine K0 ?_
  refine Kv ?_
  refine K1 ?_
  exact ⟨(b-(i+1)).toNat,_,by omega,rfl,i+1,E,rfl,hs0,hs1,hs2,hs3,rfl,by omega,hp,cx⟩
 refine SS ?_
 refine ret_no (.inr rfl) Tryz.results405 ?_
 exact ⟨E,hp,cx⟩
theorem c406w:∀ (k:Nat) (wb:World) (L:List (Nat×Obj)) (R:List Row) (g c n:Nat) (E0:Els) (hR:∀ r∈E0,Rw r) (hn:E0.length=n) (hn1:n≤3000000) (a m b:Int) (w0:World) (E:Els) (hp:E.Perm E0) (cx0:Cxr wb w0 L (⟨133,14,.slice (some ⟨g,0,none⟩) n c,n,List.flatten E⟩::R)) (hk0:(b-a).toNat≤k) (h0:0≤a) (h1:a<m) (h2:m<b) (h3:b≤n),Ret Tryz.prog 406 [.slice (some ⟨g,0,none⟩) n c,.int .i64 a,.int .i64 m,.int .i64 b,.func (.func 367) #[] #[]] w0 (fun _ w'=>SE 133 wb w' L R (.slice (some ⟨g,0,none⟩) n c) n E0):=by
 intro k
 induction k with
 | zero=>intro wb L R g c n E0 hR hn hn1 a m b w0 E hp cx0 hk0 h0 h1 h2 h3;omega
 | succ k ih =>
 intro wb L R g c n E0 hR hn hn1 a m b w0 E hp cx0 hk0 h0 h1 h2 h3
 refine ret_enter Tryz.func406 rfl Tryz.ntmps406 rfl ?_
 have cx:=cx0
 refine K6 ?_
 refine cSp rfl (fun hc28=>?_) (fun hc28=>?_)
 ·
  refine Ko ?_
  refine w_loop (fun k f w1=>∃ (i j:Int) (E:Els),k=(j-i).toNat∧f 0=.slice (some ⟨g,0,none⟩) n c∧f 1=.int .i64 a∧f 2=.int .i64 m∧f 3=.int .i64 b∧f 4=.func (.func 367) #[] #[]∧f 10=.int .i64 i∧f 11=.int .i64 j∧m≤i∧i≤j∧j≤b∧E.Perm E0∧Cxr wb w1 L (⟨133,14,.slice (some ⟨g,0,none⟩) n c,n,List.flatten E⟩::R)) ((b-m).toNat) ?_ ?_
  ·
   exact ⟨m,b,E,rfl,rfl,rfl,rfl,rfl,rfl,rfl,rfl,by omega,by omega,by omega,hp,cx⟩
  intro gk3 f w hJ
  obtain ⟨i,j,E,hk,hs0,hs1,hs2,hs3,hs4,hs10,hs11,p1,p2,p3,hp,cx⟩:=hJ
  refine K4s ?_
  refine K1y ?_
  refine K0 ?_
  refine cSp rfl (fun hc33=>?_) (fun hc33=>?_)
  ·
   have hE:=rwPerm hR hp
   have hlen:E.length=n:=by rw [hp.length_eq,hn]
   obtain ⟨x,hx,hrx⟩:=el_at (k:=(i+j) / 2) hp hR hn (by omega) (by omega)
   obtain ⟨y,hy,hry⟩:=el_at (k:=a) hp hR hn (by omega) (by omega)
   refine K2 ?_
   refine Kw ?_
   refine K1y ?_
   refine SS ?_
   refine K9z ?_
   refine Ka0 ?_
   refine Kf4 ?_
   refine K1 ?_
   refine K1l ?_
   refine K45 ?_
   refine K24 ?_
   refine Kj ?_
   refine K5j ?_
   refine Kbr ?_
   refine K24 ?_
   refine K8t ?_
   refine K5j ?_
   refine Kbs ?_
   refine Kbt ?_
   refine K25 ?_
   refine q_nil ?_;rintro w ⟨cx,hwQ5⟩
   refine cSp rfl (fun hc50=>?_) (fun hc50=>?_)
   ·
    refine K3 ?_
    exact ⟨(j-((i+j) / 2+1)).toNat,_,by omega,rfl,(i+j) / 2+1,j,E,rfl,hs0,hs1,hs2,hs3,hs4,rfl,hs11,by omega,by omega,by omega,hp,cx⟩
   refine K2 ?_
   exact ⟨((i+j) / 2-i).toNat,_,by omega,rfl,i,(i+j) / 2,E,rfl,hs0,hs1,hs2,hs3,hs4,hs10,rfl,by omega,by omega,by omega,hp,cx⟩
  refine K2 ?_
  refine Ky ?_
  refine K1 ?_
  refine w_loop (fun k f w1=>∃ (t:Int) (E:Els),k=(i-t).toNat∧f 0=.slice (some ⟨g,0,none⟩) n c∧f 1=.int .i64 a∧f 2=.int .i64 m∧f 3=.int .i64 b∧f 4=.func (.func 367) #[] #[]∧f 10=.int .i64 i∧f 13=.int .i64 t∧a≤t∧E.Perm E0∧Cxr wb w1 L (⟨133,14,.slice (some ⟨g,0,none⟩) n c,n,List.flatten E⟩::R)) ((i-a).toNat) ?_ ?_
  ·
   exact ⟨a,E,rfl,hs0,hs1,hs2,hs3,hs4,hs10,rfl,by omega,hp,cx⟩
  intro gk9 f w hJ
  obtain ⟨t,E,hk2,hs0,hs1,hs2,hs3,hs4,hs10,hs13,ht,hp,cx⟩:=hJ
  refine K1 ?_
  refine K2v ?_
  refine Kw ?_
  refine K1 ?_
  refine cSp rfl (fun hc58=>?_) (fun hc58=>?_)
  ·
   have hE:=rwPerm hR hp
   have hlen:E.length=n:=by rw [hp.length_eq,hn]
   obtain ⟨x,hx,hrx⟩:=el_at (k:=t) hp hR hn (by omega) (by omega)
   obtain ⟨y,hy,hry⟩:=el_at (k:=t+1) hp hR hn (by omega) (by omega)
   refine K1 ?_
   refine w_ord cx (Ctx.sub0 cx) mixed [(0,61),(1,62),(2,63),(3,64),(4,65),(5,66),(6,67),(7,68),(8,69),(10,71),(11,72),(12,73)] #[true,true,true,true,true,true,true,true,true,false,true,true,true,false,false,false,false,false] p1q p1q p1q p1q ?_
   refine Ku ?_
   refine Ka1 ?_
   refine Ku ?_
   refine Ka1 ?_
   refine K3q ?_
   refine Ku ?_
   refine Ka1 ?_
   refine K3q ?_
   refine K35 ?_
   refine Ku ?_
   refine Ka1 ?_
   refine K35 ?_
   refine Hv ?_;intro w cx hwD11
   refine x_two (i:=9) (j:=13) p1q rfl rfl ?_ ?_
   ·
    refine K3s ?_
    refine Kn ?_
    refine K3e ?_
    refine K3t ?_
    exact Bz17
   refine K3t ?_
   refine Kn ?_
   refine K1c ?_
   refine K3s ?_
   exact Bz17
  refine K0 ?_
  refine ret_no (.inl rfl) Tryz.results406 ?_
  exact ⟨E,hp,cx⟩
 refine K7 ?_
 refine cSp rfl (fun hc80=>?_) (fun hc80=>?_)
 ·
  refine Ko ?_
  refine w_loop (fun k f w1=>∃ (i j:Int) (E:Els),k=(j-i).toNat∧f 0=.slice (some ⟨g,0,none⟩) n c∧f 1=.int .i64 a∧f 2=.int .i64 m∧f 3=.int .i64 b∧f 4=.func (.func 367) #[] #[]∧f 14=.int .i64 i∧f 15=.int .i64 j∧a≤i∧i≤j∧j≤m∧E.Perm E0∧Cxr wb w1 L (⟨133,14,.slice (some ⟨g,0,none⟩) n c,n,List.flatten E⟩::R)) ((m-a).toNat) ?_ ?_
  ·
   exact ⟨a,m,E,rfl,rfl,rfl,rfl,rfl,rfl,rfl,rfl,by omega,by omega,by omega,hp,cx⟩
  intro gk15 f w hJ
  obtain ⟨i,j,E,hk,hs0,hs1,hs2,hs3,hs4,hs14,hs15,p1,p2,p3,hp,cx⟩:=hJ
  refine K1 ?_
  refine K85 ?_
  refine K84 ?_
  refine K0 ?_
  refine cSp rfl (fun hc85=>?_) (fun hc85=>?_)
  ·
   have hE:=rwPerm hR hp
   have hlen:E.length=n:=by rw [hp.length_eq,hn]
   obtain ⟨x,hx,hrx⟩:=el_at (k:=m) hp hR hn (by omega) (by omega)
   obtain ⟨y,hy,hry⟩:=el_at (k:=(i+j) / 2) hp hR hn (by omega) (by omega)
   refine K2 ?_
   refine K85 ?_
   refine K84 ?_
   refine SS ?_
   refine K9z ?_
   refine Ka0 ?_
   refine Kf4 ?_
   refine K1 ?_
   refine K1l ?_
   refine K45 ?_
   refine K24 ?_
   refine q_val rfl rfl (fun w cx hwQ=>v_move rfl hs2) ?_
   refine K5j ?_
   refine Kbr ?_
   refine K24 ?_
   refine Kj ?_
   refine K5j ?_
   refine Kbs ?_
   refine Kbt ?_
   refine K25 ?_
   refine Kbu ?_
   refine q_nil ?_;rintro w ⟨cx,hwQ17⟩
   refine cSp rfl (fun hc103=>?_) (fun hc103=>?_)
   ·
    refine K3 ?_
    exact ⟨(j-((i+j) / 2+1)).toNat,_,by omega,rfl,(i+j) / 2+1,j,E,rfl,hs0,hs1,hs2,hs3,hs4,rfl,hs15,by omega,by omega,by omega,hp,cx⟩
   refine K2 ?_
   exact ⟨((i+j) / 2-i).toNat,_,by omega,rfl,i,(i+j) / 2,E,rfl,hs0,hs1,hs2,hs3,hs4,hs14,rfl,by omega,by omega,by omega,hp,cx⟩
  refine K2 ?_
  refine Kp ?_
  refine K1 ?_
  refine w_loop (fun k f w1=>∃ (t:Int) (E:Els),k=(t-i).toNat∧f 0=.slice (some ⟨g,0,none⟩) n c∧f 1=.int .i64 a∧f 2=.int .i64 m∧f 3=.int .i64 b∧f 4=.func (.func 367) #[] #[]∧f 14=.int .i64 i∧f 17=.int .i64 t∧t≤m∧E.Perm E0∧Cxr wb w1 L (⟨133,14,.slice (some ⟨g,0,none⟩) n c,n,List.flatten E⟩::R)) ((m-i).toNat) ?_ ?_
  ·
   exact ⟨m,E,rfl,hs0,hs1,hs2,hs3,hs4,hs14,rfl,by omega,hp,cx⟩
  intro gk21 f w hJ
  obtain ⟨t,E,hk2,hs0,hs1,hs2,hs3,hs4,hs14,hs17,ht,hp,cx⟩:=hJ
  refine K1 ?_
  refine s_val rfl rfl (v_move rfl hs17) ?_
  refine K85 ?_
  refine K0 ?_
  refine cSp rfl (fun hc110=>?_) (fun hc110=>?_)
  ·
   have hE:=rwPerm hR hp
   have hlen:E.length=n:=by rw [hp.length_eq,hn]
   obtain ⟨x,hx,hrx⟩:=el_at (k:=t) hp hR hn (by omega) (by omega)
   obtain ⟨y,hy,hry⟩:=el_at (k:=t-1) hp hR hn (by omega) (by omega)
   refine K1 ?_
   refine w_ord cx (Ctx.sub0 cx) mixed [(0,113),(1,114),(2,115),(3,116),(4,117),(5,118),(6,119),(7,120),(8,121),(10,123),(11,124),(12,125)] #[true,true,true,true,true,true,true,true,true,false,true,true,true,false,false,false,false,false] p1q p1q p1q p1q ?_
   refine Ku ?_
   refine Ka2 ?_
   refine Ku ?_
   refine Ka2 ?_
   refine K5i ?_
   refine Ku ?_
   refine Ka2 ?_
   refine K5i ?_
   refine K35 ?_
   refine Ku ?_
   refine Ka2 ?_
   refine K35 ?_
   refine Hv ?_;intro w cx hwD23
   refine x_two (i:=9) (j:=13) p1q rfl rfl ?_ ?_
   ·
    refine K3s ?_
    refine Kn ?_
    refine K3e ?_
    refine K3t ?_
    exact Bz18
   refine K3t ?_
   refine Kn ?_
   refine K1c ?_
   refine K3s ?_
   exact Bz18
  refine K0 ?_
  refine ret_no (.inl rfl) Tryz.results406 ?_
  exact ⟨E,hp,cx⟩
 refine K4 ?_
 refine K9z ?_
 refine Ka0 ?_
 refine s_val rfl rfl (v_convQ rfl rfl Tryz.underlying237 Tryz.underlying3 (m':=(a+b) / 2) (by rw [IntWalk.i64_in _ (by omega)])) ?_
 refine K13 ?_
 refine w_cut (fun f w1=>∃ (s r:Int) (E:Els),f 0=.slice (some ⟨g,0,none⟩) n c∧f 1=.int .i64 a∧f 2=.int .i64 m∧f 3=.int .i64 b∧f 4=.func (.func 367) #[] #[]∧f 18=.int .i64 ((a+b) / 2)∧f 19=.int .i64 ((a+b) / 2+m)∧f 20=.int .i64 s∧f 21=.int .i64 r∧a≤s∧s≤r∧r≤m∧r≤(a+b) / 2∧(a+b) / 2+m≤b+s∧E.Perm E0∧Cxr wb w1 L (⟨133,14,.slice (some ⟨g,0,none⟩) n c,n,List.flatten E⟩::R)) ?_ ?_
 ·
  refine K4 ?_
  refine cSp rfl (fun hc140=>?_) (fun hc140=>?_)
  ·
   refine K3 ?_
   exact Bz54
  refine K1 ?_
  exact Bz54
 intro f w hJ
 obtain ⟨s0,r0,E,hs0,hs1,hs2,hs3,hs4,hs18,hs19,hs20,hs21,q1,q2,q3,q4,q5,hp,cx⟩:=hJ
 refine K0 ?_
 refine s_val rfl rfl (v_move rfl hs19) ?_
 refine K3 ?_
 refine w_loop (fun k f w1=>∃ (s r:Int) (E:Els),k=(r-s).toNat∧f 0=.slice (some ⟨g,0,none⟩) n c∧f 1=.int .i64 a∧f 2=.int .i64 m∧f 3=.int .i64 b∧f 4=.func (.func 367) #[] #[]∧f 18=.int .i64 ((a+b) / 2)∧f 19=.int .i64 ((a+b) / 2+m)∧f 20=.int .i64 s∧f 21=.int .i64 r∧f 22=.int .i64 ((a+b) / 2+m-1)∧a≤s∧s≤r∧r≤m∧r≤(a+b) / 2∧(a+b) / 2+m≤b+s∧E.Perm E0∧Cxr wb w1 L (⟨133,14,.slice (some ⟨g,0,none⟩) n c,n,List.flatten E⟩::R)) ((r0-s0).toNat) ?_ ?_
 ·
  exact ⟨s0,r0,E,rfl,hs0,hs1,hs2,hs3,hs4,hs18,hs19,hs20,hs21,rfl,q1,q2,q3,q4,q5,hp,cx⟩
 intro gk33 f w hJ
 obtain ⟨s,r,E,hk,hs0,hs1,hs2,hs3,hs4,hs18,hs19,hs20,hs21,hs22,p1,p2,p3,p4,p5,hp,cx⟩:=hJ
 refine K1 ?_
 refine K4h ?_
 refine s_val rfl rfl (v_move rfl hs21) ?_
 refine K0 ?_
 refine cSp rfl (fun hc151=>?_) (fun hc151=>?_)
 ·
  have hE:=rwPerm hR hp
  have hlen:E.length=n:=by rw [hp.length_eq,hn]
  obtain ⟨x,hx,hrx⟩:=el_at (k:=(a+b) / 2+m-1-(s+r) / 2) hp hR hn (by omega) (by omega)
  obtain ⟨y,hy,hry⟩:=el_at (k:=(s+r) / 2) hp hR hn (by omega) (by omega)
  refine K2 ?_
  refine K4h ?_
  refine s_val rfl rfl (v_move rfl hs21) ?_
  refine SS ?_
  refine K9z ?_
  refine Ka0 ?_
  refine s_val rfl rfl (v_convQ rfl rfl Tryz.underlying237 Tryz.underlying3 (m':=(s+r) / 2) (by rw [IntWalk.i64_in _ (by omega)])) ?_
  refine K1 ?_
  refine K1l ?_
  refine K45 ?_
  refine K24 ?_
  refine q_val rfl rfl (fun w cx hwQ=>v_move rfl hs22) ?_
  refine Kj ?_
  refine q_val rfl rfl (fun w cx hwQ=>v_sub rfl rfl rfl (by omega) (by omega)) ?_
  refine K5j ?_
  refine Kbr ?_
  refine K24 ?_
  refine Kj ?_
  refine K5j ?_
  refine Kbs ?_
  refine Kbt ?_
  refine K25 ?_
  refine Kbu ?_
  refine q_nil ?_;rintro w ⟨cx,hwQ35⟩
  refine cSp rfl (fun hc171=>?_) (fun hc171=>?_)
  ·
   refine K3 ?_
   exact ⟨(r-((s+r) / 2+1)).toNat,_,by omega,rfl,(s+r) / 2+1,r,E,rfl,hs0,hs1,hs2,hs3,hs4,hs18,hs19,rfl,hs21,hs22,by omega,by omega,by omega,by omega,by omega,hp,cx⟩
  refine K2 ?_
  exact ⟨((s+r) / 2-s).toNat,_,by omega,rfl,s,(s+r) / 2,E,rfl,hs0,hs1,hs2,hs3,hs4,hs18,hs19,hs20,rfl,hs22,by omega,by omega,by omega,by omega,by omega,hp,cx⟩
 refine K1 ?_
 refine s_val rfl rfl (v_move rfl hs19) ?_
 refine K4h ?_
 refine K1 ?_
 refine w_cut (fun f w1=>∃ (E:Els),f 0=.slice (some ⟨g,0,none⟩) n c∧f 1=.int .i64 a∧f 2=.int .i64 m∧f 3=.int .i64 b∧f 4=.func (.func 367) #[] #[]∧f 18=.int .i64 ((a+b) / 2)∧f 20=.int .i64 s∧f 24=.int .i64 ((a+b) / 2+m-s)∧E.Perm E0∧Cxr wb w1 L (⟨133,14,.slice (some ⟨g,0,none⟩) n c,n,List.flatten E⟩::R)) ?_ ?_
 ·
  refine K0 ?_
  refine K4h ?_
  refine Kp ?_
  refine K0 ?_
  refine s_gval rfl rfl rfl wT (fun hc=>v_move rfl hs2) ?_
  refine K2 ?_
  refine cSp rfl (fun hc185=>?_) (fun hc185=>?_)
  ·
   refine K1g ?_
   refine K4h ?_
   refine Kp ?_
   refine SS ?_
   refine Ke ?_
   refine s_call (c411w wb L R g c n E0 hR hn hn1 _ _ _ _ _ E hp cx (by omega) (by omega) (by omega) (by omega)) Tryz.func411 rfl rfl rfl rfl rfl rfl ?_;rintro v191 w ⟨E2,hp2,cx⟩
   refine SS ?_
   exact Bz128
  refine SS ?_
  exact Bz128
 intro f w hJ
 obtain ⟨E,hs0,hs1,hs2,hs3,hs4,hs18,hs20,hs24,hp,cx⟩:=hJ
 refine w_cut (fun f w1=>∃ (E:Els),f 0=.slice (some ⟨g,0,none⟩) n c∧f 1=.int .i64 a∧f 2=.int .i64 m∧f 3=.int .i64 b∧f 4=.func (.func 367) #[] #[]∧f 18=.int .i64 ((a+b) / 2)∧f 20=.int .i64 s∧f 24=.int .i64 ((a+b) / 2+m-s)∧E.Perm E0∧Cxr wb w1 L (⟨133,14,.slice (some ⟨g,0,none⟩) n c,n,List.flatten E⟩::R)) ?_ ?_
 ·
  refine K0 ?_
  refine Ky ?_
  refine K4h ?_
  refine K0 ?_
  refine s_gval rfl rfl rfl wT (fun hc=>v_move rfl hs20) ?_
  refine s_gval rfl rfl rfl wT (fun hc=>v_move rfl hs18) ?_
  refine K1 ?_
  refine cSp rfl (fun hc199=>?_) (fun hc199=>?_)
  ·
   refine K1g ?_
   refine Ky ?_
   refine K4h ?_
   refine K9p ?_
   refine Ke ?_
   refine H20 ?_;rintro v205 w ⟨E2,hp2,cx⟩
   refine SS ?_
   exact Bz127
  refine SS ?_
  exact Bz127
 intro f w hJ
 obtain ⟨E,hs0,hs1,hs2,hs3,hs4,hs18,hs20,hs24,hp,cx⟩:=hJ
 refine K0 ?_
 refine K9p ?_
 refine s_val rfl rfl (v_move rfl hs24) ?_
 refine K0 ?_
 refine s_gval rfl rfl rfl wT (fun hc=>v_move rfl hs24) ?_
 refine K1e ?_
 refine K1 ?_
 refine cSp rfl (fun hc213=>?_) (fun hc213=>?_)
 ·
  refine K1g ?_
  refine K9p ?_
  refine s_val rfl rfl (v_move rfl hs24) ?_
  refine Kr ?_
  refine Ke ?_
  refine H20 ?_;rintro v219 w ⟨E2,hp2,cx⟩
  refine SS ?_
  refine ret_no (.inr rfl) Tryz.results406 ?_
  exact ⟨E2,hp2,cx⟩
 refine SS ?_
 refine ret_no (.inr rfl) Tryz.results406 ?_
 exact ⟨E,hp,cx⟩
theorem c397w (wb:World)(L:List (Nat×Obj))(R:List Row)(g c n:Nat)(E0:Els)(hR:∀ r∈E0,Rw r)(hn:E0.length=n)(hn1:n≤3000000)(w0:World)(E:Els)(hp:E.Perm E0)(cx0:Cxr wb w0 L (⟨133,14,.slice (some ⟨g,0,none⟩) n c,n,List.flatten E⟩::R)):Ret Tryz.prog 397 [.slice (some ⟨g,0,none⟩) n c,.int .i64 (n:Nat),.func (.func 367) #[] #[]] w0 (fun _ w'=>SE 133 wb w' L R (.slice (some ⟨g,0,none⟩) n c) n E0):=by
 refine ret_enter Tryz.func397 rfl Tryz.ntmps397 rfl ?_
 have cx:=cx0
 refine Ko ?_
 refine w_loop (fun k f w1=>∃ (i:Int) (E:Els),k=(n+20-i).toNat∧f 0=.slice (some ⟨g,0,none⟩) n c∧f 1=.int .i64 n∧f 2=.func (.func 367) #[] #[]∧f 6=.int .i64 20∧f 7=.int .i64 i∧f 8=.int .i64 (i+20)∧0≤i∧i≤n∧E.Perm E0∧Cxr wb w1 L (⟨133,14,.slice (some ⟨g,0,none⟩) n c,n,List.flatten E⟩::R)) (n+20) ?_ ?_
 ·
  exact ⟨0,E,by omega,rfl,rfl,rfl,rfl,rfl,rfl,by omega,by omega,hp,cx⟩
 intro gk2 f w hJ
 obtain ⟨i,E,hk,hs0,hs1,hs2,hs6,hs7,hs8,hi0,hi1,hp,cx⟩:=hJ
 refine K18 ?_
 refine K2q ?_
 refine cSp rfl (fun hc13=>?_) (fun hc13=>?_)
 ·
  refine K1p ?_
  refine Kk ?_
  refine Kv ?_
  refine Kp ?_
  refine H21 ?_;rintro v18 w ⟨E2,hp2,cx⟩
  refine K18 ?_
  refine K18 ?_
  refine Kc ?_
  refine K1 ?_
  exact ⟨((n:Int)+20-(i+20)).toNat,_,by omega,rfl,i+20,E2,rfl,hs0,hs1,hs2,hs6,rfl,rfl,by omega,by omega,hp2,cx⟩
 refine K9 ?_
 refine Kk ?_
 refine Ky ?_
 refine Kp ?_
 refine H21 ?_;rintro v27 w ⟨E2,hp2,cx⟩
 refine K0 ?_
 refine w_loop (fun k f w1=>∃ (s:Int) (E:Els),k=((n:Int)-s).toNat∧f 0=.slice (some ⟨g,0,none⟩) n c∧f 1=.int .i64 n∧f 2=.func (.func 367) #[] #[]∧f 6=.int .i64 s∧20≤s∧s≤8000000∧E.Perm E0∧Cxr wb w1 L (⟨133,14,.slice (some ⟨g,0,none⟩) n c,n,List.flatten E⟩::R)) ((n-20:Int).toNat) ?_ ?_
 ·
  exact ⟨20,E2,rfl,hs0,hs1,hs2,hs6,by omega,by omega,hp2,cx⟩
 intro gk7 f w hJ
 obtain ⟨s,E,hk,hs0,hs1,hs2,hs6,hs20,hsm,hp,cx⟩:=hJ
 refine K11 ?_
 refine K2q ?_
 refine cSp rfl (fun hc30=>?_) (fun hc30=>?_)
 ·
  refine K38 ?_
  refine K4 ?_
  refine w_loop (fun k f w1=>∃ (i:Int) (E:Els),k=(n+2*s-i).toNat∧f 0=.slice (some ⟨g,0,none⟩) n c∧f 1=.int .i64 n∧f 2=.func (.func 367) #[] #[]∧f 6=.int .i64 s∧f 7=.int .i64 i∧f 8=.int .i64 (i+2*s)∧0≤i∧i≤n+2*s∧E.Perm E0∧Cxr wb w1 L (⟨133,14,.slice (some ⟨g,0,none⟩) n c,n,List.flatten E⟩::R)) ((n+2*s:Int).toNat) ?_ ?_
  ·
   exact ⟨0,E,by omega,hs0,hs1,hs2,hs6,rfl,congrArg (Value.int .i64) (by omega),by omega,by omega,hp,cx⟩
  intro gk9 f w hJ
  obtain ⟨i,E,hk2,hs0,hs1,hs2,hs6,hs7,hs8,hi0,hi1,hp,cx⟩:=hJ
  refine K18 ?_
  refine K2q ?_
  refine cSp rfl (fun hc35=>?_) (fun hc35=>?_)
  ·
   refine K1p ?_
   refine Kk ?_
   refine Kk ?_
   refine Kc ?_
   refine SS ?_
   refine Kv ?_
   refine Kp ?_
   refine H22 ?_;rintro v43 w ⟨E2,hp2,cx⟩
   refine K18 ?_
   refine K18 ?_
   refine Kc ?_
   refine K2 ?_
   exact ⟨((n:Int)+2*s-(i+2*s)).toNat,_,by omega,rfl,i+2*s,E2,rfl,hs0,hs1,hs2,hs6,rfl,rfl,by omega,by omega,hp2,cx⟩
  refine K2 ?_
  refine Kk ?_
  refine Kc ?_
  refine K4 ?_
  refine K2q ?_
  refine cSp rfl (fun hc54=>?_) (fun hc54=>?_)
  ·
   refine K1g ?_
   refine Kk ?_
   refine SS ?_
   refine Ky ?_
   refine Kp ?_
   refine H22 ?_;rintro v60 w ⟨E2,hp2,cx⟩
   refine K6b ?_
   exact ⟨((n:Int)-s*2).toNat,_,by omega,rfl,s*2,E2,rfl,hs0,hs1,hs2,rfl,by omega,by omega,hp2,cx⟩
  refine K6b ?_
  exact ⟨((n:Int)-s*2).toNat,_,by omega,rfl,s*2,E,rfl,hs0,hs1,hs2,rfl,by omega,by omega,hp,cx⟩
 refine SS ?_
 refine ret_no (.inr rfl) Tryz.results397 ?_
 exact ⟨E,hp,cx⟩
theorem c366w (wb:World)(L:List (Nat×Obj))(R:List Row)(g c n:Nat)(E0:Els)(hR:∀ r∈E0,Rw r)(hn:E0.length=n)(hn1:n≤3000000)(w0:World)(E:Els)(hp:E.Perm E0)(cx0:Cxr wb w0 L (⟨133,14,.slice (some ⟨g,0,none⟩) n c,n,List.flatten E⟩::R)):Ret Tryz.prog 366 [.slice (some ⟨g,0,none⟩) n c,.func (.func 367) #[] #[]] w0 (fun _ w'=>SE 133 wb w' L R (.slice (some ⟨g,0,none⟩) n c) n E0):=by
 refine ret_enter Tryz.func366 rfl Tryz.ntmps366 rfl ?_
 have cx:=cx0
 refine K3 ?_
 refine s_call (c397w wb L R g c n E0 hR hn hn1 _ E hp cx) Tryz.func397 rfl rfl rfl rfl rfl rfl ?_;rintro v8 w hp8
 refine SS ?_
 refine ret_no (.inr rfl) Tryz.results366 ?_
 exact hp8
theorem c369w (n:Nat)(s:Value)(xs:List Value)(w0:World)(h:SlR w0 s n xs)(hn:n≤10000000)(hl:xs.length=n*1)(ho:xs.all (·.oneCell')=true):Fc Tryz.prog 369 [s] w0 (fun x w'=>w'.ownsRow w0.heap.size 5 1 x n xs):=by
 obtain ⟨a,c,b,rfl,hac,ha⟩:=h.form2
 refine ret_enter Tryz.func369 rfl Tryz.ntmps369 rfl ?_
 have cx:=Ctx.start w0
 refine K6 ?_
 refine s_val rfl rfl (v_slNil rfl rfl rfl Tryz.underlying79) ?_
 refine SS ?_
 refine c_split rfl (fun hc4=>?_) (fun hc4=>?_)
 ·
  refine K3 ?_
  refine ret_tmp Tryz.results369 rfl ?_
  exact Bz79
 refine K1 ?_
 refine s_bsl0 cx Tryz.underlying79 sz5 rfl rfl rfl ?_;intro b5 w cx hb5 hw5
 replace cx:=Cxr.toRow (size:=1) (k:=0) (cs:=[]) cx rfl (by decide)
 refine SS ?_
 refine s_appendA (news:=xs) cx ei5 Tryz.underlying79 rfl rfl rfl rfl rfl (fun h=>by rw [h] at hc4;cases hc4) (fun h0=>⟨b,0,(ha h0).1,(ha h0).2.up cx.ext⟩) hl ho (by omega) ?_;intro v7 w cx
 refine K1 ?_
 refine ret_tmp Tryz.results369 rfl ?_
 exact Ezr
theorem c365w (n:Nat)(s:Value)(xs:List Value)(w0:World)(h:SlR w0 s n xs)(hn:n≤10000000)(hl:xs.length=n*14)(ho:xs.all (·.oneCell')=true):Fc Tryz.prog 365 [s] w0 (fun x w'=>w'.ownsRow w0.heap.size 133 14 x n xs):=by
 obtain ⟨a,c,b,rfl,hac,ha⟩:=h.form2
 refine ret_enter Tryz.func365 rfl Tryz.ntmps365 rfl ?_
 have cx:=Ctx.start w0
 refine K6 ?_
 refine s_val rfl rfl (v_slNil rfl rfl rfl Tryz.underlying81) ?_
 refine SS ?_
 refine c_split rfl (fun hc4=>?_) (fun hc4=>?_)
 ·
  refine K3 ?_
  refine ret_tmp Tryz.results365 rfl ?_
  exact Bz79
 refine K1 ?_
 refine s_bsl0 cx Tryz.underlying81 sz133 rfl rfl rfl ?_;intro b5 w cx hb5 hw5
 replace cx:=Cxr.toRow (size:=14) (k:=0) (cs:=[]) cx rfl (by decide)
 refine SS ?_
 refine s_appendA (news:=xs) cx ei133 Tryz.underlying81 rfl rfl rfl rfl rfl (fun h=>by rw [h] at hc4;cases hc4) (fun h0=>⟨b,0,(ha h0).1,(ha h0).2.up cx.ext⟩) hl ho (by omega) ?_;intro v7 w cx
 refine K1 ?_
 refine ret_tmp Tryz.results365 rfl ?_
 exact Ezr
def CPV (D:Nat):Prop:=∀ (v:V) (cells:List Value) (w0:World) (k:Nat),Vw w0 v cells→Dp D v→vs D v≤2200000→D≤k→k≤65536→Ret Tryz.prog 304 [.agg cells.toArray,.int .i64 (k:Nat)] w0 (fun x w'=>∃ (cells':List Value) (rs:List Row),x=.agg cells'.toArray∧Cxr w0 w' [] rs∧RT 83 133 v cells' rs)
theorem c304s (D:Nat)(ih:CPV D)(v:V)(cells:List Value)(w0:World)(k:Nat)(hv:Vw w0 v cells)(hD:Dp (D+1) v)(hz:vs (D+1) v≤2200000)(hk0:D+1≤k)(hk1:k≤65536):Ret Tryz.prog 304 [.agg cells.toArray,.int .i64 (k:Nat)] w0 (fun x w'=>∃ (cells':List Value) (rs:List Row),x=.agg cells'.toArray∧Cxr w0 w' [] rs∧RT 83 133 v cells' rs):=by
 have hown:=vs_own hD
 have hlen:=vs_lens hD
 obtain ⟨ub,ul,uf,rfl,hb,hl,hf⟩:=hv.form
 have hbs:SlR w0 ub v.bytes.length (v.bytes.map bv):=hv.slB rfl
 obtain ⟨ba,bc,bb,rfl,hb1,hb2⟩:=hb
 obtain ⟨la,lc,lb,rfl,hlc,hl1,hl2⟩:=hl
 obtain ⟨fa,fc,fb,rfl,hfc,hf1,hf2⟩:=hf
 refine ret_enter Tryz.func304 rfl Tryz.ntmps304 rfl ?_
 have cx:=Ctx.start w0
 refine K0 ?_
 refine Hc ?_;intro b2 w cx hb2 hw2
 refine Hx ?_;intro b4 w cx hb4 hw4
 refine K1 ?_
 refine K5e ?_
 refine Ke5 ?_
 have cxB:=cx
 refine s_fn cx (c369w v.bytes.length _ _ _ (hbs.up cx.ext) (by omega) p1dq (by rw [List.all_map,List.all_eq_true];intro x _;rfl)) Tryz.func369 rfl rfl rfl rfl rfl rfl ?_;intro v13 w cx hw13 hp13
 replace cx:=cxB.callRow hw13 hp13
 refine K5e ?_
 refine s_store1 (v:=v13) cx 1 rfl rfl rfl rfl rfl cx.oneS rfl rfl sz79 ?_;intro w cx hwS1
 refine K5 ?_
 refine cSp rfl (fun hc16=>?_) (fun hc16=>?_)
 ·
  exfalso
  omega
 refine K6 ?_
 refine K33 ?_
 refine K7g ?_
 refine K2 ?_
 refine w_loop (fun g f1 w1=>∃ (i b2 b4:Nat) (zl:List LT) (v5:Value),g+i=v.list.length∧lvs zl=v.list.take i∧(∀ p∈zl,RT 83 133 p.1 p.2.1 p.2.2)∧f1 1=.int .i64 (k:Nat)∧f1 2=.pointer (some ⟨b2,0,none⟩)∧f1 4=.pointer (some ⟨b4,0,none⟩)∧f1 5=v5∧f1 21=.slice la v.list.length lc∧f1 22=.int .i64 v.list.length∧f1 23=.int .i64 i∧Cxr w0 w1 [(b4,.cells ((vrow sc0 (.slice none 0 0) (.slice none 0 0) (.slice none 0 0))).toArray 83),(b2,.cells (vrow v.sc v13 (.slice la v.list.length lc) (.slice fa v.fields.length fc)).toArray 83)] (⟨83,13,v5,zl.length,lcs zl⟩::⟨5,1,v13,v.bytes.length,v.bytes.map bv⟩::lrs zl)) (v.list.length) ?_ ?_
 ·
  exact ⟨0,_,_,[],_,by omega,rfl,by simp,rfl,rfl,rfl,rfl,rfl,rfl,rfl,cx.nilRow 83 13⟩
 intro gk7 f w hJ
 obtain ⟨i,b2,b4,zl,v5,hg,hzl,hrl,hs1,hs2,hs4,hs5,hs21,hs22,hs23,cx⟩:=hJ
 refine K0 ?_
 refine s_val rfl rfl (v_cmp rfl hs23 hs22 rfl) ?_
 refine K0 ?_
 refine cSp rfl (fun hc24=>?_) (fun hc24=>?_)
 ·
  obtain ⟨x,hx⟩:∃ x,v.list[i]?=some x:=⟨v.list[i]'(by omega),List.getElem?_eq_getElem _⟩
  have hla:=hl1 (by omega)
  subst hla
  obtain ⟨xcs,hrx,hvx⟩:=hl2 i x hx
  obtain ⟨xb,xl,xf,rfl,_,_,_⟩:=hvx.form
  have hdx:=vs_list hD (List.mem_of_getElem? hx)
  have hzlen:zl.length=i:=by have:=congrArg List.length hzl;simp only [lvs,List.length_map,List.length_take] at this;omega
  refine K3 ?_
  refine s_val rfl rfl (v_ia Tryz.underlying80 sz83 rfl hs21 hs23 (by omega) (by omega)) ?_
  refine Kf1 ?_
  refine Hx ?_;intro b7 w cx hb7 hw7
  refine s_storeAll cx 0 rfl rfl rfl rfl rfl rfl sz83 rfl hvx.one ?_;intro w cx hwS8
  refine K37 ?_
  refine K16 ?_
  refine K3b ?_
  have cxB:=cx
  refine s_call (ih x _ w (k-1) (hvx.up cx.ext) hdx.1 (by omega) (by omega) (by omega)) Tryz.func304 rfl rfl rfl rfl rfl (by rw [show ((k-1:Nat):Int)=(k:Int)-1 by omega];rfl) ?_;rintro v31 w ⟨cs2,rs2,rfl,cxr,hrt⟩
  obtain ⟨a1,n1,c1,a2,n2s,c2,a3,n3,c3,rfl⟩:=hrt.rr.form2 cxr
  replace cx:=(cxB.callRows cxr).grabE
  refine H17 ?_;intro b32 w cx hb32 hw32
  refine H18 ?_;intro v33 w cx hgr33
  replace cx:=cx.drop 1
  refine K1 ?_
  refine s_val rfl rfl (v_add rfl hs23 rfl (by omega) (by omega)) ?_
  refine K0 ?_
  refine ⟨gk7-1,_,by omega,rfl,i+1,b2,b4,zl++[(x,vrow x.sc (.slice a1 n1 c1) (.slice a2 n2s c2) (.slice a3 n3 c3),rs2)],v33,by omega,?_,?_,hs1,hs2,hs4,rfl,hs21,hs22,rfl,?_⟩
  · rw [take_snoc hx,← hzl];simp [lvs]
  · intro p hp
    rcases List.mem_append.1 hp with hp | hp
    · exact hrl p hp
    · rw [List.mem_singleton.1 hp];exact hrt
  · rw [lrs_snoc]
    exact (cx.drop 1).row_eq (by simp) (by rw [lcs_snoc])
 refine K1 ?_
 have hil:i=v.list.length:=by omega
 subst hil
 rw [List.take_length] at hzl
 refine K3 ?_
 refine K9i ?_
 refine K7h ?_
 refine K2 ?_
 refine w_loop (fun g f1 w1=>∃ (i b2 b4:Nat) (zf:List FT) (v8:Value),g+i=v.fields.length∧fvs zf=v.fields.take i∧(∀ p∈zf,RT 83 133 p.1.1.2 p.1.2 p.2)∧f1 1=.int .i64 (k:Nat)∧f1 2=.pointer (some ⟨b2,0,none⟩)∧f1 4=.pointer (some ⟨b4,0,none⟩)∧f1 5=v5∧f1 8=v8∧f1 36=.slice fa v.fields.length fc∧f1 37=.int .i64 v.fields.length∧f1 38=.int .i64 i∧Cxr w0 w1 [(b4,.cells ((vrow sc0 (.slice none 0 0) (.slice none 0 0) (.slice none 0 0))).toArray 83),(b2,.cells (vrow v.sc v13 (.slice la v.list.length lc) (.slice fa v.fields.length fc)).toArray 83)] (⟨133,14,v8,zf.length,fcs zf⟩::⟨83,13,v5,zl.length,lcs zl⟩::⟨5,1,v13,v.bytes.length,v.bytes.map bv⟩::(lrs zl++frs zf))) (v.fields.length) ?_ ?_
 ·
  exact ⟨0,_,_,[],_,by omega,rfl,by simp,hs1,hs2,hs4,hs5,rfl,rfl,rfl,rfl,by rw [show frs []=[] from rfl,List.append_nil];exact cx.nilRow 133 14⟩
 intro gk13 f w hJ
 obtain ⟨i,b2,b4,zf,v8,hg,hzf,hrf,hs1,hs2,hs4,hs5,hs8,hs36,hs37,hs38,cx⟩:=hJ
 refine K0 ?_
 refine Kbe ?_
 refine K0 ?_
 refine cSp rfl (fun hc39=>?_) (fun hc39=>?_)
 ·
  obtain ⟨kv,hx⟩:∃ x,v.fields[i]?=some x:=⟨v.fields[i]'(by omega),List.getElem?_eq_getElem _⟩
  have hfa:=hf1 (by omega)
  subst hfa
  obtain ⟨xcs,hrx,hvx⟩:=hf2 i kv hx
  obtain ⟨xb,xl,xf,rfl,_,_,_⟩:=hvx.form
  have hdx:=vs_field hD (List.mem_of_getElem? hx)
  have hzlen:zf.length=i:=by have:=congrArg List.length hzf;simp only [fvs,List.length_map,List.length_take] at this;omega
  refine K3 ?_
  refine s_val rfl rfl (v_ia Tryz.underlying81 sz133 rfl hs36 hs38 (by omega) (by omega)) ?_
  refine Kf2 ?_
  refine H11 ?_;intro b10 w cx hb10 hw10
  refine s_storeAll cx 0 rfl rfl rfl rfl rfl rfl sz133 rfl (fone hvx.one) ?_;intro w cx hwS14
  refine SS ?_
  refine w_ord cx (cx.pick1 0 rfl) mixed [(0,42),(1,43),(2,44),(3,45),(4,46),(5,47),(6,48)] #[true,true,true,true,true,true,true,false,false,false,false,false] p1q p1q p1q p1q ?_
  refine pu_one rfl (wnt_none rfl) (fun w cx=>v_move rfl hs8) ?_
  refine pu_one rfl (wnt_none rfl) (fun w cx=>v_fa fa133_0 rfl rfl) ?_
  refine K97 ?_
  refine pu_one rfl (wnt_none rfl) (fun w cx=>v_fa fa133_1 rfl rfl) ?_
  refine pu_one rfl (wnt_none rfl) (fun w cx=>v_load rfl rfl Tryz.underlying83 rfl sz83 (cx.row 0 rfl).tail rfl) ?_
  refine K7s ?_
  refine K5i ?_
  refine Hv ?_;intro w cx hwD15
  refine K1s ?_
  have cxB:=cx
  refine s_call (ih kv.2 _ w (k-1) (hvx.up cx.ext) hdx.1 (by omega) (by omega) (by omega)) Tryz.func304 rfl rfl rfl rfl rfl (by rw [show ((k-1:Nat):Int)=(k:Int)-1 by omega];rfl) ?_;rintro v49 w ⟨cs2,rs2,rfl,cxr,hrt⟩
  obtain ⟨a1,n1,c1,a2,n2s,c2,a3,n3,c3,rfl⟩:=hrt.rr.form2 cxr
  replace cx:=(cxB.callRows cxr).grabE3
  refine K3r ?_
  refine K1h ?_
  refine s_val rfl rfl (v_build (qs:=[(0,.string kv.1),(1,.agg (vrow kv.2.sc (.slice a1 n1 c1) (.slice a2 n2s c2) (.slice a3 n3 c3)).toArray)]) (bd133k _ _ _ _ _ _ _ _ _ _ _) rfl rfl) ?_
  refine K3r ?_
  refine K1c ?_
  refine H19 ?_;intro b51 w cx hb51 hw51
  refine K3r ?_
  refine K1r ?_
  refine H1a ?_;intro v52 w cx hgr52
  replace cx:=cx.drop 1
  refine K6u ?_
  refine K2b ?_
  refine SS ?_
  refine s_val rfl rfl (v_add rfl hs38 rfl (by omega) (by omega)) ?_
  refine K0 ?_
  refine ⟨gk13-1,_,by omega,rfl,i+1,b2,b4,zf++[((kv,vrow kv.2.sc (.slice a1 n1 c1) (.slice a2 n2s c2) (.slice a3 n3 c3)),rs2)],v52,by omega,?_,?_,hs1,hs2,hs4,hs5,rfl,hs36,hs37,rfl,?_⟩
  · rw [take_snoc hx,← hzf];simp [fvs]
  · intro p hp
    rcases List.mem_append.1 hp with hp | hp
    · exact hrf p hp
    · rw [List.mem_singleton.1 hp];exact hrt
  · rw [frs_snoc]
    exact (cx.drop 1).row_eq (by simp) (by rw [fcs_snoc];rfl)
 refine K1 ?_
 have hil:i=v.fields.length:=by omega
 subst hil
 rw [List.take_length] at hzf
 refine Kh ?_
 refine Kv ?_
 refine s_val rfl rfl (v_fa fa83_6 rfl hs2) ?_
 refine s_store1 (v:=v5) cx 1 rfl rfl rfl rfl rfl cx.swapR.oneS rfl rfl sz80 ?_;intro w cx hwS17a
 refine K9i ?_
 refine s_store1 (v:=v8) cx 1 rfl rfl rfl rfl rfl cx.oneS rfl rfl sz81 ?_;intro w cx hwS17b
 refine K1 ?_
 refine Ke6 ?_
 refine s_storeAll cx 0 rfl rfl rfl hs4 rfl rfl sz83 rfl (vrow_one ((cx.oneR (List.mem_cons_of_mem _ (List.mem_cons_of_mem _ (List.mem_cons_self ..)))).oneS) cx.swapR.oneS cx.oneS) ?_;intro w cx hwS18
 refine K0 ?_
 refine Ke7 ?_
 exact ⟨_,_,rfl,(cx.drop 2).permR perm_cfb,RT.of hzl hzf hrl hrf⟩
theorem c304w:∀ D,CPV D
 | 0=>fun v cells w0 k hv h=>h.elim
 | D+1=>fun v cells w0 k hv hD hz hk0 hk1=>c304s D (c304w D) v cells w0 k hv hD hz hk0 hk1
theorem c227w (D:Nat)(v:V)(cells:List Value)(w0:World)(hv:Vw w0 v cells)(hD:Dp D v)(hz:vs D v≤2200000)(hd:D≤65536):Ret Tryz.prog 227 [.agg cells.toArray] w0 (fun x w'=>∃ (cells':List Value) (rs:List Row),x=.agg cells'.toArray∧Cxr w0 w' [] rs∧RT 83 133 v cells' rs):=by
 refine ret_enter Tryz.func227 rfl Tryz.ntmps227 rfl ?_
 have cx:=Ctx.start w0
 refine K0 ?_
 refine Hc ?_;intro b1 w cx hb1 hw1
 refine Hx ?_;intro b2 w cx hb2 hw2
 refine K1 ?_
 refine K9v ?_
 have cxB:=cx
 refine s_call (c304w D v cells _ 65536 (hv.up cx.ext) hD hz hd (by omega)) Tryz.func304 rfl rfl rfl rfl rfl rfl ?_;rintro v4 w ⟨cs2,rs2,rfl,cxr,hrt⟩
 obtain ⟨a1,n1,c1,a2,n2s,c2,a3,n3,c3,rfl⟩:=hrt.rr.form2 cxr
 replace cx:=cxB.callRows cxr
 rw [List.append_nil] at cx
 refine H13 ?_;intro w cx hwS1
 refine K0 ?_
 refine Ke8 ?_
 exact ⟨_,_,rfl,cx.drop 2,hrt⟩
theorem c303w (s:Sc)(bs_ ls fs:Value)(E:Els)(w0:World)(h:SlR w0 fs E.length E.flatten)(hE:∀ r∈E,Rw r)(hn:E.length≤3000000):Fc Tryz.prog 303 [.agg (vrow s bs_ ls fs).toArray] w0 (fun x w'=>∃ E':Els,E'.Perm E∧w'.ownsRow w0.heap.size 133 14 x E.length E'.flatten):=by
 refine ret_enter Tryz.func303 rfl Tryz.ntmps303 rfl ?_
 have cx:=Ctx.start w0
 refine K0 ?_
 refine Hc ?_;intro b1 w cx hb1 hw1
 refine K6p ?_
 have cxB:=cx
 refine s_fn cx (c365w E.length _ _ _ (h.up cx.ext) (by omega) (flat14 E hE) (by rw [List.all_flatten,List.all_eq_true];intro r hr;exact (hE r hr).one)) Tryz.func365 rfl rfl rfl rfl rfl rfl ?_;intro v6 w cx hw6 hp6
 replace cx:=cxB.callRow hw6 hp6
 refine K3 ?_
 have hst:Ret Tryz.prog 366 [v6,.func (.func 367) #[] #[]] w (fun _ w'=>SE 133 w0 w' [(b1,.cells (vrow s bs_ ls fs).toArray 83)] [] v6 E.length E):=by
  rcases cx.slForm with ⟨rfl,h0⟩ | ⟨g,c,rfl⟩
  · refine Calls.mono (call_of srt_k w) ?_
    rintro e w' ⟨v,he,hb,_⟩
    exact ⟨v,he,E,List.Perm.refl _,cx.call hb⟩
  · exact c366w w0 _ [] g c E.length E hE rfl hn _ E (List.Perm.refl _) cx
 refine s_call hst Tryz.func366 rfl rfl rfl rfl rfl rfl ?_;rintro v8 w ⟨E2,hp2,cx⟩
 refine K5 ?_
 refine ret_tmp Tryz.results303 rfl ?_
 exact ⟨cx.ext,E2,hp2,cx.rows _ (List.mem_cons_self ..)⟩
def ARV (D:Nat):Prop:=∀ (wb w0:World) (v:V) (cells:List Value) (rs:List Row) (L:List (Nat×Obj)) (R:List Row) (cx0:Cxr wb w0 L (rs++R)) (hrt:RT 83 133 v cells rs),Dp D v→vs D v≤2200000→Ret Tryz.prog 226 [.agg cells.toArray] w0 (fun x w'=>∃ (v':V) (cells':List Value) (rs':List Row),x=.agg cells'.toArray∧Cxr wb w' L (rs'++R)∧RT 83 133 v' cells' rs'∧Dp D v'∧vs D v'=vs D v)
theorem c226s (D:Nat)(ih:ARV D)(wb w0:World)(v:V)(cells:List Value)(rs:List Row)(L:List (Nat×Obj))(R:List Row)(cx0:Cxr wb w0 L (rs++R))(hrt:RT 83 133 v cells rs)(hD:Dp (D+1) v)(hz:vs (D+1) v≤2200000):Ret Tryz.prog 226 [.agg cells.toArray] w0 (fun x w'=>∃ (v':V) (cells':List Value) (rs':List Row),x=.agg cells'.toArray∧Cxr wb w' L (rs'++R)∧RT 83 133 v' cells' rs'∧Dp (D+1) v'∧vs (D+1) v'=vs (D+1) v):=by
 have hlen:=vs_lens hD
 have hsum0:=vs_sums (D:=D) v
 cases hrt with
 | mk s bytes zl zf bs_ ls fs hl hf =>
 have hlen':(lvs zl).length+(fvs zf).length+1≤vs (D+1) (.mk s bytes (lvs zl) (fvs zf)):=hlen
 have hnl:zl.length+zf.length+1≤2200000:=by
  have e1:(lvs zl).length=zl.length:=by simp [lvs]
  have e2:(fvs zf).length=zf.length:=by simp [fvs]
  omega
 have hdl:∀ p∈zl,Dp D p.1:=fun p hp=>hD.2.1 _ (List.mem_map_of_mem hp)
 have hdf:∀ p∈zf,Dp D p.1.1.2:=fun p hp=>hD.2.2 _ (List.mem_map_of_mem (f:=fun p:FT=>p.1.1) hp)
 simp only [V.list,V.fields,V.sc,V.bytes] at hsum0
 refine ret_enter Tryz.func226 rfl Tryz.ntmps226 rfl ?_
 have cx:=cx0.permR perm_lbf
 obtain ⟨la,lc,rfl⟩:=cx.rowSl
 obtain ⟨fa,fc,rfl⟩:=(cx.oneR (List.mem_cons_of_mem _ (List.mem_cons_of_mem _ (List.mem_cons_self ..)))).rowSl
 obtain ⟨ba,bcp,rfl⟩:=cx.swapR.rowSl
 refine K0 ?_
 refine Hc ?_;intro b1 w cx hb1 hw1
 refine Hx ?_;intro b2 w cx hb2 hw2
 refine K2 ?_
 refine K33 ?_
 refine K7g ?_
 refine K2 ?_
 refine w_loop (fun g f1 w1=>∃ (b1 b2:Nat) (A B:List LT),g=B.length∧A.length+B.length=zl.length∧(∀ p∈A++B,RT 83 133 p.1 p.2.1 p.2.2∧Dp D p.1)∧((lvs (A++B)).map (vs D)).sum=((lvs zl).map (vs D)).sum∧f1 1=.pointer (some ⟨b1,0,none⟩)∧f1 2=.pointer (some ⟨b2,0,none⟩)∧f1 7=.int .i64 zl.length∧f1 8=.int .i64 A.length∧Cxr wb w1 ((b2,.cells ((vrow sc0 (.slice none 0 0) (.slice none 0 0) (.slice none 0 0))).toArray 83)::(b1,.cells (vrow s (.slice ba bytes.length bcp) (.slice la zl.length lc) (.slice fa zf.length fc)).toArray 83)::L) (⟨83,13,.slice la zl.length lc,zl.length,lcs (A++B)⟩::⟨5,1,(.slice ba bytes.length bcp),bytes.length,bytes.map bv⟩::⟨133,14,.slice fa zf.length fc,zf.length,fcs zf⟩::(lrs (A++B)++(frs zf++R)))) (zl.length) ?_ ?_
 ·
  exact ⟨_,_,[],zl,rfl,by simp,fun p hp=>⟨hl p hp,hdl p hp⟩,rfl,rfl,rfl,rfl,rfl,cx⟩
 intro gk2 f w hJ
 obtain ⟨b1,b2,A,B,hg,hAB,hgood,hsum,hs1,hs2,hs7,hs8,cx⟩:=hJ
 refine K0 ?_
 refine s_val rfl rfl (v_cmp rfl hs8 hs7 rfl) ?_
 refine K0 ?_
 refine cSp rfl (fun hc9=>?_) (fun hc9=>?_)
 ·
  obtain ⟨p,B',rfl⟩:∃ p B',B=p::B':=by
   exact Bz156
  have hp1:=hgood p (by simp)
  have hA13:(lcs A).length=A.length*13:=lcs_len fun q hq=>(hgood q (by simp [hq])).1
  have hpl:=hp1.1.len
  simp only [List.length_cons] at hAB
  obtain ⟨g,c',e',_,_,_⟩:=cx.rowS (by rw [lcs_mid];simp only [List.length_append,hpl];omega)
  obtain ⟨rfl,rfl⟩:la=some ⟨g,0,none⟩∧c'=lc:=by cases e';exact ⟨rfl,rfl⟩
  have hel:∀ {w':World} {L':List (Nat×Obj)} {R':List Row},Cxr wb w' L' (⟨83,13,.slice (some ⟨g,0,none⟩) zl.length c',zl.length,lcs (A++p::B')⟩::R')→RowAt w' g (0+A.length*13) p.2.1:=by
   intro w' L' R' h
   obtain ⟨g2,c2,e2,_,_,hr2⟩:=h.rowS (by rw [lcs_mid];simp only [List.length_append,hpl];omega)
   cases e2
   exact lcs_at hr2 hA13
  have hvp:vs D p.1≤2200000:=by
   have h1:=le_sumN (l:=(lvs (A++p::B')).map (vs D)) (x:=vs D p.1) (by simp [lvs])
   omega
  refine K3 ?_
  refine Kv ?_
  refine K0 ?_
  refine w_ord cx (cx.pick1 1 rfl) mixed [(0,11),(1,12),(2,13),(3,14),(4,15),(5,16),(6,17)] #[true,true,true,true,true,true,true,false,false,false,false] p1q p1q p1q p1q ?_
  refine pu_one rfl (wnt_none rfl) (fun w cx=>v_fa fa83_6 rfl hs1) ?_
  refine Kbo ?_
  refine Kz ?_
  refine pu_one rfl (wnt_none rfl) (fun w cx=>v_fa fa83_6 rfl hs1) ?_
  refine Kbo ?_
  refine Kz ?_
  refine pu_one rfl (wnt_none rfl) (fun w cx=>v_ia Tryz.underlying80 sz83 rfl rfl rfl (by omega) (by omega)) ?_
  refine Hv ?_;intro w cx hwD4
  refine K1s ?_
  refine Kf5 ?_
  refine x_next ⟨.inl p23q,?_⟩
  refine K1h ?_
  rw [lrs_mid] at cx
  replace cx:=cx.permR (perm_out _ _ _ _)
  refine s_call (ih wb _ p.1 p.2.1 p.2.2 _ _ cx hp1.1 hp1.2 hvp) Tryz.func226 rfl rfl rfl rfl rfl rfl ?_;rintro v19 w ⟨vq,cq,rq,rfl,cx,hrq,hdq,hvq⟩
  obtain ⟨a1,n1,c1,a2,n2s,c2,a3,n3,c3,rfl⟩:=hrq.rr.form2 cx.leftR
  replace cx:=cx.permR (perm_out _ _ _ _).symm
  have emid:lrs (A++(vq,vrow vq.sc (.slice a1 n1 c1) (.slice a2 n2s c2) (.slice a3 n3 c3),rq)::B')=lrs A++(rq++lrs B'):=lrs_mid A B' (vq,vrow vq.sc (.slice a1 n1 c1) (.slice a2 n2s c2) (.slice a3 n3 c3),rq)
  rw [← emid] at cx
  refine x_next ⟨.inl p23q,?_⟩
  refine K1c ?_
  refine Kb6 ?_
  refine Kg ?_
  refine K1r ?_
  refine s_storeL (q:=(vq,vrow vq.sc (.slice a1 n1 c1) (.slice a2 n2s c2) (.slice a3 n3 c3),rq)) cx rfl rfl rfl rfl rfl sz83 hA13 hpl rfl (by omega) (vrow_one rfl rfl rfl) ?_;intro w cx
  refine K41 ?_
  refine s_val rfl rfl (v_add rfl hs8 rfl (by omega) (by omega)) ?_
  refine K0 ?_
  refine ⟨B'.length,_,by simp only [List.length_cons] at hg;omega,rfl,b1,b2,A++[(vq,vrow vq.sc (.slice a1 n1 c1) (.slice a2 n2s c2) (.slice a3 n3 c3),rq)],B',rfl,by simp only [List.length_append,List.length_cons,List.length_nil];omega,?_,?_,hs1,hs2,hs7,congrArg (Value.int .i64) (by simp),?_⟩
  · intro q hq
    exact Bz85
  · rw [List.append_assoc,List.singleton_append,← hsum]
    exact vs_eqL hvq
  · rw [List.append_assoc,List.singleton_append]
    exact cx
 refine K1 ?_
 have hB0:B=[]:=List.eq_nil_of_length_eq_zero (by omega)
 subst hB0
 rw [List.append_nil] at cx hsum
 have hgood1:∀ p∈A,RT 83 133 p.1 p.2.1 p.2.2∧Dp D p.1:=fun p hp=>hgood p (by simpa using hp)
 have hsum1:=hsum
 have hlA1:A.length=zl.length:=by simpa using hAB
 obtain ⟨A1,hA1⟩:∃ A1,A=A1:=⟨A,rfl⟩
 rw [hA1] at cx hsum1 hgood1 hlA1
 refine K9j ?_
 have cxB:=cx
 have hone:∀ q∈zf,q.1.2.all (·.oneCell')=true:=fun q hq=>(hf q hq).one cx fun r hr=>List.mem_cons_of_mem _ (List.mem_cons_of_mem _ (List.mem_cons_of_mem _ (List.mem_append_right _ (List.mem_append_left _ (List.mem_flatMap.2 ⟨q,hq,hr⟩)))))
 have hslf:SlR w (.slice fa zf.length fc) (zf.map fun p=>rc p.1).length (zf.map fun p=>rc p.1).flatten:=by
  rw [← fcs_flat,List.length_map]
  exact LR.slr cx (.inr (List.mem_cons_of_mem _ (List.mem_cons_of_mem _ (List.mem_cons_self ..)))) (by omega)
 refine s_fn cx (c303w s _ _ _ (zf.map fun p=>rc p.1) _ hslf (fun r hr=>by
  obtain ⟨q,hq,rfl⟩:=List.mem_map.1 hr
  exact ⟨_,_,rfl,(hf q hq).len,hone q hq⟩) p1dq) Tryz.func303 rfl rfl rfl rfl rfl rfl ?_;intro v23 w cx hw23 hp23
 obtain ⟨E',hpE,hrowE⟩:=hp23
 obtain ⟨zf2,hpz,rfl⟩:=perm_map_inv _ hpE zf rfl
 rw [← fcs_flat,List.length_map] at hrowE
 replace cx:=((cxB.callRow hw23 hrowE).permR (perm_f1 (hpz.flatMap_right _))).dropR 1
 obtain ⟨fa2,fc2,rfl⟩:=cx.rowSl
 refine K5a ?_
 refine s_store1 (v:=.slice fa2 zf.length fc2) cx 1 rfl rfl rfl rfl rfl rfl rfl rfl sz81 ?_;intro w cx hwS6
 refine K2 ?_
 refine K5a ?_
 refine K7h ?_
 refine K2 ?_
 refine w_loop (fun g f1 w1=>∃ (b1 b2:Nat) (A B:List FT),g=B.length∧A.length+B.length=zf.length∧(∀ p∈A++B,RT 83 133 p.1.1.2 p.1.2 p.2∧Dp D p.1.1.2)∧((fvs (A++B)).map fun kv=>kv.1.size+vs D kv.2).sum=((fvs zf).map fun kv=>kv.1.size+vs D kv.2).sum∧f1 1=.pointer (some ⟨b1,0,none⟩)∧f1 2=.pointer (some ⟨b2,0,none⟩)∧f1 27=.int .i64 zf.length∧f1 28=.int .i64 A.length∧Cxr wb w1 ((b2,.cells ((vrow sc0 (.slice none 0 0) (.slice none 0 0) (.slice none 0 0))).toArray 83)::(b1,.cells (vrow s (.slice ba bytes.length bcp) (.slice la zl.length lc) (.slice fa2 zf.length fc2)).toArray 83)::L) (⟨133,14,.slice fa2 zf.length fc2,zf.length,fcs (A++B)⟩::⟨83,13,.slice la zl.length lc,zl.length,lcs A1⟩::⟨5,1,(.slice ba bytes.length bcp),bytes.length,bytes.map bv⟩::(frs (A++B)++(lrs A1++R)))) (zf.length) ?_ ?_
 ·
  refine ⟨b1,b2,[],zf2,hpz.length_eq.symm,by simp [hpz.length_eq],fun p hp=>⟨hf p (hpz.mem_iff.1 hp),hdf p (hpz.mem_iff.1 hp)⟩,?_,hs1,hs2,rfl,rfl,cx⟩
  exact perm_sumN ((hpz.map _).map _)
 intro gk8 f w hJ
 obtain ⟨b1,b2,A,B,hg,hAB,hgood,hsum,hs1,hs2,hs27,hs28,cx⟩:=hJ
 refine K0 ?_
 refine s_val rfl rfl (v_cmp rfl hs28 hs27 rfl) ?_
 refine K0 ?_
 refine cSp rfl (fun hc29=>?_) (fun hc29=>?_)
 ·
  obtain ⟨p,B',rfl⟩:∃ p B',B=p::B':=by
   exact Bz156
  have hp1:=hgood p (by simp)
  have hA14:(fcs A).length=A.length*14:=fcs_len fun q hq=>(hgood q (by simp [hq])).1
  have hpl:=hp1.1.len
  have hrl:(rc p.1).length=14:=by simp [rc,hpl]
  simp only [List.length_cons] at hAB
  obtain ⟨g,c',e',_,_,_⟩:=cx.rowS (by rw [fcs_mid];simp only [List.length_append,hrl];omega)
  obtain ⟨rfl,rfl⟩:fa2=some ⟨g,0,none⟩∧c'=fc2:=by cases e';exact ⟨rfl,rfl⟩
  have hel:∀ {w':World} {L':List (Nat×Obj)} {R':List Row},Cxr wb w' L' (⟨133,14,.slice (some ⟨g,0,none⟩) zf.length c',zf.length,fcs (A++p::B')⟩::R')→RowAt w' g (0+A.length*14+1) p.1.2:=by
   intro w' L' R' h
   obtain ⟨g2,c2,e2,_,_,hr2⟩:=h.rowS (by rw [fcs_mid];simp only [List.length_append,hrl];omega)
   cases e2
   exact (fcs_at hr2 hA14).tail
  have hvp:vs D p.1.1.2≤2200000:=by
   have h1:=le_sumN (l:=(fvs (A++p::B')).map fun kv=>kv.1.size+vs D kv.2) (x:=p.1.1.1.size+vs D p.1.1.2) (by simp [fvs])
   omega
  refine K3 ?_
  refine s_val rfl rfl (v_move rfl hs28) ?_
  refine K0 ?_
  refine w_ord cx (cx.pick1 1 rfl) mixed [(0,31),(1,32),(2,33),(3,34),(4,35),(5,36),(6,37),(7,38)] #[true,true,true,true,true,true,true,true,false,false,false,false,false] p1q p1q p1q p1q ?_
  refine pu_one rfl (wnt_none rfl) (fun w cx=>v_fa fa83_7 rfl hs1) ?_
  refine Kbq ?_
  refine Kz ?_
  refine pu_one rfl (wnt_none rfl) (fun w cx=>v_fa fa83_7 rfl hs1) ?_
  refine Kbq ?_
  refine Kz ?_
  refine K35 ?_
  refine pu_one rfl (wnt_none rfl) (fun w cx=>v_fa fa133_1 rfl rfl) ?_
  refine Hv ?_;intro w cx hwD10
  refine K1h ?_
  refine Kf5 ?_
  refine x_next ⟨.inl p23q,?_⟩
  refine K1c ?_
  rw [frs_mid] at cx
  replace cx:=cx.permR (perm_out _ _ _ _)
  refine s_call (ih wb _ p.1.1.2 p.1.2 p.2 _ _ cx hp1.1 hp1.2 hvp) Tryz.func226 rfl rfl rfl rfl rfl rfl ?_;rintro v40 w ⟨vq,cq,rq,rfl,cx,hrq,hdq,hvq⟩
  obtain ⟨a1,n1,c1,a2,n2s,c2,a3,n3,c3,rfl⟩:=hrq.rr.form2 cx.leftR
  replace cx:=cx.permR (perm_out _ _ _ _).symm
  have emid:frs (A++(((p.1.1.1,vq),vrow vq.sc (.slice a1 n1 c1) (.slice a2 n2s c2) (.slice a3 n3 c3)),rq)::B')=frs A++(rq++frs B'):=frs_mid A B' (((p.1.1.1,vq),vrow vq.sc (.slice a1 n1 c1) (.slice a2 n2s c2) (.slice a3 n3 c3)),rq)
  rw [← emid] at cx
  refine x_next ⟨.inl p23q,?_⟩
  refine K1r ?_
  refine K1k ?_
  refine K6u ?_
  refine K96 ?_
  refine Kg ?_
  refine K3d ?_
  refine s_storeF (q:=(((p.1.1.1,vq),vrow vq.sc (.slice a1 n1 c1) (.slice a2 n2s c2) (.slice a3 n3 c3)),rq)) cx rfl rfl rfl rfl rfl sz83 hA14 hpl rfl rfl (by omega) (vrow_one rfl rfl rfl) ?_;intro w cx
  refine K41 ?_
  refine s_val rfl rfl (v_add rfl hs28 rfl (by omega) (by omega)) ?_
  refine K0 ?_
  refine ⟨B'.length,_,by simp only [List.length_cons] at hg;omega,rfl,b1,b2,A++[(((p.1.1.1,vq),vrow vq.sc (.slice a1 n1 c1) (.slice a2 n2s c2) (.slice a3 n3 c3)),rq)],B',rfl,by simp only [List.length_append,List.length_cons,List.length_nil];omega,?_,?_,hs1,hs2,hs27,congrArg (Value.int .i64) (by simp),?_⟩
  · intro q hq
    exact Bz85
  · rw [List.append_assoc,List.singleton_append,← hsum]
    simp [fvs,hvq]
  · rw [List.append_assoc,List.singleton_append]
    exact cx
 refine K1 ?_
 have hB0:B=[]:=List.eq_nil_of_length_eq_zero (by omega)
 subst hB0
 rw [List.append_nil] at cx hsum
 have hgood2:∀ p∈A,RT 83 133 p.1.1.2 p.1.2 p.2∧Dp D p.1.1.2:=fun p hp=>hgood p (by simpa using hp)
 have hlA2:A.length=zf.length:=by simpa using hAB
 refine K9j ?_
 refine s_storeAll cx 0 rfl rfl rfl hs2 rfl rfl sz83 rfl (vrow_one rfl rfl rfl) ?_;intro w cx hwS12
 refine K0 ?_
 refine Ke9 ?_
 have hfin:=(cx.drop 2).permR perm_fin
 refine ⟨.mk s bytes (lvs A1) (fvs A),_,_,rfl,?_,RT.mk s bytes A1 A _ _ _ (fun p hp=>(hgood1 p hp).1) fun p hp=>(hgood2 p hp).1,?_,?_⟩
 · rw [hlA1,hlA2];exact hfin
 · simp only [Dp]
   refine ⟨hD.1,fun x hx=>?_,fun x hx=>?_⟩
   · obtain ⟨p,hp,rfl⟩:=List.mem_map.1 hx;exact (hgood1 p hp).2
   · obtain ⟨p,hp,rfl⟩:=List.mem_map.1 hx;exact (hgood2 p hp).2
 · simp only [vs]
   rw [hsum1,hsum]
theorem c226w:∀ D,ARV D
 | 0=>fun wb w0 v cells rs L R cx0 hrt h=>h.elim
 | D+1=>fun wb w0 v cells rs L R cx0 hrt hD hz=>c226s D (c226w D) wb w0 v cells rs L R cx0 hrt hD hz
theorem c156w (D:Nat)(v:V)(cells:List Value)(w0:World)(hv:Vw w0 v cells)(hD:Dp D v)(hz:vs D v≤2200000)(hd:D≤65536):Ret Tryz.prog 156 [.agg cells.toArray] w0 (fun x w'=>∃ (v':V) (cells':List Value) (rs':List Row),x=.agg cells'.toArray∧Cxr w0 w' [] rs'∧RT 83 133 v' cells' rs'∧Dp D v'∧vs D v'=vs D v):=by
 refine ret_enter Tryz.func156 rfl Tryz.ntmps156 rfl ?_
 have cx:=Ctx.start w0
 refine K0 ?_
 refine Hc ?_;intro b1 w cx hb1 hw1
 refine Hx ?_;intro b2 w cx hb2 hw2
 refine K1 ?_
 refine K9v ?_
 have cxB:=cx
 refine s_call (c227w D v cells _ (hv.up cx.ext) hD hz hd) Tryz.func227 rfl rfl rfl rfl rfl rfl ?_;rintro v4 w ⟨cs2,rs2,rfl,cxr,hrt⟩
 replace cx:=cxB.callRows cxr
 refine s_call (c226w D w0 _ v cs2 rs2 _ [] cx hrt hD hz) Tryz.func226 rfl rfl rfl rfl rfl rfl ?_;rintro v5 w ⟨v',cs3,rs3,rfl,cx,hrt3,hD3,hz3⟩
 obtain ⟨a1,n1,c1,a2,n2s,c2,a3,n3,c3,rfl⟩:=hrt3.rr.form2 cx.leftR
 rw [List.append_nil] at cx
 refine H13 ?_;intro w cx hwS1
 refine K0 ?_
 refine Kea ?_
 exact ⟨v',_,_,rfl,cx.drop 2,hrt3,hD3,hz3⟩
noncomputable def okRep (k:Nat):Bool:=match Go.Ev.evalE Tryz.prog env0 12 297 [.string (bs [48]),.int .i64 k] with
 | some v=>Go.Ev.eqV v (.string (bs (List.replicate k 48)))
 | none=>false
theorem rep_k:(List.range 22).all okRep=true:=by kernel_rfl
theorem c297w (k:Nat)(w0:World)(hk:k≤21):Fc Tryz.prog 297 [.string (bs [48]),.int .i64 k] w0 (fun u _=>∃ t:List UInt8,u=.string (bs t)∧t.length≤k):=by
 have h2:okRep k=true:=List.all_eq_true.1 rep_k k (List.mem_range.2 (by omega))
 unfold okRep at h2
 split at h2
 · rename_i v hv
   obtain rfl:=Go.Ev.eqV_eq h2
   exact (call_of hv w0).mono fun u w' _ h=>⟨List.replicate k 48,h,by simp⟩
 · cases h2
theorem c395w (wb:World)(L:List (Nat×Obj))(R:List Row)(g c n:Nat)(w0:World)(l:List UInt8)(hl:l.length=n)(hn:n≤1000000)(cx0:Cxr wb w0 L (⟨5,1,.slice (some ⟨g,0,none⟩) n c,n,List.map bv l⟩::R)):Ret Tryz.prog 395 [.slice (some ⟨g,0,none⟩) n c] w0 (fun _ w'=>∃ l':List UInt8,l'.length=n∧Cxr wb w' L (⟨5,1,.slice (some ⟨g,0,none⟩) n c,n,List.map bv l'⟩::R)):=by
 refine ret_enter Tryz.func395 rfl Tryz.ntmps395 rfl ?_
 have cx:=cx0
 refine K1 ?_
 refine K4c ?_
 refine K3 ?_
 refine w_loop (fun k f w1=>∃ (i j:Int) (l:List UInt8),k=(j-i).toNat∧0≤i∧j<n∧l.length=n∧f 0=.slice (some ⟨g,0,none⟩) n c∧f 2=.int .i64 i∧f 3=.int .i64 j∧Cxr wb w1 L (⟨5,1,.slice (some ⟨g,0,none⟩) n c,n,List.map bv l⟩::R)) (((n:Int)-1).toNat) ?_ ?_
 ·
  exact ⟨0,(n:Int)-1,l,by omega,by omega,by omega,hl,rfl,rfl,rfl,cx⟩
 intro gk1 f w hJ
 obtain ⟨i,j,l,hk,hi0,hj0,hl,hs0,hs2,hs3,cx⟩:=hJ
 refine K1 ?_
 refine Kp ?_
 refine K6l ?_
 refine cSp rfl (fun hc9=>?_) (fun hc9=>?_)
 ·
  refine K1 ?_
  refine w_ord cx (Ctx.sub0 cx) mixed [(0,14),(1,15),(2,16),(3,17),(4,18),(5,19),(6,20),(8,22),(9,23),(10,24)] #[true,true,true,true,true,true,true,false,true,true,true,false,false,false,false,false] p1q p1q p1q p1q ?_
  refine Ku ?_
  refine K9x ?_
  refine Ku ?_
  refine K34 ?_
  refine Ku ?_
  refine K34 ?_
  refine Kf6 ?_
  refine Ku ?_
  refine K9x ?_
  refine Kf6 ?_
  refine Hv ?_;intro w cx hwD3
  refine x_two (i:=7) (j:=11) p1q rfl rfl ?_ ?_
  ·
   refine Kf7 ?_
   refine Kn ?_
   refine K2t ?_
   refine Kf8 ?_
   exact Bz14
  refine Kf8 ?_
  refine Kn ?_
  refine K1s ?_
  refine Kf7 ?_
  exact Bz14
 refine SS ?_
 exact ret_no (.inr rfl) Tryz.results395 ⟨l,hl,cx⟩
theorem rev_k:Go.Ev.evalE Tryz.prog env0 8 395 [.slice none 0 0]=some (.tuple #[]):=by kernel_rfl
theorem c362w (n:Nat)(w0:World)(hn:n≤1000000000):Fc Tryz.prog 362 [.int .i64 n] w0 (fun u _=>∃ t:List UInt8,u=.string (bs t)∧t.length≤10):=by
 refine ret_enter Tryz.func362 rfl Tryz.ntmps362 rfl ?_
 have cx:=Ctx.start w0
 refine K8 ?_
 refine w_loop (fun k f w1=>∃ (m:Nat) (t:List UInt8) (v3:Value),k=m∧m≤n∧m*10^t.length≤n∧t.length≤10∧f 0=.int .i64 m∧f 3=v3∧Cxr w0 w1 [] [⟨5,1,v3,t.length,t.map bv⟩]) (n) ?_ ?_
 ·
  exact ⟨n,[],_,rfl,by omega,by simp,by simp,rfl,rfl,cx.nilRow 5 1⟩
 intro gk2 f w hJ
 obtain ⟨m,t,v3,hk,hmn,hm,ht,hs0,hs3,cx⟩:=hJ
 refine K9 ?_
 refine K0 ?_
 refine cSp rfl (fun hc5=>?_) (fun hc5=>?_)
 ·
  refine K20 ?_
  refine Kb ?_
  refine K8k ?_
  refine SS ?_
  refine s_val rfl rfl ((show (execOp _ _).run Tryz.prog _=.ok (.value (bv (UInt8.ofNat (48+m%10)))) _ from (v_conv rfl rfl Tryz.underlying3 Tryz.underlying5).trans (by rw [show (48:Int)+((m%10:Nat):Int)=((48+m%10:Nat):Int) by omega,bvOf (by omega)]))) ?_
  refine He ?_;intro b13 w cx hb13 hw13
  refine Hf ?_;intro v14 w cx hgr14
  replace cx:=cx.drop 1
  refine K9 ?_
  refine K8l ?_
  refine K0 ?_
  have ht9:t.length≤9:=by
   rcases Nat.lt_or_ge t.length 10 with h | h
   · omega
   · exfalso
     have h1:10^10≤10^t.length:=Nat.pow_le_pow_right (by decide) h
     have h2:1*10^t.length≤m*10^t.length:=Nat.mul_le_mul_right _ (by omega)
     have h3:(10:Nat)^10=10000000000:=by decide
     omega
  refine ⟨m / 10,_,by omega,rfl,m / 10,t++[UInt8.ofNat (48+m%10)],_,rfl,by omega,?_,by simp only [List.length_append,List.length_cons,List.length_nil];omega,rfl,rfl,cx.row_eq (by simp) paq⟩
  rw [List.length_append,List.length_cons,List.length_nil,Nat.pow_succ,Nat.mul_comm (10^t.length),← Nat.mul_assoc]
  refine Nat.le_trans (Nat.mul_le_mul_right _ ?_) hm
  omega
 refine K10 ?_
 have hrv:Ret Tryz.prog 395 [v3] w (fun _ w'=>∃ l':List UInt8,l'.length=t.length∧Cxr w0 w' [] [⟨5,1,v3,t.length,l'.map bv⟩]):=by
  rcases cx.slForm with ⟨rfl,h0⟩ | ⟨g,c,rfl⟩
  · refine Calls.mono (call_of rev_k w) ?_
    rintro e w' ⟨v,he,hb,_⟩
    exact ⟨v,he,t,rfl,cx.call hb⟩
  · exact c395w w0 [] [] g c t.length _ t rfl (by omega) cx
 refine s_call hrv Tryz.func395 rfl rfl rfl rfl rfl rfl ?_;rintro v16 w ⟨l2,hl2,cx⟩
 replace cx:=cx.row_eq (n':=l2.length) hl2.symm rfl
 refine K10 ?_
 refine K6g ?_
 refine ret_tmp Tryz.results362 rfl ?_
 exact ⟨cx.ext,l2,rfl,by omega⟩
theorem c298w (n:Nat)(w0:World)(hn:n≤1000000000):Fc Tryz.prog 298 [.int .i64 n] w0 (fun u _=>∃ t:List UInt8,u=.string (bs t)∧t.length≤10):=by
 refine ret_enter Tryz.func298 rfl Tryz.ntmps298 rfl ?_
 have cx:=Ctx.start w0
 refine K8 ?_
 refine cSp rfl (fun hc4=>?_) (fun hc4=>?_)
 ·
  refine K3 ?_
  refine ret_tmp Tryz.results298 rfl ?_
  exact ⟨cx.ext,[48],rfl,by decide⟩
 refine K2 ?_
 refine s_fn cx (c362w n _ (by omega)) Tryz.func362 rfl rfl rfl rfl rfl rfl ?_;intro q6 w cx hw6 hp6
 obtain ⟨t,rfl,ht⟩:=hp6
 refine K1 ?_
 refine ret_tmp Tryz.results298 rfl ?_
 exact Ezo
theorem c221l (b:Bool)(s:List UInt8)(x:Int)(w0:World)(hs:s.length≤3000000)(h0:-400≤x)(h1:x≤400):Fc Tryz.prog 221 [.agg #[.bool b,.string (bs s),.int .i64 x]] w0 (fun u _=>∃ t:List UInt8,u=.string (bs t)∧t.length≤s.length+60):=by
 refine ret_enter Tryz.func221 rfl Tryz.ntmps221 rfl ?_
 have cx:=Ctx.start w0
 refine K0 ?_
 refine Hc ?_;intro b1 w cx hb1 hw1
 refine K3 ?_
 refine K6j ?_
 refine K2e ?_
 refine s_gval rfl rfl rfl wF (fun hc=>v_load rfl p4q Tryz.underlying76 rfl sz76 (cx.row 0 rfl) rfl) ?_
 refine s_gfnB cx rfl rfl rfl wF (fun hc=>(c218l b s x _ (by omega))) Tryz.func218 rfl rfl rfl (fun hc=>(cons_eq gX rfl)) ?_;intro q11 w cx hw11 hp11
 refine K1 ?_
 refine cSp rfl (fun hc13=>?_) (fun hc13=>?_)
 ·
  refine K3 ?_
  refine ret_tmp Tryz.results221 rfl ?_
  exact ⟨cx.ext,[48],rfl,by simp⟩
 have hne:0<s.length:=List.length_pos_iff.2 hc13.1
 refine K3 ?_
 refine w_cut (fun f w1=>∃ (b1:Nat) (p:List UInt8),f 1=.pointer (some ⟨b1,0,none⟩)∧f 3=.string (bs p)∧p.length≤1∧Ctx w0 w1 [(b1,.cells ([.bool b,.string (bs s),.int .i64 x]:List Value).toArray 76)]) ?_ ?_
 ·
  refine Kcb ?_
  refine K4v ?_
  refine cSp rfl (fun hc15=>?_) (fun hc15=>?_)
  ·
   refine K1 ?_
   exact Bz62
  refine SS ?_
  exact Bz62
 intro f w hJ
 obtain ⟨b1,p,hs1,hs3,hp1,cx⟩:=hJ
 refine K0 ?_
 refine K4t ?_
 refine K4 ?_
 refine K5b ?_
 refine K5v ?_
 refine K5b ?_
 refine K5v ?_
 refine cSp rfl (fun hc23=>?_) (fun hc23=>?_)
 ·
  refine SS ?_
  refine w_ord cx (cx.pick1 0 rfl) mixed [(0,31),(1,32),(2,33),(3,34),(4,35),(5,36)] #[true,true,true,true,true,true,false,false,false] p1q p1q p1q p1q ?_
  refine K34 ?_
  refine K40 ?_
  refine K5c ?_
  refine pu_one rfl (wnt_none rfl) (fun w cx=>v_fa fa76_2 rfl hs1) ?_
  refine K1z ?_
  refine Hv ?_;intro w cx hwD9
  refine K32 ?_
  refine s_fn cx (c297w x.toNat _ (by omega)) Tryz.func297 rfl rfl rfl rfl rfl (by rw [show ((x.toNat:Nat):Int)=x by omega];rfl) ?_;intro q37 w cx hw37 hp37
  obtain ⟨t37,rfl,ht37⟩:=hp37
  refine Kd ?_
  refine K1s ?_
  refine K4m ?_
  refine K1h ?_
  exact Bz199
 refine K0 ?_
 refine K5b ?_
 refine K12 ?_
 refine Ka ?_
 refine cSp rfl (fun hc39=>?_) (fun hc39=>?_)
 ·
  refine SS ?_
  refine w_ord cx (cx.pick1 0 rfl) mixed [(0,51),(1,52),(2,53),(3,54),(4,55),(5,56),(6,57),(7,58),(8,59),(9,60),(10,61),(11,62),(12,2)] #[true,true,true,true,true,true,true,true,true,true,true,true,true] p1q p1q p1q p1q ?_
  refine K34 ?_
  refine K40 ?_
  refine Kz ?_
  refine K8y ?_
  refine K5c ?_
  refine Kdq ?_
  refine K40 ?_
  refine Kz ?_
  refine Kdr ?_
  refine K5c ?_
  refine pu_one rfl (wnt_none rfl) (fun w cx=>v_assign rfl rfl) ?_
  refine Hv ?_;intro w cx hwD11
  refine K7y ?_
  exact Bz175
 refine K8 ?_
 refine cSp rfl (fun hc63=>?_) (fun hc63=>?_)
 ·
  refine SS ?_
  refine w_ord cx (cx.pick1 0 rfl) mixed [(0,70),(1,71),(2,72),(3,73),(6,76),(7,77)] #[true,true,true,true,false,false,true,true,false,false] p1q p1q p1q p1q ?_
  refine K34 ?_
  refine Kds ?_
  refine Kz ?_
  refine Kdt ?_
  refine K40 ?_
  refine Hv ?_;intro w cx hwD13
  refine K7l ?_
  refine s_fn cx (c297w (-((s.length:Int)+x)).toNat _ (by omega)) Tryz.func297 rfl rfl rfl rfl rfl (by rw [show (((-((s.length:Int)+x)).toNat:Nat):Int)=-((s.length:Int)+x) by omega];rfl) ?_;intro q74 w cx hw74 hp74
  obtain ⟨t74,rfl,ht74⟩:=hp74
  refine Kd ?_
  refine K31 ?_
  refine Kt ?_
  refine Kd ?_
  refine K1h ?_
  refine K4m ?_
  refine K1c ?_
  exact Bz199
 refine K10 ?_
 refine K4t ?_
 refine K29 ?_
 refine K5y ?_
 refine w_cut (fun f w1=>∃ (b1:Nat) (p:List UInt8),f 1=.pointer (some ⟨b1,0,none⟩)∧f 3=.string (bs p)∧f 5=.int .i64 ((s.length:Int)+x)∧p.length≤s.length+10∧Ctx w0 w1 [(b1,.cells ([.bool b,.string (bs s),.int .i64 x]:List Value).toArray 76)]) ?_ ?_
 ·
  refine K3 ?_
  refine cSp rfl (fun hc85=>?_) (fun hc85=>?_)
  ·
   refine K0 ?_
   refine K4t ?_
   refine SS ?_
   refine s_val rfl rfl (v_strAddB (a:=[46]) rfl rfl rfl p2q) ?_
   refine K5y ?_
   exact Bz49
  refine SS ?_
  exact Bz49
 intro f w hJ
 obtain ⟨b1,p,hs1,hs3,hs5,hp2,cx⟩:=hJ
 refine Kf ?_
 refine K0 ?_
 refine cSp rfl (fun hc93=>?_) (fun hc93=>?_)
 ·
  refine K36 ?_
  refine s_val rfl rfl (v_strAddB (b:=[101,45]) rfl rfl rfl p2q) ?_
  refine K3a ?_
  refine s_fn cx (c298w (1-((s.length:Int)+x)).toNat _ (by omega)) Tryz.func298 rfl rfl rfl rfl rfl (by rw [show (((1-((s.length:Int)+x)).toNat:Nat):Int)=1-((s.length:Int)+x) by omega];rfl) ?_;intro q98 w cx hw98 hp98
  obtain ⟨t98,rfl,ht98⟩:=hp98
  exact Bz196
 refine K10 ?_
 refine s_val rfl rfl (v_strAddB (b:=[101]) rfl rfl rfl p2q) ?_
 refine K3a ?_
 refine s_fn cx (c298w ((s.length:Int)+x-1).toNat _ (by omega)) Tryz.func298 rfl rfl rfl rfl rfl (by rw [show ((((s.length:Int)+x-1).toNat:Nat):Int)=(s.length:Int)+x-1 by omega];rfl) ?_;intro q104 w cx hw104 hp104
 obtain ⟨t104,rfl,ht104⟩:=hp104
 exact Bz196
theorem c221w (b:Bool)(s:ByteArray)(x:Int)(w0:World)(hs:s.size≤3000000)(h0:-400≤x)(h1:x≤400):Fc Tryz.prog 221 [.agg #[.bool b,.string s,.int .i64 x]] w0 (fun u _=>∃ t:List UInt8,u=.string (bs t)∧t.length≤s.size+60):=by
 have h:=c221l b s.data.toList x w0 p21q h0 h1
 rw [bs_of] at h
 exact Ezk
theorem c364w (x k:Nat)(w0:World)(hx:x≤1000000000000000000)(hk:k≤1000):Fc Tryz.prog 364 [.int .i64 x,.int .i64 k] w0 (fun u _=>∃ t:List UInt8,u=.string (bs t)∧t.length=k∧(0<x→x<10^k→∃ c∈t,c≠48)):=by
 refine ret_enter Tryz.func364 rfl Tryz.ntmps364 rfl ?_
 have cx:=Ctx.start w0
 refine K5 ?_
 refine s_make (nn:=k) cx Tryz.underlying79 mk5 rfl rfl rfl rfl rfl (by omega) p2bq ?_;intro v8 w cx hgr8 hv8
 obtain ⟨g0,rfl⟩:=hv8
 refine K8 ?_
 refine w_loop (fun g f w1=>∃ (i n:Nat) (l:List UInt8),g=i∧i≤k∧n≤1000000000000000000∧l.length=k∧(0<x→x<10^k→DgI i n k l)∧f 0=.int .i64 n∧f 1=.int .i64 k∧f 5=.slice (some ⟨g0,0,none⟩) k k∧f 6=.int .i64 ((i:Int)-1)∧Cxr w0 w1 [] [⟨5,1,.slice (some ⟨g0,0,none⟩) k k,k,l.map bv⟩]) (k) ?_ ?_
 ·
  exact ⟨k,x,List.replicate k 0,rfl,by omega,hx,by simp,fun h1 h2=>.inl ⟨h1,h2⟩,rfl,rfl,rfl,rfl,cx.row_eq rfl (by rw [List.map_replicate];rfl)⟩
 intro gk3 f w hJ
 obtain ⟨i,n,l,hg,hi1,hnx,hln,hdg,hs0,hs1,hs5,hs6,cx⟩:=hJ
 refine K11 ?_
 refine K0 ?_
 refine cSp rfl (fun hc12=>?_) (fun hc12=>?_)
 ·
  refine K3 ?_
  refine Kh ?_
  refine Kc ?_
  refine Kb ?_
  refine K8k ?_
  refine SS ?_
  refine Kdu ?_
  refine K3f ?_
  refine s_cell (v:=bv (UInt8.ofNat (48+n%10))) cx rfl rfl rfl rfl rfl rfl p1dq sz5 ?_;intro w cx hgrS
  rw [show 0+Int.toNat ((i:Int)-1)*1=i-1 by omega,← List.map_set] at cx
  refine Km ?_
  refine K8l ?_
  refine K6f ?_
  exact ⟨i-1,_,by omega,rfl,i-1,n / 10,_,rfl,by omega,by omega,by rw [List.length_set];exact hln,fun h1 h2=>(show DgI (i-1+1) n k l by rw [show i-1+1=i by omega];exact hdg h1 h2).step hln (by omega),rfl,hs1,hs5,congrArg (Value.int .i64) (by omega),cx⟩
 refine Kf ?_
 obtain rfl:i=0:=by omega
 refine s_val rfl rfl (v_rowStr (cx.row_eq (n':=l.length) (by omega) rfl) rfl Tryz.underlying79 Tryz.underlying5 Tryz.underlying9 rfl) ?_
 refine K1 ?_
 refine ret_tmp Tryz.results364 rfl ?_
 refine ⟨cx.ext,l,rfl,hln,fun h1 h2=>(hdg h1 h2).fin hln⟩
theorem c300w (n:Nat)(w0:World)(hn:n≤86399999999999):Fc Tryz.prog 300 [.int .i64 n] w0 (fun u _=>∃ t:List UInt8,u=.string (bs t)∧t.length≤18):=by
 refine ret_enter Tryz.func300 rfl Tryz.ntmps300 rfl ?_
 have cx:=Ctx.start w0
 refine K5 ?_
 refine Kdv ?_
 refine SS ?_
 refine s_val rfl rfl (v_rem (q:=1000000000) rfl rfl rfl (by decide)) ?_
 refine K4 ?_
 refine Kdw ?_
 refine s_fn cx (c364w (n / 1000000000 / 3600) 2 _ (by omega) (by omega)) Tryz.func364 rfl rfl rfl rfl rfl rfl ?_;intro q13 w cx hw13 hp13
 obtain ⟨t13,rfl,ht13,hz13⟩:=hp13
 refine K4e ?_
 refine SS ?_
 refine Kb9 ?_
 refine K7m ?_
 refine s_fn cx (c364w (n / 1000000000 / 60%60) 2 _ (by omega) (by omega)) Tryz.func364 rfl rfl rfl rfl rfl rfl ?_;intro q18 w cx hw18 hp18
 obtain ⟨t18,rfl,ht18,hz18⟩:=hp18
 refine Kt ?_
 refine K4e ?_
 refine SS ?_
 refine K7m ?_
 refine s_fn cx (c364w (n / 1000000000%60) 2 _ (by omega) (by omega)) Tryz.func364 rfl rfl rfl rfl rfl rfl ?_;intro q23 w cx hw23 hp23
 obtain ⟨t23,rfl,ht23,hz23⟩:=hp23
 refine Kt ?_
 refine K6 ?_
 refine cSp rfl (fun hc26=>?_) (fun hc26=>?_)
 ·
  refine K1 ?_
  exact Bz186
 refine K2 ?_
 refine s_fn cx (c364w (n%1000000000) 9 _ (by omega) (by omega)) Tryz.func364 rfl rfl rfl rfl rfl rfl ?_;intro q29 w cx hw29 hp29
 obtain ⟨t29,rfl,ht29,hz29⟩:=hp29
 refine K2 ?_
 refine w_loop (fun g f w1=>∃ p t:List UInt8,g=t.length∧(∃ c∈t,c≠48)∧t.length≤9∧p.length=8∧f 5=.string (bs p)∧f 6=.string (bs t)∧Ctx w0 w1 []) (t29.length) ?_ ?_
 ·
  exact ⟨_,t29,rfl,hz29 (by omega) (by omega),by omega,by simp only [List.length_append,List.length_cons,List.length_nil];omega,rfl,rfl,cx⟩
 intro gk6 f w hJ
 obtain ⟨p,t,hg,⟨cz,hcz,hcz2⟩,ht9,hp8,hs5,hs6,cx⟩:=hJ
 have ht1:0<t.length:=List.length_pos_of_mem hcz
 refine K11 ?_
 refine Kc ?_
 refine K3 ?_
 refine cSp rfl (fun hc35=>?_) (fun hc35=>?_)
 ·
  refine K11 ?_
  refine Kc ?_
  refine K0 ?_
  refine K29 ?_
  refine K0 ?_
  exact ⟨(t.take (Int.toNat ((t.length:Int)-1))).length,_,by rw [List.length_take];omega,rfl,p,_,rfl,⟨cz,keep48 hcz hcz2 hc35,hcz2⟩,by rw [List.length_take];omega,hp8,hs5,rfl,cx⟩
 refine Kf ?_
 refine Kb8 ?_
 refine Kc ?_
 refine Kt ?_
 exact Bz186
theorem c301w (z:Int)(w0:World)(h0:-1439≤z)(h1:z≤1439):Fc Tryz.prog 301 [.int .i64 z] w0 (fun u _=>∃ t:List UInt8,u=.string (bs t)∧t.length≤6):=by
 refine ret_enter Tryz.func301 rfl Tryz.ntmps301 rfl ?_
 have cx:=Ctx.start w0
 refine K8 ?_
 refine cSp rfl (fun hc5=>?_) (fun hc5=>?_)
 ·
  refine K3 ?_
  refine ret_tmp Tryz.results301 rfl ?_
  exact ⟨cx.ext,[90],rfl,by decide⟩
 refine K3 ?_
 refine w_cut (fun f w1=>∃ (m:Nat) (p:List UInt8),m≤1439∧p.length=1∧f 0=.int .i64 m∧f 3=.string (bs p)∧Ctx w0 w1 []) ?_ ?_
 ·
  refine K3 ?_
  refine cSp rfl (fun hc7=>?_) (fun hc7=>?_)
  ·
   refine K0 ?_
   refine K3k ?_
   refine K1 ?_
   exact Bz93
  refine SS ?_
  exact Bz93
 intro f w hJ
 obtain ⟨m,p,hm,hp1,hs0,hs3,cx⟩:=hJ
 refine K36 ?_
 refine Kb ?_
 refine Kb9 ?_
 refine s_fn cx (c364w (m / 60) 2 _ (by omega) (by omega)) Tryz.func364 rfl rfl rfl rfl rfl rfl ?_;intro q13 w cx hw13 hp13
 obtain ⟨t13,rfl,ht13,hz13⟩:=hp13
 refine Kt ?_
 refine K4e ?_
 refine Kb ?_
 refine K7m ?_
 refine s_fn cx (c364w (m%60) 2 _ (by omega) (by omega)) Tryz.func364 rfl rfl rfl rfl rfl rfl ?_;intro q18 w cx hw18 hp18
 obtain ⟨t18,rfl,ht18,hz18⟩:=hp18
 refine Kt ?_
 refine K1 ?_
 refine ret_tmp Tryz.results301 rfl ?_
 exact Bz5
theorem ys_start {y:Nat}(h0:1≤y)(h1:y≤9999):365*(y-1)+(y-1) / 4-(y-1) / 100+(y-1) / 400=YS (y-1):=(YS_val (y-1) (by omega)).symm
theorem mon_ex {y m:Nat}(h0:1≤m)(h1:m≤12)(hy0:1≤y)(hy1:y≤9999)(h2:¬ (m=2∧leapF y=true)):([.int .i64 31,.int .i64 28,.int .i64 31,.int .i64 30,.int .i64 31,.int .i64 30,.int .i64 31,.int .i64 31,.int .i64 30,.int .i64 31,.int .i64 30,.int .i64 31]:List Value)[m-1]?=some (.int .i64 (monF y m:Nat)):=by
 have hy:¬ (y<1∨9999<y):=by omega
 have h:m=1∨m=2∨m=3∨m=4∨m=5∨m=6∨m=7∨m=8∨m=9∨m=10∨m=11∨m=12:=by omega
 unfold monF
 rw [if_neg hy]
 rcases h with rfl | rfl | rfl | rfl | rfl | rfl | rfl | rfl | rfl | rfl | rfl | rfl
 case inr.inl =>
  have hl:leapF y=false:=by
   cases h:leapF y with
   | false=>rfl
   | true=>exact absurd ⟨rfl,h⟩ h2
  rw [hl];rfl
 all_goals rfl
theorem mon_29 {y:Nat}(hy0:1≤y)(hy1:y≤9999)(h:leapF y=true):monF y 2=29:=by
 have hy:¬ (y<1∨9999<y):=by omega
 unfold monF
 rw [if_neg hy,h]
 rfl
theorem c381x (y:Nat)(w0:World)(hy0:1≤y)(hy1:y≤9999):Fc Tryz.prog 381 [.int .i64 y] w0 (IsB fun b=>b=leapF y):=by
 refine ret_enter Tryz.func381 rfl Tryz.ntmps381 rfl ?_
 have cx:=Ctx.start w0
 refine K5 ?_
 refine H1o ?_;intro q4 w cx hw4 hp4
 refine K0 ?_
 refine Kem ?_
 refine K2 ?_
 refine Ken ?_
 refine K1 ?_
 refine Keo ?_
 refine K4 ?_
 refine ret_tmp Tryz.results381 rfl ?_
 refine Kq ?_
 have hv:=hp4.2 ⟨hy0,hy1⟩
 show (_:Bool)=leapF y
 rw [Bool.eq_iff_iff]
 unfold leapF
 simp only [hv,Bool.and_eq_true,Bool.or_eq_true,Bool.true_and,decide_eq_true_eq,beq_iff_eq,bne_iff_ne,ne_eq,Bool.not_eq_true',decide_eq_false_iff_not]
 omega
theorem c338x (y m:Nat)(w0:World)(hy0:1≤y)(hy1:y≤9999)(hm0:1≤m)(hm1:m≤12):Fc Tryz.prog 338 [.int .i64 y,.int .i64 m] w0 (fun v _=>v=.int .i64 (monF y m:Nat)):=by
 refine ret_enter Tryz.func338 rfl Tryz.ntmps338 rfl ?_
 have cx:=Ctx.start w0
 refine K6 ?_
 refine H1o ?_;intro q7 w cx hw7 hp7
 refine K8 ?_
 refine cSp rfl (fun hc16=>?_) (fun hc16=>?_)
 ·
  exfalso
  have hv:=hp7.2 ⟨hy0,hy1⟩
  rw [hv] at hc16
  rcases hc16 with (h | h) | h
  · cases h
  · omega
  · omega
 refine K6 ?_
 refine s_gfnB cx rfl rfl rfl wT (fun hc=>(c381x y _ hy0 hy1)) Tryz.func381 rfl rfl rfl (fun hc=>(cons_eq gX rfl)) ?_;intro q21 w cx hw21 hp21
 refine K0 ?_
 refine cSp rfl (fun hc22=>?_) (fun hc22=>?_)
 ·
  obtain ⟨h2,hlp⟩:=hc22
  have hl2:=(hp21 (by simpa using h2)).symm.trans hlp
  obtain rfl:m=2:=by omega
  refine K3 ?_
  refine K7q ?_
  exact ⟨cx.ext,congrArg (fun z:Nat=>Value.int .i64 (z:Int)) (mon_29 hy0 hy1 hl2).symm⟩
 have hnl:¬ (m=2∧leapF y=true):=by
  rintro ⟨h2,h3⟩
  rcases hc22 with h | h
  · omega
  · have:=hp21 (by simp [h2])
    rw [h,h3] at this
    cases this
 refine K1 ?_
 refine Kep ?_
 refine s_alloc cx z398 rfl rfl rfl ?_;intro b5 w cx hb5 hw5
 refine s_storeAll cx 0 rfl rfl rfl rfl rfl rfl sz398 rfl rfl ?_;intro w cx hwS5
 refine K3 ?_
 refine Keq ?_
 refine s_val rfl rfl (v_load1 rfl rfl Tryz.underlying3 rfl (cx.cell 0 rfl (by rw [show 0+Int.toNat ((m:Int)-1)*1=m-1 by omega];exact mon_ex hm0 hm1 hy0 hy1 hnl))) ?_
 refine K1 ?_
 refine K7q ?_
 exact Ez2
theorem c339x (y:Nat)(w0:World)(h0:1≤y)(h1:y≤9999):Fc Tryz.prog 339 [.int .i64 y] w0 (fun v _=>v=.int .i64 (YS (y-1):Nat)):=by
 refine ret_enter Tryz.func339 rfl Tryz.ntmps339 rfl ?_
 have cx:=Ctx.start w0
 refine K5 ?_
 refine Ker ?_
 refine K5 ?_
 refine Kes ?_
 refine K0 ?_
 refine Ket ?_
 refine K0 ?_
 refine Keu ?_
 refine K2 ?_
 refine ret_tmp Tryz.results339 rfl ?_
 exact ⟨cx.ext,congrArg (Value.int .i64) (by have:=ys_start h0 h1;omega)⟩
theorem c396w (n:Nat)(w0:World)(hn:n≤3652058):Fc Tryz.prog 396 [.int .i64 n] w0 (IsB fun b=>b=true):=by
 refine ret_enter Tryz.func396 rfl Tryz.ntmps396 rfl ?_
 have cx:=Ctx.start w0
 refine K21 ?_
 refine ret_tmp Tryz.results396 rfl ?_
 exact Ezl
theorem c363w (n:Nat)(w0:World)(hn:n≤3652058):Fc Tryz.prog 363 [.int .i64 n] w0 (fun u _=>∃ (y m d:Nat) (e:Int),u=.tuple #[.int .i64 y,.int .i64 m,.int .i64 d,.int .i64 e]∧y≤1000000∧m≤1000000∧d≤4000000):=by
 refine ret_enter Tryz.func363 rfl Tryz.ntmps363 rfl ?_
 have cx:=Ctx.start w0
 refine Ka ?_
 refine s_fnB cx (c396w n _ hn) Tryz.func396 rfl rfl rfl rfl rfl rfl ?_;intro q8 w cx hw8 hp8
 refine K0 ?_
 refine cSp rfl (fun hc9=>?_) (fun hc9=>?_)
 ·
  exfalso
  rw [hp8] at hc9
  cases hc9
 refine K2 ?_
 refine s_val rfl rfl (v_quo (q:=366) rfl rfl rfl (by omega) (by decide)) ?_
 refine K3 ?_
 refine w_loop (fun g f w1=>∃ y:Nat,g+y=10000∧1≤y∧y≤9999∧YS (y-1)≤n∧f 0=.int .i64 n∧f 2=.int .i64 y∧Ctx w0 w1 []) (10000-(n / 366+1)) ?_ ?_
 ·
  refine ⟨n / 366+1,by omega,by omega,by omega,?_,rfl,congrArg (Value.int .i64) (by omega),cx⟩
  rw [show n / 366+1-1=n / 366 by omega,YS_val _ (by omega)]
  omega
 intro gk4 f w hJ
 obtain ⟨y,hg,hy1,hy2,hyn,hs0,hs2,cx⟩:=hJ
 refine K1 ?_
 refine Kp ?_
 refine K0 ?_
 refine s_gval rfl rfl rfl wT (fun hc=>v_move rfl hs2) ?_
 refine s_gval rfl rfl rfl wT (fun hc=>v_add rfl gX rfl p0q p0q) ?_
 refine s_gfn cx rfl rfl rfl wT (fun hc=>c339x (y+1) _ (by omega) (by simp only [decide_eq_true_eq] at hc;omega)) Tryz.func339 rfl rfl rfl (fun hc=>cons_eq (gve hc rfl) rfl) ?_;intro q18 w cx hw18 hp18
 obtain ⟨n18,hn18⟩:∃ n:Nat,decide ((y:Int)<9999)=true→q18=.int .i64 n∧n=YS y:=by
  by_cases h:decide ((y:Int)<9999)=true
  · exact ⟨YS y,fun _=>⟨hp18 h,rfl⟩⟩
  · exact ⟨0,fun h2=>absurd h2 h⟩
 refine Ks ?_
 refine s_gval rfl rfl rfl wT (fun hc=>v_cmp rfl ((gve hc rfl).trans (hn18 (by simpa using hc)).1) (gve hc rfl) rfl) ?_
 refine K0 ?_
 refine cSp rfl (fun hc21=>?_) (fun hc21=>?_)
 ·
  obtain ⟨hy9,hys⟩:=hc21
  rw [(hn18 (by simpa using hy9)).2] at hys
  refine K1 ?_
  refine Kp ?_
  refine K1 ?_
  exact ⟨gk4-1,_,by omega,rfl,y+1,by omega,by omega,by omega,by rw [show y+1-1=y by omega];omega,hs0,rfl,cx⟩
 have hlt:n<YS (y-1)+lenF y:=by
  have hYs:YS y=YS (y-1)+lenF y:=by
   obtain ⟨k,rfl⟩:∃ k,y=k+1:=⟨y-1,by omega⟩
   rfl
  rw [← hYs]
  rcases hc21 with h | h
  · have h4:=YS_all
    rw [show y=9999 by omega]
    omega
  · rcases Nat.lt_or_ge y 9999 with h9 | h9
    · rw [(hn18 p26q).2] at h
      omega
    · have h4:=YS_all
      rw [show y=9999 by omega]
      omega
 refine K9 ?_
 refine Kp ?_
 refine s_fn cx (c339x y _ hy1 hy2) Tryz.func339 rfl rfl rfl rfl rfl rfl ?_;intro q26 w cx hw26 hp26
 subst hp26
 refine s_val rfl rfl (v_subQ (r:=((n-YS (y-1):Nat):Int)) rfl rfl rfl (by omega) (by omega) (by omega)) ?_
 refine K6 ?_
 refine w_loop (fun g f w1=>∃ m r:Nat,g+m=13∧1≤m∧m≤12∧r+moF y (m-1)<lenF y∧f 2=.int .i64 y∧f 3=.int .i64 m∧f 6=.int .i64 r∧Ctx w0 w1 []) (12) ?_ ?_
 ·
  exact ⟨1,n-YS (y-1),by omega,by omega,by omega,by show n-YS (y-1)+0<lenF y;omega,hs2,rfl,rfl,cx⟩
 intro gk8 f w hJ
 obtain ⟨m,r,hg,hm1,hm2,hmr,hs2,hs3,hs6,cx⟩:=hJ
 have hll0:=lenF_le y
 refine K11 ?_
 refine Kp ?_
 refine Kr ?_
 refine H23 ?_;intro q31 w cx hw31 hp31
 subst hp31
 refine K0 ?_
 refine cSp rfl (fun hc32=>?_) (fun hc32=>?_)
 ·
  refine K38 ?_
  refine Kp ?_
  refine Kr ?_
  refine H23 ?_;intro q36 w cx hw36 hp36
  subst hp36
  refine s_val rfl rfl (v_subQ (r:=((r-monF y m:Nat):Int)) rfl rfl rfl (by omega) (by omega) (by omega)) ?_
  refine K1f ?_
  have hMs:moF y m=moF y (m-1)+monF y m:=by
   obtain ⟨k,rfl⟩:∃ k,m=k+1:=⟨m-1,by omega⟩
   rfl
  have hm3:m≤11:=by
   exact Bz146
  refine ⟨gk8-1,_,by omega,rfl,m+1,r-monF y m,by omega,by omega,by omega,?_,hs2,rfl,rfl,cx⟩
  rw [show m+1-1=m by omega]
  omega
 refine K1 ?_
 refine Kp ?_
 refine Kr ?_
 refine Kc ?_
 refine K5 ?_
 refine ret_tmp4 Tryz.results363 rfl rfl rfl rfl ?_
 exact ⟨cx.ext,y,m,r+1,_,rfl,by omega,by omega,by omega⟩
theorem c299w (n:Nat)(w0:World)(hn:n≤3652058):Fc Tryz.prog 299 [.int .i64 n] w0 (fun u _=>∃ t:List UInt8,u=.string (bs t)∧t.length≤10):=by
 refine ret_enter Tryz.func299 rfl Tryz.ntmps299 rfl ?_
 have cx:=Ctx.start w0
 refine K5 ?_
 refine s_fn cx (c363w n _ hn) Tryz.func363 rfl rfl rfl rfl rfl rfl ?_;intro q9 w cx hw9 hp9
 obtain ⟨y,m,d,e,rfl,hy,hm,hd⟩:=hp9
 refine K14 ?_
 refine s_fn cx (c364w (y) 4 _ (by omega) (by omega)) Tryz.func364 rfl rfl rfl rfl rfl rfl ?_;intro q15 w cx hw15 hp15
 obtain ⟨t15,rfl,ht15,hz15⟩:=hp15
 refine K99 ?_
 refine SS ?_
 refine s_fn cx (c364w (m) 2 _ (by omega) (by omega)) Tryz.func364 rfl rfl rfl rfl rfl rfl ?_;intro q18 w cx hw18 hp18
 obtain ⟨t18,rfl,ht18,hz18⟩:=hp18
 refine Kt ?_
 refine K99 ?_
 refine SS ?_
 refine s_fn cx (c364w (d) 2 _ (by omega) (by omega)) Tryz.func364 rfl rfl rfl rfl rfl rfl ?_;intro q22 w cx hw22 hp22
 obtain ⟨t22,rfl,ht22,hz22⟩:=hp22
 refine Kt ?_
 refine K1 ?_
 refine ret_tmp Tryz.results299 rfl ?_
 exact Bz5
theorem c222w (k d n z:Int)(w0:World):Fc Tryz.prog 222 [.agg #[.int .i64 k,.int .i64 d,.int .i64 n,.int .i64 z]] w0 (fun u _=>∃ t:List UInt8,u=.string (bs t)∧t.length≤60):=by
 refine ret_enter Tryz.func222 rfl Tryz.ntmps222 rfl ?_
 have cx:=Ctx.start w0
 refine K0 ?_
 refine Hc ?_;intro b1 w cx hb1 hw1
 refine K3 ?_
 refine K90 ?_
 refine s_fnB cx (c219w _ _ _ _ _) Tryz.func219 rfl rfl rfl rfl rfl rfl ?_;intro q4 w cx hw4 hp4
 refine K0 ?_
 refine cSp rfl (fun hc5=>?_) (fun hc5=>?_)
 ·
  refine K3 ?_
  refine ret_tmp Tryz.results222 rfl ?_
  exact ⟨cx.ext,[],rfl,by simp⟩
 obtain ⟨hd0,hd1,hn0,hn1,hz0,hz1⟩:=hp4 (by simpa using hc5)
 refine K2 ?_
 refine K42 ?_
 refine K5v ?_
 refine cSp rfl (fun hc8=>?_) (fun hc8=>?_)
 ·
  refine K0 ?_
  refine K98 ?_
  refine K12 ?_
  refine H24 ?_;intro q12 w cx hw12 hp12
  obtain ⟨td,rfl,htd⟩:=hp12
  exact Bz187
 refine K3 ?_
 refine cSp rfl (fun hc13=>?_) (fun hc13=>?_)
 ·
  refine K0 ?_
  refine K9a ?_
  refine K12 ?_
  refine H25 ?_;intro q17 w cx hw17 hp17
  obtain ⟨tc,rfl,htc⟩:=hp17
  exact Bz187
 refine K3 ?_
 refine cSp rfl (fun hc18=>?_) (fun hc18=>?_)
 ·
  refine SS ?_
  refine w_ord cx (cx.pick1 0 rfl) mixed [(0,20),(1,21),(4,24),(5,25)] #[true,true,false,false,true,true,false,false,false] p1q p1q p1q p1q ?_
  refine pu_one rfl (wnt_none rfl) (fun w cx=>v_fa fa78_1 rfl rfl) ?_
  refine K1z ?_
  refine Kba ?_
  refine K1z ?_
  refine Hv ?_;intro w cx hwD9
  refine K7f ?_
  refine H24 ?_;intro q22 w cx hw22 hp22
  obtain ⟨td,rfl,htd⟩:=hp22
  refine Kd ?_
  refine x_two (i:=3) (j:=6) p1q rfl rfl ?_ ?_
  ·
   refine K5d ?_
   refine Kd ?_
   refine K32 ?_
   refine H25 ?_;intro q26 w cx hw26 hp26
   obtain ⟨tc,rfl,htc⟩:=hp26
   refine Kg ?_
   exact Bz171
  refine H25 ?_;intro q26 w cx hw26 hp26
  obtain ⟨tc,rfl,htc⟩:=hp26
  refine Kg ?_
  refine x_one (i:=3) p1q rfl ?_
  refine K5d ?_
  refine Kd ?_
  exact Bz171
 refine K0 ?_
 refine w_ord cx (cx.pick1 0 rfl) mixed [(0,28),(1,29),(4,32),(5,33),(8,36),(9,37)] #[true,true,false,false,true,true,false,false,true,true,false,false,false] p1q p1q p1q p1q ?_
 refine pu_one rfl (wnt_none rfl) (fun w cx=>v_fa fa78_1 rfl rfl) ?_
 refine K1z ?_
 refine Kba ?_
 refine K1z ?_
 refine pu_one rfl (wnt_none rfl) (fun w cx=>v_fa fa78_3 rfl rfl) ?_
 refine K1z ?_
 refine Hv ?_;intro w cx hwD10
 refine K7f ?_
 refine H24 ?_;intro q30 w cx hw30 hp30
 obtain ⟨td,rfl,htd⟩:=hp30
 refine Kd ?_
 refine x_two (i:=3) (j:=6) p1q rfl rfl ?_ ?_
 ·
  refine K5d ?_
  refine Kd ?_
  refine K32 ?_
  refine H25 ?_;intro q34 w cx hw34 hp34
  obtain ⟨tc,rfl,htc⟩:=hp34
  exact Bz165
 refine H25 ?_;intro q34 w cx hw34 hp34
 obtain ⟨tc,rfl,htc⟩:=hp34
 refine Kd ?_
 refine x_two (i:=3) (j:=10) p1q rfl rfl ?_ ?_
 ·
  refine K5d ?_
  exact Bz165
 refine H7 ?_;intro q38 w cx hw38 hp38
 obtain ⟨tz,rfl,htz⟩:=hp38
 refine Kg ?_
 refine x_one (i:=3) p1q rfl ?_
 refine K5d ?_
 refine Kd ?_
 exact Bz202
theorem c224w (s:Value)(l:List UInt8)(pad:Bool)(w0:World)(hs:SlR w0 s l.length (l.map bv))(hl:l.length≤3000000):Fc Tryz.prog 224 [s,.bool pad] w0 (fun u _=>∃ t:List UInt8,u=.string (bs t)∧t.length≤2*l.length+4):=by
 obtain ⟨ba,bc,bb,rfl,hbc,hb⟩:=hs.form2
 refine ret_enter Tryz.func224 rfl Tryz.ntmps224 rfl ?_
 have cx:=Ctx.start w0
 refine K13 ?_
 refine w_loop (fun g f w1=>∃ (i:Nat) (t:List UInt8) (v5:Value),g+i=l.length+2∧3*t.length≤4*i∧f 0=.slice ba l.length bc∧f 1=.bool pad∧f 5=v5∧f 6=.int .i64 i∧Cxr w0 w1 [] [⟨5,1,v5,t.length,t.map bv⟩]) (l.length+2) ?_ ?_
 ·
  exact Ezg
 intro gk3 f w hJ
 obtain ⟨i,t,v5,hg,ht,hs0,hs1,hs5,hs6,cx⟩:=hJ
 refine K11 ?_
 refine Kb ?_
 refine K4c ?_
 refine K0 ?_
 refine cSp rfl (fun hc14=>?_) (fun hc14=>?_)
 ·
  obtain rfl:ba=some ⟨bb,0,none⟩:=(hb (by omega)).1
  refine K19 ?_
  refine K4c ?_
  refine Kc ?_
  refine SS ?_
  obtain ⟨m0,hm0⟩:∃ m0:Nat,m0=min 3 (l.length-i):=⟨_,rfl⟩
  refine s_val rfl rfl (v_minI (r:=(m0:Int)) rfl rfl rfl (by omega)) ?_
  refine Ko ?_
  refine w_loop (fun g f w1=>∃ (k wd:Nat),g+k=3∧wd<256^k∧f 0=.slice (some ⟨bb,0,none⟩) l.length bc∧f 1=.bool pad∧f 5=v5∧f 6=.int .i64 i∧f 7=.int .i64 m0∧f 8=.int .i64 wd∧f 22=.int .i64 k∧Cxr w0 w1 [] [⟨5,1,v5,t.length,t.map bv⟩]) (3) ?_ ?_
  ·
   exact ⟨0,0,by omega,by decide,hs0,hs1,hs5,hs6,rfl,rfl,rfl,cx⟩
  intro gk8 f w hJ
  obtain ⟨k,wd,hgk,hwd,hs0,hs1,hs5,hs6,hs7,hs8,hs22,cx⟩:=hJ
  have hpw:256^k≤256^3:=Nat.pow_le_pow_right (by decide) (by omega)
  have hp3:256^3=16777216:=by decide
  refine K0 ?_
  refine s_val rfl rfl (v_cmp rfl hs22 rfl rfl) ?_
  refine K0 ?_
  refine cSp rfl (fun hc23=>?_) (fun hc23=>?_)
  ·
   refine SS ?_
   refine w_cut (fun f w1=>∃ wd3:Nat,wd3<256^(k+1)∧f 0=.slice (some ⟨bb,0,none⟩) l.length bc∧f 1=.bool pad∧f 5=v5∧f 6=.int .i64 i∧f 7=.int .i64 m0∧f 8=.int .i64 wd3∧f 22=.int .i64 k∧Cxr w0 w1 [] [⟨5,1,v5,t.length,t.map bv⟩]) ?_ ?_
   ·
    refine K1 ?_
    refine s_val rfl rfl (v_move rfl hs22) ?_
    refine K67 ?_
    refine s_val rfl rfl ((show (execOp _ _).run _ _=.ok (.value (.int .i64 (((wd*256):Nat):Int))) _ from (v_shl rfl rfl rfl (by decide)).trans (by rw [show Int.toNat 8=8 from rfl,shl8 (by omega)]))) ?_
    refine K3 ?_
    refine K66 ?_
    refine cSp rfl (fun hc29=>?_) (fun hc29=>?_)
    ·
     refine Km ?_
     refine Kc ?_
     refine K0 ?_
     refine K3f ?_
     refine s_val rfl rfl (v_load1 rfl rfl Tryz.underlying5 rfl (((((hb (by omega)).2.one (x:=bv (l.getD (i+k) 0)) (by rw [List.getElem?_map,getD_some (by omega)];rfl)).up cx.ext)).cell 0 rfl)) ?_
     refine K82 ?_
     refine s_val rfl rfl ((show (execOp _ _).run _ _=.ok (.value (.int .i64 (((wd*256+(l.getD (i+k) 0).toNat):Nat):Int))) _ from (v_bor rfl rfl rfl).trans (by rw [or_add8 (r:=wd) (by omega) (UInt8.toNat_lt _)]))) ?_
     refine K0 ?_
     exact Bz70
    refine SS ?_
    exact Bz70
   intro f w hJ
   obtain ⟨wd3,hwd3,hs0,hs1,hs5,hs6,hs7,hs8,hs22,cx⟩:=hJ
   refine SS ?_
   refine s_val rfl rfl (v_add rfl hs22 rfl (by omega) (by omega)) ?_
   refine K0 ?_
   exact ⟨gk8-1,_,by omega,rfl,k+1,wd3,by omega,hwd3,hs0,hs1,hs5,hs6,hs7,hs8,rfl,cx⟩
  refine K4 ?_
  refine w_loop (fun g f w1=>∃ (k:Nat) (t2:List UInt8) (v5:Value),g+k=4∧t2.length≤t.length+k∧f 0=.slice (some ⟨bb,0,none⟩) l.length bc∧f 1=.bool pad∧f 5=v5∧f 6=.int .i64 i∧f 7=.int .i64 m0∧f 8=.int .i64 wd∧f 40=.int .i64 k∧Cxr w0 w1 [] [⟨5,1,v5,t2.length,t2.map bv⟩]) (4) ?_ ?_
  ·
   exact ⟨0,t,_,by omega,by omega,hs0,hs1,hs5,hs6,hs7,hs8,rfl,cx⟩
  intro gk15 f w hJ
  obtain ⟨k,t2,v5,hgk,ht2,hs0,hs1,hs5,hs6,hs7,hs8,hs40,cx⟩:=hJ
  refine K0 ?_
  refine s_val rfl rfl (v_cmp rfl hs40 rfl rfl) ?_
  refine K0 ?_
  refine cSp rfl (fun hc41=>?_) (fun hc41=>?_)
  ·
   refine SS ?_
   refine w_cut (fun f w1=>∃ (t3:List UInt8) (v5:Value),t3.length≤t2.length+1∧f 0=.slice (some ⟨bb,0,none⟩) l.length bc∧f 1=.bool pad∧f 5=v5∧f 6=.int .i64 i∧f 7=.int .i64 m0∧f 8=.int .i64 wd∧f 40=.int .i64 k∧Cxr w0 w1 [] [⟨5,1,v5,t3.length,t3.map bv⟩]) ?_ ?_
   ·
    refine K1 ?_
    refine s_val rfl rfl (v_move rfl hs40) ?_
    refine K4 ?_
    refine Kk ?_
    refine K1 ?_
    refine cSp rfl (fun hc43=>?_) (fun hc43=>?_)
    ·
     refine SS ?_
     refine Kh ?_
     refine Kv ?_
     refine K0 ?_
     refine s_val rfl rfl (v_subQ (r:=((18-6*k:Nat):Int)) rfl rfl rfl (by omega) (by omega) (by omega)) ?_
     refine s_val rfl rfl ((show (execOp _ _).run _ _=.ok (.value (.int .i64 (((wd / 2^(18-6*k)):Nat):Int))) _ from (v_shr rfl rfl rfl (by omega)).trans (by rw [Int.toNat_natCast,shrN _ (by omega)]))) ?_
     refine s_val rfl rfl ((show (execOp _ _).run _ _=.ok (.value (.int .i64 (((wd / 2^(18-6*k)%64):Nat):Int))) _ from (v_band rfl rfl rfl).trans (by rw [and63N (by have:=Nat.div_le_self wd (2^(18-6*k));omega)]))) ?_
     refine s_val rfl rfl (v_idxB (s:=[65,66,67,68,69,70,71,72,73,74,75,76,77,78,79,80,81,82,83,84,85,86,87,88,89,90,97,98,99,100,101,102,103,104,105,106,107,108,109,110,111,112,113,114,115,116,117,118,119,120,121,122,48,49,50,51,52,53,54,55,56,57,43,47]) rfl rfl rfl Tryz.underlying9 (by omega) p1bq) ?_
     refine He ?_;intro b55 w cx hb55 hw55
     refine Hf ?_;intro v56 w cx hgr56
     replace cx:=cx.drop 1
     refine K0 ?_
     exact Bz33
    refine K0 ?_
    refine K2q ?_
    refine cSp rfl (fun hc57=>?_) (fun hc57=>?_)
    ·
     refine SS ?_
     refine Kh ?_
     refine He ?_;intro b60 w cx hb60 hw60
     refine Hf ?_;intro v61 w cx hgr61
     replace cx:=cx.drop 1
     refine K0 ?_
     exact Bz33
    refine SS ?_
    exact Bz33
   intro f w hJ
   obtain ⟨t3,v5,ht3,hs0,hs1,hs5,hs6,hs7,hs8,hs40,cx⟩:=hJ
   refine SS ?_
   refine s_val rfl rfl (v_add rfl hs40 rfl (by omega) (by omega)) ?_
   refine K0 ?_
   exact ⟨gk15-1,_,by omega,rfl,k+1,t3,v5,by omega,by omega,hs0,hs1,hs5,hs6,hs7,hs8,rfl,cx⟩
  refine K6b ?_
  exact ⟨l.length+2-(i+3),_,by omega,rfl,i+3,t2,_,by omega,by omega,hs0,hs1,hs5,rfl,cx⟩
 refine Kf ?_
 refine K6g ?_
 refine ret_tmp Tryz.results224 rfl ?_
 exact ⟨cx.ext,t,rfl,by omega⟩
def WRV (D:Nat):Prop:=∀ (wb w0:World) (b:Nat) (L:List (Nat×Obj)) (R:List Row) (l:List UInt8) (v:V) (cells:List Value) (h:BCx 245 wb w0 b L R l) (hrr:RR 83 133 R v cells),Dp D v→vs D v≤2200000→l.length+400*vs D v≤1073741824→Ret Tryz.prog 155 [.pointer (some ⟨b,0,none⟩),.agg cells.toArray] w0 (fun u w'=>u=.tuple #[]∧∃ t:List UInt8,t.length+8≤400*vs D v∧BCx 245 wb w' b L R (l++t))
theorem c155s (D:Nat)(ih:WRV D)(wb w0:World)(b:Nat)(L:List (Nat×Obj))(R:List Row)(l:List UInt8)(v:V)(cells:List Value)(h:BCx 245 wb w0 b L R l)(hrr:RR 83 133 R v cells)(hD:Dp (D+1) v)(hz:vs (D+1) v≤2200000)(hll:l.length+400*vs (D+1) v≤1073741824):Ret Tryz.prog 155 [.pointer (some ⟨b,0,none⟩),.agg cells.toArray] w0 (fun u w'=>u=.tuple #[]∧∃ t:List UInt8,t.length+8≤400*vs (D+1) v∧BCx 245 wb w' b L R (l++t)):=by
 have hown:=vs_own hD
 have hlen:=vs_lens hD
 have hsum:=vs_sums (D:=D) v
 have hgs:=Dp_gs hD
 have hct:=cqt_le v.sc.text
 obtain ⟨a,vb,cx0,ha⟩:=h
 obtain ⟨ba,bc,la,lc,lb,fa,fc,fb,rfl,hbb,hl1,hl2,hf1,hf2⟩:=hrr.formL (cx0.dropR 1)
 refine ret_enter Tryz.func155 rfl Tryz.ntmps155 rfl ?_
 have cx:=cx0
 refine K0 ?_
 refine Hc ?_;intro b3 w cx hb3 hw3
 refine K1 ?_
 refine K6n ?_
 refine cSp rfl (fun hc10=>?_) (fun hc10=>?_)
 ·
  refine K0 ?_
  have h:=(⟨_,_,cx.swapL,ha⟩:BCx 245 wb w b _ R _)
  refine s_call (c197 wb _ b _ R _ [110,117,108,108] h p3q) Tryz.func197 rfl rfl rfl rfl rfl rfl ?_;rintro q13 w ⟨⟨n13,rfl⟩,h⟩
  obtain ⟨a,vb,cx,ha⟩:=h
  replace cx:=cx.swapL
  refine K2g ?_
  exact ⟨rfl,[110,117,108,108],by (try simp only [List.length_append,List.length_cons,List.length_nil]);omega,a,vb,(cx.drop 1).row_eq (by simp) (by simp),ha⟩
 refine K3 ?_
 refine cSp rfl (fun hc14=>?_) (fun hc14=>?_)
 ·
  refine K0 ?_
  refine s_val rfl rfl (v_fa fa83_1 rfl rfl) ?_
  refine K4v ?_
  refine cSp rfl (fun hc17=>?_) (fun hc17=>?_)
  ·
   refine K0 ?_
   have h:=(⟨_,_,cx.swapL,ha⟩:BCx 245 wb w b _ R _)
   refine s_call (c197 wb _ b _ R _ [116,114,117,101] h p3q) Tryz.func197 rfl rfl rfl rfl rfl rfl ?_;rintro q19 w ⟨⟨n19,rfl⟩,h⟩
   obtain ⟨a,vb,cx,ha⟩:=h
   replace cx:=cx.swapL
   refine K2g ?_
   exact ⟨rfl,[116,114,117,101],by (try simp only [List.length_append,List.length_cons,List.length_nil]);omega,a,vb,(cx.drop 1).row_eq (by simp) (by simp),ha⟩
  refine K0 ?_
  have h:=(⟨_,_,cx.swapL,ha⟩:BCx 245 wb w b _ R _)
  refine s_call (c197 wb _ b _ R _ [102,97,108,115,101] h p3q) Tryz.func197 rfl rfl rfl rfl rfl rfl ?_;rintro q21 w ⟨⟨n21,rfl⟩,h⟩
  obtain ⟨a,vb,cx,ha⟩:=h
  replace cx:=cx.swapL
  refine K2g ?_
  exact ⟨rfl,[102,97,108,115,101],by (try simp only [List.length_append,List.length_cons,List.length_nil]);omega,a,vb,(cx.drop 1).row_eq (by simp) (by simp),ha⟩
 refine K3 ?_
 refine cSp rfl (fun hc22=>?_) (fun hc22=>?_)
 ·
  refine K0 ?_
  refine K95 ?_
  refine Kb5 ?_
  refine s_fn cx (c221w _ _ _ _ (by omega) hgs.1 hgs.2) Tryz.func221 rfl rfl rfl rfl rfl rfl ?_;intro q27 w cx hw27 hp27
  obtain ⟨t27,rfl,ht27⟩:=hp27
  have h:=(⟨_,_,cx.swapL,ha⟩:BCx 245 wb w b _ R _)
  refine s_call (c197 wb _ b _ R _ t27 h p3q) Tryz.func197 rfl rfl rfl rfl rfl rfl ?_;rintro q28 w ⟨⟨n28,rfl⟩,h⟩
  obtain ⟨a,vb,cx,ha⟩:=h
  replace cx:=cx.swapL
  refine K2g ?_
  exact ⟨rfl,t27,by (try simp only [List.length_append,List.length_cons,List.length_nil]);omega,a,vb,(cx.drop 1).row_eq (by simp) (by simp),ha⟩
 refine K3 ?_
 refine cSp rfl (fun hc29=>?_) (fun hc29=>?_)
 ·
  refine K0 ?_
  refine s_val rfl rfl (v_fa fa83_3 rfl rfl) ?_
  refine Kdy ?_
  refine s_fn cx (c222w _ _ _ _ _) Tryz.func222 rfl rfl rfl rfl rfl rfl ?_;intro q34 w cx hw34 hp34
  obtain ⟨t34,rfl,ht34⟩:=hp34
  refine s_val rfl rfl (v_strAddB (a:=[116,34]) rfl rfl rfl p2q) ?_
  refine s_val rfl rfl (v_strAddB (b:=[34]) rfl rfl rfl p2q) ?_
  have h:=(⟨_,_,cx.swapL,ha⟩:BCx 245 wb w b _ R _)
  refine H26 ?_;rintro q37 w ⟨⟨n37,rfl⟩,h⟩
  obtain ⟨a,vb,cx,ha⟩:=h
  replace cx:=cx.swapL
  refine K2g ?_
  exact ⟨rfl,[116,34]++t34++[34],by (try simp only [List.length_append,List.length_cons,List.length_nil]);omega,a,vb,(cx.drop 1).row_eq (by simp) (by simp),ha⟩
 refine K3 ?_
 refine cSp rfl (fun hc38=>?_) (fun hc38=>?_)
 ·
  refine K6o ?_
  have h:=(⟨_,_,cx.swapL,ha⟩:BCx 245 wb w b _ R _)
  refine s_call (c223 wb _ b _ R _ v.sc.text h p3q (by omega)) Tryz.func223 rfl rfl rfl rfl rfl rfl ?_;rintro q43 w ⟨rfl,h⟩
  obtain ⟨a,vb,cx,ha⟩:=h
  replace cx:=cx.swapL
  refine K2g ?_
  exact ⟨rfl,cqt v.sc.text,by (try simp only [List.length_append,List.length_cons,List.length_nil]);omega,a,vb,(cx.drop 1).row_eq (by simp) (by simp),ha⟩
 refine K3 ?_
 refine cSp rfl (fun hc44=>?_) (fun hc44=>?_)
 ·
  refine K0 ?_
  refine K5e ?_
  refine K9c ?_
  refine s_fn cx (c224w _ v.bytes true _ (LR.slr (cx.dropR 1) hbb (by omega)) (by omega)) Tryz.func224 rfl rfl rfl rfl rfl rfl ?_;intro q49 w cx hw49 hp49
  obtain ⟨t49,rfl,ht49⟩:=hp49
  refine s_val rfl rfl (v_strAddB (a:=[98,34]) rfl rfl rfl p2q) ?_
  refine s_val rfl rfl (v_strAddB (b:=[34]) rfl rfl rfl p2q) ?_
  have h:=(⟨_,_,cx.swapL,ha⟩:BCx 245 wb w b _ R _)
  refine H26 ?_;rintro q52 w ⟨⟨n52,rfl⟩,h⟩
  obtain ⟨a,vb,cx,ha⟩:=h
  replace cx:=cx.swapL
  refine K2g ?_
  exact ⟨rfl,[98,34]++t49++[34],by (try simp only [List.length_append,List.length_cons,List.length_nil]);omega,a,vb,(cx.drop 1).row_eq (by simp) (by simp),ha⟩
 refine K3 ?_
 refine cSp rfl (fun hc53=>?_) (fun hc53=>?_)
 ·
  refine K1 ?_
  have h:=(⟨_,_,cx.swapL,ha⟩:BCx 245 wb w b _ R _)
  refine s_call (c225 wb _ b _ R _ 91 h (by decide) (by decide) p3q) Tryz.func225 rfl rfl rfl rfl rfl rfl ?_;rintro q56 w ⟨rfl,h⟩
  obtain ⟨a,vb,cx,ha⟩:=h
  replace cx:=cx.swapL
  refine K2 ?_
  refine K33 ?_
  refine K3n ?_
  refine K2 ?_
  refine w_loop (fun g f1 w1=>∃ (i b3:Nat) (t:List UInt8) (a vb:Value),g+i=v.list.length∧t.length≤1+400*((v.list.take i).map (vs D)).sum∧f1 0=.pointer (some ⟨b,0,none⟩)∧f1 3=.pointer (some ⟨b3,0,none⟩)∧f1 58=.slice la v.list.length lc∧f1 59=.int .i64 v.list.length∧f1 60=.int .i64 i∧(a=.pointer none∨a=.pointer (some ⟨b,0,none⟩))∧Cxr wb w1 ((b3,.cells (vrow v.sc (.slice ba v.bytes.length bc) (.slice la v.list.length lc) (.slice fa v.fields.length fc)).toArray 83)::(b,.cells ([a,vb]:List Value).toArray 245)::L) (⟨5,1,vb,(l++t).length,List.map bv (l++t)⟩::R)) (v.list.length) ?_ ?_
  ·
   exact ⟨0,_,[91],a,vb,by omega,by simp,rfl,rfl,rfl,rfl,rfl,ha,cx⟩
  intro gk19 f w hJ
  obtain ⟨i,b3,t,a,vb,hg,htb,hs0,hs3,hs58,hs59,hs60,ha,cx⟩:=hJ
  have htl0:=take_sum_le v.list (vs D) i
  refine K0 ?_
  refine s_val rfl rfl (v_cmp rfl hs60 hs59 rfl) ?_
  refine K0 ?_
  refine cSp rfl (fun hc61=>?_) (fun hc61=>?_)
  ·
   obtain ⟨x,hx⟩:∃ x,v.list[i]?=some x:=⟨v.list[i]'(by omega),List.getElem?_eq_getElem _⟩
   have hla:=hl1 (by omega)
   subst hla
   obtain ⟨xcs,hrx,hrow⟩:=hl2 i x hx
   obtain ⟨xb,xl,xf,rfl,xo1,xo2,xo3⟩:=hrx.form (cx.dropR 1)
   have hdx:=vs_list hD (List.mem_of_getElem? hx)
   have hts:=take_sum (f:=vs D) hx
   have htl:=take_sum_le v.list (vs D) (i+1)
   refine K3 ?_
   refine s_val rfl rfl (v_move rfl hs60) ?_
   refine s_val rfl rfl (v_ia Tryz.underlying80 sz83 rfl hs58 hs60 (by omega) (by omega)) ?_
   refine s_val rfl rfl (v_load rfl rfl Tryz.underlying83 rfl sz83 ((hrow _ _ _ (cx.dropR 1))) rfl) ?_
   refine Hx ?_;intro b5 w cx hb5 hw5
   refine SS ?_
   refine s_storeAll cx 0 rfl rfl rfl rfl rfl rfl sz83 rfl (vrow_one xo1 xo2 xo3) ?_;intro w cx hwS20
   refine SS ?_
   refine w_cut (fun f1 w1=>∃ (b3 b5:Nat) (t:List UInt8) (a vb:Value),t.length≤2+400*((v.list.take i).map (vs D)).sum∧f1 0=.pointer (some ⟨b,0,none⟩)∧f1 3=.pointer (some ⟨b3,0,none⟩)∧f1 5=.pointer (some ⟨b5,0,none⟩)∧f1 58=.slice (some ⟨lb,0,none⟩) v.list.length lc∧f1 59=.int .i64 v.list.length∧f1 60=.int .i64 i∧(a=.pointer none∨a=.pointer (some ⟨b,0,none⟩))∧Cxr wb w1 ((b5,.cells (vrow x.sc xb xl xf).toArray 83)::(b3,.cells (vrow v.sc (.slice ba v.bytes.length bc) (.slice (some ⟨lb,0,none⟩) v.list.length lc) (.slice fa v.fields.length fc)).toArray 83)::(b,.cells ([a,vb]:List Value).toArray 245)::L) (⟨5,1,vb,(l++t).length,List.map bv (l++t)⟩::R)) ?_ ?_
   ·
    refine K3 ?_
    refine cSp rfl (fun hc66=>?_) (fun hc66=>?_)
    ·
     refine K1g ?_
     have h:=(⟨_,_,cx.swap3,ha⟩:BCx 245 wb w b _ R _)
     refine H27 ?_;rintro q68 w ⟨rfl,h⟩
     obtain ⟨a,vb,cx,ha⟩:=h
     replace cx:=cx.swap3b
     refine SS ?_
     exact Bz57
    refine SS ?_
    exact Bz57
   intro f w hJ
   obtain ⟨b3,b5,t,a,vb,htb,hs0,hs3,hs5,hs58,hs59,hs60,ha,cx⟩:=hJ
   refine K1g ?_
   refine Kbp ?_
   have h:=(⟨_,_,cx.swap3,ha⟩:BCx 245 wb w b _ R _)
   refine s_call (ih wb _ b _ R _ x _ h hrx hdx.1 (by omega) p3q) Tryz.func155 rfl rfl rfl rfl rfl rfl ?_;rintro q71 w ⟨rfl,tx,htx,h⟩
   obtain ⟨a,vb,cx,ha⟩:=h
   replace cx:=cx.swap3b
   refine K0 ?_
   refine s_val rfl rfl (v_add rfl hs60 rfl (by omega) (by omega)) ?_
   refine K0 ?_
   exact ⟨gk19-1,_,by omega,rfl,i+1,b3,t++tx,a,vb,by omega,by simp only [List.length_append];omega,hs0,hs3,hs58,hs59,rfl,ha,(cx.drop 1).row_eq (by simp only [List.length_append];omega) (by simp only [List.append_assoc])⟩
  refine Km ?_
  have h:=(⟨_,_,cx.swapL,ha⟩:BCx 245 wb w b _ R _)
  refine s_call (c225 wb _ b _ R _ 93 h (by decide) (by decide) p3q) Tryz.func225 rfl rfl rfl rfl rfl rfl ?_;rintro q74 w ⟨rfl,h⟩
  obtain ⟨a,vb,cx,ha⟩:=h
  replace cx:=cx.swapL
  refine K2g ?_
  exact ⟨rfl,t++[93],by simp only [List.length_append,List.length_cons,List.length_nil];omega,a,vb,(cx.drop 1).row_eq (by simp) (by simp;try rfl),ha⟩
 refine K3 ?_
 refine cSp rfl (fun hc75=>?_) (fun hc75=>?_)
 ·
  refine K1 ?_
  have h:=(⟨_,_,cx.swapL,ha⟩:BCx 245 wb w b _ R _)
  refine s_call (c225 wb _ b _ R _ 123 h (by decide) (by decide) p3q) Tryz.func225 rfl rfl rfl rfl rfl rfl ?_;rintro q78 w ⟨rfl,h⟩
  obtain ⟨a,vb,cx,ha⟩:=h
  replace cx:=cx.swapL
  refine K6p ?_
  refine K2 ?_
  refine w_loop (fun g f1 w1=>∃ (i b3:Nat) (t:List UInt8) (a vb:Value),g+i=v.fields.length∧t.length≤1+400*((v.fields.take i).map fun kv:ByteArray×V=>kv.1.size+vs D kv.2).sum∧f1 0=.pointer (some ⟨b,0,none⟩)∧f1 3=.pointer (some ⟨b3,0,none⟩)∧f1 80=.slice fa v.fields.length fc∧f1 81=.int .i64 v.fields.length∧f1 82=.int .i64 i∧(a=.pointer none∨a=.pointer (some ⟨b,0,none⟩))∧Cxr wb w1 ((b3,.cells (vrow v.sc (.slice ba v.bytes.length bc) (.slice la v.list.length lc) (.slice fa v.fields.length fc)).toArray 83)::(b,.cells ([a,vb]:List Value).toArray 245)::L) (⟨5,1,vb,(l++t).length,List.map bv (l++t)⟩::R)) (v.fields.length) ?_ ?_
  ·
   exact ⟨0,_,[123],a,vb,by omega,by simp,rfl,rfl,rfl,rfl,rfl,ha,cx⟩
  intro gk29 f w hJ
  obtain ⟨i,b3,t,a,vb,hg,htb,hs0,hs3,hs80,hs81,hs82,ha,cx⟩:=hJ
  have htl0:=take_sum_le v.fields (fun kv:ByteArray×V=>kv.1.size+vs D kv.2) i
  refine K0 ?_
  refine s_val rfl rfl (v_cmp rfl hs82 hs81 rfl) ?_
  refine K0 ?_
  refine cSp rfl (fun hc83=>?_) (fun hc83=>?_)
  ·
   obtain ⟨kv,hx⟩:∃ x,v.fields[i]?=some x:=⟨v.fields[i]'(by omega),List.getElem?_eq_getElem _⟩
   have hfa:=hf1 (by omega)
   subst hfa
   obtain ⟨xcs,hrx,hrow⟩:=hf2 i kv hx
   obtain ⟨xb,xl,xf,rfl,xo1,xo2,xo3⟩:=hrx.form (cx.dropR 1)
   have hdx:=vs_field hD (List.mem_of_getElem? hx)
   have hts:=take_sum (f:=fun kv:ByteArray×V=>kv.1.size+vs D kv.2) hx
   have htl:=take_sum_le v.fields (fun kv:ByteArray×V=>kv.1.size+vs D kv.2) (i+1)
   have hck:=cqt_le kv.1
   refine K3 ?_
   refine s_val rfl rfl (v_move rfl hs82) ?_
   refine s_val rfl rfl (v_ia Tryz.underlying81 sz133 rfl hs80 hs82 (by omega) (by omega)) ?_
   refine s_val rfl rfl (v_load rfl rfl Tryz.underlying133 rfl sz133 ((hrow _ _ _ (cx.dropR 1))) rfl) ?_
   refine H11 ?_;intro b7 w cx hb7 hw7
   refine SS ?_
   refine s_storeAll cx 0 rfl rfl rfl rfl rfl rfl sz133 rfl (fone (vrow_one xo1 xo2 xo3)) ?_;intro w cx hwS30
   refine SS ?_
   refine w_cut (fun f1 w1=>∃ (b3 b5:Nat) (t:List UInt8) (a vb:Value),t.length≤2+400*((v.fields.take i).map fun kv:ByteArray×V=>kv.1.size+vs D kv.2).sum∧f1 0=.pointer (some ⟨b,0,none⟩)∧f1 3=.pointer (some ⟨b3,0,none⟩)∧f1 7=.pointer (some ⟨b5,0,none⟩)∧f1 80=.slice (some ⟨fb,0,none⟩) v.fields.length fc∧f1 81=.int .i64 v.fields.length∧f1 82=.int .i64 i∧(a=.pointer none∨a=.pointer (some ⟨b,0,none⟩))∧Cxr wb w1 ((b5,.cells (Value.string kv.1::vrow kv.2.sc xb xl xf).toArray 133)::(b3,.cells (vrow v.sc (.slice ba v.bytes.length bc) (.slice la v.list.length lc) (.slice (some ⟨fb,0,none⟩) v.fields.length fc)).toArray 83)::(b,.cells ([a,vb]:List Value).toArray 245)::L) (⟨5,1,vb,(l++t).length,List.map bv (l++t)⟩::R)) ?_ ?_
   ·
    refine K3 ?_
    refine cSp rfl (fun hc88=>?_) (fun hc88=>?_)
    ·
     refine K1g ?_
     have h:=(⟨_,_,cx.swap3,ha⟩:BCx 245 wb w b _ R _)
     refine H27 ?_;rintro q90 w ⟨rfl,h⟩
     obtain ⟨a,vb,cx,ha⟩:=h
     replace cx:=cx.swap3b
     refine SS ?_
     exact Bz58
    refine SS ?_
    exact Bz58
   intro f w hJ
   obtain ⟨b3,b5,t,a,vb,htb,hs0,hs3,hs7,hs80,hs81,hs82,ha,cx⟩:=hJ
   refine Km ?_
   refine s_val rfl rfl (v_fa fa133_0 rfl hs7) ?_
   refine K15 ?_
   have h:=(⟨_,_,cx.swap3,ha⟩:BCx 245 wb w b _ R _)
   refine s_call (c223 wb _ b _ R _ kv.1 h p3q (by omega)) Tryz.func223 rfl rfl rfl rfl rfl rfl ?_;rintro q94 w ⟨rfl,h⟩
   obtain ⟨a,vb,cx,ha⟩:=h
   replace cx:=cx.swap3b
   refine K9 ?_
   have h:=(⟨_,_,cx.swap3,ha⟩:BCx 245 wb w b _ R _)
   refine s_call (c225 wb _ b _ R _ 58 h (by decide) (by decide) p3q) Tryz.func225 rfl rfl rfl rfl rfl rfl ?_;rintro q96 w ⟨rfl,h⟩
   obtain ⟨a,vb,cx,ha⟩:=h
   replace cx:=cx.swap3b
   refine Km ?_
   refine s_val rfl rfl (v_fa fa133_1 rfl hs7) ?_
   refine Kf3 ?_
   have h:=(⟨_,_,cx.swap3,ha⟩:BCx 245 wb w b _ R _)
   refine s_call (ih wb _ b _ R _ kv.2 _ h hrx hdx.1 (by omega) p3q) Tryz.func155 rfl rfl rfl rfl rfl rfl ?_;rintro q100 w ⟨rfl,tx,htx,h⟩
   obtain ⟨a,vb,cx,ha⟩:=h
   replace cx:=cx.swap3b
   refine K0 ?_
   refine s_val rfl rfl (v_add rfl hs82 rfl (by omega) (by omega)) ?_
   refine K0 ?_
   exact ⟨gk29-1,_,by omega,rfl,i+1,b3,t++cqt kv.1++[58]++tx,a,vb,by omega,by simp only [List.length_append,List.length_cons,List.length_nil];omega,hs0,hs3,hs80,hs81,rfl,ha,(cx.drop 1).row_eq p5q (by simp only [List.append_assoc,List.map_append];rfl)⟩
  refine Km ?_
  have h:=(⟨_,_,cx.swapL,ha⟩:BCx 245 wb w b _ R _)
  refine s_call (c225 wb _ b _ R _ 125 h (by decide) (by decide) p3q) Tryz.func225 rfl rfl rfl rfl rfl rfl ?_;rintro q103 w ⟨rfl,h⟩
  obtain ⟨a,vb,cx,ha⟩:=h
  replace cx:=cx.swapL
  refine K2g ?_
  exact ⟨rfl,t++[125],by simp only [List.length_append,List.length_cons,List.length_nil];omega,a,vb,(cx.drop 1).row_eq (by simp) (by simp;try rfl),ha⟩
 refine K2g ?_
 exact ⟨rfl,[],by (try simp only [List.length_append,List.length_cons,List.length_nil]);omega,a,vb,(cx.drop 1).row_eq (by simp) (by simp),ha⟩
theorem c155w:∀ D,WRV D
 | 0=>fun wb w0 b L R l v cells h hrr h0=>h0.elim
 | D+1=>fun wb w0 b L R l v cells h hrr hD hz hl=>c155s D (c155w D) wb w0 b L R l v cells h hrr hD hz hl
theorem c98w (D:Nat)(v:V)(cells:List Value)(w0:World)(hv:Vw w0 v cells)(hD:Dp D v)(hz:vs D v≤2200000)(hd:D≤65536):Fc Tryz.prog 98 [.agg cells.toArray] w0 (fun u _=>∃ t:List UInt8,u=.string (bs t)):=by
 refine ret_enter Tryz.func98 rfl Tryz.ntmps98 rfl ?_
 have cx:=Ctx.start w0
 refine K0 ?_
 refine Hc ?_;intro b1 w cx hb1 hw1
 refine K2 ?_
 refine s_alloc cx z245 rfl rfl rfl ?_;intro b3 w cx hb3 hw3
 refine K1 ?_
 refine K9v ?_
 have cxB:=cx
 refine s_call (c156w D v cells _ (hv.up cx.ext) hD hz hd) Tryz.func156 rfl rfl rfl rfl rfl rfl ?_;rintro v5 w ⟨v',cs3,rs3,rfl,cxr,hrt3,hD3,hz3⟩
 replace cx:=cxB.callRows cxr
 rw [List.append_nil] at cx
 refine s_call (c155w D w0 _ _ _ rs3 [] v' cs3 ⟨_,_,cx.nilRow 5 1,.inl rfl⟩ hrt3.rr hD3 (by omega) (by rw [hz3,List.length_nil];omega)) Tryz.func155 rfl rfl rfl rfl rfl rfl ?_;rintro q6 w ⟨rfl,t6,ht6,h6⟩
 obtain ⟨a6,v6,cx,ha6⟩:=h6
 refine K1 ?_
 refine s_call (str_any cx ha6) Tryz.func157 rfl rfl rfl rfl rfl rfl ?_;rintro q7 w ⟨rfl,hB⟩
 refine K1 ?_
 refine ret_tmp Tryz.results98 rfl ?_
 exact ⟨hB,_,rfl⟩
end Go.Proofs.YthiafbkolhnadaaGreatDoor
end
section
namespace Go.Dk
open Go Go.RowKit Go.Lib
def IsE (u:Value):Prop:=u=.nilIface∨∃ te pe,u=.iface te pe
def isNilI:Value→Bool
 | .nilIface=>true
 | _=>false
theorem ex_imp {α:Type} [Inhabited α]{p:Prop}{q:α→Prop}(h:p→∃ x,q x):∃ x,p→q x:=by
 by_cases hp:p
 · obtain ⟨x,hx⟩:=h hp
   exact ⟨x,fun _=>hx⟩
 · exact ⟨default,fun h2=>absurd h2 hp⟩
theorem u8w (p:Int):∃ c:UInt8,IntKind.u8.wrap p=((c.toNat:Nat):Int):=by
 have h:=wr8 p
 refine ⟨UInt8.ofNat (IntKind.u8.wrap p).toNat,?_⟩
 rw [show (UInt8.ofNat (IntKind.u8.wrap p).toNat).toNat=(IntKind.u8.wrap p).toNat by simp [UInt8.toNat_ofNat'];omega]
 omega
section
variable {P:Program} {o:Oper} {w:World} {ρ:Operand→Value}
theorem v_mkI {t:TypeId}{x:Operand}{v:Value}{k:IntKind}(hu:P.underlying t=some (.int k))(ho:o.op=.makeInterface t x)(hx:ρ x=v):(execOp ρ o).run P w=.ok (.value (.iface t v)) w:=by
 unfold execOp;rw [ho]
 simp only [Instr.makeInterface,Sem.run_bind,run_underlying hu,Result.andThen_ok,hx]
 rfl
theorem v_isNil {t t':TypeId}{x:Operand}{u:Value}{ms:Array (String×TypeId)}(hu:P.underlying t=some (.interface ms))(ho:o.op=.binOp .eql t x (.const .nilIface) t')(hx:ρ x=u)(hc:ρ (.const .nilIface)=.nilIface)(he:IsE u):(execOp ρ o).run P w=.ok (.value (.bool (isNilI u))) w:=by
 unfold execOp;rw [ho]
 rcases he with rfl | ⟨te,pe,rfl⟩
 · have h:(binOp .eql t .nilIface .nilIface).run P w=.ok (.bool true) w:=by
     exact Bz41
   simp [hx,hc,eqGuard_nil_constR,h,isNilI]
 · have h:(binOp .eql t (.iface te pe) .nilIface).run P w=.ok (.bool false) w:=by
     exact Bz101
   simp [hx,hc,eqGuard,h,isNilI]
theorem v_isNon {t t':TypeId}{x:Operand}{u:Value}{ms:Array (String×TypeId)}(hu:P.underlying t=some (.interface ms))(ho:o.op=.binOp .neq t x (.const .nilIface) t')(hx:ρ x=u)(hc:ρ (.const .nilIface)=.nilIface)(he:IsE u):(execOp ρ o).run P w=.ok (.value (.bool (!isNilI u))) w:=by
 unfold execOp;rw [ho]
 rcases he with rfl | ⟨te,pe,rfl⟩
 · have h:(binOp .neq t .nilIface .nilIface).run P w=.ok (.bool false) w:=by
     exact Bz41
   simp [hx,hc,eqGuard_nil_constR,h,isNilI]
 · have h:(binOp .neq t (.iface te pe) .nilIface).run P w=.ok (.bool true) w:=by
     exact Bz101
   simp [hx,hc,eqGuard,h,isNilI]
theorem v_addW {t t':TypeId}{x y:Operand}{k:IntKind}{p q:Int}(ho:o.op=.binOp .add t x y t')(hx:ρ x=.int k p)(hy:ρ y=.int k q):(execOp ρ o).run P w=.ok (.value (.int k (k.wrap (p+q)))) w:=by
 exact Bz102
theorem v_subW {t t':TypeId}{x y:Operand}{k:IntKind}{p q:Int}(ho:o.op=.binOp .sub t x y t')(hx:ρ x=.int k p)(hy:ρ y=.int k q):(execOp ρ o).run P w=.ok (.value (.int k (k.wrap (p-q)))) w:=by
 exact Bz102
theorem v_mulW {t t':TypeId}{x y:Operand}{k:IntKind}{p q:Int}(ho:o.op=.binOp .mul t x y t')(hx:ρ x=.int k p)(hy:ρ y=.int k q):(execOp ρ o).run P w=.ok (.value (.int k (k.wrap (p*q)))) w:=by
 exact Bz102
end
end Go.Dk
end
section
namespace Go.Proofs.YthiafbkolhnadaaGreatDoor
open Go Go.Dk Go.RowKit Go.Lib
attribute [local irreducible] Go.wpList Go.Code.wp Go.bodyPost Go.wpStill Go.wpQuiet
theorem no1 {a b:Bool}(h:(!(a||b))=true):a=false:=by cases a <;> simp_all
theorem no2 {a b c:Bool}(h:(!((a||b)||c))=true):a=false:=by cases a <;> simp_all
theorem c107w (s:List UInt8)(w0:World)(hs:s.length≤100000000):Fc Tryz.prog 107 [.string (bs s)] w0 (fun v _=>∃ (cells:List Value) (e:Int) (c:ByteArray),v=.tuple #[.agg cells.toArray,.int .i64 e]∧(∃ (i1:Int) (b1 b2:Bool) (s1:ByteArray) (i2 i3 i4 i5 i6:Int) (bb ll ff:Value),cells=[.int .i64 i1,.bool b1,.bool b2,.string s1,.int .i64 i2,.int .i64 i3,.int .i64 i4,.int .i64 i5,.int .i64 i6,.string c,bb,ll,ff]∧bb.oneCell'=true∧ll.oneCell'=true∧ff.oneCell'=true)∧c.size≤10000000):=by
 refine ret_enter Tryz.func107 rfl Tryz.ntmps107 rfl ?_
 have cx:=Ctx.start w0
 refine K0 ?_
 refine Hx ?_;intro b2 w cx hb2 hw2
 refine K7 ?_
 refine cSp rfl (fun hc8=>?_) (fun hc8=>?_)
 ·
  refine K1u ?_
  refine H13 ?_;intro w cx hwS2
  exact Bz59
 refine K3 ?_
 refine s_fnB cx ((c92w (bs s) _ p14q)) Tryz.func92 rfl rfl rfl rfl rfl rfl ?_;intro q11 w cx hw11 hp11
 refine K0 ?_
 refine cSp rfl (fun hc12=>?_) (fun hc12=>?_)
 ·
  refine K1u ?_
  refine H13 ?_;intro w cx hwS4
  exact Bz59
 refine K2 ?_
 refine s_val rfl rfl (v_build (qs:=[(0,.string (bs s))]) (bd261 (bs s)) rfl rfl) ?_
 refine Hc ?_;intro b16 w cx hb16 hw16
 refine K3 ?_
 refine s_call (c173w w0 _ b16 0 false s _ [] cx (by omega) (by omega)) Tryz.func173 rfl rfl rfl rfl rfl rfl ?_;rintro v18 w ⟨v,cells,q,e,rs,rfl,cx,hrr,hq0,hq1,hsz⟩
 obtain ⟨a1,n1,c1,a2,n2s,c2,a3,n3,c3,rfl⟩:=hrr.form2 cx.leftR
 have hDz:e=false→Dp 48 v∧vs 48 v≤2200000:=fun he=>by
  obtain ⟨_,h2,h3⟩:=hsz.resolve_left (by simp [he])
  exact ⟨h2,by omega⟩
 refine Hx ?_;intro b5 w cx hb5 hw5
 refine H13 ?_;intro w cx hwS6
 refine K4 ?_
 refine K1q ?_
 refine Kbk ?_
 refine K0 ?_
 refine K7p ?_
 refine s_gval rfl rfl rfl wF (fun hc=>v_fa fa261_1 rfl gX) ?_
 refine Kel ?_
 refine K3 ?_
 refine K5f ?_
 refine s_gfnI cx rfl rfl rfl wF (fun hc=>c97w 48 v _ _ (hrr.vw cx.leftR) (hDz (no1 hc)).1 (hDz (no1 hc)).2) Tryz.func97 rfl rfl rfl (fun hc=>cons_eq (gve hc rfl) rfl) ?_;intro q34 w cx hw34 hp34
 refine K1 ?_
 refine K5f ?_
 refine s_gfn cx rfl rfl rfl wF (fun hc=>c98w 48 v _ _ (hrr.vw cx.leftR) (hDz (no2 hc)).1 (hDz (no2 hc)).2 (by omega)) Tryz.func98 rfl rfl rfl (fun hc=>cons_eq (gve hc rfl) rfl) ?_;intro q39 w cx hw39 hp39
 obtain ⟨t39,ht39⟩:=ex_imp hp39
 refine SS ?_
 refine s_gval rfl rfl rfl wF (fun hc=>v_neB rfl ((gve hc rfl).trans (ht39 hc)) (gve hc rfl)) ?_
 refine K0 ?_
 refine cSp rfl (fun hc42=>?_) (fun hc42=>?_)
 ·
  refine K1u ?_
  refine H28 ?_;intro w cx hwS8
  refine K1 ?_
  refine Kbl ?_
  exact Bz183
 have hszz:=(hDz hc42.1.1.1).2
 have hoo:=vs_own (hDz hc42.1.1.1).1
 refine K1 ?_
 refine K16 ?_
 refine H28 ?_;intro w cx hwS9
 refine K1 ?_
 refine Kbl ?_
 exact ⟨cx.ext,_,_,v.sc.text,rfl,⟨_,_,_,_,_,_,_,_,_,_,_,_,rfl,rfl,rfl,rfl⟩,by omega⟩
end Go.Proofs.YthiafbkolhnadaaGreatDoor
end
section
namespace Go.Proofs
open Go.Shelf
def Tryz.laysC245_ren:Go.Shelf.Ren:=⟨fun | 245=>172 | 279=>244 | 280=>245 | 281=>246 | 282=>247 | 316=>318 | 171=>47 | 205=>319 | 243=>96 | 246=>153 | 283=>213 | 284=>214 | 285=>215 | 286=>216 | 129=>290 | 317=>289 | 318=>291 | 319=>292 | 320=>293 | 337=>356 | 338=>357 | n=>n,fun | 9=>9 | 3=>3 | 75=>184 | 167=>319 | 4=>4 | 168=>322 | 210=>371 | 37=>79 | 0=>0 | 127=>312 | 145=>397 | 143=>395 | 2=>2 | 171=>301 | 53=>299 | 5=>5 | 173=>304 | 212=>358 | 51=>359 | 20=>20 | 213=>360 | 46=>237 | 232=>405 | 233=>406 | 80=>248 | n=>n,fun | 15=>4 | 16=>5 | 17=>2 | 18=>6 | 19=>7 | n=>n⟩
theorem Tryz.laysC245:Go.Proofs.LaysC.n245 Tryz.prog Tryz.laysC245_ren:={
 mixed:=by kernel_rfl
 f129:=Tryz.func290.trans (congrArg some p1q)
 f171:=Tryz.func47.trans (congrArg some p1q)
 f205:=Tryz.func319.trans (congrArg some p1q)
 f243:=Tryz.func96.trans (congrArg some p1q)
 f245:=Tryz.func172.trans (congrArg some p1q)
 f246:=Tryz.func153.trans (congrArg some p1q)
 f279:=Tryz.func244.trans (congrArg some p1q)
 f280:=Tryz.func245.trans (congrArg some p1q)
 f281:=Tryz.func246.trans (congrArg some p1q)
 f282:=Tryz.func247.trans (congrArg some p1q)
 f283:=Tryz.func213.trans (congrArg some p1q)
 f284:=Tryz.func214.trans (congrArg some p1q)
 f285:=Tryz.func215.trans (congrArg some p1q)
 f286:=Tryz.func216.trans (congrArg some p1q)
 f316:=Tryz.func318.trans (congrArg some p1q)
 f317:=Tryz.func289.trans (congrArg some p1q)
 f318:=Tryz.func291.trans (congrArg some p1q)
 f319:=Tryz.func292.trans (congrArg some p1q)
 f320:=Tryz.func293.trans (congrArg some p1q)
 f337:=Tryz.func356.trans (congrArg some p1q)
 f338:=Tryz.func357.trans (congrArg some p1q)
 t0:=Tryz.underlying0
 a0:=Tryz.isAgg0
 z0:=Tryz.sizeOf0
 v0:=Tryz.zeroValue0
 t2:=Tryz.underlying2
 a2:=Tryz.isAgg2
 z2:=Tryz.sizeOf2
 v2:=Tryz.zeroValue2
 t3:=Tryz.underlying3
 a3:=Tryz.isAgg3
 z3:=Tryz.sizeOf3
 v3:=Tryz.zeroValue3
 t4:=Tryz.underlying4
 a4:=Tryz.isAgg4
 z4:=Tryz.sizeOf4
 v4:=Tryz.zeroValue4
 t5:=Tryz.underlying5
 a5:=Tryz.isAgg5
 z5:=Tryz.sizeOf5
 v5:=Tryz.zeroValue5
 t9:=Tryz.underlying9
 a9:=Tryz.isAgg9
 z9:=Tryz.sizeOf9
 v9:=Tryz.zeroValue9
 t20:=Tryz.underlying20
 a20:=Tryz.isAgg20
 z20:=Tryz.sizeOf20
 v20:=Tryz.zeroValue20
 t37:=Tryz.underlying79
 a37:=Tryz.isAgg79
 z37:=Tryz.sizeOf79
 v37:=Tryz.zeroValue79
 t46:=Tryz.underlying237
 a46:=Tryz.isAgg237
 z46:=Tryz.sizeOf237
 v46:=Tryz.zeroValue237
 t51:=Tryz.underlying359
 a51:=Tryz.isAgg359
 z51:=Tryz.sizeOf359
 v51:=Tryz.zeroValue359
 t53:=Tryz.underlying299
 a53:=Tryz.isAgg299
 z53:=Tryz.sizeOf299
 v53:=Tryz.zeroValue299
 t75:=Tryz.underlying184
 a75:=Tryz.isAgg184
 z75:=Tryz.sizeOf184
 v75:=Tryz.zeroValue184
 t127:=Tryz.underlying312
 a127:=Tryz.isAgg312
 z127:=Tryz.sizeOf312
 v127:=Tryz.zeroValue312
 t143:=Tryz.underlying395
 a143:=Tryz.isAgg395
 z143:=Tryz.sizeOf395
 v143:=Tryz.zeroValue395
 t145:=Tryz.underlying397
 a145:=Tryz.isAgg397
 z145:=Tryz.sizeOf397
 v145:=Tryz.zeroValue397
 t167:=Tryz.underlying319
 a167:=Tryz.isAgg319
 z167:=Tryz.sizeOf319
 v167:=Tryz.zeroValue319
 t168:=Tryz.underlying322
 a168:=Tryz.isAgg322
 z168:=Tryz.sizeOf322
 v168:=Tryz.zeroValue322
 t171:=Tryz.underlying301
 a171:=Tryz.isAgg301
 z171:=Tryz.sizeOf301
 v171:=Tryz.zeroValue301
 t173:=Tryz.underlying304
 a173:=Tryz.isAgg304
 z173:=Tryz.sizeOf304
 v173:=Tryz.zeroValue304
 t210:=Tryz.underlying371
 a210:=Tryz.isAgg371
 z210:=Tryz.sizeOf371
 v210:=Tryz.zeroValue371
 t212:=Tryz.underlying358
 a212:=Tryz.isAgg358
 z212:=Tryz.sizeOf358
 v212:=Tryz.zeroValue358
 t213:=Tryz.underlying360
 a213:=Tryz.isAgg360
 z213:=Tryz.sizeOf360
 t232:=Tryz.underlying405
 a232:=Tryz.isAgg405
 z232:=Tryz.sizeOf405
 v232:=Tryz.zeroValue405
 t233:=Tryz.underlying406
 a233:=Tryz.isAgg406
 z233:=Tryz.sizeOf406
 v233:=Tryz.zeroValue406
 g15:=by kernel_rfl
 g16:=by kernel_rfl
 g17:=by kernel_rfl
 g18:=by kernel_rfl
 g19:=by kernel_rfl
 t80:=Tryz.underlying248
 a80:=Tryz.isAgg248
 z80:=Tryz.sizeOf248
 v80:=Tryz.zeroValue248
 i0:=by kernel_rfl
 i2:=by kernel_rfl
 i3:=by kernel_rfl
 i4:=by kernel_rfl
 i5:=by kernel_rfl
 i9:=by kernel_rfl
 i20:=by kernel_rfl
 i37:=by kernel_rfl
 i46:=by kernel_rfl
 i51:=by kernel_rfl
 i53:=by kernel_rfl
 i75:=by kernel_rfl
 i80:=by kernel_rfl
 i127:=by kernel_rfl
 i143:=by kernel_rfl
 i145:=by kernel_rfl
 i167:=by kernel_rfl
 i168:=by kernel_rfl
 i171:=by kernel_rfl
 i173:=by kernel_rfl
 i210:=by kernel_rfl
 i212:=by kernel_rfl
 i232:=by kernel_rfl
 i233:=by kernel_rfl
 m15:=by kernel_rfl
 m16:=by kernel_rfl
 m17:=by kernel_rfl
 m18:=by kernel_rfl
 m19:=by kernel_rfl
 c0:=by kernel_rfl
 c2:=by kernel_rfl
 c3:=by kernel_rfl
 c4:=by kernel_rfl
 c5:=by kernel_rfl
 c9:=by kernel_rfl
 c20:=by kernel_rfl
 c37:=by kernel_rfl
 c46:=by kernel_rfl
 c51:=by kernel_rfl
 c53:=by kernel_rfl
 c75:=by kernel_rfl
 c80:=by kernel_rfl
 c127:=by kernel_rfl
 c143:=by kernel_rfl
 c145:=by kernel_rfl
 c167:=by kernel_rfl
 c168:=by kernel_rfl
 c171:=by kernel_rfl
 c173:=by kernel_rfl
 c210:=by kernel_rfl
 c212:=by kernel_rfl
 c213:=by kernel_rfl
 c232:=by kernel_rfl
 c233:=by kernel_rfl }
open Go.RowKit in
theorem Tryz.strconv_toError_syntax (fn s:ByteArray)(base bits:Int)(ev:Value)(w:World)(hlim:s.size≤281474976710656)(hv:w.cell? ⟨4,0,none⟩=some ev)(hev:ev=.nilIface∨∃ te pe,ev=.iface te pe) :
  Calls Tryz.prog 172 #[.string fn,.string s,.int .i64 base,.int .i64 bits,.iface 319 (.int .i64 2)] w fun e w'=>∃ N,e=.returned (.iface 322 (.pointer (some ⟨N,0,none⟩)))∧w.heap.size≤N∧w'.heap[N]?=some (.cells #[.string fn,.string s,ev] 371 (0,0))∧Below w.heap.size w w':=Any.strconv_toError_syntax Tryz.laysC245 fn s base bits ev w hlim hv hev
open Go.RowKit in
theorem Tryz.strconv_toError_range (fn s:ByteArray)(base bits:Int)(ev:Value)(w:World)(hlim:s.size≤281474976710656)(hv:w.cell? ⟨5,0,none⟩=some ev)(hev:ev=.nilIface∨∃ te pe,ev=.iface te pe) :
  Calls Tryz.prog 172 #[.string fn,.string s,.int .i64 base,.int .i64 bits,.iface 319 (.int .i64 1)] w fun e w'=>∃ N,e=.returned (.iface 322 (.pointer (some ⟨N,0,none⟩)))∧w.heap.size≤N∧w'.heap[N]?=some (.cells #[.string fn,.string s,ev] 371 (0,0))∧Below w.heap.size w w':=Any.strconv_toError_range Tryz.laysC245 fn s base bits ev w hlim hv hev
def Tryz.laysC172_ren:Go.Shelf.Ren:=⟨fun | 172=>106 | 244=>171 | 245=>172 | 247=>243 | 279=>244 | 280=>245 | 281=>246 | 282=>247 | 287=>317 | 316=>318 | 171=>47 | 205=>319 | 321=>374 | 322=>375 | 243=>96 | 246=>153 | 283=>213 | 284=>214 | 285=>215 | 286=>216 | 129=>290 | 317=>289 | 318=>291 | 319=>292 | 320=>293 | 337=>356 | 338=>357 | n=>n,fun | 9=>9 | 3=>3 | 75=>184 | 76=>185 | 4=>4 | 5=>5 | 167=>319 | 37=>79 | 0=>0 | 85=>320 | 2=>2 | 168=>322 | 53=>299 | 175=>368 | 46=>237 | 210=>371 | 127=>312 | 145=>397 | 143=>395 | 21=>21 | 171=>301 | 173=>304 | 212=>358 | 51=>359 | 20=>20 | 213=>360 | 232=>405 | 233=>406 | 80=>248 | n=>n,fun | 15=>4 | 16=>5 | 17=>2 | 18=>6 | 19=>7 | n=>n⟩
theorem Tryz.laysC172:Go.Proofs.LaysC.n172 Tryz.prog Tryz.laysC172_ren:={
 mixed:=by kernel_rfl
 f129:=Tryz.func290.trans (congrArg some p1q)
 f171:=Tryz.func47.trans (congrArg some p1q)
 f172:=Tryz.func106.trans (congrArg some p1q)
 f205:=Tryz.func319.trans (congrArg some p1q)
 f243:=Tryz.func96.trans (congrArg some p1q)
 f244:=Tryz.func171.trans (congrArg some p1q)
 f245:=Tryz.func172.trans (congrArg some p1q)
 f246:=Tryz.func153.trans (congrArg some p1q)
 f247:=Tryz.func243.trans (congrArg some p1q)
 f279:=Tryz.func244.trans (congrArg some p1q)
 f280:=Tryz.func245.trans (congrArg some p1q)
 f281:=Tryz.func246.trans (congrArg some p1q)
 f282:=Tryz.func247.trans (congrArg some p1q)
 f283:=Tryz.func213.trans (congrArg some p1q)
 f284:=Tryz.func214.trans (congrArg some p1q)
 f285:=Tryz.func215.trans (congrArg some p1q)
 f286:=Tryz.func216.trans (congrArg some p1q)
 f287:=Tryz.func317.trans (congrArg some p1q)
 f316:=Tryz.func318.trans (congrArg some p1q)
 f317:=Tryz.func289.trans (congrArg some p1q)
 f318:=Tryz.func291.trans (congrArg some p1q)
 f319:=Tryz.func292.trans (congrArg some p1q)
 f320:=Tryz.func293.trans (congrArg some p1q)
 f321:=Tryz.func374.trans (congrArg some p1q)
 f322:=Tryz.func375.trans (congrArg some p1q)
 f337:=Tryz.func356.trans (congrArg some p1q)
 f338:=Tryz.func357.trans (congrArg some p1q)
 t0:=Tryz.underlying0
 a0:=Tryz.isAgg0
 z0:=Tryz.sizeOf0
 v0:=Tryz.zeroValue0
 t2:=Tryz.underlying2
 a2:=Tryz.isAgg2
 z2:=Tryz.sizeOf2
 v2:=Tryz.zeroValue2
 t3:=Tryz.underlying3
 a3:=Tryz.isAgg3
 z3:=Tryz.sizeOf3
 v3:=Tryz.zeroValue3
 t4:=Tryz.underlying4
 a4:=Tryz.isAgg4
 z4:=Tryz.sizeOf4
 v4:=Tryz.zeroValue4
 t5:=Tryz.underlying5
 a5:=Tryz.isAgg5
 z5:=Tryz.sizeOf5
 v5:=Tryz.zeroValue5
 t9:=Tryz.underlying9
 a9:=Tryz.isAgg9
 z9:=Tryz.sizeOf9
 v9:=Tryz.zeroValue9
 t20:=Tryz.underlying20
 a20:=Tryz.isAgg20
 z20:=Tryz.sizeOf20
 v20:=Tryz.zeroValue20
 t21:=Tryz.underlying21
 a21:=Tryz.isAgg21
 z21:=Tryz.sizeOf21
 v21:=Tryz.zeroValue21
 t37:=Tryz.underlying79
 a37:=Tryz.isAgg79
 z37:=Tryz.sizeOf79
 v37:=Tryz.zeroValue79
 t46:=Tryz.underlying237
 a46:=Tryz.isAgg237
 z46:=Tryz.sizeOf237
 v46:=Tryz.zeroValue237
 t51:=Tryz.underlying359
 a51:=Tryz.isAgg359
 z51:=Tryz.sizeOf359
 v51:=Tryz.zeroValue359
 t53:=Tryz.underlying299
 a53:=Tryz.isAgg299
 z53:=Tryz.sizeOf299
 v53:=Tryz.zeroValue299
 t75:=Tryz.underlying184
 a75:=Tryz.isAgg184
 z75:=Tryz.sizeOf184
 v75:=Tryz.zeroValue184
 t76:=Tryz.underlying185
 a76:=Tryz.isAgg185
 z76:=Tryz.sizeOf185
 v76:=Tryz.zeroValue185
 t85:=Tryz.underlying320
 a85:=Tryz.isAgg320
 z85:=Tryz.sizeOf320
 v85:=Tryz.zeroValue320
 t127:=Tryz.underlying312
 a127:=Tryz.isAgg312
 z127:=Tryz.sizeOf312
 v127:=Tryz.zeroValue312
 t143:=Tryz.underlying395
 a143:=Tryz.isAgg395
 z143:=Tryz.sizeOf395
 v143:=Tryz.zeroValue395
 t145:=Tryz.underlying397
 a145:=Tryz.isAgg397
 z145:=Tryz.sizeOf397
 v145:=Tryz.zeroValue397
 t167:=Tryz.underlying319
 a167:=Tryz.isAgg319
 z167:=Tryz.sizeOf319
 v167:=Tryz.zeroValue319
 t168:=Tryz.underlying322
 a168:=Tryz.isAgg322
 z168:=Tryz.sizeOf322
 v168:=Tryz.zeroValue322
 t171:=Tryz.underlying301
 a171:=Tryz.isAgg301
 z171:=Tryz.sizeOf301
 v171:=Tryz.zeroValue301
 t173:=Tryz.underlying304
 a173:=Tryz.isAgg304
 z173:=Tryz.sizeOf304
 v173:=Tryz.zeroValue304
 t175:=Tryz.underlying368
 a175:=Tryz.isAgg368
 z175:=Tryz.sizeOf368
 v175:=Tryz.zeroValue368
 t210:=Tryz.underlying371
 a210:=Tryz.isAgg371
 z210:=Tryz.sizeOf371
 v210:=Tryz.zeroValue371
 t212:=Tryz.underlying358
 a212:=Tryz.isAgg358
 z212:=Tryz.sizeOf358
 v212:=Tryz.zeroValue358
 t213:=Tryz.underlying360
 a213:=Tryz.isAgg360
 z213:=Tryz.sizeOf360
 t232:=Tryz.underlying405
 a232:=Tryz.isAgg405
 z232:=Tryz.sizeOf405
 v232:=Tryz.zeroValue405
 t233:=Tryz.underlying406
 a233:=Tryz.isAgg406
 z233:=Tryz.sizeOf406
 v233:=Tryz.zeroValue406
 g15:=by kernel_rfl
 g16:=by kernel_rfl
 g17:=by kernel_rfl
 g18:=by kernel_rfl
 g19:=by kernel_rfl
 t80:=Tryz.underlying248
 a80:=Tryz.isAgg248
 z80:=Tryz.sizeOf248
 v80:=Tryz.zeroValue248
 i0:=by kernel_rfl
 i2:=by kernel_rfl
 i3:=by kernel_rfl
 i4:=by kernel_rfl
 i5:=by kernel_rfl
 i9:=by kernel_rfl
 i20:=by kernel_rfl
 i21:=by kernel_rfl
 i37:=by kernel_rfl
 i46:=by kernel_rfl
 i51:=by kernel_rfl
 i53:=by kernel_rfl
 i75:=by kernel_rfl
 i76:=by kernel_rfl
 i80:=by kernel_rfl
 i85:=by kernel_rfl
 i127:=by kernel_rfl
 i143:=by kernel_rfl
 i145:=by kernel_rfl
 i167:=by kernel_rfl
 i168:=by kernel_rfl
 i171:=by kernel_rfl
 i173:=by kernel_rfl
 i175:=by kernel_rfl
 i210:=by kernel_rfl
 i212:=by kernel_rfl
 i232:=by kernel_rfl
 i233:=by kernel_rfl
 m15:=by kernel_rfl
 m16:=by kernel_rfl
 m17:=by kernel_rfl
 m18:=by kernel_rfl
 m19:=by kernel_rfl
 c0:=by kernel_rfl
 c2:=by kernel_rfl
 c3:=by kernel_rfl
 c4:=by kernel_rfl
 c5:=by kernel_rfl
 c9:=by kernel_rfl
 c20:=by kernel_rfl
 c21:=by kernel_rfl
 c37:=by kernel_rfl
 c46:=by kernel_rfl
 c51:=by kernel_rfl
 c53:=by kernel_rfl
 c75:=by kernel_rfl
 c76:=by kernel_rfl
 c80:=by kernel_rfl
 c85:=by kernel_rfl
 c127:=by kernel_rfl
 c143:=by kernel_rfl
 c145:=by kernel_rfl
 c167:=by kernel_rfl
 c168:=by kernel_rfl
 c171:=by kernel_rfl
 c173:=by kernel_rfl
 c175:=by kernel_rfl
 c210:=by kernel_rfl
 c212:=by kernel_rfl
 c213:=by kernel_rfl
 c232:=by kernel_rfl
 c233:=by kernel_rfl }
open Go.RowKit in
theorem Tryz.strconv_Atoi_ok (s:ByteArray)(hmax:s.size≤9223372036854775806)(v:Int)(h:Lib.atoiAll s.data.toList=.ok v)(w:World) :
  Calls Tryz.prog 106 #[.string s] w fun e w'=>e=.returned (.tuple #[.int .i64 v,.nilIface])∧(w'=w∨∃ t,w'=Lib.bytesWorld w 5 t):=Any.strconv_Atoi_ok Tryz.laysC172 s hmax v h w
open Go.RowKit in
theorem Tryz.strconv_Atoi_syntax (s:ByteArray)(hlim:s.size≤281474976710656)(h:Lib.atoiAll s.data.toList=Lib.atoiAll [])(ev:Value)(w:World)(hv:w.cell? ⟨4,0,none⟩=some ev)(hev:ev=.nilIface∨∃ te pe,ev=.iface te pe) :
  Calls Tryz.prog 106 #[.string s] w fun e w'=>∃ N,e=.returned (.tuple #[.int .i64 (0),.iface 322 (.pointer (some ⟨N,0,none⟩))])∧w.heap.size≤N∧w'.heap[N]?=some (.cells #[.string ⟨#[65,116,111,105]⟩,.string s,ev] 371 (0,0))∧Below w.heap.size w w':=Any.strconv_Atoi_syntax Tryz.laysC172 s hlim h ev w hv hev
open Go.RowKit in
theorem Tryz.strconv_Atoi_range (s:ByteArray)(hlim:s.size≤281474976710656)(h:Lib.atoiAll s.data.toList=.range)(ev:Value)(w:World)(hv:w.cell? ⟨5,0,none⟩=some ev)(hev:ev=.nilIface∨∃ te pe,ev=.iface te pe) :
  Calls Tryz.prog 106 #[.string s] w fun e w'=>∃ N,e=.returned (.tuple #[.int .i64 (Lib.atoiSat s.data.toList),.iface 322 (.pointer (some ⟨N,0,none⟩))])∧w.heap.size≤N∧w'.heap[N]?=some (.cells #[.string ⟨#[65,116,111,105]⟩,.string s,ev] 371 (0,0))∧Below w.heap.size w w':=Any.strconv_Atoi_range Tryz.laysC172 s hlim h ev w hv hev
end Go.Proofs
end
section
namespace Go.Proofs.YthiafbkolhnadaaGreatDoor
open Go Go.Dk Go.RowKit Go.Lib
attribute [local irreducible] Go.wpList Go.Code.wp Go.bodyPost Go.wpStill Go.wpQuiet
def Errs (w:World):Prop:=(∃ ev,w.cell? ⟨4,0,none⟩=some ev∧IsE ev)∧∃ ev,w.cell? ⟨5,0,none⟩=some ev∧IsE ev
theorem Errs.up {w w':World}(h:Errs w)(hb:Below w.heap.size w w'):Errs w':=by
 obtain ⟨⟨a,h1,h2⟩,b,h3,h4⟩:=h
 exact ⟨⟨a,cell_up hb h1,h2⟩,b,cell_up hb h3,h4⟩
def E12 (u:Value):Prop:=u=.nilIface∨u=.iface 319 (.int .i64 1)∨u=.iface 319 (.int .i64 2)
theorem E12.isE {u:Value}(h:E12 u):IsE u:=by
 rcases h with h | h | h
 · exact .inl h
 · exact .inr ⟨_,_,h⟩
 · exact .inr ⟨_,_,h⟩
theorem c374 (m:Int)(w0:World):Fc Tryz.prog 374 [.int .u8 m] w0 (fun v _=>v=.int .u8 (bitOp .or .u8 m 32)):=by
 refine ret_enter Tryz.func374 rfl Tryz.ntmps374 rfl ?_
 have cx:=Ctx.start w0
 refine K5 ?_
 refine K74 ?_
 refine K1 ?_
 refine ret_tmp Tryz.results374 rfl ?_
 exact Ez2
theorem c317w (l:List UInt8)(w0:World)(hl:l.length≤1000):Fc Tryz.prog 317 [.string (bs l),.int .i64 16,.int .i64 8] w0 (fun v _=>∃ (n:Int) (u:Value),v=.tuple #[.int .u64 n,u]∧E12 u):=by
 refine ret_enter Tryz.func317 rfl Tryz.ntmps317 rfl ?_
 have cx:=Ctx.start w0
 refine K7 ?_
 refine K2e ?_
 refine cSp rfl (fun hc19=>?_) (fun hc19=>?_)
 ·
  refine K0 ?_
  exact Bz173
 refine K4i ?_
 refine K6 ?_
 refine c_split rfl (fun hc25=>?_) (fun hc25=>?_)
 ·
  try simp only [bsl] at hc25
  refine K5 ?_
  refine c_split rfl (fun hc77=>?_) (fun hc77=>?_)
  ·
   exact absurd hc77 (by decide)
  try simp only [bsl] at hc77
  refine K7 ?_
  refine c_split rfl (fun hc83=>?_) (fun hc83=>?_)
  ·
   exact absurd hc83 (by decide)
  try simp only [bsl] at hc83
  refine K4i ?_
  refine c_split rfl (fun hc90=>?_) (fun hc90=>?_)
  ·
   exact absurd hc90 (by decide)
  try simp only [bsl] at hc90
  refine K3 ?_
  refine c_split rfl (fun hc92=>?_) (fun hc92=>?_)
  ·
   try simp only [bsl] at hc92
   refine K4 ?_
   refine K47 ?_
   refine K75 ?_
   refine s_val rfl rfl (v_subW rfl rfl rfl) ?_
   refine K13 ?_
   refine s_s2b cx (by omega) Tryz.underlying9 Tryz.underlying79 Tryz.underlying5 rfl rfl rfl rfl ?_;intro gb cur fz cap w cx hO
   refine K4c ?_
   refine K1 ?_
   refine w_loop (fun k f w1=>∃ (i:Nat) (n x10 x11:Int),k+i=l.length∧f 0=.string (bs l)∧f 1=.int .i64 16∧f 8=.bool false∧f 9=.string (bs l)∧f 10=.int .u64 x10∧f 11=.int .u64 x11∧f 12=.bool false∧f 13=.int .u64 n∧f 99=.slice (some ⟨gb,0,none⟩) l.length cap∧f 100=.int .i64 l.length∧f 101=.int .i64 i∧Ctx w0 w1 [(gb,.cells cur 5 fz)]) (l.length) ?_ ?_
   ·
    exact ⟨0,_,_,_,by omega,rfl,rfl,rfl,rfl,rfl,rfl,rfl,rfl,rfl,rfl,rfl,cx⟩
   intro gk36 f w hJ
   obtain ⟨i,n,x10,x11,hk,hs0,hs1,hs8,hs9,hs10,hs11,hs12,hs13,hs99,hs100,hs101,cx⟩:=hJ
   refine K0 ?_
   refine s_val rfl rfl (v_cmp rfl hs101 hs100 rfl) ?_
   refine K0 ?_
   refine cSp rfl (fun hc102=>?_) (fun hc102=>?_)
   ·
    refine K3 ?_
    refine s_val rfl rfl (v_ia Tryz.underlying79 sz5 rfl hs99 hs101 (by omega) (by omega)) ?_
    refine s_val rfl rfl (v_load1 rfl rfl Tryz.underlying5 rfl (((Outs.row cx hO).one (x:=bv (l.getD i 0)) (by rw [List.getElem?_map,getD_some (by omega)];rfl)).cell 0 rfl)) ?_
    refine K4 ?_
    refine w_cut (fun f w1=>∃ (n d:Int),f 0=.string (bs l)∧f 1=.int .i64 16∧f 8=.bool false∧f 9=.string (bs l)∧f 10=.int .u64 x10∧f 11=.int .u64 x11∧f 12=.bool false∧f 13=.int .u64 n∧f 16=.int .u8 d∧f 99=.slice (some ⟨gb,0,none⟩) l.length cap∧f 100=.int .i64 l.length∧f 101=.int .i64 i∧Ctx w0 w1 [(gb,.cells cur 5 fz)]) ?_ ?_
    ·
     refine K4 ?_
     refine K49 ?_
     refine K1 ?_
     refine cSp rfl (fun hc106=>?_) (fun hc106=>?_)
     ·
      exact absurd hc106.2 (by decide)
     refine K8 ?_
     refine cSp rfl (fun hc112=>?_) (fun hc112=>?_)
     ·
      refine K0 ?_
      refine s_val rfl rfl (v_subW rfl rfl rfl) ?_
      exact Bz116
     refine K1 ?_
     refine s_fn cx (c374 _ _) Tryz.func374 rfl rfl rfl rfl rfl rfl ?_;intro q123 w cx hw123 hp123
     subst hp123
     refine K1 ?_
     refine s_gfn cx rfl rfl rfl wT (fun hc=>c374 _ _) Tryz.func374 rfl rfl rfl (fun hc=>(cons_eq gX rfl)) ?_;intro q127 w cx hw127 hp127
     refine s_gval rfl rfl rfl wT (fun hc=>v_cmp rfl ((gve hc rfl).trans (hp127 hc)) rfl rfl) ?_
     refine K1 ?_
     refine cSp rfl (fun hc121=>?_) (fun hc121=>?_)
     ·
      refine K0 ?_
      refine s_fn cx (c374 _ _) Tryz.func374 rfl rfl rfl rfl rfl rfl ?_;intro q131 w cx hw131 hp131
      subst hp131
      refine s_val rfl rfl (v_subW rfl rfl rfl) ?_
      refine s_val rfl rfl (v_addW rfl rfl rfl) ?_
      exact Bz116
     refine K0 ?_
     exact Bz173
    intro f w hJ
    obtain ⟨n,d,hs0,hs1,hs8,hs9,hs10,hs11,hs12,hs13,hs16,hs99,hs100,hs101,cx⟩:=hJ
    refine K1 ?_
    refine s_val rfl rfl (v_move rfl hs16) ?_
    refine Ky ?_
    refine K88 ?_
    refine K0 ?_
    refine cSp rfl (fun hc137=>?_) (fun hc137=>?_)
    ·
     refine K0 ?_
     exact Bz173
    refine K2 ?_
    refine K2v ?_
    refine Kw ?_
    refine K0 ?_
    refine cSp rfl (fun hc141=>?_) (fun hc141=>?_)
    ·
     refine K0 ?_
     refine K1y ?_
     exact Bz173
    refine K1 ?_
    refine K2v ?_
    refine Ky ?_
    refine Kai ?_
    refine s_val rfl rfl (v_mulW rfl rfl rfl) ?_
    refine K3 ?_
    refine s_val rfl rfl (v_move rfl hs16) ?_
    refine s_val rfl rfl (v_conv rfl rfl Tryz.underlying5 Tryz.underlying299) ?_
    refine s_val rfl rfl (v_addW rfl rfl rfl) ?_
    refine K8 ?_
    refine Kbn ?_
    refine K1 ?_
    refine cSp rfl (fun hc159=>?_) (fun hc159=>?_)
    ·
     refine K0 ?_
     refine K1y ?_
     exact Bz173
    refine K4 ?_
    refine s_val rfl rfl (v_add rfl hs101 rfl (by omega) (by omega)) ?_
    refine K0 ?_
    exact ⟨gk36-1,_,by omega,rfl,i+1,_,x10,x11,by omega,hs0,hs1,hs8,hs9,hs10,hs11,hs12,rfl,hs99,hs100,rfl,cx⟩
   refine K2 ?_
   refine K8s ?_
   refine SS ?_
   refine s_gval rfl rfl rfl wT (fun hc=>v_move rfl hs9) ?_
   refine s_gfnB cx rfl rfl rfl wT (fun hc=>(absurd hc (by simp):Fc _ _ _ _ (IsB fun _=>True))) Tryz.func375 rfl rfl rfl (fun hc=>(cons_eq gX rfl)) ?_;intro q167 w cx hw167 hp167
   refine K1 ?_
   refine cSp rfl (fun hc169=>?_) (fun hc169=>?_)
   ·
    exact absurd hc169.1 (by decide)
   refine K1 ?_
   refine K2v ?_
   exact Bz13
  exact absurd hc92 (by decide)
 exact absurd hc25 (by decide)
theorem c322w (l:List UInt8)(w0:World)(hl:l.length≤1000)(hE:Errs w0):Fc Tryz.prog 322 [.string (bs l),.int .i64 16,.int .i64 8] w0 (fun v _=>∃ (n:Int) (u:Value),v=.tuple #[.int .u64 n,u]∧IsE u):=by
 refine ret_enter Tryz.func322 rfl Tryz.ntmps322 rfl ?_
 have cx:=Ctx.start w0
 refine K8 ?_
 refine s_fn cx (c317w l _ hl) Tryz.func317 rfl rfl rfl rfl rfl rfl ?_;intro q14 w cx hw14 hp14
 obtain ⟨n,u,rfl,hu⟩:=hp14
 refine K8 ?_
 refine s_val rfl rfl (v_isNon Tryz.underlying184 rfl rfl rfl hu.isE) ?_
 refine SS ?_
 refine c_split rfl (fun hc18=>?_) (fun hc18=>?_)
 ·
  refine K5 ?_
  have hte:Fc Tryz.prog 172 [.string (bs [80,97,114,115,101,85,105,110,116]),.string (bs l),.int .i64 16,.int .i64 8,u] w (fun v _=>IsE v):=by
   obtain ⟨⟨e4,h4,h4e⟩,e5,h5,h5e⟩:=hE.up cx.ext
   rcases hu with rfl | rfl | rfl
   · exact absurd hc18 Bool.false_ne_true
   · refine Calls.mono (Go.Proofs.Tryz.strconv_toError_range _ (bs l) 16 8 e5 w p14q h5 h5e) ?_
     rintro e w' ⟨N,he,_,_,hb⟩
     exact ⟨_,he,hb,.inr ⟨_,_,rfl⟩⟩
   · refine Calls.mono (Go.Proofs.Tryz.strconv_toError_syntax _ (bs l) 16 8 e4 w p14q h4 h4e) ?_
     rintro e w' ⟨N,he,_,_,hb⟩
     exact ⟨_,he,hb,.inr ⟨_,_,rfl⟩⟩
  refine s_fn cx hte Tryz.func172 rfl rfl rfl rfl rfl rfl ?_;intro u24 w cx hw24 hue
  refine K2 ?_
  refine ret_tmp2 Tryz.results322 rfl rfl ?_
  exact ⟨cx.ext,_,_,rfl,hue⟩
 refine K6 ?_
 refine ret_tmp2 Tryz.results322 rfl rfl ?_
 exact ⟨cx.ext,_,_,rfl,.inl rfl⟩
theorem c254w (s:List UInt8)(w0:World)(hs:s.length≤1073741824)(hE:Errs w0):Fc Tryz.prog 254 [.string (bs s)] w0 (fun v _=>∃ (c:UInt8) (n:Nat),v=.tuple #[.int .u8 ((c.toNat:Nat):Int),.int .i64 n]∧n≤s.length):=by
 refine K86 ?_
 have cx:=Ctx.start w0
 refine K7 ?_
 refine s_val rfl rfl (v_eqB (s:=s) (u:=[]) rfl rfl rfl) ?_
 refine SS ?_
 refine cSp rfl (fun hc8=>?_) (fun hc8=>?_)
 ·
  refine K0 ?_
  exact Bz2
 have hpos:=List.length_pos_iff.2 hc8
 refine K13 ?_
 refine cSp rfl (fun hc11=>?_) (fun hc11=>?_)
 ·
  refine SS ?_
  exact Bz161
 refine K2 ?_
 exact Bz161
theorem c176w (s:List UInt8)(w0:World)(hs:s.length≤1073741824)(hE:Errs w0):Fc Tryz.prog 176 [.string (bs s)] w0 (fun v _=>∃ (t:List UInt8) (n:Nat),v=.tuple #[.string (bs t),.int .i64 n]∧t.length≤s.length∧n≤s.length):=by
 refine ret_enter Tryz.func176 rfl Tryz.ntmps176 rfl ?_
 have cx:=Ctx.start w0
 refine K21 ?_
 refine w_loop (fun g f w1=>∃ (p:Nat) (t:List UInt8) (v:Value),g+p=s.length+1∧t.length+1≤p∧f 0=.string (bs s)∧f 5=.int .i64 p∧f 4=v∧Cxr w0 w1 [] [⟨5,1,v,t.length,t.map bv⟩]) (s.length) ?_ ?_
 ·
  exact ⟨1,[],_,by omega,by simp,rfl,rfl,rfl,cx.nilRow 5 1⟩
 intro gk3 f w hJ
 obtain ⟨p,t,v,hgp,htp,hs0,hs5,hs4,cx⟩:=hJ
 refine K4o ?_
 refine cSp rfl (fun hc11=>?_) (fun hc11=>?_)
 ·
  refine K19 ?_
  refine Kh ?_
  refine K6 ?_
  refine cSp rfl (fun hc23=>?_) (fun hc23=>?_)
  ·
   refine K1i ?_
   refine K70 ?_
   refine Kh ?_
   refine K3 ?_
   refine ret_tmp2 Tryz.results176 rfl rfl ?_
   exact ⟨cx.ext,t,p+1,rfl,by omega,by omega⟩
  refine K3 ?_
  refine cSp rfl (fun hc29=>?_) (fun hc29=>?_)
  ·
   refine Km ?_
   refine K63 ?_
   refine s_fn cx (c254w (s.drop (Int.toNat ((p:Int)+1))) _ p15q (hE.up cx.ext)) Tryz.func254 rfl rfl rfl rfl rfl rfl ?_;intro q36 w cx hw36 hp36
   obtain ⟨c,n,rfl,hn⟩:=hp36
   rw [List.length_drop] at hn
   refine Ko ?_
   refine cSp rfl (fun hc40=>?_) (fun hc40=>?_)
   ·
    exact Bz73
   refine Kl ?_
   refine SS ?_
   refine He ?_;intro b43 w cx hb43 hw43
   refine Hf ?_;intro v44 w cx hgr44
   replace cx:=cx.drop 1
   refine Kf ?_
   refine K7 ?_
   exact ⟨s.length+1-(p+n+1),_,by omega,rfl,p+n+1,t++[c],_,by omega,by simp only [List.length_append,List.length_cons,List.length_nil];omega,hs0,congrArg (Value.int .i64) (by omega),rfl,cx.row_eq (by simp) paq⟩
  refine SS ?_
  refine Ke ?_
  refine Kb ?_
  refine K3a ?_
  refine He ?_;intro b21 w cx hb21 hw21
  refine Hf ?_;intro v22 w cx hgr22
  replace cx:=cx.drop 1
  refine K3z ?_
  exact ⟨gk3-1,_,by omega,rfl,p+1,t++[_],_,by omega,by simp only [List.length_append,List.length_cons,List.length_nil];omega,hs0,rfl,rfl,cx.row_eq (by simp) paq⟩
 refine SS ?_
 exact Bz73
theorem c106w (s:List UInt8)(w0:World)(hs:s.length≤1073741824)(hE:Errs w0):Fc Tryz.prog 106 [.string (bs s)] w0 (fun v _=>∃ (n:Int) (u:Value),v=.tuple #[.int .i64 n,u]∧IsE u):=by
 obtain ⟨⟨e4,h4,h4e⟩,e5,h5,h5e⟩:=hE
 cases h:Lib.atoiAll (bs s).data.toList with
 | ok v =>
  refine Calls.mono (Go.Proofs.Tryz.strconv_Atoi_ok (bs s) p14q v h w0) ?_
  rintro e w' ⟨he,hw⟩
  refine ⟨_,he,?_,_,_,rfl,.inl rfl⟩
  rcases hw with rfl | ⟨t,rfl⟩
  · exact Below.refl _ _
  · exact Go.Joins.below_bytesWorld _ _ _ _ (Nat.le_refl _)
 | range =>
  refine Calls.mono (Go.Proofs.Tryz.strconv_Atoi_range (bs s) p14q h e5 w0 h5 h5e) ?_
  rintro e w' ⟨N,he,_,_,hb⟩
  exact ⟨_,he,hb,_,_,rfl,.inr ⟨_,_,rfl⟩⟩
 | _ =>
  refine Calls.mono (Go.Proofs.Tryz.strconv_Atoi_syntax (bs s) p14q h e4 w0 h4 h4e) ?_
  rintro e w' ⟨N,he,_,_,hb⟩
  exact ⟨_,he,hb,_,_,rfl,.inr ⟨_,_,rfl⟩⟩
theorem folN_le (s:ByteArray):folN s≤s.size:=(Classical.choose_spec (folP_ex s)).1
theorem c92n (s:List UInt8)(w0:World)(hs:s.length≤1073741824):Fc Tryz.prog 92 [.string (bs s)] w0 (IsB fun _=>True) :=
 (c92 (bs s) w0 (by rw [bs_size];exact hs)).mono fun v w' _ ⟨b,h,_⟩=>⟨b,h,trivial⟩
theorem c108w (s:List UInt8)(w0:World)(hs:s.length≤1073741824)(hE:Errs w0)(ht:Tabs w0):Fc Tryz.prog 108 [.string (bs s)] w0 (fun v w'=>∃ (pv:Value) (l:List Stp) (e:Int),v=.tuple #[pv,.int .i64 e]∧w'.ownsRow w0.heap.size 107 3 pv l.length (l.flatMap srow)∧l.length≤48):=by
 refine ret_enter Tryz.func108 rfl Tryz.ntmps108 rfl ?_
 have cx:=Ctx.start w0
 refine K7 ?_
 refine s_fnB cx (c92n s _ (by omega)) Tryz.func92 rfl rfl rfl rfl rfl rfl ?_;intro q14 w cx hw14 hp14
 refine K0 ?_
 refine cSp rfl (fun hc15=>?_) (fun hc15=>?_)
 ·
  exact Bz11
 refine K3 ?_
 refine K4w ?_
 refine cSp rfl (fun hc17=>?_) (fun hc17=>?_)
 ·
  exact Bz11
 refine K2 ?_
 refine s_alloc cx z9 rfl rfl rfl ?_;intro b4 w cx hb4 hw4
 refine s_store1 (v:=.string (bs s)) cx 0 rfl rfl rfl rfl rfl rfl rfl rfl sz9 ?_;intro w cx hwS5
 refine K1 ?_
 refine s_val rfl rfl (v_fun1 rfl rfl) ?_
 refine K0 ?_
 refine w_cut (fun f w1=>∃ (r:List UInt8) (b4:Nat),r.length≤s.length∧f 0=.string (bs s)∧f 4=.pointer (some ⟨b4,0,none⟩)∧f 5=.func (.func 174) #[] #[.pointer (some ⟨b4,0,none⟩)]∧Ctx w0 w1 [(b4,.cells ([.string (bs r)]:List Value).toArray 9)]) ?_ ?_
 ·
  refine K0 ?_
  refine K15 ?_
  refine K1 ?_
  refine K2k ?_
  refine Kaq ?_
  refine s_gval rfl rfl rfl wT (fun hc=>v_eqB (u:=[46,91]) rfl gX rfl) ?_
  refine K0 ?_
  refine cSp rfl (fun hc27=>?_) (fun hc27=>?_)
  ·
   refine K0 ?_
   refine Hl ?_;rintro v29 w ⟨hv29,cx⟩
   subst hv29
   refine SS ?_
   exact Bz137
  refine SS ?_
  exact Bz137
 intro f w hJ
 obtain ⟨r0,b4,hr0,hs0,hs4,hs5,cx⟩:=hJ
 refine K4 ?_
 refine w_loop (fun k f w1=>∃ (r:List UInt8) (l:List Stp) (b4:Nat) (v:Value),k=r.length∧r.length≤s.length∧l.length≤49∧f 0=.string (bs s)∧f 4=.pointer (some ⟨b4,0,none⟩)∧f 5=.func (.func 174) #[] #[.pointer (some ⟨b4,0,none⟩)]∧f 6=v∧Cxr w0 w1 [(b4,.cells ([.string (bs r)]:List Value).toArray 9)] [⟨107,3,v,l.length,l.flatMap srow⟩]) (r0.length) ?_ ?_
 ·
  exact ⟨r0,[],b4,_,rfl,hr0,by simp,hs0,hs4,hs5,rfl,cx.nilRow _ _⟩
 intro gk10 f w hJ
 obtain ⟨r,l,b4,v,hk,hrs,hl49,hs0,hs4,hs5,hs6,cx⟩:=hJ
 obtain ⟨a6,c6,rfl⟩:=cx.rowSl
 refine K1 ?_
 refine K3i ?_
 refine K4y ?_
 refine SS ?_
 refine K55 ?_
 refine K8j ?_
 refine K1 ?_
 refine cSp rfl (fun hc36=>?_) (fun hc36=>?_)
 ·
  have hrp:=List.length_pos_iff.2 hc36.1
  refine K4p ?_
  refine Hl ?_;rintro v38 w ⟨hv38,cx⟩
  subst hv38
  obtain ⟨r1,hr1⟩:∃ r1,r1=r.drop (Int.toNat 1):=⟨_,rfl⟩
  rw [← hr1] at cx
  have hr1l:=congrArg List.length hr1
  rw [List.length_drop] at hr1l
  refine K4 ?_
  refine s_val rfl rfl (v_eqB (u:=[91]) rfl rfl rfl) ?_
  refine K0 ?_
  refine cSp rfl (fun hc39=>?_) (fun hc39=>?_)
  ·
   refine K4 ?_
   refine w_loop (fun k f w1=>∃ m:Nat,k+m=r1.length∧f 0=.string (bs s)∧f 4=.pointer (some ⟨b4,0,none⟩)∧f 5=.func (.func 174) #[] #[.pointer (some ⟨b4,0,none⟩)]∧f 6=.slice a6 l.length c6∧f 8=.int .i64 m∧Cxr w0 w1 [(b4,.cells ([.string (bs r1)]:List Value).toArray 9)] [⟨107,3,.slice a6 l.length c6,l.length,l.flatMap srow⟩]) (r1.length) ?_ ?_
   ·
    exact ⟨0,by omega,hs0,hs4,hs5,hs6,rfl,cx⟩
   intro gk15 f w hJ
   obtain ⟨m,hgm,hs0,hs4,hs5,hs6,hs8,cx⟩:=hJ
   refine K18 ?_
   refine K3i ?_
   refine K1 ?_
   refine K3j ?_
   refine K49 ?_
   refine K1o ?_
   refine cSp rfl (fun hc51=>?_) (fun hc51=>?_)
   ·
    exact Bz56
   refine K67 ?_
   refine K0 ?_
   refine K79 ?_
   refine K1 ?_
   refine K79 ?_
   refine Kd2 ?_
   refine K2 ?_
   refine cSp rfl (fun hc65=>?_) (fun hc65=>?_)
   ·
    exact Bz11
   refine Kf ?_
   refine Kv ?_
   refine Hm ?_;rintro v69 w ⟨hv69,cx⟩
   subst hv69
   have hml:m≤r1.length:=by omega
   refine s_fn cx (c106w _ _ (by rw [List.length_take];omega) (hE.up cx.ext)) Tryz.func106 rfl rfl rfl rfl rfl rfl ?_;intro q70 w cx hw70 hp70
   obtain ⟨n,u,rfl,hu⟩:=hp70
   refine K8 ?_
   refine s_val rfl rfl (v_isNon Tryz.underlying184 rfl rfl rfl hu) ?_
   refine SS ?_
   refine c_split rfl (fun hc74=>?_) (fun hc74=>?_)
   ·
    exact Bz11
   refine Kf ?_
   refine s_callv (args:=[.int .i64 1]) (cap:=[.pointer (some ⟨b4,0,none⟩)]) (c174 w0 _ b4 _ _ [] _ cx (by omega) (by simp only [List.length_drop];omega)) Tryz.func174 rfl rfl rfl rfl rfl rfl rfl ?_;rintro v76 w ⟨hv76,cx⟩
   subst hv76
   refine K2n ?_
   refine SS ?_
   refine s_fn cx (c175 _ _) Tryz.func175 rfl rfl rfl rfl rfl rfl ?_;intro q79 w cx hw79 hp79
   subst hp79
   refine Hn ?_;intro b80 w cx hb80 hw80
   refine Ho ?_;intro v81 w cx hgr81
   replace cx:=cx.drop 1
   refine K0 ?_
   exact ⟨_,_,(by simp only [List.length_drop] at hk ⊢;omega),rfl,_,l++[⟨true,ByteArray.empty,n⟩],b4,_,rfl,by simp only [List.length_drop];omega,by simp only [List.length_append,List.length_cons,List.length_nil];omega,hs0,hs4,hs5,rfl,cx.row_eq (by simp) (by simp [srow])⟩
  refine K1 ?_
  refine K4w ?_
  refine K3j ?_
  refine s_gval rfl rfl rfl wT (fun hc=>v_neB (u:=[]) rfl gX rfl) ?_
  refine K0 ?_
  refine K3j ?_
  refine s_gval rfl rfl rfl wT (fun hc=>v_idxB rfl (gve hc rfl) rfl Tryz.underlying9 (by decide) (by have h:r1≠[]:=(by simp only [Bool.and_eq_true,Bool.not_eq_true',decide_eq_false_iff_not,decide_eq_true_eq] at hc;exact hc.2);have:=List.length_pos_iff.2 h;omega)) ?_
  refine K2 ?_
  refine cSp rfl (fun hc82=>?_) (fun hc82=>?_)
  ·
   refine K0 ?_
   refine K3i ?_
   refine s_fn cx (c176w r1 _ (by omega) (hE.up cx.ext)) Tryz.func176 rfl rfl rfl rfl rfl rfl ?_;intro q96 w cx hw96 hp96
   obtain ⟨t96,n96,rfl,ht96,hn96⟩:=hp96
   refine Ko ?_
   refine cSp rfl (fun hc100=>?_) (fun hc100=>?_)
   ·
    exact Bz11
   refine Kf ?_
   refine SS ?_
   refine s_callv (args:=[.int .i64 (n96:Nat)]) (cap:=[.pointer (some ⟨b4,0,none⟩)]) (c174 w0 _ b4 _ _ [] _ cx (by omega) p8q) Tryz.func174 rfl rfl rfl rfl rfl rfl rfl ?_;rintro v103 w ⟨hv103,cx⟩
   subst hv103
   refine K2n ?_
   refine SS ?_
   refine Hq ?_;intro q106 w cx hw106 hp106
   subst hp106
   refine Hn ?_;intro b107 w cx hb107 hw107
   refine Ho ?_;intro v108 w cx hgr108
   replace cx:=cx.drop 1
   refine K0 ?_
   exact ⟨_,_,(by simp only [List.length_drop] at hk ⊢;omega),rfl,_,l++[⟨false,bs t96,0⟩],b4,_,rfl,by simp only [List.length_drop];omega,by simp only [List.length_append,List.length_cons,List.length_nil];omega,hs0,hs4,hs5,rfl,cx.row_eq (by simp) (by simp [srow])⟩
  refine K1 ?_
  refine K4w ?_
  refine K3j ?_
  refine s_gfn cx rfl rfl rfl wT (fun hc=>c93 (bs r1) _ p14q) Tryz.func93 rfl rfl rfl (fun hc=>cons_eq (gve hc rfl) rfl) ?_;intro q114 w cx hw114 hp114
  refine Kd3 ?_
  refine K1 ?_
  refine cSp rfl (fun hc109=>?_) (fun hc109=>?_)
  ·
   refine SS ?_
   refine Kc ?_
   refine Kh ?_
   refine K3i ?_
   refine s_fn cx (c93 (bs r1) _ p14q) Tryz.func93 rfl rfl rfl rfl rfl rfl ?_;intro q120 w cx hw120 hp120
   subst hp120
   have hfl:=folN_le (bs r1)
   rw [bs_size] at hfl
   refine s_callv (args:=[.int .i64 (folN (bs r1):Nat)]) (cap:=[.pointer (some ⟨b4,0,none⟩)]) (c174 w0 _ b4 _ _ [] _ cx (by omega) p8q) Tryz.func174 rfl rfl rfl rfl rfl rfl rfl ?_;rintro v121 w ⟨hv121,cx⟩
   subst hv121
   refine Hq ?_;intro q122 w cx hw122 hp122
   subst hp122
   refine Hn ?_;intro b123 w cx hb123 hw123
   refine Ho ?_;intro v124 w cx hgr124
   replace cx:=cx.drop 1
   refine K0 ?_
   exact ⟨_,_,(by simp only [List.length_drop] at hk ⊢;omega),rfl,_,l++[⟨false,bs (r1.take (Int.toNat ((folN (bs r1):Nat):Int))),0⟩],b4,_,rfl,by simp only [List.length_drop];omega,by simp only [List.length_append,List.length_cons,List.length_nil];omega,hs0,hs4,hs5,rfl,cx.row_eq (by simp) (by simp [srow])⟩
  exact Bz11
 refine K38 ?_
 refine K1 ?_
 refine K53 ?_
 refine s_gfnB cx rfl rfl rfl wF (fun hc=>c40 _ l _ (pth_row cx rfl (by have h2:l≠[]:=(by simpa using hc);exact List.length_pos_iff.2 h2)) (by omega)) Tryz.func40 rfl rfl rfl (fun hc=>cons_eq (gve hc rfl) rfl) ?_;intro q130 w cx hw130 hp130
 refine K0 ?_
 have hgl:(!(decide ((l.length:Int)=0)||!q130))=true→GdP l∧0<l.length:=by
  intro hc
  simp only [Bool.not_eq_true',Bool.or_eq_false_iff,decide_eq_false_iff_not,Bool.not_eq_false'] at hc
  have h0:(!decide ((l.length:Int)=0))=true:=by simp only [Bool.not_eq_true',decide_eq_false_iff_not];exact hc.1
  exact ⟨(hp130 h0).1 hc.2,by omega⟩
 refine SS ?_
 refine K53 ?_
 refine s_gfn cx rfl rfl rfl wF (fun hc=>c41 _ l _ (pth_row cx rfl (hgl hc).2) (fun s hs=>((hgl hc).1.2 s hs).gds) (hgl hc).1.1 (ht.up cx.ext)) Tryz.func41 rfl rfl rfl (fun hc=>cons_eq (gve hc rfl) rfl) ?_;intro q135 w cx hw135 hp135
 refine Kx ?_
 refine Kd4 ?_
 refine K0 ?_
 refine cSp rfl (fun hc138=>?_) (fun hc138=>?_)
 ·
  exact Bz11
 refine K11 ?_
 refine K2 ?_
 refine ret_tmp2 Tryz.results108 rfl rfl ?_
 exact ⟨cx.ext,_,l,_,rfl,cx.rows _ (List.mem_cons_self ..),(hgl (by have hq:q130=true:=hc138.1.2;rw [hq];simp only [Bool.not_true,Bool.or_false,Bool.not_eq_true',decide_eq_false_iff_not];omega)).1.1⟩
theorem c56 (s s1 r:List UInt8)(m n:Int)(u1 u2:Bool)(h1:Lib.cut s [32]=(itoa m,s1,u1))(h2:Lib.cut s1 [32]=(itoa n,r,u2))(hm0:0≤m)(hm1:m≤1048576)(hn0:0≤n)(hn1:n≤1048576)(hs:s.length≤1073741824)(hs1:s1.length≤1073741824)(w0:World)(hcn:Cnt w0):Fc Tryz.prog 56 [.string (bs s)] w0 (fun v _=>v=.tuple #[.int .i64 m,.int .i64 n,.string (bs r),.bool true]):=by
 refine ret_enter Tryz.func56 rfl Tryz.ntmps56 rfl ?_
 have cx:=Ctx.start w0
 refine K8 ?_
 refine H29 ?_;intro q14 w cx hw14 hp14
 simp only [h1] at hp14
 subst hp14
 refine Ka ?_
 refine s_fn cx (c105 s1 [32] _ (hcn.up cx.ext) (by omega)) Tryz.func105 rfl rfl rfl rfl rfl rfl ?_;intro q20 w cx hw20 hp20
 simp only [h2] at hp20
 subst hp20
 refine Ka ?_
 refine s_fn cx (c106 m _ hm0 hm1) Tryz.func106 rfl rfl rfl rfl rfl rfl ?_;intro q26 w cx hw26 hp26
 subst hp26
 refine K7 ?_
 refine s_fn cx (c106 n _ hn0 hn1) Tryz.func106 rfl rfl rfl rfl rfl rfl ?_;intro q31 w cx hw31 hp31
 subst hp31
 refine K5 ?_
 refine K1l ?_
 refine Kj ?_
 refine Kj ?_
 refine Kj ?_
 refine Kj ?_
 refine q_val rfl rfl (fun w cx hwQ=>v_nilErr Tryz.underlying184 rfl rfl rfl) ?_
 refine Kj ?_
 refine K7e ?_
 refine q_gval rfl rfl rfl wT (fun hc w cx hwQ=>v_nilErr Tryz.underlying184 rfl p4q rfl) ?_
 refine K3h ?_
 refine K5z ?_
 refine K5z ?_
 refine q_nil ?_;rintro w ⟨cx,hwQ5⟩
 refine SS ?_
 refine ret_tmp4 Tryz.results56 rfl rfl rfl rfl ?_
 exact Ez2
theorem bdS48 (m n:Int)(w:World):(Instr.build 48 ([(0,.int .i64 m),(1,.int .i64 n)]:List (Nat×Value)).toArray).run Tryz.prog w=.ok (.agg #[.int .i64 m,.int .i64 n]) w:=by
 go_simp
 try rfl
theorem bdE52 (a:Option Addr)(l c:Nat)(m n:Int)(w:World):(Instr.build 52 ([(0,.slice a l c),(1,.agg #[.int .i64 m,.int .i64 n])]:List (Nat×Value)).toArray).run Tryz.prog w=.ok (.agg #[.slice a l c,.int .i64 m,.int .i64 n]) w:=by
 go_simp
 try rfl
theorem c57c (wb w0:World)(b n:Nat)(f0 f1 f2:Int)(ve vc:Value)(c:ByteArray)(xs:List Value)(L:List (Nat×Obj))(R:List Row)(cx0:Cxr wb w0 ((b,.cells ([.int .i64 f0,.int .i64 f1,.int .i64 f2,ve,vc]:List Value).toArray 35)::L) (⟨9,1,vc,n,xs⟩::R))(hn:n≤1048576)(hv:validD c.data.toList=true)(hc:c.size≤1024):Ret Tryz.prog 57 [.pointer (some ⟨b,0,none⟩),.string (bs (colT c))] w0 (fun v w'=>v=.bool true∧∃ vc',Cxr wb w' ((b,.cells ([.int .i64 f0,.int .i64 f1,.int .i64 f2,ve,vc']:List Value).toArray 35)::L) (⟨9,1,vc',n+1,xs++[.string c]⟩::R)):=by
 refine Ka3 ?_
 have cx:=cx0
 refine K6 ?_
 refine s_fn cx (c55 (colT c) [99,111,108,117,109,110,32] _) Tryz.func55 rfl rfl rfl rfl rfl rfl ?_;intro q17 w cx hw17 hp17
 simp only [(pre_col c).1,(pre_col c).2] at hp17
 subst hp17
 refine K8 ?_
 refine K3x ?_
 refine s_fn cx (c107 c _ hv hc) Tryz.func107 rfl rfl rfl rfl rfl rfl ?_;intro q23 w cx hw23 hp23
 subst hp23
 refine K1 ?_
 refine Hx ?_;intro b7 w cx hb7 hw7
 refine Hy ?_;intro w cx hwS3
 refine K1 ?_
 refine Kf9 ?_
 refine Kz ?_
 refine Kz ?_
 refine K9u ?_
 refine pu_one rfl (wnt_none rfl) (fun w cx=>v_fa fa35_4 rfl rfl) ?_
 refine Kfa ?_
 refine pu_one rfl (wnt_none rfl) (fun w cx=>v_fa fa83_4 rfl rfl) ?_
 refine K97 ?_
 refine Hv ?_;intro w cx hwD4
 refine K1s ?_
 refine Ha ?_;intro b33 w cx hb33 hw33
 refine x_next ⟨.inl p18q,?_⟩
 refine K1h ?_
 refine Hb ?_;intro v34 w cx hgr34
 replace cx:=cx.drop 1
 refine x_next ⟨.inl p18q,?_⟩
 refine K1c ?_
 refine K17 ?_
 refine K1r ?_
 refine K5k ?_
 refine K6u ?_
 refine s_store1 (v:=v34) cx 1 rfl rfl rfl rfl rfl cx.oneS rfl rfl sz33 ?_;intro w cx hwS4
 refine K5t ?_
 refine K5 ?_
 refine Ka4 ?_
 exact ⟨rfl,v34,cx.drop 1⟩
theorem c57e (wb w0:World)(b n:Nat)(f0 f1 f2:Int)(ve vc:Value)(e:Ent)(xs:List Value)(L:List (Nat×Obj))(R:List Row)(cx0:Cxr wb w0 ((b,.cells ([.int .i64 f0,.int .i64 f1,.int .i64 f2,ve,vc]:List Value).toArray 35)::L) (⟨52,3,ve,n,xs⟩::R))(hn:n≤1048576)(hg:GdP e.path)(h0:0<e.path.length)(hr0:0≤e.fr)(hr1:e.fr≤1048576)(hr2:0≤e.to)(hr3:e.to≤1048576)(hcn:Cnt wb)(ht:Tabs wb):Ret Tryz.prog 57 [.pointer (some ⟨b,0,none⟩),.string (bs (entT e))] w0 (fun v w'=>v=.bool true∧∃ ve' p,Cxr wb w' ((b,.cells ([.int .i64 f0,.int .i64 f1,.int .i64 f2,ve',vc]:List Value).toArray 35)::L) (⟨52,3,ve',n+1,xs++erow p e⟩::prow 107 p e::R)):=by
 have hel:=entT_len hg hr0 hr1 hr2 hr3
 refine Ka3 ?_
 have cx:=cx0
 refine K6 ?_
 refine s_fn cx (c55 (entT e) [99,111,108,117,109,110,32] _) Tryz.func55 rfl rfl rfl rfl rfl rfl ?_;intro q17 w cx hw17 hp17
 simp only [(pre_ent hr0).1,(pre_ent hr0).2] at hp17
 subst hp17
 refine K8 ?_
 refine K1a ?_
 refine s_fn cx (c56 (entT e) (itoa e.to++32::pathT e.path) (pathT e.path) e.fr e.to true true (ent_cut hr0) (cut1_hit _ _ _ (itoa_32 hr2)) hr0 hr1 hr2 hr3 (by omega) (by omega) _ (hcn.up cx.ext)) Tryz.func56 rfl rfl rfl rfl rfl rfl ?_;intro q41 w cx hw41 hp41
 subst hp41
 refine K14 ?_
 have cxB:=cx
 refine s_fn cx (c108 e.path _ hg h0 (ht.up cx.ext)) Tryz.func108 rfl rfl rfl rfl rfl rfl ?_;intro q48 w cx hw48 hp48
 obtain ⟨pv,rfl,hrow⟩:=hp48
 replace cx:=cxB.callRow hw48 hrow
 obtain ⟨a48,c48,rfl⟩:=cx.rowSl
 replace cx:=cx.swapR
 refine Ka ?_
 refine K5l ?_
 refine Kfb ?_
 refine K1 ?_
 refine s_val rfl rfl (v_build (qs:=[(0,.int .i64 e.fr),(1,.int .i64 e.to)]) (bdS48 e.fr e.to) rfl rfl) ?_
 refine s_val rfl rfl (v_build (qs:=[(0,.slice a48 e.path.length c48),(1,.agg #[.int .i64 e.fr,.int .i64 e.to])]) (bdE52 a48 e.path.length c48 e.fr e.to) rfl rfl) ?_
 refine H2a ?_;intro b61 w cx hb61 hw61
 refine H2b ?_;intro v62 w cx hgr62
 replace cx:=cx.drop 1
 refine SS ?_
 refine K5l ?_
 refine s_store1 (v:=v62) cx 0 rfl rfl rfl rfl rfl cx.oneS rfl rfl sz32 ?_;intro w cx hwS8
 refine Ka ?_
 refine Ka4 ?_
 exact ⟨rfl,v62,.slice a48 e.path.length c48,cx⟩
end Go.Proofs.YthiafbkolhnadaaGreatDoor
end
