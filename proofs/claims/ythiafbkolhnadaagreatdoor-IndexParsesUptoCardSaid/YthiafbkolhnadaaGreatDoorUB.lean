/-
  Several texts in one: Pc, Px, Pn, Bd, Pd, Py, Pz, Mp, Or, Bf, Bg, Bh, Bs, Pq, Pv, Pw, Pg, Ia, Ea, Eb, Ec, Ed
-/
import Derived.Test.YthiafbkolhnadaaGreatDoorUA
import Derived.Lib.DecodeN
import Derived.Lib.ValidLaws
import Derived.Still
import Derived.Deep.Quiet
import Derived.MapKept
import Derived.Orders
import Derived.Lib.ConvBytes
import Derived.Lib.FrozenHead
import Derived.Lib.Atoi
import Derived.Lib.SplitLaws
set_option linter.unusedSimpArgs false
set_option linter.unusedVariables false
set_option maxHeartbeats 4000000
set_option maxRecDepth 10000
section
namespace Go.Dk
open Go Go.RowKit Go.Lib
def dz (n b0 b1 b2 b3:Nat):Nat:=if decodeN n b0 b1 b2 b3=(65533,1) then 0 else (decodeN n b0 b1 b2 b3).2
def bA (s:ByteArray)(j:Nat):Nat:=(s.data.toList.getD j 0).toNat
theorem bA_lt (s:ByteArray)(j:Nat):bA s j<256:=(s.data.toList.getD j 0).toNat_lt
theorem byteAt_bA (s:ByteArray)(j:Nat):byteAt s (j:Int)=(bA s j:Int):=rfl
def szAt (s:ByteArray)(a:Nat):Nat:=dz (s.size-a) (bA s a) (bA s (a+1)) (bA s (a+2)) (bA s (a+3))
theorem dz_bad {n b0 b1 b2 b3:Nat}(e:decodeN n b0 b1 b2 b3=(65533,1)):dz n b0 b1 b2 b3=0:=by unfold dz;rw [if_pos e]
theorem dz_good {n b0 b1 b2 b3 r k:Nat}(e:decodeN n b0 b1 b2 b3=(r,k))(h:r≠65533∨k≠1):dz n b0 b1 b2 b3=k:=by
 unfold dz
 rw [e,if_neg]
 intro h2
 simp only [Prod.mk.injEq] at h2
 omega
theorem dz_1 {n b0 b1 b2 b3:Nat}(h:b0<128):dz n b0 b1 b2 b3=1 :=
 dz_good (r:=b0) (by unfold decodeN;rw [if_pos h]) (by omega)
theorem dz_mid {n b0 b1 b2 b3:Nat}(h:128≤b0)(h2:b0<192∨248≤b0)(h3:b0<256):dz n b0 b1 b2 b3=0 :=
 dz_bad p13q
theorem dz_no2 {n b0 b1 b2 b3:Nat}(h:192≤b0)(h2:b0<224)(h3:n<2∨b1 / 64≠2):dz n b0 b1 b2 b3=0 :=
 dz_bad p13q
theorem dz_2 {n b0 b1 b2 b3:Nat}(h:192≤b0)(h2:b0<224)(h3:2≤n)(h4:b1 / 64=2):dz n b0 b1 b2 b3=if 128≤b0%32*64+b1%64 then 2 else 0:=by
 by_cases hc:128≤b0%32*64+b1%64
 · rw [if_pos hc]
   exact dz_good (r:=b0%32*64+b1%64) (by unfold decodeN;rw [if_neg (by omega),if_pos (by omega),if_pos hc]) (by omega)
 · rw [if_neg hc]
   exact dz_bad (by unfold decodeN;rw [if_neg (by omega),if_pos (by omega),if_neg hc])
theorem dz_no3 {n b0 b1 b2 b3:Nat}(h:224≤b0)(h2:b0<240)(h3:n<3∨b1 / 64≠2∨b2 / 64≠2):dz n b0 b1 b2 b3=0 :=
 dz_bad p13q
theorem dz_3 {n b0 b1 b2 b3:Nat}(h:224≤b0)(h2:b0<240)(h3:3≤n)(h4:b1 / 64=2)(h5:b2 / 64=2) :
  dz n b0 b1 b2 b3=if b0%16*4096+b1%64*64+b2%64≥2048∧(b0%16*4096+b1%64*64+b2%64<55296∨57344≤b0%16*4096+b1%64*64+b2%64) then 3 else 0:=by
 by_cases hc:b0%16*4096+b1%64*64+b2%64≥2048∧(b0%16*4096+b1%64*64+b2%64<55296∨57344≤b0%16*4096+b1%64*64+b2%64)
 · rw [if_pos hc]
   exact dz_good (r:=b0%16*4096+b1%64*64+b2%64) (by unfold decodeN;rw [if_neg (by omega),if_neg (by omega),if_pos (by omega),if_pos (by omega)]) (by omega)
 · rw [if_neg hc]
   exact dz_bad (by unfold decodeN;rw [if_neg (by omega),if_neg (by omega),if_pos (by omega),if_neg (by omega)])
theorem dz_no4 {n b0 b1 b2 b3:Nat}(h:240≤b0)(h2:b0<248)(h3:n<4∨b1 / 64≠2∨b2 / 64≠2∨b3 / 64≠2):dz n b0 b1 b2 b3=0 :=
 dz_bad p13q
theorem dz_4 {n b0 b1 b2 b3:Nat}(h:240≤b0)(h2:b0<248)(h3:4≤n)(h4:b1 / 64=2)(h5:b2 / 64=2)(h6:b3 / 64=2) :
  dz n b0 b1 b2 b3=if b0%8*262144+b1%64*4096+b2%64*64+b3%64≥65536∧b0%8*262144+b1%64*4096+b2%64*64+b3%64≤1114111 then 4 else 0:=by
 by_cases hc:b0%8*262144+b1%64*4096+b2%64*64+b3%64≥65536∧b0%8*262144+b1%64*4096+b2%64*64+b3%64≤1114111
 · rw [if_pos hc]
   exact dz_good (r:=b0%8*262144+b1%64*4096+b2%64*64+b3%64) (by unfold decodeN;rw [if_neg (by omega),if_neg (by omega),if_neg (by omega),if_pos (by omega),if_pos (by omega)]) (by omega)
 · rw [if_neg hc]
   exact dz_bad (by unfold decodeN;rw [if_neg (by omega),if_neg (by omega),if_neg (by omega),if_pos (by omega),if_neg (by omega)])
theorem dz_le (n b0 b1 b2 b3:Nat)(hn:1≤n):dz n b0 b1 b2 b3≤n∧dz n b0 b1 b2 b3≤4:=by
 unfold dz
 split
 · omega
 · unfold decodeN
   repeat' split
   all_goals (simp only;omega)
theorem szAt_le (s:ByteArray)(a:Nat)(h:a<s.size):a+szAt s a≤s.size∧szAt s a≤4:=by
 have:=dz_le (s.size-a) (bA s a) (bA s (a+1)) (bA s (a+2)) (bA s (a+3)) (by omega)
 unfold szAt
 omega
theorem getb (l:List UInt8)(a j:Nat):((⟨(l.drop a).toArray⟩:ByteArray).get! j)=l.getD (a+j) 0:=by
 unfold ByteArray.get!
 simp [List.getD,List.getElem?_drop]
 rfl
theorem decodeL_szAt (s:ByteArray)(a:Nat)(h:a<s.size):decodeL (s.data.toList.drop a)=decodeN (s.size-a) (bA s a) (bA s (a+1)) (bA s (a+2)) (bA s (a+3)):=by
 unfold decodeL
 rw [decode_at]
 have hs:(⟨(s.data.toList.drop a).toArray⟩:ByteArray).size-0=s.size-a:=by
  show (s.data.toList.drop a).toArray.size-0=s.data.size-a
  rw [List.size_toArray,List.length_drop,Array.length_toList]
  rfl
 rw [hs,getb,getb,getb,getb]
 rfl
theorem valid_0 (s:ByteArray)(a:Nat)(h:a<s.size)(hz:szAt s a=0):validD (s.data.toList.drop a)=false:=by
 have hne:s.data.toList.drop a≠[]:=by
  intro e
  have:=congrArg List.length e
  simp at this
  have h2:s.data.size=s.size:=rfl
  omega
 rw [validD_step _ hne,decodeL_szAt s a h]
 have hb:decodeN (s.size-a) (bA s a) (bA s (a+1)) (bA s (a+2)) (bA s (a+3))=(65533,1):=by
  unfold szAt dz at hz
  split at hz
  · assumption
  · exfalso
    revert hz
    unfold decodeN
    repeat' split
    all_goals simp
 rw [hb];simp
theorem valid_n (s:ByteArray)(a:Nat)(h:a<s.size)(hz:szAt s a≠0):validD (s.data.toList.drop a)=validD (s.data.toList.drop (a+szAt s a)):=by
 have hne:s.data.toList.drop a≠[]:=by
  intro e
  have:=congrArg List.length e
  simp at this
  have h2:s.data.size=s.size:=rfl
  omega
 rw [validD_step _ hne,decodeL_szAt s a h]
 unfold szAt dz at hz ⊢
 split at hz
 · exact absurd rfl hz
 · rename_i hn
   rw [if_neg hn,if_neg (fun e=>hn (Prod.ext e.1 e.2)),List.drop_drop]
theorem valid_end (s:ByteArray)(a:Nat)(h:s.size≤a):validD (s.data.toList.drop a)=true:=by
 rw [List.drop_eq_nil_of_le p19q]
 exact validD_nil
def accN (s:ByteArray)(a r0:Nat):Nat→Nat
 | 0=>r0
 | i+1=>accN s a r0 i*64+bA s (a+(i+1))%64
theorem accN_lt (s:ByteArray)(a r0:Nat)(h:r0<256):∀ i,i≤3→accN s a r0 i<256*64^i
 | 0,_=>by simpa [accN] using h
 | i+1,hi=>by
  have:=accN_lt s a r0 h i (by omega)
  simp only [accN,Nat.pow_succ]
  omega
theorem and_lows:∀ b:Fin 256,bitOp .and .i64 (b.val:Int) 7=((b.val%8:Nat):Int)∧bitOp .and .i64 (b.val:Int) 15=((b.val%16:Nat):Int)∧bitOp .and .i64 (b.val:Int) 31=((b.val%32:Nat):Int)∧bitOp .and .i64 (b.val:Int) 63=((b.val%64:Nat):Int):=by decide +kernel
theorem and_low8:∀ b:Fin 256,bitOp .and .u8 (b.val:Int) 7=((b.val%8:Nat):Int)∧bitOp .and .u8 (b.val:Int) 15=((b.val%16:Nat):Int)∧bitOp .and .u8 (b.val:Int) 31=((b.val%32:Nat):Int)∧bitOp .and .u8 (b.val:Int) 63=((b.val%64:Nat):Int)∧(bitOp .and .u8 (b.val:Int) 192=128↔b.val / 64=2):=by decide +kernel
theorem or_highs:∀ b:Fin 64,bitOp .or .i64 128 (b.val:Int)=((128+b.val:Nat):Int)∧(b.val<32→bitOp .or .i64 192 (b.val:Int)=((192+b.val:Nat):Int))∧(b.val<16→bitOp .or .i64 224 (b.val:Int)=((224+b.val:Nat):Int))∧(b.val<8→bitOp .or .i64 240 (b.val:Int)=((240+b.val:Nat):Int)):=by decide +kernel
theorem and7 {b:Nat}(h:b<256):bitOp .and .i64 (b:Int) 7=((b%8:Nat):Int):=(and_lows ⟨b,h⟩).1
theorem and15 {b:Nat}(h:b<256):bitOp .and .i64 (b:Int) 15=((b%16:Nat):Int):=(and_lows ⟨b,h⟩).2.1
theorem and31 {b:Nat}(h:b<256):bitOp .and .i64 (b:Int) 31=((b%32:Nat):Int):=(and_lows ⟨b,h⟩).2.2.1
theorem and63 {b:Nat}(h:b<256):bitOp .and .i64 (b:Int) 63=((b%64:Nat):Int):=(and_lows ⟨b,h⟩).2.2.2
theorem and7b {b:Nat}(h:b<256):bitOp .and .u8 (b:Int) 7=((b%8:Nat):Int):=(and_low8 ⟨b,h⟩).1
theorem and15b {b:Nat}(h:b<256):bitOp .and .u8 (b:Int) 15=((b%16:Nat):Int):=(and_low8 ⟨b,h⟩).2.1
theorem and31b {b:Nat}(h:b<256):bitOp .and .u8 (b:Int) 31=((b%32:Nat):Int):=(and_low8 ⟨b,h⟩).2.2.1
theorem and63b {b:Nat}(h:b<256):bitOp .and .u8 (b:Int) 63=((b%64:Nat):Int):=(and_low8 ⟨b,h⟩).2.2.2.1
theorem and192b {b:Nat}(h:b<256):bitOp .and .u8 (b:Int) 192=128↔b / 64=2:=(and_low8 ⟨b,h⟩).2.2.2.2
theorem or128 {b:Nat}(h:b<64):bitOp .or .i64 128 (b:Int)=((128+b:Nat):Int):=(or_highs ⟨b,h⟩).1
theorem or192 {b:Nat}(h:b<32):bitOp .or .i64 192 (b:Int)=((192+b:Nat):Int):=(or_highs ⟨b,by omega⟩).2.1 h
theorem or224 {b:Nat}(h:b<16):bitOp .or .i64 224 (b:Int)=((224+b:Nat):Int):=(or_highs ⟨b,by omega⟩).2.2.1 h
theorem or240 {b:Nat}(h:b<8):bitOp .or .i64 240 (b:Int)=((240+b:Nat):Int):=(or_highs ⟨b,by omega⟩).2.2.2 h
theorem ofI (n:Nat):BitVec.ofInt 64 (n:Int)=BitVec.ofNat 64 n:=by
 apply BitVec.eq_of_toNat_eq
 simp
theorem shl6 {r:Nat}(h:r<4294967296):shl .i64 (r:Int) 6=((r*64:Nat):Int):=by
 unfold shl
 have:IntKind.i64.wrap ((r:Int)*2^min 6 IntKind.i64.bits)=((r*64:Nat):Int):=by
  have e:((r:Int)*2^min 6 IntKind.i64.bits)=((r*64:Nat):Int):=by
   simp [IntKind.bits]
  rw [e]
  exact Ez4
 exact this
theorem or_add {r x:Nat}(h:r<4294967296)(hx:x<64):bitOp .or .i64 ((r*64:Nat):Int) (x:Int)=((r*64+x:Nat):Int):=by
 unfold bitOp
 simp only
 have e1:IntKind.i64.bits=64:=rfl
 rw [e1,ofI,ofI,BitVec.toNat_or,BitVec.toNat_ofNat,BitVec.toNat_ofNat,Nat.mod_eq_of_lt (by omega),Nat.mod_eq_of_lt (by omega)]
 have e2:r*64 ||| x=r*64+x:=by
  have:=Nat.shiftLeft_add_eq_or_of_lt (i:=6) (show x<2^6 by omega) r
  rw [Nat.shiftLeft_eq] at this
  exact this.symm
 rw [e2]
 exact Ez4
theorem shrN {r:Nat}(k:Nat)(hk:k≤64):shr .i64 (r:Int) k=((r / 2^k:Nat):Int):=by
 unfold shr
 have e:min k IntKind.i64.bits=k:=by simp [IntKind.bits];omega
 rw [e,Int.fdiv_eq_ediv_of_nonneg _ (Int.pow_nonneg (by decide)),Int.natCast_ediv]
 simp
theorem and63N {r:Nat}(h:r<4294967296):bitOp .and .i64 (r:Int) 63=((r%64:Nat):Int):=by
 unfold bitOp
 simp only
 have e1:IntKind.i64.bits=64:=rfl
 have e2:(63:Int)=((63:Nat):Int):=rfl
 rw [e1,e2,ofI,ofI,BitVec.toNat_and,BitVec.toNat_ofNat,BitVec.toNat_ofNat,Nat.mod_eq_of_lt (by omega),Nat.mod_eq_of_lt (by omega)]
 have e3:r &&& 63=r%64:=Nat.and_two_pow_sub_one_eq_mod r 6
 rw [e3]
 exact Ez4
theorem u8_in {n:Nat}(h:n<256):IntKind.u8.wrap (n:Int)=(n:Int):=by
 simp [IntKind.wrap,IntKind.signed,IntKind.bits];omega
def chN (r:Nat):Bool:=decide (r≤1114111)&&(decide (r<55296)||decide (57343<r))
def encN (r:Nat):List UInt8 :=
 if chN r=false then [] else if r<128 then [UInt8.ofNat r] else if r<2048 then [UInt8.ofNat (192+r / 64),UInt8.ofNat (128+r%64)]
 else if r<65536 then [UInt8.ofNat (224+r / 4096),UInt8.ofNat (128+r / 64%64),UInt8.ofNat (128+r%64)]
 else [UInt8.ofNat (240+r / 262144),UInt8.ofNat (128+r / 4096%64),UInt8.ofNat (128+r / 64%64),UInt8.ofNat (128+r%64)]
def hdR (b:Nat):Nat×Nat:=if 240≤b then (4,b%8) else if 224≤b then (3,b%16) else if 192≤b then (2,b%32) else (1,b)
def hdU (b:Nat):Nat×Nat:=if b<128 then (1,b) else if 192≤b∧b<224 then (2,b%32) else if 224≤b∧b<240 then (3,b%16) else if 240≤b∧b<248 then (4,b%8) else (0,0)
def wdN (r:Nat):Nat:=if r<128 then 1 else if r<2048 then 2 else if r<65536 then 3 else 4
theorem u8n (x:Nat)(c:UInt8)(h:x<256):UInt8.ofNat x=c↔x=c.toNat:=by
 constructor
 · rintro rfl;exact (u8t h).symm
 · rintro rfl;exact UInt8.ofNat_toNat
theorem chN_iff (r:Nat):chN r=true↔r≤1114111∧(r<55296∨57343<r):=by
 unfold chN
 simp
theorem bA_i (s:ByteArray)(j:Nat)(h:j<s.size):s.data.toList.drop j=(s.data.toList.getD j 0)::s.data.toList.drop (j+1):=by
 have h':j<s.data.toList.length:=by simpa using h
 rw [List.drop_eq_getElem_cons h']
 simp [List.getD,List.getElem?_eq_getElem h']
theorem szU_short {s:ByteArray}{a:Nat}(ha:a<s.size)(h:(hdU (bA s a)).1=0∨s.size-a<(hdU (bA s a)).1):szAt s a=0:=by
 have h0:=bA_lt s a
 unfold szAt
 unfold hdU at h
 by_cases h1:bA s a<128
 · rw [if_pos h1] at h;simp only at h;omega
 · rw [if_neg h1] at h
   by_cases h2:192≤bA s a∧bA s a<224
   · rw [if_pos h2] at h;simp only at h
     exact dz_no2 h2.1 h2.2 (.inl (by omega))
   · rw [if_neg h2] at h
     by_cases h3:224≤bA s a∧bA s a<240
     · rw [if_pos h3] at h;simp only at h
       exact dz_no3 h3.1 h3.2 (.inl (by omega))
     · rw [if_neg h3] at h
       by_cases h4:240≤bA s a∧bA s a<248
       · rw [if_pos h4] at h;simp only at h
         exact dz_no4 h4.1 h4.2 (.inl (by omega))
       · exact dz_mid (by omega) (by omega) h0
theorem szU_cont {s:ByteArray}{a i:Nat}(h1:1≤i)(h2:i<(hdU (bA s a)).1)(h:bA s (a+i) / 64≠2):szAt s a=0:=by
 have h0:=bA_lt s a
 unfold szAt
 unfold hdU at h2
 split at h2
 · simp only at h2;omega
 · split at h2
   · rename_i h3;simp only at h2
     obtain rfl:i=1:=by omega
     exact dz_no2 h3.1 h3.2 (.inr h)
   · split at h2
     · rename_i h3;simp only at h2
       refine dz_no3 h3.1 h3.2 ?_
       have:i=1∨i=2:=by omega
       rcases this with rfl | rfl
       · exact .inr (.inl h)
       · exact .inr (.inr h)
     · split at h2
       · rename_i h3;simp only at h2
         refine dz_no4 h3.1 h3.2 ?_
         have:i=1∨i=2∨i=3:=by omega
         rcases this with rfl | rfl | rfl
         · exact .inr (.inl h)
         · exact .inr (.inr (.inl h))
         · exact .inr (.inr (.inr h))
       · simp only at h2;omega
theorem szU_end {s:ByteArray}{a:Nat}(ha:a<s.size)(h0:(hdU (bA s a)).1≠0)(hn:(hdU (bA s a)).1≤s.size-a)(hc:∀ i,1≤i→i<(hdU (bA s a)).1→bA s (a+i) / 64=2) :
  szAt s a=if chN (accN s a (hdU (bA s a)).2 ((hdU (bA s a)).1-1))=true∧wdN (accN s a (hdU (bA s a)).2 ((hdU (bA s a)).1-1))=(hdU (bA s a)).1 then (hdU (bA s a)).1 else 0:=by
 have hb:=bA_lt s a
 unfold szAt
 by_cases h1:bA s a<128
 · have e:hdU (bA s a)=(1,bA s a):=by unfold hdU;rw [if_pos h1]
   rw [dz_1 h1,e]
   simp only [Nat.sub_self,accN]
   rw [if_pos]
   exact ⟨(chN_iff _).2 (by omega),by unfold wdN;rw [if_pos h1]⟩
 · by_cases h2:192≤bA s a∧bA s a<224
   · have e:hdU (bA s a)=(2,bA s a%32):=by unfold hdU;rw [if_neg h1,if_pos h2]
     rw [e] at hn hc ⊢
     simp only at hn hc ⊢
     rw [dz_2 h2.1 h2.2 hn (hc 1 (by omega) (by omega))]
     exact Bz129
   · by_cases h3:224≤bA s a∧bA s a<240
     · have e:hdU (bA s a)=(3,bA s a%16):=by unfold hdU;rw [if_neg h1,if_neg h2,if_pos h3]
       rw [e] at hn hc ⊢
       simp only at hn hc ⊢
       rw [dz_3 h3.1 h3.2 hn (hc 1 (by omega) (by omega)) (hc 2 (by omega) (by omega))]
       exact Bz129
     · by_cases h4:240≤bA s a∧bA s a<248
       · have e:hdU (bA s a)=(4,bA s a%8):=by unfold hdU;rw [if_neg h1,if_neg h2,if_neg h3,if_pos h4]
         rw [e] at hn hc ⊢
         simp only at hn hc ⊢
         rw [dz_4 h4.1 h4.2 hn (hc 1 (by omega) (by omega)) (hc 2 (by omega) (by omega)) (hc 3 (by omega) (by omega))]
         exact Bz129
       · exfalso
         apply h0
         unfold hdU
         rw [if_neg h1,if_neg h2,if_neg h3,if_neg h4]
theorem szR_short {s:ByteArray}{a:Nat}(ha:a<s.size)(h:s.size-a<(hdR (bA s a)).1):szAt s a=0:=by
 have h0:=bA_lt s a
 unfold szAt
 unfold hdR at h
 by_cases h4:240≤bA s a
 · rw [if_pos h4] at h;simp only at h
   by_cases h5:bA s a<248
   · exact dz_no4 h4 h5 (.inl h)
   · exact dz_mid (by omega) (by omega) h0
 · rw [if_neg h4] at h
   by_cases h3:224≤bA s a
   · rw [if_pos h3] at h;simp only at h
     exact dz_no3 h3 (by omega) (.inl h)
   · rw [if_neg h3] at h
     by_cases h2:192≤bA s a
     · rw [if_pos h2] at h;simp only at h
       exact dz_no2 h2 (by omega) (.inl h)
     · rw [if_neg h2] at h;simp only at h;omega
theorem szR_end {s:ByteArray}{a:Nat}(ha:a<s.size)(hn:(hdR (bA s a)).1≤s.size-a) :
  szAt s a=if chN (accN s a (hdR (bA s a)).2 ((hdR (bA s a)).1-1))=true∧encN (accN s a (hdR (bA s a)).2 ((hdR (bA s a)).1-1))=(s.data.toList.drop a).take (hdR (bA s a)).1 then (hdR (bA s a)).1 else 0:=by
 have hb0:=bA_lt s a
 have hb1:=bA_lt s (a+1)
 have hb2:=bA_lt s (a+2)
 have hb3:=bA_lt s (a+3)
 unfold szAt
 by_cases h4:240≤bA s a
 · have e:hdR (bA s a)=(4,bA s a%8):=by unfold hdR;rw [if_pos h4]
   rw [e] at hn ⊢
   simp only at hn ⊢
   have d0:=bA_i s a (by omega)
   have d1:=bA_i s (a+1) (by omega)
   have d2:=bA_i s (a+1+1) (by omega)
   have d3:=bA_i s (a+1+1+1) (by omega)
   rw [d0,d1,d2,d3]
   simp only [List.take_succ_cons,List.take_zero,accN,Nat.zero_add]
   generalize hr:((bA s a%8*64+bA s (a+1)%64)*64+bA s (a+(1+1))%64)*64+bA s (a+(1+1+1))%64=r
   have hr':bA s a%8*262144+bA s (a+1)%64*4096+bA s (a+2)%64*64+bA s (a+3)%64=r:=by (have e2:bA s (a+(1+1))=bA s (a+2):=rfl);(have e3:bA s (a+(1+1+1))=bA s (a+3):=rfl);rw [← hr];omega
   have henc:(chN r=true∧encN r=[s.data.toList.getD a 0,s.data.toList.getD (a+1) 0,s.data.toList.getD (a+1+1) 0,s.data.toList.getD (a+1+1+1) 0])↔(65536≤r∧r≤1114111∧240+r / 262144=bA s a∧128+r / 4096%64=bA s (a+1)∧128+r / 64%64=bA s (a+2)∧128+r%64=bA s (a+3)):=by
    constructor
    · rintro ⟨c1,c2⟩
      have c3:=(chN_iff r).1 c1
      unfold encN at c2
      rw [if_neg (by rw [c1];exact Bool.noConfusion)] at c2
      split at c2
      · simp at c2
      · split at c2
        · simp at c2
        · split at c2
          · simp at c2
          · simp only [List.cons.injEq,and_true] at c2
            rw [u8n _ _ (by omega),u8n _ _ (by omega),u8n _ _ (by omega),u8n _ _ (by omega)] at c2
            exact ⟨by omega,by omega,c2.1,c2.2.1,c2.2.2.1,c2.2.2.2⟩
    · rintro ⟨c1,c2,c3,c4,c5,c6⟩
      have c7:chN r=true:=(chN_iff r).2 (by omega)
      refine ⟨c7,?_⟩
      unfold encN
      rw [if_neg (by rw [c7];exact Bool.noConfusion),if_neg (by omega),if_neg (by omega),if_neg (by omega)]
      simp only [List.cons.injEq,and_true]
      rw [u8n _ _ (by omega),u8n _ _ (by omega),u8n _ _ (by omega),u8n _ _ (by omega)]
      exact ⟨c3,c4,c5,c6⟩
   rw [show (if (chN r=true∧encN r=[s.data.toList.getD a 0,s.data.toList.getD (a+1) 0,s.data.toList.getD (a+1+1) 0,s.data.toList.getD (a+1+1+1) 0]) then 4 else 0)=(if (65536≤r∧r≤1114111∧240+r / 262144=bA s a∧128+r / 4096%64=bA s (a+1)∧128+r / 64%64=bA s (a+2)∧128+r%64=bA s (a+3)) then 4 else 0) by simp only [henc]]
   by_cases h5:bA s a<248
   · by_cases hc:bA s (a+1) / 64=2∧bA s (a+2) / 64=2∧bA s (a+3) / 64=2
     · rw [dz_4 h4 h5 hn hc.1 hc.2.1 hc.2.2,hr']
       repeat' split
       all_goals omega
     · rw [dz_no4 h4 h5 (.inr (by omega)),if_neg (by omega)]
   · rw [dz_mid (by omega) (by omega) hb0,if_neg (by omega)]
 · by_cases h3:224≤bA s a
   · have e:hdR (bA s a)=(3,bA s a%16):=by unfold hdR;rw [if_neg h4,if_pos h3]
     rw [e] at hn ⊢
     simp only at hn ⊢
     have d0:=bA_i s a (by omega)
     have d1:=bA_i s (a+1) (by omega)
     have d2:=bA_i s (a+1+1) (by omega)
     rw [d0,d1,d2]
     simp only [List.take_succ_cons,List.take_zero,accN,Nat.zero_add]
     generalize hr:(bA s a%16*64+bA s (a+1)%64)*64+bA s (a+(1+1))%64=r
     have hr':bA s a%16*4096+bA s (a+1)%64*64+bA s (a+2)%64=r:=by (have e2:bA s (a+(1+1))=bA s (a+2):=rfl);(have e3:bA s (a+(1+1+1))=bA s (a+3):=rfl);rw [← hr];omega
     have henc:(chN r=true∧encN r=[s.data.toList.getD a 0,s.data.toList.getD (a+1) 0,s.data.toList.getD (a+1+1) 0])↔(2048≤r∧(r<55296∨57343<r)∧224+r / 4096=bA s a∧128+r / 64%64=bA s (a+1)∧128+r%64=bA s (a+2)):=by
      constructor
      · rintro ⟨c1,c2⟩
        have c3:=(chN_iff r).1 c1
        unfold encN at c2
        rw [if_neg (by rw [c1];exact Bool.noConfusion)] at c2
        split at c2
        · simp at c2
        · split at c2
          · simp at c2
          · split at c2
            · simp only [List.cons.injEq,and_true] at c2
              rw [u8n _ _ (by omega),u8n _ _ (by omega),u8n _ _ (by omega)] at c2
              exact ⟨by omega,by omega,c2.1,c2.2.1,c2.2.2⟩
            · simp at c2
      · rintro ⟨c1,c2,c3,c4,c5⟩
        have c7:chN r=true:=(chN_iff r).2 (by omega)
        refine ⟨c7,?_⟩
        unfold encN
        rw [if_neg (by rw [c7];exact Bool.noConfusion),if_neg (by omega),if_neg (by omega),if_pos (by omega)]
        simp only [List.cons.injEq,and_true]
        rw [u8n _ _ (by omega),u8n _ _ (by omega),u8n _ _ (by omega)]
        exact ⟨c3,c4,c5⟩
     rw [show (if (chN r=true∧encN r=[s.data.toList.getD a 0,s.data.toList.getD (a+1) 0,s.data.toList.getD (a+1+1) 0]) then 3 else 0)=(if (2048≤r∧(r<55296∨57343<r)∧224+r / 4096=bA s a∧128+r / 64%64=bA s (a+1)∧128+r%64=bA s (a+2)) then 3 else 0) by simp only [henc]]
     by_cases hc:bA s (a+1) / 64=2∧bA s (a+2) / 64=2
     · rw [dz_3 h3 (by omega) hn hc.1 hc.2,hr']
       repeat' split
       all_goals omega
     · rw [dz_no3 h3 (by omega) (.inr (by omega)),if_neg (by omega)]
   · by_cases h2:192≤bA s a
     · have e:hdR (bA s a)=(2,bA s a%32):=by unfold hdR;rw [if_neg h4,if_neg h3,if_pos h2]
       rw [e] at hn ⊢
       simp only at hn ⊢
       have d0:=bA_i s a (by omega)
       have d1:=bA_i s (a+1) (by omega)
       rw [d0,d1]
       simp only [List.take_succ_cons,List.take_zero,accN,Nat.zero_add]
       generalize hr:bA s a%32*64+bA s (a+1)%64=r
       have henc:(chN r=true∧encN r=[s.data.toList.getD a 0,s.data.toList.getD (a+1) 0])↔(128≤r∧192+r / 64=bA s a∧128+r%64=bA s (a+1)):=by
        constructor
        · rintro ⟨c1,c2⟩
          have c3:=(chN_iff r).1 c1
          unfold encN at c2
          rw [if_neg (by rw [c1];exact Bool.noConfusion)] at c2
          split at c2
          · simp at c2
          · split at c2
            · simp only [List.cons.injEq,and_true] at c2
              rw [u8n _ _ (by omega),u8n _ _ (by omega)] at c2
              exact ⟨by omega,c2.1,c2.2⟩
            · split at c2
              · simp at c2
              · simp at c2
        · rintro ⟨c1,c3,c4⟩
          have c7:chN r=true:=(chN_iff r).2 (by omega)
          refine ⟨c7,?_⟩
          unfold encN
          rw [if_neg (by rw [c7];exact Bool.noConfusion),if_neg (by omega),if_pos (by omega)]
          simp only [List.cons.injEq,and_true]
          rw [u8n _ _ (by omega),u8n _ _ (by omega)]
          exact ⟨c3,c4⟩
       rw [show (if (chN r=true∧encN r=[s.data.toList.getD a 0,s.data.toList.getD (a+1) 0]) then 2 else 0)=(if (128≤r∧192+r / 64=bA s a∧128+r%64=bA s (a+1)) then 2 else 0) by simp only [henc]]
       by_cases hc:bA s (a+1) / 64=2
       · rw [dz_2 h2 (by omega) hn hc,hr]
         repeat' split
         all_goals omega
       · rw [dz_no2 h2 (by omega) (.inr hc),if_neg (by omega)]
     · have e:hdR (bA s a)=(1,bA s a):=by unfold hdR;rw [if_neg h4,if_neg h3,if_neg h2]
       rw [e] at hn ⊢
       simp only at hn ⊢
       have d0:=bA_i s a (by omega)
       rw [d0]
       simp only [List.take_succ_cons,List.take_zero,Nat.sub_self,accN]
       generalize hr:bA s a=r at *
       have henc:(chN r=true∧encN r=[s.data.toList.getD a 0])↔r<128:=by
        constructor
        · rintro ⟨c1,c2⟩
          unfold encN at c2
          rw [if_neg (by rw [c1];exact Bool.noConfusion)] at c2
          split at c2
          · assumption
          · split at c2
            · simp at c2
            · split at c2 <;> simp at c2
        · intro c1
          have c7:chN r=true:=(chN_iff r).2 (by omega)
          refine ⟨c7,?_⟩
          unfold encN
          rw [if_neg (by rw [c7];exact Bool.noConfusion),if_pos c1]
          simp only [List.cons.injEq,and_true]
          rw [u8n _ _ (by omega)]
          exact hr.symm
       rw [show (if (chN r=true∧encN r=[s.data.toList.getD a 0]) then 1 else 0)=(if r<128 then 1 else 0) by simp only [henc]]
       by_cases h1:r<128
       · rw [dz_1 h1,if_pos h1]
       · rw [dz_mid (by omega) (by omega) hb0,if_neg h1]
end Go.Dk
namespace Go.Dk
open Go Go.RowKit Go.Lib
theorem hdR_lo (b:Nat):1≤(hdR b).1∧(hdR b).1≤4∧((hdR b).2<256∨256≤b):=by
 unfold hdR
 repeat' split
 all_goals (simp only;omega)
theorem hdU_lo (b:Nat)(h:b<256):(hdU b).1≤4∧(hdU b).2<256:=by
 unfold hdU
 repeat' split
 all_goals (simp only;omega)
theorem strOf_w1 {a:Nat}(ha:a<256):strOf [IntKind.u8.wrap (a:Int)]=bs [UInt8.ofNat a]:=by
 rw [u8_in ha];simp [strOf,bs];rfl
theorem strOf_w2 {a b:Nat}(ha:a<256)(hb:b<256):strOf [IntKind.u8.wrap (a:Int),IntKind.u8.wrap (b:Int)]=bs [UInt8.ofNat a,UInt8.ofNat b]:=by
 rw [u8_in ha,u8_in hb];simp [strOf,bs];rfl
theorem strOf_w3 {a b c:Nat}(ha:a<256)(hb:b<256)(hc:c<256):strOf [IntKind.u8.wrap (a:Int),IntKind.u8.wrap (b:Int),IntKind.u8.wrap (c:Int)]=bs [UInt8.ofNat a,UInt8.ofNat b,UInt8.ofNat c]:=by
 rw [u8_in ha,u8_in hb,u8_in hc];simp [strOf,bs];rfl
theorem strOf_w4 {a b c d:Nat}(ha:a<256)(hb:b<256)(hc:c<256)(hd:d<256):strOf [IntKind.u8.wrap (a:Int),IntKind.u8.wrap (b:Int),IntKind.u8.wrap (c:Int),IntKind.u8.wrap (d:Int)]=bs [UInt8.ofNat a,UInt8.ofNat b,UInt8.ofNat c,UInt8.ofNat d]:=by
 rw [u8_in ha,u8_in hb,u8_in hc,u8_in hd];simp [strOf,bs];rfl
theorem cut_list {s:ByteArray}{a b:Nat}(h1:a≤b)(h2:b≤s.size):(s.extract a b).data.toList=(s.data.toList.drop a).take (b-a):=by
 rw [ByteArray.data_extract]
 simp
theorem tup_h {b:Nat}{p:Nat×Nat}{x y:Value}(h:hdU b=p)(hx:x=.int .i64 p.1)(hy:y=.int .i64 p.2):Value.tuple #[x,y]=.tuple #[.int .i64 (hdU b).1,.int .i64 (hdU b).2]:=by subst h hx hy;rfl
theorem cut_list' {s:ByteArray}{a i:Nat}{m:Int}(h1:m=((a+i:Nat):Int))(h2:a+i≤s.size):(s.extract (Int.toNat (a:Int)) m.toNat).data.toList=(s.data.toList.drop a).take i:=by
 subst h1
 have:=cut_list (s:=s) (a:=a) (b:=a+i) (by omega) h2
 rw [show a+i-a=i by omega] at this
 rw [Int.toNat_natCast,Int.toNat_natCast]
 exact this
theorem congr_cut {s:ByteArray}{a i:Nat}{m:Int}(h1:m=((a+i:Nat):Int))(h2:a+i≤s.size):bs ((s.data.toList.drop a).take i)=s.extract (Int.toNat (a:Int)) m.toNat:=by
 rw [← cut_list' h1 h2];exact bs_of _
end Go.Dk
end
section
namespace Go.Dk
open Go Go.RowKit Go.Lib
structure Ent where
 path:List Stp
 fr:Int
 to:Int
structure Idx where
 fmt:Int
 size:Int
 depth:Int
 ents:List Ent
 cols:List ByteArray
def Ens (w:World)(s:Value)(l:List Ent):Prop:=∃ b o,SliceAt (fun b=>b<w.heap.size) s l.length b o∧∀ i x,l[i]?=some x→∃ p,RowAt w b (o+i*3) [p,.int .i64 x.fr,.int .i64 x.to]∧Pth w p x.path
theorem Ens.up {w w':World}(h:Below w.heap.size w w'){s:Value}{l:List Ent}(hp:Ens w s l):Ens w' s l:=by
 obtain ⟨b,o,hs,hr⟩:=hp
 refine ⟨b,o,hs.mono fun _ hb=>Nat.lt_of_lt_of_le hb h.size,fun i x hx=>?_⟩
 obtain ⟨p,h1,h2⟩:=hr i x hx
 exact ⟨p,h1.up h,h2.up h⟩
theorem Ens.form {w:World}{s:Value}{l:List Ent}(h:Ens w s l):∃ a c b o,s=.slice a l.length c∧(0<l.length→a=some ⟨b,o,none⟩)∧∀ i x,l[i]?=some x→∃ p,RowAt w b (o+i*3) [p,.int .i64 x.fr,.int .i64 x.to]∧Pth w p x.path:=by
 exact Bz100
def Cls (w:World)(s:Value)(l:List ByteArray):Prop:=∃ b o,SliceAt (fun b=>b<w.heap.size) s l.length b o∧∀ i x,l[i]?=some x→RowAt w b (o+i*1) [.string x]
theorem Cls.up {w w':World}(h:Below w.heap.size w w'){s:Value}{l:List ByteArray}(hp:Cls w s l):Cls w' s l:=by
 exact Bz142
theorem Cls.form {w:World}{s:Value}{l:List ByteArray}(h:Cls w s l):∃ a c b o,s=.slice a l.length c∧(0<l.length→a=some ⟨b,o,none⟩)∧∀ i x,l[i]?=some x→RowAt w b (o+i*1) [.string x]:=by
 exact Bz100
def IdxV (w:World)(x:Idx)(r:List Value):Prop:=∃ ve vc,r=[.int .i64 x.fmt,.int .i64 x.size,.int .i64 x.depth,ve,vc]∧Ens w ve x.ents∧Cls w vc x.cols
theorem IdxV.up {w w':World}(h:Below w.heap.size w w'){x:Idx}{r:List Value}(hp:IdxV w x r):IdxV w' x r:=by
 obtain ⟨ve,vc,e,h1,h2⟩:=hp
 exact ⟨ve,vc,e,h1.up h,h2.up h⟩
def Stv (s:Stp):Prop:=(s.byIndex=true→s.key=⟨#[]⟩∧0≤s.index∧s.index≤65536)∧(s.byIndex=false→s.index=0∧s.key.size≤1024∧validD s.key.data.toList=true)
def GdP (l:List Stp):Prop:=l.length≤48∧∀ s∈l,Stv s
theorem Stv.gds {s:Stp}(h:Stv s):GdS s:=⟨fun hb=>(h.1 hb).2,fun hb=>(h.2 hb).2.1⟩
theorem Stv.vs {s:Stp}(h:Stv s):Vs s:=⟨fun hb=>⟨(h.1 hb).1,(h.1 hb).2.1⟩,fun hb=>(h.2 hb).1⟩
def colBad (c:ByteArray):Prop:=validD c.data.toList=false∨1024<c.size
open Classical in
noncomputable def colsE (l:List ByteArray):Int:=if ∃ c∈l,colBad c then 1 else if l.Nodup then 0 else 8
theorem colsE_1 {l:List ByteArray}{c:ByteArray}{i:Nat}(hi:l[i]?=some c)(hb:colBad c):colsE l=1:=by
 unfold colsE;rw [if_pos ⟨c,List.mem_of_getElem? hi,hb⟩]
theorem colsE_8 {l:List ByteArray}(hg:∀ c∈l,¬ colBad c){c:ByteArray}{i:Nat}(hi:l[i]?=some c)(hm:c∈l.take i):colsE l=8:=by
 unfold colsE
 rw [if_neg (by rintro ⟨c,h1,h2⟩;exact hg c h1 h2),if_neg]
 intro hn
 obtain ⟨hlt,e⟩:=List.getElem?_eq_some_iff.1 hi
 have h1:(l.take (i+1)).Nodup:=(List.take_sublist _ _).nodup hn
 rw [List.take_succ_eq_append_getElem hlt,e] at h1
 exact (List.nodup_append.1 h1).2.2 c hm c (by simp) rfl
theorem colsE_0 {l:List ByteArray}(hg:∀ c∈l,¬ colBad c)(hn:l.Nodup):colsE l=0:=by
 unfold colsE
 rw [if_neg (by rintro ⟨c,h1,h2⟩;exact hg c h1 h2),if_pos hn]
theorem nodup_snoc {l:List ByteArray}{i:Nat}{c:ByteArray}(hn:(l.take i).Nodup)(hi:l[i]?=some c)(hm:c∉l.take i):(l.take (i+1)).Nodup:=by
 obtain ⟨hlt,e⟩:=List.getElem?_eq_some_iff.1 hi
 rw [List.take_succ_eq_append_getElem hlt,e]
 refine List.nodup_append.2 ⟨hn,by simp,?_⟩
 intro a ha b hb hab
 obtain rfl:=List.mem_singleton.1 hb
 exact hm (hab▸ha)
def hdrBad (x:Idx):Prop:=(x.fmt≠1∧x.fmt≠4)∨x.size<0∨1048576<x.size∨x.depth<1∨48<x.depth∨(x.fmt=1∧0<x.cols.length)
def pthBad (x:Idx)(e:Ent):Prop:=¬ GdP e.path∨e.path.length=0∨x.depth<e.path.length∨(x.fmt=4∧2<e.path.length)
def lastF (done:List Ent):Int:=match done.getLast? with | some p=>p.fr | none=>0
def rngBad (x:Idx)(done:List Ent)(e:Ent):Prop:=e.fr<lastF done∨e.to<e.fr∨x.size<e.to
open Classical in
noncomputable def entE (x:Idx)(done:List Ent)(e:Ent):Int:=if pthBad x e then 21 else if rngBad x done e then 2 else if ∃ d∈done,d.path=e.path then 8 else 0
open Classical in
noncomputable def entsE (x:Idx):List Ent→List Ent→Int
 | _,[]=>0
 | done,e::r=>if entE x done e≠0 then entE x done e else entsE x (done++[e]) r
theorem entsE_skip (x:Idx)(l:List Ent):∀ i,i≤l.length→(∀ j e,j<i→l[j]?=some e→entE x (l.take j) e=0)→entsE x [] l=entsE x (l.take i) (l.drop i)
 | 0,_,_=>by simp
 | i+1,hi,h=>by
  rw [entsE_skip x l i (by omega) fun j e hj he=>h j e (by omega) he]
  have hlt:i<l.length:=by omega
  have h0:=h i l[i] (by omega) (List.getElem?_eq_getElem hlt)
  rw [List.drop_eq_getElem_cons hlt]
  conv=>lhs;unfold entsE
  rw [if_neg (by rw [h0];simp),List.take_succ_eq_append_getElem hlt]
theorem entsE_at {x:Idx}{l:List Ent}{i:Nat}{e:Ent}{m:Int}(he:l[i]?=some e)(h:∀ j e,j<i→l[j]?=some e→entE x (l.take j) e=0)(hm:entE x (l.take i) e=m)(h0:m≠0):entsE x [] l=m:=by
 obtain ⟨hlt,e'⟩:=List.getElem?_eq_some_iff.1 he
 rw [entsE_skip x l i (by omega) h,List.drop_eq_getElem_cons hlt]
 unfold entsE
 rw [e',hm,if_pos h0]
theorem entsE_end {x:Idx}{l:List Ent}(h:∀ j e,j<l.length→l[j]?=some e→entE x (l.take j) e=0):entsE x [] l=0:=by
 rw [entsE_skip x l l.length (Nat.le_refl _) h]
 simp [entsE]
theorem entE_21 {x:Idx}{d:List Ent}{e:Ent}(h:pthBad x e):entE x d e=21:=by unfold entE;rw [if_pos h]
theorem entE_2 {x:Idx}{d:List Ent}{e:Ent}(h:¬ pthBad x e)(h2:rngBad x d e):entE x d e=2:=by unfold entE;rw [if_neg h,if_pos h2]
theorem entE_8 {x:Idx}{d:List Ent}{e:Ent}(h:¬ pthBad x e)(h2:¬ rngBad x d e)(h3:∃ y∈d,y.path=e.path):entE x d e=8:=by unfold entE;rw [if_neg h,if_neg h2,if_pos h3]
theorem entE_0 {x:Idx}{d:List Ent}{e:Ent}(h:¬ pthBad x e)(h2:¬ rngBad x d e)(h3:¬ ∃ y∈d,y.path=e.path):entE x d e=0:=by unfold entE;rw [if_neg h,if_neg h2,if_neg h3]
theorem entE_ok {x:Idx}{d:List Ent}{e:Ent}(h:entE x d e=0):¬ pthBad x e∧¬ rngBad x d e∧¬ ∃ y∈d,y.path=e.path:=by
 unfold entE at h
 split at h
 · simp at h
 · split at h
   · simp at h
   · split at h
     · simp at h
     · exact ⟨by assumption,by assumption,by assumption⟩
def Past (x:Idx)(l:List Ent)(i:Nat):Prop:=∀ j e,j<i→l[j]?=some e→entE x (l.take j) e=0
theorem Past.zero (x:Idx)(l:List Ent):Past x l 0:=fun j e hj=>by omega
theorem Past.succ {x:Idx}{l:List Ent}{i:Nat}{e:Ent}(h:Past x l i)(he:l[i]?=some e)(h0:entE x (l.take i) e=0):Past x l (i+1):=by
 intro j e' hj he'
 rcases Nat.lt_or_ge j i with h1 | h1
 · exact h j e' h1 he'
 · obtain rfl:j=i:=by omega
   rw [he] at he'
   cases he'
   exact h0
theorem Past.good {x:Idx}{l:List Ent}{i:Nat}(h:Past x l i):∀ e∈l.take i,GdP e.path:=by
 intro e he
 obtain ⟨j,hj⟩:=List.getElem?_of_mem he
 have hlt:=(List.getElem?_eq_some_iff.1 hj).1
 simp at hlt
 rw [List.getElem?_take] at hj
 split at hj
 · have:=(entE_ok (h j e p25q hj)).1
   unfold pthBad at this
   exact Classical.not_not.1 fun h=>this (.inl h)
 · cases hj
theorem lastF_take {l:List Ent}{i:Nat}{e:Ent}(he:l[i]?=some e):lastF (l.take (i+1))=e.fr:=by
 obtain ⟨hlt,e'⟩:=List.getElem?_eq_some_iff.1 he
 rw [List.take_succ_eq_append_getElem hlt,e']
 simp [lastF]
theorem Past.last {x:Idx}{l:List Ent}:∀ {i:Nat},Past x l i→i≤l.length→0≤lastF (l.take i)
 | 0,_,_=>by simp [lastF]
 | i+1,h,hi=>by
  have he:l[i]?=some l[i]:=List.getElem?_eq_getElem (by omega)
  rw [lastF_take he]
  have h1:=Past.last (i:=i) (fun j e hj he=>h j e (by omega) he) (by omega)
  have h2:=(entE_ok (h i l[i] (by omega) he)).2.1
  unfold rngBad at h2
  omega
open Classical in
noncomputable def chkX (x:Idx):Int:=if hdrBad x then 1 else if colsE x.cols≠0 then colsE x.cols else entsE x [] x.ents
theorem chkX_1 {x:Idx}(h:hdrBad x):chkX x=1:=by unfold chkX;rw [if_pos h]
theorem chkX_c {x:Idx}(h:¬ hdrBad x)(h2:colsE x.cols≠0):chkX x=colsE x.cols:=by unfold chkX;rw [if_neg h,if_pos h2]
theorem chkX_e {x:Idx}(h:¬ hdrBad x)(h2:colsE x.cols=0):chkX x=entsE x [] x.ents:=by unfold chkX;rw [if_neg h,if_neg (by rw [h2];simp)]
theorem seen_iff {x:Idx}{l:List Ent}{i:Nat}{e:Ent}(h:Past x l i)(hg:GdP e.path):bs (pathT e.path)∈(l.take i).map (fun y=>bs (pathT y.path))↔∃ y∈l.take i,y.path=e.path:=by
 constructor
 · intro hm
   obtain ⟨y,hy,e1⟩:=List.mem_map.1 hm
   refine ⟨y,hy,?_⟩
   have e2:pathT y.path=pathT e.path:=by
    have:=congrArg (fun b:ByteArray=>b.data.toList) e1
    simpa [bs] using this
   exact path_inj (fun s hs=>((h.good y hy).2 s hs).vs) (fun s hs=>(hg.2 s hs).vs) e2
 · rintro ⟨y,hy,e1⟩
   exact List.mem_map.2 ⟨y,hy,by rw [e1]⟩
end Go.Dk
end
section
namespace Go.Dk
open Go Go.RowKit Go.Lib
open Classical in
theorem mem_take_succ {α:Type}{l:List α}{i:Nat}{x y:α}(h:l[i]?=some x)(hy:y∈l.take (i+1)):y∈l.take i∨y=x:=by
 obtain ⟨hlt,e⟩:=List.getElem?_eq_some_iff.1 h
 rw [List.take_succ_eq_append_getElem hlt,e] at hy
 simpa using hy
theorem entsE_past {x:Idx}:∀ {l d:List Ent},entsE x d l=0→∀ j e,l[j]?=some e→entE x (d++l.take j) e=0
 | [],_,_,j,e,h=>by simp at h
 | a::l,d,h0,j,e,h=>by
  unfold entsE at h0
  split at h0
  · rename_i h1;exact absurd h0 h1
  · rename_i h1
    cases j with
    | zero =>
     simp at h
     subst h
     simpa using Classical.not_not.1 h1
    | succ j =>
     have:=entsE_past h0 j e p19q
     simpa using this
theorem chk_past {x:Idx}(h:chkX x=0):Past x x.ents x.ents.length:=by
 unfold chkX at h
 split at h
 · cases h
 · split at h
   · rename_i h2;exact absurd h h2
   · intro j e _ he
     have:=entsE_past h j e he
     simpa using this
theorem chk_good {x:Idx}(h:chkX x=0):∀ e∈x.ents,GdP e.path∧0<e.path.length:=by
 intro e he
 obtain ⟨j,hj⟩:=List.getElem?_of_mem he
 have h1:=(entE_ok (chk_past h j e (List.getElem?_eq_some_iff.1 hj).1 hj)).1
 unfold pthBad at h1
 exact ⟨Classical.not_not.1 fun h=>h1 (.inl h),by omega⟩
theorem chk_size {x:Idx}(h:chkX x=0):¬ hdrBad x:=by
 intro hb
 unfold chkX at h
 rw [if_pos hb] at h
 cases h
end Go.Dk
namespace Go.Dk
theorem take_snoc {α:Type}{l:List α}{i:Nat}{x:α}(h:l[i]?=some x):l.take (i+1)=l.take i++[x]:=by
 obtain ⟨hlt,e⟩:=List.getElem?_eq_some_iff.1 h
 rw [List.take_succ_eq_append_getElem hlt,e]
end Go.Dk
namespace Go.Dk
open Go Go.RowKit Go.Lib
open Classical in
theorem srow_len (s:Stp):(srow s).length=3:=rfl
theorem flat3_at:∀ (l:List Stp) (i j:Nat) (x:Stp) (v:Value),l[i]?=some x→(srow x)[j]?=some v→(l.flatMap srow)[i*3+j]?=some v
 | [],i,j,x,v,h,_=>by simp at h
 | s::l,0,j,x,v,h,hj=>by
  simp at h;subst h
  have:j<3:=by have:=(List.getElem?_eq_some_iff.1 hj).1;simpa [srow_len] using this
  rw [List.flatMap_cons,List.getElem?_append_left (by rw [srow_len];omega)]
  simpa using hj
 | s::l,i+1,j,x,v,h,hj=>by
  rw [List.flatMap_cons,List.getElem?_append_right (by rw [srow_len];omega),srow_len,show (i+1)*3+j-3=i*3+j by omega]
  exact flat3_at l i j x v p19q hj
theorem Pth.ofRow {w:World}{b o c n:Nat}{l:List Stp}(hb:b<w.heap.size)(hn:n=l.length)(hc:n≤c)(h:RowAt w b o (l.flatMap srow)):Pth w (.slice (some ⟨b,o,none⟩) n c) l:=by
 subst hn
 refine ⟨b,o,.inr ⟨_,_,rfl,hc,fun _=>⟨rfl,hb⟩⟩,fun i x hx j v hv=>?_⟩
 have:=h (i*3+j) v (flat3_at l i j x v hx hv)
 rwa [show o+(i*3+j)=o+i*3+j by omega] at this
theorem Cxr.rowS {w0 w:World}{L:List (Nat×Obj)}{R:List Row}{e k n:Nat}{v:Value}{xs:List Value}(h:Cxr w0 w L (⟨e,k,v,n,xs⟩::R))(h0:0<xs.length):∃ g c,v=.slice (some ⟨g,0,none⟩) n c∧n≤c∧g<w.heap.size∧RowAt w g 0 xs:=by
 have hrow:=h.rows _ (List.mem_cons_self ..)
 simp only at hrow
 rcases hrow.2 with ⟨_,h2⟩ | ⟨g,cap,cur,rfl,hb,hg,hnc,hcm,hcs,htake⟩
 · exfalso
   have:=hrow.1
   rw [h2] at this
   simp at this
   rw [this] at h0
   simp at h0
 · refine ⟨g,cap,rfl,hnc,(Array.getElem?_eq_some_iff.1 hg).1,fun j x hj=>?_⟩
   have:=hrow.cells (g:=g) rfl j x hj
   rwa [add_addr] at this
section
variable {P:Program} {o:Oper} {w:World} {ρ:Operand→Value}
end
end Go.Dk
namespace Go.Dk
open Go Go.RowKit Go.Lib
end Go.Dk
end
section
namespace Go.Dk
open Go Go.RowKit
section
variable {P:Program} {ops:Array Oper} {Q:Act→Prop} {rest:List Oper} {o:Oper} {n:Nat} {f:Nat→Value} {w w0:World} {L:List (Nat×Obj)} {R:List Row}
theorem t_val {v:Value}{d:Nat}(hg:o.guard=none)(hd:o.dst=some d)(hv:(execOp (ev n f) o).run P w=.ok (.value v) w)(h:wpStill P ops w Q rest (St n (upd f d v))):wpStill P ops w Q (o::rest) (St n f):=by
 unfold wpStill
 rw [if_pos (by simp [Region.wanted,hg])]
 unfold Oper.still
 rw [eval_St,hv,Oper.stillUpon_value,hd,put_St]
 exact h
theorem t_gval {v:Value}{j d dj:Nat}{pol c:Bool}(hg:o.guard=some (j,pol))(hd:o.dst=some d)(hj:(ops[j]?).bind (·.dst)=some dj)(hc:WantB (ev n f (.tmp dj)) pol c)
  (hv:c=true→(execOp (ev n f) o).run P w=.ok (.value v) w) (h:wpStill P ops w Q rest (St n (upd f d (gv c v)))):wpStill P ops w Q (o::rest) (St n f):=by
 have hw:=wanted_St (o:=o) (ops:=ops) hg hj hc
 unfold wpStill
 rw [hw]
 cases c with
 | true =>
  rw [if_pos rfl]
  unfold Oper.still
  rw [eval_St,hv rfl,Oper.stillUpon_value,hd,put_St]
  unfold gv at h
  exact h
 | false =>
  rw [if_neg (by simp),hd,put_St]
  unfold gv at h
  exact h
theorem t_nil (h:Q (St n f)):wpStill P ops w Q [] (St n f):=h
theorem w_still {id:Nat}{Q:Exit→Act→World→Prop}{l:List Oper}(cx:Cxr w0 w L R)(hm:P.follows .mixedOrders=true)(hB:Region.lexB .any l.toArray=true)
  (h:∀ w',Cxr w0 w' L R→Below w.heap.size w w'→wpStill P l.toArray w' (fun a'=>Q .normal a' w') l (St n f)):(Code.region id l.toArray true).wp P Q (St n f) w :=
 wp_region_still_lit hm hB (h w.drew cx.draw ⟨rfl,rfl,rfl,Nat.le_refl _,fun _ _=>rfl⟩)
end
def Cq (w0 w:World)(L:List (Nat×Obj))(R:List Row)(w':World):Prop:=Cxr w0 w' L R∧Below w.heap.size w w'
section
variable {P:Program} {ops:Array Oper} {Q:Exit→Act→World→Prop} {K:Act→Prop} {rest:List Oper} {o:Oper} {n:Nat} {f:Nat→Value} {w w0:World} {L:List (Nat×Obj)} {R:List Row}
theorem w_quiet {id:Nat}{l:List Oper}(cx:Cxr w0 w L R)(hm:P.follows .mixedOrders=true)(hB:Region.lexB .any l.toArray=true)
  (h:wpQuiet P l.toArray (Cq w0 w L R) (fun a'=>∀ w',Cq w0 w L R w'→Q .normal a' w') l (St n f)):(Code.region id l.toArray true).wp P Q (St n f) w :=
 wp_region_quiet (C:=Cq w0 w L R) hm hB ⟨cx.draw,⟨rfl,rfl,rfl,Nat.le_refl _,fun _ _=>rfl⟩⟩ p19q
theorem q_val {v:Value}{d:Nat}(hg:o.guard=none)(hd:o.dst=some d)(hv:∀ w',Cxr w0 w' L R→Below w.heap.size w w'→(execOp (ev n f) o).run P w'=.ok (.value v) w')
  (h:wpQuiet P ops (Cq w0 w L R) K rest (St n (upd f d v))):wpQuiet P ops (Cq w0 w L R) K (o::rest) (St n f):=by
 refine wpQuiet_step fun K' hK=>?_
 have hw:Region.wanted o (yielded ops (St n f).tmps)=true:=by simp [Region.wanted,hg]
 rw [hw]
 refine ⟨v,fun w' hc=>?_,hK _ (by rw [hd,put_St];exact h)⟩
 unfold Oper.quietAt
 rw [eval_St,hv w' hc.1 hc.2]
 exact Ez5
theorem q_gval {v:Value}{j d dj:Nat}{pol c:Bool}(hg:o.guard=some (j,pol))(hd:o.dst=some d)(hj:(ops[j]?).bind (·.dst)=some dj)(hc:WantB (ev n f (.tmp dj)) pol c)
  (hv:c=true→∀ w',Cxr w0 w' L R→Below w.heap.size w w'→(execOp (ev n f) o).run P w'=.ok (.value v) w') (h:wpQuiet P ops (Cq w0 w L R) K rest (St n (upd f d (gv c v)))):wpQuiet P ops (Cq w0 w L R) K (o::rest) (St n f):=by
 have hw:=wanted_St (o:=o) (ops:=ops) hg hj hc
 refine wpQuiet_step fun K' hK=>?_
 rw [hw]
 cases c with
 | true =>
  simp only [if_true]
  refine ⟨v,fun w' hc=>?_,hK _ (by rw [hd,put_St];unfold gv at h;exact h)⟩
  unfold Oper.quietAt
  rw [eval_St,hv rfl w' hc.1 hc.2]
  exact Ez5
 | false =>
  simp only [Bool.false_eq_true,if_false]
  refine hK _ ?_
  rw [hd,put_St]
  unfold gv at h
  exact h
theorem q_nil (h:K (St n f)):wpQuiet P ops (Cq w0 w L R) K [] (St n f):=h
def Runs (P:Program)(ρ:Operand→Value)(o:Oper)(k:Nat)(args:List Value):Prop:=∀ w,(execOp ρ o).run P w=.ok (.enter k args.toArray) w
theorem runs_fn {k : Nat} {opd : Array Operand} {ats : Array TypeId} {fn : Func} {args : List Value} (hf : P.funcs[k]? = some fn) (hb : fn.body.isNone = false) (hn : (fn.name == "runtime.NumGoroutine") = false)
  (ho:o.op=.call { callee:=.value (.func k),args:=opd,argTypes:=ats }) (hargs:opd.toList.map (ev n f)=args):Runs P (ev n f) o k args:=fun w=>run_callOp hf hb hn ho hargs
theorem runs_fnv {k : Nat} {x : Operand} {opd : Array Operand} {ats : Array TypeId} {fn : Func} {args cap : List Value} (hf : P.funcs[k]? = some fn) (hb : fn.body.isNone = false) (hn : (fn.name == "runtime.NumGoroutine") = false)
  (ho:o.op=.call { callee:=.value x,args:=opd,argTypes:=ats }) (hx:ev n f x=.func (.func k) #[] cap.toArray) (hargs:opd.toList.map (ev n f)=args):Runs P (ev n f) o k (args++cap):=fun w=>by
 exact Bz31
theorem runs_fnv0 {k : Nat} {x : Operand} {opd : Array Operand} {ats : Array TypeId} {fn : Func} {args : List Value} (hf : P.funcs[k]? = some fn) (hb : fn.body.isNone = false) (hn : (fn.name == "runtime.NumGoroutine") = false)
  (ho:o.op=.call { callee:=.value x,args:=opd,argTypes:=ats }) (hx:ev n f x=.func (.func k) #[] #[]) (hargs:opd.toList.map (ev n f)=args):Runs P (ev n f) o k args:=by
 have:=runs_fnv (cap:=[]) hf hb hn ho hx hargs
 rwa [List.append_nil] at this
theorem q_call {d k:Nat}{args:List Value}{v:Value}(hg:o.guard=none)(hd:o.dst=some d)(hr:Runs P (ev n f) o k args)(hc:∀ w',Cxr w0 w' L R→Below w.heap.size w w'→Fc P k args w' (fun u _=>u=v))
  (h:wpQuiet P ops (Cq w0 w L R) K rest (St n (upd f d v))):wpQuiet P ops (Cq w0 w L R) K (o::rest) (St n f):=by
 refine wpQuiet_step fun K' hK=>?_
 have hw:Region.wanted o (yielded ops (St n f).tmps)=true:=by simp [Region.wanted,hg]
 rw [hw]
 refine ⟨v,fun w' hcx=>?_,hK _ (by rw [hd,put_St];exact h)⟩
 unfold Oper.quietAt
 rw [eval_St,hr w']
 refine ⟨rfl,Calls.mono (hc w' hcx.1 hcx.2) ?_⟩
 rintro e w'' ⟨u,rfl,hb,rfl⟩
 exact Ez6
theorem q_gcall {d j dj k:Nat}{pol c:Bool}{args:List Value}{v:Value}(hg:o.guard=some (j,pol))(hd:o.dst=some d)(hj:(ops[j]?).bind (·.dst)=some dj)(hw:WantB (ev n f (.tmp dj)) pol c)(hr:c=true→Runs P (ev n f) o k args)
  (hc:c=true→∀ w',Cxr w0 w' L R→Below w.heap.size w w'→Fc P k args w' (fun u _=>u=v))
  (h:wpQuiet P ops (Cq w0 w L R) K rest (St n (upd f d (gv c v)))):wpQuiet P ops (Cq w0 w L R) K (o::rest) (St n f):=by
 have hw:=wanted_St (o:=o) (ops:=ops) hg hj hw
 refine wpQuiet_step fun K' hK=>?_
 rw [hw]
 cases c with
 | true =>
  simp only [if_true]
  refine ⟨v,fun w' hcx=>?_,hK _ (by rw [hd,put_St];unfold gv at h;exact h)⟩
  unfold Oper.quietAt
  rw [eval_St,hr rfl w']
  refine ⟨rfl,Calls.mono (hc rfl w' hcx.1 hcx.2) ?_⟩
  rintro e w'' ⟨u,rfl,hb,rfl⟩
  exact Ez6
 | false =>
  simp only [Bool.false_eq_true,if_false]
  refine hK _ ?_
  rw [hd,put_St]
  unfold gv at h
  exact h
end
theorem strOf_list:∀ (l:List UInt8) (r:ByteArray),(l.map fun x:UInt8=>(x.toNat:Int)).foldl (fun r n=>r.push (UInt8.ofNat n.toNat)) r=r++bs l
 | [],r=>by
  apply ByteArray.ext
  simp [bs,ByteArray.data_append]
 | x::l,r=>by
  simp only [List.map_cons,List.foldl_cons]
  rw [strOf_list l]
  apply ByteArray.ext
  simp [bs,ByteArray.data_append,ByteArray.push]
theorem strOf_bs (l:List UInt8):strOf (l.map fun x:UInt8=>(x.toNat:Int))=bs l:=by
 unfold strOf
 rw [strOf_list]
 apply ByteArray.ext
 simp [bs]
theorem Cxr.bytes {w0 w:World}{L:List (Nat×Obj)}{R:List Row}{v:Value}{n:Nat}{xs:List Value}{l:List UInt8}(h:Cxr w0 w L (⟨5,1,v,n,xs⟩::R))(hn:n=l.length)(hx:xs=l.map bv)(h0:0<n):∃ g c,v=.slice (some ⟨g,0,none⟩) n c∧RowAt w g 0 (l.map bv):=by
 subst hx
 have hrow:=h.rows _ (List.mem_cons_self ..)
 simp only at hrow
 rcases hrow.2 with ⟨_,h2⟩ | ⟨g,cap,cur,rfl,hb,hg,hnc,hcm,hcs,htake⟩
 · exfalso
   have:=hrow.1
   rw [h2] at this
   simp at this
   omega
 · refine ⟨g,cap,rfl,fun j x hj=>?_⟩
   have:=hrow.cells (g:=g) rfl j x hj
   rwa [add_addr] at this
theorem row_next {w0 w:World}{L:List (Nat×Obj)}{R:List Row}{v:Value}{n:Nat}{xs:List Value}{a:UInt8}{q q' sg:List UInt8}(cx:Cxr w0 w L (⟨5,1,v,n,xs⟩::R))(hq:q'=q++sg)(hn:n=1+q.length+sg.length)(hx:xs=(a::q).map bv++sg.map bv) :
  Cxr w0 w L (⟨5,1,v,1+q'.length,(a::q').map bv⟩::R):=by
 subst hq
 refine cx.row_eq (by rw [hn,List.length_append];omega) (by rw [hx];simp)
theorem row_more {w0 w:World}{L:List (Nat×Obj)}{R:List Row}{v:Value}{n:Nat}{xs:List Value}{q q' sg:List UInt8}(cx:Cxr w0 w L (⟨5,1,v,n,xs⟩::R))(hq:q'=q++sg)(hn:n=q.length+sg.length)(hx:xs=q.map bv++sg.map bv) :
  Cxr w0 w L (⟨5,1,v,q'.length,q'.map bv⟩::R):=by
 subst hq
 refine cx.row_eq (by rw [hn,List.length_append]) (by rw [hx];simp)
end Go.Dk
end
section
namespace Go.Dk
open Go Go.RowKit Go.Lib
def okN (s:ByteArray)(j:Nat):Prop:=lowc (byteAt s j)∨(0<j∧digc (byteAt s j))
def folP (s:ByteArray)(n:Nat):Prop:=n≤s.size∧(∀ j,j<n→okN s j)∧(n<s.size→¬ okN s n)
theorem folP_ex (s:ByteArray):∃ n,folP s n:=by
 by_cases h:∃ k,k<s.size∧¬ okN s k
 · obtain ⟨k,hk,hm⟩:=least_of h
   refine ⟨k,by omega,fun j hj=>?_,fun _=>hk.2⟩
   exact Classical.not_not.1 fun hn=>by have:=hm j ⟨by omega,hn⟩;omega
 · refine ⟨s.size,Nat.le_refl _,fun j hj=>?_,fun h=>by omega⟩
   exact Classical.not_not.1 fun hn=>h ⟨j,hj,hn⟩
theorem folP_uni {s:ByteArray}{m n:Nat}(h:folP s m)(h2:folP s n):m=n:=by
 rcases Nat.lt_trichotomy m n with hl | hl | hl
 · exact absurd (h2.2.1 m hl) (h.2.2 (by have:=h2.1;omega))
 · exact hl
 · exact absurd (h.2.1 n hl) (h2.2.2 (by have:=h.1;omega))
noncomputable def folN (s:ByteArray):Nat:=Classical.choose (folP_ex s)
theorem folN_eq {s:ByteArray}{n:Nat}(h:folP s n):folN s=n:=folP_uni (Classical.choose_spec (folP_ex s)) h
theorem nm_iff (s:ByteArray):(s≠⟨#[]⟩∧(folN s:Int)=s.size)↔isNm s:=by
 have h:=Classical.choose_spec (folP_ex s)
 change folP s (folN s) at h
 constructor
 · rintro ⟨h1,h2⟩
   have e:folN s=s.size:=by omega
   refine ⟨?_,fun j hj=>h.2.1 j (by omega)⟩
   rcases Nat.eq_zero_or_pos s.size with h0 | h0
   · exact absurd (ByteArray.size_eq_zero_iff.1 h0) h1
   · exact h0
 · intro hn
   refine ⟨fun e=>?_,?_⟩
   · have:=hn.1
     rw [e] at this
     exact absurd this (by decide)
   · rw [folN_eq (n:=s.size) ⟨Nat.le_refl _,fun j hj=>hn.2 j hj,fun h=>by omega⟩]
def ldp (l:List Stp):List UInt8:=match l with
 | s::_=>if s.byIndex then [46] else []
 | []=>[]
theorem ldp_le (l:List Stp):(ldp l).length≤1:=by
 unfold ldp
 split
 · split <;> simp
 · simp
theorem path_ldp {l:List Stp}(h:l≠[]):pathT l=ldp l++l.flatMap stpT:=by
 cases l with
 | nil=>exact absurd rfl h
 | cons s l=>rfl
theorem step_ix {x:Stp}(h:x.byIndex=true):stpT x=[91]++itoa x.index++[93]:=by unfold stpT;rw [if_pos h]
theorem step_nm {x:Stp}(h:x.byIndex=false)(h2:isNm x.key):stpT x=[46]++x.key.data.toList:=by
 unfold stpT;rw [if_neg (by rw [h];exact Bool.noConfusion),if_pos h2];rfl
theorem step_qt {x:Stp}(h:x.byIndex=false)(h2:¬ isNm x.key):stpT x=[46]++([34]++qtd x.key.data.toList++[34]):=by
 unfold stpT;rw [if_neg (by rw [h];exact Bool.noConfusion),if_neg h2];rfl
theorem itoa_le {n:Int}(h0:0≤n)(h1:n≤1048576):(itoa n).length≤7:=by
 have h3:n=((n.toNat:Nat):Int):=by omega
 rw [h3,itoa_nat]
 exact decDigits_len 6 n.toNat (by omega)
section
variable {w0 w:World} {L:List (Nat×Obj)} {R:List Row}
theorem ldp_T {l:List Stp}{x0:Stp}(h:l[0]?=some x0)(hb:x0.byIndex=true):ldp l=[46]:=by
 cases l with
 | nil=>simp at h
 | cons s l=>simp at h;subst h;simp [ldp,hb]
theorem ldp_F {l:List Stp}{x0:Stp}(h:l[0]?=some x0)(hb:x0.byIndex=false):ldp l=[]:=by
 cases l with
 | nil=>simp at h
 | cons s l=>simp at h;subst h;simp [ldp,hb]
end
end Go.Dk
namespace Go.Dk
open Go Go.RowKit Go.Lib
theorem path_pos (l:List Stp):0<(pathT l).length:=by
 cases l with
 | nil=>simp [pathT]
 | cons s l =>
  have:=step_two s
  simp only [pathT,List.flatMap_cons,List.length_append]
  omega
end Go.Dk
end
section
namespace Go.Dk
open Go Go.RowKit Go.Lib
def shq (b:UInt8):UInt8:=if b=34 then 34 else if b=92 then 92 else if b=8 then 98 else if b=12 then 102 else if b=10 then 110 else if b=13 then 114 else if b=9 then 116 else 0
def sgq (b:UInt8):List UInt8:=if shq b≠0 then [92,shq b] else if b<32 then [92,117,48,48,hexd (b.toNat / 16),hexd (b.toNat%16)] else [b]
def qtq (l:List UInt8):List UInt8:=l.flatMap sgq
theorem sgq_len (b:UInt8):(sgq b).length≤6:=by
 unfold sgq
 split
 · simp
 · split <;> simp
theorem qtq_len (l:List UInt8):(qtq l).length≤6*l.length:=by
 induction l with
 | nil=>simp [qtq]
 | cons b l ih =>
  have:=sgq_len b
  simp only [qtq,List.flatMap_cons,List.length_append,List.length_cons] at ih ⊢
  omega
theorem qtq_take (s:ByteArray)(i:Nat)(hi:i<s.size):qtq (s.data.toList.take (i+1))=qtq (s.data.toList.take i)++sgq (s.data.toList.getD i 0):=by
 have hi':i<s.data.toList.length:=by simpa using hi
 rw [List.take_succ_eq_append_getElem hi']
 simp [qtq,List.getD,List.getElem?_eq_getElem hi']
def cqt (s:ByteArray):List UInt8:=[34]++qtq s.data.toList++[34]
def letB (b:Nat):Bool:=(Nat.ble 65 b&&Nat.ble b 90)||(Nat.ble 97 b&&Nat.ble b 122)||(Nat.ble 48 b&&Nat.ble b 57)||Nat.beq b 95
theorem letB_iff (b:Nat):letB b=true↔lowc (b:Int)∨digc (b:Int):=by
 unfold letB lowc digc
 simp only [Bool.or_eq_true,Bool.and_eq_true,Nat.ble_eq,Nat.beq_eq]
 omega
end Go.Dk
namespace Go.Dk
open Go Go.RowKit Go.Lib
theorem dgs_le (n:Nat)(h:n≤4611686018427387904):(dgs n).length≤19:=by
 unfold dgs
 split
 · simp
 · exact decDigits_len 18 n (by omega)
end Go.Dk
end
section
namespace Go.Dk
open Go Go.RowKit Go.Lib
def nameT (fmt:Int):List UInt8:=if fmt=4 then [100,101,108,105,109] else [98,114,97,99,101]
noncomputable def hdrT (x:Idx):List UInt8:=[105,110,100,101,120,32]++nameT x.fmt++[32]++itoa x.size++[32]++itoa x.depth
def colT (c:ByteArray):List UInt8:=[99,111,108,117,109,110,32]++cqt c
noncomputable def entT (e:Ent):List UInt8:=itoa e.fr++[32]++itoa e.to++[32]++pathT e.path
noncomputable def textC (x:Idx)(i:Nat):List UInt8:=hdrT x++[10]++(x.cols.take i).flatMap fun c=>colT c++[10]
noncomputable def textE (x:Idx)(j:Nat):List UInt8:=textC x x.cols.length++(x.ents.take j).flatMap fun e=>entT e++[10]
noncomputable def textX (x:Idx):List UInt8:=textE x x.ents.length
theorem flatMap_succ {α:Type}{l:List α}{i:Nat}{c:α}(f:α→List UInt8)(h:l[i]?=some c):(l.take (i+1)).flatMap f=(l.take i).flatMap f++f c:=by
 rw [take_snoc h,List.flatMap_append]
 simp
theorem textC_zero (x:Idx):textC x 0=hdrT x++[10]:=by simp [textC]
theorem textE_zero (x:Idx):textE x 0=textC x x.cols.length:=by simp [textE]
theorem textC_succ {x:Idx}{i:Nat}{c:ByteArray}(h:x.cols[i]?=some c):textC x (i+1)=textC x i++[99,111,108,117,109,110,32]++cqt c++[10]:=by
 unfold textC
 rw [flatMap_succ _ h]
 simp only [colT,List.append_assoc]
theorem textC_succ' {x:Idx}{i:Nat}{c:ByteArray}(h:x.cols[i]?=some c):textC x (i+1)=textC x i++([99,111,108,117,109,110,32]++cqt c++[10]):=by
 rw [textC_succ h]
 simp only [List.append_assoc]
theorem textE_succ {x:Idx}{i:Nat}{e:Ent}(h:x.ents[i]?=some e):textE x (i+1)=textE x i++itoa e.fr++[32]++itoa e.to++[32]++pathT e.path++[10]:=by
 unfold textE
 rw [flatMap_succ _ h]
 simp only [entT,List.append_assoc]
theorem textE_succ' {x:Idx}{i:Nat}{e:Ent}(h:x.ents[i]?=some e):textE x (i+1)=textE x i++(itoa e.fr++[32]++itoa e.to++[32]++pathT e.path++[10]):=by
 rw [textE_succ h]
 simp only [List.append_assoc]
theorem chk_hdr {x:Idx}(h:chkX x=0):(x.fmt=1∨x.fmt=4)∧0≤x.size∧x.size≤1048576∧1≤x.depth∧x.depth≤48:=by
 have h1:=chk_size h
 unfold hdrBad at h1
 omega
theorem chk_cols {x:Idx}(h:chkX x=0):∀ c∈x.cols,validD c.data.toList=true∧c.size≤1024:=by
 intro c hc
 have h1:¬ colBad c:=by
  intro hb
  obtain ⟨i,hi⟩:=List.getElem?_of_mem hc
  have h2:=colsE_1 hi hb
  unfold chkX at h
  rw [if_neg (chk_size (by unfold chkX;exact h)),if_pos (by rw [h2];decide),h2] at h
  cases h
 unfold colBad at h1
 refine ⟨?_,by omega⟩
 cases hv:validD c.data.toList with
 | true=>rfl
 | false=>exact absurd (.inl hv) h1
theorem chk_rng {x:Idx}(h:chkX x=0):∀ e∈x.ents,0≤e.fr∧e.fr≤e.to∧e.to≤x.size:=by
 intro e he
 obtain ⟨j,hj⟩:=List.getElem?_of_mem he
 have hlt:=(List.getElem?_eq_some_iff.1 hj).1
 have hp:=chk_past h
 have h1:=(entE_ok (hp j e hlt hj)).2.1
 have h2:=Past.last (i:=j) (fun k y hk hy=>hp k y (by omega) hy) (by omega)
 unfold rngBad at h1
 omega
theorem hdrT_len {x:Idx}(h:chkX x=0):(hdrT x).length≤40:=by
 obtain ⟨_,h1,h2,h3,h4⟩:=chk_hdr h
 have a:=itoa_le h1 h2
 have b:=itoa_le (n:=x.depth) (by omega) (by omega)
 have c:(nameT x.fmt).length≤5:=by unfold nameT;split <;> simp
 unfold hdrT
 exact Bz60
theorem cqt_len {c:ByteArray}(h:c.size≤1024):(cqt c).length≤6146:=by
 have:=qtq_len c.data.toList
 have h2:c.data.toList.length=c.size:=by simp
 unfold cqt
 exact Bz60
theorem flat_le {α:Type}{f:α→List UInt8}{N:Nat}:∀ {l:List α},(∀ a∈l,(f a).length≤N)→(l.flatMap f).length≤N*l.length
 | [],_=>by simp
 | a::l,h=>by
  have h1:=h a (by simp)
  have h2:=flat_le (l:=l) fun b hb=>h b (List.mem_cons_of_mem _ hb)
  rw [List.flatMap_cons,List.length_append,List.length_cons,Nat.mul_succ]
  omega
theorem textC_len {x:Idx}(h:chkX x=0)(i:Nat)(hi:i≤x.cols.length):(textC x i).length≤41+6154*i:=by
 have h1:=hdrT_len h
 have h2:=flat_le (l:=x.cols.take i) (f:=fun c=>colT c++[10]) (N:=6154) fun c hc=>by
  have h3:=cqt_len (chk_cols h c (List.mem_of_mem_take hc)).2
  simp only [colT,List.length_append,List.length_cons,List.length_nil]
  omega
 rw [List.length_take,Nat.min_eq_left hi] at h2
 unfold textC
 exact Bz60
theorem pathT_len' {l:List Stp}(h:GdP l):(pathT l).length≤297601:=by
 have h1:=pathT_len fun s hs=>(h.2 s hs).gds
 have h2:=h.1
 omega
theorem textE_len {x:Idx}(h:chkX x=0)(j:Nat)(hj:j≤x.ents.length):(textE x j).length≤41+6154*x.cols.length+297618*j:=by
 have h1:=textC_len h x.cols.length (Nat.le_refl _)
 have h2:=flat_le (l:=x.ents.take j) (f:=fun e=>entT e++[10]) (N:=297618) fun e he=>by
  have hm:=List.mem_of_mem_take he
  have h3:=pathT_len' (chk_good h e hm).1
  obtain ⟨r1,r2,r3⟩:=chk_rng h e hm
  obtain ⟨_,s1,s2,_⟩:=chk_hdr h
  have h4:=itoa_le (n:=e.fr) r1 (by omega)
  have h5:=itoa_le (n:=e.to) (by omega) (by omega)
  simp only [entT,List.length_append,List.length_cons,List.length_nil]
  omega
 rw [List.length_take,Nat.min_eq_left hj] at h2
 unfold textE
 simp only [List.length_append]
 omega
end Go.Dk
end
section
namespace Go.Dk
open Go Go.RowKit
def hasK (ks:List ByteArray)(k:ByteArray):Bool:=ks.any fun x=>decide (x=k)
theorem hasK_iff {ks:List ByteArray}{k:ByteArray}:hasK ks k=true↔k∈ks:=by
 unfold hasK
 rw [List.any_eq_true]
 simp
def addK (ks:List ByteArray)(k:ByteArray):List ByteArray:=if hasK ks k then ks else ks++[k]
def idxK (ks:List ByteArray)(k:ByteArray):Nat:=ks.findIdx fun x=>decide (x=k)
def ents:List ByteArray→(ByteArray→Value)→Nat→List MapEntry
 | [],_,_=>[]
 | k::ks,c,n=>⟨.string k,c k,n⟩::ents ks c (n+1)
def updC (c:ByteArray→Value)(k:ByteArray)(v:Value):ByteArray→Value:=fun x=>if x=k then v else c x
theorem ba_beq (a b:ByteArray):(a==b)=decide (a=b):=by
 rw [Bool.eq_iff_iff,decide_eq_true_eq]
 cases a;cases b
 constructor
 · intro h
   exact congrArg ByteArray.mk (eq_of_beq (show ((_:Array UInt8)==_)=true from h))
 · intro h
   cases h
   exact beq_self_eq_true (α:=Array UInt8) _
theorem find_ents (k:ByteArray):∀ (ks:List ByteArray) (c:ByteArray→Value) (n j:Nat),Instr.findNow .string (.string k) (ents ks c n) j=some (if hasK ks k then some (j+idxK ks k,c k) else none)
 | [],c,n,j=>rfl
 | x::ks,c,n,j=>by
  have ih:=find_ents k ks c (n+1) (j+1)
  unfold ents Instr.findNow
  simp only [Instr.sameNow]
  by_cases h:x=k
  · subst h
    rw [ba_beq,decide_eq_true rfl]
    simp [hasK,idxK,List.findIdx_cons]
  · have h2:(k==x)=false:=by rw [ba_beq];exact decide_eq_false fun e=>h e.symm
    rw [h2]
    simp only [ih]
    have e1:hasK (x::ks) k=hasK ks k:=by simp [hasK,h]
    have e2:idxK (x::ks) k=idxK ks k+1:=by simp [idxK,List.findIdx_cons,h]
    rw [e1,e2,show j+1+idxK ks k=j+(idxK ks k+1) by omega]
theorem ents_congr {c c':ByteArray→Value}:∀ (ks:List ByteArray) (n:Nat),(∀ k∈ks,c k=c' k)→ents ks c n=ents ks c' n
 | [],_,_=>rfl
 | k::ks,n,h=>by
  unfold ents
  rw [h k (by simp),ents_congr ks (n+1) fun x hx=>h x (List.mem_cons_of_mem _ hx)]
theorem ents_at (k:ByteArray):∀ (ks:List ByteArray) (c:ByteArray→Value) (n:Nat),hasK ks k=true→(ents ks c n)[idxK ks k]?.map (·.key)=some (.string k)
 | [],c,n,h=>by simp [hasK] at h
 | x::ks,c,n,h=>by
  by_cases hx:x=k
  · subst hx
    simp [idxK,ents,List.findIdx_cons]
  · have e2:idxK (x::ks) k=idxK ks k+1:=by simp [idxK,List.findIdx_cons,hx]
    rw [e2]
    have:=ents_at k ks c (n+1) (by simpa [hasK,hx] using h)
    simpa [ents] using this
theorem ents_set (k:ByteArray)(v:Value):∀ (ks:List ByteArray) (c:ByteArray→Value) (n:Nat),ks.Nodup→hasK ks k=true→(ents ks c n).modify (idxK ks k) (fun e=>{ e with key:=.string k,val:=v })=ents ks (updC c k v) n
 | [],c,n,_,h=>by simp [hasK] at h
 | x::ks,c,n,hn,h=>by
  obtain ⟨h1,h2⟩:=List.nodup_cons.1 hn
  by_cases hx:x=k
  · subst hx
    have e0:idxK (x::ks) x=0:=by simp [idxK,List.findIdx_cons]
    rw [e0]
    show _::ents ks c (n+1)=_::ents ks (updC c x v) (n+1)
    rw [ents_congr (c:=c) (c':=updC c x v) ks (n+1) fun y hy=>by
     unfold updC;rw [if_neg];rintro rfl;exact h1 hy]
    simp [updC]
  · have e2:idxK (x::ks) k=idxK ks k+1:=by simp [idxK,List.findIdx_cons,hx]
    rw [e2]
    have:=ents_set k v ks c (n+1) h2 (by simpa [hasK,hx] using h)
    simp only [ents,List.modify_succ_cons,this]
    simp [updC,hx]
theorem ents_push (k:ByteArray)(v:Value):∀ (ks:List ByteArray) (c:ByteArray→Value) (n:Nat),hasK ks k=false→ents ks c n++[⟨.string k,v,n+ks.length⟩]=ents (ks++[k]) (updC c k v) n
 | [],c,n,_=>by simp [ents,updC]
 | x::ks,c,n,h=>by
  have hx:x≠k:=by rintro rfl;simp [hasK] at h
  have:=ents_push k v ks c (n+1) (by simpa [hasK,hx] using h)
  rw [List.cons_append]
  unfold ents
  rw [List.cons_append,← this]
  simp [updC,hx]
  omega
section
variable {P:Program} {ops:Array Oper} {Q:Exit→Act→World→Prop} {rest:List Oper} {o:Oper} {n:Nat} {f:Nat→Value} {w w0:World} {L:List (Nat×Obj)} {R:List Row} {ρ:Operand→Value}
theorem s_makeMap {d:Nat}{t:TypeId}(cx:Cxr w0 w L R)(hg:o.guard=none)(hd:o.dst=some d)(ho:o.op=.makeMap t none)
  (h:∀ b w',Cxr w0 w' ((b,.map (ents [] (fun _=>default) 0).toArray 0)::L) R→w.heap.size=b→Below w.heap.size w w'→wpList P ops Q rest (St n (upd f d (.map (some b)))) w'):wpList P ops Q (o::rest) (St n f) w:=by
 refine s_new (w':=w.alloc (.map (ents [] (fun _=>default) 0).toArray 0)) (v:=.map (some w.heap.size)) hg hd ?_ (h _ _ (cx.alloc _) rfl ((Below.refl _ _).alloc (Nat.le_refl _) _))
 unfold execOp;rw [ho]
 simp [Instr.makeMap,ents]
theorem run_checkStr {kt:TypeId}{k:ByteArray}(e:Bool)(hk:P.underlying kt=some .string):(Instr.checkKey e 10000 kt (.string k)).run P w=.ok () w:=by
 rw [show (10000:Nat)=9999+1 from rfl,Instr.checkKey]
 simp [run_underlying hk]
theorem run_findKey {kt:TypeId}{k:ByteArray}{ks:List ByteArray}{c:ByteArray→Value}{m:Nat}(hk:P.underlying kt=some .string):(Instr.findKey kt (.string k) (ents ks c m)).run P w=.ok (if hasK ks k then some (idxK ks k,c k) else none) w:=by
 have:=find_ents k ks c m 0
 rw [Nat.zero_add] at this
 simp [Instr.findKey,run_underlying hk,this]
theorem v_lookupS {t kt et:TypeId}{x y:Operand}{b m:Nat}{k:ByteArray}{ks:List ByteArray}{c:ByteArray→Value}(ho:o.op=.lookup t x y false)(hx:ρ x=.map (some b))(hy:ρ y=.string k)(ht:P.underlying t=some (.map kt et))(hk:P.underlying kt=some .string)
  {z:Value} (hz:(zeroValue et).run P w=.ok z w) (hb:w.heap[b]?=some (.map (ents ks c 0).toArray m)):(execOp ρ o).run P w=.ok (.value (if hasK ks k then c k else z)) w:=by
 unfold execOp;rw [ho]
 simp only [hx,hy]
 have h1:=MapKept.run_getObj_map (P:=P) hb
 have h2:=fun e=>run_checkStr (P:=P) (w:=w) (k:=k) e hk
 have h3:=run_findKey (P:=P) (w:=w) (k:=k) (ks:=ks) (c:=c) (m:=0) hk
 by_cases hh:hasK ks k=true
 · rw [if_pos hh] at h3 ⊢
   simp [Instr.lookup,run_underlying ht,h1,h2,h3,Result.andThen]
 · rw [if_neg hh] at h3 ⊢
   simp [Instr.lookup,run_underlying ht,h1,h2,h3,hz,Result.andThen]
theorem s_mapSet {t kt et:TypeId}{x y z:Operand}{b:Nat}{k:ByteArray}{ks:List ByteArray}{c:ByteArray→Value}{v:Value}(cx:Cxr w0 w L R)(i:Nat)(hg:o.guard=none)(hd:o.dst=none)(ho:o.op=.mapUpdate t x y z)(hx:ev n f x=.map (some b))(hy:ev n f y=.string k)(hz:ev n f z=v)
  (ht:P.underlying t=some (.map kt et)) (hk:P.underlying kt=some .string) (hn:ks.Nodup) (hi:L[i]?=some (b,.map (ents ks c 0).toArray ks.length))
  (h:∀ w',Cxr w0 w' (L.set i (b,.map (ents (addK ks k) (updC c k v) 0).toArray (addK ks k).length)) R→w.grownBy w' (some b)→wpList P ops Q rest (St n f) w'):wpList P ops Q (o::rest) (St n f) w:=by
 have hb:=cx.at i hi
 have hlt:b<w.heap.size:=(Array.getElem?_eq_some_iff.1 hb).1
 have h1:=MapKept.run_getObj_map (P:=P) hb
 have h2:=run_checkStr (P:=P) (w:=w) (k:=k) false hk
 have h3:=run_findKey (P:=P) (w:=w) (k:=k) (ks:=ks) (c:=c) (m:=0) hk
 have hset:∀ o',(setObj b o').run P w=.ok () { w with heap:=w.heap.setIfInBounds b o' }:=fun o'=>MapKept.run_setObj_map o' hb
 have hgr:∀ o',w.grownBy { w with heap:=w.heap.setIfInBounds b o' } (some b):=fun o'=>⟨rfl,rfl,rfl,by simp,fun q _ hne=>by
  show (w.heap.setIfInBounds b o')[q]?=_
  rw [Array.getElem?_setIfInBounds_ne (fun e=>hne (by rw [e]))]⟩
 have hcx:∀ o',Cxr w0 { w with heap:=w.heap.setIfInBounds b o' } (L.set i (b,o')) R:=fun o'=>cx.turn i hi rfl rfl rfl (by simp) (by
  show (w.heap.setIfInBounds b o')[b]?=_
  simp [hlt]) fun q _ hne=>by
   show (w.heap.setIfInBounds b o')[q]?=_
   rw [Array.getElem?_setIfInBounds_ne (Ne.symm hne)]
 by_cases hh:hasK ks k=true
 · rw [if_pos hh] at h3
   have e1:addK ks k=ks:=by unfold addK;rw [if_pos hh]
   have hkey:=ents_at k ks c 0 hh
   have hst:(Instr.keyThatStays (.string k) (.string k)).run P w=.ok (.string k) w:=by simp [Instr.keyThatStays,Instr.sameBits,ba_beq]
   have e2:(ents ks c 0).toArray.modify (idxK ks k) (fun e=>{ e with key:=.string k,val:=v })=(ents ks (updC c k v) 0).toArray:=by
    rw [← ents_set k v ks c 0 hn hh];simp
   refine s_put hg hd ?_ (h _ (by rw [e1];exact hcx (.map (ents ks (updC c k v) 0).toArray ks.length)) (hgr _))
   unfold execOp;rw [ho]
   have hkey':((ents ks c 0)[idxK ks k]?.map (·.key)).getD (.string k)=.string k:=by rw [hkey];rfl
   simp [hx,hy,hz,Instr.mapUpdate,run_underlying ht,h1,h2,h3,hkey',hst,hset,Result.andThen]
   rw [ents_set k v ks c 0 hn hh]
 · rw [if_neg hh] at h3
   have hh':hasK ks k=false:=by simpa using hh
   have e1:addK ks k=ks++[k]:=by unfold addK;rw [if_neg hh]
   have e2:(ents ks c 0).toArray.push ⟨.string k,v,ks.length⟩=(ents (ks++[k]) (updC c k v) 0).toArray:=by
    rw [← ents_push k v ks c 0 hh'];simp
   refine s_put hg hd ?_ (h _ (by rw [e1,List.length_append];exact hcx (.map (ents (ks++[k]) (updC c k v) 0).toArray (ks.length+1))) (hgr _))
   unfold execOp;rw [ho]
   simp [hx,hy,hz,Instr.mapUpdate,run_underlying ht,h1,h2,h3,hset,Result.andThen]
   simp only [← e2]
   simp
end
end Go.Dk
end
section
namespace Go.Dk
open Go Go.RowKit
def lk (l:Array Bool)(i:Nat):Bool:=l.getD i false
def depsOf (ops:Array Oper)(j:Nat):List Nat:=match ops[j]? with
 | none=>[]
 | some o=>(o.after.toList.filter (Region.binds .any)).map (·.on)
def isAnc (ops:Array Oper):Nat→Nat→Nat→Bool
 | 0,_,_=>false
 | k+1,i,j=>(depsOf ops j).any fun e=>e==i||isAnc ops k i e
def chkOrd (ops:Array Oper)(pu:List (Nat×Nat)):Bool :=
 Region.noSelect ops &&
 ((List.range ops.size).all fun j=>(depsOf ops j).all fun e=>Nat.blt e j) &&
 (pu.all fun p=>match ops[p.1]? with
   | none=>false
   | some o=>(match o.dst with | some d=>Nat.beq d p.2 | none=>false) &&
    (List.range ops.size).all fun j=>match ops[j]? with
      | none=>true
      | some oj=>(match oj.dst with
        | none=>true
        | some d=>Nat.beq j p.1||(!Nat.beq d p.2&&(pu.any (fun q=>Nat.beq q.1 j)||!(o.looksAt ops).contains d||isAnc ops 12 p.1 j))) &&
       (!(oj.looksAt ops).contains p.2||isAnc ops 12 p.1 j))
theorem anc_listed {ops:Array Oper}{listed:Array Bool}(hcl:∀ j,lk listed j=true→∀ e∈depsOf ops j,lk listed e=true):∀ (k i j:Nat),(∀ e∈depsOf ops j,lk listed e=true)→isAnc ops k i j=true→lk listed i=true
 | 0,_,_,_,h=>by simp [isAnc] at h
 | k+1,i,j,hj,h=>by
  simp only [isAnc,List.any_eq_true,Bool.or_eq_true,beq_iff_eq] at h
  obtain ⟨e,he,rfl | h⟩:=h
  · exact hj e he
  · exact anc_listed hcl k i e (hcl e (hj e he)) h
def Fin0 (K:Act→World→Prop):Exit→Act→World→Prop
 | .normal,a,w=>K a w
 | _,_,_=>False
theorem Fin0.shut {K:Act→World→Prop}:¬ LetsOut (Fin0 K):=fun ⟨_,_,h⟩=>h
def lateB (ops:Array Oper)(pu:List (Nat×Nat))(i:Nat):Bool:=pu.all fun p=>isAnc ops 12 p.1 i
def wpX (P:Program)(ops:Array Oper)(pu:List (Nat×Nat))(Q:Exit→Act→World→Prop)(S:World→Prop):Nat→Array Bool→Act→World→Prop
 | 0,_,_,_=>False
 | k+1,l,a,w=>(Region.ready .any ops l=[]→Q .normal a w) ∧
  ∀ i∈Region.ready .any ops l,∃ o,ops[i]?=some o∧wpList P ops (Fin0 fun a' w'=>(S w'∨lateB ops pu i=true)∧wpX P ops pu Q S k (l.setIfInBounds i true) a' w') [o] a w
structure Rl (bad:Nat→Prop) (a b:Act):Prop where
 df:a.defers=b.defers
 sz:a.tmps.size=b.tmps.size
 tm:∀ x,¬ bad x→a.tmps[x]?=b.tmps[x]?
theorem Rl.eval {bad:Nat→Prop}{a b:Act}(h:Rl bad a b){x:Operand}(hx:∀ t,x=.tmp t→¬ bad t):a.eval x=b.eval x:=by
 cases x with
 | tmp t =>
  have:=h.tm t (hx t rfl)
  simp only [Act.eval,Array.getD_eq_getD_getElem?,this]
 | _=>rfl
theorem Rl.put {bad bad':Nat→Prop}{a b:Act}(h:Rl bad a b)(d:Option Nat)(v:Value)(hb:∀ x,¬ bad' x→d=some x∨¬ bad x):Rl bad' (a.put d v) (b.put d v):=by
 cases d with
 | none=>exact ⟨h.df,h.sz,fun x hx=>h.tm x ((hb x hx).resolve_left (by simp))⟩
 | some d =>
  refine ⟨h.df,by simp [Act.put,h.sz],fun x hx=>?_⟩
  simp only [Act.put,Array.getElem?_setIfInBounds,h.sz]
  split
  · rfl
  · rename_i hne
    exact h.tm x ((hb x hx).resolve_left fun e=>hne (by simpa using e))
section
variable {P:Program} {ops:Array Oper} {Q:Exit→Act→World→Prop} {S:World→Prop} {pu:List (Nat×Nat)}
theorem looks_ev {o:Oper}{bad:Nat→Prop}{a b:Act}(h:Rl bad a b)(hl:∀ t∈o.looksAt ops,¬ bad t):(∀ x∈o.op.operands,a.eval x=b.eval x)∧Region.wanted o (yielded ops a.tmps)=Region.wanted o (yielded ops b.tmps):=by
 refine ⟨fun x hx=>h.eval fun t e=>hl t ?_,?_⟩
 · subst e
   exact List.mem_append_left _ (List.mem_filterMap.2 ⟨.tmp t,by simpa using hx,rfl⟩)
 · unfold Region.wanted
   cases hg:o.guard with
   | none=>rfl
   | some gw =>
    obtain ⟨g,want⟩:=gw
    have hy:yielded ops a.tmps g=yielded ops b.tmps g:=by
     unfold yielded
     cases ht:(ops[g]?).bind (·.dst) with
     | none=>rfl
     | some t =>
      have:=h.tm t (hl t (by simp [Oper.looksAt,hg,ht]))
      simp [this]
    simp only [hy]
theorem step_rl {o:Oper}{bad bad':Nat→Prop}{a b:Act}{w:World}{K K':Act→World→Prop}(hns:∀ cs b,o.op≠.select cs b)(h:Rl bad a b)(hl:∀ t∈o.looksAt ops,¬ bad t)(hb:∀ x,¬ bad' x→o.dst=some x∨¬ bad x)
  (hK:∀ a' b' w',Rl bad' a' b'→(∃ v df,b'=({ b with defers:=df }:Act).put o.dst v)→K b' w'→K' a' w') (H:wpList P ops (Fin0 K) [o] b w) :
  if Region.wanted o (yielded ops a.tmps) then o.wp P a w K' Q else K' (a.put o.dst undef) w:=by
 obtain ⟨h1,h2⟩:=looks_ev h hl
 unfold wpList at H
 rw [← h2] at H
 split
 · rename_i hw
   rw [if_pos hw] at H
   rcases H with H | ⟨_,H⟩
   · unfold Oper.wp at *
     rw [execOp_congr o hns h1]
     generalize (execOp b.eval o).run P w=r at *
     cases r with
     | ok n w' =>
      cases n <;> simp only [Oper.upon] at H ⊢
      case value u=>exact hK _ _ _ (h.put _ _ hb) ⟨u,b.defers,rfl⟩ H
      case skip=>exact hK _ _ _ (h.put _ _ hb) ⟨undef,b.defers,rfl⟩ H
      case defer d =>
       refine hK _ _ _ (Rl.put (a:={ a with defers:=d::a.defers }) (b:={ b with defers:=d::b.defers }) ⟨by simp [h.df],h.sz,h.tm⟩ _ _ hb) ⟨undef,d::b.defers,rfl⟩ H
      case enter f args =>
       refine Calls.mono H fun e w'' he=>?_
       cases e with
       | returned u=>exact hK _ _ _ (h.put _ _ hb) ⟨u,b.defers,rfl⟩ he
       | panicked c=>exact he.elim
       | outgrown=>exact (Fin0.shut he).elim
      case row row args=>exact Rows.mono H fun u w'' he=>hK _ _ _ (h.put _ _ hb) ⟨u,b.defers,rfl⟩ he
     | halt x w' =>
      cases x <;> simp only [Oper.upon] at H ⊢
      case panic u=>exact H.elim
   · exact (Fin0.shut H).elim
 · rename_i hw
   rw [if_neg hw] at H
   exact hK _ _ _ (h.put _ _ hb) ⟨undef,b.defers,rfl⟩ H
theorem chk_sel (h:chkOrd ops pu=true):Region.noSelect ops=true:=by
 unfold chkOrd at h;simp only [Bool.and_eq_true] at h;exact h.1.1
theorem chk_dep (h:chkOrd ops pu=true)(j e:Nat)(he:e∈depsOf ops j):e<j:=by
 unfold chkOrd at h;simp only [Bool.and_eq_true,List.all_eq_true,List.mem_range] at h
 have hj:j<ops.size:=by
  rcases Nat.lt_or_ge j ops.size with h' | h'
  · exact h'
  · simp [depsOf,Array.getElem?_eq_none h'] at he
 have:=h.1.2 j hj e he;simpa using this
theorem chk_pu (h:chkOrd ops pu=true)(p:Nat×Nat)(hp:p∈pu):∃ o,ops[p.1]?=some o∧True∧o.dst=some p.2 ∧
  ∀ j oj,ops[j]?=some oj→(∀ d,oj.dst=some d→j=p.1∨(d≠p.2∧(pu.any (fun q=>Nat.beq q.1 j)=true∨d∉o.looksAt ops∨isAnc ops 12 p.1 j=true)))∧(p.2∈oj.looksAt ops→isAnc ops 12 p.1 j=true):=by
 unfold chkOrd at h;simp only [Bool.and_eq_true,List.all_eq_true,List.mem_range] at h
 have h1:=h.2 p hp
 cases ho:ops[p.1]? with
 | none=>rw [ho] at h1;cases h1
 | some o =>
  rw [ho] at h1
  simp only [Bool.and_eq_true,List.all_eq_true,List.mem_range] at h1
  obtain ⟨h3,h4⟩:=h1
  refine ⟨o,rfl,trivial,?_,fun j oj hj=>?_⟩
  · cases hd:o.dst with
    | none=>rw [hd] at h3;cases h3
    | some d=>rw [hd] at h3;simpa using h3
  · have h5:=h4 j (Array.getElem?_eq_some_iff.1 hj).1
    rw [hj] at h5
    simp only [Bool.and_eq_true] at h5
    refine ⟨fun d hd=>?_,fun hm=>?_⟩
    · have h6:=h5.1
      rw [hd] at h6
      simp only [Bool.or_eq_true,Bool.and_eq_true,Nat.beq_eq,Bool.not_eq_true',List.contains_eq_mem,decide_eq_false_iff_not] at h6
      rcases h6 with h6 | ⟨h6,h7⟩
      · exact .inl h6
      · refine .inr ⟨fun e=>by subst e;simp at h6,?_⟩
        rcases h7 with (h7 | h7) | h7
        · exact .inl h7
        · exact .inr (.inl h7)
        · exact .inr (.inr h7)
    · have h6:=h5.2
      simp only [Bool.or_eq_true,Bool.not_eq_true',List.contains_eq_mem,decide_eq_false_iff_not] at h6
      exact h6.resolve_left fun h=>h hm
theorem lk_set {l:Array Bool}{i j:Nat}(hi:i<l.size):lk (l.setIfInBounds i true) j=(lk l j||Nat.beq i j):=by
 exact Bz78
theorem getD_t {l:Array Bool}{i:Nat}(hi:i<l.size):l.getD i true=lk l i:=by
 unfold lk;simp [hi]
theorem ready_iff {listed:Array Bool}{j:Nat}(hs:listed.size=ops.size):j∈Region.ready .any ops listed↔j<ops.size∧lk listed j=false∧∀ e∈depsOf ops j,lk listed e=true:=by
 rw [mem_ready]
 constructor
 · rintro ⟨h0,o,ho,h1⟩
   have hj:=(Array.getElem?_eq_some_iff.1 ho).1
   refine ⟨hj,by rw [← getD_t (by omega)];exact h0,fun e he=>?_⟩
   simp only [depsOf,ho,List.mem_map,List.mem_filter,Array.mem_toList_iff] at he
   obtain ⟨ed,⟨he1,he2⟩,rfl⟩:=he
   exact h1 ed he1 he2
 · rintro ⟨hj,h0,h1⟩
   refine ⟨by rw [getD_t (by omega)];exact h0,ops[j],Array.getElem?_eq_getElem hj,fun e he hb=>?_⟩
   refine h1 e.on ?_
   simp only [depsOf,Array.getElem?_eq_getElem hj,List.mem_map,List.mem_filter,Array.mem_toList_iff]
   exact ⟨e,⟨he,hb⟩,rfl⟩
theorem ready_end (hch:chkOrd ops pu=true){listed:Array Bool}(hs:listed.size=ops.size)(h:Region.ready .any ops listed=[]):∀ i,i<ops.size→lk listed i=true:=by
 intro i
 induction i using Nat.strongRecOn with
 | _ i ih =>
  intro hi
  cases hl:lk listed i with
  | true=>rfl
  | false =>
   have:i∈Region.ready .any ops listed:=(ready_iff hs).2 ⟨hi,hl,fun e he=>ih e (chk_dep hch i e he) (by have:=chk_dep hch i e he;omega)⟩
   rw [h] at this
   cases this
theorem count_set {l:Array Bool}{i:Nat}(hi:i<l.size)(h:lk l i=false):(l.setIfInBounds i true).toList.count false+1=l.toList.count false:=by
 exact Bz43
theorem orders_done (hch:chkOrd ops pu=true){k:Nat}{listed l:Array Bool}{a b:Act}{w:World}(hs:listed.size=ops.size)(hl:l.size=ops.size)
  (hm:∀ i,i<ops.size→lk l i=(lk listed i||pu.any (fun q=>Nat.beq q.1 i))) (hr:Rl (fun x=>∃ p∈pu,p.2=x∧lk listed p.1=false) a b) (hx:wpX P ops pu Q S k l b w) (h0:Region.ready .any ops listed=[]):Q .normal a w:=by
 have hall:=ready_end hch hs h0
 have hab:a=b:=by
  obtain ⟨ta,da⟩:=a
  obtain ⟨tb,db⟩:=b
  have h1:da=db:=hr.df
  have h2:ta=tb:=by
   apply Array.ext_getElem?
   intro x
   refine hr.tm x ?_
   rintro ⟨p,hp,_,hf⟩
   obtain ⟨o,ho,_⟩:=chk_pu hch p hp
   rw [hall p.1 (Array.getElem?_eq_some_iff.1 ho).1] at hf
   cases hf
  rw [h1,h2]
 subst hab
 cases k with
 | zero=>exact hx.elim
 | succ k =>
  refine hx.1 ?_
  cases hrr:Region.ready .any ops l with
  | nil=>rfl
  | cons x xs =>
   have hx:x∈Region.ready .any ops l:=by rw [hrr];exact List.mem_cons_self ..
   obtain ⟨h1,h2,_⟩:=(ready_iff hl).1 hx
   rw [hm x h1,hall x h1] at h2
   cases h2
theorem orders_go (hch:chkOrd ops pu=true):∀ (fuel k:Nat) (listed l:Array Bool) (a b:Act) (w:World),listed.toList.count false≤fuel→listed.size=ops.size→l.size=ops.size →
  (∀ i,i<ops.size→lk l i=(lk listed i||pu.any (fun q=>Nat.beq q.1 i)))→(∀ j,lk listed j=true→∀ e∈depsOf ops j,lk listed e=true) →
  Rl (fun x=>∃ p∈pu,p.2=x∧lk listed p.1=false) a b→(S w∨∀ p∈pu,lk listed p.1=true) →
  (∀ p∈pu,lk listed p.1=false→∃ o v,ops[p.1]?=some o∧b.tmps[p.2]?=some v∧Region.wanted o (yielded ops b.tmps)=true∧∀ w',S w'→(execOp b.eval o).run P w'=.ok (.value v) w') →
  wpX P ops pu Q S k l b w→wpAny P .any ops Q fuel listed a w:=by
 intro fuel
 induction fuel with
 | zero =>
  intro k listed l a b w hf hs hl hm hcl hr hS hp hx
  have h0:Region.ready .any ops listed=[]:=by
   cases hrr:Region.ready .any ops listed with
   | nil=>rfl
   | cons x xs =>
    have hx:x∈Region.ready .any ops listed:=by rw [hrr];exact List.mem_cons_self ..
    obtain ⟨h1,h2,_⟩:=(ready_iff hs).1 hx
    have:=count_set (l:=listed) (by omega) h2
    omega
  exact ⟨h0,orders_done hch hs hl hm hr hx h0⟩
 | succ fuel ih =>
  intro k listed l a b w hf hs hl hm hcl hr hS hp hx
  refine ⟨orders_done hch hs hl hm hr hx,fun i hi=>?_⟩
  obtain ⟨hilt,hiun,hidep⟩:=(ready_iff hs).1 hi
  have hcnt:=count_set (l:=listed) (by omega) hiun
  obtain ⟨o,ho⟩:∃ o,ops[i]?=some o:=⟨_,Array.getElem?_eq_getElem hilt⟩
  have hns:∀ cs bb,o.op≠.select cs bb:=fun cs bb=>Region.noSelect_spec (chk_sel hch) i o cs bb ho
  have hlook:∀ t∈o.looksAt ops,¬ ∃ p∈pu,p.2=t∧lk listed p.1=false:=by
   rintro t ht ⟨p,hp1,rfl,hp2⟩
   obtain ⟨_,_,_,_,hq⟩:=chk_pu hch p hp1
   have:=anc_listed hcl 12 p.1 i hidep ((hq i o ho).2 ht)
   rw [this] at hp2
   cases hp2
  have hset:∀ j,lk (listed.setIfInBounds i true) j=(lk listed j||Nat.beq i j):=fun j=>lk_set (by omega)
  have hcl':∀ j,lk (listed.setIfInBounds i true) j=true→∀ e∈depsOf ops j,lk (listed.setIfInBounds i true) e=true:=by
   intro j hj e he
   rw [hset,Bool.or_eq_true] at hj
   rw [hset,Bool.or_eq_true]
   rcases hj with hj | hj
   · exact .inl (hcl j hj e he)
   · obtain rfl:=Nat.eq_of_beq_eq_true hj
     exact .inl (hidep e he)
  unfold wpOp
  simp only [ho]
  by_cases hpu:pu.any (fun q=>Nat.beq q.1 i)=true
  · obtain ⟨p,hp1,hpi⟩:=List.any_eq_true.1 hpu
    obtain rfl:=Nat.eq_of_beq_eq_true hpi
    obtain ⟨o1,v,ho1,hv,hwb,hrun⟩:=hp p hp1 hiun
    obtain ⟨o2,ho2,hgn,hds,hq⟩:=chk_pu hch p hp1
    obtain rfl:o=o1:=by rw [ho] at ho1;exact Option.some.inj ho1
    obtain rfl:o=o2:=by rw [ho] at ho2;exact Option.some.inj ho2
    have hwant:Region.wanted o (yielded ops a.tmps)=true:=(looks_ev hr hlook).2.trans hwb
    rw [if_pos hwant]
    refine .inl ?_
    unfold Oper.wp
    have hS1:S w:=hS.resolve_right fun h=>by rw [h p hp1] at hiun;cases hiun
    rw [execOp_congr o hns (looks_ev hr hlook).1,hrun w hS1,Oper.upon_value,hds]
    refine ih k _ l _ b w (by omega) p21q hl ?_ hcl' ⟨hr.df,by simp [Act.put,hr.sz],fun x hx=>?_⟩ (.inl hS1) ?_ hx
    · intro j hj
      rw [hset,hm j hj]
      by_cases hj':p.1=j
      · subst hj';simp [hpu]
      · have:Nat.beq p.1 j=false:=by
          cases hb:Nat.beq p.1 j
          · rfl
          · exact absurd (Nat.eq_of_beq_eq_true hb) hj'
        rw [this];simp
    · simp only [Act.put,Array.getElem?_setIfInBounds]
      split
      · rename_i he
        subst he
        rw [if_pos (by rw [hr.sz];exact (Array.getElem?_eq_some_iff.1 hv).1),hv]
      · rename_i hne
        refine hr.tm x ?_
        rintro ⟨p',hp',rfl,hl'⟩
        refine hx ⟨p',hp',rfl,?_⟩
        rw [hset,hl']
        cases hb:Nat.beq p.1 p'.1
        · rfl
        · exfalso
          have he:=Nat.eq_of_beq_eq_true hb
          obtain ⟨o3,ho3,_,hds3,_⟩:=chk_pu hch p' hp'
          rw [← he,ho] at ho3
          obtain rfl:=Option.some.inj ho3
          rw [hds] at hds3
          exact hne (Option.some.inj hds3)
    · intro p' hp' hl'
      rw [hset,Bool.or_eq_false_iff] at hl'
      exact hp p' hp' hl'.1
  · have hpu':pu.any (fun q=>Nat.beq q.1 i)=false:=by
      cases hh:pu.any (fun q=>Nat.beq q.1 i) with
      | true=>exact absurd hh hpu
      | false=>rfl
    cases k with
    | zero=>exact hx.elim
    | succ k =>
    have hil:i∈Region.ready .any ops l:=(ready_iff hl).2 ⟨hilt,by rw [hm i hilt,hiun,hpu'];rfl,fun e he=>by
     rw [hm e (by have:=chk_dep hch i e he;omega),hidep e he];rfl⟩
    obtain ⟨o',ho',hx'⟩:=hx.2 i hil
    obtain rfl:o=o':=by rw [ho] at ho';exact Option.some.inj ho'
    have key:=step_rl (Q:=Q) (bad':=fun x=>∃ p∈pu,p.2=x∧lk (listed.setIfInBounds i true) p.1=false) (K':=wpAny P .any ops Q fuel (listed.setIfInBounds i true)) hns hr hlook (fun x hx=>.inr fun hbad=>by
      obtain ⟨p,hp1,hp2,hp3⟩:=hbad
      refine hx ⟨p,hp1,hp2,?_⟩
      rw [hset,hp3]
      cases hb:Nat.beq i p.1
      · rfl
      · exfalso
        refine hpu (List.any_eq_true.2 ⟨p,hp1,?_⟩)
        rw [Nat.eq_of_beq_eq_true hb,Nat.beq_refl]) ?_ hx'
    · split
      · rename_i hw;rw [if_pos hw] at key;exact .inl key
      · rename_i hw;rw [if_neg hw] at key;exact key
    · rintro a' b' w' hr' ⟨u,df,rfl⟩ ⟨hS',hx2⟩
      have hS2:S w'∨∀ p∈pu,lk (listed.setIfInBounds i true) p.1=true:=hS'.imp id fun hl p hp1=>by
       rw [hset,Bool.or_eq_true]
       exact .inl (anc_listed hcl 12 p.1 i hidep (List.all_eq_true.1 hl p hp1))
      refine ih k _ _ a' _ w' (by omega) p21q (by simpa using hl) ?_ hcl' hr' hS2 ?_ hx2
      · intro j hj
        rw [lk_set (by omega),hset,hm j hj]
        cases lk listed j <;> cases Nat.beq i j <;> simp
      · intro p hp1 hl'
        rw [hset,Bool.or_eq_false_iff] at hl'
        obtain ⟨o1,v,ho1,hv,hwb,hrun⟩:=hp p hp1 hl'.1
        obtain ⟨o2,ho2,hgn,hds,hq⟩:=chk_pu hch p hp1
        obtain rfl:o1=o2:=by rw [ho1] at ho2;exact Option.some.inj ho2
        have hno:∀ d,o.dst=some d→d≠p.2∧d∉o1.looksAt ops:=by
         intro d hd
         rcases (hq i o ho).1 d hd with he | ⟨h3,h4⟩
         · subst he;simp at hl'
         · refine ⟨h3,?_⟩
           rcases h4 with h4 | h4 | h4
           · rw [hpu'] at h4;cases h4
           · exact h4
           · have:=anc_listed hcl 12 p.1 i hidep h4
             rw [hl'.1] at this;cases this
        refine ⟨o1,v,ho1,?_,(wanted_put (ops:=ops) o1 { b with defers:=df } o.dst u fun d hd=>(hno d hd).2).trans hwb,fun w'' hS''=>?_⟩
        · cases hd:o.dst with
          | none=>simpa [Act.put,hd] using hv
          | some d=>simp only [Act.put];rw [Array.getElem?_setIfInBounds_ne (hno d hd).1];exact hv
        · rw [← hrun w'' hS'']
          congr 1
          refine execOp_congr o1 (fun cs bb=>Region.noSelect_spec (chk_sel hch) p.1 o1 cs bb ho1) fun x hx=>?_
          refine (Act.eval_put (a:={ b with defers:=df }) fun d hd hxd=>(hno d hd).2 ?_).trans (by cases x <;> rfl)
          subst hxd
          exact List.mem_append_left _ (List.mem_filterMap.2 ⟨.tmp d,by simpa using hx,rfl⟩)
def mskOrd (ops:Array Oper)(pu:List (Nat×Nat))(m:Array Bool):Bool :=
 Nat.beq m.size ops.size&&(List.range ops.size).all fun i=>lk m i==pu.any (fun q=>Nat.beq q.1 i)
end
section
variable {P:Program} {Q:Exit→Act→World→Prop} {S:World→Prop} {w w0:World} {L:List (Nat×Obj)} {R:List Row} {n:Nat} {f:Nat→Value}
theorem w_orders {id:Nat}{l:List Oper}(cx:Cxr w0 w L R)(hm:P.follows .mixedOrders=true)(pu:List (Nat×Nat))(m:Array Bool)(S:World→Prop)(g:Nat→Value)
  (hch:chkOrd l.toArray pu=true) (hmk:mskOrd l.toArray pu m=true) (hn:∀ p∈pu,p.2<n) (hag:∀ x,(∀ p∈pu,p.2≠x)→f x=g x)
  (hwt:∀ p∈pu,∃ o,l[p.1]?=some o∧Region.wanted o (yielded l.toArray (St n g).tmps)=true)
  (hp:∀ w',S w'→∀ p∈pu,∃ o,l[p.1]?=some o∧(execOp (ev n g) o).run P w'=.ok (.value (g p.2)) w')
  (h:∀ w',Cxr w0 w' L R→Below w.heap.size w w'→w'.heap=w.heap→S w'∧wpX P l.toArray pu Q S (l.length+1) m (St n g) w'):(Code.region id l.toArray true).wp P Q (St n f) w:=by
 refine wp_region_any hm ?_
 obtain ⟨hS,hX⟩:=h w.drew cx.draw ⟨rfl,rfl,rfl,Nat.le_refl _,fun _ _=>rfl⟩ rfl
 unfold mskOrd at hmk
 simp only [Bool.and_eq_true,Nat.beq_eq,List.all_eq_true,List.mem_range,beq_iff_eq] at hmk
 have hsz:(Array.replicate l.toArray.size false).size=l.toArray.size:=by simp
 have hf:∀ j,lk (Array.replicate l.toArray.size false) j=false:=by
  intro j
  unfold lk
  by_cases hj:j<l.length <;> simp [hj]
 refine orders_go hch _ _ _ m (St n f) (St n g) w.drew ?_ hsz hmk.1 (fun i hi=>by rw [hf,hmk.2 i hi];simp) (fun j hj=>by rw [hf] at hj;cases hj) ⟨rfl,by simp [St],fun x hx=>?_⟩ (.inl hS) ?_ hX
 · have:=List.count_le_length (a:=false) (l:=(Array.replicate l.toArray.size false).toList)
   simp at this ⊢
 · simp only [St,Array.getElem?_ofFn]
   split
   · rw [hag x fun p hp e=>hx ⟨p,hp,e,hf _⟩]
   · rfl
 · intro p hp1 _
   obtain ⟨o,_,_,_⟩:=chk_pu hch p hp1
   obtain ⟨o',ho',_⟩:∃ o,l.toArray[p.1]?=some o∧True:=⟨o,by assumption,trivial⟩
   refine ⟨o',g p.2,ho',?_,?_,fun w' hw=>?_⟩
   · simp only [St,Array.getElem?_ofFn]
     rw [dif_pos (hn p hp1)]
   · obtain ⟨o2,h2,h3⟩:=hwt p hp1
     obtain rfl:o'=o2:=by rw [List.getElem?_toArray] at ho';rw [ho'] at h2;exact Option.some.inj h2
     exact h3
   · obtain ⟨o2,h2,h3⟩:=hp w' hw p hp1
     obtain rfl:o'=o2:=by rw [List.getElem?_toArray] at ho';rw [ho'] at h2;exact Option.some.inj h2
     rw [eval_St];exact h3
variable {ops:Array Oper} {l:Array Bool} {k:Nat} {a:Act} {pu:List (Nat×Nat)}
theorem x_done (hr:Region.ready .any ops l=[])(h:Q .normal a w):wpX P ops pu Q S (k+1) l a w:=by
 refine ⟨fun _=>h,?_⟩
 rw [hr];intro i hi;cases hi
theorem x_one {i:Nat}{o:Oper}(hr:Region.ready .any ops l=[i])(ho:ops[i]?=some o)(h:wpList P ops (Fin0 fun a' w'=>(S w'∨lateB ops pu i=true)∧wpX P ops pu Q S k (l.setIfInBounds i true) a' w') [o] a w):wpX P ops pu Q S (k+1) l a w:=by
 refine ⟨fun h0=>?_,?_⟩
 · rw [hr] at h0;cases h0
 · rw [hr]
   intro j hj
   obtain rfl:j=i:=by simpa using hj
   exact ⟨o,ho,h⟩
theorem x_two {i j:Nat}{o u:Oper}(hr:Region.ready .any ops l=[i,j])(ho:ops[i]?=some o)(hu:ops[j]?=some u)(h:wpList P ops (Fin0 fun a' w'=>(S w'∨lateB ops pu i=true)∧wpX P ops pu Q S k (l.setIfInBounds i true) a' w') [o] a w)
  (h':wpList P ops (Fin0 fun a' w'=>(S w'∨lateB ops pu j=true)∧wpX P ops pu Q S k (l.setIfInBounds j true) a' w') [u] a w):wpX P ops pu Q S (k+1) l a w:=by
 refine ⟨fun h0=>?_,?_⟩
 · rw [hr] at h0;cases h0
 · rw [hr]
   intro x hx
   have hx':x=i∨x=j:=by simpa using hx
   rcases hx' with rfl | rfl
   · exact ⟨o,ho,h⟩
   · exact ⟨u,hu,h'⟩
theorem wnt_none {o:Oper}{t:Array Value}(hg:o.guard=none):Region.wanted o (yielded ops t)=true:=by simp [Region.wanted,hg]
theorem x_next {K:Act→World→Prop}(h:K a w):wpList P ops (Fin0 K) [] a w:=h
def wpPu (P:Program)(ops:Array Oper)(n:Nat)(S:World→Prop)(F:(Nat→Value)→Prop):List (Nat×Nat)→(Nat→Value)→Prop
 | [],f=>F f
 | (i,d)::r,f=>∃ o v,ops[i]?=some o∧Region.wanted o (yielded ops (St n f).tmps)=true∧(∀ w',S w'→(execOp (ev n f) o).run P w'=.ok (.value v) w')∧wpPu P ops n S F r (upd f d v)
def incr:List (Nat×Nat)→Bool
 | []=>true
 | p::r=>r.all (fun q=>Nat.blt p.1 q.1)&&incr r
theorem upd_ne {f:Nat→Value}{d x:Nat}{v:Value}(h:x≠d):upd f d v x=f x:=by rw [upd_eq,if_neg h]
theorem upd_self {f:Nat→Value}{d:Nat}{v:Value}:upd f d v d=v:=by rw [upd_eq,if_pos rfl]
theorem wpPu_spec {pu:List (Nat×Nat)}{F:(Nat→Value)→Prop}(hch:chkOrd ops pu=true):∀ (r:List (Nat×Nat)) (f:Nat→Value),(∀ p∈r,p∈pu)→incr r=true→wpPu P ops n S F r f →
  ∃ g,F g∧(∀ x,(∀ p∈r,p.2≠x)→f x=g x)∧∀ p∈r,∃ o,ops[p.1]?=some o∧Region.wanted o (yielded ops (St n g).tmps)=true∧∀ w',S w'→(execOp (ev n g) o).run P w'=.ok (.value (g p.2)) w':=by
 intro r
 induction r with
 | nil=>intro f _ _ h;exact ⟨f,h,fun _ _=>rfl,fun p hp=>by cases hp⟩
 | cons p r ih =>
  intro f hsub hinc h
  obtain ⟨i,d⟩:=p
  obtain ⟨o,v,ho,hw,hv,hr⟩:=h
  simp only [incr,Bool.and_eq_true,List.all_eq_true] at hinc
  obtain ⟨g,hF,hag,hall⟩:=ih _ (fun q hq=>hsub q (List.mem_cons_of_mem _ hq)) hinc.2 hr
  obtain ⟨o1,ho1,_,hd1,hq1⟩:=chk_pu hch (i,d) (hsub _ (List.mem_cons_self ..))
  obtain rfl:o=o1:=by rw [ho] at ho1;exact Option.some.inj ho1
  have hno:∀ q∈(i,d)::r,q.2∉o.looksAt ops:=by
   intro q hq hm
   obtain ⟨_,_,_,_,hq2⟩:=chk_pu hch q (hsub q hq)
   have ha:=(hq2 i o ho).2 hm
   have hlt:∀ k a b,isAnc ops k a b=true→a<b:=by
    intro k
    induction k with
    | zero=>intro a b h;simp [isAnc] at h
    | succ k ihk =>
     intro a b h
     simp only [isAnc,List.any_eq_true,Bool.or_eq_true,beq_iff_eq] at h
     obtain ⟨e,he,rfl | h⟩:=h
     · exact chk_dep hch b e he
     · exact Nat.lt_trans (ihk a e h) (chk_dep hch b e he)
   have h1:=hlt _ _ _ ha
   rcases List.mem_cons.1 hq with rfl | hq
   · simp at h1
   · have:=hinc.1 q hq
     simp at this
     omega
  have hd2:∀ q∈r,q.2≠d:=by
   intro q hq e
   obtain ⟨oq,hoq,_,hdq,hqq⟩:=chk_pu hch q (hsub q (List.mem_cons_of_mem _ hq))
   rcases (hqq i o ho).1 d hd1 with h1 | ⟨h1,_⟩
   · have:=hinc.1 q hq
     simp at this
     omega
   · exact h1 e.symm
  have hfg:∀ t∈o.looksAt ops,f t=g t:=by
   intro t ht
   have h1:t≠d:=fun e=>hno (i,d) (List.mem_cons_self ..) (by subst e;exact ht)
   rw [← hag t fun q hq e=>hno q (List.mem_cons_of_mem _ hq) (by subst e;exact ht),upd_ne h1]
  have hrl:Rl (fun x=>x∉o.looksAt ops) (St n f) (St n g):=⟨rfl,by simp [St],fun x hx=>by
   simp only [St,Array.getElem?_ofFn]
   split
   · rw [hfg x (Classical.not_not.1 hx)]
   · rfl⟩
  have hlk:=looks_ev (ops:=ops) hrl (fun t ht=>fun h=>h ht)
  refine ⟨g,hF,fun x hx=>?_,fun q hq=>?_⟩
  · rw [← hag x fun q hq=>hx q (List.mem_cons_of_mem _ hq),upd_ne fun e=>hx (i,d) (List.mem_cons_self ..) e.symm]
  · rcases List.mem_cons.1 hq with rfl | hq
    · refine ⟨o,ho,hlk.2.symm.trans hw,fun w' hS=>?_⟩
      have e:execOp (ev n g) o=execOp (ev n f) o:=by
       rw [← eval_St,← eval_St]
       exact (execOp_congr o (fun cs bb=>Region.noSelect_spec (chk_sel hch) i o cs bb ho) hlk.1).symm
      have e2:g d=v:=by rw [← hag d hd2,upd_self]
      rw [e,e2]
      exact hv w' hS
    · exact hall q hq
theorem w_ord {id:Nat}{l:List Oper}{Ls:List (Nat×Obj)}(cx:Cxr w0 w L R)(cxS:Cxr w0 w Ls [])(hm:P.follows .mixedOrders=true)(pu:List (Nat×Nat))(m:Array Bool)
  (hch:chkOrd l.toArray pu=true) (hmk:mskOrd l.toArray pu m=true) (hn:pu.all (fun p=>Nat.blt p.2 n)=true) (hi:incr pu=true)
  (h:wpPu P l.toArray n (fun w'=>Cxr w0 w' Ls []) (fun g=>∀ w',Cxr w0 w' L R→Below w.heap.size w w'→wpX P l.toArray pu Q (fun w'=>Cxr w0 w' Ls []) (l.length+1) m (St n g) w') pu f):(Code.region id l.toArray true).wp P Q (St n f) w:=by
 obtain ⟨g,hF,hag,hall⟩:=wpPu_spec hch pu f (fun _ h=>h) hi h
 refine w_orders cx hm pu m (fun w'=>Cxr w0 w' Ls []) g hch hmk (fun p hp=>by have:=List.all_eq_true.1 hn p hp;simpa using this) hag (fun p hp=>?_) (fun w' hS p hp=>?_) fun w' hc hb he=>⟨cxS.call hb,hF w' hc hb⟩
 · obtain ⟨o,h1,h2,_⟩:=hall p hp;exact ⟨o,by simpa using h1,h2⟩
 · obtain ⟨o,h1,_,h2⟩:=hall p hp;exact ⟨o,by simpa using h1,h2 w' hS⟩
theorem pu_one {F:(Nat→Value)→Prop}{i d:Nat}{r:List (Nat×Nat)}{o:Oper}{v:Value}(ho:ops[i]?=some o)(hw:Region.wanted o (yielded ops (St n f).tmps)=true)
  (hv:∀ w',S w'→(execOp (ev n f) o).run P w'=.ok (.value v) w') (h:wpPu P ops n S F r (upd f d v)):wpPu P ops n S F ((i,d)::r) f:=⟨o,v,ho,hw,hv,h⟩
theorem pu_nil {F:(Nat→Value)→Prop}(h:F f):wpPu P ops n S F [] f:=h
theorem Cxr.noR (h:Cxr w0 w L R):Cxr w0 w L []:=⟨h.ext,h.own,h.lo,h.nd,by simp,by simp,by simp⟩
theorem Cxr.pick1 (h:Cxr w0 w L R)(i:Nat){p:Nat×Obj}(hi:L[i]?=some p):Cxr w0 w [p] [] :=
 ⟨h.ext, fun q hq => by obtain rfl : q = p := by simpa using hq
                        exact h.own q (List.mem_of_getElem? hi), fun q hq => by obtain rfl : q = p := by simpa using hq
                                                                                exact h.lo q (List.mem_of_getElem? hi),by simp,by simp,by simp,by simp⟩
theorem Cxr.pick2 (h:Cxr w0 w L R)(i j:Nat){p q:Nat×Obj}(hi:L[i]?=some p)(hj:L[j]?=some q)(hij:Nat.beq i j=false):Cxr w0 w [p,q] []:=by
 refine ⟨h.ext,fun x hx=>?_,fun x hx=>?_,?_,by simp,by simp,by simp⟩
 · simp at hx
   rcases hx with rfl | rfl
   · exact h.own _ (List.mem_of_getElem? hi)
   · exact h.own _ (List.mem_of_getElem? hj)
 · simp at hx
   rcases hx with rfl | rfl
   · exact h.lo _ (List.mem_of_getElem? hi)
   · exact h.lo _ (List.mem_of_getElem? hj)
 · simp only [List.map_cons,List.map_nil,List.nodup_cons,List.mem_cons,List.not_mem_nil,or_false,not_false_eq_true,List.nodup_nil,and_true]
   intro e
   have h1:(L.map (·.1))[i]?=some p.1:=by simp [hi]
   have h2:(L.map (·.1))[j]?=some p.1:=by simp [hj,e]
   have hlt:i<(L.map (·.1)).length:=(List.getElem?_eq_some_iff.1 h1).1
   have:=(List.getElem?_inj hlt h.nd).1 (h1.trans h2.symm)
   subst this
   rw [Nat.beq_refl] at hij
   cases hij
end
end Go.Dk
end
section
namespace Go.Dk
open Go Go.RowKit
theorem ret_cell2 {P:Program}{n:Nat}{f:Nat→Value}{w:World}{fn:Func}{R:Value→World→Prop}{t u T ty b:Nat}{l:List Value}{x:Value}{fr:Nat×Nat}{d:TypeDesc}(hr:fn.results=#[.cell t ty,.tmp u])(hv:ev n f (.tmp t)=.pointer (some ⟨b,0,none⟩))(hx:ev n f (.tmp u)=x)(hb:w.heap[b]?=some (.cells l.toArray T fr))
  (hu:P.underlying ty=some d) (hdd:(match d with | .struct _ | .array _ _=>true | _=>false)=true) (hs:(P.info? ty).map (·.size)=some l.length) (h:R (.tuple #[.agg l.toArray,x]) w):bodyPost P fn (fun e w'=>∃ v,e=.returned v∧R v w') .ret (St n f) w:=by
 refine ⟨rfl,.tuple #[.agg l.toArray,x],?_,_,rfl,h⟩
 have h1:(St n f).tmps.getD t undef=.pointer (some ⟨b,0,none⟩):=by rw [← hv,← eval_St];rfl
 have h2:(St n f).tmps.getD u undef=x:=by rw [← hx,← eval_St];rfl
 rw [results_cell_tmp hr]
 rw [h1,h2]
 simp [asAddr,run_loadVar_row w b T ty l.toArray fr d hb hu hdd p21q,Result.andThen]
open Classical in
def tt:ByteArray→Value:=fun _=>.bool true
theorem updC_tt (k:ByteArray):updC tt k (.bool true)=tt:=by funext x;unfold updC tt;split <;> rfl
section
variable {P:Program} {ops:Array Oper} {Q:Exit→Act→World→Prop} {rest:List Oper} {o:Oper} {n:Nat} {f:Nat→Value} {w w0:World} {L:List (Nat×Obj)} {R:List Row} {ρ:Operand→Value}
theorem v_lookupT {t kt et:TypeId}{x y:Operand}{b m:Nat}{k:ByteArray}{ks:List ByteArray}(ho:o.op=.lookup t x y false)(hx:ρ x=.map (some b))(hy:ρ y=.string k)(ht:P.underlying t=some (.map kt et))(hk:P.underlying kt=some .string)
  (hz:(zeroValue et).run P w=.ok (.bool false) w) (hb:w.heap[b]?=some (.map (ents ks tt 0).toArray m)):(execOp ρ o).run P w=.ok (.value (.bool (hasK ks k))) w:=by
 have:=v_lookupS ho hx hy ht hk hz hb
 rw [this]
 cases hasK ks k <;> rfl
theorem s_mapSetT {t kt et:TypeId}{x y z:Operand}{b:Nat}{k:ByteArray}{ks:List ByteArray}(cx:Cxr w0 w L R)(i:Nat)(hg:o.guard=none)(hd:o.dst=none)(ho:o.op=.mapUpdate t x y z)(hx:ev n f x=.map (some b))(hy:ev n f y=.string k)(hz:ev n f z=.bool true)
  (ht:P.underlying t=some (.map kt et)) (hk:P.underlying kt=some .string) (hn:ks.Nodup) (hi:L[i]?=some (b,.map (ents ks tt 0).toArray ks.length)) (hnew:hasK ks k=false)
  (h:∀ w',Cxr w0 w' (L.set i (b,.map (ents (ks++[k]) tt 0).toArray (ks++[k]).length)) R→w.grownBy w' (some b)→wpList P ops Q rest (St n f) w'):wpList P ops Q (o::rest) (St n f) w:=by
 have e:addK ks k=ks++[k]:=by unfold addK;rw [if_neg (by rw [hnew];exact Bool.noConfusion)]
 refine s_mapSet cx i hg hd ho hx hy hz ht hk hn hi fun w' cx' hgr=>h w' ?_ hgr
 rw [e,updC_tt] at cx'
 exact cx'
end
theorem hasK_F {ks:List ByteArray}{k:ByteArray}(h:hasK ks k=false):k∉ks:=fun hm=>by rw [hasK_iff.2 hm] at h;cases h
section
variable {P:Program} {ops:Array Oper} {pu:List (Nat×Nat)} {Q:Exit→Act→World→Prop} {S:World→Prop} {w:World} {l:Array Bool} {k:Nat} {a:Act}
theorem x_three {i j m:Nat}{o u t:Oper}(hr:Region.ready .any ops l=[i,j,m])(ho:ops[i]?=some o)(hu:ops[j]?=some u)(ht:ops[m]?=some t)(h:wpList P ops (Fin0 fun a' w'=>(S w'∨lateB ops pu i=true)∧wpX P ops pu Q S k (l.setIfInBounds i true) a' w') [o] a w)
  (h':wpList P ops (Fin0 fun a' w'=>(S w'∨lateB ops pu j=true)∧wpX P ops pu Q S k (l.setIfInBounds j true) a' w') [u] a w) (h'':wpList P ops (Fin0 fun a' w'=>(S w'∨lateB ops pu m=true)∧wpX P ops pu Q S k (l.setIfInBounds m true) a' w') [t] a w):wpX P ops pu Q S (k+1) l a w:=by
 refine ⟨fun h0=>?_,?_⟩
 · rw [hr] at h0;cases h0
 · rw [hr]
   intro x hx
   have hx':x=i∨x=j∨x=m:=by simpa using hx
   rcases hx' with rfl | rfl | rfl
   · exact ⟨o,ho,h⟩
   · exact ⟨u,hu,h'⟩
   · exact ⟨t,ht,h''⟩
end
end Go.Dk
end
section
namespace Go.Dk
open Go Go.RowKit
section
variable {P:Program} {ops:Array Oper} {Q:Exit→Act→World→Prop} {rest:List Oper} {o:Oper} {n:Nat} {f:Nat→Value} {w w0:World} {L:List (Nat×Obj)} {R:List Row} {ρ:Operand→Value}
theorem v_nilCk {x:Operand}{a:Addr}(ho:o.op=.nilCheck x)(hx:ρ x=.pointer (some a)):(execOp ρ o).run P w=.ok (.value (.pointer (some a))) w:=by
 unfold execOp;rw [ho]
 simp [hx]
theorem ret_cell {fn:Func}{R:Value→World→Prop}{t T ty b:Nat}{l:List Value}{fr:Nat×Nat}{d:TypeDesc}(hr:fn.results=#[.cell t ty])(hv:ev n f (.tmp t)=.pointer (some ⟨b,0,none⟩))(hb:w.heap[b]?=some (.cells l.toArray T fr))
  (hu:P.underlying ty=some d) (hdd:(match d with | .struct _ | .array _ _=>true | _=>false)=true) (hs:(P.info? ty).map (·.size)=some l.length) (h:R (.agg l.toArray) w):bodyPost P fn (fun e w'=>∃ v,e=.returned v∧R v w') .ret (St n f) w:=by
 refine ⟨rfl,.agg l.toArray,?_,_,rfl,h⟩
 have:(St n f).tmps.getD t undef=.pointer (some ⟨b,0,none⟩):=by rw [← hv,← eval_St];rfl
 exact results_cell_row hr _ w b T l.toArray fr d this hb hu hdd p21q
theorem ret_no {fn:Func}{T:Value→World→Prop}{e:Exit}(he:e=.ret∨e=.normal)(hr:fn.results=#[])(h:T (.tuple #[]) w):bodyPost P fn (fun e w'=>∃ v,e=.returned v∧T v w') e (St n f) w:=by
 rcases he with rfl | rfl <;> exact ⟨rfl,_,results_none hr _ _ _,_,rfl,h⟩
end
end Go.Dk
end
section
namespace Go.Dk
open Go Go.RowKit Go.Lib
theorem run_storeCells_atB (P:Program)(g o:Nat)(t:TypeId)(fz:Nat×Nat):∀ (vs:List Value) (i:Nat) (cur:Array Value) (w:World),w.heap[g]?=some (.cells cur t fz)→(o+i+vs.length≤fz.1∨fz.2=0)→o+i+vs.length≤cur.size→(∀ v∈vs,v.oneCell'=true) →
  (storeCells ⟨g,o,none⟩ vs i).run P w=.ok () (w.setRow g (cur.toList.take (o+i)++vs++cur.toList.drop (o+i+vs.length)).toArray)
 | [],i,cur,w,hg,_,_,_=>by
  simp only [storeCells,List.append_nil,List.length_nil,Nat.add_zero,List.take_append_drop,Array.toArray_toList]
  rw [setRow_self w g cur t fz hg]
  rfl
 | v::rest,i,cur,w,hg,hfz,hl,h1=>by
  have hi:o+i<cur.size:=by simp at hl;omega
  have hadd:(⟨g,o,none⟩:Addr).add i=⟨g,o+i,none⟩:=add_addr ..
  have hcell:w.cell? ⟨g,o+i,none⟩=some cur[o+i]:=by simp [World.cell?,hg,hi]
  have hfro:w.frozen? ⟨g,o+i,none⟩=false:=by
   obtain ⟨lo,hi'⟩:=fz
   simp only [World.frozen?,hg,Bool.and_eq_false_iff,decide_eq_false_iff_not]
   simp only [List.length_cons] at hfz
   omega
  have hst:(store ((⟨g,o,none⟩:Addr).add i) v).run P w=.ok () (w.setRow g (cur.setIfInBounds (o+i) v)):=by
   rw [hadd,run_store P w _ v _ (h1 v (by simp)),hcell]
   simp [hfro,setCell_eq_setRow w g (o+i) cur t fz v hg]
  have ih:=run_storeCells_atB P g o t fz rest (i+1) (cur.setIfInBounds (o+i) v) (w.setRow g (cur.setIfInBounds (o+i) v)) (setRow_heap w g cur _ t _ hg) (by simp only [List.length_cons] at hfz;omega) (by simp at hl ⊢;omega) (fun x hx=>h1 x (by simp [hx]))
  simp only [storeCells,Sem.run_bind,hst,Result.andThen_ok,ih,setRow_setRow]
  congr 3
  have e:=list_seg_step cur.toList (o+i) v rest (by simp at hl ⊢;omega)
  simpa [Array.toList_setIfInBounds,Nat.add_assoc] using e
def Outs (cur:Array Value)(fz:Nat×Nat)(n cap:Nat)(l:List UInt8):Prop:=cur.size=cap∧n=l.length∧n≤cap∧cap≤maxLen∧cur.toList.take n=l.map bv∧(cap≤fz.1∨fz.2=0)
theorem Outs.row {w0 w:World}{L:List (Nat×Obj)}{R:List Row}{g n cap:Nat}{cur:Array Value}{fz:Nat×Nat}{l:List UInt8}(cx:Cxr w0 w ((g,.cells cur 5 fz)::L) R)(h:Outs cur fz n cap l):RowAt w g 0 (l.map bv):=by
 intro j x hj
 obtain ⟨_,h2,_,_,h5,_⟩:=h
 rw [cell_of_row w g (0+j) cur 5 fz (cx.at 0 rfl)]
 rw [← h5,List.getElem?_take] at hj
 split at hj
 · rw [Nat.zero_add];simpa using hj
 · cases hj
theorem Cxr.addOwn {w0 w:World}{L:List (Nat×Obj)}{R:List Row}{b:Nat}{o:Obj}(h:Cxr w0 w L R)(hb:w.heap[b]?=some o)(hL:∀ p∈L,p.1≠b)(h0:w0.heap.size≤b)(hR:∀ r∈R,∀ q,r.v.ownBlock=some q→q≠b):Cxr w0 w ((b,o)::L) R:=by
 refine ⟨h.ext,?_,?_,?_,h.rows,?_,h.pw⟩
 · intro p hp
   rcases List.mem_cons.1 hp with rfl | hp
   · exact hb
   · exact h.own p hp
 · intro p hp
   rcases List.mem_cons.1 hp with rfl | hp
   · exact h0
   · exact h.lo p hp
 · rw [List.map_cons,List.nodup_cons]
   refine ⟨fun hm=>?_,h.nd⟩
   obtain ⟨p,hp,e⟩:=List.mem_map.1 hm
   exact hL p hp e
 · intro r hr k hk hm
   rw [List.map_cons,List.mem_cons] at hm
   rcases hm with e | hm
   · exact hR r hr k hk e
   · exact h.off r hr k hk hm
section
variable {P:Program} {ops:Array Oper} {Q:Exit→Act→World→Prop} {rest:List Oper} {o:Oper} {n:Nat} {f:Nat→Value} {w w0:World} {L:List (Nat×Obj)} {R:List Row}
theorem s_s2b {d:Nat}{s t:TypeId}{x:Operand}{u:TypeDesc}{l:List UInt8}(cx:Cxr w0 w L R)(hl:l.length≤140737488355328)(hs:P.underlying s=some u)(ht:P.underlying t=some (.slice 5))(he:P.underlying 5=some (.int .u8))
  (hg:o.guard=none) (hd:o.dst=some d) (ho:o.op=.convert s t x) (hx:ev n f x=.string (bs l))
  (h:∀ g cur fz cap w',Cxr w0 w' ((g,.cells cur 5 fz)::L) R→Outs cur fz l.length cap l→wpList P ops Q rest (St n (upd f d (.slice (some ⟨g,0,none⟩) l.length cap))) w'):wpList P ops Q (o::rest) (St n f) w:=by
 have hrun:=Lib.run_convert_string_bytes (P:=P) w s t 5 (bs l) hs ht he
 rw [bs_size] at hrun
 have hge:=grownCap_ge w l.length 0 5
 have hcm:grownCap w l.length 0 5≤maxLen:=grownCap_le_maxLen w l.length 0 5 p2bq
 have hsz:(Lib.bytesCells w 5 (bs l)).size=grownCap w l.length 0 5:=by
  unfold Lib.bytesCells
  simp only [Array.size_append,Array.size_map,Array.size_replicate,bs_size]
  have:(bs l).data.size=l.length:=by simp [bs]
  omega
 refine s_new (w':=Lib.bytesWorld w 5 (bs l)) (v:=.slice (some ⟨w.heap.size,0,none⟩) l.length (grownCap w l.length 0 5)) hg hd ?_ (h w.heap.size (Lib.bytesCells w 5 (bs l)) ((Lib.bytesCells w 5 (bs l)).size,(Lib.bytesCells w 5 (bs l)).size+1) _ _ ?_ ⟨hsz,rfl,hge,hcm,?_,.inl ?_⟩)
 · unfold execOp;rw [ho];simp [hx,hrun]
 · have hb:Below w.heap.size w (Lib.bytesWorld w 5 (bs l)):=⟨rfl,rfl,rfl,by rw [Lib.bytesWorld_size];omega,fun j hj=>Lib.bytesWorld_at_old w 5 (bs l) j hj⟩
   exact (cx.call hb).addOwn (Lib.bytesWorld_at_new w 5 (bs l)) (fun p hp=>by have:=cx.lt p hp;omega) cx.ext.size (fun r hr q hq=>by have:=((cx.rows r hr).lt q hq).2;omega)
 · unfold Lib.bytesCells
   rw [Array.toList_append]
   have e:(Array.map (fun b:UInt8=>Value.int .u8 b.toNat) (bs l).data).toList=l.map bv:=by simp [bs,bv]
   rw [e]
   have:(l.map bv).length=l.length:=by simp
   rw [← this,List.take_left]
 · show grownCap w l.length 0 5≤(Lib.bytesCells w 5 (bs l)).size
   rw [hsz]
   exact Nat.le_refl _
theorem s_appL {d:Nat}{t u:TypeId}{x y:Operand}{g m cap:Nat}{cur:Array Value}{fz:Nat×Nat}{l a:List UInt8}(cx:Cxr w0 w ((g,.cells cur 5 fz)::L) R)(ho5:Outs cur fz m cap l)(ei:EI8 P 5)(hl:m+a.length≤140737488355328)(ht:P.underlying t=some (.slice 5))(hu:P.underlying u=some .string)
  (hg:o.guard=none) (hd:o.dst=some d) (ho:o.op=.call { callee:=.builtin .append,args:=#[x,y],argTypes:=#[t,u]}) (hs:ev n f x=.slice (some ⟨g,0,none⟩) m cap) (hx:ev n f y=.string (bs a))
  (h:∀ g cur fz cap w',Cxr w0 w' ((g,.cells cur 5 fz)::L) R→Outs cur fz (m+a.length) cap (l++a)→wpList P ops Q rest (St n (upd f d (.slice (some ⟨g,0,none⟩) (m+a.length) cap))) w'):wpList P ops Q (o::rest) (St n f) w:=by
 obtain ⟨i,hi,hz,hsz,hby⟩:=ei
 obtain ⟨h1,h2,h3,h4,h5,h6⟩:=ho5
 have hheap:=cx.at 0 rfl
 have hsa:(bs a).size=a.length:=bs_size a
 have hta:(strCells (bs a)).length=a.length:=by rw [cells_bs];simp
 by_cases hroom:m+a.length≤cap
 · have hf:=run_firstCells_string (P:=P) w 1 (bs a)
   rw [hsa] at hf
   have hst:=run_storeCells_atB P g m 5 fz (strCells (bs a)) 0 cur w hheap (by rw [hta];omega) (by rw [hta];omega) (strCells_oneCell (bs a))
   simp only [Nat.add_zero,hta] at hst
   have hrun:(Builtin.append_ #[t,u] o.type #[.slice (some ⟨g,0,none⟩) m cap,.string (bs a)]).run P w=.ok (.slice (some ⟨g,0,none⟩) (m+a.length) cap) (w.setRow g (cur.toList.take m++strCells (bs a)++cur.toList.drop (m+a.length)).toArray):=by
    simp [Builtin.append_,run_underlying ht,run_underlying hu,sizeOf,typeInfo,hi,hsz,Builtin.lenOf,hsa,hroom,hf,Addr.add_lit,hst]
   refine s_new (w':=w.setRow g (cur.toList.take m++strCells (bs a)++cur.toList.drop (m+a.length)).toArray) (v:=.slice (some ⟨g,0,none⟩) (m+a.length) cap) hg hd ?_ (h g _ fz cap _ (cx.turn 0 rfl rfl rfl rfl (by simp) (setRow_heap w g cur _ 5 fz hheap) fun q _ hne=>setRow_other w g q _ hne) ⟨?_,?_,hroom,h4,?_,h6⟩)
   · unfold execOp;rw [ho]
     exact Bz189
   · simp only [List.size_toArray,List.length_append,List.length_take,List.length_drop,Array.length_toList,hta];omega
   · rw [h2,List.length_append]
   · have e:m+a.length=(cur.toList.take m++strCells (bs a)).length:=by
       have hcl:cur.toList.length=cap:=h1
       rw [List.length_append,List.length_take,hta,hcl];omega
     show ((cur.toList.take m++strCells (bs a))++cur.toList.drop (m+a.length)).take (m+a.length)=_
     conv=>lhs;arg 1;rw [e]
     rw [List.take_left,h5,cells_bs,List.map_append]
 · have holds:∀ j u,(l.map bv)[j]?=some u→w.cell? ((⟨g,0,none⟩:Addr).add j)=some u:=fun j u hj=>by
     rw [add_addr]
     exact Outs.row cx ⟨h1,h2,h3,h4,h5,h6⟩ j u hj
   have hr:=run_append_grow_string (P:=P) w t u o.type 5 i (.int .u8 0) ht hu hi hz ⟨g,0,none⟩ m cap (l.map bv) (by rw [hsz,List.length_map,h2];omega) holds (bs a) (by rw [hsa];omega) (by rw [hsa];omega) (by rw [hby,hsa];exact growslice_fits (by omega) (by omega))
   rw [hsa] at hr
   have hge:=grownCap_ge w (m+a.length) cap 5
   have hcm2:grownCap w (m+a.length) cap 5≤maxLen:=grownCap_le_maxLen w (m+a.length) cap 5 p2bq
   have hcx:=(cx.drop 1).draw.alloc (.cells ((l.map bv).toArray++(strCells (bs a)).toArray++Builtin.zeroCells (Value.int IntKind.u8 0).cells (grownCap w (m+a.length) cap 5-(m+a.length))) 5)
   refine s_new (w':=w.drew.alloc _) (v:=.slice (some ⟨w.heap.size,0,none⟩) (m+a.length) (grownCap w (m+a.length) cap 5)) hg hd ?_ (h w.heap.size _ (0,0) _ _ hcx ⟨?_,?_,hge,hcm2,?_,.inr rfl⟩)
   · unfold execOp;rw [ho]
     simp [resolve,invoke,builtin,hs,hx,hr,Result.andThen]
   · have hz1:(Value.int IntKind.u8 0).cells.size=1:=rfl
     simp only [Array.size_append,List.size_toArray,size_zeroCells,hz1,List.length_map,hta]
     omega
   · rw [h2,List.length_append]
   · have e:m+a.length=((l.map bv)++strCells (bs a)).length:=by rw [List.length_append,List.length_map,hta,h2]
     simp only [Array.toList_append]
     conv=>lhs;arg 1;rw [e]
     rw [List.take_left,cells_bs,List.map_append]
end
end Go.Dk
end
section
namespace Go.Dk
open Go Go.RowKit Go.Lib
theorem bs_inj {a b:List UInt8}(h:bs a=bs b):a=b:=by
 have:=congrArg (fun s:ByteArray=>s.data.toList) h
 simpa [bs] using this
theorem bs_iff {a b:List UInt8}:bs a=bs b↔a=b:=⟨bs_inj,congrArg bs⟩
theorem bs_extract (l:List UInt8)(m n:Nat):(bs l).extract m n=bs ((l.take n).drop m):=by
 unfold bs
 have e:∀ a:Array UInt8,(ByteArray.mk a).extract m n=⟨a.extract m n⟩:=fun a=>by
  apply ByteArray.ext
  simp
 rw [e]
 congr 1
 apply Array.toList_inj.1
 simp [List.drop_take]
theorem byteAt_bs (l:List UInt8)(m:Int):byteAt (bs l) m=((l.getD m.toNat 0).toNat:Int):=rfl
section
variable {P:Program} {ops:Array Oper} {Q:Exit→Act→World→Prop} {rest:List Oper} {o:Oper} {n:Nat} {f:Nat→Value} {w w0:World} {L:List (Nat×Obj)} {R:List Row} {ρ:Operand→Value}
theorem v_cutTo {t:TypeId}{x z:Operand}{s:List UInt8}{k:IntKind}{l:Int}(ho:o.op=.slice t x none (some z) none)(hx:ρ x=.string (bs s))(hz:ρ z=.int k l)(hu:P.underlying t=some .string)(h1:0≤l)(h2:l≤s.length) :
  (execOp ρ o).run P w=.ok (.value (.string (bs (s.take l.toNat)))) w:=by
 unfold execOp;rw [ho]
 have h3:l≤(bs s).size:=by rw [bs_size];exact h2
 have e:=bs_extract s 0 l.toNat
 rw [List.drop_zero] at e
 rw [← e]
 simp [hx,hz,Instr.sliceAt,Instr.slice,Instr.sliceBounds,Instr.sliceBound,asIntOf,run_underlying hu,h1,h3]
theorem v_cutFrom {t:TypeId}{x y:Operand}{s:List UInt8}{k:IntKind}{m:Int}(ho:o.op=.slice t x (some y) none none)(hx:ρ x=.string (bs s))(hy:ρ y=.int k m)(hu:P.underlying t=some .string)(h1:0≤m)(h2:m≤s.length) :
  (execOp ρ o).run P w=.ok (.value (.string (bs (s.drop m.toNat)))) w:=by
 unfold execOp;rw [ho]
 have h3:m≤(bs s).size:=by rw [bs_size];exact h2
 have h4:(0:Int)≤(bs s).size:=by omega
 have e:=bs_extract s m.toNat (bs s).size
 rw [show s.take (bs s).size=s by rw [bs_size,List.take_length]] at e
 rw [← e]
 simp [hx,hy,Instr.sliceAt,Instr.slice,Instr.sliceBounds,Instr.sliceBound,asIntOf,run_underlying hu,h1,h3,h4]
theorem v_cutMid {t:TypeId}{x y z:Operand}{s:List UInt8}{k k':IntKind}{m l:Int}(ho:o.op=.slice t x (some y) (some z) none)(hx:ρ x=.string (bs s))(hy:ρ y=.int k m)(hz:ρ z=.int k' l)(hu:P.underlying t=some .string)(h0:0≤m)(h1:m≤l)(h2:l≤s.length) :
  (execOp ρ o).run P w=.ok (.value (.string (bs ((s.take l.toNat).drop m.toNat)))) w:=by
 rw [← bs_extract]
 exact v_subStr ho hx hy hz hu h0 h1 (by rw [bs_size];exact h2)
theorem v_idxB {t:TypeId}{x y:Operand}{s:List UInt8}{k:IntKind}{m:Int}(ho:o.op=.index t x y)(hx:ρ x=.string (bs s))(hy:ρ y=.int k m)(hu:P.underlying t=some .string)(h0:0≤m)(h1:m<s.length) :
  (execOp ρ o).run P w=.ok (.value (.int .u8 ((s.getD m.toNat 0).toNat:Nat))) w:=by
 have:=v_idxStr (w:=w) ho hx hy hu h0 (by rw [bs_size];exact h1)
 rw [byteAt_bs] at this
 exact this
theorem v_lenB {x:Operand}{t:TypeId}{s:List UInt8}(ho:o.op=.call { callee:=.builtin .len,args:=#[x],argTypes:=#[t]})(hx:ρ x=.string (bs s))(hu:P.underlying t=some .string) :
  (execOp ρ o).run P w=.ok (.value (.int .i64 s.length)) w:=by
 have:=v_lenString (w:=w) ho hx hu
 rw [bs_size] at this
 exact this
theorem v_eqB {t t':TypeId}{x y:Operand}{s u:List UInt8}(ho:o.op=.binOp .eql t x y t')(hx:ρ x=.string (bs s))(hy:ρ y=.string (bs u)) :
  (execOp ρ o).run P w=.ok (.value (.bool (decide (s=u)))) w:=by
 have:=v_strEq (P:=P) (w:=w) ho hx hy
 rw [this]
 congr 4
 exact propext bs_iff
theorem v_neB {t t':TypeId}{x y:Operand}{s u:List UInt8}(ho:o.op=.binOp .neq t x y t')(hx:ρ x=.string (bs s))(hy:ρ y=.string (bs u)) :
  (execOp ρ o).run P w=.ok (.value (.bool (!decide (s=u)))) w:=by
 have:=v_strNe (P:=P) (w:=w) ho hx hy
 rw [this]
 congr 5
 exact propext bs_iff
theorem v_fun1 {k:Nat}{x:Operand}{v:Value}(ho:o.op=.makeFunc (.func k) #[] #[x])(hx:ρ x=v):(execOp ρ o).run P w=.ok (.value (.func (.func k) #[] #[v])) w:=by
 unfold execOp;rw [ho]
 simp [Instr.makeFunc,hx]
theorem s_callv {d k : Nat} {x : Operand} {opd : Array Operand} {ats : Array TypeId} {fn : Func} {args cap : List Value} {T : Value → World → Prop} (hc : Ret P k (args ++ cap) w T) (hf : P.funcs[k]? = some fn) (hb : fn.body.isNone = false) (hn : (fn.name == "runtime.NumGoroutine") = false)
  (hg:o.guard=none) (hd:o.dst=some d) (ho:o.op=.call { callee:=.value x,args:=opd,argTypes:=ats }) (hx:ev n f x=.func (.func k) #[] cap.toArray) (hargs:opd.toList.map (ev n f)=args)
  (h:∀ v w',T v w'→wpList P ops Q rest (St n (upd f d v)) w'):wpList P ops Q (o::rest) (St n f) w:=by
 refine wpList_plain hg fun K hK=>?_
 have hrun:(execOp (ev n f) o).run P w=.ok (.enter k (args++cap).toArray) w:=by
  exact Bz31
 exact Bz104
theorem v_nilErr {t t':TypeId}{x:Operand}{ms:Array (String×TypeId)}(hu:P.underlying t=some (.interface ms))(ho:o.op=.binOp .eql t x (.const .nilIface) t')(hx:ρ x=.nilIface)(hc:ρ (.const .nilIface)=.nilIface):(execOp ρ o).run P w=.ok (.value (.bool true)) w:=by
 unfold execOp;rw [ho]
 have h:(binOp .eql t .nilIface .nilIface).run P w=.ok (.bool true) w:=by
  exact Bz41
 simp [hx,hc,eqGuard_nil_constR,h]
theorem v_nilErrN {t t':TypeId}{x:Operand}{ms:Array (String×TypeId)}(hu:P.underlying t=some (.interface ms))(ho:o.op=.binOp .neq t x (.const .nilIface) t')(hx:ρ x=.nilIface)(hc:ρ (.const .nilIface)=.nilIface):(execOp ρ o).run P w=.ok (.value (.bool false)) w:=by
 unfold execOp;rw [ho]
 have h:(binOp .neq t .nilIface .nilIface).run P w=.ok (.bool false) w:=by
  exact Bz41
 simp [hx,hc,eqGuard_nil_constR,h]
end
end Go.Dk
end
section
namespace Go.Dk
open Go Go.RowKit Go.Lib
theorem getD_at (a z:List UInt8)(n:Nat)(h:n=a.length):(a++z).getD n 0=z.getD 0 0:=by
 subst h
 cases z with
 | nil=>simp [List.getD]
 | cons c t=>simp [List.getD,List.getElem?_append_right]
theorem drop_at (a z:List UInt8)(n m:Nat)(h:n=a.length+m):(a++z).drop n=z.drop m:=by
 subst h
 simp [List.drop_append]
def rstQ (k y:List UInt8)(i:Nat):List UInt8:=qtd (k.drop i)++34::y
theorem qtd_split (k y:List UInt8)(i:Nat):34::(qtd k++34::y)=(34::qtd (k.take i))++rstQ k y i:=by
 have e:qtd k=qtd (k.take i)++qtd (k.drop i):=by
  unfold qtd
  rw [← List.flatMap_append,List.take_append_drop]
 rw [e]
 simp [rstQ]
theorem rstQ_end (k y:List UInt8)(i:Nat)(h:k.length≤i):rstQ k y i=34::y:=by
 unfold rstQ
 rw [List.drop_eq_nil_of_le h]
 rfl
theorem rstQ_step (k y:List UInt8)(i:Nat)(c:UInt8)(h:k[i]?=some c):rstQ k y i=sgn c++rstQ k y (i+1):=by
 obtain ⟨hi,rfl⟩:=List.getElem?_eq_some_iff.1 h
 unfold rstQ
 rw [List.drop_eq_getElem_cons hi]
 simp only [qtd,List.flatMap_cons,List.append_assoc]
theorem qtdt_succ (k:List UInt8)(i:Nat)(c:UInt8)(h:k[i]?=some c):qtd (k.take (i+1))=qtd (k.take i)++sgn c:=by
 obtain ⟨hi,rfl⟩:=List.getElem?_eq_some_iff.1 h
 rw [List.take_succ_eq_append_getElem hi]
 simp only [qtd,List.flatMap_append,List.flatMap_cons,List.flatMap_nil,List.append_nil]
theorem sgn_two (c:UInt8):(sgn c=[c]∧c.toNat≠34∧c.toNat≠92)∨∃ t,sgn c=92::t∧0<t.length:=by
 unfold sgn
 split
 · exact .inr ⟨_,rfl,by simp⟩
 · rename_i h0
   split
   · exact .inr ⟨_,rfl,by simp⟩
   · split
     · exact .inr ⟨_,rfl,by simp⟩
     · split
       · exact .inr ⟨_,rfl,by simp⟩
       · split
         · exact .inr ⟨_,rfl,by simp⟩
         · refine .inl ⟨rfl,?_,?_⟩
           · intro e;exact h0 (.inl (UInt8.toNat_inj.1 e))
           · intro e;exact h0 (.inr (UInt8.toNat_inj.1 e))
theorem rst_case (k y:List UInt8)(i:Nat)(hi:i≤k.length):(i=k.length∧((rstQ k y i).getD 0 0).toNat=34)∨(∃ c,k[i]?=some c∧sgn c=[c]∧(rstQ k y i).getD 0 0=c∧c.toNat≠34∧c.toNat≠92) ∨
  ∃ c t,k[i]?=some c∧sgn c=92::t∧0<t.length∧((rstQ k y i).getD 0 0).toNat=92:=by
 rcases Nat.lt_or_ge i k.length with h | h
 · obtain ⟨c,hc⟩:∃ c,k[i]?=some c:=⟨k[i],List.getElem?_eq_getElem h⟩
   rw [rstQ_step k y i c hc]
   rcases sgn_two c with ⟨h1,h2,h3⟩ | ⟨t,h1,h2⟩
   · exact .inr (.inl ⟨c,hc,h1,by rw [h1];rfl,h2,h3⟩)
   · exact .inr (.inr ⟨c,t,hc,h1,h2,by rw [h1];rfl⟩)
 · refine .inl ⟨by omega,?_⟩
   rw [rstQ_end k y i h]
   rfl
theorem rst_pos (k y:List UInt8)(i:Nat):0<(rstQ k y i).length:=by
 unfold rstQ
 simp only [List.length_append,List.length_cons]
 omega
theorem take_bv {k:List UInt8}{i:Nat}{c:UInt8}(h:k[i]?=some c):(k.take i).map bv++[.int .u8 (c.toNat:Int)]=(k.take (i+1)).map bv:=by
 rw [take_snoc h,List.map_append]
 rfl
theorem valid_asc (a z:List UInt8)(h:∀ b∈a,b.toNat<128):validD (a++z)=validD z:=by
 have:=validD_ascii a.length (a++z) (by rw [List.take_left];exact h)
 rw [List.drop_left] at this
 exact this
theorem first_lo (b:Nat)(h:2≤firstT b%8):128≤accLo (firstT b / 16):=by
 have h2:firstT b=240∨firstT b=241∨firstT b=2∨firstT b=19∨firstT b=3∨firstT b=35∨firstT b=52∨firstT b=4∨firstT b=68:=by
  unfold firstT
  repeat' split
  all_goals omega
 rcases h2 with e | e | e | e | e | e | e | e | e <;> rw [e] at h ⊢ <;> revert h <;> decide
theorem check_some {n b1 b2 b3 sz lo hi k:Nat}(h:checkN n b1 b2 b3 sz lo hi=some k)(hlo:2≤sz→128≤lo) :
  2≤k∧k≤n∧128≤b1∧(2<k→128≤b2)∧(3<k→128≤b3)∧k≤4∧∀ n' c2 c3,k≤n'→(2<k→c2=b2)→(3<k→c3=b3)→checkN n' b1 c2 c3 sz lo hi=some k:=by
 unfold checkN at h
 split at h
 · rename_i hs
   split at h
   · cases h
   · cases h
     have hlo':=hlo (by omega)
     refine ⟨by omega,by omega,by omega,fun h=>by omega,fun h=>by omega,by omega,fun n' c2 c3 h1 h2 h3=>?_⟩
     unfold checkN
     rw [if_pos hs,if_neg (by omega)]
 · rename_i hs
   split at h
   · rename_i hs2
     split at h
     · cases h
     · cases h
       have hlo':=hlo (by omega)
       refine ⟨by omega,by omega,by omega,fun h=>by omega,fun h=>by omega,by omega,fun n' c2 c3 h1 h2 h3=>?_⟩
       obtain rfl:=h2 (by omega)
       unfold checkN
       rw [if_neg hs,if_pos hs2,if_neg (by omega)]
   · rename_i hs2
     split at h
     · rename_i hs3
       split at h
       · cases h
       · cases h
         have hlo':=hlo (by omega)
         refine ⟨by omega,by omega,by omega,fun h=>by omega,fun h=>by omega,by omega,fun n' c2 c3 h1 h2 h3=>?_⟩
         obtain rfl:=h2 (by omega)
         obtain rfl:=h3 (by omega)
         unfold checkN
         rw [if_neg hs,if_neg hs2,if_pos hs3,if_neg (by omega)]
     · cases h
theorem getD_take (l z:List UInt8)(k j:Nat)(h:j<k)(hk:k≤l.length):(l.take k++z).getD j 0=l.getD j 0:=by
 have h1:j<(l.take k).length:=by rw [List.length_take];omega
 rw [List.getD,List.getD,List.getElem?_append_left h1,List.getElem?_take_of_lt h]
theorem valid_word (l:List UInt8)(hv:validD l=true)(hne:l≠[]) :
  ∃ k,1≤k∧k≤l.length∧(k=1∨∀ b∈l.take k,128≤b.toNat)∧validD (l.drop k)=true∧∀ z,validD (l.take k++z)=validD z:=by
 have hl:0<l.length:=List.length_pos_iff.2 hne
 by_cases h0:(l.getD 0 0).toNat<128
 · cases l with
   | nil=>exact absurd rfl hne
   | cons b t =>
    have h1:b.toNat<128:=h0
    refine ⟨1,by omega,by simp,.inl rfl,?_,fun z=>?_⟩
    · rw [validD_cons b t h1] at hv
      exact hv
    · exact validD_cons b z h1
 · have hlead:=validD_lead l hne (by omega)
   rw [hv] at hlead
   split at hlead
   · cases hlead
   · rename_i k hc
     obtain ⟨h2,hk,hb1,hb2,hb3,h4,hall⟩:=check_some hc (first_lo _)
     refine ⟨k,by omega,hk,.inr ?_,hlead.symm,fun z=>?_⟩
     · intro b hb
       obtain ⟨j,hj⟩:=List.getElem?_of_mem hb
       have hjk:j<k:=by
        have:=(List.getElem?_eq_some_iff.1 hj).1
        rw [List.length_take] at this
        omega
       rw [List.getElem?_take_of_lt hjk] at hj
       have e:l.getD j 0=b:=by rw [List.getD,hj];rfl
       have:j=0∨j=1∨j=2∨j=3:=by omega
       rcases this with rfl | rfl | rfl | rfl
       · rw [e] at h0;omega
       · rw [e] at hb1;omega
       · rw [e] at hb2;exact hb2 (by omega)
       · rw [e] at hb3;exact hb3 (by omega)
     · have hlen:(l.take k).length=k:=by rw [List.length_take];omega
       have hne2:l.take k++z≠[]:=by
        intro e
        have:=congrArg List.length e
        rw [List.length_append,hlen] at this
        simp only [List.length_nil] at this
        omega
       have e0:=getD_take l z k 0 (by omega) hk
       have e1:=getD_take l z k 1 (by omega) hk
       rw [validD_lead _ hne2 (by rw [e0];omega),e0,e1,hall _ _ _ (by rw [List.length_append];omega) (fun h=>by rw [getD_take l z k 2 h hk]) (fun h=>by rw [getD_take l z k 3 h hk])]
       simp only
       rw [List.drop_append_of_le_length (by omega),List.drop_of_length_le (by omega)]
       rfl
theorem valid_flat (g:UInt8→List UInt8)(h1:∀ b,128≤b.toNat→g b=[b])(h2:∀ b,b.toNat<128→∀ x∈g b,x.toNat<128) :
  ∀ (n:Nat) (l:List UInt8),l.length≤n→validD l=true→∀ z,validD (l.flatMap g++z)=validD z
 | 0,l,hl,_,z=>by
  obtain rfl:=List.eq_nil_of_length_eq_zero (show l.length=0 by omega)
  rfl
 | n+1,l,hl,hv,z=>by
  by_cases hne:l=[]
  · subst hne;rfl
  · obtain ⟨k,hk1,hkl,hk,hv',hz⟩:=valid_word l hv hne
    have e:l.flatMap g=(l.take k).flatMap g++(l.drop k).flatMap g:=by rw [← List.flatMap_append,List.take_append_drop]
    have ih:=valid_flat g h1 h2 n (l.drop k) p15q hv' z
    rw [e,List.append_assoc]
    by_cases ha:∀ b∈l.take k,128≤b.toNat
    · have e2:(l.take k).flatMap g=l.take k:=by
        have:∀ m:List UInt8,(∀ b∈m,128≤b.toNat)→m.flatMap g=m:=by
         intro m hm
         induction m with
         | nil=>rfl
         | cons b t ih=>rw [List.flatMap_cons,h1 b (hm b (by simp)),ih fun c hc=>hm c (by simp [hc])];rfl
        exact this _ ha
      rw [e2,hz,ih]
    · obtain rfl:k=1:=hk.resolve_right ha
      rw [valid_asc _ _ ?_,ih]
      intro x hx
      obtain ⟨b,hb,hxb⟩:=List.mem_flatMap.1 hx
      have hb2:b.toNat<128:=by
       cases l with
       | nil=>exact absurd rfl hne
       | cons c t =>
        simp only [List.take_succ_cons,List.take_zero,List.mem_singleton] at hb
        subst hb
        rcases Nat.lt_or_ge b.toNat 128 with h | h
        · exact h
        · exact absurd (by intro y hy;simp only [List.take_succ_cons,List.take_zero,List.mem_singleton] at hy;subst hy;exact h) ha
      exact h2 b hb2 x hxb
theorem sgn_hiF:∀ a:Fin 256,(128≤a.val→sgn (UInt8.ofNat a.val)=[UInt8.ofNat a.val])∧(a.val<128→(sgn (UInt8.ofNat a.val)).all (fun x=>decide (x.toNat<128))=true)∧(sgn (UInt8.ofNat a.val)).all (fun x=>x != 10)=true:=by decide +kernel
theorem sgq_hiF:∀ a:Fin 256,(128≤a.val→sgq (UInt8.ofNat a.val)=[UInt8.ofNat a.val])∧(a.val<128→(sgq (UInt8.ofNat a.val)).all (fun x=>decide (x.toNat<128))=true)∧(sgq (UInt8.ofNat a.val)).all (fun x=>x != 10)=true:=by decide +kernel
theorem sgn_hi (b:UInt8):(128≤b.toNat→sgn b=[b])∧(b.toNat<128→∀ x∈sgn b,x.toNat<128)∧∀ x∈sgn b,x≠10:=by
 have h:=sgn_hiF ⟨b.toNat,b.toNat_lt⟩
 simp only [UInt8.ofNat_toNat,List.all_eq_true,decide_eq_true_eq,bne_iff_ne] at h
 exact h
theorem sgq_hi (b:UInt8):(128≤b.toNat→sgq b=[b])∧(b.toNat<128→∀ x∈sgq b,x.toNat<128)∧∀ x∈sgq b,x≠10:=by
 have h:=sgq_hiF ⟨b.toNat,b.toNat_lt⟩
 simp only [UInt8.ofNat_toNat,List.all_eq_true,decide_eq_true_eq,bne_iff_ne] at h
 exact h
theorem valid_qtd (l z:List UInt8)(h:validD l=true):validD (qtd l++z)=validD z:=valid_flat sgn (fun b=>(sgn_hi b).1) (fun b=>(sgn_hi b).2.1) _ l (Nat.le_refl _) h z
theorem valid_qtq (l z:List UInt8)(h:validD l=true):validD (qtq l++z)=validD z:=valid_flat sgq (fun b=>(sgq_hi b).1) (fun b=>(sgq_hi b).2.1) _ l (Nat.le_refl _) h z
theorem valid_cqt (c:ByteArray)(h:validD c.data.toList=true):validD (cqt c)=true:=by
 unfold cqt
 rw [List.append_assoc,valid_asc _ _ (by simp),valid_qtq _ _ h,← List.append_nil [34],valid_asc _ _ (by simp)]
 rfl
theorem cqt_10 (c:ByteArray):∀ x∈cqt c,x≠10:=by
 intro x hx
 unfold cqt qtq at hx
 simp only [List.mem_append,List.mem_singleton,List.mem_flatMap] at hx
 rcases hx with (rfl | ⟨b,_,hb⟩) | rfl
 · decide
 · exact (sgq_hi b).2.2 x hb
 · decide
theorem itoa_dgc {n:Int}(h:0≤n):∀ c∈itoa n,dgc c:=by
 obtain ⟨m,rfl⟩:=Int.eq_ofNat_of_zero_le h
 intro c hc
 exact dec_dgc m c (by rw [← itoa_nat];exact hc)
theorem valid_step {s:Stp}(hs:Stv s)(z:List UInt8):validD (stpT s++z)=validD z:=by
 unfold stpT
 split
 · rename_i hb
   refine valid_asc _ _ fun c hc=>?_
   simp only [List.mem_append,List.mem_singleton] at hc
   rcases hc with (rfl | hc) | rfl
   · decide
   · have:=itoa_dgc (hs.1 hb).2.1 c hc
     unfold dgc at this;omega
   · decide
 · rename_i hb
   split
   · rename_i hn
     refine valid_asc _ _ fun c hc=>?_
     rcases List.mem_cons.1 hc with rfl | hc
     · decide
     · have:=isNm_all hn c hc
       unfold nmc lowc digc at this;omega
   · rw [List.append_assoc,List.append_assoc,valid_asc _ _ (by simp),valid_qtd _ _ (hs.2 (by simpa using hb)).2.2,valid_asc _ _ (by simp)]
theorem step_10 {s:Stp}(hs:Stv s):∀ x∈stpT s,x≠10:=by
 intro x hx
 have big:48≤x.toNat→x≠10:=by rintro h rfl;revert h;decide
 unfold stpT at hx
 split at hx
 · rename_i hb
   simp only [List.mem_append,List.mem_singleton] at hx
   rcases hx with (rfl | hc) | rfl
   · decide
   · exact big (itoa_dgc (hs.1 hb).2.1 x hc).1
   · decide
 · rename_i hb
   split at hx
   · rename_i hn
     rcases List.mem_cons.1 hx with rfl | hc
     · decide
     · have:=isNm_all hn x hc
       unfold nmc lowc digc at this
       exact big (by omega)
   · simp only [List.mem_append,List.mem_cons,List.not_mem_nil,or_false,qtd,List.mem_flatMap] at hx
     rcases hx with ((rfl | rfl) | ⟨b,_,hb⟩) | rfl
     · decide
     · decide
     · exact (sgn_hi b).2.2 x hb
     · decide
theorem valid_steps:∀ (l:List Stp) (z:List UInt8),(∀ s∈l,Stv s)→validD (l.flatMap stpT++z)=validD z
 | [],z,_=>rfl
 | s::l,z,h=>by rw [List.flatMap_cons,List.append_assoc,valid_step (h s (by simp)),valid_steps l z fun x hx=>h x (by simp [hx])]
theorem valid_path {l:List Stp}(h:∀ s∈l,Stv s):validD (pathT l)=true:=by
 unfold pathT
 split
 · rfl
 · rename_i s t
   rw [valid_asc _ _ (by intro b hb;split at hb <;> simp at hb;subst hb;decide),← List.append_nil (List.flatMap stpT (s::t)),valid_steps _ _ h]
   rfl
theorem path_10 {l:List Stp}(h:∀ s∈l,Stv s):∀ x∈pathT l,x≠10:=by
 intro x hx
 unfold pathT at hx
 split at hx
 · simp only [List.mem_singleton] at hx;subst hx;decide
 · rcases List.mem_append.1 hx with hx | hx
   · split at hx
     · simp only [List.mem_singleton] at hx;subst hx;decide
     · simp at hx
   · obtain ⟨s,hs,hx⟩:=List.mem_flatMap.1 hx
     exact step_10 (h s hs) x hx
theorem decFrom_snoc:∀ (a:List UInt8) (acc m d:Nat) (b:UInt8),Lib.decFrom acc a=some m→Lib.digitVal b=some d→Lib.decFrom acc (a++[b])=some (m*10+d)
 | [],acc,m,d,b,h,hb=>by
  simp only [Lib.decFrom,Option.some.injEq] at h
  subst h
  simp [Lib.decFrom,hb]
 | c::a,acc,m,d,b,h,hb=>by
  simp only [Lib.decFrom,List.cons_append] at h ⊢
  split at h
  · rename_i e he
    exact decFrom_snoc a _ m d b h hb
  · cases h
theorem dig_val (d:Nat)(h:d<10):Lib.digitVal (UInt8.ofNat (48+d))=some d:=by
 unfold Lib.digitVal
 rw [u8t (by omega),if_pos (by omega)]
 congr 1
 omega
theorem decFrom_dec (n:Nat):Lib.decFrom 0 (decDigits n)=some n:=by
 induction n using Nat.strongRecOn with
 | _ n ih =>
  unfold decDigits
  split
  · simp only [Lib.decFrom,dig_val n (by omega)]
    congr 1
    omega
  · rw [decFrom_snoc _ 0 (n / 10) (n%10) _ (ih _ (by omega)) (dig_val _ (by omega))]
    congr 1
    omega
theorem dec_ne (n:Nat):decDigits n≠[]:=by
 unfold decDigits
 split <;> simp
theorem atoi_itoa {n:Int}(h:0≤n):Lib.atoi (itoa n)=some n:=by
 obtain ⟨m,rfl⟩:=Int.eq_ofNat_of_zero_le h
 have e:itoa ((m:Nat):Int)=decDigits m:=itoa_nat m
 have hd:=decFrom_dec m
 have hg:=dec_dgc m
 rw [e]
 cases hl:decDigits m with
 | nil=>exact absurd hl (dec_ne m)
 | cons b r =>
  rw [hl] at hd hg
  have hb:=hg b (by simp)
  have h1:(b==45)=false:=by
   rw [beq_eq_false_iff_ne]
   rintro rfl
   unfold dgc at hb
   revert hb;decide
  have h2:(b==43)=false:=by
   rw [beq_eq_false_iff_ne]
   rintro rfl
   unfold dgc at hb
   revert hb;decide
  simp only [Lib.atoi,h1,h2,Lib.decNat,List.isEmpty_cons,Bool.false_eq_true,if_false,hd,Option.map_some]
theorem itoa_pos {n:Int}(h:0≤n):0<(itoa n).length:=by
 obtain ⟨m,rfl⟩:=Int.eq_ofNat_of_zero_le h
 have e:itoa ((m:Nat):Int)=decDigits m:=itoa_nat m
 rw [e]
 exact List.length_pos_iff.2 (dec_ne m)
noncomputable def rstS (l:List Stp)(i:Nat):List UInt8:=(l.drop i).flatMap stpT
theorem rstS_end (l:List Stp)(i:Nat)(h:l.length≤i):rstS l i=[]:=by
 unfold rstS
 rw [List.drop_eq_nil_of_le h]
 rfl
theorem rstS_step (l:List Stp)(i:Nat)(x:Stp)(h:l[i]?=some x):rstS l i=stpT x++rstS l (i+1):=by
 obtain ⟨hi,rfl⟩:=List.getElem?_eq_some_iff.1 h
 unfold rstS
 rw [List.drop_eq_getElem_cons hi]
 simp only [List.flatMap_cons]
theorem rstS_head (l:List Stp)(i:Nat):∀ c t,rstS l i=c::t→c=46∨c=91:=fun c t h=>flat_head h
theorem rstS_len (l:List Stp)(h:∀ s∈l,GdS s)(i:Nat):(rstS l i).length≤6200*l.length:=by
 unfold rstS
 have:=flat_len (l:=l.drop i) fun s hs=>h s (List.mem_of_mem_drop hs)
 rw [List.length_drop] at this
 omega
theorem rstS_ne (l:List Stp)(i:Nat)(h:i<l.length):rstS l i≠[]:=by
 intro e
 rw [rstS_step l i l[i] (List.getElem?_eq_getElem h)] at e
 obtain ⟨t,ht⟩:=step_head l[i]
 rw [ht] at e
 simp at e
theorem rstS_case (l:List Stp)(hl:∀ s∈l,Stv s)(i:Nat)(h:i<l.length):∃ x,l[i]?=some x ∧
  ((∃ n,x=⟨true,⟨#[]⟩,n⟩∧0≤n∧n≤65536∧rstS l i=91::(itoa n++93::rstS l (i+1))) ∨
   (∃ k,x=⟨false,k,0⟩∧k.size≤1024∧isNm k∧rstS l i=46::(k.data.toList++rstS l (i+1))) ∨
   (∃ k,x=⟨false,k,0⟩∧k.size≤1024∧rstS l i=46::34::(qtd k.data.toList++34::rstS l (i+1)))):=by
 have hx:=List.getElem?_eq_getElem h
 have hs:=hl l[i] (List.getElem_mem h)
 have hr:=rstS_step l i _ hx
 refine ⟨l[i],hx,?_⟩
 generalize l[i]=y at hs hr hx ⊢
 obtain ⟨b,k,n⟩:=y
 cases b with
 | true =>
  obtain ⟨h1,h2,h3⟩:=hs.1 rfl
  simp only at h1 h2 h3
  subst h1
  refine .inl ⟨n,rfl,h2,h3,?_⟩
  rw [hr]
  simp [stpT]
 | false =>
  obtain ⟨h1,h2,h3⟩:=hs.2 rfl
  simp only at h1 h2
  subst h1
  by_cases hn:isNm k
  · refine .inr (.inl ⟨k,rfl,h2,hn,?_⟩)
    rw [hr]
    simp [stpT,hn]
  · refine .inr (.inr ⟨k,rfl,h2,?_⟩)
    rw [hr]
    simp [stpT,hn]
theorem fol_name (k:ByteArray)(z:List UInt8)(hk:isNm k)(hz:∀ c t,z=c::t→c=46∨c=91):folN (bs (k.data.toList++z))=k.size:=by
 have hlen:k.data.toList.length=k.size:=by simp
 refine folN_eq ⟨by rw [bs_size,List.length_append];omega,fun j hj=>?_,fun hlt hok=>?_⟩
 · have e:byteAt (bs (k.data.toList++z)) (j:Int)=byteAt k (j:Int):=by
     rw [byteAt_bs]
     unfold byteAt
     rw [Int.toNat_natCast,List.getD,List.getD,List.getElem?_append_left (by omega)]
   unfold okN
   rw [e]
   exact hk.2 j hj
 · rw [bs_size,List.length_append] at hlt
   cases z with
   | nil=>simp at hlt
   | cons c t =>
    have e:byteAt (bs (k.data.toList++c::t)) (k.size:Int)=(c.toNat:Int):=by
     rw [byteAt_bs,Int.toNat_natCast,List.getD,List.getElem?_append_right (by omega)]
     rw [hlen,Nat.sub_self]
     rfl
    unfold okN lowc digc at hok
    rw [e] at hok
    rcases hz c t rfl with rfl | rfl <;> revert hok <;> simp
theorem index1_hit:∀ (a z:List UInt8) (c:UInt8),(∀ x∈a,x≠c)→Lib.index (a++c::z) [c]=(a.length:Int)
 | [],z,c,_=>by rw [List.nil_append,Lib.index];simp [List.isPrefixOf]
 | b::a,z,c,h=>by
  have hp:([c]:List UInt8).isPrefixOf (b::(a++c::z))=false:=by simp [List.isPrefixOf,Ne.symm (h b (by simp))]
  rw [List.cons_append,Lib.index,hp,index1_hit a z c fun x hx=>h x (by simp [hx])]
  have h2:((a.length:Int)==-1)=false:=by rw [beq_eq_false_iff_ne];omega
  simp [h2]
theorem index1_miss:∀ (a:List UInt8) (c:UInt8),(∀ x∈a,x≠c)→Lib.index a [c]=-1
 | [],c,_=>by simp [Lib.index]
 | b::a,c,h=>by
  have hp:([c]:List UInt8).isPrefixOf (b::a)=false:=by simp [List.isPrefixOf,Ne.symm (h b (by simp))]
  rw [Lib.index,hp,index1_miss a c fun x hx=>h x (by simp [hx])]
  simp
theorem cut1_hit (a z:List UInt8)(c:UInt8)(h:∀ x∈a,x≠c):Lib.cut (a++c::z) [c]=(a,z,true):=by
 unfold Lib.cut
 rw [index1_hit a z c h,if_pos (by omega)]
 simp [List.drop_append]
theorem cut1_miss (a:List UInt8)(c:UInt8)(h:∀ x∈a,x≠c):Lib.cut a [c]=(a,[],false):=by
 unfold Lib.cut
 rw [index1_miss a c h,if_neg (by decide)]
theorem itoa_32 {n:Int}(h:0≤n):∀ x∈itoa n,x≠32:=by
 intro x hx e
 have:=itoa_dgc h x hx
 subst e
 unfold dgc at this
 revert this;decide
theorem itoa_10 {n:Int}(h:0≤n):∀ x∈itoa n,x≠10:=by
 intro x hx e
 have:=itoa_dgc h x hx
 subst e
 unfold dgc at this
 revert this;decide
def joinL (ls:List (List UInt8)):List UInt8:=ls.flatMap fun l=>l++[10]
theorem joinL_cons (l:List UInt8)(ls:List (List UInt8)):joinL (l::ls)=l++10::joinL ls:=by simp [joinL]
theorem joinL_count:∀ (ls:List (List UInt8)),(∀ l∈ls,∀ x∈l,x≠10)→(joinL ls).count 10=ls.length
 | [],_=>rfl
 | l::ls,h=>by
  have h1:l.count 10=0:=List.count_eq_zero.2 fun hm=>h l (by simp) 10 hm rfl
  rw [joinL_cons,List.count_append,h1,List.count_cons_self,joinL_count ls fun l hl=>h l (by simp [hl]),List.length_cons]
  omega
theorem countB_lines (ls:List (List UInt8))(h:∀ l∈ls,∀ x∈l,x≠10):Lib.countB (bs (joinL ls)) (bs [10])=ls.length:=by
 have:Lib.countB (bs (joinL ls)) (bs [10])=Lib.count (joinL ls) [10]:=rfl
 rw [this,Lib.count_one,joinL_count ls h]
theorem splitB_lines:∀ (ls:List (List UInt8)),(∀ l∈ls,∀ x∈l,x≠10)→Lib.splitB (bs [10]) 0 ls.length (bs (joinL ls))=ls.map bs++[bs []]
 | [],_=>rfl
 | l::ls,h=>by
  have h1:Lib.indexB (bs (joinL (l::ls))) (bs [10])=(l.length:Int):=by
   show Lib.index (joinL (l::ls)) [10]=_
   rw [joinL_cons]
   exact index1_hit l _ 10 (h l (by simp))
  have e1:(bs (joinL (l::ls))).extract 0 (l.length+0)=bs l:=by
   rw [bs_extract,joinL_cons]
   simp
  have e2:(bs (joinL (l::ls))).extract (l.length+(bs [10]).size) (bs (joinL (l::ls))).size=bs (joinL ls):=by
   rw [bs_extract,bs_size,bs_size,List.take_length,joinL_cons]
   congr 1
   exact drop_at _ _ _ 1 rfl
  rw [List.length_cons,Lib.splitB_hit _ _ _ _ _ h1,e1,e2,splitB_lines ls fun l hl=>h l (by simp [hl])]
  rfl
noncomputable def linesX (x:Idx):List (List UInt8):=hdrT x::(x.cols.map colT++x.ents.map entT)
theorem joinL_append (a b:List (List UInt8)):joinL (a++b)=joinL a++joinL b:=by simp [joinL]
theorem joinL_map {α:Type}(f:α→List UInt8)(l:List α):joinL (l.map f)=l.flatMap fun a=>f a++[10]:=by simp [joinL,List.flatMap_map]
theorem textX_lines (x:Idx):textX x=joinL (linesX x):=by
 unfold linesX
 rw [joinL_cons,joinL_append,joinL_map,joinL_map]
 unfold textX textE textC
 rw [List.take_length,List.take_length]
 exact Bz149
theorem nameT_10 (f:Int):∀ x∈nameT f,x≠10:=by
 unfold nameT
 split <;> decide
theorem linesX_10 {x:Idx}(h:chkX x=0):∀ l∈linesX x,∀ c∈l,c≠10:=by
 obtain ⟨_,s1,s2,d1,d2⟩:=chk_hdr h
 intro l hl c hc
 unfold linesX at hl
 simp only [List.mem_cons,List.mem_append,List.mem_map] at hl
 rcases hl with rfl | ⟨k,hk,rfl⟩ | ⟨e,he,rfl⟩
 · unfold hdrT at hc
   simp only [List.mem_append] at hc
   rcases hc with ((((hc | hc) | hc) | hc) | hc) | hc
   · revert c;decide
   · exact nameT_10 _ c hc
   · revert c;decide
   · exact itoa_10 s1 c hc
   · revert c;decide
   · exact itoa_10 (by omega) c hc
 · unfold colT at hc
   have hc2:=List.mem_append.1 hc
   clear hc
   rcases hc2 with hc | hc
   · revert c;decide
   · exact cqt_10 k c hc
 · obtain ⟨r1,r2,r3⟩:=chk_rng h e he
   unfold entT at hc
   simp only [List.mem_append] at hc
   rcases hc with (((hc | hc) | hc) | hc) | hc
   · exact itoa_10 r1 c hc
   · revert c;decide
   · exact itoa_10 (by omega) c hc
   · revert c;decide
   · exact path_10 (chk_good h e he).1.2 c hc
theorem linesX_len (x:Idx):(linesX x).length=1+x.cols.length+x.ents.length:=by
 unfold linesX
 simp only [List.length_cons,List.length_append,List.length_map]
 omega
theorem linesX_col {x:Idx}{i:Nat}(h:i<x.cols.length):∃ c,x.cols[i]?=some c∧(linesX x)[i+1]?=some (colT c):=by
 refine ⟨x.cols[i],List.getElem?_eq_getElem h,?_⟩
 unfold linesX
 rw [List.getElem?_cons_succ,List.getElem?_append_left p19q,List.getElem?_map,List.getElem?_eq_getElem h]
 rfl
theorem linesX_ent {x:Idx}{j:Nat}(h:j<x.ents.length):∃ e,x.ents[j]?=some e∧(linesX x)[x.cols.length+j+1]?=some (entT e):=by
 refine ⟨x.ents[j],List.getElem?_eq_getElem h,?_⟩
 unfold linesX
 rw [List.getElem?_cons_succ,List.getElem?_append_right (by simp),List.getElem?_map,List.length_map,show x.cols.length+j-x.cols.length=j by omega,List.getElem?_eq_getElem h]
 rfl
theorem pre_col (c:ByteArray):Lib.hasPrefix (colT c) [99,111,108,117,109,110,32]=true∧Lib.trimPrefix (colT c) [99,111,108,117,109,110,32]=cqt c:=by
 have h:Lib.hasPrefix (colT c) [99,111,108,117,109,110,32]=true:=by
  unfold colT Lib.hasPrefix
  simp [List.isPrefixOf]
 refine ⟨h,?_⟩
 unfold Lib.trimPrefix
 rw [if_pos h]
 rfl
theorem pre_ent {e:Ent}(h:0≤e.fr):Lib.hasPrefix (entT e) [99,111,108,117,109,110,32]=false∧Lib.trimPrefix (entT e) [99,111,108,117,109,110,32]=entT e:=by
 have h1:Lib.hasPrefix (entT e) [99,111,108,117,109,110,32]=false:=by
  have h2:=itoa_pos h
  have h3:=itoa_dgc h
  unfold entT Lib.hasPrefix
  cases hl:itoa e.fr with
  | nil=>rw [hl] at h2;simp at h2
  | cons b r =>
   rw [hl] at h3
   have h4:=h3 b (by simp)
   have h5:((99:UInt8)==b)=false:=by
    rw [beq_eq_false_iff_ne]
    rintro rfl
    unfold dgc at h4
    revert h4;decide
   simp [List.isPrefixOf,h5]
 refine ⟨h1,?_⟩
 unfold Lib.trimPrefix
 rw [h1]
 rfl
theorem pre_hdr4 {x:Idx}(h:x.fmt=4):Lib.hasPrefix (hdrT x) [105,110,100,101,120,32,98,114,97,99,101,32]=false∧Lib.hasPrefix (hdrT x) [105,110,100,101,120,32,100,101,108,105,109,32]=true∧Lib.trimPrefix (hdrT x) [105,110,100,101,120,32,100,101,108,105,109,32]=itoa x.size++32::itoa x.depth:=by
 have e:hdrT x=[105,110,100,101,120,32,100,101,108,105,109,32]++(itoa x.size++32::itoa x.depth):=by
  unfold hdrT nameT
  rw [if_pos h]
  simp
 have h2:Lib.hasPrefix (hdrT x) [105,110,100,101,120,32,100,101,108,105,109,32]=true:=by
  rw [e];unfold Lib.hasPrefix;simp [List.isPrefixOf]
 refine ⟨by rw [e];unfold Lib.hasPrefix;simp [List.isPrefixOf],h2,?_⟩
 unfold Lib.trimPrefix
 rw [if_pos h2,e]
 rfl
theorem pre_hdr1 {x:Idx}(h:x.fmt=1):Lib.hasPrefix (hdrT x) [105,110,100,101,120,32,98,114,97,99,101,32]=true∧Lib.trimPrefix (hdrT x) [105,110,100,101,120,32,98,114,97,99,101,32]=itoa x.size++32::itoa x.depth:=by
 have e:hdrT x=[105,110,100,101,120,32,98,114,97,99,101,32]++(itoa x.size++32::itoa x.depth):=by
  unfold hdrT nameT
  rw [if_neg (by omega)]
  simp
 have h2:Lib.hasPrefix (hdrT x) [105,110,100,101,120,32,98,114,97,99,101,32]=true:=by
  rw [e];unfold Lib.hasPrefix;simp [List.isPrefixOf]
 refine ⟨h2,?_⟩
 unfold Lib.trimPrefix
 rw [if_pos h2,e]
 rfl
theorem ent_cut {e:Ent}(h:0≤e.fr):Lib.cut (entT e) [32]=(itoa e.fr,itoa e.to++32::pathT e.path,true):=by
 have e1:entT e=itoa e.fr++32::(itoa e.to++32::pathT e.path):=by unfold entT;simp
 rw [e1]
 exact cut1_hit _ _ _ (itoa_32 h)
theorem entT_len {e:Ent}(hg:GdP e.path)(h0:0≤e.fr)(h1:e.fr≤1048576)(h2:0≤e.to)(h3:e.to≤1048576):(entT e).length≤297617∧(itoa e.to++32::pathT e.path).length≤297617:=by
 have a1:=pathT_len' hg
 have a2:=itoa_le h0 h1
 have a3:=itoa_le h2 h3
 simp only [entT,List.length_append,List.length_cons,List.length_nil]
 omega
theorem line_cases {x:Idx}{i:Nat}(h:i<x.cols.length+x.ents.length):(∃ c,i<x.cols.length∧x.cols[i]?=some c∧(linesX x)[i+1]?=some (colT c))∨∃ e,x.cols.length≤i∧x.ents[i-x.cols.length]?=some e∧(linesX x)[i+1]?=some (entT e):=by
 rcases Nat.lt_or_ge i x.cols.length with h1 | h1
 · obtain ⟨c,h2,h3⟩:=linesX_col h1
   exact .inl ⟨c,h1,h2,h3⟩
 · obtain ⟨e,h2,h3⟩:=linesX_ent (x:=x) (j:=i-x.cols.length) (by omega)
   rw [show x.cols.length+(i-x.cols.length)+1=i+1 by omega] at h3
   exact .inr ⟨e,h1,h2,h3⟩
end Go.Dk
end
section
namespace Go.Dk
open Go Go.RowKit Go.Lib
theorem lines_of:∀ s:List UInt8,∃ ls tl,s=joinL ls++tl∧(∀ l∈ls,∀ x∈l,x≠10)∧∀ x∈tl,x≠10
 | []=>⟨[],[],rfl,by simp,by simp⟩
 | c::t=>by
  obtain ⟨ls,tl,h1,h2,h3⟩:=lines_of t
  by_cases hc:c=10
  · subst hc
    refine ⟨[]::ls,tl,?_,?_,h3⟩
    · rw [joinL_cons,h1];rfl
    · intro l hl
      rcases List.mem_cons.1 hl with rfl | hl
      · simp
      · exact h2 l hl
  · cases ls with
    | nil =>
     refine ⟨[],c::tl,?_,by simp,?_⟩
     · rw [h1];rfl
     · intro x hx
       rcases List.mem_cons.1 hx with rfl | hx
       · exact hc
       · exact h3 x hx
    | cons l ls =>
     refine ⟨(c::l)::ls,tl,?_,?_,h3⟩
     · rw [h1,joinL_cons,joinL_cons];rfl
     · intro m hm x hx
       rcases List.mem_cons.1 hm with rfl | hm
       · rcases List.mem_cons.1 hx with rfl | hx
         · exact hc
         · exact h2 l (by simp) x hx
       · exact h2 m (by simp [hm]) x hx
theorem lines_all (s:List UInt8)(h:s=[]∨s.getLast?=some 10):∃ ls,s=joinL ls∧∀ l∈ls,∀ x∈l,x≠10:=by
 obtain ⟨ls,tl,h1,h2,h3⟩:=lines_of s
 refine ⟨ls,?_,h2⟩
 rcases h with h | h
 · subst h
   have:=congrArg List.length h1
   simp only [List.length_nil,List.length_append] at this
   have e:tl=[]:=List.eq_nil_of_length_eq_zero (by omega)
   rw [h1,e,List.append_nil]
 · cases tl with
   | nil=>rw [h1,List.append_nil]
   | cons c t =>
    exfalso
    have h4:(joinL ls++c::t).getLast?=(c::t).getLast?:=by
     rw [List.getLast?_append]
     cases h5:(c::t).getLast? with
     | none=>simp at h5
     | some x=>rfl
    rw [h1,h4] at h
    exact h3 10 (List.mem_of_getLast? h) rfl
theorem joinL_take (ls:List (List UInt8))(k:Nat):joinL ls=joinL (ls.take k)++joinL (ls.drop k):=by
 rw [← joinL_append,List.take_append_drop]
theorem joinL_take_succ {ls:List (List UInt8)}{k:Nat}{l:List UInt8}(h:ls[k]?=some l):joinL (ls.take (k+1))=joinL (ls.take k)++(l++[10]):=by
 rw [take_snoc h,joinL_append]
 simp [joinL]
theorem joinL_drop {ls:List (List UInt8)}{k:Nat}{l:List UInt8}(h:ls[k]?=some l):joinL (ls.drop k)=l++10::joinL (ls.drop (k+1)):=by
 obtain ⟨hk,rfl⟩:=List.getElem?_eq_some_iff.1 h
 rw [List.drop_eq_getElem_cons hk,joinL_cons]
def numR (s:List UInt8):Int:=if s=[]∨8<s.length then -1 else match Lib.decFrom 0 s with
 | some m=>(m:Int)
 | none=>-1
theorem numR_itoa {n:Int}(h0:0≤n)(h1:n≤1048576):numR (itoa n)=n:=by
 obtain ⟨m,rfl⟩:=Int.eq_ofNat_of_zero_le h0
 have e:itoa ((m:Nat):Int)=decDigits m:=itoa_nat m
 have hl:=itoa_le h0 h1
 have hp:=itoa_pos h0
 unfold numR
 rw [e] at hl hp ⊢
 rw [if_neg (by rintro (h | h); · rw [h] at hp; simp at hp
                · omega),decFrom_dec]
theorem decFrom_bad:∀ (a:List UInt8) (acc:Nat) (b:UInt8) (z:List UInt8),Lib.digitVal b=none→Lib.decFrom acc (a++b::z)=none
 | [],acc,b,z,h=>by simp [Lib.decFrom,h]
 | c::a,acc,b,z,h=>by
  simp only [Lib.decFrom,List.cons_append]
  split
  · exact decFrom_bad a _ b z h
  · rfl
theorem decFrom_8:∀ (a:List UInt8) (acc m:Nat),Lib.decFrom acc a=some m→m<(acc+1)*10^a.length
 | [],acc,m,h=>by simp only [Lib.decFrom,Option.some.injEq] at h;simp;omega
 | c::a,acc,m,h=>by
  simp only [Lib.decFrom] at h
  split at h
  · rename_i d hd
    have h1:=decFrom_8 a _ m h
    have h2:d<10:=by
     unfold Lib.digitVal at hd
     split at hd
     · simp only [Option.some.injEq] at hd;omega
     · cases hd
    have h3:acc*10+d+1≤(acc+1)*10:=by omega
    refine Nat.lt_of_lt_of_le h1 (Nat.le_trans (Nat.mul_le_mul_right _ h3) ?_)
    rw [List.length_cons,Nat.pow_succ,Nat.mul_assoc,Nat.mul_comm 10]
    exact Nat.le_refl _
  · cases h
theorem digit_of {b:UInt8}(h:48≤b.toNat∧b.toNat≤57):Lib.digitVal b=some (b.toNat-48):=by
 unfold Lib.digitVal
 rw [if_pos (by omega)]
theorem digit_no {b:UInt8}(h:b.toNat<48∨57<b.toNat):Lib.digitVal b=none:=by
 unfold Lib.digitVal
 rw [if_neg (by omega)]
end Go.Dk
namespace Go.Dk
open Go Go.RowKit Go.Lib
theorem getD_some {s:List UInt8}{i:Nat}(h:i<s.length):s[i]?=some (s.getD i 0):=by
 rw [List.getD,List.getElem?_eq_getElem h];rfl
theorem split_at {s:List UInt8}{i:Nat}(h:i<s.length):s=s.take i++s.getD i 0::s.drop (i+1):=by
 have e:s.getD i 0=s[i]:=by rw [List.getD,List.getElem?_eq_getElem h];rfl
 rw [e,← List.drop_eq_getElem_cons h,List.take_append_drop]
theorem take_getD {s:List UInt8}{i:Nat}(h:i<s.length):s.take (i+1)=s.take i++[s.getD i 0]:=take_snoc (getD_some h)
theorem getD_ap (a z:List UInt8)(j:Nat):(a++z).getD (a.length+j) 0=z.getD j 0:=by
 rw [List.getD,List.getD,List.getElem?_append_right (by omega),show a.length+j-a.length=j by omega]
theorem getD_lt {a z:List UInt8}{j:Nat}(h:j<a.length):(a++z).getD j 0=a.getD j 0:=by
 rw [List.getD,List.getD,List.getElem?_append_left h]
theorem getD_mem {a:List UInt8}{j:Nat}(h:j<a.length):a.getD j 0∈a:=List.mem_of_getElem? (getD_some h)
theorem u8n_lt (b:UInt8):((b.toNat:Nat):Int)<256:=by have:=b.toNat_lt;omega
end Go.Dk
end
section
namespace Go.Ev
open Go Go.RowKit Go.Dk
def pr {α:Type}(P:Program):Sem α→Option α
 | .pure a=>some a
 | .program k=>pr P (k P)
 | .mark _ k=>pr P k
 | _=>none
theorem pr_run {α:Type}{P:Program}{s:Sem α}{a:α}(h:pr P s=some a)(w:World):s.run P w=.ok a w:=by
 induction s with
 | pure x=>simp only [pr,Option.some.injEq] at h;subst h;rfl
 | program k ih=>exact ih P h
 | mark m k ih=>exact ih h
 | _=>simp [pr] at h
inductive Tr (α:Type) where
 | lf
 | nd (v:Option α) (l r:Tr α)
def Tr.get {α:Type}:Tr α→Nat→Option α
 | .lf,_=>none
 | .nd v l r,n=>match n with
  | 0=>v
  | m+1=>bif Nat.beq (Nat.mod m 2) 0 then l.get (Nat.div m 2) else r.get (Nat.div m 2)
def Tr.setK {α β:Type}(x:Option α):Nat→Tr α→Nat→(Tr α→Option β)→Option β
 | 0,_,_,_=>none
 | f+1,.lf,n,k=>match n with
  | 0=>k (.nd x .lf .lf)
  | m+1=>bif Nat.beq (Nat.mod m 2) 0 then Tr.setK x f .lf (Nat.div m 2) (fun t=>k (.nd none t .lf)) else Tr.setK x f .lf (Nat.div m 2) (fun t=>k (.nd none .lf t))
 | f+1,.nd v l r,n,k=>match n with
  | 0=>k (.nd x l r)
  | m+1=>bif Nat.beq (Nat.mod m 2) 0 then Tr.setK x f l (Nat.div m 2) (fun t=>k (.nd v t r)) else Tr.setK x f r (Nat.div m 2) (fun t=>k (.nd v l t))
theorem beq_mod (m n:Nat):(Nat.beq (Nat.mod m 2) 0=Nat.beq (Nat.mod n 2) 0∧Nat.div m 2=Nat.div n 2)↔m=n:=by
 constructor
 · rintro ⟨h1,h2⟩
   have e1:Nat.mod m 2=m%2:=rfl
   have e2:Nat.mod n 2=n%2:=rfl
   have e3:Nat.div m 2=m / 2:=rfl
   have e4:Nat.div n 2=n / 2:=rfl
   rw [e1,e2] at h1
   rw [e3,e4] at h2
   have hm:m%2=n%2:=by
    rcases Nat.mod_two_eq_zero_or_one m with h | h <;> rcases Nat.mod_two_eq_zero_or_one n with h' | h' <;> simp [h,h'] at h1 ⊢
   omega
 · rintro rfl;exact ⟨rfl,rfl⟩
theorem Tr.setK_some {α β:Type}{x:Option α}:∀ {f:Nat} {t:Tr α} {n:Nat} {k:Tr α→Option β} {r:β},Tr.setK x f t n k=some r →
  ∃ t':Tr α,k t'=some r∧∀ i,t'.get i=if i=n then x else t.get i
 | 0,t,n,k,r,h=>by simp [Tr.setK] at h
 | f+1,.lf,n,k,r,h=>by
  cases n with
  | zero=>exact ⟨_,h,fun i=>by cases i <;> simp [Tr.get]⟩
  | succ m =>
   simp only [Tr.setK] at h
   cases hb:Nat.beq (Nat.mod m 2) 0 with
   | true =>
    rw [hb] at h
    obtain ⟨t',hk,hg⟩:=Tr.setK_some h
    refine ⟨_,hk,fun i=>?_⟩
    cases i with
    | zero=>simp [Tr.get]
    | succ i =>
     simp only [Tr.get,Nat.add_right_cancel_iff]
     have hi:=beq_mod i m
     rw [hb] at hi
     cases hc:Nat.beq (Nat.mod i 2) 0 with
     | true=>simp only [cond_true,hg];rw [hc] at hi;simp only [true_and] at hi;simp [hi,Tr.get]
     | false => rw [hc] at hi; simp only [cond_false]; have : i ≠ m := fun e => by simpa using hi.2 e
                simp [this]
   | false =>
    rw [hb] at h
    obtain ⟨t',hk,hg⟩:=Tr.setK_some h
    refine ⟨_,hk,fun i=>?_⟩
    cases i with
    | zero=>simp [Tr.get]
    | succ i =>
     simp only [Tr.get,Nat.add_right_cancel_iff]
     have hi:=beq_mod i m
     rw [hb] at hi
     cases hc:Nat.beq (Nat.mod i 2) 0 with
     | false=>simp only [cond_false,hg];rw [hc] at hi;simp only [true_and] at hi;simp [hi,Tr.get]
     | true => rw [hc] at hi; simp only [cond_true]; have : i ≠ m := fun e => by simpa using hi.2 e
               simp [this]
 | f+1,.nd v l r',n,k,r,h=>by
  cases n with
  | zero=>exact ⟨_,h,fun i=>by cases i <;> simp [Tr.get]⟩
  | succ m =>
   simp only [Tr.setK] at h
   cases hb:Nat.beq (Nat.mod m 2) 0 with
   | true =>
    rw [hb] at h
    obtain ⟨t',hk,hg⟩:=Tr.setK_some h
    refine ⟨_,hk,fun i=>?_⟩
    cases i with
    | zero=>simp [Tr.get]
    | succ i =>
     simp only [Tr.get,Nat.add_right_cancel_iff]
     have hi:=beq_mod i m
     rw [hb] at hi
     cases hc:Nat.beq (Nat.mod i 2) 0 with
     | true=>simp only [cond_true,hg];rw [hc] at hi;simp only [true_and] at hi;simp [hi]
     | false => rw [hc] at hi; simp only [cond_false]; have : i ≠ m := fun e => by simpa using hi.2 e
                simp [this]
   | false =>
    rw [hb] at h
    obtain ⟨t',hk,hg⟩:=Tr.setK_some h
    refine ⟨_,hk,fun i=>?_⟩
    cases i with
    | zero=>simp [Tr.get]
    | succ i =>
     simp only [Tr.get,Nat.add_right_cancel_iff]
     have hi:=beq_mod i m
     rw [hb] at hi
     cases hc:Nat.beq (Nat.mod i 2) 0 with
     | false=>simp only [cond_false,hg];rw [hc] at hi;simp only [true_and] at hi;simp [hi]
     | true => rw [hc] at hi; simp only [cond_true]; have : i ≠ m := fun e => by simpa using hi.2 e
               simp [this]
inductive AV where
 | lit (v:Value)
 | ptr (id off:Nat)
 | slc (id k off len:Nat)
 | ref (id:Nat)
 | agg (l:List AV)
 | tup (l:List AV)
 | ifc (t:TypeId) (v:AV)
 | clo (f:FuncId) (l:List AV)
structure Lc where
 b:Nat
 o:Nat
 c:Nat
abbrev LM:=Nat→Option Lc
mutual
def VR (m:LM):AV→Value→Prop
 | .lit x,v=>v=x
 | .ptr i k,v=>∃ l,m i=some l∧v=.pointer (some ⟨l.b,l.o+k,none⟩)
 | .slc i k o n,v=>∃ l,m i=some l∧k+n≤l.c∧v=.slice (some ⟨l.b,l.o+o,none⟩) n (l.c-k)
 | .ref i,v=>∃ l,m i=some l∧v=.map (some l.b)
 | .agg l,v=>∃ vs:List Value,v=.agg vs.toArray∧VRs m l vs
 | .tup l,v=>∃ vs:List Value,v=.tuple vs.toArray∧VRs m l vs
 | .ifc t x,v=>∃ y,v=.iface t y∧VR m x y
 | .clo f l,v=>∃ vs:List Value,v=.func (.func f) #[] vs.toArray∧VRs m l vs
def VRs (m:LM):List AV→List Value→Prop
 | [],vs=>vs=[]
 | a::l,vs=>∃ v t,vs=v::t∧VR m a v∧VRs m l t
end
def Le (m m':LM):Prop:=∀ i l,m i=some l→m' i=some l
theorem Le.refl (m:LM):Le m m:=fun _ _ h=>h
theorem Le.trans {a b c:LM}(h:Le a b)(h':Le b c):Le a c:=fun i l e=>h' i l (h i l e)
mutual
theorem VR.mono {m m':LM}(h:Le m m'):∀ {a:AV} {v:Value},VR m a v→VR m' a v
 | .lit x,v,e=>by simpa [VR] using e
 | .ptr i k,v,e=>by simp only [VR] at *;obtain ⟨l,h1,h2⟩:=e;exact ⟨l,h _ _ h1,h2⟩
 | .slc i k o n,v,e=>by simp only [VR] at *;obtain ⟨l,h1,h2⟩:=e;exact ⟨l,h _ _ h1,h2⟩
 | .ref i,v,e=>by simp only [VR] at *;obtain ⟨l,h1,h2⟩:=e;exact ⟨l,h _ _ h1,h2⟩
 | .agg l,v,e=>by simp only [VR] at *;obtain ⟨vs,h1,h2⟩:=e;exact ⟨vs,h1,VRs.mono h h2⟩
 | .tup l,v,e=>by simp only [VR] at *;obtain ⟨vs,h1,h2⟩:=e;exact ⟨vs,h1,VRs.mono h h2⟩
 | .ifc t x,v,e=>by simp only [VR] at *;obtain ⟨vs,h1,h2⟩:=e;exact ⟨vs,h1,VR.mono h h2⟩
 | .clo f l,v,e=>by simp only [VR] at *;obtain ⟨vs,h1,h2⟩:=e;exact ⟨vs,h1,VRs.mono h h2⟩
theorem VRs.mono {m m':LM}(h:Le m m'):∀ {a:List AV} {v:List Value},VRs m a v→VRs m' a v
 | [],v,e=>by simpa [VRs] using e
 | a::l,v,e=>by simp only [VRs] at *;obtain ⟨x,t,h1,h2,h3⟩:=e;exact ⟨x,t,h1,VR.mono h h2,VRs.mono h h3⟩
end
section
variable {m:LM}
theorem VR.lit (v:Value):VR m (.lit v) v:=by simp [VR]
theorem VRs.lits:∀ (l:List Value),VRs m (l.map .lit) l
 | []=>by simp [VRs]
 | x::l=>by simp only [List.map_cons,VRs];exact ⟨x,l,rfl,VR.lit x,VRs.lits l⟩
theorem VRs.len:∀ {l:List AV} {vs:List Value},VRs m l vs→vs.length=l.length
 | [],vs,h=>by simp only [VRs] at h;subst h;rfl
 | a::l,vs,h=>by simp only [VRs] at h;obtain ⟨v,t,rfl,_,h2⟩:=h;simp [VRs.len h2]
theorem VRs.get:∀ {l:List AV} {vs:List Value} {i:Nat} {a:AV},VRs m l vs→l[i]?=some a→∃ v,vs[i]?=some v∧VR m a v
 | [],vs,i,a,h,e=>by simp at e
 | x::l,vs,i,a,h,e=>by
  simp only [VRs] at h
  obtain ⟨v,t,rfl,h1,h2⟩:=h
  cases i with
  | zero=>simp at e;subst e;exact ⟨v,rfl,h1⟩
  | succ i=>simp at e;simpa using VRs.get h2 e
theorem VRs.set:∀ {l:List AV} {vs:List Value} {i:Nat} {a:AV} {v:Value},VRs m l vs→VR m a v→VRs m (l.set i a) (vs.set i v)
 | [],vs,i,a,v,h,e=>by simp only [VRs] at h;subst h;simp [VRs]
 | x::l,vs,i,a,v,h,e=>by
  simp only [VRs] at h
  obtain ⟨u,t,rfl,h1,h2⟩:=h
  cases i with
  | zero=>simp only [List.set_cons_zero,VRs];exact ⟨v,t,rfl,e,h2⟩
  | succ i=>simp only [List.set_cons_succ,VRs];exact ⟨u,_,rfl,h1,VRs.set h2 e⟩
theorem VRs.append:∀ {l l':List AV} {vs vs':List Value},VRs m l vs→VRs m l' vs'→VRs m (l++l') (vs++vs')
 | [],l',vs,vs',h,h'=>by simp only [VRs] at h;subst h;simpa using h'
 | x::l,l',vs,vs',h,h'=>by
  simp only [VRs] at h
  obtain ⟨u,t,rfl,h1,h2⟩:=h
  simp only [List.cons_append,VRs]
  exact ⟨u,_,rfl,h1,VRs.append h2 h'⟩
theorem VRs.take:∀ {l:List AV} {vs:List Value} (n:Nat),VRs m l vs→VRs m (l.take n) (vs.take n)
 | [],vs,n,h=>by simp only [VRs] at h;subst h;simp [VRs]
 | x::l,vs,n,h=>by
  simp only [VRs] at h
  obtain ⟨u,t,rfl,h1,h2⟩:=h
  cases n with
  | zero=>simp [VRs]
  | succ n=>simp only [List.take_succ_cons,VRs];exact ⟨u,_,rfl,h1,VRs.take n h2⟩
theorem VRs.drop:∀ {l:List AV} {vs:List Value} (n:Nat),VRs m l vs→VRs m (l.drop n) (vs.drop n)
 | [],vs,n,h=>by simp only [VRs] at h;subst h;simp [VRs]
 | x::l,vs,n,h=>by
  cases n with
  | zero=>exact h
  | succ n =>
   simp only [VRs] at h
   obtain ⟨u,t,rfl,h1,h2⟩:=h
   simpa using VRs.drop n h2
end
def AV.cells:AV→List AV
 | .agg l=>l
 | .lit v=>v.cells.toList.map .lit
 | a=>[a]
def AV.one:AV→Bool
 | .agg _=>false
 | .tup _=>false
 | .lit v=>v.oneCell'
 | _=>true
theorem VR.cells {m:LM}{a:AV}{v:Value}(h:VR m a v):VRs m a.cells v.cells.toList:=by
 cases a with
 | lit x=>simp only [VR] at h;subst h;exact VRs.lits _
 | agg l=>simp only [VR] at h;obtain ⟨vs,rfl,h⟩:=h;simpa [AV.cells,Value.cells] using h
 | ptr i k=>simp only [VR] at h;obtain ⟨l,h1,rfl⟩:=h;simp [AV.cells,Value.cells,VRs,VR];exact ⟨l,h1,rfl,rfl⟩
 | slc i k o n=>have h0:=h;simp only [VR] at h;obtain ⟨l,h1,h2,rfl⟩:=h;simp only [AV.cells,Value.cells,VRs];exact ⟨_,[],rfl,h0,rfl⟩
 | ref i=>have h0:=h;simp only [VR] at h;obtain ⟨l,h1,rfl⟩:=h;simp only [AV.cells,Value.cells,VRs];exact ⟨_,[],rfl,h0,rfl⟩
 | tup l=>have h0:=h;simp only [VR] at h;obtain ⟨l,rfl,h1⟩:=h;simp only [AV.cells,Value.cells,VRs];exact ⟨_,[],rfl,h0,rfl⟩
 | ifc t x=>have h0:=h;simp only [VR] at h;obtain ⟨l,rfl,h1⟩:=h;simp only [AV.cells,Value.cells,VRs];exact ⟨_,[],rfl,h0,rfl⟩
 | clo f l=>have h0:=h;simp only [VR] at h;obtain ⟨l,rfl,h1⟩:=h;simp only [AV.cells,Value.cells,VRs];exact ⟨_,[],rfl,h0,rfl⟩
theorem VR.one {m:LM}{a:AV}{v:Value}(h:VR m a v)(h1:a.one=true):v.oneCell'=true:=by
 cases a with
 | lit x=>simp only [VR] at h;subst h;exact h1
 | agg l=>simp [AV.one] at h1
 | tup l=>simp [AV.one] at h1
 | ptr i k=>simp only [VR] at h;obtain ⟨l,h1,rfl⟩:=h;rfl
 | slc i k o n=>simp only [VR] at h;obtain ⟨l,h1,h2,rfl⟩:=h;rfl
 | ref i=>simp only [VR] at h;obtain ⟨l,h1,rfl⟩:=h;rfl
 | ifc t x=>simp only [VR] at h;obtain ⟨l,rfl,h1⟩:=h;rfl
 | clo f l=>simp only [VR] at h;obtain ⟨l,rfl,h1⟩:=h;rfl
inductive AO where
 | row (e:TypeId) (sz:Nat) (cs:List AV)
 | map (es:List (AV×AV))
 | iter (s:ByteArray) (pos:Nat)
def ME (m:LM):List (AV×AV)→List MapEntry→Nat→Prop
 | [],l,_=>l=[]
 | (k,x)::r,l,n=>∃ v t,∃ kv,l=⟨kv,v,n⟩::t∧k=.lit kv∧VR m x v∧ME m r t (n+1)
def OR (m:LM)(l:Lc)(w:World):AO→Prop
 | .row e sz cs=>∃ (arr:Array Value) (vs:List Value) (fr:Nat×Nat),w.heap[l.b]?=some (.cells arr e fr)∧(fr.1=fr.2∨arr.size≤fr.1)∧VRs m cs vs∧l.o+l.c*sz≤arr.size∧∀ j v,vs[j]?=some v→arr[l.o+j]?=some v
 | .map es=>∃ es',w.heap[l.b]?=some (.map es'.toArray es.length)∧ME m es es' 0
 | .iter s pos=>l.o=0∧w.heap[l.b]?=some (.stringIter s pos)
theorem ME.mono {m m':LM}(h:Le m m'):∀ {l:List (AV×AV)} {es:List MapEntry} {n:Nat},ME m l es n→ME m' l es n
 | [],es,n,e=>e
 | (k,x)::r,es,n,e=>by
   obtain ⟨v,t,kv,h1,h2,h3,h4⟩:=e
   exact ⟨v,t,kv,h1,h2,VR.mono h h3,ME.mono h h4⟩
theorem OR.mono {m m':LM}(h:Le m m'){l:Lc}{w:World}{o:AO}(e:OR m l w o):OR m' l w o:=by
 cases o with
 | row t sz cs=>obtain ⟨arr,vs,fr,h1,hf,h2,h3⟩:=e;exact ⟨arr,vs,fr,h1,hf,VRs.mono h h2,h3⟩
 | map es=>obtain ⟨es',h1,h2⟩:=e;exact ⟨es',h1,ME.mono h h2⟩
 | iter s pos=>exact e
theorem OR.lt {m:LM}{l:Lc}{w:World}{o:AO}(e:OR m l w o):l.b<w.heap.size:=by
 have key:∀ {x:Obj},w.heap[l.b]?=some x→l.b<w.heap.size:=fun h=>(Array.getElem?_eq_some_iff.1 h).1
 cases o with
 | row t sz cs=>obtain ⟨arr,vs,fr,h1,h2,h3⟩:=e;exact key h1
 | map es=>obtain ⟨es',h1,h2⟩:=e;exact key h1
 | iter s pos=>exact key e.2
theorem OR.keep {m:LM}{l:Lc}{w w':World}{o:AO}(e:OR m l w o)(h:w'.heap[l.b]?=w.heap[l.b]?):OR m l w' o:=by
 cases o with
 | row t sz cs=>obtain ⟨arr,vs,fr,h1,h2,h3⟩:=e;exact ⟨arr,vs,fr,h.trans h1,h2,h3⟩
 | map es=>obtain ⟨es',h1,h2⟩:=e;exact ⟨es',h.trans h1,h2⟩
 | iter s pos=>exact ⟨e.1,h.trans e.2⟩
structure HR (m:LM) (H:Nat→Option AO) (w:World):Prop where
 at_:∀ i o,H i=some o→∃ l,m i=some l∧OR m l w o
 sep:∀ i j o o' l l',i≠j→H i=some o→H j=some o'→m i=some l→m j=some l'→l.b≠l'.b
 bb:∀ i l,m i=some l→l.b<w.heap.size
def Dom (m:LM)(n:Nat):Prop:=∀ i l,m i=some l→i<n
structure Upd (m:LM) (w:World) (m':LM) (w':World):Prop where
 le:Le m m'
 os:w'.os=w.os
 tape:w'.tape=w.tape
 output:w'.output=w.output
 size:w.heap.size≤w'.heap.size
 keep:∀ b,b<w.heap.size→(∀ i l,m i=some l→l.b≠b)→w'.heap[b]?=w.heap[b]?
 new:∀ i l,m' i=some l→m i=some l∨(∃ j l',m j=some l'∧l'.b=l.b)∨(w.heap.size≤l.b∧l.b<w'.heap.size)
theorem Upd.refl (m:LM)(w:World):Upd m w m w:=⟨Le.refl m,rfl,rfl,rfl,Nat.le_refl _,fun _ _ _=>rfl,fun _ _ h=>.inl h⟩
theorem Upd.trans {m m' m'':LM}{w w' w'':World}(h:Upd m w m' w')(h':Upd m' w' m'' w''):Upd m w m'' w'':=by
 refine ⟨h.le.trans h'.le,h'.os.trans h.os,h'.tape.trans h.tape,h'.output.trans h.output,Nat.le_trans h.size h'.size,?_,?_⟩
 · intro b hb hn
   rw [h'.keep b (Nat.lt_of_lt_of_le hb h.size) ?_,h.keep b hb hn]
   intro i l hi
   rcases h.new i l hi with h1 | ⟨j,l',h1,h2⟩ | h1
   · exact hn i l h1
   · exact h2▸hn j l' h1
   · omega
 · intro i l hi
   rcases h'.new i l hi with h1 | ⟨j,l',h1,h2⟩ | h1
   · rcases h.new i l h1 with h3 | h3 | h3
     · exact .inl h3
     · exact .inr (.inl h3)
     · exact .inr (.inr ⟨h3.1,Nat.lt_of_lt_of_le h3.2 h'.size⟩)
   · rcases h.new j l' h1 with h3 | ⟨k,l3,h3,h4⟩ | h3
     · exact .inr (.inl ⟨j,l',h3,h2⟩)
     · exact .inr (.inl ⟨k,l3,h3,h4.trans h2⟩)
     · exact .inr (.inr ⟨h2▸h3.1,h2▸Nat.lt_of_lt_of_le h3.2 h'.size⟩)
   · exact .inr (.inr ⟨Nat.le_trans h.size h1.1,h1.2⟩)
end Go.Ev
end
section
namespace Go.Ev
open Go Go.RowKit Go.Dk
mutual
def AV.clos:AV→Option Value
 | .lit v=>some v
 | .agg l=>match AV.closL l with | some vs=>some (.agg vs.toArray) | none=>none
 | .tup l=>match AV.closL l with | some vs=>some (.tuple vs.toArray) | none=>none
 | .ifc t x=>match AV.clos x with | some v=>some (.iface t v) | none=>none
 | _=>none
def AV.closL:List AV→Option (List Value)
 | []=>some []
 | a::l=>match AV.clos a with
  | some v=>match AV.closL l with | some vs=>some (v::vs) | none=>none
  | none=>none
end
mutual
theorem clos_eq {m:LM}:∀ {a:AV} {v v':Value},VR m a v→a.clos=some v'→v=v'
 | .lit x,v,v',h,e=>by simp only [VR] at h;simp only [AV.clos,Option.some.injEq] at e;rw [h,e]
 | .agg l,v,v',h,e=>by
  exact Bz90
 | .tup l,v,v',h,e=>by
  exact Bz90
 | .ifc t x,v,v',h,e=>by
  simp only [VR] at h
  obtain ⟨vs,rfl,h⟩:=h
  simp only [AV.clos] at e
  cases hl:AV.clos x with
  | none=>simp [hl] at e
  | some us=>simp only [hl,Option.some.injEq] at e;subst e;rw [clos_eq h hl]
 | .ptr _ _,v,v',h,e=>by simp [AV.clos] at e
 | .slc _ _ _ _,v,v',h,e=>by simp [AV.clos] at e
 | .ref _,v,v',h,e=>by simp [AV.clos] at e
 | .clo _ _,v,v',h,e=>by simp [AV.clos] at e
theorem closL_eq {m:LM}:∀ {l:List AV} {vs us:List Value},VRs m l vs→AV.closL l=some us→vs=us
 | [],vs,us,h,e=>by simp only [VRs] at h;simp only [AV.closL,Option.some.injEq] at e;rw [h,e]
 | a::l,vs,us,h,e=>by
  simp only [VRs] at h
  obtain ⟨v,t,rfl,h1,h2⟩:=h
  simp only [AV.closL] at e
  cases ha:AV.clos a with
  | none=>simp [ha] at e
  | some v' =>
   cases hl:AV.closL l with
   | none=>simp [ha,hl] at e
   | some us'=>simp only [ha,hl,Option.some.injEq] at e;subst e;rw [clos_eq h1 ha,closL_eq h2 hl]
end
inductive LR where
 | val (a:AV)
 | new (a:AV) (o:AO)
structure Grow (w w':World):Prop where
 os:w'.os=w.os
 tape:w'.tape=w.tape
 output:w'.output=w.output
 size:w'.heap.size=w.heap.size+1
 keep:∀ b,b<w.heap.size→w'.heap[b]?=w.heap[b]?
theorem Grow.alloc (w:World)(o:Obj):Grow w (w.alloc o):=⟨rfl,rfl,rfl,by show (w.heap.push o).size=_;simp,fun b hb=>Below.heap_alloc w o b hb⟩
def LOk (P:Program)(m:LM)(w:World)(τ:Operand→Value)(n:Nat)(o:Oper):LR→Prop
 | .val a=>∃ v,VR m a v∧(execOp τ o).run P w=.ok (.value v) w
 | .new a ob=>∃ v w' c,(execOp τ o).run P w=.ok (.value v) w'∧Grow w w'∧∀ m',Le m m'→m' n=some ⟨w.heap.size,0,c⟩→VR m' a v∧OR m' ⟨w.heap.size,0,c⟩ w' ob
def HK (m:LM)(H:Nat→Option AO)(w:World):Prop:=∀ i o,H i=some o→∃ l,m i=some l∧OR m l w o
def RK (m:LM)(ρ:Operand→Option AV)(τ:Operand→Value):Prop:=∀ x a,ρ x=some a→VR m a (τ x)
section
variable {P:Program} {m:LM} {w:World} {τ:Operand→Value} {ρ:Operand→Option AV} {H:Nat→Option AO} {o:Oper} {n:Nat}
theorem or_cell {l:Lc}{e sz:Nat}{cs:List AV}{j:Nat}{a:AV}(h:OR m l w (.row e sz cs))(hj:cs[j]?=some a):∃ v,VR m a v∧w.cell? ⟨l.b,l.o+j,none⟩=some v:=by
 obtain ⟨arr,vs,fr,h1,h2,h3,h4,h5⟩:=h
 obtain ⟨v,hv,hr⟩:=h3.get hj
 exact ⟨v,hr,by rw [cell_of_row w l.b _ arr e fr h1];exact h5 j v hv⟩
theorem or_cells {l:Lc}{e sz:Nat}{cs:List AV}(h:OR m l w (.row e sz cs))(k s:Nat):∃ vs,VRs m ((cs.drop k).take s) vs∧RowAt w l.b (l.o+k) vs:=by
 obtain ⟨arr,vs,fr,h1,h2,h3,h4,h5⟩:=h
 refine ⟨(vs.drop k).take s,(h3.drop k).take s,fun j x hj=>?_⟩
 rw [cell_of_row w l.b _ arr e fr h1,Nat.add_assoc]
 refine h5 (k+j) x ?_
 rw [List.getElem?_take] at hj
 split at hj
 · rwa [List.getElem?_drop] at hj
 · cases hj
def eLoad (P:Program)(H:Nat→Option AO)(t:TypeId)(x:Option AV):Option LR :=
 match x with
 | some (.ptr i k)=>match H i with
  | some (.row _ _ cs)=>match P.underlying t with
   | some d=>match aggD d with
    | true=>match P.info? t with
     | some inf=>bif Nat.beq ((cs.drop k).take inf.size).length inf.size then some (.val (.agg ((cs.drop k).take inf.size))) else none
     | none=>none
    | false=>match cs[k]? with
     | some a=>some (.val a)
     | none=>none
   | none=>none
  | _=>none
 | _=>none
theorem eLoad_ok {t:TypeId}{X:Operand}{r:LR}(hH:HK m H w)(hρ:RK m ρ τ)(h:eLoad P H t (ρ X)=some r)(ho:o.op=.load t X):LOk P m w τ n o r:=by
 unfold eLoad at h
 cases hx:ρ X with
 | none=>simp [hx] at h
 | some a =>
  have hv:=hρ X a hx
  cases a with
  | ptr i k =>
   simp only [hx] at h
   simp only [VR] at hv
   obtain ⟨l,hm,hv⟩:=hv
   cases hi:H i with
   | none=>simp [hi] at h
   | some ob =>
    obtain ⟨l',hm',hor⟩:=hH i ob hi
    rw [hm] at hm';cases hm'
    cases ob with
    | row e sz cs =>
     simp only [hi] at h
     cases hu:P.underlying t with
     | none=>simp [hu] at h
     | some d =>
      simp only [hu] at h
      cases hd:aggD d with
      | true =>
       simp only [hd] at h
       cases hinf:P.info? t with
       | none=>simp [hinf] at h
       | some inf =>
        simp only [hinf] at h
        cases hb:Nat.beq ((cs.drop k).take inf.size).length inf.size with
        | false=>rw [hb] at h;simp only [cond_false] at h;cases h
        | true =>
         simp only [hb,cond_true,Option.some.injEq] at h
         subst h
         obtain ⟨vs,h1,h2⟩:=or_cells hor k inf.size
         refine ⟨.agg vs.toArray,by simp only [VR];exact ⟨vs,rfl,h1⟩,?_⟩
         exact v_load ho hv hu hd (k:=inf.size) (by simp [hinf]) h2 (by rw [h1.len];exact Nat.eq_of_beq_eq_true hb)
      | false =>
       simp only [hd] at h
       cases hk:cs[k]? with
       | none=>simp [hk] at h
       | some a =>
        simp only [hk,Option.some.injEq] at h
        subst h
        obtain ⟨v,h1,h2⟩:=or_cell hor hk
        exact ⟨v,h1,v_load1 ho hv hu hd h2⟩
    | map es=>simp [hi] at h
    | iter s p=>simp [hi] at h
  | _=>simp [hx] at h
def eAlloc (P:Program)(n:Nat)(t:TypeId):Option LR :=
 match P.info? t with
 | some inf=>match inf.zero with
  | some v=>some (.new (.ptr n 0) (.row t 0 (v.cells.toList.map .lit)))
  | none=>none
 | none=>none
theorem row_new {m':LM}{e sz c:Nat}{cs:List AV}{vs:List Value}(h:VRs m' cs vs)(hc:c*sz≤vs.length):OR m' ⟨w.heap.size,0,c⟩ (w.alloc (.cells vs.toArray e)) (.row e sz cs) :=
 ⟨vs.toArray,vs,(0,0),heap_alloc_new w _,.inl rfl,h,by simpa using hc,fun j v hj=>by simpa using hj⟩
theorem eAlloc_ok {t:TypeId}{r:LR}(h:eAlloc P n t=some r)(ho:o.op=.alloc t):LOk P m w τ n o r:=by
 unfold eAlloc at h
 cases hi:P.info? t with
 | none=>simp [hi] at h
 | some inf =>
  simp only [hi] at h
  cases hz:inf.zero with
  | none=>simp [hz] at h
  | some v =>
   simp only [hz,Option.some.injEq] at h
   subst h
   refine ⟨.pointer (some ⟨w.heap.size,0,none⟩),w.alloc (.cells v.cells t),0,?_,Grow.alloc _ _,fun m' hle hn=>⟨by simp only [VR];exact ⟨_,hn,by simp⟩,?_⟩⟩
   · unfold execOp;rw [ho]
     simp [Instr.alloc,zeroValue,typeInfo,hi,hz,newVar,newRow]
   · have:=row_new (w:=w) (m':=m') (e:=t) (sz:=0) (c:=0) (VRs.lits v.cells.toList) (by simp)
     simpa using this
def eBox (n:Nat)(t:TypeId)(x:Option AV):Option LR :=
 match x with
 | some a=>some (.new (.ptr n 0) (.row t 0 a.cells))
 | none=>none
theorem eBox_ok {t:TypeId}{X:Operand}{r:LR}(hρ:RK m ρ τ)(h:eBox n t (ρ X)=some r)(ho:o.op=.box t X):LOk P m w τ n o r:=by
 unfold eBox at h
 cases hx:ρ X with
 | none=>simp [hx] at h
 | some a =>
  simp only [hx,Option.some.injEq] at h
  subst h
  refine ⟨.pointer (some ⟨w.heap.size,0,none⟩),w.alloc (.cells (τ X).cells t),0,?_,Grow.alloc _ _,fun m' hle hn=>⟨by simp only [VR];exact ⟨_,hn,by simp⟩,?_⟩⟩
  · unfold execOp;rw [ho];simp [run_box]
  · have:=row_new (w:=w) (m':=m') (e:=t) (sz:=0) (c:=0) (VRs.mono hle (hρ X a hx).cells) (by simp)
    simpa using this
def putA:Nat→List AV→List AV→List AV
 | _,[],cs=>cs
 | k,x::c,cs=>putA (k+1) c (cs.set k x)
def putV:Nat→List Value→List Value→List Value
 | _,[],cs=>cs
 | k,x::c,cs=>putV (k+1) c (cs.set k x)
theorem put_rel:∀ {c:List AV} {vc:List Value} {k:Nat} {cs:List AV} {vs:List Value},VRs m c vc→VRs m cs vs→VRs m (putA k c cs) (putV k vc vs)
 | [],vc,k,cs,vs,h,h'=>by simp only [VRs] at h;subst h;exact h'
 | x::c,vc,k,cs,vs,h,h'=>by
  simp only [VRs] at h
  obtain ⟨v,t,rfl,h1,h2⟩:=h
  show VRs m (putA (k+1) c (cs.set k x)) (putV (k+1) t (vs.set k v))
  exact put_rel h2 (h'.set h1)
theorem putV_len:∀ {c:List Value} {k:Nat} {cs:List Value},(putV k c cs).length=cs.length
 | [],k,cs=>rfl
 | x::c,k,cs=>by simp [putV,putV_len]
theorem putV_get:∀ {c:List Value} {k:Nat} {cs:List Value} {i:Nat},k+c.length≤cs.length→(putV k c cs)[i]?=if k≤i∧i<k+c.length then c[i-k]? else cs[i]?
 | [],k,cs,i,h=>by
  have:¬ (k≤i∧i<k+([]:List Value).length):=by simp only [List.length_nil];omega
  rw [if_neg this];rfl
 | x::c,k,cs,i,h=>by
  simp only [List.length_cons] at h ⊢
  simp only [putV]
  rw [putV_get p26q]
  by_cases h1:k+1≤i∧i<k+1+c.length
  · rw [if_pos h1,if_pos (by omega)]
    have:i-k=(i-(k+1))+1:=by omega
    rw [this];simp
  · rw [if_neg h1,List.getElem?_set]
    by_cases h2:k=i
    · subst h2;rw [if_pos rfl,if_pos (by omega),if_pos (by omega)];simp
    · rw [if_neg h2,if_neg (by omega)]
theorem fold_put:∀ (c:List Value) (i off:Nat) (cs:Array Value),(c.zipIdx i).foldl (fun (cs:Array Value) (p:Value×Nat)=>cs.setIfInBounds (off+p.2) p.1) cs=(putV (off+i) c cs.toList).toArray
 | [],i,off,cs=>by simp [putV]
 | x::c,i,off,cs=>by
  simp only [List.zipIdx_cons,List.foldl_cons,putV]
  rw [fold_put c (i+1) off]
  simp [Nat.add_assoc]
def fillA (place:Nat→Option (Nat×Nat))(cs:List AV):List (Nat×AV)→Option (List AV)
 | []=>some cs
 | (i,v)::rest=>match place i with
   | none=>none
   | some (off,size)=>bif Nat.beq v.cells.length size then (bif Nat.ble (off+size) cs.length then fillA place (putA off v.cells cs) rest else none) else none
def PRs (m:LM):List (Nat×AV)→List (Nat×Value)→Prop
 | [],l=>l=[]
 | (i,a)::r,l=>∃ v t,l=(i,v)::t∧VR m a v∧PRs m r t
theorem fill_rel {place:Nat→Option (Nat×Nat)}:∀ {ps:List (Nat×AV)} {qs:List (Nat×Value)} {cs r:List AV} {vs:List Value},PRs m ps qs→VRs m cs vs→fillA place cs ps=some r →
  ∃ us,Instr.fill place vs.toArray qs=some us.toArray∧VRs m r us
 | [],qs,cs,r,vs,h,h',e=>by
  simp only [PRs] at h;subst h
  simp only [fillA,Option.some.injEq] at e;subst e
  exact ⟨vs,rfl,h'⟩
 | (i,a)::ps,qs,cs,r,vs,h,h',e=>by
   obtain ⟨v,t,rfl,h1,h2⟩:=h
   simp only [fillA] at e
   cases hp:place i with
   | none=>simp [hp] at e
   | some os =>
    obtain ⟨off,size⟩:=os
    simp only [hp] at e
    cases hb:Nat.beq a.cells.length size with
    | false=>simp [hb] at e
    | true =>
     cases hb2:Nat.ble (off+size) cs.length with
     | false=>simp [hb,hb2] at e
     | true =>
      simp only [hb,hb2,cond_true] at e
      have hc:=h1.cells
      obtain ⟨us,h3,h4⟩:=fill_rel h2 (put_rel (k:=off) hc h') e
      refine ⟨us,?_,h4⟩
      have hl:v.cells.size=size:=by rw [← Nat.eq_of_beq_eq_true hb,← hc.len];simp
      have hl2:off+size≤vs.length:=by rw [h'.len];exact Nat.le_of_ble_eq_true hb2
      have hf:=fold_put v.cells.toList 0 off vs.toArray
      simp only [Nat.add_zero] at hf
      simp only [Instr.fill,hp]
      rw [if_neg (by simp [hl];omega)]
      have e1:v.cells.zipIdx.foldl (fun (cs:Array Value) (p:Value×Nat)=>cs.setIfInBounds (off+p.2) p.1) vs.toArray=(putV off v.cells.toList vs).toArray:=by
       rw [← Array.foldl_toList,Array.toList_zipIdx];exact hf
      rw [← h3]
      congr 1
def opL (ρ:Operand→Option AV):List (Nat×Operand)→Option (List (Nat×AV))
 | []=>some []
 | (i,x)::r=>match ρ x with
   | some a=>match opL ρ r with | some l=>some ((i,a)::l) | none=>none
   | none=>none
theorem opL_rel (hρ:RK m ρ τ):∀ {l:List (Nat×Operand)} {r:List (Nat×AV)},opL ρ l=some r→PRs m r (l.map fun p=>(p.1,τ p.2))
 | [],r,h=>by simp only [opL,Option.some.injEq] at h;subst h;rfl
 | (i,x)::l,r,h=>by
   simp only [opL] at h
   cases hx:ρ x with
   | none=>simp [hx] at h
   | some a =>
    cases hl:opL ρ l with
    | none=>simp [hx,hl] at h
    | some l' =>
     simp only [hx,hl,Option.some.injEq] at h
     subst h
     exact ⟨τ x,_,rfl,hρ x a hx,opL_rel hρ hl⟩
def opsL (ρ:Operand→Option AV):List Operand→Option (List AV)
 | []=>some []
 | x::r=>match ρ x with
  | some a=>match opsL ρ r with | some l=>some (a::l) | none=>none
  | none=>none
theorem opsL_rel (hρ:RK m ρ τ):∀ {l:List Operand} {r:List AV},opsL ρ l=some r→VRs m r (l.map τ)
 | [],r,h=>by simp only [opsL,Option.some.injEq] at h;subst h;simp [VRs]
 | x::l,r,h=>by
  simp only [opsL] at h
  cases hx:ρ x with
  | none=>simp [hx] at h
  | some a =>
   cases hl:opsL ρ l with
   | none=>simp [hx,hl] at h
   | some l' =>
    simp only [hx,hl,Option.some.injEq] at h
    subst h
    simp only [List.map_cons,VRs]
    exact ⟨τ x,_,rfl,hρ x a hx,opsL_rel hρ hl⟩
def places (P:Program):List Field→Option (List (Nat×Nat))
 | []=>some []
 | f::r=>match P.info? f.type with
  | some inf=>match places P r with | some l=>some ((f.offset,inf.size)::l) | none=>none
  | none=>none
theorem places_run:∀ {l:List Field} {r:List (Nat×Nat)} (acc:Array (Nat×Nat)),places P l=some r →
  (l.foldlM (fun (bs:Array (Nat×Nat)) (f:Field)=>do let b ← (do pure (f.offset,← sizeOf f.type):Sem (Nat×Nat));pure (bs.push b)) acc).run P w=.ok (acc++r.toArray) w
 | [],r,acc,h=>by simp only [places,Option.some.injEq] at h;subst h;simp
 | f::l,r,acc,h=>by
  simp only [places] at h
  cases hi:P.info? f.type with
  | none=>simp [hi] at h
  | some inf =>
   cases hl:places P l with
   | none=>simp [hi,hl] at h
   | some l' =>
    simp only [hi,hl,Option.some.injEq] at h
    subst h
    have:=places_run (acc.push (f.offset,inf.size)) hl
    have h1:(do pure (f.offset,← sizeOf f.type):Sem (Nat×Nat)).run P w=.ok (f.offset,inf.size) w:=by simp [sizeOf,typeInfo,hi]
    rw [List.foldlM_cons,Sem.run_bind,Sem.run_bind,h1,Result.andThen_ok,Sem.run_pure,Result.andThen_ok,this]
    simp
def eBuild (P:Program)(ρ:Operand→Option AV)(t:TypeId)(parts:Array (Nat×Operand)):Option LR :=
 match P.info? t with
 | some inf=>match inf.zero with
  | some z=>match opL ρ parts.toList with
   | some ps=>match P.underlying t with
    | some (.struct fs)=>match places P fs.toList with
     | some pl=>match fillA (fun i=>pl[i]?) (z.cells.toList.map .lit) ps with
      | some cs=>some (.val (.agg cs))
      | none=>none
     | none=>none
    | some (.array _ e)=>match P.info? e with
     | some ie=>match fillA (fun i=>some (i*ie.size,ie.size)) (z.cells.toList.map .lit) ps with
      | some cs=>some (.val (.agg cs))
      | none=>none
     | none=>none
    | _=>none
   | none=>none
  | none=>none
 | none=>none
theorem eBuild_ok {t:TypeId}{parts:Array (Nat×Operand)}{r:LR}(hρ:RK m ρ τ)(h:eBuild P ρ t parts=some r)(ho:o.op=.build t parts):LOk P m w τ n o r:=by
 unfold eBuild at h
 cases hi:P.info? t with
 | none=>simp [hi] at h
 | some inf =>
  simp only [hi] at h
  cases hz:inf.zero with
  | none=>simp [hz] at h
  | some z =>
   simp only [hz] at h
   cases hp:opL ρ parts.toList with
   | none=>simp [hp] at h
   | some ps =>
    simp only [hp] at h
    have hrel:=opL_rel hρ hp
    have eparts:(parts.map fun (i,x)=>(i,τ x)).toList=parts.toList.map fun p=>(p.1,τ p.2):=by simp
    cases hu:P.underlying t with
    | none=>simp [hu] at h
    | some d =>
     cases d with
     | struct fs =>
      simp only [hu] at h
      cases hpl:places P fs.toList with
      | none=>simp [hpl] at h
      | some pl =>
       simp only [hpl] at h
       cases hf:fillA (fun i=>pl[i]?) (z.cells.toList.map .lit) ps with
       | none=>simp [hf] at h
       | some cs =>
        simp only [hf,Option.some.injEq] at h
        subst h
        obtain ⟨us,h1,h2⟩:=fill_rel hrel (VRs.lits (m:=m) z.cells.toList) hf
        refine ⟨.agg us.toArray,by simp only [VR];exact ⟨us,rfl,h2⟩,?_⟩
        have hpr:=places_run (w:=w) #[] hpl
        have hm:(fs.mapM (m:=Sem) fun f=>do pure (f.offset,← sizeOf f.type)).run P w=.ok pl.toArray w:=by
         rw [Array.mapM_eq_foldlM,← Array.foldlM_toList]
         simpa using hpr
        unfold execOp;rw [ho]
        simp only [Instr.build,Sem.run_bind,zeroValue,typeInfo]
        simp [hi,hz,run_underlying hu]
        have hm2:(fs.mapM (m:=Sem) fun f=>Prod.mk f.offset <$> sizeOf f.type).run P w=.ok pl.toArray w:=by simpa using hm
        rw [hm2]
        simp at h1
        simp [h1]
     | array k e =>
      simp only [hu] at h
      cases hie:P.info? e with
      | none=>simp [hie] at h
      | some ie =>
       simp only [hie] at h
       cases hf:fillA (fun i=>some (i*ie.size,ie.size)) (z.cells.toList.map .lit) ps with
       | none=>simp [hf] at h
       | some cs =>
        simp only [hf,Option.some.injEq] at h
        subst h
        obtain ⟨us,h1,h2⟩:=fill_rel hrel (VRs.lits (m:=m) z.cells.toList) hf
        refine ⟨.agg us.toArray,by simp only [VR];exact ⟨us,rfl,h2⟩,?_⟩
        unfold execOp;rw [ho]
        simp only [Instr.build,Sem.run_bind,zeroValue,typeInfo]
        simp at h1
        simp [hi,hz,run_underlying hu,sizeOf,typeInfo,hie,h1]
     | _=>simp [hu] at h
def eBsl (P:Program)(ρ:Operand→Option AV)(n:Nat)(t:TypeId)(len:Nat)(parts:Array (Nat×Operand)):Option LR :=
 match P.underlying t with
 | some (.slice e)=>match P.info? e with
  | some inf=>match inf.zero with
   | some z=>match opL ρ parts.toList with
    | some ps=>bif Nat.ble (len*inf.size) 16777216&&Nat.blt 0 (len*inf.size) then
      (match fillA (fun i=>some (i*inf.size,inf.size)) ((List.range (len*inf.size)).map fun i=>.lit (z.cells[i%z.cells.size]!)) ps with
      | some cs=>bif Nat.ble (len*inf.size) cs.length then some (.new (.slc n 0 0 len) (.row e inf.size cs)) else none
      | none=>none)
     else none
    | none=>none
   | none=>none
  | none=>none
 | _=>none
theorem eBsl_ok {t:TypeId}{len:Nat}{parts:Array (Nat×Operand)}{r:LR}(hρ:RK m ρ τ)(h:eBsl P ρ n t len parts=some r)(ho:o.op=.buildSlice t len parts):LOk P m w τ n o r:=by
 unfold eBsl at h
 cases hu:P.underlying t with
 | none=>simp [hu] at h
 | some d =>
  cases d with
  | slice e =>
   simp only [hu] at h
   cases hi:P.info? e with
   | none=>simp [hi] at h
   | some inf =>
    simp only [hi] at h
    cases hz:inf.zero with
    | none=>simp [hz] at h
    | some z =>
     simp only [hz] at h
     cases hp:opL ρ parts.toList with
     | none=>simp [hp] at h
     | some ps =>
      simp only [hp] at h
      cases hb:Nat.ble (len*inf.size) 16777216&&Nat.blt 0 (len*inf.size) with
      | false=>rw [hb] at h;simp only [cond_false] at h;cases h
      | true =>
       rw [hb] at h
       simp only [cond_true] at h
       simp only [Bool.and_eq_true] at hb
       have hb1:len*inf.size≤16777216:=Nat.le_of_ble_eq_true hb.1
       have hb2:0<len*inf.size:=by have:=hb.2;rw [blt_iff] at this;simpa using this
       cases hf:fillA (fun i=>some (i*inf.size,inf.size)) ((List.range (len*inf.size)).map fun i=>AV.lit (z.cells[i%z.cells.size]!)) ps with
       | none=>simp [hf] at h
       | some cs =>
        simp only [hf] at h
        cases hl:Nat.ble (len*inf.size) cs.length with
        | false=>rw [hl] at h;simp only [cond_false] at h;cases h
        | true =>
         rw [hl] at h
         simp only [cond_true,Option.some.injEq] at h
         subst h
         have hrel:=opL_rel hρ hp
         have hlits:=VRs.lits (m:=m) ((List.range (len*inf.size)).map fun i=>z.cells[i%z.cells.size]!)
         rw [List.map_map] at hlits
         obtain ⟨us,h1,h2⟩:=fill_rel hrel hlits hf
         have hlen:=h2.len
         refine ⟨.slice (some ⟨w.heap.size,0,none⟩) len len,w.alloc (.cells us.toArray e),len,?_,Grow.alloc _ _,fun m' hle hn=>⟨by simp only [VR];exact ⟨_,hn,by simp,by simp⟩,row_new (VRs.mono hle h2) (by rw [hlen];exact Nat.le_of_ble_eq_true hl)⟩⟩
         unfold execOp;rw [ho]
         have e1:¬ (len=0∨inf.size=0):=by
          rintro (h | h) <;> simp [h] at hb2
         have e2:¬ (16777216<len*inf.size):=by omega
         have e3:((List.range (len*inf.size)).map fun i=>z.cells[i%z.cells.size]!).toArray=(Array.range (len*inf.size)).map (z.cells[·%z.cells.size]!):=by apply Array.ext';simp
         rw [e3] at h1
         simp [Instr.buildSlice,run_underlying hu,sizeOf,typeInfo,hi,e1,e2,zeroValue,hz,h1,newRow]
         intro h;omega
  | _=>simp [hu] at h
end
end Go.Ev
end
section
namespace Go.Ev
open Go Go.RowKit Go.Dk
section
variable {P:Program} {m:LM} {w:World} {τ:Operand→Value} {ρ:Operand→Option AV} {H:Nat→Option AO} {o:Oper} {n:Nat}
def eFa (P:Program)(t:TypeId)(x:Option AV)(i:Nat):Option LR :=
 match x with
 | some (.ptr id k)=>match P.underlying t with
  | some (.struct fs)=>match fs[i]? with
   | some f=>match P.info? f.type with
    | some inf=>bif Nat.blt 0 inf.size then some (.val (.ptr id (k+f.offset))) else none
    | none=>none
   | none=>none
  | _=>none
 | _=>none
theorem eFa_ok {t:TypeId}{X:Operand}{i:Nat}{r:LR}(hρ:RK m ρ τ)(h:eFa P t (ρ X) i=some r)(ho:o.op=.fieldAddr t X i):LOk P m w τ n o r:=by
 unfold eFa at h
 split at h
 · rename_i id k hx
   have hv:=hρ X _ hx
   simp only [VR] at hv
   obtain ⟨l,hm,hv⟩:=hv
   split at h
   · rename_i fs hu
     split at h
     · rename_i f hf
       split at h
       · rename_i inf hi
         cases hb:Nat.blt 0 inf.size with
         | false=>rw [hb] at h;simp only [cond_false] at h;cases h
         | true =>
          rw [hb] at h
          simp only [cond_true,Option.some.injEq] at h
          subst h
          have hfa:FA P t i f.offset:=fa_of (s:=inf.size) (tt:=f.type) hu (by simp [hf]) (by simp [hi]) hb
          refine ⟨.pointer (some ⟨l.b,l.o+k+f.offset,none⟩),by simp only [VR];exact ⟨l,hm,by simp [Nat.add_assoc]⟩,?_⟩
          exact v_fa hfa ho hv
       · cases h
     · cases h
   · cases h
 · cases h
def eIa (P:Program)(t:TypeId)(x ix:Option AV):Option LR :=
 match x,ix with
 | some (.slc id k off len),some (.lit (.int _ (.ofNat j)))=>match P.underlying t with
  | some (.slice e)=>match P.info? e with
   | some inf=>bif Nat.blt j len then some (.val (.ptr id (off+j*inf.size))) else none
   | none=>none
  | _=>none
 | _,_=>none
theorem eIa_ok {t:TypeId}{X Y:Operand}{r:LR}(hρ:RK m ρ τ)(h:eIa P t (ρ X) (ρ Y)=some r)(ho:o.op=.indexAddr t X Y):LOk P m w τ n o r:=by
 unfold eIa at h
 split at h
 · rename_i id k off len q j hx hy
   have hv:=hρ X _ hx
   have hj:=hρ Y _ hy
   simp only [VR] at hv hj
   obtain ⟨l,hm,hc,hv⟩:=hv
   split at h
   · rename_i e hu
     split at h
     · rename_i inf hi
       cases hb:Nat.blt j len with
       | false=>rw [hb] at h;simp only [cond_false] at h;cases h
       | true =>
        rw [hb] at h
        simp only [cond_true,Option.some.injEq] at h
        subst h
        rw [blt_iff] at hb
        have hb':j<len:=by simpa using hb
        refine ⟨.pointer (some ⟨l.b,l.o+off+(Int.ofNat j).toNat*inf.size,none⟩),by simp only [VR];exact ⟨l,hm,by simp [Nat.add_assoc]⟩,?_⟩
        exact v_ia hu (by simp [hi]) ho hv hj (by simp) p26q
     · cases h
   · cases h
 · cases h
def bnd (d:Nat):Option (Option AV)→Option Nat
 | none=>some d
 | some (some (.lit (.int _ (.ofNat j))))=>some j
 | _=>none
theorem bnd_eq {d j:Nat}{L:Option Operand}(hρ:RK m ρ τ)(h:bnd d (L.map ρ)=some j):(L=none∧j=d)∨∃ X q,L=some X∧τ X=.int q (j:Int):=by
 cases L with
 | none=>simp only [Option.map_none,bnd,Option.some.injEq] at h;exact .inl ⟨rfl,h.symm⟩
 | some X =>
  simp only [Option.map_some] at h
  unfold bnd at h
  split at h
  · rename_i heq;cases heq
  · rename_i q j' heq
    simp only [Option.some.injEq] at heq h
    subst h
    have:=hρ X _ heq
    simp only [VR] at this
    exact .inr ⟨X,q,rfl,this⟩
  · cases h
def eSlice (P:Program)(t:TypeId)(x:Option AV)(lo hi:Option (Option AV)):Option LR :=
 match x with
 | some (.slc id k off len)=>match P.underlying t with
  | some (.slice e)=>match P.info? e with
   | some inf=>match bnd 0 lo with
    | some l=>match bnd len hi with
     | some h=>bif Nat.ble l h&&Nat.ble h len&&(Nat.blt l len||Nat.beq l 0) then some (.val (.slc id (k+l) (off+l*inf.size) (h-l))) else none
     | none=>none
    | none=>none
   | none=>none
  | _=>none
 | _=>none
theorem eSlice_ok {t:TypeId}{X:Operand}{lo hi:Option Operand}{r:LR}(hρ:RK m ρ τ)(h:eSlice P t (ρ X) (lo.map ρ) (hi.map ρ)=some r)(ho:o.op=.slice t X lo hi none):LOk P m w τ n o r:=by
 unfold eSlice at h
 split at h
 · rename_i id k off len hx
   have hv:=hρ X _ hx
   simp only [VR] at hv
   obtain ⟨c,hm,hc,hv⟩:=hv
   split at h
   · rename_i e hu
     split at h
     · rename_i inf hinf
       split at h
       · rename_i l hl
         split at h
         · rename_i hh hhi
           cases hb:Nat.ble l hh&&Nat.ble hh len&&(Nat.blt l len||Nat.beq l 0) with
           | false=>rw [hb] at h;simp only [cond_false] at h;cases h
           | true =>
            rw [hb] at h
            simp only [cond_true,Option.some.injEq] at h
            subst h
            simp only [Bool.and_eq_true,Bool.or_eq_true,blt_iff,decide_eq_true_eq,Nat.ble_eq,Nat.beq_eq] at hb
            obtain ⟨⟨h1,h2⟩,h3⟩:=hb
            have hadd:(if c.c-k=l then (some ⟨c.b,c.o+off,none⟩:Option Addr) else (some ((⟨c.b,c.o+off,none⟩:Addr).add (l*inf.size))))=some ⟨c.b,c.o+(off+l*inf.size),none⟩:=by
             split
             · have:l=0:=by omega
               subst this;simp
             · simp [add_addr,Nat.add_assoc]
            refine ⟨.slice (some ⟨c.b,c.o+(off+l*inf.size),none⟩) (hh-l) (c.c-(k+l)),by simp only [VR];exact ⟨c,hm,by omega,rfl⟩,?_⟩
            unfold execOp;rw [ho]
            have h4:hh≤c.c-k:=by omega
            have h5:c.c-k-l=c.c-(k+l):=by omega
            rcases bnd_eq hρ hl with ⟨rfl,rfl⟩ | ⟨L,q,rfl,hL⟩ <;> rcases bnd_eq hρ hhi with ⟨rfl,rfl⟩ | ⟨U,q',rfl,hU⟩
            · simp [Instr.sliceAt,Instr.slice,run_underlying hu,hv,Instr.sliceBounds,sizeOf,typeInfo,hinf]
              intro _;simp [Addr.add]
            · simp [Instr.sliceAt,Instr.slice,run_underlying hu,hv,Instr.sliceBounds,Instr.sliceBound,asIntOf,hU,h4,sizeOf,typeInfo,hinf]
              intro _;simp [Addr.add]
            · simp [Instr.sliceAt,Instr.slice,run_underlying hu,hv,Instr.sliceBounds,Instr.sliceBound,asIntOf,hL,h1,sizeOf,typeInfo,hinf,hadd,h5]
            · simp [Instr.sliceAt,Instr.slice,run_underlying hu,hv,Instr.sliceBounds,Instr.sliceBound,asIntOf,hU,hL,h1,h4,sizeOf,typeInfo,hinf,hadd,h5]
         · cases h
       · cases h
     · cases h
   · cases h
 · cases h
def eExtract (x:Option AV)(i:Nat):Option LR :=
 match x with
 | some (.tup l)=>match l[i]? with | some a=>some (.val a) | none=>none
 | _=>none
theorem eExtract_ok {X:Operand}{i:Nat}{r:LR}(hρ:RK m ρ τ)(h:eExtract (ρ X) i=some r)(ho:o.op=.extract X i):LOk P m w τ n o r:=by
 unfold eExtract at h
 split at h
 · rename_i l hx
   have hv:=hρ X _ hx
   simp only [VR] at hv
   obtain ⟨vs,hv,hr⟩:=hv
   split at h
   · rename_i a ha
     simp only [Option.some.injEq] at h
     subst h
     obtain ⟨v,h1,h2⟩:=hr.get ha
     exact ⟨v,h2,v_extract ho hv (by simpa using h1)⟩
   · cases h
 · cases h
def eField (P:Program)(t:TypeId)(x:Option AV)(i:Nat):Option LR :=
 match x with
 | some (.agg l)=>match P.underlying t with
  | some (.struct fs)=>match fs[i]? with
   | some f=>match P.underlying f.type with
    | some d=>match aggD d with
     | true=>match P.info? f.type with
      | some inf=>some (.val (.agg ((l.drop f.offset).take inf.size)))
      | none=>none
     | false=>match l[f.offset]? with | some a=>some (.val a) | none=>none
    | none=>none
   | none=>none
  | _=>none
 | _=>none
theorem eField_ok {t:TypeId}{X:Operand}{i:Nat}{r:LR}(hρ:RK m ρ τ)(h:eField P t (ρ X) i=some r)(ho:o.op=.field t X i):LOk P m w τ n o r:=by
 unfold eField at h
 split at h
 · rename_i l hx
   have hv:=hρ X _ hx
   simp only [VR] at hv
   obtain ⟨vs,hv,hr⟩:=hv
   split at h
   · rename_i fs hu
     split at h
     · rename_i f hf
       split at h
       · rename_i d hd
         split at h
         · rename_i hag
           split at h
           · rename_i inf hinf
             simp only [Option.some.injEq] at h
             subst h
             refine ⟨.agg ((vs.drop f.offset).take inf.size).toArray,by simp only [VR];exact ⟨_,rfl,(hr.drop _).take _⟩,?_⟩
             unfold execOp;rw [ho]
             have e1:vs.toArray.extract f.offset (f.offset+inf.size)=((vs.drop f.offset).take inf.size).toArray:=by
              apply Array.ext';simp
             simp [Instr.field,run_underlying hu,hf,hv,asAgg,part,run_isAgg (w:=w) hd,hag,sizeOf,typeInfo,hinf,e1]
           · cases h
         · rename_i hag
           split at h
           · rename_i a ha
             simp only [Option.some.injEq] at h
             subst h
             obtain ⟨v,h1,h2⟩:=hr.get ha
             refine ⟨v,h2,?_⟩
             unfold execOp;rw [ho]
             simp [Instr.field,run_underlying hu,hf,hv,asAgg,part,run_isAgg (w:=w) hd,hag,h1]
           · cases h
       · cases h
     · cases h
   · cases h
 · cases h
def eIface (P:Program)(t:TypeId)(x:Option AV):Option LR :=
 match x with
 | some a=>match P.underlying t with
  | some (.interface _)=>none
  | some _=>match a with
   | .lit v=>some (.val (.lit (.iface t v)))
   | a=>some (.val (.ifc t a))
  | none=>none
 | none=>none
theorem eIface_ok {t:TypeId}{X:Operand}{r:LR}(hρ:RK m ρ τ)(h:eIface P t (ρ X)=some r)(ho:o.op=.makeInterface t X):LOk P m w τ n o r:=by
 unfold eIface at h
 split at h
 · rename_i a hx
   have hv:=hρ X _ hx
   split at h
   · cases h
   · rename_i d hni hu
     have hrun:(execOp τ o).run P w=.ok (.value (.iface t (τ X))) w:=by
      unfold execOp;rw [ho]
      simp only [Instr.makeInterface,Sem.run_bind,run_underlying hu,Result.andThen_ok]
      cases d <;> first | rfl | (rename_i ms;exact absurd rfl (hni ms))
     split at h
     · simp only [VR] at hv
       simp only [Option.some.injEq] at h
       subst h
       exact ⟨_,VR.lit _,by rw [hrun,hv]⟩
     · simp only [Option.some.injEq] at h
       subst h
       exact ⟨_,by simp only [VR];exact ⟨_,rfl,hv⟩,hrun⟩
   · cases h
 · cases h
def eClo (ρ:Operand→Option AV)(f:Fn)(first cap:Array Operand):Option LR :=
 match f,first.toList with
 | .func k,[]=>match opsL ρ cap.toList with | some l=>some (.val (.clo k l)) | none=>none
 | _,_=>none
theorem eClo_ok {f:Fn}{first cap:Array Operand}{r:LR}(hρ:RK m ρ τ)(h:eClo ρ f first cap=some r)(ho:o.op=.makeFunc f first cap):LOk P m w τ n o r:=by
 unfold eClo at h
 split at h
 · rename_i k hf
   split at h
   · rename_i l hl
     simp only [Option.some.injEq] at h
     subst h
     have hfirst:first=#[]:=by apply Array.ext';simpa using hf
     refine ⟨.func (.func k) #[] (cap.toList.map τ).toArray,by simp only [VR];exact ⟨_,rfl,opsL_rel hρ hl⟩,?_⟩
     unfold execOp;rw [ho]
     have e1:(cap.toList.map τ).toArray=cap.map τ:=by apply Array.ext';simp
     simp [Instr.makeFunc,hfirst,e1]
   · cases h
 · cases h
def eMap (n:Nat)(r:Option Operand):Option LR :=
 match r with
 | none=>some (.new (.ref n) (.map []))
 | some _=>none
theorem eMap_ok {t:TypeId}{x:Option Operand}{r:LR}(h:eMap n x=some r)(ho:o.op=.makeMap t x):LOk P m w τ n o r:=by
 cases x with
 | some _=>simp [eMap] at h
 | none =>
  simp only [eMap,Option.some.injEq] at h
  subst h
  refine ⟨.map (some w.heap.size),w.alloc (.map #[] 0),0,?_,Grow.alloc _ _,fun m' hle hn=>⟨by simp only [VR];exact ⟨_,hn,rfl⟩,⟨[],by simpa using heap_alloc_new w (.map #[] 0),rfl⟩⟩⟩
  unfold execOp;rw [ho]
  simp [Instr.makeMap]
def eLen (P:Program)(t:Option TypeId)(x:Option AV):Option LR :=
 match x,t with
 | some (.slc _ _ _ len),some t=>match P.underlying t with
  | some (.slice _)=>some (.val (.lit (.int .i64 (.ofNat len))))
  | _=>none
 | _,_=>none
theorem eLen_ok {t:TypeId}{X:Operand}{r:LR}(hρ:RK m ρ τ)(h:eLen P (some t) (ρ X)=some r)(ho:o.op=.call { callee:=.builtin .len,args:=#[X],argTypes:=#[t]}):LOk P m w τ n o r:=by
 unfold eLen at h
 split at h
 · rename_i id k off len t' hx ht
   cases ht
   have hv:=hρ X _ hx
   simp only [VR] at hv
   obtain ⟨c,hm,hc,hv⟩:=hv
   split at h
   · rename_i e hu
     simp only [Option.some.injEq] at h
     subst h
     exact ⟨_,VR.lit _,v_lenSlice ho hv hu⟩
   · cases h
 · cases h
def unNil:TypeDesc→Value→Value→Bool
 | .pointer _,.pointer (some _),.pointer none=>true
 | .slice _,.slice (some _) _ _,.slice none _ _=>true
 | .interface _,.iface _ _,.nilIface=>true
 | .map _ _,.map (some _),.map none=>true
 | .func _ _ _,.func _ _ _,.nilFunc=>true
 | _,_,_=>false
theorem run_unNil {t:TypeId}{d:TypeDesc}{x y:Value}(hu:P.underlying t=some d)(h:unNil d x y=true):(Op.equal t x y).run P w=.ok false w:=by
 show (Op.equalIn (9999+1) t x y).run P w=_
 rw [Op.equalIn,Sem.run_bind,run_underlying hu,Result.andThen_ok]
 unfold unNil at h
 split at h <;> first | rfl | cases h
theorem v_unEq {t t':TypeId}{X Y:Operand}{d:TypeDesc}{x y:Value}(hu:P.underlying t=some d)(h:unNil d x y=true)(hx:τ X=x)(hy:τ Y=y)(ho:o.op=.binOp .eql t X Y t'):(execOp τ o).run P w=.ok (.value (.bool false)) w:=by
 exact Bz112
theorem v_unNe {t t':TypeId}{X Y:Operand}{d:TypeDesc}{x y:Value}(hu:P.underlying t=some d)(h:unNil d x y=true)(hx:τ X=x)(hy:τ Y=y)(ho:o.op=.binOp .neq t X Y t'):(execOp τ o).run P w=.ok (.value (.bool true)) w:=by
 exact Bz112
def eNil (P:Program)(op:BinOp)(t:TypeId)(x y:Option AV):Option LR :=
 match op with
 | .eql=>match x,y,P.underlying t with
  | some (.ptr _ _),some (.lit (.pointer none)),some (.pointer _)=>some (.val (.lit (.bool false)))
  | some (.slc _ _ _ _),some (.lit (.slice none _ _)),some (.slice _)=>some (.val (.lit (.bool false)))
  | some (.ifc _ _),some (.lit .nilIface),some (.interface _)=>some (.val (.lit (.bool false)))
  | some (.ref _),some (.lit (.map none)),some (.map _ _)=>some (.val (.lit (.bool false)))
  | some (.clo _ _),some (.lit .nilFunc),some (.func _ _ _)=>some (.val (.lit (.bool false)))
  | _,_,_=>none
 | .neq=>match x,y,P.underlying t with
  | some (.ptr _ _),some (.lit (.pointer none)),some (.pointer _)=>some (.val (.lit (.bool true)))
  | some (.slc _ _ _ _),some (.lit (.slice none _ _)),some (.slice _)=>some (.val (.lit (.bool true)))
  | some (.ifc _ _),some (.lit .nilIface),some (.interface _)=>some (.val (.lit (.bool true)))
  | some (.ref _),some (.lit (.map none)),some (.map _ _)=>some (.val (.lit (.bool true)))
  | some (.clo _ _),some (.lit .nilFunc),some (.func _ _ _)=>some (.val (.lit (.bool true)))
  | _,_,_=>none
 | _=>none
theorem eNil_ok {op:BinOp}{t t':TypeId}{X Y:Operand}{r:LR}(hρ:RK m ρ τ)(h:eNil P op t (ρ X) (ρ Y)=some r)(ho:o.op=.binOp op t X Y t'):LOk P m w τ n o r:=by
 unfold eNil at h
 split at h
 · split at h <;> first
     | (cases h;done)
     | (rename_i hx hy hu
        have hv:=hρ X _ hx
        have hv2:=hρ Y _ hy
        simp only [VR] at hv hv2
        simp only [Option.some.injEq] at h
        subst h
        first
         | (obtain ⟨c,hm,hv⟩:=hv;exact ⟨_,VR.lit _,v_unEq hu (by rfl) hv hv2 ho⟩)
         | (obtain ⟨c,hm,hc,hv⟩:=hv;exact ⟨_,VR.lit _,v_unEq hu (by rfl) hv hv2 ho⟩)
         | (obtain ⟨c,hv,hc⟩:=hv;exact ⟨_,VR.lit _,v_unEq hu (by rfl) hv hv2 ho⟩))
 · split at h <;> first
     | (cases h;done)
     | (rename_i hx hy hu
        have hv:=hρ X _ hx
        have hv2:=hρ Y _ hy
        simp only [VR] at hv hv2
        simp only [Option.some.injEq] at h
        subst h
        first
         | (obtain ⟨c,hm,hv⟩:=hv;exact ⟨_,VR.lit _,v_unNe hu (by rfl) hv hv2 ho⟩)
         | (obtain ⟨c,hm,hc,hv⟩:=hv;exact ⟨_,VR.lit _,v_unNe hu (by rfl) hv hv2 ho⟩)
         | (obtain ⟨c,hv,hc⟩:=hv;exact ⟨_,VR.lit _,v_unNe hu (by rfl) hv hv2 ho⟩))
 · cases h
end
end Go.Ev
end
section
namespace Go.Ev
open Go Go.RowKit Go.Dk
section
variable {P:Program} {m:LM} {w:World} {τ:Operand→Value} {ρ:Operand→Option AV} {H:Nat→Option AO} {o:Oper} {n:Nat}
def eNilCk (x:Option AV):Option LR :=
 match x with
 | some (.ptr i k)=>some (.val (.ptr i k))
 | some (.ifc t v)=>some (.val (.ifc t v))
 | some (.clo f l)=>some (.val (.clo f l))
 | _=>none
theorem eNilCk_ok {X:Operand}{r:LR}(hρ:RK m ρ τ)(h:eNilCk (ρ X)=some r)(ho:o.op=.nilCheck X):LOk P m w τ n o r:=by
 unfold eNilCk at h
 split at h
 · rename_i hx
   have hv:=hρ X _ hx
   have hv0:=hv
   simp only [VR] at hv
   obtain ⟨c,hm,hv⟩:=hv
   exact Bz99
 · rename_i hx
   have hv:=hρ X _ hx
   have hv0:=hv
   simp only [VR] at hv
   obtain ⟨c,hv,hm⟩:=hv
   exact Bz99
 · rename_i hx
   have hv:=hρ X _ hx
   have hv0:=hv
   simp only [VR] at hv
   obtain ⟨c,hv,hm⟩:=hv
   exact Bz99
 · cases h
def byteL:List AV→Option (List Int)
 | []=>some []
 | .lit (.int .u8 k)::l=>match byteL l with | some r=>some (k::r) | none=>none
 | _=>none
theorem byteL_rel:∀ {l:List AV} {vs:List Value} {ns:List Int},VRs m l vs→byteL l=some ns→vs=ns.map (.int .u8)
 | [],vs,ns,h,e=>by simp only [VRs] at h;simp only [byteL,Option.some.injEq] at e;subst e;simpa using h
 | a::l,vs,ns,h,e=>by
  simp only [VRs] at h
  obtain ⟨v,t,rfl,h1,h2⟩:=h
  unfold byteL at e
  split at e
  · simp_all
  · rename_i k l' heq
    injection heq with ha hl
    subst ha
    subst hl
    split at e
    · rename_i r hr
      simp only [Option.some.injEq] at e
      subst e
      simp only [VR] at h1
      rw [byteL_rel h2 hr,h1];rfl
    · cases e
  · cases e
def bytesOf (ns:List Int):ByteArray:=⟨(ns.map fun k=>UInt8.ofNat k.toNat).toArray⟩
theorem foldl_push:∀ (ns:List Int) (b:ByteArray),ns.foldl (fun r k=>r.push (UInt8.ofNat k.toNat)) b=⟨b.data++(ns.map fun k=>UInt8.ofNat k.toNat).toArray⟩
 | [],b=>by cases b;simp
 | k::ns,b=>by
  rw [List.foldl_cons,foldl_push ns]
  cases b
  simp [ByteArray.push]
theorem strOf_eq (ns:List Int):strOf ns=bytesOf ns:=by
 unfold strOf bytesOf
 rw [foldl_push]
 simp [ByteArray.empty,ByteArray.emptyWithCapacity]
 rfl
def eB2s (P:Program)(H:Nat→Option AO)(s t:TypeId)(x:Option AV):Option LR :=
 match x with
 | some (.slc i k off len)=>match P.underlying s,P.underlying t with
  | some (.slice e),some .string=>match P.underlying e with
   | some (.int .u8)=>match H i with
    | some (.row _ _ cs)=>match byteL ((cs.drop off).take len) with
     | some ns=>bif Nat.beq ns.length len then some (.val (.lit (.string (bytesOf ns)))) else none
     | none=>none
    | _=>none
   | _=>none
  | _,_=>none
 | _=>none
theorem eB2s_ok {s t:TypeId}{X:Operand}{r:LR}(hH:HK m H w)(hρ:RK m ρ τ)(h:eB2s P H s t (ρ X)=some r)(ho:o.op=.convert s t X):LOk P m w τ n o r:=by
 unfold eB2s at h
 split at h
 · rename_i i k off len hx
   have hv:=hρ X _ hx
   simp only [VR] at hv
   obtain ⟨c,hm,hc,hv⟩:=hv
   split at h
   · rename_i e hs ht
     split at h
     · rename_i he
       split at h
       · rename_i e' sz cs hi
         obtain ⟨l,hl,hor⟩:=hH _ _ hi
         rw [hm] at hl;cases hl
         split at h
         · rename_i ns hns
           cases hb:Nat.beq ns.length len with
           | false=>rw [hb] at h;simp only [cond_false] at h;cases h
           | true =>
            rw [hb] at h
            simp only [cond_true,Option.some.injEq] at h
            subst h
            obtain ⟨vs,h1,h2⟩:=or_cells hor off len
            have hvs:=byteL_rel h1 hns
            subst hvs
            exact ⟨_,VR.lit _,by rw [← strOf_eq];exact v_b2s ho hs he ht h2 (Nat.eq_of_beq_eq_true hb) hv⟩
         · cases h
       · cases h
     · cases h
   · cases h
 · cases h
def eRange (P:Program)(n:Nat)(t:TypeId)(x:Option AV):Option LR :=
 match x,P.underlying t with
 | some (.lit (.string s)),some .string=>some (.new (.ptr n 0) (.iter s 0))
 | _,_=>none
theorem eRange_ok {t:TypeId}{X:Operand}{r:LR}(hρ:RK m ρ τ)(h:eRange P n t (ρ X)=some r)(ho:o.op=.range t X):LOk P m w τ n o r:=by
 unfold eRange at h
 split at h
 · rename_i s hx hu
   have hv:=hρ X _ hx
   simp only [VR] at hv
   simp only [Option.some.injEq] at h;subst h
   refine ⟨.pointer (some ⟨w.heap.size,0,none⟩),w.alloc (.stringIter s 0),0,?_,Grow.alloc _ _,fun m' hle hn=>⟨by simp only [VR];exact ⟨_,hn,by simp⟩,rfl,heap_alloc_new w _⟩⟩
   unfold execOp;rw [ho]
   simp [Instr.range,run_underlying hu,hv]
 · cases h
def notI:TypeDesc→Bool
 | .interface _=>false
 | _=>true
def eAssert (P:Program)(x:Option AV)(t:TypeId)(ok:Bool):Option LR :=
 match x with
 | some (.ifc d a)=>match P.underlying t with
  | some u=>match notI u with
   | true=>match Nat.beq d t,ok with
    | true,true=>some (.val (.tup [a,.lit (.bool true)]))
    | true,false=>some (.val a)
    | false,true=>match P.info? t with
     | some inf=>match inf.zero with
      | some z=>some (.val (.tup [.lit z,.lit (.bool false)]))
      | none=>none
     | none=>none
    | false,false=>none
   | false=>none
  | none=>none
 | _=>none
theorem eAssert_ok {X:Operand}{xt t:TypeId}{ok:Bool}{r:LR}(hρ:RK m ρ τ)(h:eAssert P (ρ X) t ok=some r)(ho:o.op=.typeAssert X xt t ok):LOk P m w τ n o r:=by
 unfold eAssert at h
 split at h
 · rename_i d a hx
   have hv:=hρ X _ hx
   simp only [VR] at hv
   obtain ⟨y,hv,hy⟩:=hv
   split at h
   · rename_i u hu
     split at h
     · rename_i hni
       split at h
       · rename_i hd
         have hd:=Nat.eq_of_beq_eq_true hd
         simp only [Option.some.injEq] at h;subst h
         refine ⟨.tuple [y,.bool true].toArray,by simp only [VR,VRs];exact ⟨_,rfl,_,_,rfl,hy,_,_,rfl,rfl,rfl⟩,?_⟩
         exact Bz134
       · rename_i hd
         have hd:=Nat.eq_of_beq_eq_true hd
         simp only [Option.some.injEq] at h;subst h
         refine ⟨y,hy,?_⟩
         exact Bz134
       · rename_i hd
         have hd:=Nat.ne_of_beq_eq_false hd
         split at h
         · rename_i inf hinf
           split at h
           · rename_i z hz
             simp only [Option.some.injEq] at h;subst h
             refine ⟨.tuple [z,.bool false].toArray,by simp only [VR,VRs];exact ⟨_,rfl,_,_,rfl,rfl,_,_,rfl,rfl,rfl⟩,?_⟩
             unfold execOp;rw [ho]
             simp only [hv,Instr.typeAssert,Sem.run_bind,run_underlying hu,Result.andThen_ok]
             cases u <;> simp_all [notI,zeroValue,typeInfo]
           · cases h
         · cases h
       · cases h
     · cases h
   · cases h
 · cases h
def plainK:TypeDesc→Bool
 | .int _=>true
 | .string=>true
 | .bool=>true
 | _=>false
def findA (kind:TypeDesc)(k:Value):List (AV×AV)→Nat→Option (Option (Nat×AV))
 | [],_=>some none
 | (.lit kv,x)::r,i=>match Instr.sameNow kind k kv with
   | some true=>some (some (i,x))
   | some false=>findA kind k r (i+1)
   | none=>none
 | _,_=>none
theorem findA_rel {kind:TypeDesc}{k:Value}:∀ {es:List (AV×AV)} {es':List MapEntry} {b i:Nat} {r:Option (Nat×AV)},ME m es es' b→findA kind k es i=some r →
  match r with
  | none=>Instr.findNow kind k es' i=some none
  | some (j,a)=>∃ v,VR m a v∧Instr.findNow kind k es' i=some (some (j,v))
 | [],es',b,i,r,h,e=>by
  simp only [ME] at h;subst h
  simp only [findA,Option.some.injEq] at e;subst e;rfl
 | (kk,x)::es,es',b,i,r,h,e=>by
   obtain ⟨v,t,kv,rfl,rfl,hx,ht⟩:=h
   simp only [findA] at e
   cases hs:Instr.sameNow kind k kv with
   | none=>simp [hs] at e
   | some q =>
    cases q with
    | true =>
     simp only [hs,Option.some.injEq] at e;subst e
     exact ⟨v,hx,by simp [Instr.findNow,hs]⟩
    | false =>
     simp only [hs] at e
     have:=findA_rel ht e
     cases r with
     | none=>simpa [Instr.findNow,hs] using this
     | some ja=>obtain ⟨j,a⟩:=ja;simpa [Instr.findNow,hs] using this
theorem run_checkPlain {t:TypeId}{d:TypeDesc}{b:Bool}{k:Value}(hu:P.underlying t=some d)(hd:plainK d=true):(Instr.checkKey b 10000 t k).run P w=.ok () w:=by
 show (Instr.checkKey b (9999+1) t k).run P w=_
 rw [Instr.checkKey,Sem.run_bind,run_underlying hu,Result.andThen_ok]
 cases d <;> first | rfl | cases hd
theorem run_findKey_of {t:TypeId}{d:TypeDesc}{k:Value}{es:List MapEntry}{r:Option (Nat×Value)}(hu:P.underlying t=some d)(h:Instr.findNow d k es 0=some r):(Instr.findKey t k es).run P w=.ok r w:=by
 simp [Instr.findKey,run_underlying hu,h]
def eLookup (P:Program)(H:Nat→Option AO)(t:TypeId)(x k:Option AV)(ok:Bool):Option LR :=
 match x,k with
 | some (.ref i),some (.lit kv)=>match P.underlying t with
  | some (.map kt et)=>match P.underlying kt with
   | some kd=>match plainK kd,H i with
    | true,some (.map es)=>match findA kd kv es 0 with
     | some (some (_,a))=>some (.val (bif ok then .tup [a,.lit (.bool true)] else a))
     | some none=>match P.info? et with
      | some inf=>match inf.zero with
       | some z=>some (.val (bif ok then .tup [.lit z,.lit (.bool false)] else .lit z))
       | none=>none
      | none=>none
     | none=>none
    | _,_=>none
   | none=>none
  | _=>none
 | _,_=>none
theorem eLookup_ok {X Y:Operand}{t:TypeId}{ok:Bool}{r:LR}(hH:HK m H w)(hρ:RK m ρ τ)(h:eLookup P H t (ρ X) (ρ Y) ok=some r)(ho:o.op=.lookup t X Y ok):LOk P m w τ n o r:=by
 unfold eLookup at h
 split at h
 · rename_i i kv hx hy
   have hv:=hρ X _ hx
   have hk:=hρ Y _ hy
   simp only [VR] at hv hk
   obtain ⟨c,hm,hv⟩:=hv
   split at h
   · rename_i kt et hu
     split at h
     · rename_i kd hkd
       split at h
       · rename_i es hpl hi
         obtain ⟨l,hl,hor⟩:=hH _ _ hi
         rw [hm] at hl;cases hl
         obtain ⟨es',hb,hme⟩:=hor
         have hget:(getObj c.b).run P w=.ok (.map es'.toArray es.length) w:=by simp [getObj,Sem.run,hb]
         split at h
         · rename_i j a hf
           obtain ⟨v,h1,h2⟩:=findA_rel hme hf
           simp only [Option.some.injEq] at h;subst h
           have hrun:(execOp τ o).run P w=.ok (.value (if ok then .tuple #[v,.bool true] else v)) w:=by
            unfold execOp;rw [ho]
            simp only [hv,hk,Instr.lookup,Sem.run_bind,run_underlying hu,Result.andThen_ok,hget,run_checkPlain hkd hpl,run_findKey_of hkd h2,Sem.run_pure]
           cases ok with
           | true=>exact ⟨.tuple [v,.bool true].toArray,by simp only [VR,cond_true];refine ⟨_,rfl,?_⟩;simp only [VRs,VR];exact ⟨_,_,rfl,h1,_,_,rfl,rfl,rfl⟩,hrun⟩
           | false=>exact ⟨v,h1,hrun⟩
         · rename_i hf
           have h2:=findA_rel hme hf
           simp only at h2
           split at h
           · rename_i inf hinf
             split at h
             · rename_i z hz
               simp only [Option.some.injEq] at h;subst h
               have hzz:(zeroValue et).run P w=.ok z w:=by simp [zeroValue,typeInfo,hinf,hz]
               have hrun:(execOp τ o).run P w=.ok (.value (if ok then .tuple #[z,.bool false] else z)) w:=by
                unfold execOp;rw [ho]
                simp only [hv,hk,Instr.lookup,Sem.run_bind,run_underlying hu,Result.andThen_ok,hget,run_checkPlain hkd hpl,run_findKey_of hkd h2,Sem.run_pure,hzz]
               cases ok with
               | true=>exact ⟨.tuple [z,.bool false].toArray,by simp only [VR,cond_true];refine ⟨_,rfl,?_⟩;simp only [VRs,VR];exact ⟨_,_,rfl,rfl,_,_,rfl,rfl,rfl⟩,hrun⟩
               | false=>exact ⟨z,VR.lit _,hrun⟩
             · cases h
           · cases h
         · cases h
       · cases h
     · cases h
   · cases h
 · cases h
def pureOp:Op→Bool
 | .binOp .. | .unOp .. | .convert .. | .index .. | .slice .. | .field .. | .extract .. | .nilCheck .. | .makeInterface .. | .typeAssert ..=>true
 | .call { callee:=.builtin .len,.. } | .call { callee:=.builtin .min,.. } | .call { callee:=.builtin .max,.. } | .call { callee:=.builtin .cap,.. }=>true
 | _=>false
def clV (ρ:Operand→Option AV)(x:Operand):Value:=match ρ x with
 | some a=>match a.clos with | some v=>v | none=>undef
 | none=>undef
def clB (ρ:Operand→Option AV)(x:Operand):Bool:=match ρ x with
 | some a=>match a.clos with | some _=>true | none=>false
 | none=>false
def ePure (P:Program)(ρ:Operand→Option AV)(o:Oper):Option LR :=
 bif pureOp o.op&&o.op.operands.toList.all (clB ρ) then
  match pr P (execOp (clV ρ) o) with
  | some (.value v)=>some (.val (.lit v))
  | _=>none
 else none
theorem ePure_ok {r:LR}(hρ:RK m ρ τ)(h:ePure P ρ o=some r):LOk P m w τ n o r:=by
 unfold ePure at h
 cases hb:pureOp o.op&&o.op.operands.toList.all (clB ρ) with
 | false=>rw [hb] at h;simp only [cond_false] at h;cases h
 | true =>
  rw [hb] at h
  simp only [cond_true] at h
  split at h
  · rename_i v hv
    simp only [Option.some.injEq] at h;subst h
    refine ⟨v,VR.lit _,?_⟩
    simp only [Bool.and_eq_true,List.all_eq_true] at hb
    rw [execOp_congr (ρ':=clV ρ) o (fun cs b e=>by rw [e] at hb;simp [pureOp] at hb) ?_]
    · exact pr_run hv w
    · intro x hx
      have:=hb.2 x (by simpa using hx)
      unfold clB at this
      unfold clV
      cases hr:ρ x with
      | none=>simp [hr] at this
      | some a =>
       cases hc:a.clos with
       | none=>simp [hr,hc] at this
       | some v=>simp only [hc];exact clos_eq (hρ x a hr) hc
  · cases h
def eLenC (P:Program)(ρ:Operand→Option AV)(c:Call):Option LR :=
 match c.callee with
 | .builtin .len=>match c.args.toList,c.argTypes.toList with
  | [x],[t]=>eLen P (some t) (ρ x)
  | _,_=>none
 | _=>none
theorem eLenC_ok {c:Call}{r:LR}(hρ:RK m ρ τ)(h:eLenC P ρ c=some r)(ho:o.op=.call c):LOk P m w τ n o r:=by
 unfold eLenC at h
 split at h
 · rename_i hc
   split at h
   · rename_i x t hx ht
     refine eLen_ok hρ h ?_
     rw [ho]
     obtain ⟨ce,az,ats⟩:=c
     simp only at hc hx ht
     subst hc
     have e1:az=#[x]:=by apply Array.ext';simpa using hx
     have e2:ats=#[t]:=by apply Array.ext';simpa using ht
     rw [e1,e2]
   · cases h
 · cases h
def eS2b (P:Program)(n:Nat)(s t:TypeId)(x:Option AV):Option LR :=
 match x with
 | some (.lit (.string b))=>match P.underlying s,P.underlying t with
  | some _,some (.slice e)=>match P.underlying e with
   | some (.int .u8)=>some (.new (.slc n 0 0 b.size) (.row e 1 (b.data.toList.map fun c=>.lit (.int .u8 (Int.ofNat c.toNat)))))
   | _=>none
  | _,_=>none
 | _=>none
theorem vrs_lits {m:LM}:∀ (l:List Value),VRs m (l.map AV.lit) l
 | []=>by simp only [List.map_nil,VRs]
 | v::l=>by
  simp only [List.map_cons,VRs]
  exact ⟨v,l,rfl,VR.lit v,vrs_lits l⟩
theorem eS2b_ok {s t:TypeId}{X:Operand}{r:LR}(hρ:RK m ρ τ)(h:eS2b P n s t (ρ X)=some r)(ho:o.op=.convert s t X):LOk P m w τ n o r:=by
 unfold eS2b at h
 split at h
 · rename_i b hx
   have hv:=hρ X _ hx
   simp only [VR] at hv
   split at h
   · rename_i u e hs ht
     split at h
     · rename_i he
       simp only [Option.some.injEq] at h;subst h
       have hrun:=Lib.run_convert_string_bytes (P:=P) w s t e b hs ht he
       have hge:=grownCap_ge w b.size 0 e
       refine ⟨.slice (some ⟨w.heap.size,0,none⟩) b.size (grownCap w b.size 0 e),Lib.bytesWorld w e b,grownCap w b.size 0 e,by unfold execOp;rw [ho];simp [hv,hrun],⟨rfl,rfl,rfl,Lib.bytesWorld_size w e b,fun j hj=>Lib.bytesWorld_at_old w e b j hj⟩,fun m' hle hn=>⟨by simp only [VR];exact ⟨_,hn,by simpa using hge,by simp⟩,?_⟩⟩
       have hsz:(Lib.bytesCells w e b).size=grownCap w b.size 0 e:=by
        unfold Lib.bytesCells
        simp only [Array.size_append,Array.size_map,Array.size_replicate]
        have:b.data.size=b.size:=rfl
        omega
       refine ⟨_,b.data.toList.map (fun c=>Value.int .u8 (Int.ofNat c.toNat)),_,Lib.bytesWorld_at_new w e b,.inr (Nat.le_refl _),?_,?_,fun j v hj=>?_⟩
       · have:=vrs_lits (m:=m') (b.data.toList.map (fun c=>Value.int .u8 (Int.ofNat c.toNat)))
         rw [List.map_map] at this
         exact this
       · rw [hsz];simp
       · have hjl:=(List.getElem?_eq_some_iff.1 hj).1
         unfold Lib.bytesCells
         simp only [Nat.zero_add]
         rw [Array.getElem?_append_left (by simpa using hjl)]
         simpa using hj
     · cases h
   · cases h
 · cases h
def light (P:Program)(H:Nat→Option AO)(n:Nat)(ρ:Operand→Option AV)(o:Oper):Option LR :=
 match o.op with
 | .move x | .assign x=>match ρ x with | some a=>some (.val a) | none=>none
 | .pick c a b=>match ρ c with
  | some (.lit (.bool true))=>(match ρ a with | some a=>some (.val a) | none=>none)
  | some (.lit (.bool false))=>(match ρ b with | some a=>some (.val a) | none=>none)
  | _=>none
 | .load t x=>eLoad P H t (ρ x)
 | .fieldAddr t x i=>eFa P t (ρ x) i
 | .alloc t=>eAlloc P n t
 | .box t x=>eBox n t (ρ x)
 | .build t ps=>eBuild P ρ t ps
 | .buildSlice t k ps=>eBsl P ρ n t k ps
 | .indexAddr t x i=>eIa P t (ρ x) (ρ i)
 | .makeFunc f a b=>eClo ρ f a b
 | .makeMap _ r=>eMap n r
 | .range t x=>eRange P n t (ρ x)
 | .lookup t x k ok=>eLookup P H t (ρ x) (ρ k) ok
 | .nilCheck x=>match eNilCk (ρ x) with | some r=>some r | none=>ePure P ρ o
 | .extract x i=>match eExtract (ρ x) i with | some r=>some r | none=>ePure P ρ o
 | .field t x i=>match eField P t (ρ x) i with | some r=>some r | none=>ePure P ρ o
 | .makeInterface t x=>eIface P t (ρ x)
 | .typeAssert x _ t ok=>match eAssert P (ρ x) t ok with | some r=>some r | none=>ePure P ρ o
 | .slice t x a b none=>match eSlice P t (ρ x) (a.map ρ) (b.map ρ) with | some r=>some r | none=>ePure P ρ o
 | .binOp op t x y _=>match eNil P op t (ρ x) (ρ y) with | some r=>some r | none=>ePure P ρ o
 | .convert s t x=>match eB2s P H s t (ρ x) with | some r=>some r | none=>match eS2b P n s t (ρ x) with | some r=>some r | none=>ePure P ρ o
 | .call c=>match eLenC P ρ c with | some r=>some r | none=>ePure P ρ o
 | _=>ePure P ρ o
theorem light_ok {r:LR}(hH:HK m H w)(hρ:RK m ρ τ)(h:light P H n ρ o=some r):LOk P m w τ n o r:=by
 unfold light at h
 split at h
 · rename_i x ho
   split at h
   · rename_i a ha
     simp only [Option.some.injEq] at h;subst h
     exact ⟨_,hρ x a ha,v_move ho rfl⟩
   · cases h
 · rename_i x ho
   split at h
   · rename_i a ha
     simp only [Option.some.injEq] at h;subst h
     exact ⟨_,hρ x a ha,v_assign ho rfl⟩
   · cases h
 · rename_i c a b ho
   split at h
   · rename_i hc
     have hcv:=hρ c _ hc
     simp only [VR] at hcv
     split at h
     · rename_i x hx
       simp only [Option.some.injEq] at h;subst h
       exact ⟨_,hρ a x hx,by unfold execOp;rw [ho];simp [hcv,asBool]⟩
     · cases h
   · rename_i hc
     have hcv:=hρ c _ hc
     simp only [VR] at hcv
     split at h
     · rename_i x hx
       simp only [Option.some.injEq] at h;subst h
       exact ⟨_,hρ b x hx,by unfold execOp;rw [ho];simp [hcv,asBool]⟩
     · cases h
   · cases h
 · exact eLoad_ok hH hρ h p25q
 · exact eFa_ok hρ h p25q
 · exact eAlloc_ok h p25q
 · exact eBox_ok hρ h p25q
 · exact eBuild_ok hρ h p25q
 · exact eBsl_ok hρ h p25q
 · exact eIa_ok hρ h p25q
 · exact eClo_ok hρ h p25q
 · exact eMap_ok h p25q
 · exact eRange_ok hρ h p25q
 · exact eLookup_ok hH hρ h p25q
 · rename_i x ho
   split at h
   · rename_i r' hr;cases h;exact eNilCk_ok hρ hr ho
   · exact ePure_ok hρ h
 · rename_i x i ho
   split at h
   · rename_i r' hr;cases h;exact eExtract_ok hρ hr ho
   · exact ePure_ok hρ h
 · rename_i t x i ho
   split at h
   · rename_i r' hr;cases h;exact eField_ok hρ hr ho
   · exact ePure_ok hρ h
 · exact eIface_ok hρ h p25q
 · rename_i x xt t ok ho
   split at h
   · rename_i r' hr;cases h;exact eAssert_ok hρ hr ho
   · exact ePure_ok hρ h
 · rename_i t x a b ho
   split at h
   · rename_i r' hr;cases h;exact eSlice_ok hρ hr ho
   · exact ePure_ok hρ h
 · rename_i op t x y t' ho
   split at h
   · rename_i r' hr;cases h;exact eNil_ok hρ hr ho
   · exact ePure_ok hρ h
 · rename_i s t x ho
   split at h
   · rename_i r' hr;cases h;exact eB2s_ok hH hρ hr ho
   · split at h
     · rename_i r' hr;cases h;exact eS2b_ok hρ hr ho
     · exact ePure_ok hρ h
 · rename_i c ho
   split at h
   · rename_i r' hr;cases h;exact eLenC_ok hρ hr ho
   · exact ePure_ok hρ h
 · exact ePure_ok hρ h
end
end Go.Ev
end
