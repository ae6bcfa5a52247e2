/- Contracts of the functions that the laws 'T' reach, part 2. No condition. -/
import Derived.Test.YteejianjjpdimaaGreatMTa
set_option linter.unusedVariables false
set_option linter.unusedSimpArgs false
set_option maxRecDepth 100000
set_option maxHeartbeats 8000000
namespace Go.Proofs.YteejianjjpdimaaGreat
section
open Go.RowKit
theorem wrap_u64 (n:Int):IntKind.u64.wrap n=n % 18446744073709551616:=by
 simp [IntKind.wrap,IntKind.signed,IntKind.bits]
theorem toNat_lt (a:UInt64):a.toNat<18446744073709551616:=a.toNat_lt
theorem bits_xor_u64n {a b:Nat} (ha:a<18446744073709551616) (hb:b<18446744073709551616):bits .xor .u64 (a:Int) (b:Int)=((a ^^^ b:Nat):Int):=by
 show IntKind.u64.wrap ((BitVec.ofInt 64 (a:Int) ^^^ BitVec.ofInt 64 (b:Int)).toNat:Int)=_;rw [BitVec.toNat_xor,BitVec.ofInt_natCast,BitVec.ofInt_natCast,BitVec.toNat_ofNat,BitVec.toNat_ofNat,Nat.mod_eq_of_lt ha,Nat.mod_eq_of_lt hb,wrap_u64]
 have:a ^^^ b<2 ^ 64:=Nat.xor_lt_two_pow (by omega) (by omega)
 omega
theorem bits_or_u64n {a b:Nat} (ha:a<18446744073709551616) (hb:b<18446744073709551616):bits .or .u64 (a:Int) (b:Int)=((a ||| b:Nat):Int):=by
 show IntKind.u64.wrap ((BitVec.ofInt 64 (a:Int) ||| BitVec.ofInt 64 (b:Int)).toNat:Int)=_;rw [BitVec.toNat_or,BitVec.ofInt_natCast,BitVec.ofInt_natCast,BitVec.toNat_ofNat,BitVec.toNat_ofNat,Nat.mod_eq_of_lt ha,Nat.mod_eq_of_lt hb,wrap_u64]
 have:a ||| b<2 ^ 64:=Nat.or_lt_two_pow (by omega) (by omega)
 omega
theorem bits_and_u64n {a b:Nat} (ha:a<18446744073709551616) (hb:b<18446744073709551616):bits .and .u64 (a:Int) (b:Int)=((a &&& b:Nat):Int):=by
 show IntKind.u64.wrap ((BitVec.ofInt 64 (a:Int) &&& BitVec.ofInt 64 (b:Int)).toNat:Int)=_;rw [BitVec.toNat_and,BitVec.ofInt_natCast,BitVec.ofInt_natCast,BitVec.toNat_ofNat,BitVec.toNat_ofNat,Nat.mod_eq_of_lt ha,Nat.mod_eq_of_lt hb,wrap_u64]
 have:a &&& b<2 ^ 64:=Nat.and_lt_two_pow _ (by omega)
 omega
theorem or_int {a b:Int} (k:Nat) (c:Nat) (h0:0≤a) (ha:a<((2 ^ k:Nat):Int)) (hb:b=((2 ^ k*c:Nat):Int)) (hk:a<18446744073709551616) (hl:b<18446744073709551616):bits .or .u64 a b=a+b:=by
 obtain ⟨n,rfl⟩:=Int.eq_ofNat_of_zero_le h0;subst hb;have hn:n<2 ^ k:=by exact_mod_cast ha
 rw [bits_or_u64n (by omega) (by omega),Nat.or_comm,←Nat.two_pow_add_eq_or_of_lt hn]
 omega
theorem and_int {a:Int} (k:Nat) (h0:0≤a) (ha:a<18446744073709551616) (m:Int) (hm:m=((2 ^ k-1:Nat):Int)) (hl:m<18446744073709551616):bits .and .u64 a m=a % ((2 ^ k:Nat):Int):=by
 obtain ⟨n,rfl⟩:=Int.eq_ofNat_of_zero_le h0;subst hm;rw [bits_and_u64n (by omega) (by omega),Nat.and_two_pow_sub_one_eq_mod]
 exact Int.natCast_emod n (2 ^ k)
end
section
open Go.RowKit L05
def bytesV (x:UInt64):Array Value:=#[.int .u8 (x.toNat % 256),.int .u8 (x.toNat / 256 % 256),.int .u8 (x.toNat / 65536 % 256),.int .u8 (x.toNat / 16777216 % 256),.int .u8 (x.toNat / 4294967296 % 256),
 .int .u8 (x.toNat / 1099511627776 % 256),.int .u8 (x.toNat / 281474976710656 % 256),.int .u8 (x.toNat / 72057594037927936)]
theorem Bytes_any (x:UInt64) (w:World):Calls Tryz.prog 113 #[.int .u64 x.toNat] w fun e w'=>e=.returned (.agg (bytesV x))∧Below w.heap.size w w':=by
 have hx:=toNat_lt x;go_in;go_wp2;refine wp_loop_rounds 9 ?_;iterate 9 (rw [rounds_succ];go_wp2)
 refine bodyPost_ret (v:=.agg (bytesV x)) ?_ rfl ⟨rfl,?_⟩
 ·simp [results,Tryz.results113,go_sem,bytesV]
 ·exact (((Below.refl _ _).alloc (Nat.le_refl _) _).alloc (by simp) _)
theorem bytesV_ix0 (x:UInt64) (W:World):(Instr.index 192 (.agg (bytesV x)) (.int .i64 ((0:Nat):Int))).run Tryz.prog W=.ok (.int .u8 ((x.toNat:Int) % 256)) W:=by kernel_rfl
theorem bytesV_ix1 (x:UInt64) (W:World):(Instr.index 192 (.agg (bytesV x)) (.int .i64 ((1:Nat):Int))).run Tryz.prog W=.ok (.int .u8 ((x.toNat:Int) / 256 % 256)) W:=by kernel_rfl
theorem bytesV_ix2 (x:UInt64) (W:World):(Instr.index 192 (.agg (bytesV x)) (.int .i64 ((2:Nat):Int))).run Tryz.prog W=.ok (.int .u8 ((x.toNat:Int) / 65536 % 256)) W:=by kernel_rfl
theorem bytesV_ix3 (x:UInt64) (W:World):(Instr.index 192 (.agg (bytesV x)) (.int .i64 ((3:Nat):Int))).run Tryz.prog W=.ok (.int .u8 ((x.toNat:Int) / 16777216 % 256)) W:=by kernel_rfl
theorem bytesV_ix4 (x:UInt64) (W:World):(Instr.index 192 (.agg (bytesV x)) (.int .i64 ((4:Nat):Int))).run Tryz.prog W=.ok (.int .u8 ((x.toNat:Int) / 4294967296 % 256)) W:=by kernel_rfl
theorem bytesV_ix5 (x:UInt64) (W:World):(Instr.index 192 (.agg (bytesV x)) (.int .i64 ((5:Nat):Int))).run Tryz.prog W=.ok (.int .u8 ((x.toNat:Int) / 1099511627776 % 256)) W:=by kernel_rfl
theorem bytesV_ix6 (x:UInt64) (W:World):(Instr.index 192 (.agg (bytesV x)) (.int .i64 ((6:Nat):Int))).run Tryz.prog W=.ok (.int .u8 ((x.toNat:Int) / 281474976710656 % 256)) W:=by kernel_rfl
theorem bytesV_ix7 (x:UInt64) (W:World):(Instr.index 192 (.agg (bytesV x)) (.int .i64 ((7:Nat):Int))).run Tryz.prog W=.ok (.int .u8 ((x.toNat:Int) / 72057594037927936)) W:=by kernel_rfl
theorem bytesV_ix (x:UInt64) {k:Nat} (hk:k<8) (W:World):(Instr.index 192 (.agg (bytesV x)) (.int .i64 (k:Int))).run Tryz.prog W=.ok (.int .u8 ((byteAt x k).toNat:Int)) W:=by
 rw [byteAt_nat]
 have hx:=toNat_lt x
 match k,hk with
 | 0,_=>rw [bytesV_ix0];exact congrArg (fun n=>Result.ok (Value.int .u8 n) W) (by simp only [show (256:Nat) ^ 0=1 from rfl];omega)
 | 1,_=>rw [bytesV_ix1];exact congrArg (fun n=>Result.ok (Value.int .u8 n) W) (by simp only [show (256:Nat) ^ 1=256 from rfl];omega)
 | 2,_=>rw [bytesV_ix2];exact congrArg (fun n=>Result.ok (Value.int .u8 n) W) (by simp only [show (256:Nat) ^ 2=65536 from rfl];omega)
 | 3,_=>rw [bytesV_ix3];exact congrArg (fun n=>Result.ok (Value.int .u8 n) W) (by simp only [show (256:Nat) ^ 3=16777216 from rfl];omega)
 | 4,_=>rw [bytesV_ix4];exact congrArg (fun n=>Result.ok (Value.int .u8 n) W) (by simp only [show (256:Nat) ^ 4=4294967296 from rfl];omega)
 | 5,_=>rw [bytesV_ix5];exact congrArg (fun n=>Result.ok (Value.int .u8 n) W) (by simp only [show (256:Nat) ^ 5=1099511627776 from rfl];omega)
 | 6,_=>rw [bytesV_ix6];exact congrArg (fun n=>Result.ok (Value.int .u8 n) W) (by simp only [show (256:Nat) ^ 6=281474976710656 from rfl];omega)
 | 7,_=>rw [bytesV_ix7];exact congrArg (fun n=>Result.ok (Value.int .u8 n) W) (by simp only [show (256:Nat) ^ 7=72057594037927936 from rfl];omega)
theorem fnv_walk (s:UInt64) (q:UInt8):IntKind.u64.wrap (bits .xor .u64 (s.toNat:Int) (IntKind.u64.wrap (q.toNat:Int))*1099511628211)=((fnv s q).toNat:Int):=by
 have hq:=q.toNat_lt;rw [wrap_u64 (q.toNat:Int),show (q.toNat:Int) % 18446744073709551616=(q.toNat:Int) by omega,bits_xor_u64n (toNat_lt s) (by omega),wrap_u64,fnv_nat]
 omega
theorem Next_any (s:UInt64) (v:Value) (l:List UInt64) (w:World) (h:Words w v l) (hl:l.length≤2048):
  Calls Tryz.prog 109 #[.int .u64 s.toNat,v] w fun e w'=>e=.returned (.tuple #[.int .u64 (behind s l).toNat,.int .i64 0])∧Below w.heap.size w w':=by
 have l1:=Rd.len h Tryz.underlying22;obtain ⟨N,hN⟩:=exq l.length;rw [←hN] at l1 hl;have HN:=hD hN;have H:=hD h;have B:=Below.refl w.heap.size w;clear hN h;go_in;go_wp2
 go_loopw [0,15] (fun st i wr=>∃k:Nat,k≤N∧i=.int .i64 k∧st=.int .u64 (behind s (l.take k)).toNat∧Below w.heap.size w wr) (fun _ i _=>N-(intOf i).toNat)
 case atStart=>exact ⟨0,Nat.zero_le _,rfl,rfl,B⟩
 case round=>
  obtain ⟨k,hk,rfl,rfl,hbel⟩:=hrel;by_cases hlt:k<N
  ·obtain ⟨ad,x,ia,ca,hx⟩:=(H.out.below hbel).at_ Tryz.underlying22 one_u64 (k:=k) (by have:=HN.out;omega)
   have HB:=hD hbel;clear hbel;go_wp2_with fail;refine (Bytes_any _ _).mono ?_;rintro e w2 ⟨rfl,b⟩
   have B2:=HB.out.trans (b.mono HB.out.size)
   have HB2:=hD B2;clear b B2;obtain ⟨s0,hs0⟩:=exq (behind s (l.take k))
   rw [←hs0]
   have HS:=hD hs0;clear hs0;obtain ⟨V,hV⟩:=exq (bytesV x)
   rw [←hV]
   have HV:=hD hV;clear hV;go_wp2
   go_loop [0,21] (fun st j=>∃m:Nat,m≤8∧j=.int .i64 m∧st=.int .u64 (wordTo s0 x m).toNat) (fun _ j=>8-(intOf j).toNat)
   case atStart=>exact ⟨0,by omega,rfl,rfl⟩
   case round=>
    obtain ⟨m,hm,rfl,rfl⟩:=hrel;by_cases hm8:m<8
    ·have hix:=bytesV_ix x hm8;rw [←HV.out] at hix;obtain ⟨q,hq⟩:=exq (byteAt x m)
     rw [←hq] at hix;obtain ⟨s1,hs1⟩:=exq (wordTo s0 x m)
     rw [←hs1]
     have hstep:wordTo s0 x (m+1)=fnv s1 q:=by rw [wordTo,hs1,hq]
     have HST:=hD hstep;clear hstep hs1 hq;go_wp2
     go_roundw
     case rel=>exact ⟨m+1,by omega,by go_num,by rw [HST.out,fnv_walk]⟩
     case measure=>simp [intOf];omega
    ·obtain rfl:m=8:=by omega
     go_wp2
     go_roundw
     case rel=>exact ⟨k+1,by omega,by go_num,by rw [behind_take hx.out,←HS.out];rfl,HB2.out⟩
     case measure=>simp [intOf];omega
  ·obtain rfl:k=N:=by omega
   have HB:=hD hbel;clear hbel;go_wp2
   go_ret2
   refine ⟨by rw [HN.out,List.take_length];rfl,HB.out⟩
theorem Of_any (v:Value) (l:List UInt64) (w:World) (h:Words w v l) (hl:l.length≤2048):
  Calls Tryz.prog 104 #[v] w fun e w'=>e=.returned (.tuple #[.int .u64 (sum l).toNat,.int .i64 0])∧Below w.heap.size w w':=by
 have hN:=Next_any first v l w h hl
 rw [first_nat] at hN;have HN:=hD hN;clear hN;obtain ⟨S,hS⟩:=exq (sum l)
 rw [←hS]
 have HS:=hD hS;clear hS;go_in;go_wp2_with fail;refine (HN.out).mono ?_;rw [show behind first l=S from HS.out.symm]
 rintro e w' ⟨rfl,b⟩
 go_wp2
 go_ret2
 exact ⟨rfl,b⟩
end
section
open Go.RowKit L02 L05 L13
theorem KCheck_any (v:Value) (l:List UInt8) (r:Int) (hr:r=kErr l) (w:World) (h:Byts w v l):Calls Tryz.prog 82 #[v] w fun e w'=>e=.returned (.int .i64 r)∧w=w':=by
 have l1:=Rd.len h Tryz.underlying66;obtain ⟨N,hN⟩:=exq l.length;rw [←hN] at l1;have HN:=hD hN;have H:=hD h;have HR:=hD hr;clear hN h hr;by_cases hbig:8<N
 ·go_in;go_wp2
  go_ret
  exact ⟨ret_int (by rw [HR.out,kErr_many (by have:=HN.out;omega)]),rfl⟩
 ·have hs:N≤8:=by omega
  clear hbig;go_in;go_wp2
  go_loop [10] (fun i=>∃k:Nat,k≤N∧i=.int .i64 k∧Hid (∀x∈l.take k,1≤x.toNat∧x.toNat≤3)) (fun i=>N-(intOf i).toNat)
  case atStart=>exact ⟨0,Nat.zero_le _,rfl,hD (by simp)⟩
  case round=>
   obtain ⟨k,hk,rfl,hh⟩:=hrel;by_cases hlt:k<N
   ·obtain ⟨ad,x,ia,ca,hx⟩:=H.out.at_ (P:=Tryz.prog) Tryz.underlying66 one_u8 (k:=k) (by have:=HN.out;omega)
    by_cases hg:1≤x.toNat∧x.toNat≤3
    ·obtain ⟨h1,h2⟩:=hg;go_wp2
     go_round
     case rel=>
      refine ⟨k+1,by omega,by go_num,hD ?_⟩
      intro y hy;rw [List.take_add_one,hx.out] at hy;rcases List.mem_append.1 hy with hy | hy
      ·exact hh.out y hy
      ·simp at hy;subst hy;exact ⟨h1,h2⟩
     case measure=>simp [intOf];omega
    ·have hcase:x.toNat<1∨1≤x.toNat∧3<x.toNat:=by omega
     have hb:=kErr_bad (by have:=HN.out;omega) hx.out hg;have HB:=hD hb;clear hb hg;rcases hcase with h1 | ⟨h1,h2⟩
     all_goals
      go_wp2
      go_ret
      exact ⟨ret_int (by rw [HR.out,HB.out]),rfl⟩
   ·obtain rfl:k=N:=by omega
    go_wp2
    go_ret
    refine ⟨ret_int ?_,rfl⟩
    rw [HR.out,kErr_of (by have:=HN.out;omega)]
    have:=hh.out;rw [List.take_of_length_le (by have:=HN.out;omega)] at this;exact this
theorem KCheckR_any (v:Value) (l:List UInt8) (r:Int) (hr:r=kErr l) (w:World) (h:Byts w v l):Calls Tryz.prog 59 #[v] w fun e w'=>e=.returned (.int .i64 r)∧w=w':=by
 have l1:=Rd.len h Tryz.underlying66;obtain ⟨N,hN⟩:=exq l.length;rw [←hN] at l1;have HN:=hD hN;have H:=hD h;have HR:=hD hr;clear hN h hr;by_cases hbig:8<N
 ·go_in;go_wp2
  go_ret
  exact ⟨ret_int (by rw [HR.out,kErr_many (by have:=HN.out;omega)]),rfl⟩
 ·have hs:N≤8:=by omega
  clear hbig;go_in;go_wp2
  go_loop [3] (fun i=>∃k:Nat,k≤N∧i=.int .i64 k∧Hid (∀x∈l.take k,1≤x.toNat∧x.toNat≤3)) (fun i=>N-(intOf i).toNat)
  case atStart=>exact ⟨0,Nat.zero_le _,rfl,hD (by simp)⟩
  case round=>
   obtain ⟨k,hk,rfl,hh⟩:=hrel;by_cases hlt:k<N
   ·obtain ⟨ad,x,ia,ca,hx⟩:=H.out.at_ (P:=Tryz.prog) Tryz.underlying66 one_u8 (k:=k) (by have:=HN.out;omega)
    by_cases hg:1≤x.toNat∧x.toNat≤3
    ·obtain ⟨h1,h2⟩:=hg;have e0:((x.toNat:Int)==0)=false:=by rw [beq_eq_false_iff_ne];omega
     go_wp2
     go_round
     case rel=>
      refine ⟨k+1,by omega,by go_num,hD ?_⟩
      intro y hy;rw [List.take_add_one,hx.out] at hy;rcases List.mem_append.1 hy with hy | hy
      ·exact hh.out y hy
      ·simp at hy;subst hy;exact ⟨h1,h2⟩
     case measure=>simp [intOf];omega
    ·have hcase:((x.toNat:Int)==0)=true∨((x.toNat:Int)==0)=false∧3<x.toNat:=by
      by_cases h0:x.toNat=0
      ·exact .inl (by rw [beq_iff_eq];omega)
      ·exact .inr ⟨by rw [beq_eq_false_iff_ne];omega,by omega⟩
     have hb:=kErr_bad (by have:=HN.out;omega) hx.out hg;have HB:=hD hb;clear hb hg;rcases hcase with h1 | ⟨h1,h2⟩
     all_goals
      go_wp2
      go_ret
      exact ⟨ret_int (by rw [HR.out,HB.out]),rfl⟩
   ·obtain rfl:k=N:=by omega
    go_wp2
    go_ret
    refine ⟨ret_int ?_,rfl⟩
    rw [HR.out,kErr_of (by have:=HN.out;omega)]
    have:=hh.out;rw [List.take_of_length_le (by have:=HN.out;omega)] at this;exact this
theorem kErr_len {l:List UInt8} (h:kErr l=0):l.length≤8:=(kErr_ok h).1
theorem KSize_any (v:Value) (l:List UInt8) (n r:Int) (hn:n=kSize l) (hr:r=kErr l) (w:World) (h:Byts w v l):Calls Tryz.prog 61 #[v] w fun e w'=>e=.returned (.tuple #[.int .i64 n,.int .i64 r])∧w=w':=by
 have l1:=Rd.len h Tryz.underlying66;obtain ⟨N,hN⟩:=exq l.length;rw [←hN] at l1;have CT:=fun w h=>KCheck_any v l r hr w h;have HC:=hD CT;have H:=hD h;clear CT h;by_cases h0:kErr l=0
 ·have hs:N≤8:=by rw [hN];exact kErr_len h0
  have hk:n=2+((N+1) / 2*2:Nat):=by rw [hn,kSize,if_pos h0,hN]
  rw [h0] at hr;have HK:=hD hk;subst hr;clear hn h0 hN hk;go_in;go_wp2_with fail;refine (HC.out _ H.out).mono ?_;rintro e w' ⟨rfl,rfl⟩
  go_wp2
  go_ret2
  exact ⟨by rw [HK.out];exact congrArg (fun z=>Ending.returned (.tuple #[.int .i64 z,.int .i64 0])) (by omega),rfl⟩
 ·have hne:(r != 0)=true:=by rw [bne_iff_ne,hr];exact h0
  have hk:n=0:=by rw [hn,kSize,if_neg h0]
  subst hk;clear hn h0 hN hr;go_in;go_wp2_with fail;refine (HC.out _ H.out).mono ?_;rintro e w' ⟨rfl,rfl⟩
  go_wp2
  go_ret2
  exact ⟨rfl,rfl⟩
end
end Go.Proofs.YteejianjjpdimaaGreat

namespace Go.Proofs.YteejianjjpdimaaGreat
section
open Go.RowKit L02 L05 L13
theorem Of_r (v:Value) (l:List UInt64) (x:UInt64) (hx:x=sum l) (w:World) (h:Words w v l) (hl:l.length≤2048):
  Calls Tryz.prog 104 #[v] w fun e w'=>e=.returned (.tuple #[.int .u64 x.toNat,.int .i64 0])∧Below w.heap.size w w':=by
 subst hx;exact Of_any v l w h hl
theorem lit_word {w:World} {e n:Nat} (x:UInt64) (hn:w.heap.size=n):Words (w.alloc (.cells #[.int .u64 x.toNat] e)) (.slice (some ⟨n,0,none⟩) 1 1) [x]:=by
 subst hn;exact lit_words [x] rfl rfl (by simp)
theorem or_digit {l:List UInt8} {k z N:Nat} {x:UInt8} (h0:kErr l=0) (hN:N=l.length) (hx:l[k]?=some x) (hz:z=fN (l.take k)*256+N):
  bits .or .u64 (z:Int) (IntKind.u64.wrap ((x.toNat:Int)*2 ^ (8+2*k)))=((fN (l.take (k+1))*256+N:Nat):Int):=by
 obtain ⟨h1,h2⟩:=kErr_ok h0;have hk:k<l.length:=(List.getElem?_eq_some_iff.1 hx).1;have hlt:=fN_lt (l.take k) fun y hy=>(h2 y (List.mem_of_mem_take hy)).2;rw [List.length_take,Nat.min_eq_left (by omega)] at hlt;have e4:(2:Nat) ^ (8+2*k)=4 ^ k*256:=by rw [Nat.pow_add,Nat.pow_mul,Nat.mul_comm]
 have hp:4 ^ k≤4 ^ 8:=Nat.pow_le_pow_right (by omega) (by omega)
 have hx3:=(h2 x (List.mem_of_getElem? hx)).2;have e1:((x.toNat:Int)*2 ^ (8+2*k))=((2 ^ (8+2*k)*x.toNat:Nat):Int):=by
  rw [Int.natCast_mul,Int.natCast_pow,Int.mul_comm];rfl
 have hb:2 ^ (8+2*k)*x.toNat≤4 ^ 8*256*3:=by
  rw [e4];exact Nat.mul_le_mul (Nat.mul_le_mul_right _ hp) hx3
 simp only [show (4:Nat) ^ 8=65536 from rfl] at hb hp;have hzl:z<2 ^ (8+2*k):=by rw [e4];omega
 have ew:IntKind.u64.wrap ((2 ^ (8+2*k)*x.toNat:Nat):Int)=((2 ^ (8+2*k)*x.toNat:Nat):Int):=by
  rw [wrap_u64]
  generalize 2 ^ (8+2*k)*x.toNat=q at hb
  omega
 rw [e1,ew,or_int (8+2*k) x.toNat (by omega) (by exact_mod_cast hzl) rfl (by omega) (by generalize 2 ^ (8+2*k)*x.toNat=q at hb;omega)]
 rw [fN_take hx,hz,e4]
 have:4 ^ k*256*x.toNat=x.toNat*4 ^ k*256:=by rw [Nat.mul_comm,Nat.mul_assoc]
 omega
theorem KWrite_any (v:Value) (l:List UInt8) (a b:UInt64) (r:Int) (ha:a=w0 l) (hb:b=w1 l) (hr:r=kErr l) (w:World) (h:Byts w v l):
  Calls Tryz.prog 91 #[v] w fun e w'=>e=.returned (.tuple #[.agg #[.int .u64 a.toNat,.int .u64 b.toNat],.int .i64 r])∧Below w.heap.size w w':=by
 have B:=Below.refl w.heap.size w;have l1:=Rd.len h Tryz.underlying66;obtain ⟨N,hN⟩:=exq l.length;rw [←hN] at l1;have CT:=fun w h=>KCheck_any v l r hr w h;have HC:=hD CT;have H:=hD h;clear CT h;by_cases h0:kErr l=0
 ·have hs:N≤8:=by rw [hN];exact kErr_len h0
  rw [h0] at hr;subst hr;have HN:=hD hN;have H0:=hD h0;have an:a.toNat=firstN l:=by rw [ha];exact w0_nat h0
  have hb':b=sum [a]:=by rw [hb,w1,if_pos h0,ha]
  have HAN:=hD an;have HB:=hD hb';clear hN h0 ha hb an hb';go_in;go_upto_region 1 with (fail)
  refine wpb1 (166) (#[.int .u64 0,.int .u64 0]) ?_;rintro w' ⟨g2,b⟩
  replace B:=B.trans (b.mono B.size);clear b;replace c_g2:=g2.five;go_wp2_with fail;refine (HC.out _ (H.out.below B)).mono ?_;rintro e w2 ⟨rfl,rfl⟩
  obtain ⟨w3,hw3⟩:=exq w';subst hw3;go_wp2;have HG:=hD g2;have HBB:=hD B;have HL:=hD (H.out.below B)
  clear c_g2 g2 B
  go_loop [5,21] (fun y i=>∃k z:Nat,k≤N∧i=.int .i64 k∧y=.int .u64 (z:Int)∧Hid (z=fN (l.take k)*256+N)) (fun _ i=>N-(intOf i).toNat)
  case atStart=>exact ⟨0,N,Nat.zero_le _,rfl,by simp,hD (by simp [fN])⟩
  case round=>
   obtain ⟨k,z,hk,rfl,rfl,hz⟩:=hrel;by_cases hlt:k<N
   ·obtain ⟨ad,x,ia,ca,hx⟩:=HL.out.at_ (P:=Tryz.prog) Tryz.underlying66 one_u8 (k:=k) (by have:=HN.out;omega)
    have hxl:=x.toNat_lt;go_wp2;refine ⟨⟨k+1,fN (l.take (k+1))*256+N,by omega,by go_num,?_,hD rfl⟩,?_⟩
    ·rw [or_digit H0.out HN.out hx.out hz.out]
    ·simp [intOf];omega
   ·obtain rfl:k=N:=by omega
    have hza:z=a.toNat:=by rw [hz.out,HAN.out,firstN,HN.out,List.take_length]
    subst hza;have OT:=fun v w h=>Of_r v [a] b HB.out w h (by simp)
    have HO:=hD OT;clear OT;go_wp2_with fail;refine (HO.out _ _ (lit_word a rfl)).mono ?_;rintro e w4 ⟨rfl,bb⟩
    have g2:=HG.out.below ((Below.refl _ _).alloc (Nat.le_refl _) (.cells #[.int .u64 a.toNat] 42))
    replace g2:=g2.below bb;have B:=(HBB.out.alloc HBB.out.size (.cells #[.int .u64 a.toNat] 42)).trans (bb.mono (Nat.le_trans HBB.out.size (by simp)))
    have k2:=g2.cell;have l2:=g2.free;clear bb g2;go_wp2;refine bodyPost_ret (v:=.tuple #[.agg #[.int .u64 a.toNat,.int .u64 b.toNat],.int .i64 0]) (by simp [results,Tryz.results91,go_sem,k2,l2]) rfl ⟨rfl,?_⟩
    exact bdn
 ·have hne:(r != 0)=true:=by rw [bne_iff_ne,hr];exact h0
  have ha0:a=0:=by rw [ha,w0,if_neg h0]
  have hb0:b=0:=by rw [hb,w1,if_neg h0]
  subst ha0 hb0;clear ha hb hr h0 hN;go_in;go_upto_region 1 with (fail)
  refine wpb1 (166) (#[.int .u64 0,.int .u64 0]) ?_;rintro w' ⟨g2,b⟩
  replace B:=B.trans (b.mono B.size);clear b;replace c_g2:=g2.five;go_wp2_with fail;refine (HC.out _ (H.out.below B)).mono ?_;rintro e w2 ⟨rfl,rfl⟩
  go_wp2;refine bodyPost_ret (v:=.tuple #[.agg #[.int .u64 0,.int .u64 0],.int .i64 r]) (by simp [results,Tryz.results91,go_sem,c_g2]) rfl ?_;refine ⟨rfl,?_⟩
  exact bdn
end
section
open Go.RowKit
section
variable {P:Program}
theorem run_eqItems_words (d:Nat) {e:TypeId} (he:P.underlying e=some (.int .u64)) (hp:∀(X:Array Value) (j:Nat) (u:Value) (w:World),X[j]?=some u→(part e X j).run P w=.ok u w):
  ∀(m k:Nat) (l1 l2:List UInt64) (w:World),k+m≤l1.length→k+m≤l2.length→
  (Op.eqItems (d+1) e 1 (l1.map u64).toArray (l2.map u64).toArray (List.range' k m)).run P w=.ok (decide ((l1.drop k).take m=(l2.drop k).take m)) w
 | 0,k,l1,l2,w,_,_=>by simp [Op.eqItems]
 | m+1,k,l1,l2,w,h1,h2=>by
  have e1:(l1.map u64).toArray[k]?=some (u64 (l1[k]'(by omega))):=by simp [show k<l1.length by omega]
  have e2:(l2.map u64).toArray[k]?=some (u64 (l2[k]'(by omega))):=by simp [show k<l2.length by omega]
  have ih:=run_eqItems_words d he hp m (k+1) l1 l2 w (by omega) (by omega)
  rw [List.range'_succ]
  simp only [Op.eqItems,Nat.mul_one,Sem.run_bind,hp _ _ _ _ e1,hp _ _ _ _ e2,Result.andThen_ok]
  rw [show (Op.equalIn (d+1) e (u64 (l1[k]'(by omega))) (u64 (l2[k]'(by omega)))).run P w=.ok (((l1[k]'(by omega)).toNat:Int)==((l2[k]'(by omega)).toNat:Int)) w from run_equalIn_int w d e .u64 .u64 _ _ he]
  rw [List.drop_eq_getElem_cons (show k<l1.length by omega),List.drop_eq_getElem_cons (show k<l2.length by omega),List.take_succ_cons,List.take_succ_cons]
  by_cases hx:l1[k]'(by omega)=l2[k]'(by omega)
  ·have t1:(((l1[k]'(by omega)).toNat:Int)==((l2[k]'(by omega)).toNat:Int))=true:=by rw [hx];simp
   rw [t1]
   simp only [Result.andThen_ok,Bool.not_true,Bool.false_eq_true,if_false]
   rw [ih,hx]
   simp
  ·have t1:(((l1[k]'(by omega)).toNat:Int)==((l2[k]'(by omega)).toNat:Int))=false:=by
    rw [beq_eq_false_iff_ne];intro h;exact hx (UInt64.toNat_inj.1 (by omega))
   rw [t1]
   simp [hx]
theorem run_neq_words {t e:TypeId} {n:Nat} (ht:P.underlying t=some (.array n e)) (hi:(P.info? e).isSome=true) (he:P.underlying e=some (.int .u64)) (hc:P.cellsOf e=1)
  (hp:∀(X:Array Value) (j:Nat) (u:Value) (w:World),X[j]?=some u→(part e X j).run P w=.ok u w)
  (l1 l2:List UInt64) (h1:l1.length=n) (h2:l2.length=n) (w:World):(binOp .neq t (.agg (l1.map u64).toArray) (.agg (l2.map u64).toArray)).run P w=.ok (.bool (!decide (l1=l2))) w:=by
 obtain ⟨i,hi⟩:=Option.isSome_iff_exists.1 hi;rw [run_neq_struct,run_equalIn_array (w:=w) 9999 _ _ ht hi,hc,List.range_eq_range',run_eqItems_words 9998 he hp n 0 l1 l2 w (by omega) (by omega)]
 simp only [List.drop_zero,Result.andThen_ok]
 rw [List.take_of_length_le (by omega),List.take_of_length_le (by omega)]
end
end
section
open Go.RowKit L02 L05 L13
theorem pair_neq (a b c d:UInt64) (r:Bool) (hr:r=!decide ([a,b]=[c,d])) (W:World):(binOp .neq 166 (.agg #[.int .u64 a.toNat,.int .u64 b.toNat]) (.agg #[.int .u64 c.toNat,.int .u64 d.toNat])).run Tryz.prog W=.ok (.bool r) W:=by
 subst hr;exact run_neq_words (P:=Tryz.prog) (n:=2) Tryz.underlying166 (by kernel_rfl) Tryz.underlying42 (by kernel_rfl) (fun X j u W h=>run_part_plain W (by kernel_rfl) h) [a,b] [c,d] rfl rfl W
theorem lit_u8 {w:World} {e n:Nat} (x:Int) (q:UInt8) (hq:x=q.toNat) (hn:w.heap.size=n):Rd (w.alloc (.cells #[.int .u8 x] e)) 1 (.slice (some ⟨n,0,none⟩) 1 1) 1 ([q].map u8):=by
 subst hn hq;exact lit_rd
theorem one_u8' (q:UInt8):∀u∈[q].map u8,u.oneCell'=true:=one_u8s [q]
theorem KRead_any (a b:UInt64) (L:List UInt8) (r:Int) (hL:L=rdL a b) (hr:r=rdE a b) (w:World):
  Calls Tryz.prog 56 #[.int .u64 a.toNat,.int .u64 b.toNat] w fun e w'=>∃x,e=.returned (.tuple #[x,.int .i64 r])∧OwnB w' w.heap.size 5 x L∧Below w.heap.size w w':=by
 have B:=Below.refl w.heap.size w;have hal:=toNat_lt a;have e1:=and_int (a:=(a.toNat:Int)) 8 (by omega) (by omega) 255 (by decide) (by omega)
 obtain ⟨n,hn⟩:=exq (nOf a)
 have e1':bits .and .u64 (a.toNat:Int) 255=(n:Int):=by rw [e1,hn];unfold nOf;simp only [show ((2 ^ 8:Nat):Int)=256 from rfl];omega
 clear e1;have HL:=hD hL;have HR:=hD hr;have HN:=hD hn;clear hL hr;by_cases hb:8<n
 ·have hno:¬RdOk a b:=fun h=>by have:=h.1;omega
  have hL0:L=[]:=by rw [HL.out,rdL,if_neg hno]
  have hr0:r=50:=by rw [HR.out,rdE,if_neg hno]
  subst hL0 hr0;clear hn hno;go_in;go_wp2
  go_ret2
  exact ⟨_,rfl,OwnB.nil _ _ _,B⟩
 ·have hn8:n≤8:=by omega
  clear hb hn;go_in;go_wp2;have HB:=hD B;clear B
  go_loopw [7,16] (fun xv i wr=>∃k:Nat,k≤n∧i=.int .u64 k∧Hid (OwnB wr w.heap.size 5 xv (dig a k))∧Below w.heap.size w wr) (fun _ i _=>n-(intOf i).toNat)
  case atStart=>exact ⟨0,by omega,rfl,hD (OwnB.nil _ _ _),HB.out⟩
  case round=>
   obtain ⟨k,hk,rfl,hh,B⟩:=hrel;by_cases hlt:k<n
   ·have hp:(2:Int) ^ (8+2*k)=((256*4 ^ k:Nat):Int):=by
     have:(2:Nat) ^ (8+2*k)=256*4 ^ k:=by rw [Nat.pow_add,Nat.pow_mul]
     exact_mod_cast this
    have HP:=hD hp;clear hp;obtain ⟨q,hq⟩:∃q:UInt8,q=UInt8.ofNat (a.toNat / 256 / 4 ^ k % 4):=⟨_,rfl⟩
    have hqn:q.toNat=a.toNat / 256 / 4 ^ k % 4:=by rw [hq,UInt8.toNat_ofNat'];omega
    have hql:q.toNat<256:=q.toNat_lt;have e2:bits .and .u64 ((a.toNat:Int) / 2 ^ (8+2*k)) 3=(q.toNat:Int):=by
     have e3:((a.toNat:Int) / 2 ^ (8+2*k))=((a.toNat / 256 / 4 ^ k:Nat):Int):=by
      rw [HP.out,Nat.div_div_eq_div_mul];exact (Int.natCast_ediv _ _).symm
     have h4:a.toNat / 256 / 4 ^ k≤a.toNat:=by rw [Nat.div_div_eq_div_mul];exact Nat.div_le_self _ _
     rw [e3,hqn]
     generalize a.toNat / 256 / 4 ^ k=z at h4
     rw [and_int (a:=(z:Int)) 2 (by omega) (by omega) 3 (by decide) (by omega)]
     exact (Int.natCast_emod z 4).symm
    have HQ:=hD hq;have HO:=hD hh.out;have HBB:=hD B;clear hq hqn hh B;have hlk:(dig a k).length=k:=dig_len a k;have HLK:=hD hlk;clear hlk;go_wp2_with (at_builtin;refine wpList_append (by rfl) rfl rfl rfl Tryz.underlying66 info_u8 rfl (by omega) (by exact own_below HO.out ((Below.refl _ _).alloc (Nat.le_refl _) _)) (by exact lit_u8 _ q (by omega) rfl) (one_u8' q) (by rw [HLK.out];omega) (by rw [HLK.out];omega) (by exact HBB.out.alloc HBB.out.size _) (Nat.le_refl _) ?_;intro v1 w3 o3 B3 g3;clear g3)
    have o4:OwnB w3 w.heap.size 5 v1 (dig a (k+1)):=OwnB.of o3 (by rw [dig_succ,List.map_append,←HQ.out])
    have HO4:=hD o4;have HB3:=hD B3;clear o3 o4 B3
    go_roundw
    case rel=>exact ⟨k+1,by omega,by go_num,hD HO4.out,HB3.out⟩
    case measure=>simp [intOf];omega
   ·obtain rfl:k=n:=by omega
    have HO:=hD hh.out;obtain ⟨l,hl⟩:=exq (dig a k)
    rw [←hl] at HO;obtain ⟨c,hc⟩:=exq (w0 l)
    obtain ⟨d,hd⟩:=exq (w1 l)
    obtain ⟨e,he⟩:=exq (kErr l)
    have WT:=fun v w h=>KWrite_any v l c d e hc hd he w h;have HW:=hD WT;clear WT;have hiff:RdOk a b↔e=0∧[c,d]=[a,b]:=by
     unfold RdOk;rw [←HN.out,←hl,←he,←hc,←hd]
     simp only [List.cons.injEq,and_true]
     exact ⟨fun h=>⟨h.2.1,h.2.2.1,h.2.2.2⟩,fun h=>⟨hn8,h.1,h.2.1,h.2.2⟩⟩
    have hrl:RdOk a b→L=l∧r=0:=fun h=>⟨by rw [HL.out,rdL,if_pos h,←HN.out,hl],by rw [HR.out,rdE,if_pos h]⟩
    have hrn:¬RdOk a b→L=[]∧r=50:=fun h=>⟨by rw [HL.out,rdL,if_neg h],by rw [HR.out,rdE,if_neg h]⟩
    clear hc hd he hl hh;have hcase:(e != 0)=true∧L=[]∧r=50∨e=0∧((!decide ([c,d]=[a,b]))=true∧L=[]∧r=50∨(!decide ([c,d]=[a,b]))=false∧L=l∧r=0):=by
     by_cases h1:e=0
     ·by_cases h2:[c,d]=[a,b]
      ·have:=hrl (hiff.2 ⟨h1,h2⟩)
       exact .inr ⟨h1,.inr ⟨by rw [decide_eq_true h2];rfl,this⟩⟩
      ·have:=hrn (fun h=>h2 (hiff.1 h).2)
       exact .inr ⟨h1,.inl ⟨by rw [decide_eq_false h2];rfl,this⟩⟩
     ·have:=hrn (fun h=>h1 (hiff.1 h).1)
      exact .inl ⟨by rw [bne_iff_ne];exact h1,this⟩
    clear hiff hrl hrn;rcases hcase with ⟨h1,rfl,rfl⟩ | ⟨rfl,⟨h2,rfl,rfl⟩ | ⟨h2,rfl,rfl⟩⟩
    ·go_wp2_with fail;refine (HW.out _ _ HO.out.rd).mono ?_;rintro e w3 ⟨rfl,bb⟩
     replace B:=B.trans (bb.mono B.size);clear bb;go_wp2
     go_ret2
     exact ⟨_,rfl,OwnB.nil _ _ _,B.alloc B.size _⟩
    ·have q1:=fun W=>pair_neq c d a b true h2.symm W;go_wp2_with fail;refine (HW.out _ _ HO.out.rd).mono ?_;rintro e w3 ⟨rfl,bb⟩
     replace B:=B.trans (bb.mono B.size);clear bb;go_wp2
     go_ret2
     exact ⟨_,rfl,OwnB.nil _ _ _,B.alloc B.size _⟩
    ·have q1:=fun W=>pair_neq c d a b false h2.symm W;go_wp2_with fail;refine (HW.out _ _ HO.out.rd).mono ?_;rintro e w3 ⟨rfl,bb⟩
     have o4:=(HO.out.below bb).below ((Below.refl _ _).alloc (Nat.le_refl _) (.cells #[.int .u64 c.toNat,.int .u64 d.toNat] 166))
     have HO4:=hD o4;replace B:=B.trans (bb.mono B.size);clear bb o4;go_wp2
     go_ret2
     exact ⟨_,rfl,HO4.out,B.alloc B.size _⟩
end
section
open Go.RowKit L02 L05 L13
end
end Go.Proofs.YteejianjjpdimaaGreat
namespace Go.Proofs.YteejianjjpdimaaGreat.L13
open L02 L05
def ta (l:List UInt64) (i:Nat):UInt64:=l.getD (96+2*i) 0
def tb (l:List UInt64) (i:Nat):UInt64:=l.getD (97+2*i) 0
def TyOk (l:List UInt64) (n i:Nat):Prop:=if i<n then RdOk (ta l i) (tb l i) else ta l i=0∧tb l i=0
instance (l:List UInt64) (n i:Nat):Decidable (TyOk l n i):=inferInstanceAs (Decidable (if i<n then RdOk (ta l i) (tb l i) else ta l i=0∧tb l i=0))
def TysOk (l:List UInt64) (n:Nat):Prop:=∀i,i<8→TyOk l n i
instance (l:List UInt64) (n:Nat):Decidable (TysOk l n):=inferInstanceAs (Decidable (∀i,i<8→TyOk l n i))
def tysTo (l:List UInt64) (k:Nat):List (List UInt8):=(List.range k).map fun i=>rdL (ta l i) (tb l i)
def tys (l:List UInt64) (n:Nat):List (List UInt8):=if TysOk l n then tysTo l n else []
def tabErr (l:List UInt64) (n:Int):Int:=if SizeOk l.length then (if 0≤n∧n≤8 then (if TysOk l n.toNat then 0 else 50) else 2) else 8
def tabT (l:List UInt64) (n:Int):List (List UInt8):=if tabErr l n=0 then tysTo l n.toNat else []
theorem tysTo_succ (l:List UInt64) (k:Nat):tysTo l (k+1)=tysTo l k++[rdL (ta l k) (tb l k)]:=by
 unfold tysTo;rw [List.range_succ,List.map_append];rfl
theorem tysTo_len (l:List UInt64) (k:Nat):(tysTo l k).length=k:=by simp [tysTo]
theorem ta_of {l:List UInt64} {i:Nat} {x:UInt64} (h:l[96+2*i]?=some x):ta l i=x:=by simp [ta,List.getD_eq_getElem?_getD,h]
theorem tb_of {l:List UInt64} {i:Nat} {x:UInt64} (h:l[97+2*i]?=some x):tb l i=x:=by simp [tb,List.getD_eq_getElem?_getD,h]
theorem rdE_ok {a b:UInt64}:rdE a b=0↔RdOk a b:=by
 unfold rdE;split <;> simp_all
end Go.Proofs.YteejianjjpdimaaGreat.L13
namespace Go.Proofs.YteejianjjpdimaaGreat
section
open Go.RowKit L02 L05 L13
def Typs (w:World) (v:Value) (L:List (List UInt8)):Prop:=∃vs:List Value,vs.length=L.length∧Rd w 1 v L.length vs∧∀(i:Nat) x l,vs[i]?=some x→L[i]?=some l→Byts w x l
def OwnT (w:World) (base:Nat) (v:Value) (L:List (List UInt8)):Prop:=∃vs:List Value,vs.length=L.length∧w.ownsRow base 66 1 v L.length vs∧∀(i:Nat) x l,vs[i]?=some x→L[i]?=some l→OwnB w base 5 x l
theorem OwnT.rd {w:World} {base:Nat} {v:Value} {L:List (List UInt8)} (h:OwnT w base v L):Typs w v L:=by
 obtain ⟨vs,h1,h2,h4⟩:=h;exact ⟨vs,h1,Rd.of_own h2,fun i x l h5 h6=>(h4 i x l h5 h6).rd⟩
theorem Typs.below {w w':World} {v:Value} {L:List (List UInt8)} (h:Typs w v L) (hb:Below w.heap.size w w'):Typs w' v L:=by
 obtain ⟨vs,h1,h2,h3⟩:=h;exact ⟨vs,h1,h2.below hb,fun i x l h4 h5=>(h3 i x l h4 h5).below hb⟩
theorem OwnT.below {w w':World} {base:Nat} {v:Value} {L:List (List UInt8)} (h:OwnT w base v L) (hb:Below w.heap.size w w'):OwnT w' base v L:=by
 obtain ⟨vs,h1,h2,h4⟩:=h;exact ⟨vs,h1,own_below h2 hb,fun i x l h5 h6=>(h4 i x l h5 h6).below hb⟩
theorem OwnT.nil (w:World) (base:Nat):OwnT w base (.slice none 0 0) []:=⟨[],rfl,World.ownsRow_nil w base _ 1,fun i x l h=>by simp at h⟩
theorem Typs.len {w:World} {v:Value} {L:List (List UInt8)} (h:Typs w v L):∀ty W,(Builtin.len_ #[27] ty #[v]).run Tryz.prog W=.ok (.int .i64 (L.length:Int)) W:=by
 obtain ⟨vs,h1,h2,h3⟩:=h;exact Rd.len h2 Tryz.underlying27
theorem Typs.len_le {w:World} {v:Value} {L:List (List UInt8)} (h:Typs w v L):L.length≤9223372036854775807:=by
 obtain ⟨vs,h1,h2,h3⟩:=h;exact Rd.len_le h2
theorem one_bytes:(Tryz.prog.info? 66).map (·.size)=some 1:=by kernel_rfl
theorem info_bytes:(Tryz.prog.info? 66).map (fun i=>(i.zero,i.size,i.bytes))=some (some (.slice none 0 0),1,24):=by kernel_rfl
theorem Typs.at_ {w:World} {v:Value} {L:List (List UInt8)} (h:Typs w v L) {k:Nat} (hk:k<L.length):
  ∃ad x l,(∀W,(Instr.indexAt 27 v (.int .i64 (k:Int))).run Tryz.prog W=.ok (.pointer (some ad)) W)∧w.cell? ad=some x∧Hid (L[k]?=some l)∧Hid (Byts w x l):=by
 obtain ⟨vs,h1,h2,h3⟩:=h;have hv:vs[k]?=some vs[k]:=List.getElem?_eq_getElem (by omega)
 have hl:L[k]?=some L[k]:=List.getElem?_eq_getElem hk;exact ⟨_,vs[k],L[k],fun W=>Rd.ixN h2 Tryz.underlying27 one_bytes hk W,by rw [Nat.mul_one];exact Rd.cell h2 hv,hD hl,hD (h3 k _ _ hv hl)⟩
theorem Byts.oneCell {w:World} {x:Value} {l:List UInt8} (h:Byts w x l):x.oneCell'=true:=by
 obtain ⟨A,c,rfl,_⟩:=h;rfl
theorem own_unlike {w:World} {b1 b2 e1 e2 s1 s2 n1 n2:Nat} {x a:Value} {xs ys:List Value} (hx:w.ownsRow b1 e1 s1 x n1 xs) (ha:w.ownsRow b2 e2 s2 a n2 ys) (h:e1≠e2):x.ownBlock=none∨x.ownBlock≠a.ownBlock:=by
 rcases hx.2 with ⟨rfl,_⟩ | ⟨g,cap,cur,rfl,_,hg,_⟩
 ·exact .inl rfl
 ·rcases ha.2 with ⟨rfl,_⟩ | ⟨g',cap',cur',rfl,_,hg',_⟩
  ·exact .inr (by simp [Value.ownBlock])
  ·refine .inr ?_;intro he;simp [Value.ownBlock] at he;subst he;rw [hg] at hg';injection hg' with hg'
   injection hg' with _ h2 _
   exact h h2
theorem OwnT.snoc {w w':World} {base n:Nat} {v v' x:Value} {L:List (List UInt8)} {l:List UInt8} {vs:List Value} (h1:vs.length=L.length) (ho0:w.ownsRow base 66 1 v L.length vs) (ho:w'.ownsRow base 66 1 v' n (vs++[x]))
  (h4:∀(i:Nat) x l,vs[i]?=some x→L[i]?=some l→OwnB w base 5 x l) (hx:OwnB w base 5 x l) (hg:w.grownBy w' v.ownBlock):OwnT w' base v' (L++[l]):=by
 have hn:n=(L++[l]).length:=by have:=ho.1;simp at this ⊢;omega
 subst hn;have keep:∀y m,OwnB w base 5 y m→OwnB w' base 5 y m:=fun y m hy=>World.ownsRow.kept hy hg (own_unlike hy ho0 (by decide))
 refine ⟨vs++[x],by simp [h1],ho,fun i y m hy hm=>?_⟩
 by_cases hi:i<vs.length
 ·rw [List.getElem?_append_left hi] at hy;rw [List.getElem?_append_left (by omega)] at hm;exact keep _ _ (h4 i y m hy hm)
 ·rw [List.getElem?_append_right (by omega)] at hy;rw [List.getElem?_append_right (by omega)] at hm;have h0:i-vs.length=0:=by
   rcases Nat.eq_zero_or_pos (i-vs.length) with h | h
   ·exact h
   ·rw [List.getElem?_eq_none (by simp;omega)] at hy;cases hy
  rw [h0] at hy;rw [←h1,h0] at hm;simp at hy hm;subst hy;subst hm;exact keep _ _ hx
theorem KTable_ok (v:Value) (l:List UInt64) (n:Nat) (hn:n≤8) (hs:SizeOk l.length) (L:List (List UInt8)) (r:Int) (hL:L=tabT l n) (hr:r=tabErr l n) (w:World) (h:Words w v l):
  Calls Tryz.prog 13 #[v,.int .i64 (n:Int)] w fun e w'=>∃x,e=.returned (.tuple #[x,.int .i64 r])∧OwnT w' w.heap.size x L∧Below w.heap.size w w':=by
 have B:=Below.refl w.heap.size w;have hbad:¬TysOk l n→L=[]∧r=50:=fun hno=>by
  have e:tabErr l n=50:=by rw [tabErr,if_pos hs,if_pos ⟨by omega,by omega⟩,if_neg (by simpa using hno)]
  exact ⟨by rw [hL,tabT,if_neg (by rw [e];omega)],by rw [hr,e]⟩
 have hgood:TysOk l n→L=tysTo l n∧r=0:=fun hyes=>by
  have e:tabErr l n=0:=by rw [tabErr,if_pos hs,if_pos ⟨by omega,by omega⟩,if_pos (by simpa using hyes)]
  exact ⟨by rw [hL,tabT,if_pos e];simp,by rw [hr,e]⟩
 have CT:=fun w h=>Check_any v l w h;rw [chk_ok hs] at CT;have hlen:=hs.1;have HC:=hD CT;have H:=hD h;have HBAD:=hD hbad;have HGOOD:=hD hgood;clear CT h hs hL hr hbad hgood;go_in;go_wp2_with fail;refine (HC.out _ (H.out.below B)).mono ?_;rintro e w2 ⟨rfl,rfl⟩
 go_wp2;have HB:=hD B;clear B
 go_loopw [7,24] (fun xv i wr=>∃k:Nat,k≤8∧i=.int .i64 k∧Hid (OwnT wr w.heap.size xv (tysTo l (min k n))∧∀i,i<k→TyOk l n i)∧Below w.heap.size w wr) (fun _ i _=>8-(intOf i).toNat)
 case atStart=>exact ⟨0,by omega,rfl,hD ⟨by rw [Nat.zero_min];exact OwnT.nil _ _,fun i hi=>by omega⟩,HB.out⟩
 case round=>
  obtain ⟨k,hk,rfl,hh,B⟩:=hrel;by_cases hlt:k<8
  ·obtain ⟨ad,a,ia,m0,ha⟩:=(H.out.below B).atI Tryz.underlying22 one_u64 (k:=96+2*(k:Int)) (by omega) (by omega)
   obtain ⟨bd,b,ib,m1,hb⟩:=(H.out.below B).atI Tryz.underlying22 one_u64 (k:=96+2*(k:Int)+1) (by omega) (by omega)
   have ea:ta l k=a:=ta_of (by have:=ha.out;rwa [show (96+2*(k:Int)).toNat=96+2*k by omega] at this)
   have eb:tb l k=b:=tb_of (by have:=hb.out;rwa [show (96+2*(k:Int)+1).toNat=97+2*k by omega] at this)
   have hw1:IntKind.i64.wrap (2*(k:Int))=2*(k:Int):=IntWalk.i64_in _ (by omega)
   have hw2:IntKind.i64.wrap (96+2*(k:Int))=96+2*(k:Int):=IntWalk.i64_in _ (by omega)
   have hw3:IntKind.i64.wrap (96+2*(k:Int)+1)=96+2*(k:Int)+1:=IntWalk.i64_in _ (by omega)
   have EA:=hD ea;have EB:=hD eb;clear ha hb ea eb;by_cases hkn:k<n
   ·have hmin:min k n=k:=by omega
    obtain ⟨f,hf⟩:=exq (rdL a b)
    obtain ⟨e,he⟩:=exq (rdE a b)
    have RT:=fun w=>KRead_any a b f e hf he w;have HRT:=hD RT;have HF:=hD hf;have HE:=hD he;have hcase:e=0∨(e != 0)=true:=by by_cases h:e=0;exact .inl h;exact .inr (by rw [bne_iff_ne];exact h)
    clear RT hf he;rcases hcase with rfl | hne
    ·go_wp2;refine wp_region_calm (by kernel_rfl) (by kernel_rfl) ?_;have c_m0:=fun x:Fut _=>cell_later x.h m0;have c_m1:=fun x:Fut _=>cell_later x.h m1;repeat (go_big_quiet_step (fail))
     refine wpQuiet_nil ?_;intro _ hw';obtain ⟨xq,hw''⟩:=hw';subst hw'';clear c_m0;replace m0:=cell_later xq.h m0;clear c_m1;replace m1:=cell_later xq.h m1;replace B:=B.trans (xq.h.mono B.size)
     clear hw1 hw2 hw3;have HHB:Hid (OwnT xq.W w.heap.size _ (tysTo l k)):=hD (by have:=hh.out.1.below xq.h;rwa [hmin] at this)
     go_wp2_with fail;have hzz:=B.size;refine (HRT.out _).mono ?_;rintro e w3 ⟨y,rfl,oy,bb⟩
     obtain ⟨yA,yc,rfl,_⟩:=OwnB.rd oy;obtain ⟨vs,z1,z2,z4⟩:=HHB.out.below bb;replace B:=B.trans (bb.mono B.size)
     have HY:=hD (own_mono oy (B':=w.heap.size) hzz);have HBB:=hD B;have Z1:=hD z1;have Z2:=hD z2;have Z4:=hD z4;clear bb oy B z1 z2 z4 m0 m1;have hlk:=tysTo_len l k;have HLK:=hD hlk;clear hlk;have hba:∀o,Below w3.heap.size w3 (w3.alloc o):=fun o=>(Below.refl _ _).alloc (Nat.le_refl _) o;have HBA:=hD hba;clear hba;go_wp2_with (at_builtin;refine wpList_append (by rfl) rfl rfl rfl Tryz.underlying27 info_bytes rfl (by omega) (by exact own_below Z2.out (HBA.out _)) (by exact lit_rd) (by intro u hu;simp at hu;subst hu;exact (OwnB.rd HY.out).oneCell) (by rw [HLK.out];omega) (by rw [HLK.out];omega) (by exact HBB.out.alloc HBB.out.size _) (Nat.le_refl _) ?_;intro v1 w4 o4 B4 g4;have T4:=hD (OwnT.snoc Z1.out (own_below Z2.out (HBA.out _)) o4 (fun i x l h5 h6=>(Z4.out i x l h5 h6).below (HBA.out _)) (OwnB.below HY.out (HBA.out _)) g4);have HB4:=hD B4;clear o4 B4 g4)
     go_roundw
     case rel=>
      refine ⟨k+1,by omega,by go_num,hD ⟨?_,?_⟩,HB4.out⟩
      ·rw [show min (k+1) n=k+1 by omega,tysTo_succ,EA.out,EB.out,←HF.out];exact T4.out
      ·intro i hi;by_cases hik:i<k
       ·exact hh.out.2 i hik
       ·obtain rfl:i=k:=by omega
        rw [TyOk,if_pos hkn,EA.out,EB.out];exact rdE_ok.1 HE.out.symm
     case measure=>simp [intOf];omega
    ·have hno:¬TysOk l n:=fun hall=>by
      have:=hall k hlt;rw [TyOk,if_pos hkn,EA.out,EB.out,←rdE_ok,←HE.out] at this;rw [this] at hne;simp at hne
     obtain ⟨rfl,rfl⟩:=HBAD.out hno;have hfe:e=50:=by
      have h1:=HE.out;unfold rdE at h1;split at h1
      ·rw [h1] at hne;simp at hne
      ·exact h1
     subst hfe;clear hno hne;go_wp2;refine wp_region_calm (by kernel_rfl) (by kernel_rfl) ?_;have c_m0:=fun x:Fut _=>cell_later x.h m0;have c_m1:=fun x:Fut _=>cell_later x.h m1;repeat (go_big_quiet_step (fail))
     refine wpQuiet_nil ?_;intro _ hw';obtain ⟨xq,hw''⟩:=hw';subst hw'';clear c_m0;replace m0:=cell_later xq.h m0;clear c_m1;replace m1:=cell_later xq.h m1;replace B:=B.trans (xq.h.mono B.size)
     clear hw1 hw2 hw3;go_wp2_with fail;refine (HRT.out _).mono ?_;rintro e w3 ⟨y,rfl,oy,bb⟩
     replace B:=B.trans (bb.mono B.size);clear bb oy m0 m1;go_wp2
     go_ret2
     exact ⟨_,rfl,OwnT.nil _ _,B⟩
   ·have hmin:min k n=n:=by omega
    have hmin2:min (k+1) n=n:=by omega
    have HM:=hD (And.intro hmin hmin2);clear hmin hmin2;have hcase:((a.toNat:Int) != 0)=true∨((a.toNat:Int) != 0)=false∧(((b.toNat:Int) != 0)=true∨((b.toNat:Int) != 0)=false):=by
     cases ((a.toNat:Int) != 0) <;> cases ((b.toNat:Int) != 0) <;> simp
    have hz:∀x:UInt64,((x.toNat:Int) != 0)=false→x=0:=fun x h=>by
     rw [bne_eq_false_iff_eq] at h;exact UInt64.toNat_inj.1 (by simpa using (by omega:x.toNat=0))
    have hz':∀x:UInt64,((x.toNat:Int) != 0)=true→x≠0:=fun x h h2=>by
     rw [h2] at h;simp at h
    have HZ:=hD hz;have HZ':=hD hz';clear hz hz';rcases hcase with h1 | ⟨h1,h2 | h2⟩
    ·have hno:¬TysOk l n:=fun hall=>by
      have:=hall k hlt;rw [TyOk,if_neg hkn,EA.out,EB.out] at this;exact HZ'.out a h1 this.1
     obtain ⟨rfl,rfl⟩:=HBAD.out hno;clear hno;go_wp2;refine wp_region_calm (by kernel_rfl) (by kernel_rfl) ?_;have c_m0:=fun x:Fut _=>cell_later x.h m0;have c_m1:=fun x:Fut _=>cell_later x.h m1;repeat (go_big_quiet_step (fail))
     refine wpQuiet_nil ?_;intro _ hw';obtain ⟨xq,hw''⟩:=hw';subst hw'';clear c_m0;replace m0:=cell_later xq.h m0;clear c_m1;replace m1:=cell_later xq.h m1;replace B:=B.trans (xq.h.mono B.size)
     clear hw1 hw2 hw3;go_wp2
     go_ret2
     exact ⟨_,rfl,OwnT.nil _ _,B⟩
    ·have hno:¬TysOk l n:=fun hall=>by
      have:=hall k hlt;rw [TyOk,if_neg hkn,EA.out,EB.out] at this;exact HZ'.out b h2 this.2
     obtain ⟨rfl,rfl⟩:=HBAD.out hno;clear hno;go_wp2;refine wp_region_calm (by kernel_rfl) (by kernel_rfl) ?_;have c_m0:=fun x:Fut _=>cell_later x.h m0;have c_m1:=fun x:Fut _=>cell_later x.h m1;repeat (go_big_quiet_step (fail))
     refine wpQuiet_nil ?_;intro _ hw';obtain ⟨xq,hw''⟩:=hw';subst hw'';clear c_m0;replace m0:=cell_later xq.h m0;clear c_m1;replace m1:=cell_later xq.h m1;replace B:=B.trans (xq.h.mono B.size)
     clear hw1 hw2 hw3;go_wp2
     go_ret2
     exact ⟨_,rfl,OwnT.nil _ _,B⟩
    ·have e1:=HZ.out a h1;have e2:=HZ.out b h2;have HE12:=hD (And.intro e1 e2)
     clear e1 e2;go_wp2;refine wp_region_calm (by kernel_rfl) (by kernel_rfl) ?_;have c_m0:=fun x:Fut _=>cell_later x.h m0;have c_m1:=fun x:Fut _=>cell_later x.h m1;repeat (go_big_quiet_step (fail))
     refine wpQuiet_nil ?_;intro _ hw';obtain ⟨xq,hw''⟩:=hw';subst hw'';clear c_m0;replace m0:=cell_later xq.h m0;clear c_m1;replace m1:=cell_later xq.h m1;replace B:=B.trans (xq.h.mono B.size)
     clear hw1 hw2 hw3;go_wp2;have HBB:=hD B;have HX:=hD (hh.out.1.below xq.h)
     go_roundw
     case rel=>
      refine ⟨k+1,by omega,by go_num,hD ⟨?_,?_⟩,HBB.out⟩
      ·have:=HX.out;rw [HM.out.1] at this;rw [HM.out.2];exact this
      ·intro i hi;by_cases hik:i<k
       ·exact hh.out.2 i hik
       ·obtain rfl:i=k:=by omega
        rw [TyOk,if_neg hkn,EA.out,EB.out];exact HE12.out
     case measure=>simp [intOf];omega
  ·obtain rfl:k=8:=by omega
   obtain ⟨rfl,rfl⟩:=HGOOD.out (fun i hi=>hh.out.2 i hi)
   have HX:=hD hh.out.1;go_wp2
   go_ret2
   exact ⟨_,rfl,by have:=HX.out;rwa [show min 8 n=n by omega] at this,B⟩
end
section
open Go.RowKit L02 L05 L13
theorem KTable_any (v:Value) (l:List UInt64) (n:Int) (L:List (List UInt8)) (r:Int) (hL:L=tabT l n) (hr:r=tabErr l n) (w:World) (h:Words w v l):
  Calls Tryz.prog 13 #[v,.int .i64 n] w fun e w'=>∃x,e=.returned (.tuple #[x,.int .i64 r])∧OwnT w' w.heap.size x L∧Below w.heap.size w w':=by
 by_cases hs:SizeOk l.length
 ·by_cases hn:0≤n∧n≤8
  ·obtain ⟨k,rfl⟩:=Int.eq_ofNat_of_zero_le hn.1;exact KTable_ok v l k (by omega) hs L r hL hr w h
  ·have e:tabErr l n=2:=by rw [tabErr,if_pos hs,if_neg hn]
   have hL0:L=[]:=by rw [hL,tabT,if_neg (by rw [e];omega)]
   rw [e] at hr;subst hL0 hr;have B:=Below.refl w.heap.size w;have CT:=fun w h=>Check_any v l w h;rw [chk_ok hs] at CT;have HC:=hD CT;have H:=hD h;have hcase:n<0∨0≤n∧8<n:=by omega
   clear CT h hs hL e hn;rcases hcase with h1 | ⟨h1,h2⟩
   all_goals
    go_in;go_wp2_with fail;refine (HC.out _ H.out).mono ?_;rintro e w2 ⟨rfl,rfl⟩
    go_wp2
    go_ret2
    exact ⟨_,rfl,OwnT.nil _ _,B⟩
 ·have e:tabErr l n=8:=by rw [tabErr,if_neg hs]
  have hL0:L=[]:=by rw [hL,tabT,if_neg (by rw [e];omega)]
  rw [e] at hr;subst hL0 hr;have B:=Below.refl w.heap.size w;have CT:=fun w h=>Check_any v l w h;rw [chk_no hs] at CT;have HC:=hD CT;have H:=hD h;clear CT h hs hL e;go_in;go_wp2_with fail;refine (HC.out _ H.out).mono ?_;rintro e w2 ⟨rfl,rfl⟩
  go_wp2
  go_ret2
  exact ⟨_,rfl,OwnT.nil _ _,B⟩
theorem SameT_any (va vb:Value) (La Lb:List (List UInt8)) (r:Bool) (hr:r=decide (La=Lb)) (w:World) (ha:Typs w va La) (hb:Typs w vb Lb):
  Calls Tryz.prog 43 #[va,vb] w fun e w'=>e=.returned (.bool r)∧Below w.heap.size w w':=by
 have B:=Below.refl w.heap.size w;have la1:=ha.len;have lb1:=hb.len;have la2:=ha.len_le;have lb2:=hb.len_le;have HA:=hD ha;have HB:=hD hb;have HR:=hD hr;clear ha hb hr;obtain ⟨na,hna⟩:=exq La.length;obtain ⟨nb,hnb⟩:=exq Lb.length;rw [←hna] at la1 la2;rw [←hnb] at lb1 lb2;have Hna:=hD hna;have Hnb:=hD hnb;clear hna hnb;by_cases hl:na=nb
 ·subst hl;go_in;go_wp2;have HBB:=hD B;clear B
  go_loopw [5] (fun i wr=>∃k:Nat,k≤na∧i=.int .i64 k∧Hid (La.take k=Lb.take k)∧Below w.heap.size w wr) (fun i _=>na-(intOf i).toNat)
  case atStart=>exact ⟨0,Nat.zero_le _,rfl,hD rfl,HBB.out⟩
  case round=>
   obtain ⟨k,hk,rfl,heq,B⟩:=hrel;by_cases hlt:k<na
   ·obtain ⟨ad,x,s,ia,m0,hs,hx⟩:=(HA.out.below B).at_ (k:=k) (by have:=Hna.out;omega)
    obtain ⟨bd,y,t,ib,m1,ht,hy⟩:=(HB.out.below B).at_ (k:=k) (by have:=Hnb.out;omega)
    have sx:=fun z:Fut wr=>(hx.out.below z.h).str (P:=Tryz.prog) (dst:=9) Tryz.underlying66 Tryz.underlying5 Tryz.underlying9;have sy:=fun z:Fut wr=>(hy.out.below z.h).str (P:=Tryz.prog) (dst:=9) Tryz.underlying66 Tryz.underlying5 Tryz.underlying9;obtain ⟨c,hc⟩:=exq (decide (s=t))
    have hst:(s==t)=c:=by rw [hc,Bool.eq_iff_iff,beq_iff_eq,decide_eq_true_iff]
    have HC:=hD hc;clear hc;cases c
    ·go_wp2;refine wp_region_calm (by kernel_rfl) (by kernel_rfl) ?_;have c_m0:=fun x:Fut _=>cell_later x.h m0;have c_m1:=fun x:Fut _=>cell_later x.h m1;repeat (go_big_quiet_step (fail))
     refine wpQuiet_nil ?_;intro _ hw';obtain ⟨xq,hw''⟩:=hw';subst hw'';clear c_m0;replace m0:=cell_later xq.h m0;clear c_m1;replace m1:=cell_later xq.h m1;replace B:=B.trans (xq.h.mono B.size)
     clear sx sy hst;go_wp2
     go_ret
     refine ⟨ret_bool ?_,B⟩
     have e:¬s=t:=by have:=HC.out;simpa using this
     rw [HR.out,eq_comm,decide_eq_false_iff_not]
     intro hab;have h1:=hs.out;have h2:=ht.out;rw [hab,h2] at h1;injection h1 with h1
     exact e h1.symm
    ·go_wp2;refine wp_region_calm (by kernel_rfl) (by kernel_rfl) ?_;have c_m0:=fun x:Fut _=>cell_later x.h m0;have c_m1:=fun x:Fut _=>cell_later x.h m1;repeat (go_big_quiet_step (fail))
     refine wpQuiet_nil ?_;intro _ hw';obtain ⟨xq,hw''⟩:=hw';subst hw'';clear c_m0;replace m0:=cell_later xq.h m0;clear c_m1;replace m1:=cell_later xq.h m1;replace B:=B.trans (xq.h.mono B.size)
     clear sx sy hst;go_wp2
     go_roundw
     case rel=>
      have e:s=t:=by have:=HC.out;simpa using this
      refine ⟨k+1,by omega,by go_num,hD ?_,B⟩
      rw [List.take_add_one,List.take_add_one,heq.out,hs.out,ht.out,e]
     case measure=>simp [intOf];omega
   ·obtain rfl:k=na:=by omega
    go_wp2
    go_ret
    refine ⟨ret_bool ?_,B⟩
    have h1:=heq.out;rw [List.take_of_length_le (by have:=Hna.out;omega),List.take_of_length_le (by have:=Hnb.out;omega)] at h1;rw [HR.out,h1,decide_eq_true rfl]
 ·have hl':((na:Int) != nb)=true:=by rw [bne_iff_ne];omega
  go_in;go_wp2
  go_ret
  refine ⟨ret_bool ?_,B⟩
  rw [HR.out,eq_comm,decide_eq_false_iff_not]
  intro hab;have h1:=Hna.out;have h2:=Hnb.out;rw [hab] at h1;omega
end
end Go.Proofs.YteejianjjpdimaaGreat

namespace Go.Proofs.YteejianjjpdimaaGreat.L18
open L02
structure Sl where
 gen:Int
 used:Bool
 at_:Int
deriving DecidableEq
def Sl.none:Sl:=⟨0,false,0⟩
def Right (s:Sl):Prop:=0≤s.gen∧s.gen≤2147483647∧(s.used=false→s.at_=0)∧(s.used=true→0<s.gen∧128≤s.at_∧s.at_<2048)
instance (s:Sl):Decidable (Right s):=inferInstanceAs (Decidable (0≤s.gen∧s.gen≤2147483647∧(s.used=false→s.at_=0)∧(s.used=true→0<s.gen∧128≤s.at_∧s.at_<2048)))
def pkN (s:Sl):Nat:=s.at_.toNat+s.gen.toNat*4294967296+(if s.used then 9223372036854775808 else 0)
def pk (s:Sl):UInt64:=UInt64.ofNat (pkN s)
def spl (w:UInt64):Sl:=⟨(w.toNat / 4294967296 % 2147483648:Nat),decide (w.toNat / 9223372036854775808=1),(w.toNat % 4294967296:Nat)⟩
def word (s:Sl):UInt64:=if Right s then pk s else 0
def splErr (w:UInt64):Int:=if Right (spl w) then 0 else 50
def spl0 (w:UInt64):Sl:=if Right (spl w) then spl w else .none
def ws (l:List UInt64):List UInt64:=(l.drop 112).take 16
def slots (l:List UInt64):List Sl:=(ws l).map spl
def AllR (l:List UInt64):Prop:=∀x∈ws l,Right (spl x)
instance (l:List UInt64):Decidable (AllR l):=inferInstanceAs (Decidable (∀x∈ws l,Right (spl x)))
def openErr (l:List UInt64):Int:=if SizeOk l.length then (if AllR l then 0 else 50) else 8
def all (l:List UInt64):List Sl:=if openErr l=0 then slots l else []
def rightErr (L:List Sl) (s g:Int):Int:=if 0≤s∧s<L.length then (if (L.getD s.toNat .none).used=true∧(L.getD s.toNat .none).gen=g then 0 else 28) else 2
def resErr (l:List UInt64) (s g:Int):Int:=if openErr l=0 then rightErr (slots l) s g else openErr l
def res (l:List UInt64) (s g:Int):Int:=if resErr l s g=0 then ((slots l).getD s.toNat .none).at_ else 0
def nextFrom:List Sl→Nat→Option Nat
 | [],_=>none
 | s :: L,k=>if s.used=false∧s.gen≠2147483647 then some k else nextFrom L (k+1)
def next (L:List Sl):Option Nat:=nextFrom L 0
def newErr (l:List UInt64) (a:Int):Int:=if openErr l=0 then (if 128≤a∧a<2048 then (if next (slots l)=none then 23 else 0) else 2) else openErr l
def newSlot (l:List UInt64) (a:Int):Int:=if newErr l a=0 then ((next (slots l)).getD 0:Nat) else 0
def newGen (l:List UInt64) (a:Int):Int:=if newErr l a=0 then ((slots l).getD ((next (slots l)).getD 0) .none).gen+1 else 0
def newAt (l:List UInt64) (a:Int):Int:=if newErr l a=0 then 112+((next (slots l)).getD 0:Nat) else 0
def newVal (l:List UInt64) (a:Int):UInt64:=if newErr l a=0 then pk ⟨newGen l a,true,a⟩ else 0
def dropAt (l:List UInt64) (s g:Int):Int:=if resErr l s g=0 then 112+s else 0
def dropVal (l:List UInt64) (s g:Int):UInt64:=if resErr l s g=0 then pk ⟨g,false,0⟩ else 0
theorem pkN_t {s:Sl} (hu:s.used=true):pkN s=s.at_.toNat+s.gen.toNat*4294967296+9223372036854775808:=by rw [pkN,hu];rfl
theorem pkN_f {s:Sl} (h:Right s) (hu:s.used=false):pkN s=s.gen.toNat*4294967296:=by
 have:=h.2.2.1 hu;rw [pkN,hu,this];simp
theorem pkN_lt {s:Sl} (h:Right s):pkN s<18446744073709551616:=by
 have h1:=h.1;have h2:=h.2.1;cases hu:s.used
 ·rw [pkN_f h hu];omega
 ·have h4:=h.2.2.2 hu;rw [pkN_t hu];omega
theorem pk_nat {s:Sl} (h:Right s):(pk s).toNat=pkN s:=by
 unfold pk;rw [UInt64.toNat_ofNat']
 exact Nat.mod_eq_of_lt (pkN_lt h)
theorem spl_pk {s:Sl} (h:Right s):spl (pk s)=s:=by
 have hn:=pk_nat h;obtain ⟨g,u,a⟩:=s;have h1:0≤g:=h.1;have h2:g≤2147483647:=h.2.1;unfold spl;rw [hn]
 cases hu:u
 ·have h3:a=0:=h.2.2.1 hu;rw [pkN_f (by rw [←hu];exact h) rfl]
  subst h3 hu;have e1:decide (g.toNat*4294967296 / 9223372036854775808=1)=false:=by rw [decide_eq_false_iff_not];omega
  simp only [e1,Sl.mk.injEq,true_and,and_true]
  exact ⟨by omega,by omega⟩
 ·have h4:0<g∧128≤a∧a<2048:=h.2.2.2 hu;rw [pkN_t rfl]
  subst hu;have e1:decide ((a.toNat+g.toNat*4294967296+9223372036854775808) / 9223372036854775808=1)=true:=by rw [decide_eq_true_iff];omega
  simp only [e1,Sl.mk.injEq,true_and,and_true]
  exact ⟨by omega,by omega⟩
end Go.Proofs.YteejianjjpdimaaGreat.L18
namespace Go.Proofs.YteejianjjpdimaaGreat.L01
def val (w f k:Nat):Nat:=w / 2 ^ f % 2 ^ k
end Go.Proofs.YteejianjjpdimaaGreat.L01
namespace Go.Proofs.YteejianjjpdimaaGreat
section
open Go.RowKit L01
end
section
open Go.RowKit L01 L02 L18
def slV (s:Sl):Value:=.agg #[.int .i64 s.gen,.bool s.used,.int .i64 s.at_]
theorem right_any (s:Sl) (b:Bool) (hb:b=decide (Right s)) (w:World):Calls Tryz.prog 105 #[.agg #[.int .i64 s.gen,.bool s.used,.int .i64 s.at_]] w fun e w'=>e=.returned (.bool b)∧Below w.heap.size w w':=by
 have HB:=hD hb;clear hb;obtain ⟨g,u,a⟩:=s;dsimp only at *;cases u;all_goals
  go_in;go_wp2;all_goals
   go_ret
   refine ⟨ret_bool ?_,(Below.refl _ _).alloc (Nat.le_refl _) _⟩
   rw [HB.out]
   exact bool_dec (by simp [Right];try omega)
theorem pack_any (s:Sl) (x:UInt64) (hx:x=pk s) (hs:Right s) (w:World):Calls Tryz.prog 94 #[.agg #[.int .i64 s.gen,.bool s.used,.int .i64 s.at_]] w fun e w'=>e=.returned (.int .u64 x.toNat)∧Below w.heap.size w w':=by
 have hn:=pk_nat hs;rw [←hx] at hn;obtain ⟨h1,h2,h3,h4⟩:=hs;clear hx;obtain ⟨g,u,a⟩:=s;dsimp only at *;cases u
 ·have h5:=h3 rfl;subst h5;have e1:=or_int (a:=0) (b:=g*4294967296) 32 g.toNat (by omega) (by decide) (by omega) (by omega) (by omega)
  rw [pkN_f ⟨h1,h2,h3,h4⟩ rfl] at hn;have HN:=hD hn;clear hn h3 h4;go_in;go_wp2
  go_ret
  exact ⟨ret_int (by have:=HN.out;omega),(Below.refl _ _).alloc (Nat.le_refl _) _⟩
 ·obtain ⟨h5,h6,h7⟩:=h4 rfl;have e1:=or_int (a:=a) (b:=g*4294967296) 32 g.toNat (by omega) (by simp;omega) (by omega) (by omega) (by omega)
  have e2:=or_int (a:=a+g*4294967296) (b:=9223372036854775808) 63 1 (by omega) (by simp;omega) (by decide) (by omega) (by omega)
  rw [pkN_t rfl] at hn;have HN:=hD hn;clear hn h3 h4;go_in;go_wp2
  go_ret
  exact ⟨ret_int (by have:=HN.out;omega),(Below.refl _ _).alloc (Nat.le_refl _) _⟩
end
section
open Go.RowKit L01 L02 L18
theorem spl_int (x:UInt64) (s:Sl) (h:s=spl x):(x.toNat:Int) / 4294967296 % 2147483648=s.gen∧((x.toNat:Int) / 9223372036854775808==1)=s.used∧(x.toNat:Int) % 4294967296=s.at_:=by
 subst h;refine ⟨?_,?_,?_⟩
 ·show _=((x.toNat / 4294967296 % 2147483648:Nat):Int);omega
 ·show _=decide (x.toNat / 9223372036854775808=1)
  rw [Bool.eq_iff_iff,beq_iff_eq,decide_eq_true_iff];omega
 ·show _=((x.toNat % 4294967296:Nat):Int);omega
theorem Split_any (x:UInt64) (w:World):Calls Tryz.prog 92 #[.int .u64 x.toNat] w fun e w'=>e=.returned (.tuple #[slV (spl0 x),.int .i64 (splErr x)])∧Below w.heap.size w w':=by
 have B:=Below.refl w.heap.size w;have hxl:=toNat_lt x;obtain ⟨s,hs⟩:=exq (spl x)
 obtain ⟨i1,i2,i3⟩:=spl_int x s hs;have e1:=and_int (a:=(x.toNat:Int) / 4294967296) 31 (by omega) (by omega) 2147483647 (by decide) (by omega)
 have e2:=and_int (a:=(x.toNat:Int)) 32 (by omega) (by omega) 4294967295 (by decide) (by omega)
 rw [show ((2 ^ 31:Nat):Int)=2147483648 from rfl,i1] at e1;rw [show ((2 ^ 32:Nat):Int)=4294967296 from rfl,i3] at e2;have b1:0≤s.gen∧s.gen≤2147483647:=by omega
 have b3:0≤s.at_∧s.at_≤4294967295:=by omega
 clear i1 i3;by_cases hr:Right s
 ·have k0:spl0 x=s:=by rw [spl0,←hs,if_pos hr]
  have k1:splErr x=0:=by rw [splErr,←hs,if_pos hr]
  have RT:=fun w=>right_any s true (decide_eq_true hr).symm w;rw [k0,k1]
  have RT:=hD RT;clear hs hr k0 k1;obtain ⟨g,u,a⟩:=s;dsimp only at *;obtain ⟨b1,b2⟩:=b1;obtain ⟨b3,b4⟩:=b3;unfold slV;go_in;go_wp2_with fail;refine clb11 (37) (#[.int .i64 0,.bool false,.int .i64 0]) (37) (#[.int .i64 g,.bool u,.int .i64 a]) ?_;rintro w' ⟨g0,g1,b⟩
  replace B:=B.trans (b.mono B.size);clear b;replace c_g0:=g0.five;replace c_g1:=g1.five;go_wp2_with fail;refine (RT.out _).mono ?_;rintro e w' ⟨rfl,b⟩
  replace g0:=g0.below b;replace c_g0:=g0.five;replace g1:=g1.below b;replace c_g1:=g1.five;replace B:=B.trans (b.mono B.size);clear b;go_wp2;refine bodyPost_ret (v:=.tuple #[.agg #[.int .i64 g,.bool u,.int .i64 a],.int .i64 0]) (by simp [results,Tryz.results92,go_sem,c_g0,c_g1]) rfl ?_;refine ⟨rfl,?_⟩
  exact bdn
 ·have k0:spl0 x=.none:=by rw [spl0,←hs,if_neg hr]
  have k1:splErr x=50:=by rw [splErr,←hs,if_neg hr]
  have RT:=fun w=>right_any s false (decide_eq_false hr).symm w;rw [k0,k1]
  have RT:=hD RT;clear hs hr k0 k1;obtain ⟨g,u,a⟩:=s;dsimp only at *;obtain ⟨b1,b2⟩:=b1;obtain ⟨b3,b4⟩:=b3;unfold slV Sl.none;dsimp only;go_in;go_wp2_with fail;refine clb11 (37) (#[.int .i64 0,.bool false,.int .i64 0]) (37) (#[.int .i64 g,.bool u,.int .i64 a]) ?_;rintro w' ⟨g0,g1,b⟩
  replace B:=B.trans (b.mono B.size);clear b;replace c_g0:=g0.five;replace c_g1:=g1.five;go_wp2_with fail;refine (RT.out _).mono ?_;rintro e w' ⟨rfl,b⟩
  replace g0:=g0.below b;replace c_g0:=g0.five;replace g1:=g1.below b;replace c_g1:=g1.five;replace B:=B.trans (b.mono B.size);clear b;go_wp2;refine bodyPost_ret (v:=.tuple #[.agg #[.int .i64 0,.bool false,.int .i64 0],.int .i64 50]) (by simp [results,Tryz.results92,go_sem,c_g0,c_g1]) rfl ?_;refine ⟨rfl,?_⟩
  exact bdn
theorem Split_r (x:UInt64) (s:Sl) (r:Int) (hx:s=spl0 x) (hr:r=splErr x) (w:World):Calls Tryz.prog 92 #[.int .u64 x.toNat] w fun e w'=>e=.returned (.tuple #[.agg #[.int .i64 s.gen,.bool s.used,.int .i64 s.at_],.int .i64 r])∧Below w.heap.size w w':=by
 subst hx hr;exact Split_any x w
theorem slot_neq (s t:Sl) (b:Bool) (hb:b=!decide (s=t)) (W:World):(binOp .neq 37 (.agg #[.int .i64 s.gen,.bool s.used,.int .i64 s.at_]) (.agg #[.int .i64 t.gen,.bool t.used,.int .i64 t.at_])).run Tryz.prog W=.ok (.bool b) W:=by
 subst hb;obtain ⟨g,u,a⟩:=s;obtain ⟨g',u',a'⟩:=t;have e:decide ((⟨g,u,a⟩:Sl)=⟨g',u',a'⟩)=(g==g' && (u==u' && a==a')):=by
  rw [Bool.eq_iff_iff];simp
 rw [e]
 cases h:(g==g') <;> cases h2:(u==u') <;> cases h3:(a==a') <;> simp [go_sem,h,h2,h3]
end
end Go.Proofs.YteejianjjpdimaaGreat
