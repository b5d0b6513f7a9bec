
/- How the model's unsigned numbers compute, said of bit vectors; bytes and words; each under the conditions that it names. -/
import Derived.WalkKit
namespace Go.Bv
theorem ofInt_toNat {w : Nat} (z : BitVec w) : BitVec.ofInt w (z.toNat : Int) = z := by
  apply BitVec.eq_of_toNat_eq
  rw [BitVec.toNat_ofInt, ← Int.natCast_emod, Nat.mod_eq_of_lt z.isLt]
  simp
theorem wrap_nat8 (n : Nat) : IntKind.u8.wrap (n : Int) = ((n % 2 ^ 8 : Nat) : Int) := by rw [IntKind.wrap_u8]; omega
theorem wrap_nat32 (n : Nat) : IntKind.u32.wrap (n : Int) = ((n % 2 ^ 32 : Nat) : Int) := by rw [IntKind.wrap_u32]; omega
theorem wrap_nat64 (n : Nat) : IntKind.u64.wrap (n : Int) = ((n % 2 ^ 64 : Nat) : Int) := by rw [IntKind.wrap_u64]; omega
section
variable (x y : BitVec 8)
theorem and8 : bits .and .u8 (x.toNat : Int) (y.toNat : Int) = ((x &&& y).toNat : Int) := by
  show IntKind.u8.wrap ((BitVec.ofInt 8 (x.toNat : Int) &&& BitVec.ofInt 8 (y.toNat : Int)).toNat : Int) = _
  rw [ofInt_toNat, ofInt_toNat, wrap_nat8, Nat.mod_eq_of_lt (BitVec.isLt _)]
theorem or8 : bits .or .u8 (x.toNat : Int) (y.toNat : Int) = ((x ||| y).toNat : Int) := by
  show IntKind.u8.wrap ((BitVec.ofInt 8 (x.toNat : Int) ||| BitVec.ofInt 8 (y.toNat : Int)).toNat : Int) = _
  rw [ofInt_toNat, ofInt_toNat, wrap_nat8, Nat.mod_eq_of_lt (BitVec.isLt _)]
theorem xor8 : bits .xor .u8 (x.toNat : Int) (y.toNat : Int) = ((x ^^^ y).toNat : Int) := by
  show IntKind.u8.wrap ((BitVec.ofInt 8 (x.toNat : Int) ^^^ BitVec.ofInt 8 (y.toNat : Int)).toNat : Int) = _
  rw [ofInt_toNat, ofInt_toNat, wrap_nat8, Nat.mod_eq_of_lt (BitVec.isLt _)]
end
section
variable (x y : BitVec 32)
theorem and32 : bits .and .u32 (x.toNat : Int) (y.toNat : Int) = ((x &&& y).toNat : Int) := by
  show IntKind.u32.wrap ((BitVec.ofInt 32 (x.toNat : Int) &&& BitVec.ofInt 32 (y.toNat : Int)).toNat : Int) = _
  rw [ofInt_toNat, ofInt_toNat, wrap_nat32, Nat.mod_eq_of_lt (BitVec.isLt _)]
theorem or32 : bits .or .u32 (x.toNat : Int) (y.toNat : Int) = ((x ||| y).toNat : Int) := by
  show IntKind.u32.wrap ((BitVec.ofInt 32 (x.toNat : Int) ||| BitVec.ofInt 32 (y.toNat : Int)).toNat : Int) = _
  rw [ofInt_toNat, ofInt_toNat, wrap_nat32, Nat.mod_eq_of_lt (BitVec.isLt _)]
theorem xor32 : bits .xor .u32 (x.toNat : Int) (y.toNat : Int) = ((x ^^^ y).toNat : Int) := by
  show IntKind.u32.wrap ((BitVec.ofInt 32 (x.toNat : Int) ^^^ BitVec.ofInt 32 (y.toNat : Int)).toNat : Int) = _
  rw [ofInt_toNat, ofInt_toNat, wrap_nat32, Nat.mod_eq_of_lt (BitVec.isLt _)]
theorem add32 : ((x.toNat : Int) + (y.toNat : Int)) % 4294967296 = ((x + y).toNat : Int) := by
  rw [BitVec.toNat_add]; omega
theorem shl32 (n : Nat) : ((x.toNat : Int) * 2 ^ n) % 4294967296 = ((x <<< n).toNat : Int) := by
  rw [BitVec.toNat_shiftLeft, Nat.shiftLeft_eq]; simp
end
section
variable (x y : BitVec 64)
theorem and64 : bits .and .u64 (x.toNat : Int) (y.toNat : Int) = ((x &&& y).toNat : Int) := by
  show IntKind.u64.wrap ((BitVec.ofInt 64 (x.toNat : Int) &&& BitVec.ofInt 64 (y.toNat : Int)).toNat : Int) = _
  rw [ofInt_toNat, ofInt_toNat, wrap_nat64, Nat.mod_eq_of_lt (BitVec.isLt _)]
theorem or64 : bits .or .u64 (x.toNat : Int) (y.toNat : Int) = ((x ||| y).toNat : Int) := by
  show IntKind.u64.wrap ((BitVec.ofInt 64 (x.toNat : Int) ||| BitVec.ofInt 64 (y.toNat : Int)).toNat : Int) = _
  rw [ofInt_toNat, ofInt_toNat, wrap_nat64, Nat.mod_eq_of_lt (BitVec.isLt _)]
theorem xor64 : bits .xor .u64 (x.toNat : Int) (y.toNat : Int) = ((x ^^^ y).toNat : Int) := by
  show IntKind.u64.wrap ((BitVec.ofInt 64 (x.toNat : Int) ^^^ BitVec.ofInt 64 (y.toNat : Int)).toNat : Int) = _
  rw [ofInt_toNat, ofInt_toNat, wrap_nat64, Nat.mod_eq_of_lt (BitVec.isLt _)]
theorem add64 : ((x.toNat : Int) + (y.toNat : Int)) % 18446744073709551616 = ((x + y).toNat : Int) := by
  rw [BitVec.toNat_add]; omega
theorem shl64 (n : Nat) : ((x.toNat : Int) * 2 ^ n) % 18446744073709551616 = ((x <<< n).toNat : Int) := by
  rw [BitVec.toNat_shiftLeft, Nat.shiftLeft_eq]; simp
end
theorem shr {w : Nat} (x : BitVec w) (n : Nat) : (x.toNat : Int) / 2 ^ n = ((x >>> n).toNat : Int) := by
  rw [BitVec.toNat_ushiftRight, Nat.shiftRight_eq_div_pow]; simp
theorem wide32 (b : BitVec 8) : (b.toNat : Int) = ((b.setWidth 32).toNat : Int) := by
  rw [BitVec.toNat_setWidth, Nat.mod_eq_of_lt (by have := b.isLt; omega)]
theorem wide64 (b : BitVec 8) : (b.toNat : Int) = ((b.setWidth 64).toNat : Int) := by
  rw [BitVec.toNat_setWidth, Nat.mod_eq_of_lt (by have := b.isLt; omega)]
theorem low8 {w : Nat} (x : BitVec w) : (x.toNat : Int) % 256 = ((x.setWidth 8).toNat : Int) := by
  rw [BitVec.toNat_setWidth]; simp
/-- The numbers that bit vectors stand for, under names that the walk does not open. -/
def v8 (x : BitVec 8) : Int := x.toNat
def v32 (x : BitVec 32) : Int := x.toNat
def v64 (x : BitVec 64) : Int := x.toNat
theorem v8_bd (x : BitVec 8) : 0 ≤ v8 x ∧ v8 x < 256 := by have := x.isLt; unfold v8; omega
theorem v32_bd (x : BitVec 32) : 0 ≤ v32 x ∧ v32 x < 4294967296 := by have := x.isLt; unfold v32; omega
theorem v64_bd (x : BitVec 64) : 0 ≤ v64 x ∧ v64 x < 18446744073709551616 := by have := x.isLt; unfold v64; omega
theorem v8_inj {x y : BitVec 8} (h : v8 x = v8 y) : x = y := by unfold v8 at h; exact BitVec.eq_of_toNat_eq (by omega)
theorem v32_inj {x y : BitVec 32} (h : v32 x = v32 y) : x = y := by unfold v32 at h; exact BitVec.eq_of_toNat_eq (by omega)
theorem v64_inj {x y : BitVec 64} (h : v64 x = v64 y) : x = y := by unfold v64 at h; exact BitVec.eq_of_toNat_eq (by omega)
theorem vxor8 (x y : BitVec 8) : bits .xor .u8 (v8 x) (v8 y) = v8 (x ^^^ y) := xor8 x y
theorem vor8 (x y : BitVec 8) : bits .or .u8 (v8 x) (v8 y) = v8 (x ||| y) := or8 x y
theorem vand8 (x y : BitVec 8) : bits .and .u8 (v8 x) (v8 y) = v8 (x &&& y) := and8 x y
theorem vxor8c (x : BitVec 8) (n : Nat) (h : n < 256) : bits .xor .u8 (v8 x) (n : Int) = v8 (x ^^^ BitVec.ofNat 8 n) := by
  rw [← vxor8]; congr 1; unfold v8; rw [BitVec.toNat_ofNat, Nat.mod_eq_of_lt h]
theorem vxor32 (x y : BitVec 32) : bits .xor .u32 (v32 x) (v32 y) = v32 (x ^^^ y) := xor32 x y
theorem vor32 (x y : BitVec 32) : bits .or .u32 (v32 x) (v32 y) = v32 (x ||| y) := or32 x y
theorem vand32 (x y : BitVec 32) : bits .and .u32 (v32 x) (v32 y) = v32 (x &&& y) := and32 x y
theorem vadd32 (x y : BitVec 32) : (v32 x + v32 y) % 4294967296 = v32 (x + y) := add32 x y
theorem vadd32w (x y : BitVec 32) : IntKind.u32.wrap (v32 x + v32 y) = v32 (x + y) := by rw [IntKind.wrap_u32, vadd32]
theorem vshl32 (x : BitVec 32) (n : Nat) : (v32 x * 2 ^ n) % 4294967296 = v32 (x <<< n) := shl32 x n
theorem vshl32w (x : BitVec 32) (n : Nat) : IntKind.u32.wrap (v32 x * 2 ^ n) = v32 (x <<< n) := by rw [IntKind.wrap_u32, vshl32]
theorem vshl32_8 (x : BitVec 32) : (v32 x * 256) % 4294967296 = v32 (x <<< 8) := shl32 x 8
theorem vshl32_8w (x : BitVec 32) : IntKind.u32.wrap (v32 x * 256) = v32 (x <<< 8) := by rw [IntKind.wrap_u32]; exact vshl32_8 x
theorem vshr32 (x : BitVec 32) (n : Nat) : v32 x / 2 ^ n = v32 (x >>> n) := shr x n
theorem vwide32 (b : BitVec 8) : v8 b = v32 (b.setWidth 32) := wide32 b
theorem vwide32m (b : BitVec 8) : v8 b % 4294967296 = v32 (b.setWidth 32) := by rw [Int.emod_eq_of_lt (v8_bd b).1 (by have := (v8_bd b).2; omega)]; exact wide32 b
theorem vwide32w (b : BitVec 8) : IntKind.u32.wrap (v8 b) = v32 (b.setWidth 32) := by rw [IntKind.wrap_u32, vwide32m]
theorem vlow32 (x : BitVec 32) : v32 x % 256 = v8 (x.setWidth 8) := low8 x
theorem vlow32w (x : BitVec 32) : IntKind.u8.wrap (v32 x) = v8 (x.setWidth 8) := by rw [IntKind.wrap_u8, vlow32]
theorem not32 (x : BitVec 32) : (-1 - v32 x) % 4294967296 = v32 (~~~x) := by
  unfold v32; rw [BitVec.toNat_not]; have := x.isLt; omega
theorem wrap_v32 (x : BitVec 32) : IntKind.u32.wrap (v32 x) = v32 x := by rw [IntKind.wrap_u32]; have := v32_bd x; omega
theorem mod_v32 (x : BitVec 32) : v32 x % 4294967296 = v32 x := by have := v32_bd x; omega
theorem vxor64 (x y : BitVec 64) : bits .xor .u64 (v64 x) (v64 y) = v64 (x ^^^ y) := xor64 x y
theorem vor64 (x y : BitVec 64) : bits .or .u64 (v64 x) (v64 y) = v64 (x ||| y) := or64 x y
theorem vand64 (x y : BitVec 64) : bits .and .u64 (v64 x) (v64 y) = v64 (x &&& y) := and64 x y
theorem vadd64 (x y : BitVec 64) : (v64 x + v64 y) % 18446744073709551616 = v64 (x + y) := add64 x y
theorem vadd64w (x y : BitVec 64) : IntKind.u64.wrap (v64 x + v64 y) = v64 (x + y) := by rw [IntKind.wrap_u64, vadd64]
theorem vshl64 (x : BitVec 64) (n : Nat) : (v64 x * 2 ^ n) % 18446744073709551616 = v64 (x <<< n) := shl64 x n
theorem vshl64w (x : BitVec 64) (n : Nat) : IntKind.u64.wrap (v64 x * 2 ^ n) = v64 (x <<< n) := by rw [IntKind.wrap_u64, vshl64]
theorem vshl64_8 (x : BitVec 64) : (v64 x * 256) % 18446744073709551616 = v64 (x <<< 8) := shl64 x 8
theorem vshl64_8w (x : BitVec 64) : IntKind.u64.wrap (v64 x * 256) = v64 (x <<< 8) := by rw [IntKind.wrap_u64]; exact vshl64_8 x
theorem vshr64 (x : BitVec 64) (n : Nat) : v64 x / 2 ^ n = v64 (x >>> n) := shr x n
theorem vwide64 (b : BitVec 8) : v8 b = v64 (b.setWidth 64) := wide64 b
theorem vwide64m (b : BitVec 8) : v8 b % 18446744073709551616 = v64 (b.setWidth 64) := by rw [Int.emod_eq_of_lt (v8_bd b).1 (by have := (v8_bd b).2; omega)]; exact wide64 b
theorem vwide64w (b : BitVec 8) : IntKind.u64.wrap (v8 b) = v64 (b.setWidth 64) := by rw [IntKind.wrap_u64, vwide64m]
theorem vlow64 (x : BitVec 64) : v64 x % 256 = v8 (x.setWidth 8) := low8 x
theorem vlow64w (x : BitVec 64) : IntKind.u8.wrap (v64 x) = v8 (x.setWidth 8) := by rw [IntKind.wrap_u8, vlow64]
theorem not64 (x : BitVec 64) : (-1 - v64 x) % 18446744073709551616 = v64 (~~~x) := by
  unfold v64; rw [BitVec.toNat_not]; have := x.isLt; omega
theorem wrap_v64 (x : BitVec 64) : IntKind.u64.wrap (v64 x) = v64 x := by rw [IntKind.wrap_u64]; have := v64_bd x; omega
theorem mod_v64 (x : BitVec 64) : v64 x % 18446744073709551616 = v64 x := by have := v64_bd x; omega
abbrev Byte := BitVec 8
/-- Bytes, and words, as cells. -/
def u8s (bs : List Byte) : List Value := bs.map fun b => Value.int .u8 (v8 b)
def u32s (xs : List (BitVec 32)) : List Value := xs.map fun x => Value.int .u32 (v32 x)
def u64s (xs : List (BitVec 64)) : List Value := xs.map fun x => Value.int .u64 (v64 x)
theorem u8s_len (bs : List Byte) : (u8s bs).length = bs.length := by simp [u8s]
theorem u32s_len (bs : List (BitVec 32)) : (u32s bs).length = bs.length := by simp [u32s]
theorem u64s_len (bs : List (BitVec 64)) : (u64s bs).length = bs.length := by simp [u64s]
theorem u8s_at {bs : List Byte} {i : Nat} {b : Byte} (h : bs[i]? = some b) : (u8s bs)[i]? = some (.int .u8 (v8 b)) := by simp [u8s, h]
theorem u32s_at {bs : List (BitVec 32)} {i : Nat} {b : BitVec 32} (h : bs[i]? = some b) : (u32s bs)[i]? = some (.int .u32 (v32 b)) := by simp [u32s, h]
theorem u64s_at {bs : List (BitVec 64)} {i : Nat} {b : BitVec 64} (h : bs[i]? = some b) : (u64s bs)[i]? = some (.int .u64 (v64 b)) := by simp [u64s, h]
theorem u8s_get (bs : List Byte) (i : Nat) (h : i < bs.length) : (u8s bs)[i]? = some (.int .u8 (v8 (bs.getD i 0))) := u8s_at (by simp [h])
theorem u32s_get (bs : List (BitVec 32)) (i : Nat) (h : i < bs.length) : (u32s bs)[i]? = some (.int .u32 (v32 (bs.getD i 0))) := u32s_at (by simp [h])
theorem u64s_get (bs : List (BitVec 64)) (i : Nat) (h : i < bs.length) : (u64s bs)[i]? = some (.int .u64 (v64 (bs.getD i 0))) := u64s_at (by simp [h])
theorem u8s_set (bs : List Byte) (i : Nat) (b : Byte) : (u8s bs).set i (.int .u8 (v8 b)) = u8s (bs.set i b) := by simp [u8s, List.map_set]
theorem u32s_set (bs : List (BitVec 32)) (i : Nat) (b : BitVec 32) : (u32s bs).set i (.int .u32 (v32 b)) = u32s (bs.set i b) := by simp [u32s, List.map_set]
theorem u64s_set (bs : List (BitVec 64)) (i : Nat) (b : BitVec 64) : (u64s bs).set i (.int .u64 (v64 b)) = u64s (bs.set i b) := by simp [u64s, List.map_set]
theorem u8s_append (a b : List Byte) : u8s (a ++ b) = u8s a ++ u8s b := by simp [u8s]
theorem u8s_zero (n : Nat) : List.replicate n (Value.int .u8 0) = u8s (List.replicate n 0) := by simp [u8s, v8]
theorem u32s_zero (n : Nat) : List.replicate n (Value.int .u32 0) = u32s (List.replicate n 0) := by simp [u32s, v32]
theorem u64s_zero (n : Nat) : List.replicate n (Value.int .u64 0) = u64s (List.replicate n 0) := by simp [u64s, v64]
theorem u8s_one (bs : List Byte) : ∀ u ∈ u8s bs, u.oneCell' = true := by
  intro u hu
  simp only [u8s, List.mem_map] at hu
  obtain ⟨b, _, rfl⟩ := hu
  rfl
/-- A word out of bytes, the highest first; a word's bytes. -/
def takeBE (w : Nat) (l : List Byte) : BitVec w := l.foldl (fun x b => x <<< 8 ||| b.setWidth w) 0
def layBE {w : Nat} (n : Nat) (x : BitVec w) : List Byte := (List.range n).map fun i => (x >>> (8 * (n - 1 - i))).setWidth 8
theorem layBE_len {w : Nat} (n : Nat) (x : BitVec w) : (layBE n x).length = n := by simp [layBE]
theorem takeBE_snoc (w : Nat) (l : List Byte) (b : Byte) : takeBE w (l ++ [b]) = takeBE w l <<< 8 ||| b.setWidth w := by simp [takeBE]
/-- Turned to the left, as the programs write it. -/
def rotl {w : Nat} (x : BitVec w) (k : Nat) : BitVec w := x <<< k ||| x >>> (w - k)
def rotr {w : Nat} (x : BitVec w) (k : Nat) : BitVec w := x >>> k ||| x <<< (w - k)
theorem rotl_rotr {w : Nat} (x : BitVec w) (k : Nat) (h : k ≤ w) : rotl x (w - k) = rotr x k := by
  unfold rotl rotr
  rw [BitVec.or_comm, show w - (w - k) = k by omega]
end Go.Bv
