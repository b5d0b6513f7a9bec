
/- SHA-256 and SHA-512 as plain functions on bit vectors: the schedule, the rounds, a block, and laws of lists that the walks want. No condition but what each names. -/
import Derived.Test.YtlmababpmmhhoaaGreatBv
namespace Go.Sha
open Go.Bv
set_option linter.unusedVariables false
/-- The six turnings of a width: three each of the two small and the two great ones. -/
structure Turns where
  s0 : Nat × Nat × Nat
  s1 : Nat × Nat × Nat
  b0 : Nat × Nat × Nat
  b1 : Nat × Nat × Nat
def T256 : Turns := ⟨(7, 18, 3), (17, 19, 10), (2, 13, 22), (6, 11, 25)⟩
def T512 : Turns := ⟨(1, 8, 7), (19, 61, 6), (28, 34, 39), (14, 18, 41)⟩
section
variable {w : Nat}
def sml (r : Nat × Nat × Nat) (x : BitVec w) : BitVec w := rotr x r.1 ^^^ rotr x r.2.1 ^^^ x >>> r.2.2
def big (r : Nat × Nat × Nat) (x : BitVec w) : BitVec w := rotr x r.1 ^^^ rotr x r.2.1 ^^^ rotr x r.2.2
def ext (T : Turns) (ws : List (BitVec w)) : List (BitVec w) :=
  ws ++ [sml T.s1 (ws.getD (ws.length - 2) 0) + ws.getD (ws.length - 7) 0 + sml T.s0 (ws.getD (ws.length - 15) 0) + ws.getD (ws.length - 16) 0]
def sched (T : Turns) (ws : List (BitVec w)) : Nat → List (BitVec w)
  | 0 => ws
  | n + 1 => ext T (sched T ws n)
theorem sched_len (T : Turns) (ws : List (BitVec w)) (n : Nat) : (sched T ws n).length = ws.length + n := by
  induction n with
  | zero => rfl
  | succ n ih => simp [sched, ext, ih]; omega
/-- The eight words of a round. -/
abbrev Eight (w : Nat) := BitVec w × BitVec w × BitVec w × BitVec w × BitVec w × BitVec w × BitVec w × BitVec w
def p1 (T : Turns) (k x e f g h : BitVec w) : BitVec w := h + big T.b1 e + ((e &&& f) ^^^ (~~~e &&& g)) + k + x
def q1 (T : Turns) (a b c : BitVec w) : BitVec w := big T.b0 a + (((a &&& b) ^^^ (a &&& c)) ^^^ (b &&& c))
def rnd (T : Turns) (k x : BitVec w) : Eight w → Eight w
  | (a, b, c, d, e, f, g, h) => (p1 T k x e f g h + q1 T a b c, a, b, c, d + p1 T k x e f g h, e, f, g)
def rounds (T : Turns) (K W : List (BitVec w)) (s : Eight w) : Nat → Eight w
  | 0 => s
  | n + 1 => rnd T (K.getD n 0) (W.getD n 0) (rounds T K W s n)
def eightOf (h : List (BitVec w)) : Eight w := (h.getD 0 0, h.getD 1 0, h.getD 2 0, h.getD 3 0, h.getD 4 0, h.getD 5 0, h.getD 6 0, h.getD 7 0)
def listOf : Eight w → List (BitVec w)
  | (a, b, c, d, e, f, g, h) => [a, b, c, d, e, f, g, h]
/-- Words out of a block's bytes. -/
def wordsOf (w n : Nat) (blk : List Byte) : List (BitVec w) := (List.range 16).map fun t => takeBE w ((blk.drop (n * t)).take n)
theorem wordsOf_len (n : Nat) (blk : List Byte) : (wordsOf w n blk).length = 16 := by simp [wordsOf]
/-- The eight words behind a block. -/
def comp (T : Turns) (K : List (BitVec w)) (n m : Nat) (h : List (BitVec w)) (blk : List Byte) : List (BitVec w) :=
  List.zipWith (· + ·) h (listOf (rounds T K (sched T (wordsOf w n blk) m) (eightOf h) (16 + m)))
theorem listOf_len (s : Eight w) : (listOf s).length = 8 := rfl
theorem comp_len (T : Turns) (K : List (BitVec w)) (n m : Nat) (h : List (BitVec w)) (blk : List Byte) (hh : h.length = 8) : (comp T K n m h blk).length = 8 := by
  simp [comp, hh, listOf_len]
end
def K256 : List (BitVec 32) := [1116352408#32, 1899447441, 3049323471, 3921009573, 961987163, 1508970993, 2453635748, 2870763221, 3624381080, 310598401, 607225278, 1426881987, 1925078388, 2162078206, 2614888103, 3248222580, 3835390401, 4022224774, 264347078, 604807628, 770255983, 1249150122, 1555081692, 1996064986, 2554220882, 2821834349, 2952996808, 3210313671, 3336571891, 3584528711, 113926993, 338241895, 666307205, 773529912, 1294757372, 1396182291, 1695183700, 1986661051, 2177026350, 2456956037, 2730485921, 2820302411, 3259730800, 3345764771, 3516065817, 3600352804, 4094571909, 275423344, 430227734, 506948616, 659060556, 883997877, 958139571, 1322822218, 1537002063, 1747873779, 1955562222, 2024104815, 2227730452, 2361852424, 2428436474, 2756734187, 3204031479, 3329325298]
def K512 : List (BitVec 64) := [4794697086780616226#64, 8158064640168781261, 13096744586834688815, 16840607885511220156, 4131703408338449720, 6480981068601479193, 10538285296894168987, 12329834152419229976, 15566598209576043074, 1334009975649890238, 2608012711638119052, 6128411473006802146, 8268148722764581231, 9286055187155687089, 11230858885718282805, 13951009754708518548, 16472876342353939154, 17275323862435702243, 1135362057144423861, 2597628984639134821, 3308224258029322869, 5365058923640841347, 6679025012923562964, 8573033837759648693, 10970295158949994411, 12119686244451234320, 12683024718118986047, 13788192230050041572, 14330467153632333762, 15395433587784984357, 489312712824947311, 1452737877330783856, 2861767655752347644, 3322285676063803686, 5560940570517711597, 5996557281743188959, 7280758554555802590, 8532644243296465576, 9350256976987008742, 10552545826968843579, 11727347734174303076, 12113106623233404929, 14000437183269869457, 14369950271660146224, 15101387698204529176, 15463397548674623760, 17586052441742319658, 1182934255886127544, 1847814050463011016, 2177327727835720531, 2830643537854262169, 3796741975233480872, 4115178125766777443, 5681478168544905931, 6601373596472566643, 7507060721942968483, 8399075790359081724, 8693463985226723168, 9568029438360202098, 10144078919501101548, 10430055236837252648, 11840083180663258601, 13761210420658862357, 14299343276471374635, 14566680578165727644, 15097957966210449927, 16922976911328602910, 17689382322260857208, 500013540394364858, 748580250866718886, 1242879168328830382, 1977374033974150939, 2944078676154940804, 3659926193048069267, 4368137639120453308, 4836135668995329356, 5532061633213252278, 6448918945643986474, 6902733635092675308, 7801388544844847127]
def H256 : List (BitVec 32) := [1779033703#32, 3144134277, 1013904242, 2773480762, 1359893119, 2600822924, 528734635, 1541459225]
def H512 : List (BitVec 64) := [7640891576956012808#64, 13503953896175478587, 4354685564936845355, 11912009170470909681, 5840696475078001361, 11170449401992604703, 2270897969802886507, 6620516959819538809]
theorem K256_len : K256.length = 64 := rfl
theorem K512_len : K512.length = 80 := rfl
def comp256 (h : List (BitVec 32)) (blk : List Byte) : List (BitVec 32) := comp T256 K256 4 48 h blk
def comp512 (h : List (BitVec 64)) (blk : List Byte) : List (BitVec 64) := comp T512 K512 8 64 h blk
/-- The words behind the whole blocks of bytes. -/
def blk {w : Nat} (f : List (BitVec w) → List Byte → List (BitVec w)) (B : Nat) (h : List (BitVec w)) (p : List Byte) : Nat → List (BitVec w)
  | 0 => h
  | n + 1 => f (blk f B h p n) ((p.drop (B * n)).take B)
def blocks256 (h : List (BitVec 32)) (p : List Byte) (n : Nat) : List (BitVec 32) := blk comp256 64 h p n
def blocks512 (h : List (BitVec 64)) (p : List Byte) (n : Nat) : List (BitVec 64) := blk comp512 128 h p n
/-- What waits behind the whole blocks of a message. -/
def restOf (n : Nat) (msg : List Byte) : List Byte := msg.drop (n * (msg.length / n))
def waitOf (n : Nat) (msg : List Byte) : List Byte := restOf n msg ++ List.replicate (n - msg.length % n) 0
theorem restOf_len (n : Nat) (msg : List Byte) : (restOf n msg).length = msg.length % n := by
  unfold restOf
  rw [List.length_drop]
  have := Nat.div_add_mod msg.length n
  omega
theorem waitOf_len (n : Nat) (msg : List Byte) (h : 0 < n) : (waitOf n msg).length = n := by
  unfold waitOf
  rw [List.length_append, restOf_len, List.length_replicate]
  have := Nat.mod_lt msg.length h
  omega
theorem blk_len {w : Nat} {f : List (BitVec w) → List Byte → List (BitVec w)} (hf : ∀ h b, h.length = 8 → (f h b).length = 8) (B : Nat) (h : List (BitVec w)) (p : List Byte) (n : Nat) (hh : h.length = 8) : (blk f B h p n).length = 8 := by
  induction n with
  | zero => exact hh
  | succ n ih => exact hf _ _ ih
theorem blk_take {w : Nat} (f : List (BitVec w) → List Byte → List (BitVec w)) (B : Nat) (h : List (BitVec w)) (p q : List Byte) (n : Nat) (hn : B * n ≤ p.length) : blk f B h (p ++ q) n = blk f B h p n := by
  induction n with
  | zero => rfl
  | succ n ih =>
    rw [Nat.mul_succ] at hn
    rw [blk, blk, ih (by omega), List.drop_append_of_le_length (by omega), List.take_append_of_le_length (by simp; omega)]
theorem div_same (n B k : Nat) (hB : 0 < B) (h : n % B + k < B) : (n + k) / B = n / B := by
  have h1 := Nat.div_add_mod n B
  rw [show n + k = n % B + k + B * (n / B) by omega, Nat.add_mul_div_left _ _ hB, Nat.div_eq_of_lt h]; omega
theorem div_next (n B k : Nat) (hB : 0 < B) (h : n % B + k = B) : (n + k) / B = n / B + 1 ∧ (n + k) % B = 0 := by
  have h1 := Nat.div_add_mod n B
  have h2 : n + k = B * (n / B + 1) := by rw [Nat.mul_succ]; omega
  rw [h2]
  exact ⟨Nat.mul_div_cancel_left _ hB, Nat.mul_mod_right _ _⟩
theorem mod_same (n B k : Nat) (h : n % B + k < B) : (n + k) % B = n % B + k := by
  rw [Nat.add_mod, Nat.mod_eq_of_lt (a := k) (by omega), Nat.mod_eq_of_lt h]
theorem rest_part (B : Nat) (M x : List Byte) (hB : 0 < B) (h : M.length % B + x.length < B) : restOf B (M ++ x) = restOf B M ++ x := by
  unfold restOf
  rw [List.length_append, div_same _ _ _ hB h, List.drop_append_of_le_length (Nat.mul_div_le _ _)]
theorem wait_part (B : Nat) (M x : List Byte) (hB : 0 < B) (h : M.length % B + x.length < B) : waitOf B (M ++ x) = restOf B M ++ x ++ List.replicate (B - M.length % B - x.length) 0 := by
  unfold waitOf
  rw [rest_part B M x hB h, List.length_append, mod_same _ _ _ h, Nat.sub_sub]
theorem wait_full (B : Nat) (M x : List Byte) (hB : 0 < B) (h : M.length % B + x.length = B) : waitOf B (M ++ x) = List.replicate B 0 := by
  unfold waitOf restOf
  obtain ⟨h1, h2⟩ := div_next M.length B x.length hB h
  have h3 := Nat.div_add_mod (M ++ x).length B
  rw [List.length_append, h2] at h3
  rw [List.length_append, h2, List.drop_eq_nil_of_le (by rw [List.length_append]; omega)]
  simp
theorem blk_full {w : Nat} (f : List (BitVec w) → List Byte → List (BitVec w)) (B : Nat) (h : List (BitVec w)) (M x : List Byte) (hB : 0 < B) (hl : M.length % B + x.length = B) :
    blk f B h (M ++ x) ((M ++ x).length / B) = f (blk f B h M (M.length / B)) (restOf B M ++ x) := by
  obtain ⟨h1, h2⟩ := div_next M.length B x.length hB hl
  rw [List.length_append, h1, blk, blk_take f B h M x _ (Nat.mul_div_le _ _), List.drop_append_of_le_length (Nat.mul_div_le _ _)]
  rw [List.take_of_length_le]
  · rfl
  · show (restOf B M ++ x).length ≤ B
    rw [List.length_append, restOf_len]; omega
theorem blk_part {w : Nat} (f : List (BitVec w) → List Byte → List (BitVec w)) (B : Nat) (h : List (BitVec w)) (M x : List Byte) (hB : 0 < B) (hl : M.length % B + x.length < B) :
    blk f B h (M ++ x) ((M ++ x).length / B) = blk f B h M (M.length / B) := by
  rw [List.length_append, div_same _ _ _ hB hl, blk_take f B h M x _ (Nat.mul_div_le _ _)]
def pad256 (p : List Byte) : List Byte := p ++ 128 :: List.replicate ((119 - p.length % 64) % 64) 0 ++ layBE 8 (BitVec.ofNat 64 (8 * p.length))
def laid {w : Nat} (n : Nat) (h : List (BitVec w)) : List Byte := h.flatMap fun x => layBE n x
def sha256 (p : List Byte) : List Byte := laid 4 (blocks256 H256 (pad256 p) ((pad256 p).length / 64))
def abc : List Byte := [97, 98, 99]
example : (sha256 abc).take 4 = [0xba, 0x78, 0x16, 0xbf] := by decide +kernel
end Go.Sha
