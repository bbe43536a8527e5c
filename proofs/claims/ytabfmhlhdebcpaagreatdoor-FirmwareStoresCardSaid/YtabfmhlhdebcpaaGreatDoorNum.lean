/- Go's unsigned numbers as bit vectors: small laws by which a walk reads them so. They hold without any condition. -/
import Derived.WalkKit
import Derived.WalkSpells
import Derived.WalkLawsBesides
namespace Go.Proofs.YtabfmhlhdebcpaaGreatDoor
open Go.RowKit
set_option linter.unusedVariables false
set_option linter.unusedSimpArgs false

/-- The number of a bit vector. -/
def uv {n : Nat} (x : BitVec n) : Int := (x.toNat : Int)

theorem uv_nonneg {n : Nat} (x : BitVec n) : 0 ≤ uv x := Int.natCast_nonneg _
theorem uv_lt {n : Nat} (x : BitVec n) : uv x < 2 ^ n := by
  have := x.isLt
  unfold uv
  exact_mod_cast this
theorem uv_inj {n : Nat} {x y : BitVec n} (h : uv x = uv y) : x = y := BitVec.eq_of_toNat_eq (by unfold uv at h; omega)
@[go_sem] theorem uv_beq {n : Nat} (x y : BitVec n) : (uv x == uv y) = (x == y) := by
  by_cases h : x = y
  · subst h; simp
  · have : uv x ≠ uv y := fun e => h (uv_inj e)
    rw [beq_false_of_ne this, beq_false_of_ne h]
@[go_sem] theorem uv_bne {n : Nat} (x y : BitVec n) : (uv x != uv y) = (x != y) := by
  rw [bne, uv_beq, bne]
@[go_sem] theorem ofInt_uv {n : Nat} (x : BitVec n) : BitVec.ofInt n (uv x) = x := by
  unfold uv; simp
theorem ofInt_uv_to {n m : Nat} (x : BitVec n) : BitVec.ofInt m (uv x) = x.setWidth m := by
  unfold uv; apply BitVec.eq_of_toNat_eq; simp
@[go_sem] theorem ofInt_uv8_16 (x : BitVec 8) : BitVec.ofInt 16 (uv x) = x.setWidth 16 := ofInt_uv_to x
@[go_sem] theorem ofInt_uv8_32 (x : BitVec 8) : BitVec.ofInt 32 (uv x) = x.setWidth 32 := ofInt_uv_to x
@[go_sem] theorem ofInt_uv8_64 (x : BitVec 8) : BitVec.ofInt 64 (uv x) = x.setWidth 64 := ofInt_uv_to x
@[go_sem] theorem ofInt_uv16_8 (x : BitVec 16) : BitVec.ofInt 8 (uv x) = x.setWidth 8 := ofInt_uv_to x
@[go_sem] theorem ofInt_uv16_32 (x : BitVec 16) : BitVec.ofInt 32 (uv x) = x.setWidth 32 := ofInt_uv_to x
@[go_sem] theorem ofInt_uv16_64 (x : BitVec 16) : BitVec.ofInt 64 (uv x) = x.setWidth 64 := ofInt_uv_to x
@[go_sem] theorem ofInt_uv32_8 (x : BitVec 32) : BitVec.ofInt 8 (uv x) = x.setWidth 8 := ofInt_uv_to x
@[go_sem] theorem ofInt_uv32_16 (x : BitVec 32) : BitVec.ofInt 16 (uv x) = x.setWidth 16 := ofInt_uv_to x
@[go_sem] theorem ofInt_uv32_64 (x : BitVec 32) : BitVec.ofInt 64 (uv x) = x.setWidth 64 := ofInt_uv_to x
@[go_sem] theorem ofInt_uv64_8 (x : BitVec 64) : BitVec.ofInt 8 (uv x) = x.setWidth 8 := ofInt_uv_to x
@[go_sem] theorem ofInt_uv64_16 (x : BitVec 64) : BitVec.ofInt 16 (uv x) = x.setWidth 16 := ofInt_uv_to x
@[go_sem] theorem ofInt_uv64_32 (x : BitVec 64) : BitVec.ofInt 32 (uv x) = x.setWidth 32 := ofInt_uv_to x

/-- The same as a natural number. -/
def nv {n : Nat} (x : BitVec n) : Nat := x.toNat
@[go_sem] theorem uv_toNat {n : Nat} (x : BitVec n) : (uv x).toNat = nv x := by unfold uv nv; simp
theorem nv8_lt (x : BitVec 8) : nv x < 256 := x.isLt
theorem uv8_lt (x : BitVec 8) : uv x < 256 := uv_lt x
theorem uv16_lt (x : BitVec 16) : uv x < 65536 := uv_lt x
theorem uv32_lt (x : BitVec 32) : uv x < 4294967296 := uv_lt x

/-! wrapping into an unsigned kind -/
@[go_sem] theorem wrap_u8_uv (m : Int) : IntKind.u8.wrap m = uv (BitVec.ofInt 8 m) := by
  simp [uv, IntKind.wrap, IntKind.bits, IntKind.signed, BitVec.toNat_ofInt]; omega
@[go_sem] theorem wrap_u16_uv (m : Int) : IntKind.u16.wrap m = uv (BitVec.ofInt 16 m) := by
  simp [uv, IntKind.wrap, IntKind.bits, IntKind.signed, BitVec.toNat_ofInt]; omega
@[go_sem] theorem wrap_u32_uv (m : Int) : IntKind.u32.wrap m = uv (BitVec.ofInt 32 m) := by
  simp [uv, IntKind.wrap, IntKind.bits, IntKind.signed, BitVec.toNat_ofInt]; omega
@[go_sem] theorem wrap_u64_uv (m : Int) : IntKind.u64.wrap m = uv (BitVec.ofInt 64 m) := by
  simp [uv, IntKind.wrap, IntKind.bits, IntKind.signed, BitVec.toNat_ofInt]; omega
@[go_sem] theorem ofInt_add {n : Nat} (a b : Int) : BitVec.ofInt n (a + b) = BitVec.ofInt n a + BitVec.ofInt n b := by
  simp [BitVec.ofInt_add]
@[go_sem] theorem ofInt_mul {n : Nat} (a b : Int) : BitVec.ofInt n (a * b) = BitVec.ofInt n a * BitVec.ofInt n b := by
  simp [BitVec.ofInt_mul]
@[go_sem] theorem ofInt_sub {n : Nat} (a b : Int) : BitVec.ofInt n (a - b) = BitVec.ofInt n a - BitVec.ofInt n b := by
  apply BitVec.eq_of_toInt_eq
  simp [BitVec.toInt_sub]

/-! the smaller and the larger of two -/
theorem min2_int (k k' : IntKind) (x y : Int) : Builtin.min2 (.int k x) (.int k' y) = pure (.int k (min x y)) := by
  have : (if y < x then y else x) = min x y := by split <;> omega
  simp only [Builtin.min2, this]
theorem max2_int (k k' : IntKind) (x y : Int) : Builtin.max2 (.int k x) (.int k' y) = pure (.int k (max x y)) := by
  have : (if x < y then y else x) = max x y := by split <;> omega
  simp only [Builtin.max2, this]
section
variable {P : Program} {w : World} {ops : Array Oper} {rest : List Oper} {o : Oper} {a : Act} {Q : Exit → Act → World → Prop} {k : IntKind} {ts : Array TypeId}
theorem min3_law (hgd : o.guard = none) (x y z : Operand) (ho : o.op = .call { callee := .builtin .min, args := #[x, y, z], argTypes := ts }) {X Y Z : Int} (N : Int) (hx : a.eval x = .int k X) (hy : a.eval y = .int k Y) (hz : a.eval z = .int k Z)
    (hN : min (min X Y) Z = N) (h : wpList P ops Q rest (a.put o.dst (.int k N)) w) : wpList P ops Q (o :: rest) a w := by
  refine wpList_plain hgd fun K hK => ?_
  subst hN
  unfold Oper.wp
  simp [execOp, ho, resolve, invoke, builtin, hx, hy, hz, Builtin.min_, min2_int, Result.andThen, Oper.upon]
  have h2 := hK _ _ h
  rw [Int.min_assoc] at h2
  exact h2
theorem cap_law (hgd : o.guard = none) (x : Operand) {t e : TypeId} (ht : P.underlying t = some (.slice e)) (ho : o.op = .call { callee := .builtin .cap, args := #[x], argTypes := #[t] }) {ad : Option Addr} {n c : Nat} (hx : a.eval x = .slice ad n c)
    (h : wpList P ops Q rest (a.put o.dst (.int .i64 c)) w) : wpList P ops Q (o :: rest) a w := by
  refine wpList_plain hgd fun K hK => ?_
  unfold Oper.wp
  simp [execOp, ho, resolve, invoke, builtin, hx, Builtin.cap_, run_underlying ht, Result.andThen, Oper.upon]
  exact hK _ _ h
theorem min_law (hgd : o.guard = none) (x y : Operand) (ho : o.op = .call { callee := .builtin .min, args := #[x, y], argTypes := ts }) {X Y : Int} (N : Int) (hx : a.eval x = .int k X) (hy : a.eval y = .int k Y)
    (hN : min X Y = N) (h : wpList P ops Q rest (a.put o.dst (.int k N)) w) : wpList P ops Q (o :: rest) a w := by
  refine wpList_plain hgd fun K hK => ?_
  subst hN
  unfold Oper.wp
  simp [execOp, ho, resolve, invoke, builtin, hx, hy, Builtin.min_, min2_int, Result.andThen, Oper.upon]
  exact hK _ _ h
theorem max_law (hgd : o.guard = none) (x y : Operand) (ho : o.op = .call { callee := .builtin .max, args := #[x, y], argTypes := ts }) {X Y : Int} (N : Int) (hx : a.eval x = .int k X) (hy : a.eval y = .int k Y)
    (hN : max X Y = N) (h : wpList P ops Q rest (a.put o.dst (.int k N)) w) : wpList P ops Q (o :: rest) a w := by
  refine wpList_plain hgd fun K hK => ?_
  subst hN
  unfold Oper.wp
  simp [execOp, ho, resolve, invoke, builtin, hx, hy, Builtin.max_, max2_int, Result.andThen, Oper.upon]
  exact hK _ _ h
end

/-! the operations on bits -/
theorem wrap_back (n : Nat) (x : BitVec n) : BitVec.ofInt n ((x.toNat : Nat) : Int) = x := by simp
@[go_sem] theorem bits_u8_and (a b : Int) : bits .and .u8 a b = uv (BitVec.ofInt 8 a &&& BitVec.ofInt 8 b) := by
  simp only [bits, wrap_u8_uv]; rw [show IntKind.u8.bits = 8 from rfl, wrap_back]
@[go_sem] theorem bits_u8_or (a b : Int) : bits .or .u8 a b = uv (BitVec.ofInt 8 a ||| BitVec.ofInt 8 b) := by
  simp only [bits, wrap_u8_uv]; rw [show IntKind.u8.bits = 8 from rfl, wrap_back]
@[go_sem] theorem bits_u8_xor (a b : Int) : bits .xor .u8 a b = uv (BitVec.ofInt 8 a ^^^ BitVec.ofInt 8 b) := by
  simp only [bits, wrap_u8_uv]; rw [show IntKind.u8.bits = 8 from rfl, wrap_back]
@[go_sem] theorem bits_u8_andNot (a b : Int) : bits .andNot .u8 a b = uv (BitVec.ofInt 8 a &&& ~~~ BitVec.ofInt 8 b) := by
  simp only [bits, wrap_u8_uv]; rw [show IntKind.u8.bits = 8 from rfl, wrap_back]
@[go_sem] theorem bits_u16_and (a b : Int) : bits .and .u16 a b = uv (BitVec.ofInt 16 a &&& BitVec.ofInt 16 b) := by
  simp only [bits, wrap_u16_uv]; rw [show IntKind.u16.bits = 16 from rfl, wrap_back]
@[go_sem] theorem bits_u16_or (a b : Int) : bits .or .u16 a b = uv (BitVec.ofInt 16 a ||| BitVec.ofInt 16 b) := by
  simp only [bits, wrap_u16_uv]; rw [show IntKind.u16.bits = 16 from rfl, wrap_back]
@[go_sem] theorem bits_u16_xor (a b : Int) : bits .xor .u16 a b = uv (BitVec.ofInt 16 a ^^^ BitVec.ofInt 16 b) := by
  simp only [bits, wrap_u16_uv]; rw [show IntKind.u16.bits = 16 from rfl, wrap_back]
@[go_sem] theorem bits_u16_andNot (a b : Int) : bits .andNot .u16 a b = uv (BitVec.ofInt 16 a &&& ~~~ BitVec.ofInt 16 b) := by
  simp only [bits, wrap_u16_uv]; rw [show IntKind.u16.bits = 16 from rfl, wrap_back]
@[go_sem] theorem bits_u32_and (a b : Int) : bits .and .u32 a b = uv (BitVec.ofInt 32 a &&& BitVec.ofInt 32 b) := by
  simp only [bits, wrap_u32_uv]; rw [show IntKind.u32.bits = 32 from rfl, wrap_back]
@[go_sem] theorem bits_u32_or (a b : Int) : bits .or .u32 a b = uv (BitVec.ofInt 32 a ||| BitVec.ofInt 32 b) := by
  simp only [bits, wrap_u32_uv]; rw [show IntKind.u32.bits = 32 from rfl, wrap_back]
@[go_sem] theorem bits_u32_xor (a b : Int) : bits .xor .u32 a b = uv (BitVec.ofInt 32 a ^^^ BitVec.ofInt 32 b) := by
  simp only [bits, wrap_u32_uv]; rw [show IntKind.u32.bits = 32 from rfl, wrap_back]
@[go_sem] theorem bits_u32_andNot (a b : Int) : bits .andNot .u32 a b = uv (BitVec.ofInt 32 a &&& ~~~ BitVec.ofInt 32 b) := by
  simp only [bits, wrap_u32_uv]; rw [show IntKind.u32.bits = 32 from rfl, wrap_back]
@[go_sem] theorem bits_u64_and (a b : Int) : bits .and .u64 a b = uv (BitVec.ofInt 64 a &&& BitVec.ofInt 64 b) := by
  simp only [bits, wrap_u64_uv]; rw [show IntKind.u64.bits = 64 from rfl, wrap_back]
@[go_sem] theorem bits_u64_or (a b : Int) : bits .or .u64 a b = uv (BitVec.ofInt 64 a ||| BitVec.ofInt 64 b) := by
  simp only [bits, wrap_u64_uv]; rw [show IntKind.u64.bits = 64 from rfl, wrap_back]
@[go_sem] theorem bits_u64_xor (a b : Int) : bits .xor .u64 a b = uv (BitVec.ofInt 64 a ^^^ BitVec.ofInt 64 b) := by
  simp only [bits, wrap_u64_uv]; rw [show IntKind.u64.bits = 64 from rfl, wrap_back]
@[go_sem] theorem bits_u64_andNot (a b : Int) : bits .andNot .u64 a b = uv (BitVec.ofInt 64 a &&& ~~~ BitVec.ofInt 64 b) := by
  simp only [bits, wrap_u64_uv]; rw [show IntKind.u64.bits = 64 from rfl, wrap_back]

/-! shifts of an unsigned number: to the right, and to the left -/
theorem shr_uv {n : Nat} (x : BitVec n) (s m : Nat) (hm : n ≤ m) : (uv x).fdiv (2 ^ (min s m)) = uv (x >>> s) := by
  have e : (2 : Int) ^ (min s m) = ((2 ^ (min s m) : Nat) : Int) := by push_cast; rfl
  unfold uv
  rw [e, Int.fdiv_eq_ediv_of_nonneg _ (Int.natCast_nonneg _), ← Int.natCast_ediv, BitVec.toNat_ushiftRight, Nat.shiftRight_eq_div_pow]
  rcases Nat.lt_or_ge s m with h | h
  · rw [Nat.min_eq_left (by omega)]
  · rw [Nat.min_eq_right h, Nat.div_eq_of_lt (Nat.lt_of_lt_of_le x.isLt (Nat.pow_le_pow_right (by omega) hm)), Nat.div_eq_of_lt (Nat.lt_of_lt_of_le x.isLt (Nat.pow_le_pow_right (by omega) (by omega)))]
@[go_sem high] theorem shift_shr_u8 (yk : IntKind) (x : BitVec 8) (y : Int) (h : 0 ≤ y) : Op.shift .shr .u8 (uv x) yk y = pure (.int .u8 (uv (x >>> y.toNat))) := by
  simp only [Op.shift, if_neg (Int.not_lt.2 h), shr_uv x y.toNat IntKind.u8.bits (by decide)]
@[go_sem high] theorem shift_shr_u16 (yk : IntKind) (x : BitVec 16) (y : Int) (h : 0 ≤ y) : Op.shift .shr .u16 (uv x) yk y = pure (.int .u16 (uv (x >>> y.toNat))) := by
  simp only [Op.shift, if_neg (Int.not_lt.2 h), shr_uv x y.toNat IntKind.u16.bits (by decide)]
@[go_sem high] theorem shift_shr_u32 (yk : IntKind) (x : BitVec 32) (y : Int) (h : 0 ≤ y) : Op.shift .shr .u32 (uv x) yk y = pure (.int .u32 (uv (x >>> y.toNat))) := by
  simp only [Op.shift, if_neg (Int.not_lt.2 h), shr_uv x y.toNat IntKind.u32.bits (by decide)]
@[go_sem high] theorem shift_shr_u64 (yk : IntKind) (x : BitVec 64) (y : Int) (h : 0 ≤ y) : Op.shift .shr .u64 (uv x) yk y = pure (.int .u64 (uv (x >>> y.toNat))) := by
  simp only [Op.shift, if_neg (Int.not_lt.2 h), shr_uv x y.toNat IntKind.u64.bits (by decide)]
theorem shl_uv {n : Nat} (x : BitVec n) (s : Nat) : BitVec.ofInt n (uv x * 2 ^ (min s n)) = x <<< s := by
  have e : uv x * (2 : Int) ^ (min s n) = ((x.toNat * 2 ^ (min s n) : Nat) : Int) := by unfold uv; push_cast; rfl
  rw [e]
  apply BitVec.eq_of_toNat_eq
  rw [BitVec.toNat_shiftLeft, Nat.shiftLeft_eq]
  simp only [BitVec.ofInt_natCast, BitVec.toNat_ofNat]
  rcases Nat.lt_or_ge s n with h | h
  · rw [Nat.min_eq_left (by omega)]
  · rw [Nat.min_eq_right h, Nat.mul_mod_left]
    obtain ⟨d, rfl⟩ : ∃ d, s = n + d := ⟨s - n, by omega⟩
    rw [Nat.pow_add, ← Nat.mul_assoc, Nat.mul_right_comm, Nat.mul_mod_left]
@[go_sem high] theorem shift_shl_u8 (yk : IntKind) (x : BitVec 8) (y : Int) (h : 0 ≤ y) : Op.shift .shl .u8 (uv x) yk y = pure (.int .u8 (uv (x <<< y.toNat))) := by
  simp only [Op.shift, if_neg (Int.not_lt.2 h), wrap_u8_uv]; rw [show IntKind.u8.bits = 8 from rfl, shl_uv]
@[go_sem high] theorem shift_shl_u16 (yk : IntKind) (x : BitVec 16) (y : Int) (h : 0 ≤ y) : Op.shift .shl .u16 (uv x) yk y = pure (.int .u16 (uv (x <<< y.toNat))) := by
  simp only [Op.shift, if_neg (Int.not_lt.2 h), wrap_u16_uv]; rw [show IntKind.u16.bits = 16 from rfl, shl_uv]
@[go_sem high] theorem shift_shl_u32 (yk : IntKind) (x : BitVec 32) (y : Int) (h : 0 ≤ y) : Op.shift .shl .u32 (uv x) yk y = pure (.int .u32 (uv (x <<< y.toNat))) := by
  simp only [Op.shift, if_neg (Int.not_lt.2 h), wrap_u32_uv]; rw [show IntKind.u32.bits = 32 from rfl, shl_uv]
@[go_sem high] theorem shift_shl_u64 (yk : IntKind) (x : BitVec 64) (y : Int) (h : 0 ≤ y) : Op.shift .shl .u64 (uv x) yk y = pure (.int .u64 (uv (x <<< y.toNat))) := by
  simp only [Op.shift, if_neg (Int.not_lt.2 h), wrap_u64_uv]; rw [show IntKind.u64.bits = 64 from rfl, shl_uv]
@[go_sem] theorem uv_div_pow {n : Nat} (x : BitVec n) (j : Nat) : uv x / 2 ^ j = uv (x >>> j) := by
  unfold uv
  rw [BitVec.toNat_ushiftRight, Nat.shiftRight_eq_div_pow, Int.natCast_ediv]; push_cast; rfl
@[go_sem] theorem mul_pow2 {n : Nat} (x : BitVec n) (s : Nat) : x * BitVec.ofInt n (2 ^ s) = x <<< s := by
  apply BitVec.eq_of_toNat_eq
  have e : (2 : Int) ^ s = ((2 ^ s : Nat) : Int) := by push_cast; rfl
  rw [e, BitVec.ofInt_natCast, BitVec.toNat_mul, BitVec.toNat_ofNat, BitVec.toNat_shiftLeft, Nat.shiftLeft_eq, Nat.mul_mod_mod]
/-! shifts of a number that is written out -/
theorem shl_all (n : Nat) (x : Int) (s : Nat) : BitVec.ofInt n (x * 2 ^ (min s n)) = BitVec.ofInt n x <<< s := by
  have e : BitVec.ofInt n (x * 2 ^ (min s n)) = BitVec.ofInt n (uv (BitVec.ofInt n x) * 2 ^ (min s n)) := by
    rw [BitVec.ofInt_mul, BitVec.ofInt_mul, ofInt_uv]
  rw [e, shl_uv]
@[go_sem] theorem shift_shl_u8_any (yk : IntKind) (x y : Int) (h : 0 ≤ y) : Op.shift .shl .u8 x yk y = pure (.int .u8 (uv (BitVec.ofInt 8 x <<< y.toNat))) := by
  simp only [Op.shift, if_neg (Int.not_lt.2 h), wrap_u8_uv]; rw [show IntKind.u8.bits = 8 from rfl, shl_all]
@[go_sem] theorem shift_shl_u32_any (yk : IntKind) (x y : Int) (h : 0 ≤ y) : Op.shift .shl .u32 x yk y = pure (.int .u32 (uv (BitVec.ofInt 32 x <<< y.toNat))) := by
  simp only [Op.shift, if_neg (Int.not_lt.2 h), wrap_u32_uv]; rw [show IntKind.u32.bits = 32 from rfl, shl_all]
@[go_sem] theorem shift_shl_u64_any (yk : IntKind) (x y : Int) (h : 0 ≤ y) : Op.shift .shl .u64 x yk y = pure (.int .u64 (uv (BitVec.ofInt 64 x <<< y.toNat))) := by
  simp only [Op.shift, if_neg (Int.not_lt.2 h), wrap_u64_uv]; rw [show IntKind.u64.bits = 64 from rfl, shl_all]
theorem uv_of_range (n : Nat) (x : Int) (h0 : 0 ≤ x) (h1 : x < 2 ^ n) : x = uv (BitVec.ofInt n x) := by
  unfold uv
  rw [BitVec.toNat_ofInt, Int.emod_eq_of_lt h0 (by exact_mod_cast h1)]
  omega
@[go_sem high] theorem shift_shr_u8_any (yk : IntKind) (x y : Int) (h : 0 ≤ y) (h0 : 0 ≤ x) (h1 : x < 256) : Op.shift .shr .u8 x yk y = pure (.int .u8 (uv (BitVec.ofInt 8 x >>> y.toNat))) := by
  rw [uv_of_range 8 x h0 h1, shift_shr_u8 _ _ _ h, ofInt_uv]
end Go.Proofs.YtabfmhlhdebcpaaGreatDoor
