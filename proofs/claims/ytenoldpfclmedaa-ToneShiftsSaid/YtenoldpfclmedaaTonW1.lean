/- The walks of package tone's Turn, whole, Power, and of what they call of package math. -/
import Derived.Test.YtenoldpfclmedaaTonM
import Derived.Test.YtenoldpfclmedaaLibR
import Derived.Test.YtenoldpfclmedaaProg
import Derived.Laws.Externs
namespace Go.Proofs.Ytenoldpfclmedaa
open Go.RowKit Go.Rw Tone
set_option maxHeartbeats 400000 in
theorem turn_any (t : Int) (w : World) :
    Calls Try.prog 15 #[.int .i64 t] w fun e w' => ∃ a b, e = .returned (.complex .f64 a b) ∧ Fl a (cs t) ∧ Fl b (sn t) ∧ w = w' := by
  have h3 := and3 t
  obtain ⟨q, hq⟩ : ∃ q, t % 4 = q := ⟨_, rfl⟩
  have hq0 : 0 ≤ q := by omega
  have hq4 : q < 4 := by omega
  have hc : cs t = if q = 0 then 1 else if q = 2 then -1 else 0 := by unfold cs; rw [hq]
  have hs : sn t = if q = 1 then -1 else if q = 3 then 1 else 0 := by unfold sn; rw [hq]
  rw [hq] at h3
  rw [hc, hs]
  clear hc hs hq
  have : q = 0 ∨ q = 1 ∨ q = 2 ∨ q = 3 := by omega
  go_enter Try.func15, Try.ntmps15
  rcases this with rfl | rfl | rfl | rfl
  · go_wp2
    go_ret
    exact ⟨_, _, rfl, fl1, fl0, rfl⟩
  · go_wp2
    go_ret
    exact ⟨_, _, rfl, fl0, flm1, rfl⟩
  · go_wp2
    go_ret
    exact ⟨_, _, rfl, flm1, fl0, rfl⟩
  · go_wp2
    go_ret
    exact ⟨_, _, rfl, fl0, fl1, rfl⟩

theorem run_trunc {b : Nat} {x : Int} (h : Fl b x) (w : World) : (Extern.MathFloor.toIntegral "math.archTrunc" .zero #[.float .f64 b]).run Try.prog w = .ok (.float .f64 b) w := by
  have hi := integral_Fl h
  obtain ⟨s, k, hr, _⟩ := h.read
  rw [hr] at hi
  have h2 : FloatKind.f64.decode b = .number s (x.natAbs * 2 ^ k) (-(k : Int)) := hr
  conv => lhs; arg 2; whnf
  rw [h2]
  show Result.ok (Value.float .f64 (Ieee.double.write ((Ieee.Datum.number s (x.natAbs * 2 ^ k) (-(k : Int))).integral .zero))) w = _
  rw [hi]
@[go_sem] theorem bits_call (b : Nat) (w : World) : (callFunc 25 #[.float .f64 b]).run Try.prog w = .ok (.value (.int .u64 (b : Nat))) w := by
  rw [run_callFunc_extern (e := Extern.MathFloatBits.float64bits) Try.func25 (by kernel_rfl) (by kernel_rfl) (by kernel_rfl) (by kernel_rfl)]; rfl
@[go_sem] theorem frombits_call (b : Nat) (w : World) : (callFunc 24 #[.int .u64 (b : Nat)]).run Try.prog w = .ok (.value (.float .f64 b)) w := by
  rw [run_callFunc_extern (e := Extern.MathFloatBits.float64frombits) Try.func24 (by kernel_rfl) (by kernel_rfl) (by kernel_rfl) (by kernel_rfl)]
  show Result.ok (Next.value (.float .f64 ((b : Int).toNat))) w = _
  rw [Int.toNat_natCast]
theorem trunc_call {b : Nat} {x : Int} (h : Fl b x) (w : World) : (callFunc 26 #[.float .f64 b]).run Try.prog w = .ok (.value (.float .f64 b)) w := by
  rw [run_callFunc_extern (e := Extern.MathFloor.toIntegral "math.archTrunc" .zero) Try.func26 (by kernel_rfl) (by kernel_rfl) (by kernel_rfl) (by kernel_rfl), run_trunc h]; rfl
theorem cmp_lt {x y : Int} (h : x < y) : compare x y = .lt := by
  show compareOfLessAndEq x y = _; unfold compareOfLessAndEq; rw [if_pos h]
theorem cmp_eq (x : Int) : compare x x = .eq := by
  show compareOfLessAndEq x x = _; unfold compareOfLessAndEq; rw [if_neg (by omega), if_pos rfl]
theorem cmp_gt {x y : Int} (h : y < x) : compare x y = .gt := by
  show compareOfLessAndEq x y = _; unfold compareOfLessAndEq; rw [if_neg (by omega), if_neg (by omega)]
set_option maxHeartbeats 400000 in
theorem abs_any {b : Nat} {x : Int} (h : Fl b x) (w : World) :
    Calls Try.prog 22 #[.float .f64 b] w fun e w' => ∃ c, e = .returned (.float .f64 c) ∧ Fl c x.natAbs ∧ w = w' := by
  obtain ⟨c, hc, hf⟩ := abs_Fl h
  go_enter Try.func22, Try.ntmps22
  go_wp2
  go_ret
  exact ⟨_, rfl, hf, rfl⟩
set_option maxHeartbeats 400000 in
theorem trunc_any {b : Nat} {x : Int} (h : Fl b x) (w : World) :
    Calls Try.prog 23 #[.float .f64 b] w fun e w' => e = .returned (.float .f64 b) ∧ w = w' := by
  have ht := trunc_call h
  go_enter Try.func23, Try.ntmps23
  go_wp2
  go_ret
  exact ⟨rfl, rfl⟩
theorem big25 : Fl 4719772409484279808 33554432 := by
  have h : W false (33554432 : Int).natAbs = 4719772409484279808 := by decide
  have := Fl.mk (x := 33554432) false (by decide) (fun _ => by decide)
  rwa [h] at this
theorem big20 : Fl 4697254411347427328 1048576 := by
  have h : W false (1048576 : Int).natAbs = 4697254411347427328 := by decide
  have := Fl.mk (x := 1048576) false (by decide) (fun _ => by decide)
  rwa [h] at this
theorem order_le {a b : Nat} {x y : Int} (ha : Fl a x) (hb : Fl b y) (h : x ≤ y) : FloatKind.f64.format.order a b = some .lt ∨ FloatKind.f64.format.order a b = some .eq := by
  have : FloatKind.f64.format.order a b = some (compare x y) := order_Fl ha hb
  rw [this]
  rcases Int.lt_or_eq_of_le h with h | h
  · rw [cmp_lt h]; exact .inl rfl
  · rw [h, cmp_eq]; exact .inr rfl
theorem order_gt {a b : Nat} {x y : Int} (ha : Fl a x) (hb : Fl b y) (h : y < x) : FloatKind.f64.format.order a b = some .gt := by
  have : FloatKind.f64.format.order a b = some (compare x y) := order_Fl ha hb
  rw [this, cmp_gt h]
theorem order_self {a : Nat} {x : Int} (h : Fl a x) : FloatKind.f64.format.order a a = some .eq := by
  have : FloatKind.f64.format.order a a = some (compare x x) := order_Fl h h
  rw [this, cmp_eq]
theorem toI {b : Nat} {x : Int} (h : Fl b x) : floatToIntVal .f64 b .i64 = some x := by
  unfold floatToIntVal
  have e : (FloatKind.f64.decode b).toInt .zero = some x := toInt_Fl h
  have hx := h.1
  rw [e]
  simp only
  rw [if_pos]
  exact ⟨by show (-9223372036854775808 : Int) ≤ x; omega, by show x ≤ (9223372036854775807 : Int); omega⟩
theorem conv_any {b : Nat} {x : Int} (h : Fl b x) (w : World) : (convert 43 3 (.float .f64 b)).run Try.prog w = .ok (.int .i64 x) w :=
  run_convert_float_int w _ _ .f64 .i64 b x (by rw [Try.underlying43]; rfl) Try.underlying3 (toI h)
def wholeV (x : Int) : Int := if (x.natAbs : Int) ≤ 33554432 then x else 0
set_option maxHeartbeats 400000 in
theorem whole_any {b : Nat} {x : Int} (h : Fl b x) (w : World) :
    Calls Try.prog 21 #[.float .f64 b] w fun e w' => e = .returned (.tuple #[.int .i64 (wholeV x), .bool (decide ((x.natAbs : Int) ≤ 33554432))]) ∧ w = w' := by
  have hcv := conv_any h
  have ho := order_self h
  unfold wholeV
  by_cases hle : (x.natAbs : Int) ≤ 33554432
  · rw [if_pos hle, decide_eq_true hle]
    go_enter Try.func21, Try.ntmps21
    go_wp2_with fail
    refine (abs_any h _).mono ?_
    rintro e w' ⟨c, rfl, hc, rfl⟩
    rcases order_le hc big25 hle with h1 | h1
    · clear hle
      go_wp2_with fail
      refine (trunc_any h _).mono ?_
      rintro e w' ⟨rfl, rfl⟩
      go_wp2_with fail
      go_ret2
      exact ⟨rfl, rfl⟩
    · clear hle
      go_wp2_with fail
      refine (trunc_any h _).mono ?_
      rintro e w' ⟨rfl, rfl⟩
      go_wp2_with fail
      go_ret2
      exact ⟨rfl, rfl⟩
  · rw [if_neg hle, decide_eq_false hle]
    go_enter Try.func21, Try.ntmps21
    go_wp2_with fail
    refine (abs_any h _).mono ?_
    rintro e w' ⟨c, rfl, hc, rfl⟩
    have h1 := order_gt hc big25 (by omega)
    clear hle
    go_wp2_with fail
    go_ret2
    exact ⟨rfl, rfl⟩
/-- a length's square, as the program tells it -/
def powV (x y : Int) : Int := if (x.natAbs : Int) ≤ 33554432 ∧ (y.natAbs : Int) ≤ 33554432 then x * x + y * y else 0
theorem sq_le {x : Int} (h : (x.natAbs : Int) ≤ 33554432) : 0 ≤ x * x ∧ x * x ≤ 1125899906842624 := by
  have h1 := Int.natAbs_mul_self' x
  have h2 : x.natAbs * x.natAbs ≤ 33554432 * 33554432 := Nat.mul_le_mul (by omega) (by omega)
  rw [← h1]
  have h3 : ((x.natAbs * x.natAbs : Nat) : Int) = (x.natAbs : Int) * x.natAbs := by push_cast; rfl
  rw [← h3]
  omega
set_option maxHeartbeats 400000 in
theorem power_any {a b : Nat} {x y : Int} (ha : Fl a x) (hb : Fl b y) (w : World) :
    Calls Try.prog 12 #[.complex .f64 a b] w fun e w' => e = .returned (.int .i64 (powV x y)) ∧ w = w' := by
  have HA := Lib.hid ha
  have HB := Lib.hid hb
  clear ha hb
  by_cases hx : (x.natAbs : Int) ≤ 33554432
  · by_cases hy : (y.natAbs : Int) ≤ 33554432
    · have hp : powV x y = x * x + y * y := by unfold powV; rw [if_pos ⟨hx, hy⟩]
      have e1 : wholeV x = x := by unfold wholeV; rw [if_pos hx]
      have e2 : wholeV y = y := by unfold wholeV; rw [if_pos hy]
      have d1 := decide_eq_true hx
      have d2 := decide_eq_true hy
      have s1 := sq_le hx
      have s2 := sq_le hy
      rw [hp]
      generalize hxx : x * x = X at *
      generalize hyy : y * y = Y at *
      have w1 : wrap64 X = X := IntWalk.wrap64_in _ (by omega)
      have w2 : wrap64 Y = Y := IntWalk.wrap64_in _ (by omega)
      have w3 : wrap64 (X + Y) = X + Y := IntWalk.wrap64_in _ (by omega)
      have S1 := Lib.hid s1
      have S2 := Lib.hid s2
      clear s1 s2 hx hy hp
      go_enter Try.func12, Try.ntmps12
      go_wp2_with fail
      refine (whole_any HA.out _).mono ?_
      rintro e w' ⟨rfl, rfl⟩
      rw [e1, d1]
      go_wp2_with fail
      refine (whole_any HB.out _).mono ?_
      rintro e w' ⟨rfl, rfl⟩
      rw [e2, d2]
      go_wp2_with fail
      go_ret
      exact ⟨congrArg (fun z => Ending.returned (.int .i64 z)) w3, rfl⟩
    · have hp : powV x y = 0 := by unfold powV; rw [if_neg (fun h => hy h.2)]
      have e1 : wholeV x = x := by unfold wholeV; rw [if_pos hx]
      have d1 := decide_eq_true hx
      have d2 := decide_eq_false hy
      rw [hp]
      clear hx hy hp
      go_enter Try.func12, Try.ntmps12
      go_wp2_with fail
      refine (whole_any HA.out _).mono ?_
      rintro e w' ⟨rfl, rfl⟩
      rw [e1, d1]
      go_wp2_with fail
      refine (whole_any HB.out _).mono ?_
      rintro e w' ⟨rfl, rfl⟩
      rw [d2]
      go_wp2_with fail
      go_ret
      exact ⟨rfl, rfl⟩
  · have hp : powV x y = 0 := by unfold powV; rw [if_neg (fun h => hx h.1)]
    have d1 := decide_eq_false hx
    rw [hp]
    clear hx hp
    go_enter Try.func12, Try.ntmps12
    go_wp2_with fail
    refine (whole_any HA.out _).mono ?_
    rintro e w' ⟨rfl, rfl⟩
    rw [d1]
    go_wp2_with fail
    refine (whole_any HB.out _).mono ?_
    rintro e w' ⟨rfl, rfl⟩
    go_wp2_with fail
    go_ret
    exact ⟨rfl, rfl⟩
end Go.Proofs.Ytenoldpfclmedaa
