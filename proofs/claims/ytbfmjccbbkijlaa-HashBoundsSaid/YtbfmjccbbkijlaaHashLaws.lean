/- This text proves the walks of the laws HashOne, HashSpot and HashBounds: they return true at every input. -/
import Derived.Test.YtbfmjccbbkijlaaHashMix
namespace Go.Proofs.Ytbfmjccbbkijlaa
open Go.ChangeShapes Go.WideShapes Go.ChangeAt Go.RowKit

theorem mul_back (x : Nat) (h : x < 4294967296) : ((x * 16777619) % 4294967296 * 899433627) % 4294967296 = x := by omega
theorem xor_lt (h b : Nat) (hh : h < 4294967296) (hb : b < 256) : h ^^^ b < 4294967296 := Nat.xor_lt_two_pow (n := 32) hh (Nat.lt_of_lt_of_le hb (by decide))
theorem mixStep_xor (h b h' b' : Nat) (hh : h < 4294967296) (hb : b < 256) (hh' : h' < 4294967296) (hb' : b' < 256) (e : mixStep h b = mixStep h' b') : h ^^^ b = h' ^^^ b' := by
  unfold mixStep at e
  have h1 := mul_back _ (xor_lt h b hh hb)
  have h2 := mul_back _ (xor_lt h' b' hh' hb')
  rw [e] at h1
  exact h1.symm.trans h2
theorem mixStep_inj_h (h b h' : Nat) (hh : h < 4294967296) (hb : b < 256) (hh' : h' < 4294967296) (e : mixStep h b = mixStep h' b) : h = h' := by
  have h1 := mixStep_xor h b h' b hh hb hh' hb e
  have h2 : (h ^^^ b) ^^^ b = (h' ^^^ b) ^^^ b := by rw [h1]
  simpa [Nat.xor_assoc] using h2
theorem mixStep_inj_b (h b b' : Nat) (hh : h < 4294967296) (hb : b < 256) (hb' : b' < 256) (e : mixStep h b = mixStep h b') : b = b' := by
  have h1 := mixStep_xor h b h b' hh hb hh hb' e
  have h2 : h ^^^ (h ^^^ b) = h ^^^ (h ^^^ b') := by rw [h1]
  simpa [← Nat.xor_assoc] using h2
theorem mix4 (a b c d h : Nat) : mixN [a, b, c, d] h = mixStep (mixStep (mixStep (mixStep h a) b) c) d := by
  unfold mixN
  rw [List.foldl_cons, List.foldl_cons, List.foldl_cons, List.foldl_cons, List.foldl_nil]
theorem spotN_inj_i (b i k : Nat) (_hb : b < 12) (hi : i < 32) (hk : k < 32) (e : spotN b i = spotN b k) : i = k := by
  unfold spotN at e
  rw [mix4, mix4] at e
  have e1 := mixStep_inj_h _ _ _ (mixStep_lt _ _) (by omega) (mixStep_lt _ _) e
  exact mixStep_inj_b _ _ _ (mixStep_lt _ _) (by omega) (by omega) e1
theorem spotN_inj_b (b c i : Nat) (hb : b < 12) (hc : c < 12) (hi : i < 32) (e : spotN b i = spotN c i) : b = c := by
  unfold spotN at e
  rw [mix4, mix4] at e
  have e1 := mixStep_inj_h _ _ _ (mixStep_lt _ _) (by omega) (mixStep_lt _ _) e
  have e2 := mixStep_inj_h _ _ _ (mixStep_lt _ _) (by omega) (mixStep_lt _ _) e1
  exact mixStep_inj_b _ _ _ (mixStep_lt _ _) (by omega) (by omega) e2
/-- keys that differ in one byte alone -/
theorem keyN_one (a c q : Nat) (ha : a < 4294967296) (hc : 1 ≤ c) (hc' : c < 256) (hq : q < 4) : keyN a ≠ keyN (a ^^^ (c * 2 ^ (8 * q))) := by
  intro e
  have d1 : ∀ y, (a ^^^ y) / 256 = a / 256 ^^^ y / 256 := fun y => Nat.xor_div_two_pow (n := 8)
  have d2 : ∀ y, (a ^^^ y) / 65536 = a / 65536 ^^^ y / 65536 := fun y => Nat.xor_div_two_pow (n := 16)
  have d3 : ∀ y, (a ^^^ y) / 16777216 = a / 16777216 ^^^ y / 16777216 := fun y => Nat.xor_div_two_pow (n := 24)
  have m1 : ∀ x y : Nat, (x ^^^ y) % 256 = x % 256 ^^^ y % 256 := fun x y => Nat.xor_mod_two_pow (n := 8)
  have neq : ∀ x : Nat, x ≠ x ^^^ c := fun x h => by
    have h2 : x ^^^ x = x ^^^ (x ^^^ c) := by rw [← h]
    rw [← Nat.xor_assoc, Nat.xor_self, Nat.zero_xor] at h2
    omega
  have lt1 : ∀ x : Nat, x < 256 → x ^^^ c < 256 := fun x h => Nat.xor_lt_two_pow (n := 8) h hc'
  unfold keyN at e
  rw [mix4, mix4, d1, d2, d3, m1, m1, m1] at e
  have hq' : q = 0 ∨ q = 1 ∨ q = 2 ∨ q = 3 := by omega
  rcases hq' with rfl | rfl | rfl | rfl
  · rw [show c * 2 ^ (8 * 0) % 256 = c by omega, show c * 2 ^ (8 * 0) / 256 % 256 = 0 by omega, show c * 2 ^ (8 * 0) / 65536 % 256 = 0 by omega, show c * 2 ^ (8 * 0) / 16777216 = 0 by omega, Nat.xor_zero, Nat.xor_zero, Nat.xor_zero] at e
    have e1 := mixStep_inj_h _ _ _ (mixStep_lt _ _) (by omega) (mixStep_lt _ _) e
    have e2 := mixStep_inj_h _ _ _ (mixStep_lt _ _) (by omega) (mixStep_lt _ _) e1
    have e3 := mixStep_inj_h _ _ _ (mixStep_lt _ _) (by omega) (mixStep_lt _ _) e2
    exact neq _ (mixStep_inj_b _ _ _ (by omega) (by omega) (lt1 _ (by omega)) e3)
  · rw [show c * 2 ^ (8 * 1) % 256 = 0 by omega, show c * 2 ^ (8 * 1) / 256 % 256 = c by omega, show c * 2 ^ (8 * 1) / 65536 % 256 = 0 by omega, show c * 2 ^ (8 * 1) / 16777216 = 0 by omega, Nat.xor_zero, Nat.xor_zero, Nat.xor_zero] at e
    have e1 := mixStep_inj_h _ _ _ (mixStep_lt _ _) (by omega) (mixStep_lt _ _) e
    have e2 := mixStep_inj_h _ _ _ (mixStep_lt _ _) (by omega) (mixStep_lt _ _) e1
    exact neq _ (mixStep_inj_b _ _ _ (mixStep_lt _ _) (by omega) (lt1 _ (by omega)) e2)
  · rw [show c * 2 ^ (8 * 2) % 256 = 0 by omega, show c * 2 ^ (8 * 2) / 256 % 256 = 0 by omega, show c * 2 ^ (8 * 2) / 65536 % 256 = c by omega, show c * 2 ^ (8 * 2) / 16777216 = 0 by omega, Nat.xor_zero, Nat.xor_zero, Nat.xor_zero] at e
    have e1 := mixStep_inj_h _ _ _ (mixStep_lt _ _) (by omega) (mixStep_lt _ _) e
    exact neq _ (mixStep_inj_b _ _ _ (mixStep_lt _ _) (by omega) (lt1 _ (by omega)) e1)
  · rw [show c * 2 ^ (8 * 3) % 256 = 0 by omega, show c * 2 ^ (8 * 3) / 256 % 256 = 0 by omega, show c * 2 ^ (8 * 3) / 65536 % 256 = 0 by omega, show c * 2 ^ (8 * 3) / 16777216 = c by omega, Nat.xor_zero, Nat.xor_zero, Nat.xor_zero] at e
    exact neq _ (mixStep_inj_b _ _ _ (mixStep_lt _ _) (by omega) (lt1 _ (by omega)) e)

/-- the key with one byte turned, as the walk spells it -/
theorem one_byte (k q p : Int) (hk : 0 ≤ k) (hk' : k < 4294967296) (hq : 0 ≤ q) (hq' : q < 4) (hp : 0 ≤ p) (hp' : p < 255) :
    bits .xor .i64 k (wrap64 ((1 + p) * 2 ^ (8 * q).toNat)) = ((k.toNat ^^^ ((1 + p).toNat * 2 ^ (8 * q.toNat)) : Nat) : Int) ∧ (k.toNat ^^^ ((1 + p).toNat * 2 ^ (8 * q.toNat)) : Nat) < 4294967296 := by
  obtain ⟨k, rfl⟩ := Int.eq_ofNat_of_zero_le hk
  obtain ⟨q, rfl⟩ := Int.eq_ofNat_of_zero_le hq
  obtain ⟨p, rfl⟩ := Int.eq_ofNat_of_zero_le hp
  have e1 : (8 * (q : Int)).toNat = 8 * q := by omega
  have e2 : (1 + (p : Int)).toNat = 1 + p := by omega
  rw [e1, e2, Int.toNat_natCast, Int.toNat_natCast]
  have hb : (1 + p) * 2 ^ (8 * q) < 4294967296 := by
    have hq' : q = 0 ∨ q = 1 ∨ q = 2 ∨ q = 3 := by omega
    rcases hq' with rfl | rfl | rfl | rfl <;> omega
  have hx : k ^^^ ((1 + p) * 2 ^ (8 * q)) < 4294967296 := Nat.xor_lt_two_pow (n := 32) (by omega) (by omega)
  refine ⟨?_, hx⟩
  have e3 : wrap64 ((1 + (p : Int)) * 2 ^ (8 * q)) = (((1 + p) * 2 ^ (8 * q) : Nat) : Int) := by
    rw [show ((1 + (p : Int)) * 2 ^ (8 * q)) = (((1 + p) * 2 ^ (8 * q) : Nat) : Int) by rw [Int.natCast_mul, Int.natCast_pow, Int.natCast_add]; rfl]
    unfold wrap64
    omega
  rw [e3]
  generalize (1 + p) * 2 ^ (8 * q) = y at *
  show IntKind.i64.wrap ((BitVec.ofInt 64 (k : Int) ^^^ BitVec.ofInt 64 (y : Int)).toNat : Int) = _
  rw [BitVec.toNat_xor, ofInt_u64 k (by omega), ofInt_u64 y (by omega), IntKind.wrap_i64]
  omega

theorem HashBounds_walk (a0 a1 a2 : Int) (w0 : (Lit.int .i64 a0).wf = true) (w1 : (Lit.int .i64 a1).wf = true) (w2 : (Lit.int .i64 a2).wf = true) (w : World) :
    Calls Try.prog 11 #[.int .i64 a0, .int .i64 a1, .int .i64 a2] w fun e w' => e = .returned (.bool true) ∧ Below w.heap.size w w' := by
  have b0 := bounds_i64 w0
  have b1 := bounds_i64 w1
  have b2 := bounds_i64 w2
  have hk := pickedZ_range a0 4294967296 (by omega)
  have hb := pickedZ_range a1 12 (by omega)
  have hi := pickedZ_range a2 32 (by omega)
  have hj := pickedZ_range a2 1000 (by omega)
  go_enter Try.func11, Try.ntmps11
  go_wp2_with fail
  refine (picked_any a0 _ _ (by omega) (by omega) (by omega) (by omega)).mono ?_
  rintro e w' ⟨rfl, rfl⟩
  go_wp2_with fail
  refine (hashKey_any _ _ (by omega) (by omega)).mono ?_
  rintro e w1 ⟨rfl, hb1⟩
  obtain ⟨x, hx, hx0, hx1⟩ : ∃ x : Int, x = (keyN (pickedZ a0 4294967296).toNat : Nat) ∧ 0 ≤ x ∧ x ≤ 4294967295 := ⟨_, rfl, by omega, by have := keyN_lt (pickedZ a0 4294967296).toNat; omega⟩
  rw [← hx]
  clear hx
  go_wp2_with fail
  refine (picked_any a1 _ _ (by omega) (by omega) (by omega) (by omega)).mono ?_
  rintro e w' ⟨rfl, rfl⟩
  go_wp2_with fail
  refine (picked_any a2 _ _ (by omega) (by omega) (by omega) (by omega)).mono ?_
  rintro e w' ⟨rfl, rfl⟩
  go_wp2_with fail
  refine (hashSpot_any _ _ _ (by omega) (by omega) (by omega) (by omega)).mono ?_
  rintro e w2 ⟨rfl, hb2⟩
  obtain ⟨y, hy, hy0, hy1⟩ : ∃ y : Int, y = (spotN (pickedZ a1 12).toNat (pickedZ a2 32).toNat : Nat) ∧ 0 ≤ y ∧ y ≤ 4294967295 := ⟨_, rfl, by omega, by have := spotN_lt (pickedZ a1 12).toNat (pickedZ a2 32).toNat; omega⟩
  rw [← hy]
  clear hy
  go_wp2_with fail
  refine (picked_any a1 _ _ (by omega) (by omega) (by omega) (by omega)).mono ?_
  rintro e w' ⟨rfl, rfl⟩
  go_wp2_with fail
  refine (picked_any a2 _ _ (by omega) (by omega) (by omega) (by omega)).mono ?_
  rintro e w' ⟨rfl, rfl⟩
  go_wp2_with fail
  refine (hashSpot_far _ _ _ (by omega) (by omega) (by omega)).mono ?_
  rintro e w' ⟨rfl, rfl⟩
  go_wp2
  go_ret
  exact ⟨ret_bool (by simp; omega), hb1.trans (hb2.mono hb1.size)⟩

theorem HashSpot_walk (a0 a1 a2 a3 : Int) (w0 : (Lit.int .i64 a0).wf = true) (w1 : (Lit.int .i64 a1).wf = true) (w2 : (Lit.int .i64 a2).wf = true) (w3 : (Lit.int .i64 a3).wf = true) (w : World) :
    Calls Try.prog 7 #[.int .i64 a0, .int .i64 a1, .int .i64 a2, .int .i64 a3] w fun e w' => e = .returned (.bool true) ∧ Below w.heap.size w w' := by
  have b0 := bounds_i64 w0
  have b1 := bounds_i64 w1
  have b2 := bounds_i64 w2
  have b3 := bounds_i64 w3
  have ha := pickedZ_range a0 12 (by omega)
  have hb := pickedZ_range a1 12 (by omega)
  have hx := pickedZ_range a2 32 (by omega)
  have hy := pickedZ_range a3 32 (by omega)
  go_enter Try.func7, Try.ntmps7
  go_wp2_with fail
  refine (picked_any a0 _ _ (by omega) (by omega) (by omega) (by omega)).mono ?_
  rintro e w' ⟨rfl, rfl⟩
  go_wp2_with fail
  refine (picked_any a1 _ _ (by omega) (by omega) (by omega) (by omega)).mono ?_
  rintro e w' ⟨rfl, rfl⟩
  go_wp2_with fail
  refine (picked_any a2 _ _ (by omega) (by omega) (by omega) (by omega)).mono ?_
  rintro e w' ⟨rfl, rfl⟩
  go_wp2_with fail
  refine (picked_any a3 _ _ (by omega) (by omega) (by omega) (by omega)).mono ?_
  rintro e w' ⟨rfl, rfl⟩
  generalize pickedZ a0 12 = a at *
  generalize pickedZ a1 12 = b at *
  generalize pickedZ a2 32 = x at *
  generalize pickedZ a3 32 = y at *
  go_wp2_with fail
  refine (hashSpot_any _ _ _ (by omega) (by omega) (by omega) (by omega)).mono ?_
  rintro e w1 ⟨rfl, hb1⟩
  go_wp2_with fail
  refine (hashSpot_any _ _ _ (by omega) (by omega) (by omega) (by omega)).mono ?_
  rintro e w2 ⟨rfl, hb2⟩
  go_wp2_with fail
  refine (hashSpot_any _ _ _ (by omega) (by omega) (by omega) (by omega)).mono ?_
  rintro e w3 ⟨rfl, hb3⟩
  have i1 := spotN_inj_i a.toNat x.toNat y.toNat (by omega) (by omega) (by omega)
  have i2 := spotN_inj_b a.toNat b.toNat x.toNat (by omega) (by omega) (by omega)
  have j1 : ((spotN a.toNat x.toNat : Nat) : Int) = (spotN a.toNat y.toNat : Nat) ↔ x = y := ⟨fun h => by have := i1 (by omega); omega, fun h => by rw [h]⟩
  have j2 : ((spotN a.toNat x.toNat : Nat) : Int) = (spotN b.toNat x.toNat : Nat) ↔ a = b := ⟨fun h => by have := i2 (by omega); omega, fun h => by rw [h]⟩
  clear i1 i2
  generalize ((spotN a.toNat x.toNat : Nat) : Int) = p at *
  generalize ((spotN a.toNat y.toNat : Nat) : Int) = q at *
  generalize ((spotN b.toNat x.toNat : Nat) : Int) = r at *
  have k1 : (p == q) = (x == y) := by rw [Bool.eq_iff_iff]; simpa using j1
  have k2 : (p == r) = (a == b) := by rw [Bool.eq_iff_iff]; simpa using j2
  clear j1 j2
  go_wp2
  all_goals (go_ret; exact ⟨ret_bool (by simp), hb1.trans ((hb2.mono hb1.size).trans (hb3.mono (Nat.le_trans hb1.size hb2.size)))⟩)

theorem HashOne_walk (a0 a1 a2 : Int) (w0 : (Lit.int .i64 a0).wf = true) (w1 : (Lit.int .i64 a1).wf = true) (w2 : (Lit.int .i64 a2).wf = true) (w : World) :
    Calls Try.prog 6 #[.int .i64 a0, .int .i64 a1, .int .i64 a2] w fun e w' => e = .returned (.bool true) ∧ Below w.heap.size w w' := by
  have b0 := bounds_i64 w0
  have b1 := bounds_i64 w1
  have b2 := bounds_i64 w2
  have hk := pickedZ_range a0 4294967296 (by omega)
  have hb := pickedZ_range a2 255 (by omega)
  have hi := pickedZ_range a1 4 (by omega)
  go_enter Try.func6, Try.ntmps6
  go_wp2_with fail
  refine (picked_any a0 _ _ (by omega) (by omega) (by omega) (by omega)).mono ?_
  rintro e w' ⟨rfl, rfl⟩
  go_wp2_with fail
  refine (picked_any a2 _ _ (by omega) (by omega) (by omega) (by omega)).mono ?_
  rintro e w' ⟨rfl, rfl⟩
  go_wp2_with fail
  refine (picked_any a1 _ _ (by omega) (by omega) (by omega) (by omega)).mono ?_
  rintro e w' ⟨rfl, rfl⟩
  generalize pickedZ a0 4294967296 = k at *
  generalize pickedZ a1 4 = q at *
  generalize pickedZ a2 255 = p at *
  obtain ⟨o1, o2⟩ := one_byte k q p (by omega) (by omega) (by omega) (by omega) (by omega) (by omega)
  have o3 := keyN_one k.toNat (1 + p).toNat q.toNat (by omega) (by omega) (by omega) (by omega)
  generalize k.toNat ^^^ ((1 + p).toNat * 2 ^ (8 * q.toNat)) = y at *
  have O3 : ((keyN k.toNat : Nat) : Int) ≠ (keyN y : Nat) := fun h => o3 (by omega)
  have O1 := Lib.hid o1
  have H2 := Lib.hid o2
  clear o1 o2 o3
  go_wp2_with fail
  refine (hashKey_any _ _ (by omega) (by omega)).mono ?_
  rintro e w1 ⟨rfl, hb1⟩
  rw [O1.out]
  go_wp2_with fail
  refine (hashKey_ok _ _ H2.out).mono ?_
  rintro e w2 ⟨rfl, hb2⟩
  generalize ((keyN k.toNat : Nat) : Int) = u at *
  generalize ((keyN y : Nat) : Int) = v at *
  have O4 : (u != v) = true := by simpa using O3
  clear O3
  go_wp2
  go_ret
  exact ⟨ret_bool (by simp), hb1.trans (hb2.mono hb1.size)⟩
end Go.Proofs.Ytbfmjccbbkijlaa
