/- This text proves what hash.mix, hash.Key and hash.Spot compute. The slice that mix takes is read only. -/
import Derived.Test.YtbfmjccbbkijlaaBase
import Derived.Laws.BitsAllLaws
namespace Go.Proofs.Ytbfmjccbbkijlaa
open Go.ChangeShapes Go.WideShapes Go.ChangeAt Go.RowKit

def mixStep (h b : Nat) : Nat := ((h ^^^ b) * 16777619) % 4294967296
def mixN (l : List Nat) (h : Nat) : Nat := l.foldl mixStep h
theorem mixStep_lt (h b : Nat) : mixStep h b < 4294967296 := by unfold mixStep; omega
theorem mixN_lt (l : List Nat) (h : Nat) (hh : h < 4294967296) : mixN l h < 4294967296 := by
  unfold mixN
  induction l generalizing h with
  | nil => simpa using hh
  | cons b l ih => rw [List.foldl_cons]; exact ih _ (mixStep_lt h b)
theorem mixN_snoc (l : List Nat) (h b : Nat) : mixN (l ++ [b]) h = mixStep (mixN l h) b := by unfold mixN; rw [List.foldl_append, List.foldl_cons, List.foldl_nil]
theorem mixStep_int (h b : Nat) (hh : h < 4294967296) (hb : b < 256) : bits .xor .u32 (h : Int) (b : Int) * 16777619 % 4294967296 = (mixStep h b : Int) := by
  rw [u32_xor_nat h b hh (by omega)]
  unfold mixStep
  omega

theorem mixN_nil (h : Nat) : mixN [] h = h := by unfold mixN; rw [List.foldl_nil]
attribute [irreducible] mixStep mixN

theorem mix_any (bs : List Nat) (b off cap : Nat) (w : World) (hlen : bs.length ≤ 100) (hbs : ∀ i, i < bs.length → bs.getD i 0 < 256)
    (hc : ∀ i, i < bs.length → w.cell? ⟨b, off + i, none⟩ = some (.int .u8 ((bs.getD i 0 : Nat) : Int))) :
    Calls Try.prog 29 #[.slice (some ⟨b, off, none⟩) bs.length cap] w fun e w' => e = .returned (.int .i64 (mixN bs 2166136261 : Nat)) ∧ w = w' := by
  have HB := Lib.hid hbs; clear hbs
  have HC := Lib.hid hc; clear hc
  go_enter Try.func29, Try.ntmps29
  go_wp2
  go_loop [3, 8] (fun h i => ∃ k : Nat, k ≤ bs.length ∧ i = .int .i64 k ∧ h = .int .u32 (mixN (bs.take k) 2166136261 : Nat)) (fun _ i => bs.length - (intOf i).toNat)
  case atStart => exact ⟨0, by omega, rfl, by rw [List.take_zero, mixN_nil]; rfl⟩
  case round =>
    obtain ⟨k, hk, rfl, rfl⟩ := hrel
    have hm := mixN_lt (bs.take k) 2166136261 (by omega)
    by_cases hlt : k < bs.length
    · have hb := HB.out k hlt
      have hcell := HC.out k hlt
      have hs : mixN (bs.take (k + 1)) 2166136261 = mixStep (mixN (bs.take k) 2166136261) (bs.getD k 0) := by
        rw [List.take_succ_eq_append_getElem hlt, mixN_snoc, show bs.getD k 0 = bs[k] by simp [hlt]]
      have hst := mixStep_int (mixN (bs.take k) 2166136261) (bs.getD k 0) hm hb
      have HS := Lib.hid hs; clear hs
      have HT := Lib.hid hst; clear hst
      generalize bs.getD k 0 = x at *
      generalize mixN (bs.take k) 2166136261 = h at *
      go_wp2
      go_round
      case rel => exact ⟨k + 1, by omega, by go_num, by rw [HS.out, ← HT.out]⟩
      case measure => simp [intOf]; omega
    · obtain rfl : k = bs.length := by omega
      rw [List.take_length] at *
      go_wp2
      go_ret
      exact ⟨rfl, rfl⟩

/-- the place of a key -/
def keyN (k : Nat) : Nat := mixN [k % 256, k / 256 % 256, k / 65536 % 256, k / 16777216] 2166136261
/-- the place of a spot -/
def spotN (b i : Nat) : Nat := mixN [98, b, i, 115] 2166136261
theorem keyN_lt (k : Nat) : keyN k < 4294967296 := mixN_lt _ _ (by omega)
theorem spotN_lt (b i : Nat) : spotN b i < 4294967296 := mixN_lt _ _ (by omega)

theorem hashKey_ok (k : Nat) (w : World) (hk : k < 4294967296) :
    Calls Try.prog 19 #[.int .i64 k] w fun e w' => e = .returned (.tuple #[.int .i64 (keyN k : Nat), .int .i64 0]) ∧ Below w.heap.size w w' := by
  have E := Lib.hid (show keyN k = mixN [k % 256, k / 256 % 256, k / 65536 % 256, k / 16777216] 2166136261 from rfl)
  go_enter Try.func19, Try.ntmps19
  go_wp2_with fail
  refine (mix_any [k % 256, k / 256 % 256, k / 65536 % 256, k / 16777216] w.heap.size 0 4 _ (by simp) ?_ ?_).mono ?_
  · intro i hi
    have h : i = 0 ∨ i = 1 ∨ i = 2 ∨ i = 3 := by simp at hi; omega
    rcases h with rfl | rfl | rfl | rfl <;> simp <;> omega
  · intro i hi
    have h : i = 0 ∨ i = 1 ∨ i = 2 ∨ i = 3 := by simp at hi; omega
    rcases h with rfl | rfl | rfl | rfl <;> simp [go_sem]
  rintro e w' ⟨rfl, rfl⟩
  rw [← E.out]
  go_wp2
  go_ret2
  exact ⟨rfl, (Below.refl _ _).alloc (Nat.le_refl _) _⟩

theorem hashSpot_ok (b i : Nat) (w : World) (hb : b < 12) (hi : i < 32) :
    Calls Try.prog 20 #[.int .i64 b, .int .i64 i] w fun e w' => e = .returned (.tuple #[.int .i64 (spotN b i : Nat), .int .i64 0]) ∧ Below w.heap.size w w' := by
  have E := Lib.hid (show spotN b i = mixN [98, b, i, 115] 2166136261 from rfl)
  go_enter Try.func20, Try.ntmps20
  go_wp2_with fail
  refine (mix_any [98, b, i, 115] w.heap.size 0 4 _ (by simp) ?_ ?_).mono ?_
  · intro i hi
    have h : i = 0 ∨ i = 1 ∨ i = 2 ∨ i = 3 := by simp at hi; omega
    rcases h with rfl | rfl | rfl | rfl <;> simp <;> omega
  · intro i hi
    have h : i = 0 ∨ i = 1 ∨ i = 2 ∨ i = 3 := by simp at hi; omega
    rcases h with rfl | rfl | rfl | rfl <;> simp [go_sem]
  rintro e w' ⟨rfl, rfl⟩
  rw [← E.out]
  go_wp2
  go_ret2
  exact ⟨rfl, (Below.refl _ _).alloc (Nat.le_refl _) _⟩

theorem hashKey_any (k : Int) (w : World) (h0 : 0 ≤ k) (hk : k < 4294967296) :
    Calls Try.prog 19 #[.int .i64 k] w fun e w' => e = .returned (.tuple #[.int .i64 (keyN k.toNat : Nat), .int .i64 0]) ∧ Below w.heap.size w w' := by
  obtain ⟨k, rfl⟩ := Int.eq_ofNat_of_zero_le h0
  exact hashKey_ok k w (by omega)
theorem hashSpot_any (b i : Int) (w : World) (hb : 0 ≤ b) (hb' : b < 12) (hi : 0 ≤ i) (hi' : i < 32) :
    Calls Try.prog 20 #[.int .i64 b, .int .i64 i] w fun e w' => e = .returned (.tuple #[.int .i64 (spotN b.toNat i.toNat : Nat), .int .i64 0]) ∧ Below w.heap.size w w' := by
  obtain ⟨b, rfl⟩ := Int.eq_ofNat_of_zero_le hb
  obtain ⟨i, rfl⟩ := Int.eq_ofNat_of_zero_le hi
  exact hashSpot_ok b i w (by omega) (by omega)

theorem hashSpot_far (b i : Int) (w : World) (hb : 0 ≤ b) (hb' : b < 12) (hi : 32 ≤ i) :
    Calls Try.prog 20 #[.int .i64 b, .int .i64 i] w fun e w' => e = .returned (.tuple #[.int .i64 0, .int .i64 2]) ∧ w = w' := by
  go_enter Try.func20, Try.ntmps20
  go_wp2
  go_ret2
  exact ⟨rfl, rfl⟩
end Go.Proofs.Ytbfmjccbbkijlaa
