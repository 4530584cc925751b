/- This text holds the plain laws on lists of outputs: what is counted of them, their stories. It has no condition of its own. -/
import Derived.Test.YtfkeddefajkobaaBas
set_option linter.unusedSimpArgs false
set_option linter.unusedVariables false
namespace Go.Proofs.Ytfkeddefajkobaa
open Go.RowKit
/-- an output -/
structure Outp where
  kind : Int
  slot : Int
  gen : Int
  backend : Int
  request : Int
  code : Int
  why : Int
def Outp.D (o : Outp) : List D := [I o.kind, I o.slot, I o.gen, I o.backend, I o.request, I o.code, I o.why]
def toldOut (r : List Int) : Outp := ⟨1 + pickedZ (r.getD 0 0) 10, pickedZ (r.getD 1 0) 3, pickedZ (r.getD 2 0) 2, pickedZ (r.getD 3 0) 12, 0, 0, pickedZ (r.getD 4 0) 6⟩
def toldsL (l : List (List Int)) : List Outp := (l.take 60).map toldOut
/-- within their bounds -/
structure OutFits (o : Outp) : Prop where
  k0 : 1 ≤ o.kind
  k1 : o.kind ≤ 10
  w0 : 0 ≤ o.why
  w1 : o.why ≤ 5

def bump (c : List Int) (i : Nat) : List Int := c.set i (c.getD i 0 + 1)
/-- the counts behind one output more: eleven of kinds, six of whys -/
def tallyStep (c : List Int) (o : Outp) : List Int := if o.kind = 6 then bump (bump c o.kind.toNat) (11 + o.why.toNat) else bump c o.kind.toNat
def tallyL (l : List Outp) : List Int := l.foldl tallyStep (List.replicate 17 0)
theorem bump_len (c : List Int) (i : Nat) : (bump c i).length = c.length := by simp [bump]
theorem tallyStep_len (c : List Int) (o : Outp) : (tallyStep c o).length = c.length := by
  unfold tallyStep; split <;> simp [bump_len]
theorem bump_get (c : List Int) (i j : Nat) (hi : i < c.length) : (bump c i).getD j 0 = c.getD j 0 + (if i = j then 1 else 0) := by
  unfold bump
  by_cases h : i = j
  · subst h; simp [List.getD, hi]
  · simp [List.getD, List.getElem?_set_ne h, h]
theorem bump_bd (c : List Int) (i : Nat) (hi : i < c.length) (n : Int) (h : ∀ j, 0 ≤ c.getD j 0 ∧ c.getD j 0 ≤ n) : ∀ j, 0 ≤ (bump c i).getD j 0 ∧ (bump c i).getD j 0 ≤ n + 1 := by
  intro j
  have := h j
  rw [bump_get c i j hi]
  split <;> omega
/-- what one output adds at place j -/
def delta (o : Outp) (j : Nat) : Int := (if o.kind.toNat = j then 1 else 0) + (if o.kind = 6 ∧ 11 + o.why.toNat = j then 1 else 0)
def cnt (l : List Outp) (j : Nat) : Int := (l.map fun o => delta o j).sum
theorem tallyStep_get (c : List Int) (o : Outp) (h : OutFits o) (hc : c.length = 17) (j : Nat) : (tallyStep c o).getD j 0 = c.getD j 0 + delta o j := by
  obtain ⟨k0, k1, w0, w1⟩ := h
  unfold tallyStep delta
  split
  · rename_i h6
    rw [bump_get _ _ _ (by rw [bump_len]; omega), bump_get _ _ _ (by omega)]
    simp only [h6, true_and]
    omega
  · rename_i h6
    rw [bump_get _ _ _ (by omega)]
    simp [h6]
theorem foldl_get (l : List Outp) (hok : ∀ x ∈ l, OutFits x) (c : List Int) (hc : c.length = 17) (j : Nat) : (l.foldl tallyStep c).getD j 0 = c.getD j 0 + cnt l j := by
  induction l generalizing c with
  | nil => simp [cnt]
  | cons o l ih =>
    rw [List.foldl_cons, ih (fun x hx => hok x (List.mem_cons_of_mem _ hx)) _ (by rw [tallyStep_len]; exact hc), tallyStep_get c o (hok o (List.mem_cons_self ..)) hc]
    simp [cnt]; omega
theorem zero17 (j : Nat) : (List.replicate 17 (0 : Int)).getD j 0 = 0 := by
  rw [List.getD_eq_getElem?_getD, List.getElem?_replicate]; split <;> rfl
theorem tallyL_get (l : List Outp) (hok : ∀ x ∈ l, OutFits x) (j : Nat) : (tallyL l).getD j 0 = cnt l j := by
  unfold tallyL
  rw [foldl_get l hok _ rfl j, zero17]; omega
theorem foldl_len (l : List Outp) (c : List Int) : (l.foldl tallyStep c).length = c.length := by
  induction l generalizing c with
  | nil => rfl
  | cons o l ih => rw [List.foldl_cons, ih, tallyStep_len]
theorem tallyL_len (l : List Outp) : (tallyL l).length = 17 := by unfold tallyL; rw [foldl_len]; rfl
theorem cnt_app (a b : List Outp) (j : Nat) : cnt (a ++ b) j = cnt a j + cnt b j := by simp [cnt]
theorem cnt_bd (l : List Outp) (j : Nat) : 0 ≤ cnt l j ∧ cnt l j ≤ 2 * l.length := by
  induction l with
  | nil => simp [cnt]
  | cons o l ih =>
    have : cnt (o :: l) j = delta o j + cnt l j := by simp [cnt]
    rw [this, List.length_cons]
    have : 0 ≤ delta o j ∧ delta o j ≤ 2 := by unfold delta; split <;> split <;> omega
    omega
/-- the sum of n places from a on -/
def sumF (f : Nat → Int) (a : Nat) : Nat → Int
  | 0 => 0
  | n + 1 => sumF f a n + f (a + n)
theorem sumF_add (f g : Nat → Int) (a n : Nat) : sumF (fun j => f j + g j) a n = sumF f a n + sumF g a n := by
  induction n with
  | zero => rfl
  | succ n ih => simp only [sumF, ih]; omega
theorem sumF_zero (a n : Nat) : sumF (fun _ => 0) a n = 0 := by
  induction n with
  | zero => rfl
  | succ n ih => simp only [sumF, ih]; omega
theorem sumF_one (c : Int) (i a n : Nat) : sumF (fun j => if i = j then c else 0) a n = if a ≤ i ∧ i < a + n then c else 0 := by
  induction n with
  | zero => simp only [sumF]; rw [if_neg (by omega)]
  | succ n ih =>
    simp only [sumF, ih]
    by_cases h : i = a + n
    · subst h; simp
    · by_cases h2 : a ≤ i ∧ i < a + n
      · rw [if_pos h2, if_neg h, if_pos (by omega)]; omega
      · rw [if_neg h2, if_neg h, if_neg (by omega)]; rfl
theorem sumF_bd (f : Nat → Int) (m : Int) (_hm : 0 ≤ m) (h : ∀ j, 0 ≤ f j ∧ f j ≤ m) (a n : Nat) (hn : n ≤ 17) : 0 ≤ sumF f a n ∧ sumF f a n ≤ n * m := by
  induction n with
  | zero => simp [sumF]
  | succ n ih =>
    have := ih (by omega)
    have := h (a + n)
    simp only [sumF]
    rw [show ((n + 1 : Nat) : Int) = (n : Int) + 1 by omega, Int.add_mul, Int.one_mul]
    omega
theorem delta_outs (o : Outp) (h : OutFits o) : sumF (delta o) 0 11 = 1 := by
  obtain ⟨k0, k1, w0, w1⟩ := h
  have e : delta o = fun j => (if o.kind.toNat = j then 1 else 0) + (if 11 + o.why.toNat = j then (if o.kind = 6 then 1 else 0) else 0) := by
    funext j; unfold delta; by_cases h1 : o.kind = 6 <;> by_cases h2 : 11 + o.why.toNat = j <;> simp [h1, h2]
  rw [e, sumF_add, sumF_one, sumF_one, if_pos (by omega), if_neg (by omega)]; rfl
theorem delta_whys (o : Outp) (h : OutFits o) : sumF (delta o) 11 6 = delta o 6 := by
  obtain ⟨k0, k1, w0, w1⟩ := h
  have e : delta o = fun j => (if o.kind.toNat = j then 1 else 0) + (if 11 + o.why.toNat = j then (if o.kind = 6 then 1 else 0) else 0) := by
    funext j; unfold delta; by_cases h1 : o.kind = 6 <;> by_cases h2 : 11 + o.why.toNat = j <;> simp [h1, h2]
  have e6 : delta o 6 = if o.kind = 6 then 1 else 0 := by
    unfold delta
    by_cases h6 : o.kind = 6
    · have : ¬ (11 + o.why.toNat = 6) := by omega
      simp [h6, this]
    · have : ¬ (o.kind.toNat = 6) := by omega
      simp [h6, this]
  rw [e6, e, sumF_add, sumF_one, sumF_one, if_neg (by omega), if_pos (by omega)]; simp
theorem cnt_cons (o : Outp) (l : List Outp) : cnt (o :: l) = fun j => delta o j + cnt l j := by funext j; simp [cnt]
theorem cnt_outs (l : List Outp) (hok : ∀ x ∈ l, OutFits x) : sumF (cnt l) 0 11 = l.length := by
  induction l with
  | nil => exact sumF_zero 0 11
  | cons o l ih =>
    rw [cnt_cons, sumF_add, ih (fun x hx => hok x (List.mem_cons_of_mem _ hx)), delta_outs o (hok o (List.mem_cons_self ..)), List.length_cons]; omega
theorem cnt_whys (l : List Outp) (hok : ∀ x ∈ l, OutFits x) : sumF (cnt l) 11 6 = cnt l 6 := by
  induction l with
  | nil => exact sumF_zero 11 6
  | cons o l ih =>
    rw [cnt_cons, sumF_add, ih (fun x hx => hok x (List.mem_cons_of_mem _ hx)), delta_whys o (hok o (List.mem_cons_self ..))]

theorem outFits_told (x : List Int) : OutFits (toldOut x) := by
  have h1 := pickedZ_range (x.getD 0 0) 10 (by omega)
  have h2 := pickedZ_range (x.getD 4 0) 6 (by omega)
  constructor <;> (simp only [toldOut]; omega)
theorem fits_tolds (l : List (List Int)) : ∀ x ∈ toldsL l, OutFits x := by
  intro x hx
  obtain ⟨y, _, rfl⟩ := List.mem_map.1 hx
  exact outFits_told y
theorem toldsL_len (l : List (List Int)) : (toldsL l).length = min 60 l.length := by simp [toldsL]
theorem toldsL_get (l : List (List Int)) (i : Nat) (h : i < (toldsL l).length) (h' : i < l.length) : (toldsL l)[i] = toldOut l[i] := by simp [toldsL]
def ofFlow (o : Outp) : Bool := decide (o.kind = 1 ∨ o.kind = 3 ∨ o.kind = 4 ∨ o.kind = 5 ∨ o.kind = 6 ∨ o.kind = 7)
def inStory (s g : Int) (o : Outp) : Bool := ofFlow o && decide (o.slot = s) && decide (o.gen = g)
def storyL (l : List Outp) (s g : Int) : List Outp := l.filter (inStory s g)
theorem storyL_step (l : List Outp) (s g : Int) (k : Nat) (h : k < l.length) : storyL (l.take (k + 1)) s g = storyL (l.take k) s g ++ (if inStory s g l[k] then [l[k]] else []) := by
  unfold storyL
  rw [List.take_succ_eq_append_getElem h, List.filter_append]
  congr 1
  rw [List.filter_cons]; rfl
theorem storyL_len (l : List Outp) (s g : Int) : (storyL l s g).length ≤ l.length := List.length_filter_le ..

/-- all the stories' lengths, up to slot s and generation g -/
def manyG (l : List Outp) (s : Int) : Nat → Int
  | 0 => 0
  | n + 1 => manyG l s n + (storyL l s n).length
def manyS (l : List Outp) : Nat → Int
  | 0 => 0
  | n + 1 => manyS l n + manyG l n 2
def Seated (o : Outp) : Prop := 0 ≤ o.slot ∧ o.slot ≤ 2 ∧ 0 ≤ o.gen ∧ o.gen ≤ 1
theorem manyS_cnt (l : List Outp) (hok : ∀ x ∈ l, OutFits x) (hs : ∀ x ∈ l, Seated x) : manyS l 3 = cnt l 1 + cnt l 3 + cnt l 4 + cnt l 5 + cnt l 6 + cnt l 7 := by
  induction l with
  | nil => rfl
  | cons o l ih =>
    have ih' := ih (fun x hx => hok x (List.mem_cons_of_mem _ hx)) (fun x hx => hs x (List.mem_cons_of_mem _ hx))
    obtain ⟨k0, k1, w0, w1⟩ := hok o (List.mem_cons_self ..)
    obtain ⟨s0, s1, g0, g1⟩ := hs o (List.mem_cons_self ..)
    have e : ∀ s g, ((storyL (o :: l) s g).length : Int) = (storyL l s g).length + (if inStory s g o then 1 else 0) := fun s g => by
      unfold storyL; rw [List.filter_cons]; split <;> simp
    simp only [cnt_cons]
    simp only [manyS, manyG, e] at ih' ⊢
    have hf : ∀ s g, (if inStory s g o = true then (1 : Int) else 0) = if ofFlow o = true ∧ o.slot = s ∧ o.gen = g then 1 else 0 := fun s g => by
      unfold inStory; simp only [Bool.and_eq_true, decide_eq_true_eq, and_assoc]
    have hw : ∀ j, j < 11 → delta o j = if o.kind.toNat = j then 1 else 0 := fun j hj => by
      unfold delta; rw [if_neg (show ¬ (o.kind = 6 ∧ 11 + o.why.toNat = j) by omega)]; omega
    rw [hw 1 (by omega), hw 3 (by omega), hw 4 (by omega), hw 5 (by omega), hw 6 (by omega), hw 7 (by omega)]
    simp only [hf]
    have hF : ofFlow o = true ↔ (o.kind = 1 ∨ o.kind = 3 ∨ o.kind = 4 ∨ o.kind = 5 ∨ o.kind = 6 ∨ o.kind = 7) := by unfold ofFlow; simp
    simp only [hF]
    have hs3 : o.slot = 0 ∨ o.slot = 1 ∨ o.slot = 2 := by omega
    have hg2 : o.gen = 0 ∨ o.gen = 1 := by omega
    have hk : o.kind = 1 ∨ o.kind = 3 ∨ o.kind = 4 ∨ o.kind = 5 ∨ o.kind = 6 ∨ o.kind = 7 ∨ ¬ (o.kind = 1 ∨ o.kind = 3 ∨ o.kind = 4 ∨ o.kind = 5 ∨ o.kind = 6 ∨ o.kind = 7) := by omega
    generalize o.kind = kd at *
    generalize o.slot = sl at *
    generalize o.gen = gn at *
    clear hw hf hF e ih
    rcases hk with rfl | rfl | rfl | rfl | rfl | rfl | hk
    all_goals (rcases hs3 with rfl | rfl | rfl <;> rcases hg2 with rfl | rfl <;> simp_all <;> omega)
theorem seated_told (x : List Int) : Seated (toldOut x) := by
  have h1 := pickedZ_range (x.getD 1 0) 3 (by omega)
  have h2 := pickedZ_range (x.getD 2 0) 2 (by omega)
  simp only [Seated, toldOut]; omega
theorem seated_tolds (l : List (List Int)) : ∀ x ∈ toldsL l, Seated x := by
  intro x hx
  obtain ⟨y, _, rfl⟩ := List.mem_map.1 hx
  exact seated_told y
theorem drop_skip {α : Type} {a b : List α} (h : a.Sublist b) (ha : a ≠ []) (hb : a.head? ≠ b.head?) : a.Sublist b.tail := by
  cases h with
  | slnil => exact absurd rfl ha
  | cons x h => exact h
  | cons_cons x h => exact absurd rfl hb
theorem drop_take {α : Type} {a b : List α} {x : α} (h : (x :: a).Sublist (x :: b)) : a.Sublist b := List.cons_sublist_cons.1 h

end Go.Proofs.Ytfkeddefajkobaa
