/- This text proves the law TallyBy over the small machine. It has no condition of its own. -/
import Derived.Test.YtfkeddefajkobaaByl
set_option linter.unusedSimpArgs false
set_option linter.unusedVariables false
set_option maxRecDepth 100000
set_option maxHeartbeats 2000000
namespace Go.Proofs.Ytfkeddefajkobaa
open Go.RowKit
def liveStep (s g : Int) (lv : Bool) (o : Outp) : Bool :=
  if o.slot = s ∧ o.gen = g then (if o.kind = 6 ∨ o.kind = 7 then false else if o.kind = 1 ∨ o.kind = 5 then true else lv) else lv
def liveL (l : List Outp) (s g : Int) : Bool := l.foldl (liveStep s g) false
theorem liveL_succ (l : List Outp) (s g : Int) (i : Nat) (h : i < l.length) : liveL (l.take (i + 1)) s g = liveStep s g (liveL (l.take i) s g) l[i] := by
  unfold liveL
  rw [List.take_succ_eq_append_getElem h, List.foldl_append]; rfl
theorem mput_keys (es : List Ent) (k v : List Int) (ck : Nat) (x : List Int) : x ∈ (mput es k v ck).1.map (·.1) ↔ x = k ∨ x ∈ es.map (·.1) := by
  by_cases hex : ∃ e ∈ es, e.1 = k
  · have e1 : mput es k v ck = (es.map fun e => if e.1 = k then (k, v, e.2.2) else e, ck) := by unfold mput; rw [if_pos hex]
    rw [e1]
    show x ∈ ((es.map fun e => if e.1 = k then (k, v, e.2.2) else e).map fun x : Ent => x.1) ↔ _
    rw [map_same (fun x : Ent => x.1) _ (fun x => by split <;> simp_all)]
    refine ⟨.inr, ?_⟩
    rintro (rfl | h)
    · obtain ⟨e, he, rfl⟩ := hex
      exact List.mem_map.2 ⟨e, he, rfl⟩
    · exact h
  · rw [mput_new fun e he hk => hex ⟨e, he, hk⟩]
    simp [or_comm]
theorem mdel_keys (es : List Ent) (k x : List Int) : x ∈ (mdel es k).map (·.1) ↔ x ∈ es.map (·.1) ∧ x ≠ k := by
  unfold mdel
  simp only [List.mem_map, List.mem_filter, decide_eq_true_eq]
  constructor
  · rintro ⟨e, ⟨h1, h2⟩, rfl⟩; exact ⟨⟨e, h1, rfl⟩, h2⟩
  · rintro ⟨⟨e, h1, rfl⟩, h2⟩; exact ⟨e, ⟨h1, h2⟩, rfl⟩
theorem byL_keys (l : List Outp) (s g : Int) : ∀ i, i ≤ l.length → ([s, g] ∈ (byL (l.take i)).1.map (·.1) ↔ liveL (l.take i) s g = true)
  | 0, _ => by simp [byL, liveL]
  | i + 1, hi => by
    have ih := byL_keys l s g i (by omega)
    rw [byL_succ l i hi, liveL_succ l s g i hi]
    obtain ⟨o, ho⟩ : ∃ o, o = l[i] := ⟨_, rfl⟩
    rw [← ho]
    unfold byStep liveStep
    by_cases h1 : o.kind = 1 ∨ o.kind = 5
    · have h2 : ¬ (o.kind = 6 ∨ o.kind = 7) := by omega
      rw [if_pos h1, mput_keys, ih, if_neg h2, if_pos h1]
      by_cases hk : o.slot = s ∧ o.gen = g
      · rw [if_pos hk]; simp [hk.1, hk.2]
      · rw [if_neg hk]
        have : ¬ ([s, g] = [o.slot, o.gen]) := fun h => hk (by simp at h; exact ⟨h.1.symm, h.2.symm⟩)
        simp only [this, false_or]
    · rw [if_neg h1]
      by_cases h2 : o.kind = 6 ∨ o.kind = 7
      · rw [if_pos h2, if_pos h2]
        simp only
        rw [mdel_keys, ih]
        by_cases hk : o.slot = s ∧ o.gen = g
        · rw [if_pos hk]; simp [hk.1, hk.2]
        · rw [if_neg hk]
          have : [s, g] ≠ [o.slot, o.gen] := fun h => hk (by simp at h; exact ⟨h.1.symm, h.2.symm⟩)
          simp only [this, ne_eq, not_false_eq_true, and_true]
      · rw [if_neg h2, if_neg h2, if_neg h1]
        rw [ih]; split <;> rfl
def oneB (b : Bool) : Int := if b then 1 else 0
def wantG (l : List Outp) (s : Int) : Nat → Int
  | 0 => 0
  | n + 1 => wantG l s n + oneB (liveL l s n)
def wantS (l : List Outp) : Nat → Int
  | 0 => 0
  | n + 1 => wantS l n + wantG l n 2
theorem wantG_bd (l : List Outp) (s : Int) : ∀ n : Nat, 0 ≤ wantG l s n ∧ wantG l s n ≤ n
  | 0 => by simp [wantG]
  | n + 1 => by
    have := wantG_bd l s n
    simp only [wantG, oneB]
    split <;> omega
theorem wantS_bd (l : List Outp) : ∀ n : Nat, 0 ≤ wantS l n ∧ wantS l n ≤ 2 * n
  | 0 => by simp [wantS]
  | n + 1 => by
    have h1 := wantS_bd l n
    have h2 := wantG_bd l n 2
    simp only [wantS]
    omega
def grid : List (List Int) := [[0, 0], [0, 1], [1, 0], [1, 1], [2, 0], [2, 1]]
theorem byL_seated (l : List Outp) (hs : ∀ o ∈ l, Seated o) : ∀ i, i ≤ l.length → ∀ k ∈ (byL (l.take i)).1.map (·.1), k ∈ grid
  | 0, _ => by simp [byL]
  | i + 1, hi => by
    have ih := byL_seated l hs i (by omega)
    rw [byL_succ l i hi]
    have ho := hs _ (List.getElem_mem hi)
    unfold byStep
    split
    · intro k hk
      rcases (mput_keys _ _ _ _ _).1 hk with rfl | hk
      · obtain ⟨h1, h2, h3, h4⟩ := ho
        have hs : l[i].slot = 0 ∨ l[i].slot = 1 ∨ l[i].slot = 2 := by omega
        have hg : l[i].gen = 0 ∨ l[i].gen = 1 := by omega
        rcases hs with h | h | h <;> rcases hg with h' | h' <;> rw [h, h'] <;> simp [grid]
      · exact ih k hk
    · split
      · intro k hk
        exact ih k ((mdel_keys _ _ _).1 hk).1
      · exact ih
theorem keys_len (l : List Outp) (h : ∀ o ∈ l, OutBy o) (hs : ∀ o ∈ l, Seated o) : ((byL l).1.length : Int) = wantS l 3 := by
  have h1 := byL_inv l h l.length (Nat.le_refl _)
  have h2 := byL_seated l hs l.length (Nat.le_refl _)
  have h3 := fun s g => byL_keys l s g l.length (Nat.le_refl _)
  rw [List.take_length] at h1 h2
  simp only [List.take_length] at h3
  have hp : ((byL l).1.map (·.1)).Perm (grid.filter fun k => decide (k ∈ (byL l).1.map (·.1))) := by
    rw [List.perm_ext_iff_of_nodup h1.keys (List.Nodup.sublist List.filter_sublist (by decide))]
    intro k
    rw [List.mem_filter]
    exact ⟨fun hk => ⟨h2 k hk, by simpa using hk⟩, fun hk => by simpa using hk.2⟩
  have hl := hp.length_eq
  rw [List.length_map, ← List.countP_eq_length_filter] at hl
  rw [hl]
  have e : ∀ s g, decide ([s, g] ∈ (byL l).1.map (·.1)) = liveL l s g := fun s g => by
    rw [Bool.eq_iff_iff, decide_eq_true_iff]; exact h3 s g
  simp only [grid, List.countP_cons, List.countP_nil, e, wantS, wantG, oneB]
  simp only [Nat.zero_add, Int.natCast_add]
  have c : ∀ b : Bool, ((if b = true then 1 else 0 : Nat) : Int) = if b = true then 1 else 0 := fun b => by cases b <;> rfl
  simp only [c]
  have c0 : ((0 : Nat) : Int) = 0 := rfl
  have c1 : ((1 : Nat) : Int) = 1 := rfl
  have c2 : ((2 : Nat) : Int) = 2 := rfl
  simp only [c0, c1, c2]
  omega
def sumT (c : List Int) (i : Nat) : Int := (c.take i).sum
theorem sumT_succ (c : List Int) (i : Nat) (h : i < c.length) : sumT c (i + 1) = sumT c i + c[i] := by
  unfold sumT
  rw [List.take_succ_eq_append_getElem h, List.sum_append]; simp
theorem byOut_sum : ∀ (es : List Ent) (_ : ∀ e ∈ es, ∃ b, e.2.1 = [b] ∧ 0 ≤ b ∧ b < 12), sumT (byOut es) 12 = es.length
  | [], _ => by simp [sumT, byOut, List.range_succ]
  | e :: es, h => by
    have ih := byOut_sum es fun x hx => h x (List.mem_cons_of_mem _ hx)
    obtain ⟨b, hb, b0, b1⟩ := h e (by simp)
    have e12 : b = 0 ∨ b = 1 ∨ b = 2 ∨ b = 3 ∨ b = 4 ∨ b = 5 ∨ b = 6 ∨ b = 7 ∨ b = 8 ∨ b = 9 ∨ b = 10 ∨ b = 11 := by omega
    simp only [sumT, byOut, List.range_succ, List.range_zero, List.nil_append, List.cons_append, List.map_cons, List.map_nil, List.take_succ_cons, List.take_zero, List.sum_cons, List.sum_nil, List.countP_cons, List.length_cons] at ih ⊢
    rcases e12 with h | h | h | h | h | h | h | h | h | h | h | h <;> subst h <;> simp only [hb] <;> simp <;> simp at ih <;> omega
theorem byOut_len (es : List Ent) : (byOut es).length = 12 := by simp [byOut]
theorem byOut_bd (es : List Ent) (i : Nat) (h : i < (byOut es).length) : 0 ≤ (byOut es)[i] ∧ (byOut es)[i] ≤ es.length := by
  simp only [byOut, List.getElem_map, List.getElem_range]
  have := List.countP_le_length (p := fun e : Ent => decide (e.2.1 = [(i : Int)])) (l := es)
  omega
theorem sumT_bd (es : List Ent) (h : es.length ≤ 60) : ∀ i, i ≤ 12 → 0 ≤ sumT (byOut es) i ∧ sumT (byOut es) i ≤ 60 * i
  | 0, _ => by simp [sumT]
  | i + 1, hi => by
    have ih := sumT_bd es h i (by omega)
    have hl := byOut_len es
    rw [sumT_succ _ _ (by omega)]
    have := byOut_bd es i (by omega)
    omega
theorem outBy_told (x : List Int) : OutBy (toldOut x) := by
  have h1 := pickedZ_range (x.getD 1 0) 3 (by omega)
  have h2 := pickedZ_range (x.getD 2 0) 2 (by omega)
  have h3 := pickedZ_range (x.getD 3 0) 12 (by omega)
  exact ⟨outFits_told x, inT (by simp only [toldOut]; omega) (by simp only [toldOut]; omega), inT (by simp only [toldOut]; omega) (by simp only [toldOut]; omega), by simp only [toldOut]; omega⟩
theorem outBy_tolds (l : List (List Int)) : ∀ x ∈ toldsL l, OutBy x := by
  intro x hx
  simp only [toldsL, List.mem_map] at hx
  obtain ⟨r, _, rfl⟩ := hx
  exact outBy_told r
theorem tbyl_code : cfun Try.prog [] 3 = some ⟨(.seq (.region 0 [⟨(some 2), (.mov (.k (.bool false))), none⟩]) (.seq (.region 1 [⟨(some 13), (.mov (.t 0)), none⟩, ⟨(some 14), (.call 23 [(.t 13)]), none⟩, ⟨(some 3), (.mov (.t 14)), none⟩]) (.seq (.region 2 [⟨(some 16), (.mov (.t 3)), none⟩, ⟨(some 17), (.call 24 [(.t 16)]), none⟩, ⟨(some 15), (.mov (.t 17)), none⟩, ⟨(some 18), (.ext (.t 15) 0), none⟩, ⟨(some 19), (.ext (.t 15) 1), none⟩, ⟨(some 4), (.mov (.t 18)), none⟩, ⟨(some 5), (.mov (.t 19)), none⟩]) (.seq (.seq (.region 3 [⟨(some 20), (.mov (.t 5)), none⟩, ⟨(some 21), (.bin .neq (.t 20) (.k (.int .i64 0))), none⟩, ⟨(some 22), (.mov (.t 21)), none⟩, ⟨(some 23), (.mov (.t 4)), (some (22, false))⟩, ⟨(some 24), (.len (.t 23)), (some (22, false))⟩, ⟨(some 25), (.bin .neq (.t 24) (.k (.int .i64 12))), (some (22, false))⟩, ⟨(some 26), (.pick (.t 22) (.k (.bool true)) (.t 25)), none⟩]) (.cond 26 (.seq (.region 4 [⟨(some 2), (.mov (.k (.bool false))), none⟩]) .ret) .skip)) (.seq (.region 5 [⟨(some 6), (.mov (.k (.int .i64 0))), none⟩]) (.seq (.seq (.region 6 [⟨(some 7), (.mov (.k (.int .i64 0))), none⟩]) (.block 0 (.loop (.seq (.seq (.region 7 [⟨(some 27), (.mov (.t 7)), none⟩, ⟨(some 28), (.mov (.t 4)), none⟩, ⟨(some 29), (.len (.t 28)), none⟩, ⟨(some 30), (.bin .lss (.t 27) (.t 29)), none⟩]) (.cond 30 .skip (.exit 0))) (.seq (.block 1 (.region 9 [⟨(some 33), (.mov (.t 6)), none⟩, ⟨(some 34), (.mov (.t 4)), none⟩, ⟨(some 35), (.mov (.t 7)), none⟩, ⟨(some 36), (.iads 1 (.t 34) (.t 35)), none⟩, ⟨(some 37), (.load false 1 (.t 36)), none⟩, ⟨(some 38), (.bin .add (.t 33) (.t 37)), none⟩, ⟨(some 6), (.mov (.t 38)), none⟩])) (.region 8 [⟨(some 31), (.mov (.t 7)), none⟩, ⟨(some 32), (.bin .add (.t 31) (.k (.int .i64 1))), none⟩, ⟨(some 7), (.mov (.t 32)), none⟩])))))) (.seq (.region 10 [⟨(some 8), (.mov (.k (.int .i64 0))), none⟩]) (.seq (.seq (.region 11 [⟨(some 9), (.mov (.k (.int .i64 0))), none⟩]) (.block 2 (.loop (.seq (.seq (.region 12 [⟨(some 39), (.mov (.t 9)), none⟩, ⟨(some 40), (.bin .lss (.t 39) (.k (.int .i64 3))), none⟩]) (.cond 40 .skip (.exit 2))) (.seq (.block 3 (.seq (.region 14 [⟨(some 10), (.mov (.k (.int .i64 0))), none⟩]) (.block 4 (.loop (.seq (.seq (.region 15 [⟨(some 43), (.mov (.t 10)), none⟩, ⟨(some 44), (.bin .lss (.t 43) (.k (.int .i64 2))), none⟩]) (.cond 44 .skip (.exit 4))) (.seq (.block 5 (.seq (.region 17 [⟨(some 11), (.mov (.k (.bool false))), none⟩]) (.seq (.seq (.region 18 [⟨(some 12), (.mov (.k (.int .i64 0))), none⟩]) (.block 6 (.loop (.seq (.seq (.region 19 [⟨(some 47), (.mov (.t 12)), none⟩, ⟨(some 48), (.mov (.t 3)), none⟩, ⟨(some 49), (.len (.t 48)), none⟩, ⟨(some 50), (.bin .lss (.t 47) (.t 49)), none⟩]) (.cond 50 .skip (.exit 6))) (.seq (.block 7 (.seq (.seq (.region 21 [⟨(some 53), (.mov (.t 3)), none⟩, ⟨(some 54), (.mov (.t 12)), none⟩, ⟨(some 55), (.iads 7 (.t 53) (.t 54)), none⟩, ⟨(some 56), (.fad 1 (.t 55)), none⟩, ⟨(some 57), (.load false 1 (.t 56)), none⟩, ⟨(some 58), (.mov (.t 9)), none⟩, ⟨(some 59), (.bin .neq (.t 57) (.t 58)), none⟩, ⟨(some 60), (.mov (.t 59)), none⟩, ⟨(some 61), (.mov (.t 3)), (some (60, false))⟩, ⟨(some 62), (.mov (.t 12)), (some (60, false))⟩, ⟨(some 63), (.iads 7 (.t 61) (.t 62)), (some (60, false))⟩, ⟨(some 64), (.fad 2 (.t 63)), (some (60, false))⟩, ⟨(some 65), (.load false 1 (.t 64)), (some (60, false))⟩, ⟨(some 66), (.mov (.t 10)), (some (60, false))⟩, ⟨(some 67), (.bin .neq (.t 65) (.t 66)), (some (60, false))⟩, ⟨(some 68), (.pick (.t 60) (.k (.bool true)) (.t 67)), none⟩]) (.cond 68 (.exit 7) .skip)) (.seq (.seq (.region 22 [⟨(some 69), (.mov (.t 3)), none⟩, ⟨(some 70), (.mov (.t 12)), none⟩, ⟨(some 71), (.iads 7 (.t 69) (.t 70)), none⟩, ⟨(some 72), (.fad 0 (.t 71)), none⟩, ⟨(some 73), (.load false 1 (.t 72)), none⟩, ⟨(some 74), (.bin .eql (.t 73) (.k (.int .i64 1))), none⟩, ⟨(some 75), (.mov (.t 74)), none⟩, ⟨(some 76), (.mov (.t 3)), (some (75, false))⟩, ⟨(some 77), (.mov (.t 12)), (some (75, false))⟩, ⟨(some 78), (.iads 7 (.t 76) (.t 77)), (some (75, false))⟩, ⟨(some 79), (.fad 0 (.t 78)), (some (75, false))⟩, ⟨(some 80), (.load false 1 (.t 79)), (some (75, false))⟩, ⟨(some 81), (.bin .eql (.t 80) (.k (.int .i64 5))), (some (75, false))⟩, ⟨(some 82), (.pick (.t 75) (.k (.bool true)) (.t 81)), none⟩]) (.cond 82 (.region 23 [⟨(some 11), (.mov (.k (.bool true))), none⟩]) .skip)) (.seq (.region 24 [⟨(some 83), (.mov (.t 3)), none⟩, ⟨(some 84), (.mov (.t 12)), none⟩, ⟨(some 85), (.iads 7 (.t 83) (.t 84)), none⟩, ⟨(some 86), (.fad 0 (.t 85)), none⟩, ⟨(some 87), (.load false 1 (.t 86)), none⟩, ⟨(some 88), (.bin .eql (.t 87) (.k (.int .i64 6))), none⟩, ⟨(some 89), (.mov (.t 88)), none⟩, ⟨(some 90), (.mov (.t 3)), (some (89, false))⟩, ⟨(some 91), (.mov (.t 12)), (some (89, false))⟩, ⟨(some 92), (.iads 7 (.t 90) (.t 91)), (some (89, false))⟩, ⟨(some 93), (.fad 0 (.t 92)), (some (89, false))⟩, ⟨(some 94), (.load false 1 (.t 93)), (some (89, false))⟩, ⟨(some 95), (.bin .eql (.t 94) (.k (.int .i64 7))), (some (89, false))⟩, ⟨(some 96), (.pick (.t 89) (.k (.bool true)) (.t 95)), none⟩]) (.cond 96 (.region 25 [⟨(some 11), (.mov (.k (.bool false))), none⟩]) .skip))))) (.region 20 [⟨(some 51), (.mov (.t 12)), none⟩, ⟨(some 52), (.bin .add (.t 51) (.k (.int .i64 1))), none⟩, ⟨(some 12), (.mov (.t 52)), none⟩])))))) (.seq (.region 26 [⟨(some 97), (.mov (.t 11)), none⟩]) (.cond 97 (.region 27 [⟨(some 98), (.mov (.t 8)), none⟩, ⟨(some 99), (.bin .add (.t 98) (.k (.int .i64 1))), none⟩, ⟨(some 8), (.mov (.t 99)), none⟩]) .skip))))) (.region 16 [⟨(some 45), (.mov (.t 10)), none⟩, ⟨(some 46), (.bin .add (.t 45) (.k (.int .i64 1))), none⟩, ⟨(some 10), (.mov (.t 46)), none⟩]))))))) (.region 13 [⟨(some 41), (.mov (.t 9)), none⟩, ⟨(some 42), (.bin .add (.t 41) (.k (.int .i64 1))), none⟩, ⟨(some 9), (.mov (.t 42)), none⟩])))))) (.seq (.region 28 [⟨(some 100), (.mov (.t 6)), none⟩, ⟨(some 101), (.mov (.t 8)), none⟩, ⟨(some 102), (.bin .eql (.t 100) (.t 101)), none⟩, ⟨(some 2), (.mov (.t 102)), none⟩]) .ret))))))))), [(.t 2)], 103⟩ := by kernel_rfl
theorem tbyl_pf (l : List (List Int)) (hl : l.length ≤ Go.maxLen) (hr : ∀ r ∈ l, r.length = 5 ∧ ∀ z ∈ r, InR z) : PF Try.prog 3 [.rows 5 (l.map fun r => r.map I)] (.bool true) := by
  have htp := tolds_pf l hl hr
  have lA := toldsL_len l
  have fA := outBy_tolds l
  have gA := seated_tolds l
  obtain ⟨A, hA⟩ : ∃ A, A = toldsL l := ⟨_, rfl⟩
  rw [← hA] at lA fA gA htp
  have lA60 : A.length ≤ 60 := by omega
  clear lA hA hl hr
  have hby := tby_pf A (by omega) fA
  have hkl := keys_len A fA gA
  have hinv := byL_inv A fA A.length (Nat.le_refl _)
  have hlen := byL_len A A.length (Nat.le_refl _)
  rw [List.take_length] at hinv hlen
  generalize byL A = p at hby hkl hinv hlen
  obtain ⟨es, ck⟩ := p
  have hlen : es.length ≤ A.length := hlen
  have hsum := byOut_sum es fun e he => (hinv.ok e he).val
  have hbd := sumT_bd es (by omega)
  have hob := byOut_bd es
  have hol := byOut_len es
  have hkl : (es.length : Int) = wantS A 3 := hkl
  clear hinv
  generalize byOut es = C at hby hsum hbd hol hob
  refine PF.of follows_ok tbyl_code (by simp) (by simp [argOk]) (by simp [noV, noC]) fun B hBN hB0 => acode_sound [0, 2, 3, 4, 5, 6, 7, 8, 9, 10, 11, 12, 26, 30, 40, 44, 50, 68, 82, 96, 97] [] _ _ _ ?_
  simp [AK_at, acode_seq, acode_region, acode_draw, acode_cond, ↓CB_t, ↓CB_f, CB_u, acode_block, acode_loop, acode_exit, acode_scope, acode_ret, acode_skip, seqQ_n, seqQ_e, seqQ_r, blockQ_n, blockQ_e, blockQ_r, TK_at, OK_at, SK_at, aops_nil, aops_cons, asch_done, asch_one, asch_two, asch_top, astep, aop_eq, isLoud, aloud, aloud1, isWrite, qv, evS, strip, gof, eget, hget, putO, eput, herase, oks, opnds, gS, afin, afin0, binD, arith, D.cells, takeD, fillD, keep, trim, envOf, Fin, aresl, aresv, resD, argOk, pickV, isP, deq, deqs, boundD, slD, lenD, isT, chunks, mn_min, mx_max, D.cells, splice_one, splice_more, Rbr_at, Rfr_at, frR, frV, frC, flatC, brwR, brwV, brwC, omap, leR, leV, leC, leL, leVL]
  repeat' (first
    | simp [AK_at, acode_seq, acode_region, acode_draw, acode_cond, ↓CB_t, ↓CB_f, CB_u, acode_block, acode_loop, acode_exit, acode_scope, acode_ret, acode_skip, seqQ_n, seqQ_e, seqQ_r, blockQ_n, blockQ_e, blockQ_r, TK_at, OK_at, SK_at, aops_nil, aops_cons, asch_done, asch_one, asch_two, asch_top, astep, aop_eq, isLoud, aloud, aloud1, isWrite, qv, evS, strip, gof, eget, hget, putO, eput, herase, oks, opnds, gS, afin, afin0, binD, arith, D.cells, takeD, fillD, keep, trim, envOf, Fin, aresl, aresv, resD, argOk, pickV, isP, deq, deqs, boundD, slD, lenD, isT, chunks, mn_min, mx_max, D.cells, splice_one, splice_more, Rbr_at, Rfr_at, frR, frV, frC, flatC, brwR, brwV, brwC, omap, leR, leV, leC, leL, leVL, hol]
    | (refine WCall.pf (htp) ?_ ?_ ?_ ?_; (focus (simp [oks, opnds, gS, gof, eget]; done)); (focus (simp [omap, brwV, brwC, evS, eget, strip, hget, leVL, leV, leC, leL, hol]; done)); (focus (simp [noV, noC, flatR, flatV, flatC, evS, eget, strip, hol]; done)))
    | (refine ⟨WCall.pf (htp) ?_ ?_ ?_ ?_, ?_⟩; (focus (simp [oks, opnds, gS, gof, eget]; done)); (focus (simp [omap, brwV, brwC, evS, eget, strip, hget, leVL, leV, leC, leL, hol]; done)); (focus (simp [noV, noC, flatR, flatV, flatC, evS, eget, strip, hol]; done)))
    | (refine WCall.pf (hby) ?_ ?_ ?_ ?_; (focus (simp [oks, opnds, gS, gof, eget]; done)); (focus (simp [omap, brwV, brwC, evS, eget, strip, hget, leVL, leV, leC, leL, hol]; done)); (focus (simp [noV, noC, flatR, flatV, flatC, evS, eget, strip, hol]; done)))
    | (refine ⟨WCall.pf (hby) ?_ ?_ ?_ ?_, ?_⟩; (focus (simp [oks, opnds, gS, gof, eget]; done)); (focus (simp [omap, brwV, brwC, evS, eget, strip, hget, leVL, leV, leC, leL, hol]; done)); (focus (simp [noV, noC, flatR, flatV, flatC, evS, eget, strip, hol]; done)))
    | (with_reducible refine And.intro (And.intro ?_ ?_) ?_)
    | fail)
  refine W.loopS (fun b : Nat => ⟨[(7, I b), (6, I (sumT C b)), (4, D.rows 1 (C.map fun z => [I z])), (3, D.rows 7 (A.map Outp.D)), (2, .bool false)], [], 0⟩)
    (fun n b => n = 12 - b ∧ b ≤ 12) ?_ ?_
  · exact ⟨_, 0, (Gh.ren [] (by simp [hB0]) (by simp [hB0] <;> decide) (by simp [eget, rnS, rnR, rnV, rnC, LtS, LtR, LtV, LtC, lget, sumT]) (by simp [hget, rnO, rnC, LtO, LtC, lget, sumT]) (.inr rfl)), rfl, by omega⟩
  rintro n b ⟨hn, hb⟩
  refine acode_sound [0, 2, 3, 4, 5, 6, 7, 8, 9, 10, 11, 12, 26, 30, 40, 44, 50, 68, 82, 96, 97] [] _ _ _ ?_
  by_cases hb2 : b < 12
  · have h1 := hbd b hb
    have h2 := hob b (by omega)
    have h3 := sumT_succ C b (by omega)
    have ib : InR ((b : Int) + 1) := inT (by omega) (by omega)
    have hbC : b < C.length := by omega
    have hbz : (b : Int) < 12 := by omega
    have ic : InR (sumT C b + C[b]) := inT (by omega) (by omega)
    simp [AK_at, acode_seq, acode_region, acode_draw, acode_cond, ↓CB_t, ↓CB_f, CB_u, acode_block, acode_loop, acode_exit, acode_scope, acode_ret, acode_skip, seqQ_n, seqQ_e, seqQ_r, blockQ_n, blockQ_e, blockQ_r, TK_at, OK_at, SK_at, aops_nil, aops_cons, asch_done, asch_one, asch_two, asch_top, astep, aop_eq, isLoud, aloud, aloud1, isWrite, qv, evS, strip, gof, eget, hget, putO, eput, herase, oks, opnds, gS, afin, afin0, binD, arith, D.cells, takeD, fillD, keep, trim, envOf, Fin, aresl, aresv, resD, argOk, pickV, isP, deq, deqs, boundD, slD, lenD, isT, chunks, mn_min, mx_max, D.cells, splice_one, splice_more, Rbr_at, Rfr_at, frR, frV, frC, flatC, brwR, brwV, brwC, omap, leR, leV, leC, leL, leVL, hol, hb2, hbC, ib, ic, hbz]
    exact ⟨_, b + 1, (Gh.ren [] (by simp [hB0]) (by simp [hB0] <;> decide) (by simp [eget, rnS, rnR, rnV, rnC, LtS, LtR, LtV, LtC, lget, h3]) (by simp [hget, rnO, rnC, LtO, LtC, lget, h3]) (.inr rfl)), by omega, rfl, by omega⟩
  obtain rfl : b = 12 := by omega
  rw [hsum, hkl]
  simp [AK_at, acode_seq, acode_region, acode_draw, acode_cond, ↓CB_t, ↓CB_f, CB_u, acode_block, acode_loop, acode_exit, acode_scope, acode_ret, acode_skip, seqQ_n, seqQ_e, seqQ_r, blockQ_n, blockQ_e, blockQ_r, TK_at, OK_at, SK_at, aops_nil, aops_cons, asch_done, asch_one, asch_two, asch_top, astep, aop_eq, isLoud, aloud, aloud1, isWrite, qv, evS, strip, gof, eget, hget, putO, eput, herase, oks, opnds, gS, afin, afin0, binD, arith, D.cells, takeD, fillD, keep, trim, envOf, Fin, aresl, aresv, resD, argOk, pickV, isP, deq, deqs, boundD, slD, lenD, isT, chunks, mn_min, mx_max, D.cells, splice_one, splice_more, Rbr_at, Rfr_at, frR, frV, frC, flatC, brwR, brwV, brwC, omap, leR, leV, leC, leL, leVL, hol]
  have hwb := wantS_bd A 3
  generalize hT : wantS A 3 = T at hkl hwb ⊢
  refine W.loopS (fun y : Nat => ⟨[(9, I y), (8, I (wantS A y)), (6, I T), (3, D.rows 7 (A.map Outp.D)), (2, .bool false)], [], 0⟩)
    (fun n y => n = 3 - y ∧ y ≤ 3) ?_ ?_
  · exact ⟨_, 0, (Gh.ren [] (by simp [hB0]) (by simp [hB0] <;> decide) (by simp [eget, rnS, rnR, rnV, rnC, LtS, LtR, LtV, LtC, lget, wantS]) (by simp [hget, rnO, rnC, LtO, LtC, lget, wantS]) (.inr rfl)), rfl, by omega⟩
  rintro n s ⟨hn, hs⟩
  refine acode_sound [0, 2, 3, 4, 5, 6, 7, 8, 9, 10, 11, 12, 26, 30, 40, 44, 50, 68, 82, 96, 97] [] _ _ _ ?_
  have bS := wantS_bd A s
  by_cases hs3 : s < 3
  · have hs4 : (s : Int) < 3 := by omega
    have is : InR ((s : Int) + 1) := inT (by omega) (by omega)
    have hw2 : wantS A (s + 1) = wantS A s + wantG A s 2 := rfl
    simp [AK_at, acode_seq, acode_region, acode_draw, acode_cond, ↓CB_t, ↓CB_f, CB_u, acode_block, acode_loop, acode_exit, acode_scope, acode_ret, acode_skip, seqQ_n, seqQ_e, seqQ_r, blockQ_n, blockQ_e, blockQ_r, TK_at, OK_at, SK_at, aops_nil, aops_cons, asch_done, asch_one, asch_two, asch_top, astep, aop_eq, isLoud, aloud, aloud1, isWrite, qv, evS, strip, gof, eget, hget, putO, eput, herase, oks, opnds, gS, afin, afin0, binD, arith, D.cells, takeD, fillD, keep, trim, envOf, Fin, aresl, aresv, resD, argOk, pickV, isP, deq, deqs, boundD, slD, lenD, isT, chunks, mn_min, mx_max, D.cells, splice_one, splice_more, Rbr_at, Rfr_at, frR, frV, frC, flatC, brwR, brwV, brwC, omap, leR, leV, leC, leL, leVL, hs4]
    refine W.loopS (fun y : Nat => ⟨[(10, I y), (9, I s), (8, I (wantS A s + wantG A s y)), (6, I T), (3, D.rows 7 (A.map Outp.D)), (2, .bool false)], [], 0⟩)
      (fun m y => m = 2 - y ∧ y ≤ 2) ?_ ?_
    · exact ⟨_, 0, (Gh.ren [] (by simp [hB0]) (by simp [hB0] <;> decide) (by simp [eget, rnS, rnR, rnV, rnC, LtS, LtR, LtV, LtC, lget, wantG]) (by simp [hget, rnO, rnC, LtO, LtC, lget, wantG]) (.inr rfl)), rfl, by omega⟩
    rintro m g ⟨hm, hg⟩
    refine acode_sound [0, 2, 3, 4, 5, 6, 7, 8, 9, 10, 11, 12, 26, 30, 40, 44, 50, 68, 82, 96, 97] [] _ _ _ ?_
    have bG := wantG_bd A s g
    by_cases hg3 : g < 2
    · have hg4 : (g : Int) < 2 := by omega
      have ig : InR ((g : Int) + 1) := inT (by omega) (by omega)
      have hw3 : wantG A s (g + 1) = wantG A s g + oneB (liveL A s g) := rfl
      simp [AK_at, acode_seq, acode_region, acode_draw, acode_cond, ↓CB_t, ↓CB_f, CB_u, acode_block, acode_loop, acode_exit, acode_scope, acode_ret, acode_skip, seqQ_n, seqQ_e, seqQ_r, blockQ_n, blockQ_e, blockQ_r, TK_at, OK_at, SK_at, aops_nil, aops_cons, asch_done, asch_one, asch_two, asch_top, astep, aop_eq, isLoud, aloud, aloud1, isWrite, qv, evS, strip, gof, eget, hget, putO, eput, herase, oks, opnds, gS, afin, afin0, binD, arith, D.cells, takeD, fillD, keep, trim, envOf, Fin, aresl, aresv, resD, argOk, pickV, isP, deq, deqs, boundD, slD, lenD, isT, chunks, mn_min, mx_max, D.cells, splice_one, splice_more, Rbr_at, Rfr_at, frR, frV, frC, flatC, brwR, brwV, brwC, omap, leR, leV, leC, leL, leVL, hg4]
      refine W.loopS (fun i : Nat => ⟨[(12, I i), (11, .bool (liveL (A.take i) s g)), (10, I g), (9, I s), (8, I (wantS A s + wantG A s g)), (6, I T), (3, D.rows 7 (A.map Outp.D)), (2, .bool false)], [], 0⟩)
        (fun k i => k = A.length - i ∧ i ≤ A.length) ?_ ?_
      · exact ⟨_, 0, (Gh.ren [] (by simp [hB0]) (by simp [hB0] <;> decide) (by simp [eget, rnS, rnR, rnV, rnC, LtS, LtR, LtV, LtC, lget, liveL]) (by simp [hget, rnO, rnC, LtO, LtC, lget, liveL]) (.inr rfl)), rfl, by omega⟩
      rintro k i ⟨hk, hi⟩
      refine acode_sound [0, 2, 3, 4, 5, 6, 7, 8, 9, 10, 11, 12, 26, 30, 40, 44, 50, 68, 82, 96, 97] [] _ _ _ ?_
      by_cases hlt : i < A.length
      · have hl1 := liveL_succ A s g i hlt
        obtain ⟨o, ho⟩ : ∃ o, o = A[i] := ⟨_, rfl⟩
        rw [← ho] at hl1
        have ii : InR ((i : Int) + 1) := inT (by omega) (by omega)
        unfold liveStep at hl1
        by_cases e1 : o.slot = s
        · by_cases e2 : o.gen = g
          · by_cases k6 : o.kind = 6 ∨ o.kind = 7
            · have hl1 : liveL (A.take (i + 1)) s g = false := by rw [hl1, if_pos ⟨e1, e2⟩, if_pos k6]
              rcases k6 with k6 | k6
              all_goals
                simp [AK_at, acode_seq, acode_region, acode_draw, acode_cond, ↓CB_t, ↓CB_f, CB_u, acode_block, acode_loop, acode_exit, acode_scope, acode_ret, acode_skip, seqQ_n, seqQ_e, seqQ_r, blockQ_n, blockQ_e, blockQ_r, TK_at, OK_at, SK_at, aops_nil, aops_cons, asch_done, asch_one, asch_two, asch_top, astep, aop_eq, isLoud, aloud, aloud1, isWrite, qv, evS, strip, gof, eget, hget, putO, eput, herase, oks, opnds, gS, afin, afin0, binD, arith, D.cells, takeD, fillD, keep, trim, envOf, Fin, aresl, aresv, resD, argOk, pickV, isP, deq, deqs, boundD, slD, lenD, isT, chunks, mn_min, mx_max, D.cells, splice_one, splice_more, Rbr_at, Rfr_at, frR, frV, frC, flatC, brwR, brwV, brwC, omap, leR, leV, leC, leL, leVL, hlt, ← ho, Outp.D, e1, e2, k6, ii]
                exact ⟨_, i + 1, (Gh.ren [] (by simp [hB0]) (by simp [hB0] <;> decide) (by simp [eget, rnS, rnR, rnV, rnC, LtS, LtR, LtV, LtC, lget, hl1]) (by simp [hget, rnO, rnC, LtO, LtC, lget, hl1]) (.inr rfl)), by omega, rfl, by omega⟩
            · have k61 : ¬ o.kind = 6 := fun h => k6 (.inl h)
              have k62 : ¬ o.kind = 7 := fun h => k6 (.inr h)
              by_cases k1 : o.kind = 1 ∨ o.kind = 5
              · have hl1 : liveL (A.take (i + 1)) s g = true := by rw [hl1, if_pos ⟨e1, e2⟩, if_neg k6, if_pos k1]
                rcases k1 with k1 | k1
                all_goals
                  simp [AK_at, acode_seq, acode_region, acode_draw, acode_cond, ↓CB_t, ↓CB_f, CB_u, acode_block, acode_loop, acode_exit, acode_scope, acode_ret, acode_skip, seqQ_n, seqQ_e, seqQ_r, blockQ_n, blockQ_e, blockQ_r, TK_at, OK_at, SK_at, aops_nil, aops_cons, asch_done, asch_one, asch_two, asch_top, astep, aop_eq, isLoud, aloud, aloud1, isWrite, qv, evS, strip, gof, eget, hget, putO, eput, herase, oks, opnds, gS, afin, afin0, binD, arith, D.cells, takeD, fillD, keep, trim, envOf, Fin, aresl, aresv, resD, argOk, pickV, isP, deq, deqs, boundD, slD, lenD, isT, chunks, mn_min, mx_max, D.cells, splice_one, splice_more, Rbr_at, Rfr_at, frR, frV, frC, flatC, brwR, brwV, brwC, omap, leR, leV, leC, leL, leVL, hlt, ← ho, Outp.D, e1, e2, k1, ii]
                  exact ⟨_, i + 1, (Gh.ren [] (by simp [hB0]) (by simp [hB0] <;> decide) (by simp [eget, rnS, rnR, rnV, rnC, LtS, LtR, LtV, LtC, lget, hl1]) (by simp [hget, rnO, rnC, LtO, LtC, lget, hl1]) (.inr rfl)), by omega, rfl, by omega⟩
              · have k11 : ¬ o.kind = 1 := fun h => k1 (.inl h)
                have k12 : ¬ o.kind = 5 := fun h => k1 (.inr h)
                have hl1 : liveL (A.take (i + 1)) s g = liveL (A.take i) s g := by rw [hl1, if_pos ⟨e1, e2⟩, if_neg k6, if_neg k1]
                simp [AK_at, acode_seq, acode_region, acode_draw, acode_cond, ↓CB_t, ↓CB_f, CB_u, acode_block, acode_loop, acode_exit, acode_scope, acode_ret, acode_skip, seqQ_n, seqQ_e, seqQ_r, blockQ_n, blockQ_e, blockQ_r, TK_at, OK_at, SK_at, aops_nil, aops_cons, asch_done, asch_one, asch_two, asch_top, astep, aop_eq, isLoud, aloud, aloud1, isWrite, qv, evS, strip, gof, eget, hget, putO, eput, herase, oks, opnds, gS, afin, afin0, binD, arith, D.cells, takeD, fillD, keep, trim, envOf, Fin, aresl, aresv, resD, argOk, pickV, isP, deq, deqs, boundD, slD, lenD, isT, chunks, mn_min, mx_max, D.cells, splice_one, splice_more, Rbr_at, Rfr_at, frR, frV, frC, flatC, brwR, brwV, brwC, omap, leR, leV, leC, leL, leVL, hlt, ← ho, Outp.D, e1, e2, k61, k62, k11, k12, ii]
                exact ⟨_, i + 1, (Gh.ren [] (by simp [hB0]) (by simp [hB0] <;> decide) (by simp [eget, rnS, rnR, rnV, rnC, LtS, LtR, LtV, LtC, lget, hl1]) (by simp [hget, rnO, rnC, LtO, LtC, lget, hl1]) (.inr rfl)), by omega, rfl, by omega⟩
          · have hl1 : liveL (A.take (i + 1)) s g = liveL (A.take i) s g := by rw [hl1, if_neg fun h => e2 h.2]
            simp [AK_at, acode_seq, acode_region, acode_draw, acode_cond, ↓CB_t, ↓CB_f, CB_u, acode_block, acode_loop, acode_exit, acode_scope, acode_ret, acode_skip, seqQ_n, seqQ_e, seqQ_r, blockQ_n, blockQ_e, blockQ_r, TK_at, OK_at, SK_at, aops_nil, aops_cons, asch_done, asch_one, asch_two, asch_top, astep, aop_eq, isLoud, aloud, aloud1, isWrite, qv, evS, strip, gof, eget, hget, putO, eput, herase, oks, opnds, gS, afin, afin0, binD, arith, D.cells, takeD, fillD, keep, trim, envOf, Fin, aresl, aresv, resD, argOk, pickV, isP, deq, deqs, boundD, slD, lenD, isT, chunks, mn_min, mx_max, D.cells, splice_one, splice_more, Rbr_at, Rfr_at, frR, frV, frC, flatC, brwR, brwV, brwC, omap, leR, leV, leC, leL, leVL, hlt, ← ho, Outp.D, e1, e2, ii]
            exact ⟨_, i + 1, (Gh.ren [] (by simp [hB0]) (by simp [hB0] <;> decide) (by simp [eget, rnS, rnR, rnV, rnC, LtS, LtR, LtV, LtC, lget, hl1]) (by simp [hget, rnO, rnC, LtO, LtC, lget, hl1]) (.inr rfl)), by omega, rfl, by omega⟩
        · have hl1 : liveL (A.take (i + 1)) s g = liveL (A.take i) s g := by rw [hl1, if_neg fun h => e1 h.1]
          simp [AK_at, acode_seq, acode_region, acode_draw, acode_cond, ↓CB_t, ↓CB_f, CB_u, acode_block, acode_loop, acode_exit, acode_scope, acode_ret, acode_skip, seqQ_n, seqQ_e, seqQ_r, blockQ_n, blockQ_e, blockQ_r, TK_at, OK_at, SK_at, aops_nil, aops_cons, asch_done, asch_one, asch_two, asch_top, astep, aop_eq, isLoud, aloud, aloud1, isWrite, qv, evS, strip, gof, eget, hget, putO, eput, herase, oks, opnds, gS, afin, afin0, binD, arith, D.cells, takeD, fillD, keep, trim, envOf, Fin, aresl, aresv, resD, argOk, pickV, isP, deq, deqs, boundD, slD, lenD, isT, chunks, mn_min, mx_max, D.cells, splice_one, splice_more, Rbr_at, Rfr_at, frR, frV, frC, flatC, brwR, brwV, brwC, omap, leR, leV, leC, leL, leVL, hlt, ← ho, Outp.D, e1, ii]
          exact ⟨_, i + 1, (Gh.ren [] (by simp [hB0]) (by simp [hB0] <;> decide) (by simp [eget, rnS, rnR, rnV, rnC, LtS, LtR, LtV, LtC, lget, hl1]) (by simp [hget, rnO, rnC, LtO, LtC, lget, hl1]) (.inr rfl)), by omega, rfl, by omega⟩
      · have hie : i = A.length := by omega
        subst hie
        have iw : InR (wantS A s + wantG A s g + 1) := inT (by omega) (by omega)
        have e3 : wantS A s + (wantG A s g + 1) = wantS A s + wantG A s g + 1 := by omega
        cases hlv : liveL A s g with
        | true =>
          simp [AK_at, acode_seq, acode_region, acode_draw, acode_cond, ↓CB_t, ↓CB_f, CB_u, acode_block, acode_loop, acode_exit, acode_scope, acode_ret, acode_skip, seqQ_n, seqQ_e, seqQ_r, blockQ_n, blockQ_e, blockQ_r, TK_at, OK_at, SK_at, aops_nil, aops_cons, asch_done, asch_one, asch_two, asch_top, astep, aop_eq, isLoud, aloud, aloud1, isWrite, qv, evS, strip, gof, eget, hget, putO, eput, herase, oks, opnds, gS, afin, afin0, binD, arith, D.cells, takeD, fillD, keep, trim, envOf, Fin, aresl, aresv, resD, argOk, pickV, isP, deq, deqs, boundD, slD, lenD, isT, chunks, mn_min, mx_max, D.cells, splice_one, splice_more, Rbr_at, Rfr_at, frR, frV, frC, flatC, brwR, brwV, brwC, omap, leR, leV, leC, leL, leVL, hlv, iw, ig]
          exact ⟨_, g + 1, (Gh.ren [] (by simp [hB0]) (by simp [hB0] <;> decide) (by simp [eget, rnS, rnR, rnV, rnC, LtS, LtR, LtV, LtC, lget, hw3, hlv, oneB, e3]) (by simp [hget, rnO, rnC, LtO, LtC, lget, hw3, hlv, oneB, e3]) (.inr rfl)), by omega, rfl, by omega⟩
        | false =>
          simp [AK_at, acode_seq, acode_region, acode_draw, acode_cond, ↓CB_t, ↓CB_f, CB_u, acode_block, acode_loop, acode_exit, acode_scope, acode_ret, acode_skip, seqQ_n, seqQ_e, seqQ_r, blockQ_n, blockQ_e, blockQ_r, TK_at, OK_at, SK_at, aops_nil, aops_cons, asch_done, asch_one, asch_two, asch_top, astep, aop_eq, isLoud, aloud, aloud1, isWrite, qv, evS, strip, gof, eget, hget, putO, eput, herase, oks, opnds, gS, afin, afin0, binD, arith, D.cells, takeD, fillD, keep, trim, envOf, Fin, aresl, aresv, resD, argOk, pickV, isP, deq, deqs, boundD, slD, lenD, isT, chunks, mn_min, mx_max, D.cells, splice_one, splice_more, Rbr_at, Rfr_at, frR, frV, frC, flatC, brwR, brwV, brwC, omap, leR, leV, leC, leL, leVL, hlv, ig]
          exact ⟨_, g + 1, (Gh.ren [] (by simp [hB0]) (by simp [hB0] <;> decide) (by simp [eget, rnS, rnR, rnV, rnC, LtS, LtR, LtV, LtC, lget, hw3, hlv, oneB]) (by simp [hget, rnO, rnC, LtO, LtC, lget, hw3, hlv, oneB]) (.inr rfl)), by omega, rfl, by omega⟩
    · obtain rfl : g = 2 := by omega
      simp [AK_at, acode_seq, acode_region, acode_draw, acode_cond, ↓CB_t, ↓CB_f, CB_u, acode_block, acode_loop, acode_exit, acode_scope, acode_ret, acode_skip, seqQ_n, seqQ_e, seqQ_r, blockQ_n, blockQ_e, blockQ_r, TK_at, OK_at, SK_at, aops_nil, aops_cons, asch_done, asch_one, asch_two, asch_top, astep, aop_eq, isLoud, aloud, aloud1, isWrite, qv, evS, strip, gof, eget, hget, putO, eput, herase, oks, opnds, gS, afin, afin0, binD, arith, D.cells, takeD, fillD, keep, trim, envOf, Fin, aresl, aresv, resD, argOk, pickV, isP, deq, deqs, boundD, slD, lenD, isT, chunks, mn_min, mx_max, D.cells, splice_one, splice_more, Rbr_at, Rfr_at, frR, frV, frC, flatC, brwR, brwV, brwC, omap, leR, leV, leC, leL, leVL, is]
      exact ⟨_, s + 1, (Gh.ren [] (by simp [hB0]) (by simp [hB0] <;> decide) (by simp [eget, rnS, rnR, rnV, rnC, LtS, LtR, LtV, LtC, lget, hw2]) (by simp [hget, rnO, rnC, LtO, LtC, lget, hw2]) (.inr rfl)), by omega, rfl, by omega⟩
  · obtain rfl : s = 3 := by omega
    simp [AK_at, acode_seq, acode_region, acode_draw, acode_cond, ↓CB_t, ↓CB_f, CB_u, acode_block, acode_loop, acode_exit, acode_scope, acode_ret, acode_skip, seqQ_n, seqQ_e, seqQ_r, blockQ_n, blockQ_e, blockQ_r, TK_at, OK_at, SK_at, aops_nil, aops_cons, asch_done, asch_one, asch_two, asch_top, astep, aop_eq, isLoud, aloud, aloud1, isWrite, qv, evS, strip, gof, eget, hget, putO, eput, herase, oks, opnds, gS, afin, afin0, binD, arith, D.cells, takeD, fillD, keep, trim, envOf, Fin, aresl, aresv, resD, argOk, pickV, isP, deq, deqs, boundD, slD, lenD, isT, chunks, mn_min, mx_max, D.cells, splice_one, splice_more, Rbr_at, Rfr_at, frR, frV, frC, flatC, brwR, brwV, brwC, omap, leR, leV, leC, leL, leVL, hT]
end Go.Proofs.Ytfkeddefajkobaa
