/- This text proves the law PickSteady over the small machine. It has no condition of its own. -/
import Derived.Test.YtgjngknkokgpjaaPlc
set_option linter.unusedSimpArgs false
set_option linter.unusedVariables false
set_option maxRecDepth 100000
set_option maxHeartbeats 2000000
namespace Go.Proofs.Ytgjngknkokgpjaa
open Go.RowKit
theorem idxZ_snoc (q : Load → Bool) (x : Load) (hx : q x = false) : ∀ (l : List Load), idxZ q (l ++ [x]) = idxZ q l
  | [] => by simp [idxZ, hx]
  | y :: t => by
    have ih := idxZ_snoc q x hx t
    simp only [List.cons_append, idxZ, ih]
theorem nd_len : ∀ (n : Nat) (l : List Int), l.Nodup → (∀ b ∈ l, 0 ≤ b ∧ b < n) → l.length ≤ n
  | 0, [], _, _ => Nat.le_refl _
  | 0, b :: l, _, h => by have := h b (by simp); omega
  | n + 1, l, hd, h => by
    by_cases hn : (n : Int) ∈ l
    · have h2 := nd_len n (l.erase n) (hd.erase _) fun b hb => by
        rw [hd.mem_erase_iff] at hb
        have := h b hb.2
        omega
      rw [List.length_erase_of_mem hn] at h2
      omega
    · have h2 := nd_len n l hd fun b hb => by
        have := h b hb
        have : b ≠ n := fun e => hn (e ▸ hb)
        omega
      omega
def idle : Load := ⟨11, 0, 3⟩
theorem mayL_snoc (x : Load) (hx : x.backend < 12 ∧ 0 ≤ x.weight ∧ x.weight ≤ 8 ∧ 0 ≤ x.flows ∧ x.flows ≤ 40) : ∀ (l : List Load) (p : Int), p < x.backend → mayL p l → (∀ y ∈ l, y.backend < x.backend) → mayL p (l ++ [x])
  | [], p, hp, _, _ => ⟨⟨hp, hx⟩, trivial⟩
  | y :: t, p, hp, h, hl => ⟨h.1, mayL_snoc x hx t y.backend (hl y (by simp)) h.2 fun z hz => hl z (List.mem_cons_of_mem _ hz)⟩
theorem sumW_snoc (l : List Load) (x : Load) : sumW (l ++ [x]) = sumW l + x.weight := by simp [sumW]
theorem sumF_snoc0 (l : List Load) (x : Load) (h : x.weight = 0) : sumF (l ++ [x]) = sumF l := by simp [sumF, h]
theorem capsOf_idle (l : List Load) (num den flows : Int) : capsOf (l ++ [idle]) num den flows = capsOf l num den flows ++ [0] := by
  unfold capsOf
  rw [sumW_snoc, List.map_append]
  simp [idle, capOf]
theorem ofZ_idle (l : List Load) (b : Int) : ofZ (l ++ [idle]) b = ofZ l b := idxZ_snoc (tkB b) idle (by simp [tkB, idle]) l
theorem roomB_snoc (l : List Load) (c : List Int) (x : Load) (y : Int) (h : c.length = l.length) (i : Nat) (hi : i < l.length) : roomB (l ++ [x]) (c ++ [y]) i = roomB l c i := by
  have g1 : (l ++ [x]).getD i zload = l.getD i zload := by simp only [List.getD, List.getElem?_append_left hi]
  have g2 : (c ++ [y]).getD i 0 = c.getD i 0 := by simp only [List.getD, List.getElem?_append_left (show i < c.length by omega)]
  unfold roomB
  rw [g1, g2]
theorem alongZ_idle (l : List Load) (c : List Int) (h : c.length = l.length) : ∀ (w : List Int) (t : Int), alongZ (l ++ [idle]) (c ++ [0]) w t = alongZ l c w t
  | [], t => rfl
  | b :: w, t => by
    have e : ∀ (l : List Load) (caps : List Int), alongZ l caps (b :: w) t = if ofZ l b < 0 then alongZ l caps w t else if t = 0 then -1 else if roomB l caps (ofZ l b).toNat = true then ofZ l b else alongZ l caps w (t - 1) := fun _ _ => rfl
    have hz := idxZ_lo (tkB b) l
    have hz : -1 ≤ ofZ l b ∧ ofZ l b < l.length := hz
    rw [e, e, ofZ_idle, alongZ_idle l c h w t, alongZ_idle l c h w (t - 1)]
    by_cases hn : ofZ l b < 0
    · rw [if_pos hn, if_pos hn]
    · rw [if_neg hn, if_neg hn, roomB_snoc l c idle 0 h _ (by omega)]
theorem alongZ_skip (l : List Load) (c : List Int) (b : Int) (hb : ofZ l b < 0) (r : List Int) : ∀ (a : List Int) (t : Int), alongZ l c (a ++ b :: r) t = alongZ l c (a ++ r) t
  | [], t => by
    show alongZ l c (b :: r) t = alongZ l c r t
    simp only [alongZ, if_pos hb]
  | x :: a, t => by
    have e : ∀ (w : List Int), alongZ l c (x :: w) t = if ofZ l x < 0 then alongZ l c w t else if t = 0 then -1 else if roomB l c (ofZ l x).toNat = true then ofZ l x else alongZ l c w (t - 1) := fun _ => rfl
    rw [List.cons_append, List.cons_append, e, e, alongZ_skip l c b hb r a t, alongZ_skip l c b hb r a (t - 1)]
theorem leastN_snoc (l : List Load) (c : List Int) (x : Load) (y : Int) (h : c.length = l.length) : ∀ i, i ≤ l.length → leastN (l ++ [x]) (c ++ [y]) i = leastN l c i
  | 0, _ => rfl
  | i + 1, hi => by
    have e : ∀ (l : List Load) (caps : List Int), leastN l caps (i + 1) = if (l.getD i zload).weight = 0 ∨ roomB l caps i = false then leastN l caps i else if leastN l caps i < 0 ∨ (l.getD i zload).flows * (l.getD (leastN l caps i).toNat zload).weight < (l.getD (leastN l caps i).toNat zload).flows * (l.getD i zload).weight then i else leastN l caps i := fun _ _ => rfl
    have ih := leastN_snoc l c x y h i (by omega)
    have hlo := leastN_lo l c i
    have g : ∀ j, j < l.length → (l ++ [x]).getD j zload = l.getD j zload := fun j hj => by simp only [List.getD, List.getElem?_append_left hj]
    rw [e, e, ih, roomB_snoc l c x y h i (by omega), g i (by omega), g (leastN l c i).toNat (by omega)]
theorem leastN_idle (l : List Load) (c : List Int) (h : c.length = l.length) : leastN (l ++ [idle]) (c ++ [0]) (l ++ [idle]).length = leastN l c l.length := by
  have e : ∀ (l : List Load) (caps : List Int) (i : Nat), leastN l caps (i + 1) = if (l.getD i zload).weight = 0 ∨ roomB l caps i = false then leastN l caps i else if leastN l caps i < 0 ∨ (l.getD i zload).flows * (l.getD (leastN l caps i).toNat zload).weight < (l.getD (leastN l caps i).toNat zload).flows * (l.getD i zload).weight then i else leastN l caps i := fun _ _ _ => rfl
  have hi : (l ++ [idle]).getD l.length zload = idle := by simp [List.getD]
  rw [List.length_append, List.length_singleton, e, hi, if_pos (.inl rfl), leastN_snoc l c idle 0 h _ (Nat.le_refl _)]
theorem pickI_idle (a r : List Int) (l : List Load) (c : List Int) (h : c.length = l.length) (t : Int) (hb : ofZ l 11 < 0) : pickI (a ++ 11 :: r) (l ++ [idle]) (c ++ [0]) t = pickI (a ++ r) l c t := by
  unfold pickI
  rw [alongZ_idle l c h, alongZ_skip l c 11 hb, leastN_idle l c h]
theorem LOk_idle {l : List Load} (h : LOk l) : LOk (l ++ [idle]) := fun x hx => by
  rcases List.mem_append.1 hx with hx | hx
  · exact h x hx
  · obtain rfl := List.mem_singleton.1 hx
    simp [idle]
theorem pickM_idle (a r : List Int) (l : List Load) (num den flows t : Int) (hf : factorB num den = true) (hl : LOk l) (h0 : 0 ≤ flows) (hs : sumF l ≤ flows) (hb : ofZ l 11 < 0) : pickM (a ++ 11 :: r) (l ++ [idle]) num den flows t = pickM (a ++ r) l num den flows t := by
  have hw2 : sumW (l ++ [idle]) = sumW l := by rw [sumW_snoc]; simp [idle]
  by_cases hw : sumW l = 0
  · rw [pickM_busy _ _ _ _ _ _ hl hw, pickM_busy _ _ _ _ _ _ (LOk_idle hl) (hw2.trans hw)]
  · obtain ⟨k, hk, h1, h2, h3, h4⟩ := pickI_at (a ++ r) l num den flows t hf hl h0 hs hw
    obtain ⟨k', hk', h1', h2', h3', h4'⟩ := pickI_at (a ++ 11 :: r) (l ++ [idle]) num den flows t hf (LOk_idle hl) h0 (by rw [sumF_snoc0 l idle rfl]; exact hs) (by rw [hw2]; exact hw)
    rw [capsOf_idle, pickI_idle a r l _ (by simp [capsOf]) t hb, h1] at h1'
    obtain rfl : k = k' := by omega
    rw [h4, h4', List.getElem_append_left hk]
def insN (w : List Int) (k i : Nat) : List Int := if k < i then w.take k ++ 11 :: (w.take i).drop k else w.take i
theorem insN_step (w : List Int) (k i : Nat) (hi : i ≤ w.length) : insN w k (i + 1) = (insN w k i ++ if i = k then [11] else []) ++ if h : i < w.length then [w[i]] else [] := by
  unfold insN
  have ht : w.take (i + 1) = w.take i ++ if h : i < w.length then [w[i]] else [] := by
    by_cases h : i < w.length
    · rw [dif_pos h, List.take_succ_eq_append_getElem h]
    · rw [dif_neg h, List.append_nil, List.take_of_length_le (by omega), List.take_of_length_le (by omega)]
  by_cases h1 : i = k
  · subst h1
    rw [if_pos (by omega), if_neg (by omega), if_pos rfl, ht, List.drop_append_of_le_length (by simp; omega), List.drop_of_length_le (by simp; omega)]
    simp
  · rw [if_neg h1, List.append_nil]
    by_cases h2 : k < i
    · rw [if_pos (by omega), if_pos h2, ht, List.drop_append_of_le_length (by simp; omega)]
      simp
    · rw [if_neg (by omega), if_neg h2, ht]
theorem insN_len (w : List Int) (k i : Nat) : (insN w k i).length ≤ w.length + 1 := by
  unfold insN
  split <;> simp <;> omega
theorem psteady_code : cfun Try.prog [] 10 = some ⟨(.seq (.region 0 [⟨(some 8), (.mov (.k (.bool false))), none⟩]) (.seq (.region 1 [⟨(some 25), (.mov (.t 1)), none⟩, ⟨(some 26), (.call 25 [(.t 25)]), none⟩, ⟨(some 24), (.mov (.t 26)), none⟩, ⟨(some 27), (.ext (.t 24) 0), none⟩, ⟨(some 28), (.ext (.t 24) 1), none⟩, ⟨(some 29), (.ext (.t 24) 2), none⟩, ⟨(some 9), (.mov (.t 27)), none⟩, ⟨(some 10), (.mov (.t 28)), none⟩, ⟨(some 11), (.mov (.t 29)), none⟩]) (.seq (.seq (.region 2 [⟨(some 30), (.mov (.t 9)), none⟩, ⟨(some 31), (.len (.t 30)), none⟩, ⟨(some 32), (.bin .eql (.t 31) (.k (.int .i64 12))), none⟩]) (.cond 32 (.region 3 [⟨(some 33), (.mov (.t 9)), none⟩, ⟨(some 34), (.mov (.t 9)), none⟩, ⟨(some 35), (.len (.t 34)), none⟩, ⟨(some 36), (.bin .sub (.t 35) (.k (.int .i64 1))), none⟩, ⟨(some 37), (.slc 3 (.t 33) none (some (.t 36)) none), none⟩, ⟨(some 9), (.mov (.t 37)), none⟩]) .skip)) (.seq (.region 4 [⟨(some 12), (.mov (.k (.int .i64 11))), none⟩]) (.seq (.region 5 [⟨(some 38), (.mov (.t 0)), none⟩, ⟨(some 39), (.call 27 [(.t 38)]), none⟩, ⟨(some 40), (.mov (.t 12)), none⟩, ⟨(some 41), (.call 30 [(.t 39), (.t 40)]), none⟩, ⟨(some 13), (.mov (.t 41)), none⟩]) (.seq (.region 6 [⟨(some 42), (.mov (.t 2)), none⟩, ⟨(some 43), (.call 19 [(.t 42), (.k (.int .i64 13))]), none⟩, ⟨(some 14), (.mov (.t 43)), none⟩]) (.seq (.region 7 [⟨(some 45), (.mov (.t 13)), none⟩, ⟨(some 46), (.mov (.t 9)), none⟩, ⟨(some 47), (.mov (.t 10)), none⟩, ⟨(some 48), (.mov (.t 14)), none⟩, ⟨(some 49), (.call 26 [(.t 45), (.t 46), (.k (.int .i64 3)), (.k (.int .i64 2)), (.t 47), (.t 48)]), none⟩, ⟨(some 44), (.mov (.t 49)), none⟩, ⟨(some 50), (.ext (.t 44) 0), none⟩, ⟨(some 51), (.ext (.t 44) 1), none⟩, ⟨(some 15), (.mov (.t 50)), none⟩, ⟨(some 16), (.mov (.t 51)), none⟩]) (.seq (.region 8 [⟨(some 52), (.mov (.t 3)), none⟩, ⟨(some 53), (.mov (.t 13)), none⟩, ⟨(some 54), (.len (.t 53)), none⟩, ⟨(some 55), (.bin .add (.t 54) (.k (.int .i64 1))), none⟩, ⟨(some 56), (.call 19 [(.t 52), (.t 55)]), none⟩, ⟨(some 17), (.mov (.t 56)), none⟩]) (.seq (.region 9 [⟨(some 18), (.mov (.k .nil0)), none⟩]) (.seq (.seq (.region 10 [⟨(some 19), (.mov (.k (.int .i64 0))), none⟩]) (.block 0 (.loop (.seq (.seq (.region 11 [⟨(some 57), (.mov (.t 19)), none⟩, ⟨(some 58), (.mov (.t 13)), none⟩, ⟨(some 59), (.len (.t 58)), none⟩, ⟨(some 60), (.bin .leq (.t 57) (.t 59)), none⟩]) (.cond 60 .skip (.exit 0))) (.seq (.block 1 (.seq (.seq (.region 13 [⟨(some 63), (.mov (.t 19)), none⟩, ⟨(some 64), (.mov (.t 17)), none⟩, ⟨(some 65), (.bin .eql (.t 63) (.t 64)), none⟩]) (.cond 65 (.region 14 [⟨(some 66), (.mov (.t 18)), none⟩, ⟨(some 67), (.mov (.t 12)), none⟩, ⟨(some 68), (.bslice 1 1 [(.int .i64 0)] [(0, (.t 67))]), none⟩, ⟨(some 69), (.app 1 8 [(.int .i64 0)] (.t 66) (.t 68)), none⟩, ⟨(some 18), (.mov (.t 69)), none⟩]) .skip)) (.seq (.region 15 [⟨(some 70), (.mov (.t 19)), none⟩, ⟨(some 71), (.mov (.t 13)), none⟩, ⟨(some 72), (.len (.t 71)), none⟩, ⟨(some 73), (.bin .lss (.t 70) (.t 72)), none⟩]) (.cond 73 (.region 16 [⟨(some 74), (.mov (.t 18)), none⟩, ⟨(some 75), (.mov (.t 13)), none⟩, ⟨(some 76), (.mov (.t 19)), none⟩, ⟨(some 77), (.iads 1 (.t 75) (.t 76)), none⟩, ⟨(some 78), (.load false 1 (.t 77)), none⟩, ⟨(some 79), (.bslice 1 1 [(.int .i64 0)] [(0, (.t 78))]), none⟩, ⟨(some 80), (.app 1 8 [(.int .i64 0)] (.t 74) (.t 79)), none⟩, ⟨(some 18), (.mov (.t 80)), none⟩]) .skip)))) (.region 12 [⟨(some 61), (.mov (.t 19)), none⟩, ⟨(some 62), (.bin .add (.t 61) (.k (.int .i64 1))), none⟩, ⟨(some 19), (.mov (.t 62)), none⟩])))))) (.seq (.region 17 [⟨(some 82), (.mov (.t 18)), none⟩, ⟨(some 83), (.mov (.t 9)), none⟩, ⟨(some 84), (.app 3 24 [(.int .i64 0), (.int .i64 0), (.int .i64 0)] (.k .nil0) (.t 83)), none⟩, ⟨(some 85), (.mov (.t 12)), none⟩, ⟨(some 86), (.build [(.int .i64 0), (.int .i64 0), (.int .i64 0)] [(0, (1, (.t 85))), (2, (1, (.k (.int .i64 3))))]), none⟩, ⟨(some 87), (.bslice 3 1 [(.int .i64 0), (.int .i64 0), (.int .i64 0)] [(0, (.t 86))]), none⟩, ⟨(some 88), (.app 3 24 [(.int .i64 0), (.int .i64 0), (.int .i64 0)] (.t 84) (.t 87)), none⟩, ⟨(some 89), (.mov (.t 10)), none⟩, ⟨(some 90), (.mov (.t 14)), none⟩, ⟨(some 91), (.call 26 [(.t 82), (.t 88), (.k (.int .i64 3)), (.k (.int .i64 2)), (.t 89), (.t 90)]), none⟩, ⟨(some 81), (.mov (.t 91)), none⟩, ⟨(some 92), (.ext (.t 81) 0), none⟩, ⟨(some 93), (.ext (.t 81) 1), none⟩, ⟨(some 20), (.mov (.t 92)), none⟩, ⟨(some 21), (.mov (.t 93)), none⟩]) (.seq (.region 18 [⟨(some 22), (.mov (.k (.bool false))), none⟩]) (.seq (.seq (.region 19 [⟨(some 23), (.mov (.k (.int .i64 0))), none⟩]) (.block 2 (.loop (.seq (.seq (.region 20 [⟨(some 94), (.mov (.t 23)), none⟩, ⟨(some 95), (.mov (.t 9)), none⟩, ⟨(some 96), (.len (.t 95)), none⟩, ⟨(some 97), (.bin .lss (.t 94) (.t 96)), none⟩]) (.cond 97 .skip (.exit 2))) (.seq (.block 3 (.region 22 [⟨(some 100), (.mov (.t 22)), none⟩, ⟨(some 101), (.mov (.t 100)), none⟩, ⟨(some 102), (.mov (.t 9)), (some (101, false))⟩, ⟨(some 103), (.mov (.t 23)), (some (101, false))⟩, ⟨(some 104), (.iads 3 (.t 102) (.t 103)), (some (101, false))⟩, ⟨(some 105), (.fad 1 (.t 104)), (some (101, false))⟩, ⟨(some 106), (.load false 1 (.t 105)), (some (101, false))⟩, ⟨(some 107), (.bin .gtr (.t 106) (.k (.int .i64 0))), (some (101, false))⟩, ⟨(some 108), (.pick (.t 101) (.k (.bool true)) (.t 107)), none⟩, ⟨(some 22), (.mov (.t 108)), none⟩])) (.region 21 [⟨(some 98), (.mov (.t 23)), none⟩, ⟨(some 99), (.bin .add (.t 98) (.k (.int .i64 1))), none⟩, ⟨(some 23), (.mov (.t 99)), none⟩])))))) (.seq (.region 23 [⟨(some 109), (.mov (.t 15)), none⟩, ⟨(some 110), (.mov (.t 20)), none⟩, ⟨(some 111), (.bin .eql (.t 109) (.t 110)), none⟩, ⟨(some 112), (.mov (.t 111)), none⟩, ⟨(some 113), (.mov (.t 16)), (some (112, true))⟩, ⟨(some 114), (.mov (.t 21)), (some (112, true))⟩, ⟨(some 115), (.bin .eql (.t 113) (.t 114)), (some (112, true))⟩, ⟨(some 116), (.pick (.t 112) (.t 115) (.k (.bool false))), none⟩, ⟨(some 117), (.mov (.t 116)), none⟩, ⟨(some 118), (.mov (.t 16)), (some (117, true))⟩, ⟨(some 119), (.bin .eql (.t 118) (.k (.int .i64 0))), (some (117, true))⟩, ⟨(some 120), (.mov (.t 22)), (some (117, true))⟩, ⟨(some 121), (.eqb false (.t 119) (.t 120)), (some (117, true))⟩, ⟨(some 122), (.pick (.t 117) (.t 121) (.k (.bool false))), none⟩, ⟨(some 8), (.mov (.t 122)), none⟩]) .ret)))))))))))))), [(.t 8)], 123⟩ := by kernel_rfl
theorem psteady_pf (walk : List Int) (raw : List (List Int)) (tries at_ : Int) (hwl : walk.length ≤ Go.maxLen) (hwr : ∀ z ∈ walk, InR z) (hl : raw.length ≤ Go.maxLen) (hr : ∀ r ∈ raw, r.length = 2 ∧ ∀ z ∈ r, InR z) (h3 : InR tries) (h4 : InR at_) :
    PF Try.prog 10 [.rows 1 (walk.map PI), .rows 2 (raw.map fun r => r.map I), I tries, I at_] (.bool true) := by
  have pp := parts_pf raw hl hr
  have hfl := parts_flows raw
  have hbk := parts_back raw
  have hok := parts_ok raw
  have hmay := partsL_may raw
  obtain ⟨L, hLe⟩ : ∃ L, L = partsL raw := ⟨_, rfl⟩
  rw [← hLe] at pp hfl hok hmay
  simp only [← hLe] at hbk
  have hmin : min (sumF L) 40 = sumF L := by omega
  rw [hmin] at pp
  have pt := picked_pf tries 13 h3 (by omega)
  have rt := pickedZ_range tries 13 (by omega)
  obtain ⟨t, ht⟩ : ∃ t, t = pickedZ tries 13 := ⟨_, rfl⟩
  rw [← ht] at pt rt
  have hwo := walkof_pf walk hwl hwr
  have hwok : WOk (walkL walk) := walkN_ok walk _
  obtain ⟨w0, hw0⟩ : ∃ w0, w0 = walkL walk := ⟨_, rfl⟩
  rw [← hw0] at hwo hwok
  have hw := (wout_pfn w0 11 (by have := hwok.len; omega)).pf
  have hnd : (notL w0 11).Nodup := hwok.nd.filter _
  have hnb : ∀ b ∈ notL w0 11, 0 ≤ b ∧ b < 11 := fun b hb => by
    have hb := List.mem_filter.1 hb
    have h1 := hwok.bd b hb.1
    have h2 := of_decide_eq_true hb.2
    omega
  have hlen := nd_len 11 _ hnd hnb
  obtain ⟨w, hwe⟩ : ∃ w, w = notL w0 11 := ⟨_, rfl⟩
  rw [← hwe] at hw hlen
  have pk := picked_pf at_ (w.length + 1) h4 (by omega)
  have rk := pickedZ_range at_ (w.length + 1) (by omega)
  obtain ⟨k, hk⟩ : ∃ k : Nat, (k : Int) = pickedZ at_ (w.length + 1) := ⟨(pickedZ at_ (w.length + 1)).toNat, by omega⟩
  rw [← hk] at pk rk
  have hll := hmay.1
  obtain ⟨M, hM⟩ : ∃ M, M = if L.length = 12 then L.take 11 else L := ⟨_, rfl⟩
  have hMl : M.length ≤ 11 := by
    rw [hM]
    split
    · simp; omega
    · omega
  have hMg : ∀ i (h : i < M.length), ∃ h2 : i < L.length, M[i] = L[i] := fun i h => by
    subst hM
    split
    · rename_i h12
      rw [if_pos h12] at h
      simp at h
      exact ⟨by omega, by simp⟩
    · rename_i h12
      rw [if_neg h12] at h
      exact ⟨h, rfl⟩
  have hMb : ∀ i (h : i < M.length), M[i].backend = i := fun i h => by
    obtain ⟨h2, e⟩ := hMg i h
    rw [e]; exact hbk i h2
  have hMo : LOk M := fun x hx => by
    obtain ⟨i, hi, rfl⟩ := List.mem_iff_getElem.1 hx
    obtain ⟨h2, e⟩ := hMg i hi
    rw [e]; exact hok _ (List.getElem_mem h2)
  have hMf : sumF M ≤ sumF L := by
    rw [hM]
    split
    · have e : sumF L = sumF (L.take 11) + sumF (L.drop 11) := by
        unfold sumF
        rw [← List.sum_append, ← List.map_append, List.take_append_drop]
      have h0 : 0 ≤ sumF (L.drop 11) := by
        have key : ∀ l : List Load, (∀ x ∈ l, 0 ≤ x.flows) → 0 ≤ sumF l := fun l => by
          induction l with
          | nil => simp [sumF]
          | cons x t ih =>
            intro h
            have h1 := h x (by simp)
            have h2 := ih fun y hy => h y (List.mem_cons_of_mem _ hy)
            simp only [sumF, List.map_cons, List.sum_cons] at h2 ⊢
            split <;> omega
        exact key _ fun x hx => by have := hok x (List.mem_of_mem_drop hx); omega
      omega
    · exact Int.le_refl _
  have hMm : mayL (-1) M := mayL_of M 0 (-1) (by omega) fun i x hx => by
    obtain ⟨hi, rfl⟩ := List.getElem?_eq_some_iff.1 hx
    have h1 := hMb i hi
    have h2 := hMo _ (List.getElem_mem hi)
    refine ⟨by omega, by omega, by omega, by omega, by omega, by omega⟩
  have hMm2 : mayL (-1) (M ++ [idle]) := mayL_snoc idle (by simp [idle]) M (-1) (by simp [idle]) hMm fun y hy => by
    obtain ⟨i, hi, rfl⟩ := List.mem_iff_getElem.1 hy
    rw [hMb i hi]; simp [idle]; omega
  have hM11 : ofZ M 11 < 0 := by rw [ofZ_none hMb 11 (.inr (.inl (by omega)))]; omega
  have hfac : factorB 3 2 = true := rfl
  have hpk := pick_pf w M 3 2 (sumF L) t (by omega) hMm hfac (by omega) (by omega) (by omega) (by omega) (by omega)
  have hpk2 := pick_pf (insN w k (w.length + 1)) (M ++ [idle]) 3 2 (sumF L) t (by simp; omega) hMm2 hfac (by omega) (by omega) (by omega) (by omega) (by have := insN_len w k (w.length + 1); omega)
  have hin : insN w k (w.length + 1) = w.take k ++ 11 :: w.drop k := by
    unfold insN
    rw [if_pos (by omega), List.take_of_length_le (show w.length ≤ w.length + 1 by omega)]
  have hpe : pickM (insN w k (w.length + 1)) (M ++ [idle]) 3 2 (sumF L) t = pickM w M 3 2 (sumF L) t := by
    rw [hin, pickM_idle _ _ M 3 2 (sumF L) t hfac hMo (by omega) hMf hM11, List.take_append_drop]
  rw [hpe] at hpk2
  have i11 : InR 11 := inr (by omega) (by omega)
  have iw : InR ((w.length : Int) + 1) := inr (by omega) (by omega)
  have hsl : (L.length : Int) = 12 → (L.map Load.D).take 11 = M.map Load.D := fun h => by
    rw [hM, if_pos (by omega), List.map_take]
  have hsl2 : ¬ (L.length : Int) = 12 → L.map Load.D = M.map Load.D := fun h => by
    rw [hM, if_neg (by omega)]
  have hany : (M.any someW = true) ↔ ¬ sumW M = 0 := by
    rw [sumW_zero hMo]
    constructor
    · intro h
      rw [List.any_eq_true] at h
      have := idxZ_some someW M h
      omega
    · intro h
      obtain ⟨h1, h2, _⟩ := idxZ_get someW M (by omega)
      exact List.any_eq_true.2 ⟨_, List.getElem_mem h1, h2⟩
  have hres : (decide ((pickM w M 3 2 (sumF L) t).2 = 0) = M.any someW) := by
    by_cases hw0 : sumW M = 0
    · rw [pickM_busy _ _ _ _ _ _ hMo hw0]
      have : M.any someW = false := by
        cases h : M.any someW with
        | false => rfl
        | true => exact absurd hw0 (hany.1 h)
      rw [this]; rfl
    · obtain ⟨k, hk, h1, h2, h3, h4⟩ := pickI_at w M 3 2 (sumF L) t hfac hMo (by omega) hMf hw0
      rw [h4, hany.2 hw0]; rfl
  obtain ⟨ra, hra⟩ : ∃ ra, ra = (pickM w M 3 2 (sumF L) t).1 := ⟨_, rfl⟩
  obtain ⟨re, hre⟩ : ∃ re, re = (pickM w M 3 2 (sumF L) t).2 := ⟨_, rfl⟩
  rw [← hra, ← hre] at hpk hpk2
  rw [← hre] at hres
  refine PF.of follows_ok psteady_code (by simp) (by simp [argOk]) (by simp [noV, noC]) fun B hBN hB0 => acode_sound [0, 1, 2, 3, 8, 9, 10, 12, 13, 14, 15, 16, 17, 18, 19, 20, 21, 22, 23, 32, 60, 65, 73, 97] [] _ _ _ ?_
  simp [AK_at, acode_seq, acode_region, acode_draw, acode_cond, ↓CB_t, ↓CB_f, CB_u, acode_block, acode_loop, acode_exit, acode_scope, acode_ret, acode_skip, seqQ_n, seqQ_e, seqQ_r, blockQ_n, blockQ_e, blockQ_r, TK_at, OK_at, SK_at, aops_nil, aops_cons, asch_done, asch_one, asch_two, asch_top, astep, aop_eq, isLoud, aloud, aloud1, isWrite, qv, evS, strip, gof, eget, hget, putO, eput, herase, oks, opnds, gS, afin, afin0, binD, arith, D.cells, takeD, fillD, keep, trim, envOf, Fin, aresl, aresv, resD, argOk, pickV, isP, deq, deqs, boundD, slD, lenD, isT, chunks, mn_min, mx_max, D.cells, splice_one, splice_more, Rbr_at, Rfr_at, frR, frV, frC, flatC, brwR, brwV, brwC, omap, leR, leV, leC, leL, leVL]
  by_cases h12 : (L.length : Int) = 12
  case' pos =>
    have hl12 : L.length = 12 := by omega
    have hs := hsl h12
    repeat' (first
      | simp [AK_at, acode_seq, acode_region, acode_draw, acode_cond, ↓CB_t, ↓CB_f, CB_u, acode_block, acode_loop, acode_exit, acode_scope, acode_ret, acode_skip, seqQ_n, seqQ_e, seqQ_r, blockQ_n, blockQ_e, blockQ_r, TK_at, OK_at, SK_at, aops_nil, aops_cons, asch_done, asch_one, asch_two, asch_top, astep, aop_eq, isLoud, aloud, aloud1, isWrite, qv, evS, strip, gof, eget, hget, putO, eput, herase, oks, opnds, gS, afin, afin0, binD, arith, D.cells, takeD, fillD, keep, trim, envOf, Fin, aresl, aresv, resD, argOk, pickV, isP, deq, deqs, boundD, slD, lenD, isT, chunks, mn_min, mx_max, D.cells, splice_one, splice_more, Rbr_at, Rfr_at, frR, frV, frC, flatC, brwR, brwV, brwC, omap, leR, leV, leC, leL, leVL, h12, hl12, hs, iw, i11]
      | (refine WCall.pf (pp) ?_ ?_ ?_ ?_; (focus (simp [oks, opnds, gS, gof, eget]; done)); (focus (simp [omap, brwV, brwC, evS, eget, strip, hget, leVL, leV, leC, leL, h12, hl12, hs, iw, i11]; done)); (focus (simp [noV, noC, flatR, flatV, flatC, evS, eget, strip, h12, hl12, hs, iw, i11]; done)))
      | (refine ⟨WCall.pf (pp) ?_ ?_ ?_ ?_, ?_⟩; (focus (simp [oks, opnds, gS, gof, eget]; done)); (focus (simp [omap, brwV, brwC, evS, eget, strip, hget, leVL, leV, leC, leL, h12, hl12, hs, iw, i11]; done)); (focus (simp [noV, noC, flatR, flatV, flatC, evS, eget, strip, h12, hl12, hs, iw, i11]; done)))
      | (refine WCall.pf (hwo) ?_ ?_ ?_ ?_; (focus (simp [oks, opnds, gS, gof, eget]; done)); (focus (simp [omap, brwV, brwC, evS, eget, strip, hget, leVL, leV, leC, leL, h12, hl12, hs, iw, i11]; done)); (focus (simp [noV, noC, flatR, flatV, flatC, evS, eget, strip, h12, hl12, hs, iw, i11]; done)))
      | (refine ⟨WCall.pf (hwo) ?_ ?_ ?_ ?_, ?_⟩; (focus (simp [oks, opnds, gS, gof, eget]; done)); (focus (simp [omap, brwV, brwC, evS, eget, strip, hget, leVL, leV, leC, leL, h12, hl12, hs, iw, i11]; done)); (focus (simp [noV, noC, flatR, flatV, flatC, evS, eget, strip, h12, hl12, hs, iw, i11]; done)))
      | (refine WCall.pf (hw) ?_ ?_ ?_ ?_; (focus (simp [oks, opnds, gS, gof, eget]; done)); (focus (simp [omap, brwV, brwC, evS, eget, strip, hget, leVL, leV, leC, leL, h12, hl12, hs, iw, i11]; done)); (focus (simp [noV, noC, flatR, flatV, flatC, evS, eget, strip, h12, hl12, hs, iw, i11]; done)))
      | (refine ⟨WCall.pf (hw) ?_ ?_ ?_ ?_, ?_⟩; (focus (simp [oks, opnds, gS, gof, eget]; done)); (focus (simp [omap, brwV, brwC, evS, eget, strip, hget, leVL, leV, leC, leL, h12, hl12, hs, iw, i11]; done)); (focus (simp [noV, noC, flatR, flatV, flatC, evS, eget, strip, h12, hl12, hs, iw, i11]; done)))
      | (refine WCall.pf (pt) ?_ ?_ ?_ ?_; (focus (simp [oks, opnds, gS, gof, eget]; done)); (focus (simp [omap, brwV, brwC, evS, eget, strip, hget, leVL, leV, leC, leL, h12, hl12, hs, iw, i11]; done)); (focus (simp [noV, noC, flatR, flatV, flatC, evS, eget, strip, h12, hl12, hs, iw, i11]; done)))
      | (refine ⟨WCall.pf (pt) ?_ ?_ ?_ ?_, ?_⟩; (focus (simp [oks, opnds, gS, gof, eget]; done)); (focus (simp [omap, brwV, brwC, evS, eget, strip, hget, leVL, leV, leC, leL, h12, hl12, hs, iw, i11]; done)); (focus (simp [noV, noC, flatR, flatV, flatC, evS, eget, strip, h12, hl12, hs, iw, i11]; done)))
      | (refine WCall.pf (hpk) ?_ ?_ ?_ ?_; (focus (simp [oks, opnds, gS, gof, eget]; done)); (focus (simp [omap, brwV, brwC, evS, eget, strip, hget, leVL, leV, leC, leL, h12, hl12, hs, iw, i11]; done)); (focus (simp [noV, noC, flatR, flatV, flatC, evS, eget, strip, h12, hl12, hs, iw, i11]; done)))
      | (refine ⟨WCall.pf (hpk) ?_ ?_ ?_ ?_, ?_⟩; (focus (simp [oks, opnds, gS, gof, eget]; done)); (focus (simp [omap, brwV, brwC, evS, eget, strip, hget, leVL, leV, leC, leL, h12, hl12, hs, iw, i11]; done)); (focus (simp [noV, noC, flatR, flatV, flatC, evS, eget, strip, h12, hl12, hs, iw, i11]; done)))
      | (refine WCall.pf (pk) ?_ ?_ ?_ ?_; (focus (simp [oks, opnds, gS, gof, eget]; done)); (focus (simp [omap, brwV, brwC, evS, eget, strip, hget, leVL, leV, leC, leL, h12, hl12, hs, iw, i11]; done)); (focus (simp [noV, noC, flatR, flatV, flatC, evS, eget, strip, h12, hl12, hs, iw, i11]; done)))
      | (refine ⟨WCall.pf (pk) ?_ ?_ ?_ ?_, ?_⟩; (focus (simp [oks, opnds, gS, gof, eget]; done)); (focus (simp [omap, brwV, brwC, evS, eget, strip, hget, leVL, leV, leC, leL, h12, hl12, hs, iw, i11]; done)); (focus (simp [noV, noC, flatR, flatV, flatC, evS, eget, strip, h12, hl12, hs, iw, i11]; done)))
      | (with_reducible refine And.intro (And.intro ?_ ?_) ?_)
      | fail)
  case' neg =>
    have hs := hsl2 h12
    have hm12 : ¬ (M.length : Int) = 12 := by omega
    repeat' (first
      | simp [AK_at, acode_seq, acode_region, acode_draw, acode_cond, ↓CB_t, ↓CB_f, CB_u, acode_block, acode_loop, acode_exit, acode_scope, acode_ret, acode_skip, seqQ_n, seqQ_e, seqQ_r, blockQ_n, blockQ_e, blockQ_r, TK_at, OK_at, SK_at, aops_nil, aops_cons, asch_done, asch_one, asch_two, asch_top, astep, aop_eq, isLoud, aloud, aloud1, isWrite, qv, evS, strip, gof, eget, hget, putO, eput, herase, oks, opnds, gS, afin, afin0, binD, arith, D.cells, takeD, fillD, keep, trim, envOf, Fin, aresl, aresv, resD, argOk, pickV, isP, deq, deqs, boundD, slD, lenD, isT, chunks, mn_min, mx_max, D.cells, splice_one, splice_more, Rbr_at, Rfr_at, frR, frV, frC, flatC, brwR, brwV, brwC, omap, leR, leV, leC, leL, leVL, h12, hm12, hs, iw, i11]
      | (refine WCall.pf (pp) ?_ ?_ ?_ ?_; (focus (simp [oks, opnds, gS, gof, eget]; done)); (focus (simp [omap, brwV, brwC, evS, eget, strip, hget, leVL, leV, leC, leL, h12, hm12, hs, iw, i11]; done)); (focus (simp [noV, noC, flatR, flatV, flatC, evS, eget, strip, h12, hm12, hs, iw, i11]; done)))
      | (refine ⟨WCall.pf (pp) ?_ ?_ ?_ ?_, ?_⟩; (focus (simp [oks, opnds, gS, gof, eget]; done)); (focus (simp [omap, brwV, brwC, evS, eget, strip, hget, leVL, leV, leC, leL, h12, hm12, hs, iw, i11]; done)); (focus (simp [noV, noC, flatR, flatV, flatC, evS, eget, strip, h12, hm12, hs, iw, i11]; done)))
      | (refine WCall.pf (hwo) ?_ ?_ ?_ ?_; (focus (simp [oks, opnds, gS, gof, eget]; done)); (focus (simp [omap, brwV, brwC, evS, eget, strip, hget, leVL, leV, leC, leL, h12, hm12, hs, iw, i11]; done)); (focus (simp [noV, noC, flatR, flatV, flatC, evS, eget, strip, h12, hm12, hs, iw, i11]; done)))
      | (refine ⟨WCall.pf (hwo) ?_ ?_ ?_ ?_, ?_⟩; (focus (simp [oks, opnds, gS, gof, eget]; done)); (focus (simp [omap, brwV, brwC, evS, eget, strip, hget, leVL, leV, leC, leL, h12, hm12, hs, iw, i11]; done)); (focus (simp [noV, noC, flatR, flatV, flatC, evS, eget, strip, h12, hm12, hs, iw, i11]; done)))
      | (refine WCall.pf (hw) ?_ ?_ ?_ ?_; (focus (simp [oks, opnds, gS, gof, eget]; done)); (focus (simp [omap, brwV, brwC, evS, eget, strip, hget, leVL, leV, leC, leL, h12, hm12, hs, iw, i11]; done)); (focus (simp [noV, noC, flatR, flatV, flatC, evS, eget, strip, h12, hm12, hs, iw, i11]; done)))
      | (refine ⟨WCall.pf (hw) ?_ ?_ ?_ ?_, ?_⟩; (focus (simp [oks, opnds, gS, gof, eget]; done)); (focus (simp [omap, brwV, brwC, evS, eget, strip, hget, leVL, leV, leC, leL, h12, hm12, hs, iw, i11]; done)); (focus (simp [noV, noC, flatR, flatV, flatC, evS, eget, strip, h12, hm12, hs, iw, i11]; done)))
      | (refine WCall.pf (pt) ?_ ?_ ?_ ?_; (focus (simp [oks, opnds, gS, gof, eget]; done)); (focus (simp [omap, brwV, brwC, evS, eget, strip, hget, leVL, leV, leC, leL, h12, hm12, hs, iw, i11]; done)); (focus (simp [noV, noC, flatR, flatV, flatC, evS, eget, strip, h12, hm12, hs, iw, i11]; done)))
      | (refine ⟨WCall.pf (pt) ?_ ?_ ?_ ?_, ?_⟩; (focus (simp [oks, opnds, gS, gof, eget]; done)); (focus (simp [omap, brwV, brwC, evS, eget, strip, hget, leVL, leV, leC, leL, h12, hm12, hs, iw, i11]; done)); (focus (simp [noV, noC, flatR, flatV, flatC, evS, eget, strip, h12, hm12, hs, iw, i11]; done)))
      | (refine WCall.pf (hpk) ?_ ?_ ?_ ?_; (focus (simp [oks, opnds, gS, gof, eget]; done)); (focus (simp [omap, brwV, brwC, evS, eget, strip, hget, leVL, leV, leC, leL, h12, hm12, hs, iw, i11]; done)); (focus (simp [noV, noC, flatR, flatV, flatC, evS, eget, strip, h12, hm12, hs, iw, i11]; done)))
      | (refine ⟨WCall.pf (hpk) ?_ ?_ ?_ ?_, ?_⟩; (focus (simp [oks, opnds, gS, gof, eget]; done)); (focus (simp [omap, brwV, brwC, evS, eget, strip, hget, leVL, leV, leC, leL, h12, hm12, hs, iw, i11]; done)); (focus (simp [noV, noC, flatR, flatV, flatC, evS, eget, strip, h12, hm12, hs, iw, i11]; done)))
      | (refine WCall.pf (pk) ?_ ?_ ?_ ?_; (focus (simp [oks, opnds, gS, gof, eget]; done)); (focus (simp [omap, brwV, brwC, evS, eget, strip, hget, leVL, leV, leC, leL, h12, hm12, hs, iw, i11]; done)); (focus (simp [noV, noC, flatR, flatV, flatC, evS, eget, strip, h12, hm12, hs, iw, i11]; done)))
      | (refine ⟨WCall.pf (pk) ?_ ?_ ?_ ?_, ?_⟩; (focus (simp [oks, opnds, gS, gof, eget]; done)); (focus (simp [omap, brwV, brwC, evS, eget, strip, hget, leVL, leV, leC, leL, h12, hm12, hs, iw, i11]; done)); (focus (simp [noV, noC, flatR, flatV, flatC, evS, eget, strip, h12, hm12, hs, iw, i11]; done)))
      | (with_reducible refine And.intro (And.intro ?_ ?_) ?_)
      | fail)
  all_goals
    refine W.loopS (fun i : Nat => ⟨[(19, I i), (18, .own 0), (17, I k), (16, I re), (15, I ra), (14, I t), (13, D.rows 1 (w.map PI)), (12, I 11), (10, I (sumF L)), (9, D.rows 3 (M.map Load.D))], [(0, .row 1 ((insN w k i).map PI))], 1⟩)
      (fun n i => n = w.length + 1 - i ∧ i ≤ w.length + 1) ?_ ?_
    · refine ⟨_, 0, (Gh.adopt 18 1 (by omega) (by simp [eget])).trans ?_, rfl, by omega⟩
      simp [eput]
      exact (Gh.ren [] (by simp [hB0]) (by simp [hB0]) (by simp [eget, rnS, rnR, rnV, rnC, LtS, LtR, LtV, LtC, lget, insN]) (by simp [hget, rnO, rnC, LtO, LtC, lget, insN]) (.inr rfl))
    rintro n i ⟨hn, hi⟩
    refine acode_sound [0, 1, 2, 3, 8, 9, 10, 12, 13, 14, 15, 16, 17, 18, 19, 20, 21, 22, 23, 32, 60, 65, 73, 97] [] _ _ _ ?_
    have hil := insN_len w k i
    by_cases hlt : i ≤ w.length
    · have hlt2 : (i : Int) ≤ w.length := by omega
      have hst := insN_step w k i hlt
      obtain ⟨acc, hacc⟩ : ∃ acc, acc = insN w k i := ⟨_, rfl⟩
      rw [← hacc] at hst hil
      have ii : InR ((i : Int) + 1) := inr (by omega) (by omega)
      have hcap : (acc.length + 1) * 8 ≤ 140737488355328 := by omega
      have hcap2 : (acc.length + 1 + 1) * 8 ≤ 140737488355328 := by omega
      by_cases hik : i = k
      · have hik2 : (i : Int) = k := by omega
        rw [if_pos hik] at hst
        clear hik2
        subst hik
        by_cases hiw : i < w.length
        · obtain ⟨b, hb⟩ : ∃ b, b = w[i] := ⟨_, rfl⟩
          have hst : insN w i (i + 1) = acc ++ [11] ++ [b] := by rw [hst, dif_pos hiw, hb]
          simp [AK_at, acode_seq, acode_region, acode_draw, acode_cond, ↓CB_t, ↓CB_f, CB_u, acode_block, acode_loop, acode_exit, acode_scope, acode_ret, acode_skip, seqQ_n, seqQ_e, seqQ_r, blockQ_n, blockQ_e, blockQ_r, TK_at, OK_at, SK_at, aops_nil, aops_cons, asch_done, asch_one, asch_two, asch_top, astep, aop_eq, isLoud, aloud, aloud1, isWrite, qv, evS, strip, gof, eget, hget, putO, eput, herase, oks, opnds, gS, afin, afin0, binD, arith, D.cells, takeD, fillD, keep, trim, envOf, Fin, aresl, aresv, resD, argOk, pickV, isP, deq, deqs, boundD, slD, lenD, isT, chunks, mn_min, mx_max, D.cells, splice_one, splice_more, Rbr_at, Rfr_at, frR, frV, frC, flatC, brwR, brwV, brwC, omap, leR, leV, leC, leL, leVL, ← hacc, hlt, hlt2, hiw, ← hb, PI, hcap, hcap2, ii]
          exact ⟨_, i + 1, (Gh.ren [4] (by simp [hB0]) (by simp [hB0]) (by simp [eget, rnS, rnR, rnV, rnC, LtS, LtR, LtV, LtC, lget, hst, PI]) (by simp [hget, rnO, rnC, LtO, LtC, lget, hst, PI]) (.inl (by simp [lget]))), by omega, rfl, by omega⟩
        · have hst : insN w i (i + 1) = acc ++ [11] := by rw [hst, dif_neg hiw, List.append_nil]
          simp [AK_at, acode_seq, acode_region, acode_draw, acode_cond, ↓CB_t, ↓CB_f, CB_u, acode_block, acode_loop, acode_exit, acode_scope, acode_ret, acode_skip, seqQ_n, seqQ_e, seqQ_r, blockQ_n, blockQ_e, blockQ_r, TK_at, OK_at, SK_at, aops_nil, aops_cons, asch_done, asch_one, asch_two, asch_top, astep, aop_eq, isLoud, aloud, aloud1, isWrite, qv, evS, strip, gof, eget, hget, putO, eput, herase, oks, opnds, gS, afin, afin0, binD, arith, D.cells, takeD, fillD, keep, trim, envOf, Fin, aresl, aresv, resD, argOk, pickV, isP, deq, deqs, boundD, slD, lenD, isT, chunks, mn_min, mx_max, D.cells, splice_one, splice_more, Rbr_at, Rfr_at, frR, frV, frC, flatC, brwR, brwV, brwC, omap, leR, leV, leC, leL, leVL, ← hacc, hlt, hlt2, hiw, PI, hcap, ii]
          exact ⟨_, i + 1, (Gh.ren [2] (by simp [hB0]) (by simp [hB0]) (by simp [eget, rnS, rnR, rnV, rnC, LtS, LtR, LtV, LtC, lget, hst, PI]) (by simp [hget, rnO, rnC, LtO, LtC, lget, hst, PI]) (.inl (by simp [lget]))), by omega, rfl, by omega⟩
      · have hik2 : ¬ (i : Int) = k := by omega
        rw [if_neg hik, List.append_nil] at hst
        by_cases hiw : i < w.length
        · obtain ⟨b, hb⟩ : ∃ b, b = w[i] := ⟨_, rfl⟩
          have hst : insN w k (i + 1) = acc ++ [b] := by rw [hst, dif_pos hiw, hb]
          simp [AK_at, acode_seq, acode_region, acode_draw, acode_cond, ↓CB_t, ↓CB_f, CB_u, acode_block, acode_loop, acode_exit, acode_scope, acode_ret, acode_skip, seqQ_n, seqQ_e, seqQ_r, blockQ_n, blockQ_e, blockQ_r, TK_at, OK_at, SK_at, aops_nil, aops_cons, asch_done, asch_one, asch_two, asch_top, astep, aop_eq, isLoud, aloud, aloud1, isWrite, qv, evS, strip, gof, eget, hget, putO, eput, herase, oks, opnds, gS, afin, afin0, binD, arith, D.cells, takeD, fillD, keep, trim, envOf, Fin, aresl, aresv, resD, argOk, pickV, isP, deq, deqs, boundD, slD, lenD, isT, chunks, mn_min, mx_max, D.cells, splice_one, splice_more, Rbr_at, Rfr_at, frR, frV, frC, flatC, brwR, brwV, brwC, omap, leR, leV, leC, leL, leVL, ← hacc, hlt, hlt2, hik2, hiw, ← hb, PI, hcap, hcap2, ii]
          exact ⟨_, i + 1, (Gh.ren [2] (by simp [hB0]) (by simp [hB0]) (by simp [eget, rnS, rnR, rnV, rnC, LtS, LtR, LtV, LtC, lget, hst, PI]) (by simp [hget, rnO, rnC, LtO, LtC, lget, hst, PI]) (.inl (by simp [lget]))), by omega, rfl, by omega⟩
        · have hst : insN w k (i + 1) = acc := by rw [hst, dif_neg hiw, List.append_nil]
          simp [AK_at, acode_seq, acode_region, acode_draw, acode_cond, ↓CB_t, ↓CB_f, CB_u, acode_block, acode_loop, acode_exit, acode_scope, acode_ret, acode_skip, seqQ_n, seqQ_e, seqQ_r, blockQ_n, blockQ_e, blockQ_r, TK_at, OK_at, SK_at, aops_nil, aops_cons, asch_done, asch_one, asch_two, asch_top, astep, aop_eq, isLoud, aloud, aloud1, isWrite, qv, evS, strip, gof, eget, hget, putO, eput, herase, oks, opnds, gS, afin, afin0, binD, arith, D.cells, takeD, fillD, keep, trim, envOf, Fin, aresl, aresv, resD, argOk, pickV, isP, deq, deqs, boundD, slD, lenD, isT, chunks, mn_min, mx_max, D.cells, splice_one, splice_more, Rbr_at, Rfr_at, frR, frV, frC, flatC, brwR, brwV, brwC, omap, leR, leV, leC, leL, leVL, ← hacc, hlt, hlt2, hik2, hiw, PI, hcap, ii]
          exact ⟨_, i + 1, (Gh.ren [0] (by simp [hB0]) (by simp [hB0]) (by simp [eget, rnS, rnR, rnV, rnC, LtS, LtR, LtV, LtC, lget, hst, PI]) (by simp [hget, rnO, rnC, LtO, LtC, lget, hst, PI]) (.inl (by simp [lget]))), by omega, rfl, by omega⟩
    · have hie : i = w.length + 1 := by omega
      subst hie
      have hlt2 : ¬ ((w.length : Int) + 1 ≤ w.length) := by omega
      have hd3 : ∀ a, a ∈ M → a.D.length = 3 := fun _ _ => rfl
      have hc1 : M.length * 24 ≤ 140737488355328 := by omega
      have hc2 : (M.length + 1) * 24 ≤ 140737488355328 := by omega
      rw [List.map_append, List.map_singleton] at hpk2
      repeat' (first
        | simp [AK_at, acode_seq, acode_region, acode_draw, acode_cond, ↓CB_t, ↓CB_f, CB_u, acode_block, acode_loop, acode_exit, acode_scope, acode_ret, acode_skip, seqQ_n, seqQ_e, seqQ_r, blockQ_n, blockQ_e, blockQ_r, TK_at, OK_at, SK_at, aops_nil, aops_cons, asch_done, asch_one, asch_two, asch_top, astep, aop_eq, isLoud, aloud, aloud1, isWrite, qv, evS, strip, gof, eget, hget, putO, eput, herase, oks, opnds, gS, afin, afin0, binD, arith, D.cells, takeD, fillD, keep, trim, envOf, Fin, aresl, aresv, resD, argOk, pickV, isP, deq, deqs, boundD, slD, lenD, isT, chunks, mn_min, mx_max, D.cells, splice_one, splice_more, Rbr_at, Rfr_at, frR, frV, frC, flatC, brwR, brwV, brwC, omap, leR, leV, leC, leL, leVL, hlt2, hd3, hc1, hc2, idle, Load.D]
        | (refine WCall.pf (hpk2) ?_ ?_ ?_ ?_; (focus (simp [oks, opnds, gS, gof, eget]; done)); (focus (simp [omap, brwV, brwC, evS, eget, strip, hget, leVL, leV, leC, leL, hlt2, hd3, hc1, hc2, idle, Load.D]; done)); (focus (simp [noV, noC, flatR, flatV, flatC, evS, eget, strip, hlt2, hd3, hc1, hc2, idle, Load.D]; done)))
        | (refine ⟨WCall.pf (hpk2) ?_ ?_ ?_ ?_, ?_⟩; (focus (simp [oks, opnds, gS, gof, eget]; done)); (focus (simp [omap, brwV, brwC, evS, eget, strip, hget, leVL, leV, leC, leL, hlt2, hd3, hc1, hc2, idle, Load.D]; done)); (focus (simp [noV, noC, flatR, flatV, flatC, evS, eget, strip, hlt2, hd3, hc1, hc2, idle, Load.D]; done)))
        | (with_reducible refine And.intro (And.intro ?_ ?_) ?_)
        | fail)
      refine W.loopS (fun y : Nat × Bool => ⟨[(23, I y.1), (22, .bool y.2), (21, I re), (20, I ra), (16, I re), (15, I ra), (9, D.rows 3 (M.map Load.D))], [], 0⟩)
        (fun n y => n = M.length - y.1 ∧ y.1 ≤ M.length ∧ y.2 = (M.take y.1).any someW) ?_ ?_
      · exact ⟨_, (0, false), (Gh.ren [] (by simp [hB0]) (by simp [hB0]) (by simp [eget, rnS, rnR, rnV, rnC, LtS, LtR, LtV, LtC, lget]) (by simp [hget, rnO, rnC, LtO, LtC, lget]) (.inr rfl)), rfl, by omega, by simp⟩
      rintro n ⟨i, b⟩ ⟨hn, hi, hb⟩
      simp only at hn hi hb
      refine acode_sound [0, 1, 2, 3, 8, 9, 10, 12, 13, 14, 15, 16, 17, 18, 19, 20, 21, 22, 23, 32, 60, 65, 73, 97] [] _ _ _ ?_
      by_cases hlt : i < M.length
      · have hts : (M.take (i + 1)).any someW = (b || someW M[i]) := by
          rw [hb, List.take_succ_eq_append_getElem hlt, List.any_append]
          simp
        obtain ⟨x, hx⟩ : ∃ x, x = M[i] := ⟨_, rfl⟩
        rw [← hx] at hts
        have ii : InR ((i : Int) + 1) := inr (by omega) (by omega)
        cases b with
        | true =>
          simp [AK_at, acode_seq, acode_region, acode_draw, acode_cond, ↓CB_t, ↓CB_f, CB_u, acode_block, acode_loop, acode_exit, acode_scope, acode_ret, acode_skip, seqQ_n, seqQ_e, seqQ_r, blockQ_n, blockQ_e, blockQ_r, TK_at, OK_at, SK_at, aops_nil, aops_cons, asch_done, asch_one, asch_two, asch_top, astep, aop_eq, isLoud, aloud, aloud1, isWrite, qv, evS, strip, gof, eget, hget, putO, eput, herase, oks, opnds, gS, afin, afin0, binD, arith, D.cells, takeD, fillD, keep, trim, envOf, Fin, aresl, aresv, resD, argOk, pickV, isP, deq, deqs, boundD, slD, lenD, isT, chunks, mn_min, mx_max, D.cells, splice_one, splice_more, Rbr_at, Rfr_at, frR, frV, frC, flatC, brwR, brwV, brwC, omap, leR, leV, leC, leL, leVL, hlt, ← hx, Load.D, ii]
          exact ⟨_, (i + 1, true), (Gh.ren [] (by simp [hB0]) (by simp [hB0]) (by simp [eget, rnS, rnR, rnV, rnC, LtS, LtR, LtV, LtC, lget]) (by simp [hget, rnO, rnC, LtO, LtC, lget]) (.inr rfl)), by omega, rfl, by omega, by rw [hts]; rfl⟩
        | false =>
          by_cases hw : 0 < x.weight
          · have hts : (M.take (i + 1)).any someW = true := by rw [hts]; simp [someW, hw]
            simp [AK_at, acode_seq, acode_region, acode_draw, acode_cond, ↓CB_t, ↓CB_f, CB_u, acode_block, acode_loop, acode_exit, acode_scope, acode_ret, acode_skip, seqQ_n, seqQ_e, seqQ_r, blockQ_n, blockQ_e, blockQ_r, TK_at, OK_at, SK_at, aops_nil, aops_cons, asch_done, asch_one, asch_two, asch_top, astep, aop_eq, isLoud, aloud, aloud1, isWrite, qv, evS, strip, gof, eget, hget, putO, eput, herase, oks, opnds, gS, afin, afin0, binD, arith, D.cells, takeD, fillD, keep, trim, envOf, Fin, aresl, aresv, resD, argOk, pickV, isP, deq, deqs, boundD, slD, lenD, isT, chunks, mn_min, mx_max, D.cells, splice_one, splice_more, Rbr_at, Rfr_at, frR, frV, frC, flatC, brwR, brwV, brwC, omap, leR, leV, leC, leL, leVL, hlt, ← hx, Load.D, ii, hw]
            exact ⟨_, (i + 1, true), (Gh.ren [] (by simp [hB0]) (by simp [hB0]) (by simp [eget, rnS, rnR, rnV, rnC, LtS, LtR, LtV, LtC, lget]) (by simp [hget, rnO, rnC, LtO, LtC, lget]) (.inr rfl)), by omega, rfl, by omega, hts.symm⟩
          · have hts : (M.take (i + 1)).any someW = false := by rw [hts]; simp [someW, hw]
            simp [AK_at, acode_seq, acode_region, acode_draw, acode_cond, ↓CB_t, ↓CB_f, CB_u, acode_block, acode_loop, acode_exit, acode_scope, acode_ret, acode_skip, seqQ_n, seqQ_e, seqQ_r, blockQ_n, blockQ_e, blockQ_r, TK_at, OK_at, SK_at, aops_nil, aops_cons, asch_done, asch_one, asch_two, asch_top, astep, aop_eq, isLoud, aloud, aloud1, isWrite, qv, evS, strip, gof, eget, hget, putO, eput, herase, oks, opnds, gS, afin, afin0, binD, arith, D.cells, takeD, fillD, keep, trim, envOf, Fin, aresl, aresv, resD, argOk, pickV, isP, deq, deqs, boundD, slD, lenD, isT, chunks, mn_min, mx_max, D.cells, splice_one, splice_more, Rbr_at, Rfr_at, frR, frV, frC, flatC, brwR, brwV, brwC, omap, leR, leV, leC, leL, leVL, hlt, ← hx, Load.D, ii, hw]
            exact ⟨_, (i + 1, false), (Gh.ren [] (by simp [hB0]) (by simp [hB0]) (by simp [eget, rnS, rnR, rnV, rnC, LtS, LtR, LtV, LtC, lget]) (by simp [hget, rnO, rnC, LtO, LtC, lget]) (.inr rfl)), by omega, rfl, by omega, hts.symm⟩
      · have hie : i = M.length := by omega
        subst hie
        rw [List.take_length, ← hres] at hb
        subst hb
        simp [AK_at, acode_seq, acode_region, acode_draw, acode_cond, ↓CB_t, ↓CB_f, CB_u, acode_block, acode_loop, acode_exit, acode_scope, acode_ret, acode_skip, seqQ_n, seqQ_e, seqQ_r, blockQ_n, blockQ_e, blockQ_r, TK_at, OK_at, SK_at, aops_nil, aops_cons, asch_done, asch_one, asch_two, asch_top, astep, aop_eq, isLoud, aloud, aloud1, isWrite, qv, evS, strip, gof, eget, hget, putO, eput, herase, oks, opnds, gS, afin, afin0, binD, arith, D.cells, takeD, fillD, keep, trim, envOf, Fin, aresl, aresv, resD, argOk, pickV, isP, deq, deqs, boundD, slD, lenD, isT, chunks, mn_min, mx_max, D.cells, splice_one, splice_more, Rbr_at, Rfr_at, frR, frV, frC, flatC, brwR, brwV, brwC, omap, leR, leV, leC, leL, leVL]
        done
end Go.Proofs.Ytgjngknkokgpjaa
