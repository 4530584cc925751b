/- This text holds, one behind the other, the texts that say what the program computes, step by step, and the rules that they need. They have no condition of their own. -/
import Derived.Test.YtajimebannjofaaMe
import Derived.Test.YtajimebannjofaaMc
import Derived.Deep.Slices
set_option linter.unusedSimpArgs false
set_option linter.unusedVariables false
set_option maxRecDepth 100000
set_option maxHeartbeats 4000000
namespace Go.Proofs.Ytajimebannjofaa
open Go.RowKit
def neB (b z : Int) : Bool := decide (z ≠ b)
theorem ded_filter (b : Int) (l : List (Int × Int)) : ∀ acc : List Int, (l.filter fun s => neB b s.2).foldl (fun out s => if s.2 ∈ out then out else out ++ [s.2]) (acc.filter (neB b)) = (l.foldl (fun out s => if s.2 ∈ out then out else out ++ [s.2]) acc).filter (neB b) := by
  induction l with
  | nil => intro acc; rfl
  | cons s t ih =>
    intro acc
    simp only [List.foldl_cons, List.filter_cons]
    by_cases h : neB b s.2 = true
    · rw [if_pos h, List.foldl_cons, ← ih]
      congr 1
      by_cases hm : s.2 ∈ acc
      · rw [if_pos hm, if_pos (List.mem_filter.2 ⟨hm, h⟩)]
      · rw [if_neg hm, if_neg (fun h2 => hm (List.mem_filter.1 h2).1), List.filter_append]
        simp [h]
    · rw [if_neg h, ← ih]
      congr 1
      by_cases hm : s.2 ∈ acc
      · rw [if_pos hm]
      · rw [if_neg hm, List.filter_append]
        simp [h]
theorem dedM_filter (b : Int) (l : List (Int × Int)) : dedM (l.filter fun s => neB b s.2) = (dedM l).filter (neB b) := ded_filter b l []
theorem take_while_filter {α : Type} (p : α → Bool) : ∀ l : List α, (∀ i j (hi : i < l.length) (hj : j < l.length), i ≤ j → p l[j] = true → p l[i] = true) → l.takeWhile p = l.filter p ∧ l.dropWhile p = l.filter fun x => !p x
  | [], _ => ⟨rfl, rfl⟩
  | x :: t, h => by
    rw [List.takeWhile_cons, List.dropWhile_cons, List.filter_cons, List.filter_cons]
    cases hp : p x with
    | true =>
      obtain ⟨h1, h2⟩ := take_while_filter p t fun i j hi hj hij hh => h (i + 1) (j + 1) (by simp; omega) (by simp; omega) (by omega) hh
      simp [h1, h2]
    | false =>
      have hall : ∀ y ∈ t, p y = false := fun y hy => by
        obtain ⟨j, hj⟩ := List.getElem?_of_mem hy
        obtain ⟨hjl, hje⟩ := List.getElem?_eq_some_iff.1 hj
        cases hq : p y with
        | false => rfl
        | true =>
          have := h 0 (j + 1) (by simp) (by simp; omega) (by omega) (by simpa [hje] using hq)
          simp [hp] at this
      have f1 : t.filter p = [] := List.filter_eq_nil_iff.2 fun y hy => by simp [hall y hy]
      have f2 : t.filter (fun x => !p x) = t := List.filter_eq_self.2 fun y hy => by simp [hall y hy]
      simp [f1, f2]
theorem tw_split {α : Type} (p : α → Bool) : ∀ l : List α, l.drop (l.takeWhile p).length = l.dropWhile p ∧ l.take (l.takeWhile p).length = l.takeWhile p
  | [] => ⟨rfl, rfl⟩
  | x :: t => by
    obtain ⟨h1, h2⟩ := tw_split p t
    rw [List.takeWhile_cons, List.dropWhile_cons]
    cases p x with
    | true => simp [h1, h2]
    | false => simp
theorem rot_filter (xs : List (Int × Int)) (p : Int × Int → Bool) (h : ∀ i j (hi : i < xs.length) (hj : j < xs.length), i ≤ j → p xs[j] = true → p xs[i] = true) : rotL xs (lowB p xs) = xs.filter (fun x => !p x) ++ xs.filter p := by
  obtain ⟨h1, h2⟩ := take_while_filter p xs h
  unfold rotL lowB
  rw [← h1, ← h2]
  rw [(tw_split p xs).1, (tw_split p xs).2]
theorem walk_filter (ws : List Nat) (h : WOk ws) (z : Int) (b : Nat) (hb : b < 12) : walkM (ws.set b 0) z = (walkM ws z).filter (neB b) := by
  have hp : ∀ (vs : List Nat), ∀ i j (hi : i < (ringM vs).length) (hj : j < (ringM vs).length), i ≤ j → (fun x : Int × Int => decide (ord2 x.1 x.2 z (-1) < 0)) (ringM vs)[j] = true → (fun x : Int × Int => decide (ord2 x.1 x.2 z (-1) < 0)) (ringM vs)[i] = true := fun vs i j hi hj hij hh => by
    simp only [decide_eq_true_eq] at hh ⊢
    exact ring_mono vs z i j hi hj hij hh
  have e : (ringM ws).filter (nq (isB b)) = (ringM ws).filter fun s => neB b s.2 := by
    refine List.filter_congr fun s _ => ?_
    by_cases h : s.2 = (b : Int) <;> simp [nq, isB, neB, h]
  unfold walkM fromM
  rw [rot_filter _ _ (hp (ws.set b 0)), rot_filter _ _ (hp ws), ← ring_del ws h b hb, e, ← dedM_filter]
  congr 1
  rw [List.filter_append, List.filter_filter, List.filter_filter, List.filter_filter, List.filter_filter]
  congr 1 <;> exact List.filter_congr fun s _ => Bool.and_comm _ _
theorem filter_len (b : Int) : ∀ l : List Int, l.Nodup → (l.filter (neB b)).length = l.length - if b ∈ l then 1 else 0
  | [], _ => by simp
  | z :: t, h => by
    obtain ⟨h1, h2⟩ := List.nodup_cons.1 h
    have ih := filter_len b t h2
    rw [List.filter_cons]
    by_cases e : z = b
    · subst e
      have : neB z z = false := by simp [neB]
      simp [this, ih, h1]
    · have e' : ¬ b = z := fun h => e h.symm
      have : neB b z = true := by simp [neB, e]
      simp [this, ih, e']
      by_cases hm : b ∈ t
      · have : 0 < t.length := List.length_pos_of_mem hm
        simp [hm]; omega
      · simp [hm]
theorem rwout_code : cfun Try.prog [] 22 = some ⟨(.seq (.region 0 [⟨(some 4), (.mov (.k .nil0)), none⟩]) (.seq (.region 1 [⟨(some 5), (.mov (.k .nil0)), none⟩]) (.seq (.seq (.region 2 [⟨(some 6), (.mov (.k (.int .i64 0))), none⟩]) (.block 0 (.loop (.seq (.seq (.region 3 [⟨(some 7), (.mov (.t 6)), none⟩, ⟨(some 8), (.mov (.t 0)), none⟩, ⟨(some 9), (.len (.t 8)), none⟩, ⟨(some 10), (.bin .lss (.t 7) (.t 9)), none⟩]) (.cond 10 .skip (.exit 0))) (.seq (.block 1 (.seq (.region 5 [⟨(some 13), (.mov (.t 0)), none⟩, ⟨(some 14), (.mov (.t 6)), none⟩, ⟨(some 15), (.iads 1 (.t 13) (.t 14)), none⟩, ⟨(some 16), (.load false 1 (.t 15)), none⟩, ⟨(some 17), (.mov (.t 1)), none⟩, ⟨(some 18), (.bin .neq (.t 16) (.t 17)), none⟩]) (.cond 18 (.region 6 [⟨(some 19), (.mov (.t 5)), none⟩, ⟨(some 20), (.mov (.t 0)), none⟩, ⟨(some 21), (.mov (.t 6)), none⟩, ⟨(some 22), (.iads 1 (.t 20) (.t 21)), none⟩, ⟨(some 23), (.load false 1 (.t 22)), none⟩, ⟨(some 24), (.bslice 1 1 [(.int .i64 0)] [(0, (.t 23))]), none⟩, ⟨(some 25), (.app 1 8 [(.int .i64 0)] (.t 19) (.t 24)), none⟩, ⟨(some 5), (.mov (.t 25)), none⟩]) .skip))) (.region 4 [⟨(some 11), (.mov (.t 6)), none⟩, ⟨(some 12), (.bin .add (.t 11) (.k (.int .i64 1))), none⟩, ⟨(some 6), (.mov (.t 12)), none⟩])))))) (.seq (.region 7 [⟨(some 26), (.mov (.t 5)), none⟩, ⟨(some 4), (.mov (.t 26)), none⟩]) .ret)))), [(.t 4)], 27⟩ := by kernel_rfl
theorem rwout_pf (l : List Int) (b : Int) (hl : l.length ≤ 1000000) (hT : ∀ z ∈ l, InR z) : PF Try.prog 22 [.rows 1 (l.map fun z => [I z]), I b] (.rows 1 ((l.filter (neB b)).map fun z => [I z])) := by
  refine PF.of follows_ok rwout_code (by simp) (by simp [argOk]) (by simp [noV, noC]) fun B hBN hB0 => acode_sound [0, 1, 4, 5, 6, 10, 18] [] _ _ _ ?_
  simp [AK_at, acode_seq, acode_region, acode_draw, acode_cond, ↓CB_t, ↓CB_f, CB_u, acode_block, acode_loop, acode_exit, acode_scope, acode_ret, acode_skip, seqQ_n, seqQ_e, seqQ_r, blockQ_n, blockQ_e, blockQ_r, TK_at, OK_at, SK_at, aops_nil, aops_cons, asch_done, asch_one, asch_two, asch_top, astep, aop_eq, isLoud, aloud, aloud1, isWrite, qv, evS, strip, gof, eget, hget, putO, eput, herase, oks, opnds, gS, afin, afin0, binD, arith, D.cells, takeD, fillD, keep, trim, envOf, Fin, aresl, aresv, resD, argOk, pickV, isP, deq, deqs, boundD, slD, lenD, isT, isSl, ptrIds, chunks, mn_min, mx_max, D.cells, splice_one, splice_more, Rbr_at, Rfr_at, frR, frV, frC, flatC, brwR, brwV, brwC, omap, leR, leV, leC, leL, leVL]
  refine W.loopS (fun i : Nat => ⟨[(6, I i), (5, .own 0), (4, .nil0), (1, I b), (0, .rows 1 (l.map fun z => [I z]))], [(0, .row 1 (((l.take i).filter (neB b)).map fun z => [I z]))], 1⟩)
    (fun n i => n = l.length - i ∧ i ≤ l.length) ?_ ?_
  · refine ⟨_, 0, (Gh.adopt 5 1 (by omega) (by simp [eget])).trans ?_, rfl, by omega⟩
    simp [eput]
    exact (Gh.ren [0] (by simp [hB0]) (by simp [hB0] <;> decide) (by simp [eget, rnS, rnR, rnV, rnC, LtS, LtR, LtV, LtC, lget]) (by simp [hget, rnO, rnC, LtO, LtC, lget]) (.inl (by simp [lget])))
  rintro n i ⟨hn, hi⟩
  refine acode_sound [0, 1, 4, 5, 6, 10, 18] [] _ _ _ ?_
  by_cases hlt : i < l.length
  · obtain ⟨o, ho⟩ : ∃ o, o = l[i] := ⟨_, rfl⟩
    have hst : (l.take (i + 1)).filter (neB b) = (l.take i).filter (neB b) ++ if neB b o then [o] else [] := by
      rw [List.take_succ_eq_append_getElem hlt, List.filter_append, ← ho, List.filter_cons]; simp
    have hfl : ((l.take i).filter (neB b)).length ≤ i := Nat.le_trans (List.length_filter_le _ _) (by simp; omega)
    obtain ⟨ys, hys⟩ : ∃ ys, ys = (l.take i).filter (neB b) := ⟨_, rfl⟩
    rw [← hys] at hst hfl ⊢
    have hcap : (ys.length + 1) * 8 ≤ 140737488355328 := by omega
    have ii : InR ((i : Int) + 1) := inG (by omega) (by omega)
    by_cases hob : o = b
    · have : neB b o = false := by simp [neB, hob]
      rw [this] at hst
      simp at hst
      repeat' (first
        | simp [AK_at, acode_seq, acode_region, acode_draw, acode_cond, ↓CB_t, ↓CB_f, CB_u, acode_block, acode_loop, acode_exit, acode_scope, acode_ret, acode_skip, seqQ_n, seqQ_e, seqQ_r, blockQ_n, blockQ_e, blockQ_r, TK_at, OK_at, SK_at, aops_nil, aops_cons, asch_done, asch_one, asch_two, asch_top, astep, aop_eq, isLoud, aloud, aloud1, isWrite, qv, evS, strip, gof, eget, hget, putO, eput, herase, oks, opnds, gS, afin, afin0, binD, arith, D.cells, takeD, fillD, keep, trim, envOf, Fin, aresl, aresv, resD, argOk, pickV, isP, deq, deqs, boundD, slD, lenD, isT, isSl, ptrIds, chunks, mn_min, mx_max, D.cells, splice_one, splice_more, Rbr_at, Rfr_at, frR, frV, frC, flatC, brwR, brwV, brwC, omap, leR, leV, leC, leL, leVL, hlt, ← ho, hob, ii]
        | (refine WCall.pf (hlt) ?_ ?_ ?_ ?_; (focus (simp [oks, opnds, gS, gof, eget]; done)); (focus (simp [omap, brwV, brwC, evS, eget, strip, hget, leVL, leV, leC, leL, hlt, ← ho, hob, ii]; done)); (focus (simp [noV, noC, flatR, flatV, flatC, evS, eget, strip, hlt, ← ho, hob, ii]; done)))
        | (refine ⟨WCall.pf (hlt) ?_ ?_ ?_ ?_, ?_⟩; (focus (simp [oks, opnds, gS, gof, eget]; done)); (focus (simp [omap, brwV, brwC, evS, eget, strip, hget, leVL, leV, leC, leL, hlt, ← ho, hob, ii]; done)); (focus (simp [noV, noC, flatR, flatV, flatC, evS, eget, strip, hlt, ← ho, hob, ii]; done)))
        | (with_reducible refine And.intro (And.intro ?_ ?_) ?_)
        | fail)
      all_goals exact ⟨_, i + 1, (Gh.ren [0] (by simp [hB0]) (by simp [hB0] <;> decide) (by simp [eget, rnS, rnR, rnV, rnC, LtS, LtR, LtV, LtC, lget, hst]) (by simp [hget, rnO, rnC, LtO, LtC, lget, hst]) (.inl (by simp [lget, hst]))), by omega, rfl, by omega⟩
    · have : neB b o = true := by simp [neB, hob]
      rw [this] at hst
      simp at hst
      repeat' (first
        | simp [AK_at, acode_seq, acode_region, acode_draw, acode_cond, ↓CB_t, ↓CB_f, CB_u, acode_block, acode_loop, acode_exit, acode_scope, acode_ret, acode_skip, seqQ_n, seqQ_e, seqQ_r, blockQ_n, blockQ_e, blockQ_r, TK_at, OK_at, SK_at, aops_nil, aops_cons, asch_done, asch_one, asch_two, asch_top, astep, aop_eq, isLoud, aloud, aloud1, isWrite, qv, evS, strip, gof, eget, hget, putO, eput, herase, oks, opnds, gS, afin, afin0, binD, arith, D.cells, takeD, fillD, keep, trim, envOf, Fin, aresl, aresv, resD, argOk, pickV, isP, deq, deqs, boundD, slD, lenD, isT, isSl, ptrIds, chunks, mn_min, mx_max, D.cells, splice_one, splice_more, Rbr_at, Rfr_at, frR, frV, frC, flatC, brwR, brwV, brwC, omap, leR, leV, leC, leL, leVL, hlt, ← ho, hob, ii, hcap]
        | (refine WCall.pf (hlt) ?_ ?_ ?_ ?_; (focus (simp [oks, opnds, gS, gof, eget]; done)); (focus (simp [omap, brwV, brwC, evS, eget, strip, hget, leVL, leV, leC, leL, hlt, ← ho, hob, ii, hcap]; done)); (focus (simp [noV, noC, flatR, flatV, flatC, evS, eget, strip, hlt, ← ho, hob, ii, hcap]; done)))
        | (refine ⟨WCall.pf (hlt) ?_ ?_ ?_ ?_, ?_⟩; (focus (simp [oks, opnds, gS, gof, eget]; done)); (focus (simp [omap, brwV, brwC, evS, eget, strip, hget, leVL, leV, leC, leL, hlt, ← ho, hob, ii, hcap]; done)); (focus (simp [noV, noC, flatR, flatV, flatC, evS, eget, strip, hlt, ← ho, hob, ii, hcap]; done)))
        | (with_reducible refine And.intro (And.intro ?_ ?_) ?_)
        | fail)
      all_goals exact ⟨_, i + 1, (Gh.ren [2] (by simp [hB0]) (by simp [hB0] <;> decide) (by simp [eget, rnS, rnR, rnV, rnC, LtS, LtR, LtV, LtC, lget, hst]) (by simp [hget, rnO, rnC, LtO, LtC, lget, hst]) (.inl (by simp [lget, hst]))), by omega, rfl, by omega⟩
  · obtain rfl : i = l.length := by omega
    rw [List.take_length]
    simp [AK_at, acode_seq, acode_region, acode_draw, acode_cond, ↓CB_t, ↓CB_f, CB_u, acode_block, acode_loop, acode_exit, acode_scope, acode_ret, acode_skip, seqQ_n, seqQ_e, seqQ_r, blockQ_n, blockQ_e, blockQ_r, TK_at, OK_at, SK_at, aops_nil, aops_cons, asch_done, asch_one, asch_two, asch_top, astep, aop_eq, isLoud, aloud, aloud1, isWrite, qv, evS, strip, gof, eget, hget, putO, eput, herase, oks, opnds, gS, afin, afin0, binD, arith, D.cells, takeD, fillD, keep, trim, envOf, Fin, aresl, aresv, resD, argOk, pickV, isP, deq, deqs, boundD, slD, lenD, isT, isSl, ptrIds, chunks, mn_min, mx_max, D.cells, splice_one, splice_more, Rbr_at, Rfr_at, frR, frV, frC, flatC, brwR, brwV, brwC, omap, leR, leV, leC, leL, leVL]
theorem rsamei_code : cfun Try.prog [] 16 = some ⟨(.seq (.region 0 [⟨(some 4), (.mov (.k (.bool false))), none⟩]) (.seq (.seq (.region 1 [⟨(some 6), (.mov (.t 0)), none⟩, ⟨(some 7), (.len (.t 6)), none⟩, ⟨(some 8), (.mov (.t 1)), none⟩, ⟨(some 9), (.len (.t 8)), none⟩, ⟨(some 10), (.bin .neq (.t 7) (.t 9)), none⟩]) (.cond 10 (.seq (.region 2 [⟨(some 4), (.mov (.k (.bool false))), none⟩]) .ret) .skip)) (.seq (.seq (.region 3 [⟨(some 5), (.mov (.k (.int .i64 0))), none⟩]) (.block 0 (.loop (.seq (.seq (.region 4 [⟨(some 11), (.mov (.t 5)), none⟩, ⟨(some 12), (.mov (.t 0)), none⟩, ⟨(some 13), (.len (.t 12)), none⟩, ⟨(some 14), (.bin .lss (.t 11) (.t 13)), none⟩]) (.cond 14 .skip (.exit 0))) (.seq (.block 1 (.seq (.draw 6 (.one true ⟨(some 17), (.mov (.t 0)), none⟩ (.one true ⟨(some 18), (.mov (.t 5)), none⟩ (.one true ⟨(some 19), (.iads 1 (.t 17) (.t 18)), none⟩ (.one true ⟨(some 20), (.load false 1 (.t 19)), none⟩ (.one true ⟨(some 21), (.mov (.t 1)), none⟩ (.one true ⟨(some 22), (.mov (.t 5)), none⟩ (.one true ⟨(some 23), (.iads 1 (.t 21) (.t 22)), none⟩ (.one true ⟨(some 24), (.load false 1 (.t 23)), none⟩ (.one true ⟨(some 25), (.bin .neq (.t 20) (.t 24)), none⟩ .done)))))))))) (.cond 25 (.seq (.region 7 [⟨(some 4), (.mov (.k (.bool false))), none⟩]) .ret) .skip))) (.region 5 [⟨(some 15), (.mov (.t 5)), none⟩, ⟨(some 16), (.bin .add (.t 15) (.k (.int .i64 1))), none⟩, ⟨(some 5), (.mov (.t 16)), none⟩])))))) (.seq (.region 8 [⟨(some 4), (.mov (.k (.bool true))), none⟩]) .ret)))), [(.t 4)], 26⟩ := by kernel_rfl
theorem rsamei_pf (l : List Int) (hl : l.length ≤ 1000000) : PF Try.prog 16 [.rows 1 (l.map fun c => [I c]), .rows 1 (l.map fun c => [I c])] (.bool true) := by
  refine PF.of follows_ok rsamei_code (by simp) (by simp [argOk]) (by simp [noV, noC]) fun B hBN hB0 => acode_sound [0, 1, 4, 5, 10, 14, 25] [] _ _ _ ?_
  simp [AK_at, acode_seq, acode_region, acode_draw, acode_cond, ↓CB_t, ↓CB_f, CB_u, acode_block, acode_loop, acode_exit, acode_scope, acode_ret, acode_skip, seqQ_n, seqQ_e, seqQ_r, blockQ_n, blockQ_e, blockQ_r, TK_at, OK_at, SK_at, aops_nil, aops_cons, asch_done, asch_one, asch_two, asch_top, astep, aop_eq, isLoud, aloud, aloud1, isWrite, qv, evS, strip, gof, eget, hget, putO, eput, herase, oks, opnds, gS, afin, afin0, binD, arith, D.cells, takeD, fillD, keep, trim, envOf, Fin, aresl, aresv, resD, argOk, pickV, isP, deq, deqs, boundD, slD, lenD, isT, isSl, ptrIds, chunks, mn_min, mx_max, D.cells, splice_one, splice_more, Rbr_at, Rfr_at, frR, frV, frC, flatC, brwR, brwV, brwC, omap, leR, leV, leC, leL, leVL]
  refine W.loopS (fun i : Nat => ⟨[(5, I i), (4, .bool false), (1, D.rows 1 (l.map fun c => [I c])), (0, D.rows 1 (l.map fun c => [I c]))], [], 0⟩)
    (fun n i => n = l.length - i ∧ i ≤ l.length) ?_ ?_
  · exact ⟨_, 0, (Gh.ren [] (by simp [hB0]) (by simp [hB0] <;> decide) (by simp [eget, rnS, rnR, rnV, rnC, LtS, LtR, LtV, LtC, lget]) (by simp [hget, rnO, rnC, LtO, LtC, lget]) (.inr rfl)), rfl, by simp⟩
  · rintro n i ⟨hn, hi⟩
    refine acode_sound [0, 1, 4, 5, 10, 14, 25] [] _ _ _ ?_
    by_cases hlt : i < l.length
    · have hi1 : InR ((i : Int) + 1) := inG (by omega) (by omega)
      simp [AK_at, acode_seq, acode_region, acode_draw, acode_cond, ↓CB_t, ↓CB_f, CB_u, acode_block, acode_loop, acode_exit, acode_scope, acode_ret, acode_skip, seqQ_n, seqQ_e, seqQ_r, blockQ_n, blockQ_e, blockQ_r, TK_at, OK_at, SK_at, aops_nil, aops_cons, asch_done, asch_one, asch_two, asch_top, astep, aop_eq, isLoud, aloud, aloud1, isWrite, qv, evS, strip, gof, eget, hget, putO, eput, herase, oks, opnds, gS, afin, afin0, binD, arith, D.cells, takeD, fillD, keep, trim, envOf, Fin, aresl, aresv, resD, argOk, pickV, isP, deq, deqs, boundD, slD, lenD, isT, isSl, ptrIds, chunks, mn_min, mx_max, D.cells, splice_one, splice_more, Rbr_at, Rfr_at, frR, frV, frC, flatC, brwR, brwV, brwC, omap, leR, leV, leC, leL, leVL, hlt, hi1]
      exact ⟨_, i + 1, (Gh.ren [] (by simp [hB0]) (by simp [hB0] <;> decide) (by simp [eget, rnS, rnR, rnV, rnC, LtS, LtR, LtV, LtC, lget]) (by simp [hget, rnO, rnC, LtO, LtC, lget]) (.inr rfl)), by omega, rfl, by omega⟩
    · simp [AK_at, acode_seq, acode_region, acode_draw, acode_cond, ↓CB_t, ↓CB_f, CB_u, acode_block, acode_loop, acode_exit, acode_scope, acode_ret, acode_skip, seqQ_n, seqQ_e, seqQ_r, blockQ_n, blockQ_e, blockQ_r, TK_at, OK_at, SK_at, aops_nil, aops_cons, asch_done, asch_one, asch_two, asch_top, astep, aop_eq, isLoud, aloud, aloud1, isWrite, qv, evS, strip, gof, eget, hget, putO, eput, herase, oks, opnds, gS, afin, afin0, binD, arith, D.cells, takeD, fillD, keep, trim, envOf, Fin, aresl, aresv, resD, argOk, pickV, isP, deq, deqs, boundD, slD, lenD, isT, isSl, ptrIds, chunks, mn_min, mx_max, D.cells, splice_one, splice_more, Rbr_at, Rfr_at, frR, frV, frC, flatC, brwR, brwV, brwC, omap, leR, leV, leC, leL, leVL, hlt]
theorem rsteady_code : cfun Try.prog [] 9 = some ⟨(.seq (.region 0 [⟨(some 6), (.mov (.k (.bool false))), none⟩]) (.seq (.region 1 [⟨(some 23), (.mov (.t 0)), none⟩, ⟨(some 24), (.call 18 [(.t 23)]), none⟩, ⟨(some 22), (.mov (.t 24)), none⟩, ⟨(some 25), (.ext (.t 22) 0), none⟩, ⟨(some 26), (.ext (.t 22) 1), none⟩, ⟨(some 27), (.ext (.t 22) 2), none⟩, ⟨(some 7), (.alloc [.nil0]), none⟩, ⟨(some 8), (.alloc [(.int .i64 0), (.int .i64 0), (.int .i64 0), (.int .i64 0), (.int .i64 0), (.int .i64 0), (.int .i64 0), (.int .i64 0), (.int .i64 0), (.int .i64 0), (.int .i64 0), (.int .i64 0)]), none⟩, ⟨none, (.store 1 (.t 7) (.t 25)), none⟩, ⟨none, (.store 12 (.t 8) (.t 26)), none⟩, ⟨(some 9), (.mov (.t 27)), none⟩]) (.seq (.region 2 [⟨(some 28), (.mov (.t 1)), none⟩, ⟨(some 29), (.call 11 [(.t 28), (.k (.int .i64 12))]), none⟩, ⟨(some 10), (.mov (.t 29)), none⟩]) (.seq (.region 3 [⟨(some 30), (.mov (.t 2)), none⟩, ⟨(some 31), (.call 11 [(.t 30), (.k (.int .i64 4294967296))]), none⟩, ⟨(some 11), (.mov (.t 31)), none⟩]) (.seq (.region 4 [⟨(some 33), (.load true 1 (.t 7)), none⟩, ⟨(some 34), (.mov (.t 11)), none⟩, ⟨(some 35), (.call 19 [(.t 33), (.t 34)]), none⟩, ⟨(some 32), (.mov (.t 35)), none⟩, ⟨(some 36), (.ext (.t 32) 0), none⟩, ⟨(some 37), (.ext (.t 32) 1), none⟩, ⟨(some 12), (.mov (.t 36)), none⟩, ⟨(some 13), (.mov (.t 37)), none⟩]) (.seq (.seq (.region 5 [⟨(some 38), (.mov (.t 9)), none⟩, ⟨(some 39), (.not (.t 38)), none⟩, ⟨(some 40), (.mov (.t 39)), none⟩, ⟨(some 41), (.mov (.t 13)), (some (40, false))⟩, ⟨(some 42), (.bin .neq (.t 41) (.k (.int .i64 0))), (some (40, false))⟩, ⟨(some 43), (.pick (.t 40) (.k (.bool true)) (.t 42)), none⟩]) (.cond 43 (.seq (.region 6 [⟨(some 6), (.mov (.k (.bool false))), none⟩]) .ret) .skip)) (.seq (.seq (.region 7 [⟨(some 44), (.mov (.t 10)), none⟩, ⟨(some 45), (.iada 12 1 (.t 8) (.t 44)), none⟩, ⟨(some 46), (.load false 1 (.t 45)), none⟩, ⟨(some 47), (.bin .eql (.t 46) (.k (.int .i64 0))), none⟩]) (.cond 47 (.seq (.region 8 [⟨(some 49), (.load true 1 (.t 7)), none⟩, ⟨(some 50), (.mov (.t 10)), none⟩, ⟨(some 51), (.call 21 [(.t 49), (.t 50), (.k (.int .i64 3))]), none⟩, ⟨(some 48), (.mov (.t 51)), none⟩, ⟨(some 52), (.ext (.t 48) 0), none⟩, ⟨(some 53), (.ext (.t 48) 1), none⟩, ⟨(some 14), (.alloc [.nil0]), none⟩, ⟨none, (.store 1 (.t 14) (.t 52)), none⟩, ⟨(some 15), (.mov (.t 53)), none⟩]) (.seq (.region 9 [⟨(some 55), (.load true 1 (.t 14)), none⟩, ⟨(some 56), (.mov (.t 11)), none⟩, ⟨(some 57), (.call 19 [(.t 55), (.t 56)]), none⟩, ⟨(some 54), (.mov (.t 57)), none⟩, ⟨(some 58), (.ext (.t 54) 0), none⟩, ⟨(some 59), (.ext (.t 54) 1), none⟩, ⟨(some 16), (.mov (.t 58)), none⟩, ⟨(some 17), (.mov (.t 59)), none⟩]) (.seq (.region 10 [⟨(some 60), (.mov (.t 15)), none⟩, ⟨(some 61), (.bin .eql (.t 60) (.k (.int .i64 0))), none⟩, ⟨(some 62), (.mov (.t 61)), none⟩, ⟨(some 63), (.mov (.t 17)), (some (62, true))⟩, ⟨(some 64), (.bin .eql (.t 63) (.k (.int .i64 0))), (some (62, true))⟩, ⟨(some 65), (.pick (.t 62) (.t 64) (.k (.bool false))), none⟩, ⟨(some 66), (.mov (.t 65)), none⟩, ⟨(some 67), (.mov (.t 16)), (some (66, true))⟩, ⟨(some 68), (.len (.t 67)), (some (66, true))⟩, ⟨(some 69), (.mov (.t 12)), (some (66, true))⟩, ⟨(some 70), (.len (.t 69)), (some (66, true))⟩, ⟨(some 71), (.bin .add (.t 70) (.k (.int .i64 1))), (some (66, true))⟩, ⟨(some 72), (.bin .eql (.t 68) (.t 71)), (some (66, true))⟩, ⟨(some 73), (.pick (.t 66) (.t 72) (.k (.bool false))), none⟩, ⟨(some 74), (.mov (.t 73)), none⟩, ⟨(some 75), (.mov (.t 16)), (some (74, true))⟩, ⟨(some 76), (.mov (.t 10)), (some (74, true))⟩, ⟨(some 77), (.call 22 [(.t 75), (.t 76)]), (some (74, true))⟩, ⟨(some 78), (.mov (.t 12)), (some (74, true))⟩, ⟨(some 79), (.call 16 [(.t 77), (.t 78)]), (some (74, true))⟩, ⟨(some 80), (.pick (.t 74) (.t 79) (.k (.bool false))), none⟩, ⟨(some 6), (.mov (.t 80)), none⟩]) .ret))) .skip)) (.seq (.region 11 [⟨(some 82), (.load true 1 (.t 7)), none⟩, ⟨(some 83), (.mov (.t 10)), none⟩, ⟨(some 84), (.call 23 [(.t 82), (.t 83)]), none⟩, ⟨(some 81), (.mov (.t 84)), none⟩, ⟨(some 85), (.ext (.t 81) 0), none⟩, ⟨(some 86), (.ext (.t 81) 1), none⟩, ⟨(some 18), (.alloc [.nil0]), none⟩, ⟨none, (.store 1 (.t 18) (.t 85)), none⟩, ⟨(some 19), (.mov (.t 86)), none⟩]) (.seq (.region 12 [⟨(some 88), (.load true 1 (.t 18)), none⟩, ⟨(some 89), (.mov (.t 11)), none⟩, ⟨(some 90), (.call 19 [(.t 88), (.t 89)]), none⟩, ⟨(some 87), (.mov (.t 90)), none⟩, ⟨(some 91), (.ext (.t 87) 0), none⟩, ⟨(some 92), (.ext (.t 87) 1), none⟩, ⟨(some 20), (.mov (.t 91)), none⟩, ⟨(some 21), (.mov (.t 92)), none⟩]) (.seq (.region 13 [⟨(some 93), (.mov (.t 19)), none⟩, ⟨(some 94), (.bin .eql (.t 93) (.k (.int .i64 0))), none⟩, ⟨(some 95), (.mov (.t 94)), none⟩, ⟨(some 96), (.mov (.t 21)), (some (95, true))⟩, ⟨(some 97), (.bin .eql (.t 96) (.k (.int .i64 0))), (some (95, true))⟩, ⟨(some 98), (.pick (.t 95) (.t 97) (.k (.bool false))), none⟩, ⟨(some 99), (.mov (.t 98)), none⟩, ⟨(some 100), (.mov (.t 20)), (some (99, true))⟩, ⟨(some 101), (.len (.t 100)), (some (99, true))⟩, ⟨(some 102), (.mov (.t 12)), (some (99, true))⟩, ⟨(some 103), (.len (.t 102)), (some (99, true))⟩, ⟨(some 104), (.bin .sub (.t 103) (.k (.int .i64 1))), (some (99, true))⟩, ⟨(some 105), (.bin .eql (.t 101) (.t 104)), (some (99, true))⟩, ⟨(some 106), (.pick (.t 99) (.t 105) (.k (.bool false))), none⟩, ⟨(some 107), (.mov (.t 106)), none⟩, ⟨(some 108), (.mov (.t 20)), (some (107, true))⟩, ⟨(some 109), (.mov (.t 12)), (some (107, true))⟩, ⟨(some 110), (.mov (.t 10)), (some (107, true))⟩, ⟨(some 111), (.call 22 [(.t 109), (.t 110)]), (some (107, true))⟩, ⟨(some 112), (.call 16 [(.t 108), (.t 111)]), (some (107, true))⟩, ⟨(some 113), (.pick (.t 107) (.t 112) (.k (.bool false))), none⟩, ⟨(some 6), (.mov (.t 113)), none⟩]) .ret)))))))))), [(.t 6)], 114⟩ := by kernel_rfl
theorem rsteady_pf (l : List (List Int)) (backend key : Int) (hl : l.length ≤ Go.maxLen) (hr : ∀ r ∈ l, r.length = 2 ∧ ∀ z ∈ r, InR z) (ib : InR backend) (ik : InR key) :
    PF Try.prog 9 [.rows 2 (l.map fun r => r.map I), I backend, I key] (.bool true) := by
  have hrg := ringed_pf l hl hr
  have hws : WOk (rgL l) := rgL_inv l 20
  generalize rgL l = ws at hrg hws
  have p1 := picked_pf backend 12 ib (by omega)
  have p2 := picked_pf key 4294967296 ik (by omega)
  have q1 := pickedZ_range backend 12 (by omega)
  have q2 := pickedZ_range key 4294967296 (by omega)
  obtain ⟨b, hb⟩ : ∃ b : Nat, pickedZ backend 12 = b := ⟨(pickedZ backend 12).toNat, by omega⟩
  rw [hb] at p1
  obtain ⟨k, hk⟩ : ∃ k, k = pickedZ key 4294967296 := ⟨_, rfl⟩
  rw [← hk] at p2 q2
  have hb12 : b < 12 := by omega
  have hl12 := hws.len
  have hs0 := spl12 hws.len
  have htw : (ws.map fun w : Nat => I (w : Int)).take 12 = ws.map fun w : Nat => I (w : Int) := List.take_of_length_le (by simp [hl12])
  have hb1 : (b : Int) < 12 := by omega
  have hb2 : b ≤ 11 := by omega
  have hb3 : 0 < 12 - b := by omega
  obtain ⟨w, hw⟩ : ∃ w, w = ws.getD b 0 := ⟨_, rfl⟩
  have hat0 : ws[b]'(by omega) = w := by
    rw [hw, List.getD_eq_getElem?_getD, List.getElem?_eq_getElem (by omega)]; rfl
  have hat : ws[b]? = some w := by rw [List.getElem?_eq_getElem (by omega), hat0]
  have hw8 : w ≤ 8 := hat0 ▸ hws.le _ (List.getElem_mem _)
  have hself : ws.set b w = ws := by rw [← hat0]; exact List.set_getElem_self _
  have hwk := rwalk_pf ws hws k (by omega) (by omega)
  by_cases h0 : 0 < w
  · have hrem := rrem_pf ws hws b w hb12 hw.symm h0
    have hwk2 := rwalk_pf (ws.set b 0) (hws.set b 0 (by omega)) k (by omega) (by omega)
    rw [walk_filter ws hws _ b hb12] at hwk2
    have hmem := (walkM_mem ws (keyN k.toNat : Nat) b hb12).2 (by omega)
    have hlen := filter_len (b : Int) _ (walkM_nodup ws (keyN k.toNat : Nat))
    rw [if_pos hmem] at hlen
    have hwl := walkM_len ws hws (keyN k.toNat : Nat)
    have hbd := walkM_bd ws (keyN k.toNat : Nat)
    generalize walkM ws (keyN k.toNat : Nat) = wk at hwk hwk2 hmem hlen hwl hbd
    have hpos : 0 < wk.length := List.length_pos_of_mem hmem
    have hwo := rwout_pf wk (b : Int) (by omega) (fun z hz => by have := hbd z hz; exact inG (by omega) (by omega))
    have hsi := rsamei_pf (wk.filter (neB b)) (by omega)
    have i1 : InR ((wk.length : Int) - 1) := inG (by omega) (by omega)
    have e1 : ((wk.filter (neB b)).length : Int) = (wk.length : Int) - 1 := by omega
    have h1 : ¬ w = 0 := by omega
    refine PF.of follows_ok rsteady_code (by simp) (by simp [argOk]) (by simp [noV, noC]) fun B hBN hB0 => acode_sound [0, 1, 2, 6, 7, 8, 9, 10, 11, 12, 13, 14, 15, 16, 17, 18, 19, 20, 21, 43, 47] [] _ _ _ ?_
    repeat' (first
      | simp [AK_at, acode_seq, acode_region, acode_draw, acode_cond, ↓CB_t, ↓CB_f, CB_u, acode_block, acode_loop, acode_exit, acode_scope, acode_ret, acode_skip, seqQ_n, seqQ_e, seqQ_r, blockQ_n, blockQ_e, blockQ_r, TK_at, OK_at, SK_at, aops_nil, aops_cons, asch_done, asch_one, asch_two, asch_top, astep, aop_eq, isLoud, aloud, aloud1, isWrite, qv, evS, strip, gof, eget, hget, putO, eput, herase, oks, opnds, gS, afin, afin0, binD, arith, D.cells, takeD, fillD, keep, trim, envOf, Fin, aresl, aresv, resD, argOk, pickV, isP, deq, deqs, boundD, slD, lenD, isT, isSl, ptrIds, chunks, mn_min, mx_max, D.cells, splice_one, splice_more, Rbr_at, Rfr_at, frR, frV, frC, flatC, brwR, brwV, brwC, omap, leR, leV, leC, leL, leVL, hl12, hs0, htw, hat, hb1, hb2, hb3, h0, h1, i1, e1]
      | (refine WCall.pf (hrg) ?_ ?_ ?_ ?_; (focus (simp [oks, opnds, gS, gof, eget]; done)); (focus (simp [omap, brwV, brwC, evS, eget, strip, hget, leVL, leV, leC, leL, hl12, hs0, htw, hat, hb1, hb2, hb3, h0, h1, i1, e1]; done)); (focus (simp [noV, noC, flatR, flatV, flatC, evS, eget, strip, hl12, hs0, htw, hat, hb1, hb2, hb3, h0, h1, i1, e1]; done)))
      | (refine ⟨WCall.pf (hrg) ?_ ?_ ?_ ?_, ?_⟩; (focus (simp [oks, opnds, gS, gof, eget]; done)); (focus (simp [omap, brwV, brwC, evS, eget, strip, hget, leVL, leV, leC, leL, hl12, hs0, htw, hat, hb1, hb2, hb3, h0, h1, i1, e1]; done)); (focus (simp [noV, noC, flatR, flatV, flatC, evS, eget, strip, hl12, hs0, htw, hat, hb1, hb2, hb3, h0, h1, i1, e1]; done)))
      | (refine WCall.pf (p1) ?_ ?_ ?_ ?_; (focus (simp [oks, opnds, gS, gof, eget]; done)); (focus (simp [omap, brwV, brwC, evS, eget, strip, hget, leVL, leV, leC, leL, hl12, hs0, htw, hat, hb1, hb2, hb3, h0, h1, i1, e1]; done)); (focus (simp [noV, noC, flatR, flatV, flatC, evS, eget, strip, hl12, hs0, htw, hat, hb1, hb2, hb3, h0, h1, i1, e1]; done)))
      | (refine ⟨WCall.pf (p1) ?_ ?_ ?_ ?_, ?_⟩; (focus (simp [oks, opnds, gS, gof, eget]; done)); (focus (simp [omap, brwV, brwC, evS, eget, strip, hget, leVL, leV, leC, leL, hl12, hs0, htw, hat, hb1, hb2, hb3, h0, h1, i1, e1]; done)); (focus (simp [noV, noC, flatR, flatV, flatC, evS, eget, strip, hl12, hs0, htw, hat, hb1, hb2, hb3, h0, h1, i1, e1]; done)))
      | (refine WCall.pf (p2) ?_ ?_ ?_ ?_; (focus (simp [oks, opnds, gS, gof, eget]; done)); (focus (simp [omap, brwV, brwC, evS, eget, strip, hget, leVL, leV, leC, leL, hl12, hs0, htw, hat, hb1, hb2, hb3, h0, h1, i1, e1]; done)); (focus (simp [noV, noC, flatR, flatV, flatC, evS, eget, strip, hl12, hs0, htw, hat, hb1, hb2, hb3, h0, h1, i1, e1]; done)))
      | (refine ⟨WCall.pf (p2) ?_ ?_ ?_ ?_, ?_⟩; (focus (simp [oks, opnds, gS, gof, eget]; done)); (focus (simp [omap, brwV, brwC, evS, eget, strip, hget, leVL, leV, leC, leL, hl12, hs0, htw, hat, hb1, hb2, hb3, h0, h1, i1, e1]; done)); (focus (simp [noV, noC, flatR, flatV, flatC, evS, eget, strip, hl12, hs0, htw, hat, hb1, hb2, hb3, h0, h1, i1, e1]; done)))
      | (refine WCall.pf (hwk) ?_ ?_ ?_ ?_; (focus (simp [oks, opnds, gS, gof, eget]; done)); (focus (simp [omap, brwV, brwC, evS, eget, strip, hget, leVL, leV, leC, leL, hl12, hs0, htw, hat, hb1, hb2, hb3, h0, h1, i1, e1]; done)); (focus (simp [noV, noC, flatR, flatV, flatC, evS, eget, strip, hl12, hs0, htw, hat, hb1, hb2, hb3, h0, h1, i1, e1]; done)))
      | (refine ⟨WCall.pf (hwk) ?_ ?_ ?_ ?_, ?_⟩; (focus (simp [oks, opnds, gS, gof, eget]; done)); (focus (simp [omap, brwV, brwC, evS, eget, strip, hget, leVL, leV, leC, leL, hl12, hs0, htw, hat, hb1, hb2, hb3, h0, h1, i1, e1]; done)); (focus (simp [noV, noC, flatR, flatV, flatC, evS, eget, strip, hl12, hs0, htw, hat, hb1, hb2, hb3, h0, h1, i1, e1]; done)))
      | (refine WCall.pf (hrem) ?_ ?_ ?_ ?_; (focus (simp [oks, opnds, gS, gof, eget]; done)); (focus (simp [omap, brwV, brwC, evS, eget, strip, hget, leVL, leV, leC, leL, hl12, hs0, htw, hat, hb1, hb2, hb3, h0, h1, i1, e1]; done)); (focus (simp [noV, noC, flatR, flatV, flatC, evS, eget, strip, hl12, hs0, htw, hat, hb1, hb2, hb3, h0, h1, i1, e1]; done)))
      | (refine ⟨WCall.pf (hrem) ?_ ?_ ?_ ?_, ?_⟩; (focus (simp [oks, opnds, gS, gof, eget]; done)); (focus (simp [omap, brwV, brwC, evS, eget, strip, hget, leVL, leV, leC, leL, hl12, hs0, htw, hat, hb1, hb2, hb3, h0, h1, i1, e1]; done)); (focus (simp [noV, noC, flatR, flatV, flatC, evS, eget, strip, hl12, hs0, htw, hat, hb1, hb2, hb3, h0, h1, i1, e1]; done)))
      | (refine WCall.pf (hwk2) ?_ ?_ ?_ ?_; (focus (simp [oks, opnds, gS, gof, eget]; done)); (focus (simp [omap, brwV, brwC, evS, eget, strip, hget, leVL, leV, leC, leL, hl12, hs0, htw, hat, hb1, hb2, hb3, h0, h1, i1, e1]; done)); (focus (simp [noV, noC, flatR, flatV, flatC, evS, eget, strip, hl12, hs0, htw, hat, hb1, hb2, hb3, h0, h1, i1, e1]; done)))
      | (refine ⟨WCall.pf (hwk2) ?_ ?_ ?_ ?_, ?_⟩; (focus (simp [oks, opnds, gS, gof, eget]; done)); (focus (simp [omap, brwV, brwC, evS, eget, strip, hget, leVL, leV, leC, leL, hl12, hs0, htw, hat, hb1, hb2, hb3, h0, h1, i1, e1]; done)); (focus (simp [noV, noC, flatR, flatV, flatC, evS, eget, strip, hl12, hs0, htw, hat, hb1, hb2, hb3, h0, h1, i1, e1]; done)))
      | (refine WCall.pf (hwo) ?_ ?_ ?_ ?_; (focus (simp [oks, opnds, gS, gof, eget]; done)); (focus (simp [omap, brwV, brwC, evS, eget, strip, hget, leVL, leV, leC, leL, hl12, hs0, htw, hat, hb1, hb2, hb3, h0, h1, i1, e1]; done)); (focus (simp [noV, noC, flatR, flatV, flatC, evS, eget, strip, hl12, hs0, htw, hat, hb1, hb2, hb3, h0, h1, i1, e1]; done)))
      | (refine ⟨WCall.pf (hwo) ?_ ?_ ?_ ?_, ?_⟩; (focus (simp [oks, opnds, gS, gof, eget]; done)); (focus (simp [omap, brwV, brwC, evS, eget, strip, hget, leVL, leV, leC, leL, hl12, hs0, htw, hat, hb1, hb2, hb3, h0, h1, i1, e1]; done)); (focus (simp [noV, noC, flatR, flatV, flatC, evS, eget, strip, hl12, hs0, htw, hat, hb1, hb2, hb3, h0, h1, i1, e1]; done)))
      | (refine WCall.pf (hsi) ?_ ?_ ?_ ?_; (focus (simp [oks, opnds, gS, gof, eget]; done)); (focus (simp [omap, brwV, brwC, evS, eget, strip, hget, leVL, leV, leC, leL, hl12, hs0, htw, hat, hb1, hb2, hb3, h0, h1, i1, e1]; done)); (focus (simp [noV, noC, flatR, flatV, flatC, evS, eget, strip, hl12, hs0, htw, hat, hb1, hb2, hb3, h0, h1, i1, e1]; done)))
      | (refine ⟨WCall.pf (hsi) ?_ ?_ ?_ ?_, ?_⟩; (focus (simp [oks, opnds, gS, gof, eget]; done)); (focus (simp [omap, brwV, brwC, evS, eget, strip, hget, leVL, leV, leC, leL, hl12, hs0, htw, hat, hb1, hb2, hb3, h0, h1, i1, e1]; done)); (focus (simp [noV, noC, flatR, flatV, flatC, evS, eget, strip, hl12, hs0, htw, hat, hb1, hb2, hb3, h0, h1, i1, e1]; done)))
      | (with_reducible refine And.intro (And.intro ?_ ?_) ?_)
      | fail)
  · obtain rfl : w = 0 := by omega
    have hadd := radd_pf ws hws b 3 hb12 (by omega) hw.symm
    have hws3 := hws.set b 3 (by omega)
    have hwk2 := rwalk_pf (ws.set b 3) hws3 k (by omega) (by omega)
    have hwf := walk_filter (ws.set b 3) hws3 (keyN k.toNat : Nat) b hb12
    rw [List.set_set, hself] at hwf
    have hmem := (walkM_mem (ws.set b 3) (keyN k.toNat : Nat) b hb12).2 (by rw [List.getD_eq_getElem?_getD, List.getElem?_set_self (by omega)]; decide)
    have hlen := filter_len (b : Int) _ (walkM_nodup (ws.set b 3) (keyN k.toNat : Nat))
    rw [if_pos hmem] at hlen
    have hwl := walkM_len (ws.set b 3) hws3 (keyN k.toNat : Nat)
    have hbd := walkM_bd (ws.set b 3) (keyN k.toNat : Nat)
    rw [hwf] at hwk
    generalize walkM (ws.set b 3) (keyN k.toNat : Nat) = wk at hwk hwk2 hmem hlen hwl hbd
    have hpos : 0 < wk.length := List.length_pos_of_mem hmem
    have hwo := rwout_pf wk (b : Int) (by omega) (fun z hz => by have := hbd z hz; exact inG (by omega) (by omega))
    have hsi := rsamei_pf (wk.filter (neB b)) (by omega)
    have i1 : InR (((wk.filter (neB b)).length : Int) + 1) := inG (by omega) (by omega)
    have e1 : (wk.length : Int) = ((wk.filter (neB b)).length : Int) + 1 := by omega
    refine PF.of follows_ok rsteady_code (by simp) (by simp [argOk]) (by simp [noV, noC]) fun B hBN hB0 => acode_sound [0, 1, 2, 6, 7, 8, 9, 10, 11, 12, 13, 14, 15, 16, 17, 18, 19, 20, 21, 43, 47] [] _ _ _ ?_
    repeat' (first
      | simp [AK_at, acode_seq, acode_region, acode_draw, acode_cond, ↓CB_t, ↓CB_f, CB_u, acode_block, acode_loop, acode_exit, acode_scope, acode_ret, acode_skip, seqQ_n, seqQ_e, seqQ_r, blockQ_n, blockQ_e, blockQ_r, TK_at, OK_at, SK_at, aops_nil, aops_cons, asch_done, asch_one, asch_two, asch_top, astep, aop_eq, isLoud, aloud, aloud1, isWrite, qv, evS, strip, gof, eget, hget, putO, eput, herase, oks, opnds, gS, afin, afin0, binD, arith, D.cells, takeD, fillD, keep, trim, envOf, Fin, aresl, aresv, resD, argOk, pickV, isP, deq, deqs, boundD, slD, lenD, isT, isSl, ptrIds, chunks, mn_min, mx_max, D.cells, splice_one, splice_more, Rbr_at, Rfr_at, frR, frV, frC, flatC, brwR, brwV, brwC, omap, leR, leV, leC, leL, leVL, hl12, hs0, htw, hat, hb1, hb2, hb3, h0, i1, e1]
      | (refine WCall.pf (hrg) ?_ ?_ ?_ ?_; (focus (simp [oks, opnds, gS, gof, eget]; done)); (focus (simp [omap, brwV, brwC, evS, eget, strip, hget, leVL, leV, leC, leL, hl12, hs0, htw, hat, hb1, hb2, hb3, h0, i1, e1]; done)); (focus (simp [noV, noC, flatR, flatV, flatC, evS, eget, strip, hl12, hs0, htw, hat, hb1, hb2, hb3, h0, i1, e1]; done)))
      | (refine ⟨WCall.pf (hrg) ?_ ?_ ?_ ?_, ?_⟩; (focus (simp [oks, opnds, gS, gof, eget]; done)); (focus (simp [omap, brwV, brwC, evS, eget, strip, hget, leVL, leV, leC, leL, hl12, hs0, htw, hat, hb1, hb2, hb3, h0, i1, e1]; done)); (focus (simp [noV, noC, flatR, flatV, flatC, evS, eget, strip, hl12, hs0, htw, hat, hb1, hb2, hb3, h0, i1, e1]; done)))
      | (refine WCall.pf (p1) ?_ ?_ ?_ ?_; (focus (simp [oks, opnds, gS, gof, eget]; done)); (focus (simp [omap, brwV, brwC, evS, eget, strip, hget, leVL, leV, leC, leL, hl12, hs0, htw, hat, hb1, hb2, hb3, h0, i1, e1]; done)); (focus (simp [noV, noC, flatR, flatV, flatC, evS, eget, strip, hl12, hs0, htw, hat, hb1, hb2, hb3, h0, i1, e1]; done)))
      | (refine ⟨WCall.pf (p1) ?_ ?_ ?_ ?_, ?_⟩; (focus (simp [oks, opnds, gS, gof, eget]; done)); (focus (simp [omap, brwV, brwC, evS, eget, strip, hget, leVL, leV, leC, leL, hl12, hs0, htw, hat, hb1, hb2, hb3, h0, i1, e1]; done)); (focus (simp [noV, noC, flatR, flatV, flatC, evS, eget, strip, hl12, hs0, htw, hat, hb1, hb2, hb3, h0, i1, e1]; done)))
      | (refine WCall.pf (p2) ?_ ?_ ?_ ?_; (focus (simp [oks, opnds, gS, gof, eget]; done)); (focus (simp [omap, brwV, brwC, evS, eget, strip, hget, leVL, leV, leC, leL, hl12, hs0, htw, hat, hb1, hb2, hb3, h0, i1, e1]; done)); (focus (simp [noV, noC, flatR, flatV, flatC, evS, eget, strip, hl12, hs0, htw, hat, hb1, hb2, hb3, h0, i1, e1]; done)))
      | (refine ⟨WCall.pf (p2) ?_ ?_ ?_ ?_, ?_⟩; (focus (simp [oks, opnds, gS, gof, eget]; done)); (focus (simp [omap, brwV, brwC, evS, eget, strip, hget, leVL, leV, leC, leL, hl12, hs0, htw, hat, hb1, hb2, hb3, h0, i1, e1]; done)); (focus (simp [noV, noC, flatR, flatV, flatC, evS, eget, strip, hl12, hs0, htw, hat, hb1, hb2, hb3, h0, i1, e1]; done)))
      | (refine WCall.pf (hwk) ?_ ?_ ?_ ?_; (focus (simp [oks, opnds, gS, gof, eget]; done)); (focus (simp [omap, brwV, brwC, evS, eget, strip, hget, leVL, leV, leC, leL, hl12, hs0, htw, hat, hb1, hb2, hb3, h0, i1, e1]; done)); (focus (simp [noV, noC, flatR, flatV, flatC, evS, eget, strip, hl12, hs0, htw, hat, hb1, hb2, hb3, h0, i1, e1]; done)))
      | (refine ⟨WCall.pf (hwk) ?_ ?_ ?_ ?_, ?_⟩; (focus (simp [oks, opnds, gS, gof, eget]; done)); (focus (simp [omap, brwV, brwC, evS, eget, strip, hget, leVL, leV, leC, leL, hl12, hs0, htw, hat, hb1, hb2, hb3, h0, i1, e1]; done)); (focus (simp [noV, noC, flatR, flatV, flatC, evS, eget, strip, hl12, hs0, htw, hat, hb1, hb2, hb3, h0, i1, e1]; done)))
      | (refine WCall.pf (hadd) ?_ ?_ ?_ ?_; (focus (simp [oks, opnds, gS, gof, eget]; done)); (focus (simp [omap, brwV, brwC, evS, eget, strip, hget, leVL, leV, leC, leL, hl12, hs0, htw, hat, hb1, hb2, hb3, h0, i1, e1]; done)); (focus (simp [noV, noC, flatR, flatV, flatC, evS, eget, strip, hl12, hs0, htw, hat, hb1, hb2, hb3, h0, i1, e1]; done)))
      | (refine ⟨WCall.pf (hadd) ?_ ?_ ?_ ?_, ?_⟩; (focus (simp [oks, opnds, gS, gof, eget]; done)); (focus (simp [omap, brwV, brwC, evS, eget, strip, hget, leVL, leV, leC, leL, hl12, hs0, htw, hat, hb1, hb2, hb3, h0, i1, e1]; done)); (focus (simp [noV, noC, flatR, flatV, flatC, evS, eget, strip, hl12, hs0, htw, hat, hb1, hb2, hb3, h0, i1, e1]; done)))
      | (refine WCall.pf (hwk2) ?_ ?_ ?_ ?_; (focus (simp [oks, opnds, gS, gof, eget]; done)); (focus (simp [omap, brwV, brwC, evS, eget, strip, hget, leVL, leV, leC, leL, hl12, hs0, htw, hat, hb1, hb2, hb3, h0, i1, e1]; done)); (focus (simp [noV, noC, flatR, flatV, flatC, evS, eget, strip, hl12, hs0, htw, hat, hb1, hb2, hb3, h0, i1, e1]; done)))
      | (refine ⟨WCall.pf (hwk2) ?_ ?_ ?_ ?_, ?_⟩; (focus (simp [oks, opnds, gS, gof, eget]; done)); (focus (simp [omap, brwV, brwC, evS, eget, strip, hget, leVL, leV, leC, leL, hl12, hs0, htw, hat, hb1, hb2, hb3, h0, i1, e1]; done)); (focus (simp [noV, noC, flatR, flatV, flatC, evS, eget, strip, hl12, hs0, htw, hat, hb1, hb2, hb3, h0, i1, e1]; done)))
      | (refine WCall.pf (hwo) ?_ ?_ ?_ ?_; (focus (simp [oks, opnds, gS, gof, eget]; done)); (focus (simp [omap, brwV, brwC, evS, eget, strip, hget, leVL, leV, leC, leL, hl12, hs0, htw, hat, hb1, hb2, hb3, h0, i1, e1]; done)); (focus (simp [noV, noC, flatR, flatV, flatC, evS, eget, strip, hl12, hs0, htw, hat, hb1, hb2, hb3, h0, i1, e1]; done)))
      | (refine ⟨WCall.pf (hwo) ?_ ?_ ?_ ?_, ?_⟩; (focus (simp [oks, opnds, gS, gof, eget]; done)); (focus (simp [omap, brwV, brwC, evS, eget, strip, hget, leVL, leV, leC, leL, hl12, hs0, htw, hat, hb1, hb2, hb3, h0, i1, e1]; done)); (focus (simp [noV, noC, flatR, flatV, flatC, evS, eget, strip, hl12, hs0, htw, hat, hb1, hb2, hb3, h0, i1, e1]; done)))
      | (refine WCall.pf (hsi) ?_ ?_ ?_ ?_; (focus (simp [oks, opnds, gS, gof, eget]; done)); (focus (simp [omap, brwV, brwC, evS, eget, strip, hget, leVL, leV, leC, leL, hl12, hs0, htw, hat, hb1, hb2, hb3, h0, i1, e1]; done)); (focus (simp [noV, noC, flatR, flatV, flatC, evS, eget, strip, hl12, hs0, htw, hat, hb1, hb2, hb3, h0, i1, e1]; done)))
      | (refine ⟨WCall.pf (hsi) ?_ ?_ ?_ ?_, ?_⟩; (focus (simp [oks, opnds, gS, gof, eget]; done)); (focus (simp [omap, brwV, brwC, evS, eget, strip, hget, leVL, leV, leC, leL, hl12, hs0, htw, hat, hb1, hb2, hb3, h0, i1, e1]; done)); (focus (simp [noV, noC, flatR, flatV, flatC, evS, eget, strip, hl12, hs0, htw, hat, hb1, hb2, hb3, h0, i1, e1]; done)))
      | (with_reducible refine And.intro (And.intro ?_ ?_) ?_)
      | fail)
end Go.Proofs.Ytajimebannjofaa

set_option linter.unusedSimpArgs false
set_option linter.unusedVariables false
namespace Go.Proofs.Ytajimebannjofaa
open Go.ChangeShapes Go.WideShapes Go.ChangeAt Go.RowKit

def numsE (r : List Int) : List Value := r.map (Value.int .i64)
def NumsOk (r : List Int) : Prop := ∀ z ∈ r, (Lit.int .i64 z).wf = true
/-- a type of n numbers in n cells -/
def Nums (P : Program) (t : TypeId) (n : Nat) : Prop :=
  ∀ {H : Type} {enc : TypeId × Value → H} {w : World} {base : Nat} {spare : Nat → Bool} {held : Bool} {fuel : Nat} {cs : List Value} {x : DataW H × List MemPlace},
    DataW.trod enc P w base spare held fuel t cs = some x → ∃ r : List Int, cs = numsE r ∧ r.length = n ∧ NumsOk r
theorem nums_of_cells (cs : List Value) (h : ∀ i, i < cs.length → ∃ z, cs[i]? = some (.int .i64 z) ∧ (Lit.int .i64 z).wf = true) : ∃ r : List Int, cs = numsE r ∧ NumsOk r := by
  induction cs with
  | nil => exact ⟨[], rfl, fun z hz => by cases hz⟩
  | cons v cs ih =>
    obtain ⟨z, hz, hw⟩ := h 0 (by simp)
    obtain ⟨r, rfl, hr⟩ := ih fun i hi => by have := h (i + 1) (by simpa using hi); simpa using this
    simp only [List.getElem?_cons_zero, Option.some.injEq] at hz
    subst hz
    refine ⟨z :: r, rfl, fun y hy => ?_⟩
    rcases List.mem_cons.1 hy with rfl | hy
    · exact hw
    · exact hr y hy
theorem Nums.struct {P : Program} {t : TypeId} {fs : Array Field} (ht : P.underlying t = some (.struct fs)) (hc : P.cellsOf t = fs.size)
    (hf : ∀ (i : Nat) (f : Field), fs[i]? = some f → f.offset = i ∧ P.cellsOf f.type = 1 ∧ P.underlying f.type = some (.int .i64)) : Nums P t fs.size := by
  intro H enc w base spare held fuel cs x h
  obtain ⟨xs, n, _, _, hl, hlen, hx⟩ := DataW.trod_struct ht h
  rw [hc] at hl
  obtain ⟨r, rfl, hr⟩ := nums_of_cells cs fun i hi => by
    rw [hl] at hi
    have hi' : i < xs.length := by omega
    have h1 := hx i fs[i] (by simp [hi])
    obtain ⟨h2, h3, h4⟩ := hf i fs[i] (by simp [hi])
    rw [h2, h3, List.getElem?_eq_getElem hi'] at h1
    obtain ⟨z, hz, _, hw⟩ := DataW.trod_int h4 h1
    refine ⟨z, ?_, hw⟩
    have := congrArg (fun l => l[0]?) hz
    simpa [List.getElem?_take, List.getElem?_drop] using this
  exact ⟨r, rfl, by simpa [numsE] using hl, hr⟩
theorem open_nums {H : Type} {enc : TypeId × Value → H} {P : Program} {w : World} {base : Nat} {spare : Nat → Bool} {held : Bool} {r0 : Reach} {b0 : Nat} {t e : TypeId} {n : Nat} {v : Value} {d : DataW H} {ps : List MemPlace}
    (ht : P.underlying t = some (.slice e)) (hc : P.cellsOf e = n) (hn0 : 0 < n) (hI : Nums P e n) (hv : Value.okWide P w r0 b0 t v) (h : DataW.Trod enc P w base spare held t v d ps) :
    ∃ rows : List (List Int), rows.length ≤ maxLen ∧ (∀ r ∈ rows, r.length = n ∧ NumsOk r) ∧ Sl w n numsE v rows := by
  obtain ⟨a0, len0, cap0, rfl⟩ := okWide_slice ht hv
  obtain ⟨fuel, hf⟩ := h
  rcases Go.Deep.open_slice ht hf with ⟨h0, _⟩ | ⟨a, len, cap, m, k, D, Pl, hcs, hb, hl, hm, hmm, _, hx⟩
  · simp only [Value.cells, List.cons.injEq, Value.slice.injEq, and_true] at h0
    obtain ⟨rfl, rfl, rfl⟩ := h0
    exact ⟨[], by simp, by simp, Sl.nil _ _ _⟩
  · simp only [Value.cells, List.cons.injEq, Value.slice.injEq, and_true] at hcs
    obtain ⟨e0, e1, e2⟩ := hcs
    subst e0 e1 e2
    rw [hc] at hx
    have hlm : len0 ≤ m := by rw [hmm]; split <;> omega
    have hrow : ∀ i, i < len0 → ∃ r : List Int, (r.length = n ∧ NumsOk r) ∧ ∀ j, j < n → w.cell? ((a.add (i * n)).add j) = (numsE r)[j]? := fun i hi => by
      obtain ⟨cs', h1, h2⟩ := hx i (by omega)
      obtain ⟨r, rfl, hr, hk⟩ := hI h2
      exact ⟨r, ⟨hr, hk⟩, (World.cells?_some h1).2.2⟩
    obtain ⟨f, hf'⟩ := Go.Deep.choose_lt hrow
    have hlen : ((List.range len0).map f).length = len0 := by simp
    refine ⟨(List.range len0).map f, by rw [hlen]; omega, fun r hr => ?_, some a, cap0, by rw [hlen], by rw [hlen]; exact hl, (fun h => by cases h), fun hne => ?_⟩
    · obtain ⟨i, hi, rfl⟩ := List.mem_map.1 hr
      exact (hf' i (List.mem_range.1 hi)).1
    · have h0 : 0 < len0 := by
        rcases Nat.eq_zero_or_pos len0 with rfl | h
        · simp at hne
        · exact h
      have hL : ∀ i, i < len0 → (numsE (f i)).length = n := fun i hi => by simp [numsE, (hf' i hi).1.1]
      have hc0 := (hf' 0 h0).2 0 hn0
      rw [List.getElem?_eq_getElem (by rw [hL 0 h0]; exact hn0)] at hc0
      obtain ⟨b, off, spot⟩ := a
      have hspot : spot = none := by simpa [Addr.add] using World.cell?_spot hc0
      subst hspot
      refine ⟨b, off, rfl, ?_, fun i x j u hxx hu => ?_⟩
      · obtain ⟨cs0, g1, _⟩ := hx 0 (by omega)
        simpa [Addr.add] using World.cells?_block g1 (by omega)
      · have hi : i < len0 := by
          have := (List.getElem?_eq_some_iff.1 hxx).1
          rwa [hlen] at this
        rw [List.getElem?_map, List.getElem?_range hi] at hxx
        simp only [Option.map_some, Option.some.injEq] at hxx
        subst hxx
        have hj : j < n := by
          have := (List.getElem?_eq_some_iff.1 hu).1
          rwa [hL i hi] at this
        rw [← hu, ← (hf' i hi).2 j hj, Go.Deep.add_add]
        congr 1
        unfold Addr.add
        split
        · rename_i hz
          obtain ⟨h1, h2⟩ : i * n = 0 ∧ j = 0 := by omega
          rw [h1, h2]; rfl
        · rw [Nat.add_assoc]
theorem Sl.map {α β : Type} {w : World} {sz : Nat} {E : α → List Value} {F : β → List Value} {v : Value} {xs : List α} (g : α → β) (h : Sl w sz E v xs) (hg : ∀ x ∈ xs, F (g x) = E x) : Sl w sz F v (xs.map g) := by
  obtain ⟨a, cap, h1, h2, h0, h3⟩ := h
  refine ⟨a, cap, by rw [h1, List.length_map], by rw [List.length_map]; exact h2, h0, fun hne => ?_⟩
  obtain ⟨b, off, h4, h5, h6⟩ := h3 (by simpa using hne)
  refine ⟨b, off, h4, h5, fun i x j u hx hu => ?_⟩
  rw [List.getElem?_map] at hx
  cases hxi : xs[i]? with
  | none => rw [hxi] at hx; cases hx
  | some y =>
    rw [hxi] at hx
    simp only [Option.map_some, Option.some.injEq] at hx
    subst hx
    exact h6 i y j u hxi (by rw [← hg y (List.mem_of_getElem? hxi)]; exact hu)
theorem nums_wf {z : Int} (h : (Lit.int .i64 z).wf = true) : -9223372036854775808 ≤ z ∧ z ≤ 9223372036854775807 := by
  have h1 : IntKind.i64.min = -9223372036854775808 := rfl
  have h2 : IntKind.i64.max = 9223372036854775807 := rfl
  simp only [Lit.wf, Bool.and_eq_true, decide_eq_true_eq] at h
  omega
end Go.Proofs.Ytajimebannjofaa

set_option linter.unusedSimpArgs false
set_option linter.unusedVariables false
set_option maxRecDepth 100000
namespace Go.Proofs.Ytajimebannjofaa
open Go.ChangeShapes Go.WideShapes Go.ChangeAt Go.RowKit

/-- what a type's cells may be -/
def Elt (P : Program) (t : TypeId) (n : Nat) {α : Type} (E : α → List Value) (ok : α → Prop) : Prop :=
  ∀ {H : Type} {enc : TypeId × Value → H} {w : World} {base : Nat} {spare : Nat → Bool} {held : Bool} {fuel : Nat} {cs : List Value} {x : DataW H × List MemPlace},
    DataW.trod enc P w base spare held fuel t cs = some x → ∃ r : α, cs = E r ∧ (E r).length = n ∧ ok r
theorem Elt.bool {P : Program} {t : TypeId} (ht : P.underlying t = some .bool) : Elt P t 1 (fun b : Bool => [Value.bool b]) (fun _ => True) := fun h => by
  obtain ⟨b, rfl, _⟩ := DataW.trod_bool ht h
  exact ⟨b, rfl, rfl, trivial⟩
theorem Elt.int {P : Program} {t : TypeId} (ht : P.underlying t = some (.int .i64)) : Elt P t 1 (fun z : Int => [Value.int .i64 z]) InR := fun h => by
  obtain ⟨z, rfl, _, hw⟩ := DataW.trod_int ht h
  exact ⟨z, rfl, rfl, nums_wf hw⟩
theorem Elt.nums {P : Program} {t : TypeId} {n : Nat} (h : Nums P t n) : Elt P t n numsE (fun r => r.length = n ∧ ∀ z ∈ r, InR z) := fun hx => by
  obtain ⟨r, rfl, hl, hk⟩ := h hx
  exact ⟨r, rfl, by simpa [numsE] using hl, hl, fun z hz => nums_wf (hk z hz)⟩
theorem open_elts {α : Type} [Inhabited α] {E : α → List Value} {ok : α → Prop} {H : Type} {enc : TypeId × Value → H} {P : Program} {w : World} {base : Nat} {spare : Nat → Bool} {held : Bool} {r0 : Reach} {b0 : Nat} {t e : TypeId} {n : Nat} {v : Value} {d : DataW H} {ps : List MemPlace}
    (ht : P.underlying t = some (.slice e)) (hc : P.cellsOf e = n) (hn0 : 0 < n) (hI : Elt P e n E ok) (hv : Value.okWide P w r0 b0 t v) (h : DataW.Trod enc P w base spare held t v d ps) :
    ∃ rows : List α, rows.length ≤ maxLen ∧ (∀ r ∈ rows, (E r).length = n ∧ ok r) ∧ Sl w n E v rows := by
  obtain ⟨a0, len0, cap0, rfl⟩ := okWide_slice ht hv
  obtain ⟨fuel, hf⟩ := h
  rcases Go.Deep.open_slice ht hf with ⟨h0, _⟩ | ⟨a, len, cap, m, k, D, Pl, hcs, hb, hl, hm, hmm, _, hx⟩
  · simp only [Value.cells, List.cons.injEq, Value.slice.injEq, and_true] at h0
    obtain ⟨rfl, rfl, rfl⟩ := h0
    exact ⟨[], by simp, by simp, Sl.nil _ _ _⟩
  · simp only [Value.cells, List.cons.injEq, Value.slice.injEq, and_true] at hcs
    obtain ⟨e0, e1, e2⟩ := hcs
    subst e0 e1 e2
    rw [hc] at hx
    have hlm : len0 ≤ m := by rw [hmm]; split <;> omega
    have hrow : ∀ i, i < len0 → ∃ r : α, ((E r).length = n ∧ ok r) ∧ ∀ j, j < n → w.cell? ((a.add (i * n)).add j) = (E r)[j]? := fun i hi => by
      obtain ⟨cs', h1, h2⟩ := hx i (by omega)
      obtain ⟨r, rfl, hr, hk⟩ := hI h2
      exact ⟨r, ⟨hr, hk⟩, (World.cells?_some h1).2.2⟩
    obtain ⟨f, hf'⟩ := Go.Deep.choose_lt hrow
    have hlen : ((List.range len0).map f).length = len0 := by simp
    refine ⟨(List.range len0).map f, by rw [hlen]; omega, fun r hr => ?_, some a, cap0, by rw [hlen], by rw [hlen]; exact hl, (fun h => by cases h), fun hne => ?_⟩
    · obtain ⟨i, hi, rfl⟩ := List.mem_map.1 hr
      exact (hf' i (List.mem_range.1 hi)).1
    · have h0 : 0 < len0 := by
        rcases Nat.eq_zero_or_pos len0 with rfl | h
        · simp at hne
        · exact h
      have hL : ∀ i, i < len0 → (E (f i)).length = n := fun i hi => (hf' i hi).1.1
      have hc0 := (hf' 0 h0).2 0 hn0
      rw [List.getElem?_eq_getElem (by rw [hL 0 h0]; exact hn0)] at hc0
      obtain ⟨b, off, spot⟩ := a
      have hspot : spot = none := by simpa [Addr.add] using World.cell?_spot hc0
      subst hspot
      refine ⟨b, off, rfl, ?_, fun i x j u hxx hu => ?_⟩
      · obtain ⟨cs0, g1, _⟩ := hx 0 (by omega)
        simpa [Addr.add] using World.cells?_block g1 (by omega)
      · have hi : i < len0 := by
          have := (List.getElem?_eq_some_iff.1 hxx).1
          rwa [hlen] at this
        rw [List.getElem?_map, List.getElem?_range hi] at hxx
        simp only [Option.map_some, Option.some.injEq] at hxx
        subst hxx
        have hj : j < n := by
          have := (List.getElem?_eq_some_iff.1 hu).1
          rwa [hL i hi] at this
        rw [← hu, ← (hf' i hi).2 j hj, Go.Deep.add_add]
        congr 1
        unfold Addr.add
        split
        · rename_i hz
          obtain ⟨h1, h2⟩ : i * n = 0 ∧ j = 0 := by omega
          rw [h1, h2]; rfl
        · rw [Nat.add_assoc]

theorem vt_bools {W : World} {v : Value} {l : List Bool} (h : Sl W 1 (fun b : Bool => [Value.bool b]) v l) : VT (allZ W) (.rows 1 (l.map fun b => [D.bool b])) v :=
  h.rows fun b _ => ⟨rfl, rfl, fun j d hd => by
    cases j with
    | zero => simp at hd; subst hd; exact ⟨_, rfl, fun Z => VT.bool b⟩
    | succ j => simp at hd⟩
theorem vt_ints {W : World} {v : Value} {l : List Int} (h : Sl W 1 (fun z : Int => [Value.int .i64 z]) v l) : VT (allZ W) (.rows 1 (l.map fun z => [I z])) v :=
  h.rows fun z _ => ⟨rfl, rfl, fun j d hd => by
    cases j with
    | zero => simp at hd; subst hd; exact ⟨_, rfl, fun Z => VT.int .i64 z⟩
    | succ j => simp at hd⟩
theorem vt_nums {W : World} {v : Value} {n : Nat} {l : List (List Int)} (h : Sl W n numsE v l) (hl : ∀ r ∈ l, r.length = n) : VT (allZ W) (.rows n (l.map fun r => r.map I)) v :=
  h.rows fun r hr => ⟨by simp [numsE, hl r hr], by simp [hl r hr], fun j d hd => by
    obtain ⟨z, hz, rfl⟩ := (map_get _ _ _ _).1 hd
    exact ⟨_, (map_get _ _ _ _).2 ⟨z, hz, rfl⟩, fun Z => VT.int .i64 z⟩⟩
theorem open_bools {H : Type} {enc : TypeId × Value → H} {w : World} {base : Nat} {spare : Nat → Bool} {held : Bool} {r0 : Reach} {b0 : Nat} {t e : TypeId} {v : Value} {d : DataW H} {ps : List MemPlace}
    (ht : Try.prog.underlying t = some (.slice e)) (hc : Try.prog.cellsOf e = 1) (he : Try.prog.underlying e = some .bool) (hv : Value.okWide Try.prog w r0 b0 t v) (h : DataW.Trod enc Try.prog w base spare held t v d ps) :
    ∃ l : List Bool, l.length ≤ maxLen ∧ VV s0 (allZ w) (.rows 1 (l.map fun b => [D.bool b])) v ∧ True := by
  obtain ⟨l, h1, _, h3⟩ := open_elts ht hc (by omega) (Elt.bool he) hv h
  exact ⟨l, h1, vt_bools h3, trivial⟩
theorem open_ints {H : Type} {enc : TypeId × Value → H} {w : World} {base : Nat} {spare : Nat → Bool} {held : Bool} {r0 : Reach} {b0 : Nat} {t e : TypeId} {v : Value} {d : DataW H} {ps : List MemPlace}
    (ht : Try.prog.underlying t = some (.slice e)) (hc : Try.prog.cellsOf e = 1) (he : Try.prog.underlying e = some (.int .i64)) (hv : Value.okWide Try.prog w r0 b0 t v) (h : DataW.Trod enc Try.prog w base spare held t v d ps) :
    ∃ l : List Int, l.length ≤ maxLen ∧ VV s0 (allZ w) (.rows 1 (l.map fun z => [I z])) v ∧ ∀ z ∈ l, InR z := by
  obtain ⟨l, h1, h2, h3⟩ := open_elts ht hc (by omega) (Elt.int he) hv h
  exact ⟨l, h1, vt_ints h3, fun z hz => (h2 z hz).2⟩
theorem open_rows {H : Type} {enc : TypeId × Value → H} {w : World} {base : Nat} {spare : Nat → Bool} {held : Bool} {r0 : Reach} {b0 : Nat} {t e : TypeId} {n : Nat} {v : Value} {d : DataW H} {ps : List MemPlace}
    (ht : Try.prog.underlying t = some (.slice e)) (hc : Try.prog.cellsOf e = n) (h0 : 0 < n) (he : Nums Try.prog e n) (hv : Value.okWide Try.prog w r0 b0 t v) (h : DataW.Trod enc Try.prog w base spare held t v d ps) :
    ∃ l : List (List Int), l.length ≤ maxLen ∧ VV s0 (allZ w) (.rows n (l.map fun r => r.map I)) v ∧ ∀ r ∈ l, r.length = n ∧ ∀ z ∈ r, InR z := by
  obtain ⟨l, h1, h2, h3⟩ := open_elts ht hc h0 (Elt.nums he) hv h
  exact ⟨l, h1, vt_nums h3 (fun r hr => (h2 r hr).2.1), fun r hr => (h2 r hr).2⟩
theorem laidOut : laidOutB Try.prog = true := by kernel_rfl
end Go.Proofs.Ytajimebannjofaa

