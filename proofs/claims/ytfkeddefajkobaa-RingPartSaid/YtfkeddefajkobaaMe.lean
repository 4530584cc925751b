/- This text holds, one behind the other, the texts that say what the program computes, step by step, and the rules that they need. They have no condition of their own. -/
import Derived.Test.YtfkeddefajkobaaMd
import Derived.Test.YtfkeddefajkobaaMc
set_option linter.unusedSimpArgs false
set_option linter.unusedVariables false
set_option maxRecDepth 100000
set_option maxHeartbeats 2000000
namespace Go.Proofs.Ytfkeddefajkobaa
open Go.RowKit
theorem brw_T (H : List (Nat × Ob)) (n : Nat) : ∀ ds : List D, (∀ d ∈ ds, isT d = true) → omap (brwC H n) ds = some ds
  | [], _ => rfl
  | d :: ds, h => by
    have h1 : brwC H n d = some d := by
      have := h d (by simp)
      cases d <;> first | (cases this; done) | (cases n <;> rfl)
    simp only [omap, h1, brw_T H n ds fun x hx => h x (List.mem_cons_of_mem _ hx)]
theorem splice_all (zs es : List D) (h : zs.length = es.length) : splice zs 0 es = es := by
  unfold splice
  rw [List.take_zero, List.nil_append, Nat.zero_add, List.drop_eq_nil_of_le (by omega), List.append_nil]
/-- elements of n cells, none of which is a reference -/
def Els {α : Type} (n : Nat) (E : α → List D) (l : List α) : Prop := ∀ x ∈ l, (E x).length = n ∧ ∀ d ∈ E x, isT d = true
theorem Els.len {α : Type} {n : Nat} {E : α → List D} {l : List α} (h : Els n E l) {x : α} (hx : x ∈ l) : (E x).length = n := (h x hx).1
theorem Els.rows {α : Type} {n : Nat} {E : α → List D} {l : List α} (h : Els n E l) : ∀ r ∈ l.map E, r.length = n := fun r hr => by
  obtain ⟨x, hx, rfl⟩ := List.mem_map.1 hr
  exact (h x hx).1
theorem Els.isT {α : Type} {n : Nat} {E : α → List D} {l : List α} (h : Els n E l) : ∀ r ∈ l.map E, ∀ d ∈ r, Go.Proofs.Ytfkeddefajkobaa.isT d = true := fun r hr => by
  obtain ⟨x, hx, rfl⟩ := List.mem_map.1 hr
  exact (h x hx).2
/-- how many stand ahead -/
def lowB {α : Type} (p : α → Bool) (l : List α) : Nat := (l.takeWhile p).length
theorem lowB_at {α : Type} (p : α → Bool) : ∀ (l : List α) (i : Nat), i ≤ l.length → (∀ j (hj : j < l.length), j < i → p l[j] = true) → (∀ (hi : i < l.length), p l[i] = false) → lowB p l = i
  | [], i, h, _, _ => by simp at h; subst h; rfl
  | x :: l, 0, _, _, h2 => by
    have := h2 (by simp)
    simp only [List.getElem_cons_zero] at this
    simp [lowB, List.takeWhile_cons, this]
  | x :: l, i + 1, h, h1, h2 => by
    have h0 := h1 0 (by simp) (by omega)
    simp only [List.getElem_cons_zero] at h0
    have ih := lowB_at p l i (by simpa using h) (fun j hj hji => by have := h1 (j + 1) (by simpa using hj) (by omega); rwa [List.getElem_cons_succ] at this) (fun hi => by have := h2 (by simpa using hi); rwa [List.getElem_cons_succ] at this)
    unfold lowB at ih ⊢
    rw [List.takeWhile_cons, if_pos h0, List.length_cons, ih]
theorem lowB_cons {α : Type} (p : α → Bool) (x : α) (l : List α) : lowB p (x :: l) = if p x then lowB p l + 1 else 0 := by
  unfold lowB
  rw [List.takeWhile_cons]
  split <;> simp
theorem lowB_lt {α : Type} (p : α → Bool) : ∀ (l : List α) (j : Nat) (h : j < l.length), j < lowB p l → p l[j] = true
  | [], j, h, _ => by simp at h
  | x :: l, 0, h, hj => by
    rw [lowB_cons] at hj
    split at hj
    · assumption
    · omega
  | x :: l, j + 1, h, hj => by
    rw [lowB_cons] at hj
    split at hj
    · simpa using lowB_lt p l j (by simpa using h) (by omega)
    · omega
theorem lowB_ge {α : Type} (p : α → Bool) : ∀ (l : List α) (h : lowB p l < l.length), p (l[lowB p l]'h) = false
  | [], h => by simp [lowB] at h
  | x :: l, h => by
    cases hp : p x with
    | false =>
      have e : lowB p (x :: l) = 0 := by rw [lowB_cons, hp]; rfl
      simp only [e]
      exact hp
    | true =>
      have e : lowB p (x :: l) = lowB p l + 1 := by rw [lowB_cons, hp]; rfl
      have h' : lowB p l < l.length := by rw [e] at h; simpa using h
      simp only [e]
      exact lowB_ge p l h'
theorem lowB_le {α : Type} (p : α → Bool) (l : List α) : lowB p l ≤ l.length := (List.takeWhile_sublist p).length_le
theorem rqixf_code : cfun Try.prog [] 69 = some ⟨(.seq (.region 0 [⟨(some 4), (.mov (.k (.int .i64 0))), none⟩]) (.seq (.seq (.region 1 [⟨(some 6), (.mov (.t 0)), none⟩, ⟨(some 7), (.len (.t 6)), none⟩, ⟨(some 8), (.mov (.k (.int .i64 0))), none⟩]) (.block 0 (.loop (.seq (.region 2 [⟨(some 9), (.bin .lss (.t 8) (.t 7)), none⟩]) (.seq (.cond 9 .skip (.exit 0)) (.seq (.block 1 (.seq (.region 3 [⟨(some 10), (.mov (.t 8)), none⟩, ⟨(some 5), (.mov (.t 10)), none⟩]) (.seq (.region 4 [⟨(some 11), (.mov (.t 1)), none⟩, ⟨(some 12), (.mov (.t 0)), none⟩, ⟨(some 13), (.mov (.t 5)), none⟩, ⟨(some 14), (.iads 5 (.t 12) (.t 13)), none⟩, ⟨(some 15), (.load true 5 (.t 14)), none⟩, ⟨(some 16), (.callv (.t 11) [(.t 15)]), none⟩]) (.cond 16 (.seq (.region 5 [⟨(some 17), (.mov (.t 5)), none⟩, ⟨(some 4), (.mov (.t 17)), none⟩]) .ret) .skip)))) (.region 6 [⟨(some 18), (.bin .add (.t 8) (.k (.int .i64 1))), none⟩, ⟨(some 8), (.mov (.t 18)), none⟩]))))))) (.seq (.region 7 [⟨(some 4), (.mov (.k (.int .i64 (-1)))), none⟩]) .ret))), [(.t 4)], 19⟩ := by kernel_rfl
theorem rqixf0_pf {α : Type} (E : α → List D) (l : List α) (F : FuncId) (q : α → Bool) (hl : l.length ≤ 1000000) (hE : Els 5 E l) (hF : ∀ s ∈ l, PF Try.prog F [.agg (E s)] (.bool (q s))) : PF Try.prog 69 [.rows 5 (l.map E), .fn F []] (I (idxZ q l)) := by
  refine PF.of follows_ok rqixf_code (by simp) (by simp [argOk]) (by simp [noV, noC]) fun B hBN hB0 => acode_sound [0, 1, 4, 5, 7, 8, 9, 16] [] _ _ _ ?_
  simp [AK_at, acode_seq, acode_region, acode_draw, acode_cond, ↓CB_t, ↓CB_f, CB_u, acode_block, acode_loop, acode_exit, acode_scope, acode_ret, acode_skip, seqQ_n, seqQ_e, seqQ_r, blockQ_n, blockQ_e, blockQ_r, TK_at, OK_at, SK_at, aops_nil, aops_cons, asch_done, asch_one, asch_two, asch_top, astep, aop_eq, isLoud, aloud, aloud1, isWrite, qv, evS, strip, gof, eget, hget, putO, eput, herase, oks, opnds, gS, afin, afin0, binD, arith, D.cells, takeD, fillD, keep, trim, envOf, Fin, aresl, aresv, resD, argOk, pickV, isP, deq, deqs, boundD, slD, lenD, isT, isSl, ptrIds, chunks, mn_min, mx_max, D.cells, splice_one, splice_more, Rbr_at, Rfr_at, frR, frV, frC, flatC, brwR, brwV, brwC, omap, leR, leV, leC, leL, leVL]
  refine W.loopS (fun i : Nat => ⟨[(8, I i), (7, I l.length), (4, I 0), (1, .fn F []), (0, D.rows 5 (l.map E))], [], 0⟩)
    (fun n i => n = l.length - i ∧ i ≤ l.length ∧ ∀ j (hj : j < l.length), j < i → q l[j] = false) ?_ ?_
  · exact ⟨_, 0, (Gh.ren [] (by simp [hB0]) (by simp [hB0] <;> decide) (by simp [eget, rnS, rnR, rnV, rnC, LtS, LtR, LtV, LtC, lget]) (by simp [hget, rnO, rnC, LtO, LtC, lget]) (.inr rfl)), rfl, by omega, fun j _ h => by omega⟩
  rintro n i ⟨hn, hi, hb⟩
  refine acode_sound [0, 1, 4, 5, 7, 8, 9, 16] [] _ _ _ ?_
  by_cases hlt : i < l.length
  · have hm : l[i] ∈ l := List.getElem_mem hlt
    have hE0 := hE _ hm
    have hFo := hF _ hm
    obtain ⟨o, ho⟩ : ∃ o, o = l[i] := ⟨_, rfl⟩
    rw [← ho] at hE0 hFo
    obtain ⟨h1, h2⟩ := hE0
    have h3 : (E o).take 5 = E o := List.take_of_length_le (by omega)
    have h4 := fun H n => brw_T H n (E o) h2
    have ii : InR ((i : Int) + 1) := inW (by omega) (by omega)
    simp [AK_at, acode_seq, acode_region, acode_draw, acode_cond, ↓CB_t, ↓CB_f, CB_u, acode_block, acode_loop, acode_exit, acode_scope, acode_ret, acode_skip, seqQ_n, seqQ_e, seqQ_r, blockQ_n, blockQ_e, blockQ_r, TK_at, OK_at, SK_at, aops_nil, aops_cons, asch_done, asch_one, asch_two, asch_top, astep, aop_eq, isLoud, aloud, aloud1, isWrite, qv, evS, strip, gof, eget, hget, putO, eput, herase, oks, opnds, gS, afin, afin0, binD, arith, D.cells, takeD, fillD, keep, trim, envOf, Fin, aresl, aresv, resD, argOk, pickV, isP, deq, deqs, boundD, slD, lenD, isT, isSl, ptrIds, chunks, mn_min, mx_max, D.cells, splice_one, splice_more, Rbr_at, Rfr_at, frR, frV, frC, flatC, brwR, brwV, brwC, omap, leR, leV, leC, leL, leVL, hlt, ← ho, h1, h3]
    cases hq : q o with
    | true =>
      have hz := idxZ_at q l i hlt (fun j hj => hb j (by omega) hj) (by rw [← ho]; exact hq)
      repeat' (first
        | simp [AK_at, acode_seq, acode_region, acode_draw, acode_cond, ↓CB_t, ↓CB_f, CB_u, acode_block, acode_loop, acode_exit, acode_scope, acode_ret, acode_skip, seqQ_n, seqQ_e, seqQ_r, blockQ_n, blockQ_e, blockQ_r, TK_at, OK_at, SK_at, aops_nil, aops_cons, asch_done, asch_one, asch_two, asch_top, astep, aop_eq, isLoud, aloud, aloud1, isWrite, qv, evS, strip, gof, eget, hget, putO, eput, herase, oks, opnds, gS, afin, afin0, binD, arith, D.cells, takeD, fillD, keep, trim, envOf, Fin, aresl, aresv, resD, argOk, pickV, isP, deq, deqs, boundD, slD, lenD, isT, isSl, ptrIds, chunks, mn_min, mx_max, D.cells, splice_one, splice_more, Rbr_at, Rfr_at, frR, frV, frC, flatC, brwR, brwV, brwC, omap, leR, leV, leC, leL, leVL, hq, hz, h4, leL_refl]
        | (refine WCall.pfv (hFo) ?_ rfl ?_ ?_ ?_; (focus (simp [oks, opnds, gS, gof, eget]; done)); (focus (simp [omap, brwV, brwC, evS, eget, strip, hget, leVL, leV, leC, leL, hq, hz, h4, leL_refl]; done)); (focus (simp [noV, noC, flatR, flatV, flatC, evS, eget, strip, hq, hz, h4, leL_refl]; done)))
        | (refine ⟨WCall.pfv (hFo) ?_ rfl ?_ ?_ ?_, ?_⟩; (focus (simp [oks, opnds, gS, gof, eget]; done)); (focus (simp [omap, brwV, brwC, evS, eget, strip, hget, leVL, leV, leC, leL, hq, hz, h4, leL_refl]; done)); (focus (simp [noV, noC, flatR, flatV, flatC, evS, eget, strip, hq, hz, h4, leL_refl]; done)))
        | (with_reducible refine And.intro (And.intro ?_ ?_) ?_)
        | fail)
    | false =>
      repeat' (first
        | simp [AK_at, acode_seq, acode_region, acode_draw, acode_cond, ↓CB_t, ↓CB_f, CB_u, acode_block, acode_loop, acode_exit, acode_scope, acode_ret, acode_skip, seqQ_n, seqQ_e, seqQ_r, blockQ_n, blockQ_e, blockQ_r, TK_at, OK_at, SK_at, aops_nil, aops_cons, asch_done, asch_one, asch_two, asch_top, astep, aop_eq, isLoud, aloud, aloud1, isWrite, qv, evS, strip, gof, eget, hget, putO, eput, herase, oks, opnds, gS, afin, afin0, binD, arith, D.cells, takeD, fillD, keep, trim, envOf, Fin, aresl, aresv, resD, argOk, pickV, isP, deq, deqs, boundD, slD, lenD, isT, isSl, ptrIds, chunks, mn_min, mx_max, D.cells, splice_one, splice_more, Rbr_at, Rfr_at, frR, frV, frC, flatC, brwR, brwV, brwC, omap, leR, leV, leC, leL, leVL, hq, ii, h4, leL_refl]
        | (refine WCall.pfv (hFo) ?_ rfl ?_ ?_ ?_; (focus (simp [oks, opnds, gS, gof, eget]; done)); (focus (simp [omap, brwV, brwC, evS, eget, strip, hget, leVL, leV, leC, leL, hq, ii, h4, leL_refl]; done)); (focus (simp [noV, noC, flatR, flatV, flatC, evS, eget, strip, hq, ii, h4, leL_refl]; done)))
        | (refine ⟨WCall.pfv (hFo) ?_ rfl ?_ ?_ ?_, ?_⟩; (focus (simp [oks, opnds, gS, gof, eget]; done)); (focus (simp [omap, brwV, brwC, evS, eget, strip, hget, leVL, leV, leC, leL, hq, ii, h4, leL_refl]; done)); (focus (simp [noV, noC, flatR, flatV, flatC, evS, eget, strip, hq, ii, h4, leL_refl]; done)))
        | (with_reducible refine And.intro (And.intro ?_ ?_) ?_)
        | fail)
      exact ⟨_, i + 1, (Gh.ren [] (by simp [hB0]) (by simp [hB0] <;> decide) (by simp [eget, rnS, rnR, rnV, rnC, LtS, LtR, LtV, LtC, lget]) (by simp [hget, rnO, rnC, LtO, LtC, lget]) (.inr rfl)), by omega, rfl, by omega, fun j hj h => by
        by_cases hji : j = i
        · subst hji; rw [← ho]; exact hq
        · exact hb j hj (by omega)⟩
  · have hz := idxZ_none q l fun x hx => by
      obtain ⟨j, hj⟩ := List.getElem?_of_mem hx
      obtain ⟨hj2, rfl⟩ := List.getElem?_eq_some_iff.1 hj
      exact hb j hj2 (by omega)
    have hie : i = l.length := by omega
    subst hie
    simp [AK_at, acode_seq, acode_region, acode_draw, acode_cond, ↓CB_t, ↓CB_f, CB_u, acode_block, acode_loop, acode_exit, acode_scope, acode_ret, acode_skip, seqQ_n, seqQ_e, seqQ_r, blockQ_n, blockQ_e, blockQ_r, TK_at, OK_at, SK_at, aops_nil, aops_cons, asch_done, asch_one, asch_two, asch_top, astep, aop_eq, isLoud, aloud, aloud1, isWrite, qv, evS, strip, gof, eget, hget, putO, eput, herase, oks, opnds, gS, afin, afin0, binD, arith, D.cells, takeD, fillD, keep, trim, envOf, Fin, aresl, aresv, resD, argOk, pickV, isP, deq, deqs, boundD, slD, lenD, isT, isSl, ptrIds, chunks, mn_min, mx_max, D.cells, splice_one, splice_more, Rbr_at, Rfr_at, frR, frV, frC, flatC, brwR, brwV, brwC, omap, leR, leV, leC, leL, leVL, hz]
theorem rqixf1_pf {α : Type} (E : α → List D) (l : List α) (F : FuncId) (ds : List D) (q : α → Bool) (hl : l.length ≤ 1000000) (hE : Els 5 E l) (hF : ∀ s ∈ l, PF Try.prog F [.agg (E s), .pc ds] (.bool (q s))) : PF Try.prog 69 [.rows 5 (l.map E), .fn F [.pc ds]] (I (idxZ q l)) := by
  refine PF.of follows_ok rqixf_code (by simp) (by simp [argOk]) (by simp [noV, noC]) fun B hBN hB0 => acode_sound [0, 1, 4, 5, 7, 8, 9, 16] [] _ _ _ ?_
  simp [AK_at, acode_seq, acode_region, acode_draw, acode_cond, ↓CB_t, ↓CB_f, CB_u, acode_block, acode_loop, acode_exit, acode_scope, acode_ret, acode_skip, seqQ_n, seqQ_e, seqQ_r, blockQ_n, blockQ_e, blockQ_r, TK_at, OK_at, SK_at, aops_nil, aops_cons, asch_done, asch_one, asch_two, asch_top, astep, aop_eq, isLoud, aloud, aloud1, isWrite, qv, evS, strip, gof, eget, hget, putO, eput, herase, oks, opnds, gS, afin, afin0, binD, arith, D.cells, takeD, fillD, keep, trim, envOf, Fin, aresl, aresv, resD, argOk, pickV, isP, deq, deqs, boundD, slD, lenD, isT, isSl, ptrIds, chunks, mn_min, mx_max, D.cells, splice_one, splice_more, Rbr_at, Rfr_at, frR, frV, frC, flatC, brwR, brwV, brwC, omap, leR, leV, leC, leL, leVL]
  refine W.loopS (fun i : Nat => ⟨[(8, I i), (7, I l.length), (4, I 0), (1, .fn F [.pc ds]), (0, D.rows 5 (l.map E))], [], 0⟩)
    (fun n i => n = l.length - i ∧ i ≤ l.length ∧ ∀ j (hj : j < l.length), j < i → q l[j] = false) ?_ ?_
  · exact ⟨_, 0, (Gh.ren [] (by simp [hB0]) (by simp [hB0] <;> decide) (by simp [eget, rnS, rnR, rnV, rnC, LtS, LtR, LtV, LtC, lget]) (by simp [hget, rnO, rnC, LtO, LtC, lget]) (.inr rfl)), rfl, by omega, fun j _ h => by omega⟩
  rintro n i ⟨hn, hi, hb⟩
  refine acode_sound [0, 1, 4, 5, 7, 8, 9, 16] [] _ _ _ ?_
  by_cases hlt : i < l.length
  · have hm : l[i] ∈ l := List.getElem_mem hlt
    have hE0 := hE _ hm
    have hFo := hF _ hm
    obtain ⟨o, ho⟩ : ∃ o, o = l[i] := ⟨_, rfl⟩
    rw [← ho] at hE0 hFo
    obtain ⟨h1, h2⟩ := hE0
    have h3 : (E o).take 5 = E o := List.take_of_length_le (by omega)
    have h4 := fun H n => brw_T H n (E o) h2
    have ii : InR ((i : Int) + 1) := inW (by omega) (by omega)
    simp [AK_at, acode_seq, acode_region, acode_draw, acode_cond, ↓CB_t, ↓CB_f, CB_u, acode_block, acode_loop, acode_exit, acode_scope, acode_ret, acode_skip, seqQ_n, seqQ_e, seqQ_r, blockQ_n, blockQ_e, blockQ_r, TK_at, OK_at, SK_at, aops_nil, aops_cons, asch_done, asch_one, asch_two, asch_top, astep, aop_eq, isLoud, aloud, aloud1, isWrite, qv, evS, strip, gof, eget, hget, putO, eput, herase, oks, opnds, gS, afin, afin0, binD, arith, D.cells, takeD, fillD, keep, trim, envOf, Fin, aresl, aresv, resD, argOk, pickV, isP, deq, deqs, boundD, slD, lenD, isT, isSl, ptrIds, chunks, mn_min, mx_max, D.cells, splice_one, splice_more, Rbr_at, Rfr_at, frR, frV, frC, flatC, brwR, brwV, brwC, omap, leR, leV, leC, leL, leVL, hlt, ← ho, h1, h3]
    cases hq : q o with
    | true =>
      have hz := idxZ_at q l i hlt (fun j hj => hb j (by omega) hj) (by rw [← ho]; exact hq)
      repeat' (first
        | simp [AK_at, acode_seq, acode_region, acode_draw, acode_cond, ↓CB_t, ↓CB_f, CB_u, acode_block, acode_loop, acode_exit, acode_scope, acode_ret, acode_skip, seqQ_n, seqQ_e, seqQ_r, blockQ_n, blockQ_e, blockQ_r, TK_at, OK_at, SK_at, aops_nil, aops_cons, asch_done, asch_one, asch_two, asch_top, astep, aop_eq, isLoud, aloud, aloud1, isWrite, qv, evS, strip, gof, eget, hget, putO, eput, herase, oks, opnds, gS, afin, afin0, binD, arith, D.cells, takeD, fillD, keep, trim, envOf, Fin, aresl, aresv, resD, argOk, pickV, isP, deq, deqs, boundD, slD, lenD, isT, isSl, ptrIds, chunks, mn_min, mx_max, D.cells, splice_one, splice_more, Rbr_at, Rfr_at, frR, frV, frC, flatC, brwR, brwV, brwC, omap, leR, leV, leC, leL, leVL, hq, hz, h4, leL_refl]
        | (refine WCall.pfv (hFo) ?_ rfl ?_ ?_ ?_; (focus (simp [oks, opnds, gS, gof, eget]; done)); (focus (simp [omap, brwV, brwC, evS, eget, strip, hget, leVL, leV, leC, leL, hq, hz, h4, leL_refl]; done)); (focus (simp [noV, noC, flatR, flatV, flatC, evS, eget, strip, hq, hz, h4, leL_refl]; done)))
        | (refine ⟨WCall.pfv (hFo) ?_ rfl ?_ ?_ ?_, ?_⟩; (focus (simp [oks, opnds, gS, gof, eget]; done)); (focus (simp [omap, brwV, brwC, evS, eget, strip, hget, leVL, leV, leC, leL, hq, hz, h4, leL_refl]; done)); (focus (simp [noV, noC, flatR, flatV, flatC, evS, eget, strip, hq, hz, h4, leL_refl]; done)))
        | (with_reducible refine And.intro (And.intro ?_ ?_) ?_)
        | fail)
    | false =>
      repeat' (first
        | simp [AK_at, acode_seq, acode_region, acode_draw, acode_cond, ↓CB_t, ↓CB_f, CB_u, acode_block, acode_loop, acode_exit, acode_scope, acode_ret, acode_skip, seqQ_n, seqQ_e, seqQ_r, blockQ_n, blockQ_e, blockQ_r, TK_at, OK_at, SK_at, aops_nil, aops_cons, asch_done, asch_one, asch_two, asch_top, astep, aop_eq, isLoud, aloud, aloud1, isWrite, qv, evS, strip, gof, eget, hget, putO, eput, herase, oks, opnds, gS, afin, afin0, binD, arith, D.cells, takeD, fillD, keep, trim, envOf, Fin, aresl, aresv, resD, argOk, pickV, isP, deq, deqs, boundD, slD, lenD, isT, isSl, ptrIds, chunks, mn_min, mx_max, D.cells, splice_one, splice_more, Rbr_at, Rfr_at, frR, frV, frC, flatC, brwR, brwV, brwC, omap, leR, leV, leC, leL, leVL, hq, ii, h4, leL_refl]
        | (refine WCall.pfv (hFo) ?_ rfl ?_ ?_ ?_; (focus (simp [oks, opnds, gS, gof, eget]; done)); (focus (simp [omap, brwV, brwC, evS, eget, strip, hget, leVL, leV, leC, leL, hq, ii, h4, leL_refl]; done)); (focus (simp [noV, noC, flatR, flatV, flatC, evS, eget, strip, hq, ii, h4, leL_refl]; done)))
        | (refine ⟨WCall.pfv (hFo) ?_ rfl ?_ ?_ ?_, ?_⟩; (focus (simp [oks, opnds, gS, gof, eget]; done)); (focus (simp [omap, brwV, brwC, evS, eget, strip, hget, leVL, leV, leC, leL, hq, ii, h4, leL_refl]; done)); (focus (simp [noV, noC, flatR, flatV, flatC, evS, eget, strip, hq, ii, h4, leL_refl]; done)))
        | (with_reducible refine And.intro (And.intro ?_ ?_) ?_)
        | fail)
      exact ⟨_, i + 1, (Gh.ren [] (by simp [hB0]) (by simp [hB0] <;> decide) (by simp [eget, rnS, rnR, rnV, rnC, LtS, LtR, LtV, LtC, lget]) (by simp [hget, rnO, rnC, LtO, LtC, lget]) (.inr rfl)), by omega, rfl, by omega, fun j hj h => by
        by_cases hji : j = i
        · subst hji; rw [← ho]; exact hq
        · exact hb j hj (by omega)⟩
  · have hz := idxZ_none q l fun x hx => by
      obtain ⟨j, hj⟩ := List.getElem?_of_mem hx
      obtain ⟨hj2, rfl⟩ := List.getElem?_eq_some_iff.1 hj
      exact hb j hj2 (by omega)
    have hie : i = l.length := by omega
    subst hie
    simp [AK_at, acode_seq, acode_region, acode_draw, acode_cond, ↓CB_t, ↓CB_f, CB_u, acode_block, acode_loop, acode_exit, acode_scope, acode_ret, acode_skip, seqQ_n, seqQ_e, seqQ_r, blockQ_n, blockQ_e, blockQ_r, TK_at, OK_at, SK_at, aops_nil, aops_cons, asch_done, asch_one, asch_two, asch_top, astep, aop_eq, isLoud, aloud, aloud1, isWrite, qv, evS, strip, gof, eget, hget, putO, eput, herase, oks, opnds, gS, afin, afin0, binD, arith, D.cells, takeD, fillD, keep, trim, envOf, Fin, aresl, aresv, resD, argOk, pickV, isP, deq, deqs, boundD, slD, lenD, isT, isSl, ptrIds, chunks, mn_min, mx_max, D.cells, splice_one, splice_more, Rbr_at, Rfr_at, frR, frV, frC, flatC, brwR, brwV, brwC, omap, leR, leV, leC, leL, leVL, hz]
theorem rqcln_code : cfun Try.prog [] 97 = some ⟨(.seq (.region 0 [⟨(some 2), (.mov (.k .nil0)), none⟩]) (.seq (.seq (.region 1 [⟨(some 3), (.mov (.t 0)), none⟩, ⟨(some 4), (.isnil false (.t 3)), none⟩]) (.cond 4 (.seq (.region 2 [⟨(some 2), (.mov (.k .nil0)), none⟩]) .ret) .skip)) (.seq (.region 3 [⟨(some 5), (.bslice 5 0 [(.int .i64 0), (.int .i64 0), (.int .i64 0), (.int .i64 0), (.int .i64 0)] []), none⟩, ⟨(some 6), (.mov (.t 0)), none⟩, ⟨(some 7), (.app 5 40 [(.int .i64 0), (.int .i64 0), (.int .i64 0), (.int .i64 0), (.int .i64 0)] (.t 5) (.t 6)), none⟩, ⟨(some 2), (.mov (.t 7)), none⟩]) .ret))), [(.t 2)], 8⟩ := by kernel_rfl
theorem rqcln_hf {α : Type} (E : α → List D) (l : List α) (hl : l.length < 1000000) (hE : Els 5 E l) : HF Try.prog 97 [.rows 5 (l.map E)] [] 0 (fun d H' nx' => (d = .nil0 ∧ l = [] ∧ H' = [] ∧ nx' = 0) ∨ (d = .own 1 ∧ H' = [(1, .row 5 (l.map E))] ∧ nx' = 2)) := by
  have h2 : l.length * 40 ≤ 140737488355328 := by omega
  have h3 := hE.rows
  refine HF.of follows_ok rqcln_code (by simp) (by simp [argOk]) (by simp [LtV, LtC]) fun B hBN hB0 => acode_sound [0, 2, 4] [] _ _ _ ?_
  simp [AK_at, acode_seq, acode_region, acode_draw, acode_cond, ↓CB_t, ↓CB_f, CB_u, acode_block, acode_loop, acode_exit, acode_scope, acode_ret, acode_skip, seqQ_n, seqQ_e, seqQ_r, blockQ_n, blockQ_e, blockQ_r, TK_at, OK_at, SK_at, aops_nil, aops_cons, asch_done, asch_one, asch_two, asch_top, astep, aop_eq, isLoud, aloud, aloud1, isWrite, qv, evS, strip, gof, eget, hget, putO, eput, herase, oks, opnds, gS, afin, afin0, binD, arith, D.cells, takeD, fillD, keep, trim, envOf, Fin, aresl, aresv, resD, argOk, pickV, isP, deq, deqs, boundD, slD, lenD, isT, isSl, ptrIds, chunks, mn_min, mx_max, D.cells, splice_one, splice_more, Rbr_at, Rfr_at, frR, frV, frC, flatC, brwR, brwV, brwC, omap, leR, leV, leC, leL, leVL, h2]
  exact fun a ha => hE.len ha
theorem rqcln_pfn {α : Type} (E : α → List D) (l : List α) (hl : l.length < 1000000) (hE : Els 5 E l) (hfl : ∀ x ∈ l, ∀ d ∈ E x, flatC d = true) : PFn Try.prog 97 [.rows 5 (l.map E)] (.rows 5 (l.map E)) := by
  have h2 : l.length * 40 ≤ 140737488355328 := by omega
  refine PFn.of follows_ok rqcln_code (by simp) (by simp [argOk]) (by simp [noV, noC]) fun B hBN hB0 => acode_sound [0, 2, 4] [] _ _ _ ?_
  simp [AK_at, acode_seq, acode_region, acode_draw, acode_cond, ↓CB_t, ↓CB_f, CB_u, acode_block, acode_loop, acode_exit, acode_scope, acode_ret, acode_skip, seqQ_n, seqQ_e, seqQ_r, blockQ_n, blockQ_e, blockQ_r, TK_at, OK_at, SK_at, aops_nil, aops_cons, asch_done, asch_one, asch_two, asch_top, astep, aop_eq, isLoud, aloud, aloud1, isWrite, qv, evS, strip, gof, eget, hget, putO, eput, herase, oks, opnds, gS, afin, afin0, binD, arith, D.cells, takeD, fillD, keep, trim, envOf, Fin, aresl, aresv, resD, argOk, pickV, isP, deq, deqs, boundD, slD, lenD, isT, isSl, ptrIds, chunks, mn_min, mx_max, D.cells, splice_one, splice_more, Rbr_at, Rfr_at, frR, frV, frC, flatC, brwR, brwV, brwC, omap, leR, leV, leC, leL, leVL, h2]
  exact ⟨fun a ha => hE.len ha, fun a ha d hd => hfl a ha d hd⟩
theorem liixf_code : cfun Try.prog [] 99 = some ⟨(.seq (.region 0 [⟨(some 4), (.mov (.k (.int .i64 0))), none⟩]) (.seq (.seq (.region 1 [⟨(some 6), (.mov (.t 0)), none⟩, ⟨(some 7), (.len (.t 6)), none⟩, ⟨(some 8), (.mov (.k (.int .i64 0))), none⟩]) (.block 0 (.loop (.seq (.region 2 [⟨(some 9), (.bin .lss (.t 8) (.t 7)), none⟩]) (.seq (.cond 9 .skip (.exit 0)) (.seq (.block 1 (.seq (.region 3 [⟨(some 10), (.mov (.t 8)), none⟩, ⟨(some 5), (.mov (.t 10)), none⟩]) (.seq (.region 4 [⟨(some 11), (.mov (.t 1)), none⟩, ⟨(some 12), (.mov (.t 0)), none⟩, ⟨(some 13), (.mov (.t 5)), none⟩, ⟨(some 14), (.iads 6 (.t 12) (.t 13)), none⟩, ⟨(some 15), (.load true 6 (.t 14)), none⟩, ⟨(some 16), (.callv (.t 11) [(.t 15)]), none⟩]) (.cond 16 (.seq (.region 5 [⟨(some 17), (.mov (.t 5)), none⟩, ⟨(some 4), (.mov (.t 17)), none⟩]) .ret) .skip)))) (.region 6 [⟨(some 18), (.bin .add (.t 8) (.k (.int .i64 1))), none⟩, ⟨(some 8), (.mov (.t 18)), none⟩]))))))) (.seq (.region 7 [⟨(some 4), (.mov (.k (.int .i64 (-1)))), none⟩]) .ret))), [(.t 4)], 19⟩ := by kernel_rfl
theorem liixf0_pf {α : Type} (E : α → List D) (l : List α) (F : FuncId) (q : α → Bool) (hl : l.length ≤ 1000000) (hE : Els 6 E l) (hF : ∀ s ∈ l, PF Try.prog F [.agg (E s)] (.bool (q s))) : PF Try.prog 99 [.rows 6 (l.map E), .fn F []] (I (idxZ q l)) := by
  refine PF.of follows_ok liixf_code (by simp) (by simp [argOk]) (by simp [noV, noC]) fun B hBN hB0 => acode_sound [0, 1, 4, 5, 7, 8, 9, 16] [] _ _ _ ?_
  simp [AK_at, acode_seq, acode_region, acode_draw, acode_cond, ↓CB_t, ↓CB_f, CB_u, acode_block, acode_loop, acode_exit, acode_scope, acode_ret, acode_skip, seqQ_n, seqQ_e, seqQ_r, blockQ_n, blockQ_e, blockQ_r, TK_at, OK_at, SK_at, aops_nil, aops_cons, asch_done, asch_one, asch_two, asch_top, astep, aop_eq, isLoud, aloud, aloud1, isWrite, qv, evS, strip, gof, eget, hget, putO, eput, herase, oks, opnds, gS, afin, afin0, binD, arith, D.cells, takeD, fillD, keep, trim, envOf, Fin, aresl, aresv, resD, argOk, pickV, isP, deq, deqs, boundD, slD, lenD, isT, isSl, ptrIds, chunks, mn_min, mx_max, D.cells, splice_one, splice_more, Rbr_at, Rfr_at, frR, frV, frC, flatC, brwR, brwV, brwC, omap, leR, leV, leC, leL, leVL]
  refine W.loopS (fun i : Nat => ⟨[(8, I i), (7, I l.length), (4, I 0), (1, .fn F []), (0, D.rows 6 (l.map E))], [], 0⟩)
    (fun n i => n = l.length - i ∧ i ≤ l.length ∧ ∀ j (hj : j < l.length), j < i → q l[j] = false) ?_ ?_
  · exact ⟨_, 0, (Gh.ren [] (by simp [hB0]) (by simp [hB0] <;> decide) (by simp [eget, rnS, rnR, rnV, rnC, LtS, LtR, LtV, LtC, lget]) (by simp [hget, rnO, rnC, LtO, LtC, lget]) (.inr rfl)), rfl, by omega, fun j _ h => by omega⟩
  rintro n i ⟨hn, hi, hb⟩
  refine acode_sound [0, 1, 4, 5, 7, 8, 9, 16] [] _ _ _ ?_
  by_cases hlt : i < l.length
  · have hm : l[i] ∈ l := List.getElem_mem hlt
    have hE0 := hE _ hm
    have hFo := hF _ hm
    obtain ⟨o, ho⟩ : ∃ o, o = l[i] := ⟨_, rfl⟩
    rw [← ho] at hE0 hFo
    obtain ⟨h1, h2⟩ := hE0
    have h3 : (E o).take 6 = E o := List.take_of_length_le (by omega)
    have h4 := fun H n => brw_T H n (E o) h2
    have ii : InR ((i : Int) + 1) := inW (by omega) (by omega)
    simp [AK_at, acode_seq, acode_region, acode_draw, acode_cond, ↓CB_t, ↓CB_f, CB_u, acode_block, acode_loop, acode_exit, acode_scope, acode_ret, acode_skip, seqQ_n, seqQ_e, seqQ_r, blockQ_n, blockQ_e, blockQ_r, TK_at, OK_at, SK_at, aops_nil, aops_cons, asch_done, asch_one, asch_two, asch_top, astep, aop_eq, isLoud, aloud, aloud1, isWrite, qv, evS, strip, gof, eget, hget, putO, eput, herase, oks, opnds, gS, afin, afin0, binD, arith, D.cells, takeD, fillD, keep, trim, envOf, Fin, aresl, aresv, resD, argOk, pickV, isP, deq, deqs, boundD, slD, lenD, isT, isSl, ptrIds, chunks, mn_min, mx_max, D.cells, splice_one, splice_more, Rbr_at, Rfr_at, frR, frV, frC, flatC, brwR, brwV, brwC, omap, leR, leV, leC, leL, leVL, hlt, ← ho, h1, h3]
    cases hq : q o with
    | true =>
      have hz := idxZ_at q l i hlt (fun j hj => hb j (by omega) hj) (by rw [← ho]; exact hq)
      repeat' (first
        | simp [AK_at, acode_seq, acode_region, acode_draw, acode_cond, ↓CB_t, ↓CB_f, CB_u, acode_block, acode_loop, acode_exit, acode_scope, acode_ret, acode_skip, seqQ_n, seqQ_e, seqQ_r, blockQ_n, blockQ_e, blockQ_r, TK_at, OK_at, SK_at, aops_nil, aops_cons, asch_done, asch_one, asch_two, asch_top, astep, aop_eq, isLoud, aloud, aloud1, isWrite, qv, evS, strip, gof, eget, hget, putO, eput, herase, oks, opnds, gS, afin, afin0, binD, arith, D.cells, takeD, fillD, keep, trim, envOf, Fin, aresl, aresv, resD, argOk, pickV, isP, deq, deqs, boundD, slD, lenD, isT, isSl, ptrIds, chunks, mn_min, mx_max, D.cells, splice_one, splice_more, Rbr_at, Rfr_at, frR, frV, frC, flatC, brwR, brwV, brwC, omap, leR, leV, leC, leL, leVL, hq, hz, h4, leL_refl]
        | (refine WCall.pfv (hFo) ?_ rfl ?_ ?_ ?_; (focus (simp [oks, opnds, gS, gof, eget]; done)); (focus (simp [omap, brwV, brwC, evS, eget, strip, hget, leVL, leV, leC, leL, hq, hz, h4, leL_refl]; done)); (focus (simp [noV, noC, flatR, flatV, flatC, evS, eget, strip, hq, hz, h4, leL_refl]; done)))
        | (refine ⟨WCall.pfv (hFo) ?_ rfl ?_ ?_ ?_, ?_⟩; (focus (simp [oks, opnds, gS, gof, eget]; done)); (focus (simp [omap, brwV, brwC, evS, eget, strip, hget, leVL, leV, leC, leL, hq, hz, h4, leL_refl]; done)); (focus (simp [noV, noC, flatR, flatV, flatC, evS, eget, strip, hq, hz, h4, leL_refl]; done)))
        | (with_reducible refine And.intro (And.intro ?_ ?_) ?_)
        | fail)
    | false =>
      repeat' (first
        | simp [AK_at, acode_seq, acode_region, acode_draw, acode_cond, ↓CB_t, ↓CB_f, CB_u, acode_block, acode_loop, acode_exit, acode_scope, acode_ret, acode_skip, seqQ_n, seqQ_e, seqQ_r, blockQ_n, blockQ_e, blockQ_r, TK_at, OK_at, SK_at, aops_nil, aops_cons, asch_done, asch_one, asch_two, asch_top, astep, aop_eq, isLoud, aloud, aloud1, isWrite, qv, evS, strip, gof, eget, hget, putO, eput, herase, oks, opnds, gS, afin, afin0, binD, arith, D.cells, takeD, fillD, keep, trim, envOf, Fin, aresl, aresv, resD, argOk, pickV, isP, deq, deqs, boundD, slD, lenD, isT, isSl, ptrIds, chunks, mn_min, mx_max, D.cells, splice_one, splice_more, Rbr_at, Rfr_at, frR, frV, frC, flatC, brwR, brwV, brwC, omap, leR, leV, leC, leL, leVL, hq, ii, h4, leL_refl]
        | (refine WCall.pfv (hFo) ?_ rfl ?_ ?_ ?_; (focus (simp [oks, opnds, gS, gof, eget]; done)); (focus (simp [omap, brwV, brwC, evS, eget, strip, hget, leVL, leV, leC, leL, hq, ii, h4, leL_refl]; done)); (focus (simp [noV, noC, flatR, flatV, flatC, evS, eget, strip, hq, ii, h4, leL_refl]; done)))
        | (refine ⟨WCall.pfv (hFo) ?_ rfl ?_ ?_ ?_, ?_⟩; (focus (simp [oks, opnds, gS, gof, eget]; done)); (focus (simp [omap, brwV, brwC, evS, eget, strip, hget, leVL, leV, leC, leL, hq, ii, h4, leL_refl]; done)); (focus (simp [noV, noC, flatR, flatV, flatC, evS, eget, strip, hq, ii, h4, leL_refl]; done)))
        | (with_reducible refine And.intro (And.intro ?_ ?_) ?_)
        | fail)
      exact ⟨_, i + 1, (Gh.ren [] (by simp [hB0]) (by simp [hB0] <;> decide) (by simp [eget, rnS, rnR, rnV, rnC, LtS, LtR, LtV, LtC, lget]) (by simp [hget, rnO, rnC, LtO, LtC, lget]) (.inr rfl)), by omega, rfl, by omega, fun j hj h => by
        by_cases hji : j = i
        · subst hji; rw [← ho]; exact hq
        · exact hb j hj (by omega)⟩
  · have hz := idxZ_none q l fun x hx => by
      obtain ⟨j, hj⟩ := List.getElem?_of_mem hx
      obtain ⟨hj2, rfl⟩ := List.getElem?_eq_some_iff.1 hj
      exact hb j hj2 (by omega)
    have hie : i = l.length := by omega
    subst hie
    simp [AK_at, acode_seq, acode_region, acode_draw, acode_cond, ↓CB_t, ↓CB_f, CB_u, acode_block, acode_loop, acode_exit, acode_scope, acode_ret, acode_skip, seqQ_n, seqQ_e, seqQ_r, blockQ_n, blockQ_e, blockQ_r, TK_at, OK_at, SK_at, aops_nil, aops_cons, asch_done, asch_one, asch_two, asch_top, astep, aop_eq, isLoud, aloud, aloud1, isWrite, qv, evS, strip, gof, eget, hget, putO, eput, herase, oks, opnds, gS, afin, afin0, binD, arith, D.cells, takeD, fillD, keep, trim, envOf, Fin, aresl, aresv, resD, argOk, pickV, isP, deq, deqs, boundD, slD, lenD, isT, isSl, ptrIds, chunks, mn_min, mx_max, D.cells, splice_one, splice_more, Rbr_at, Rfr_at, frR, frV, frC, flatC, brwR, brwV, brwC, omap, leR, leV, leC, leL, leVL, hz]
theorem liixf1_pf {α : Type} (E : α → List D) (l : List α) (F : FuncId) (ds : List D) (q : α → Bool) (hl : l.length ≤ 1000000) (hE : Els 6 E l) (hF : ∀ s ∈ l, PF Try.prog F [.agg (E s), .pc ds] (.bool (q s))) : PF Try.prog 99 [.rows 6 (l.map E), .fn F [.pc ds]] (I (idxZ q l)) := by
  refine PF.of follows_ok liixf_code (by simp) (by simp [argOk]) (by simp [noV, noC]) fun B hBN hB0 => acode_sound [0, 1, 4, 5, 7, 8, 9, 16] [] _ _ _ ?_
  simp [AK_at, acode_seq, acode_region, acode_draw, acode_cond, ↓CB_t, ↓CB_f, CB_u, acode_block, acode_loop, acode_exit, acode_scope, acode_ret, acode_skip, seqQ_n, seqQ_e, seqQ_r, blockQ_n, blockQ_e, blockQ_r, TK_at, OK_at, SK_at, aops_nil, aops_cons, asch_done, asch_one, asch_two, asch_top, astep, aop_eq, isLoud, aloud, aloud1, isWrite, qv, evS, strip, gof, eget, hget, putO, eput, herase, oks, opnds, gS, afin, afin0, binD, arith, D.cells, takeD, fillD, keep, trim, envOf, Fin, aresl, aresv, resD, argOk, pickV, isP, deq, deqs, boundD, slD, lenD, isT, isSl, ptrIds, chunks, mn_min, mx_max, D.cells, splice_one, splice_more, Rbr_at, Rfr_at, frR, frV, frC, flatC, brwR, brwV, brwC, omap, leR, leV, leC, leL, leVL]
  refine W.loopS (fun i : Nat => ⟨[(8, I i), (7, I l.length), (4, I 0), (1, .fn F [.pc ds]), (0, D.rows 6 (l.map E))], [], 0⟩)
    (fun n i => n = l.length - i ∧ i ≤ l.length ∧ ∀ j (hj : j < l.length), j < i → q l[j] = false) ?_ ?_
  · exact ⟨_, 0, (Gh.ren [] (by simp [hB0]) (by simp [hB0] <;> decide) (by simp [eget, rnS, rnR, rnV, rnC, LtS, LtR, LtV, LtC, lget]) (by simp [hget, rnO, rnC, LtO, LtC, lget]) (.inr rfl)), rfl, by omega, fun j _ h => by omega⟩
  rintro n i ⟨hn, hi, hb⟩
  refine acode_sound [0, 1, 4, 5, 7, 8, 9, 16] [] _ _ _ ?_
  by_cases hlt : i < l.length
  · have hm : l[i] ∈ l := List.getElem_mem hlt
    have hE0 := hE _ hm
    have hFo := hF _ hm
    obtain ⟨o, ho⟩ : ∃ o, o = l[i] := ⟨_, rfl⟩
    rw [← ho] at hE0 hFo
    obtain ⟨h1, h2⟩ := hE0
    have h3 : (E o).take 6 = E o := List.take_of_length_le (by omega)
    have h4 := fun H n => brw_T H n (E o) h2
    have ii : InR ((i : Int) + 1) := inW (by omega) (by omega)
    simp [AK_at, acode_seq, acode_region, acode_draw, acode_cond, ↓CB_t, ↓CB_f, CB_u, acode_block, acode_loop, acode_exit, acode_scope, acode_ret, acode_skip, seqQ_n, seqQ_e, seqQ_r, blockQ_n, blockQ_e, blockQ_r, TK_at, OK_at, SK_at, aops_nil, aops_cons, asch_done, asch_one, asch_two, asch_top, astep, aop_eq, isLoud, aloud, aloud1, isWrite, qv, evS, strip, gof, eget, hget, putO, eput, herase, oks, opnds, gS, afin, afin0, binD, arith, D.cells, takeD, fillD, keep, trim, envOf, Fin, aresl, aresv, resD, argOk, pickV, isP, deq, deqs, boundD, slD, lenD, isT, isSl, ptrIds, chunks, mn_min, mx_max, D.cells, splice_one, splice_more, Rbr_at, Rfr_at, frR, frV, frC, flatC, brwR, brwV, brwC, omap, leR, leV, leC, leL, leVL, hlt, ← ho, h1, h3]
    cases hq : q o with
    | true =>
      have hz := idxZ_at q l i hlt (fun j hj => hb j (by omega) hj) (by rw [← ho]; exact hq)
      repeat' (first
        | simp [AK_at, acode_seq, acode_region, acode_draw, acode_cond, ↓CB_t, ↓CB_f, CB_u, acode_block, acode_loop, acode_exit, acode_scope, acode_ret, acode_skip, seqQ_n, seqQ_e, seqQ_r, blockQ_n, blockQ_e, blockQ_r, TK_at, OK_at, SK_at, aops_nil, aops_cons, asch_done, asch_one, asch_two, asch_top, astep, aop_eq, isLoud, aloud, aloud1, isWrite, qv, evS, strip, gof, eget, hget, putO, eput, herase, oks, opnds, gS, afin, afin0, binD, arith, D.cells, takeD, fillD, keep, trim, envOf, Fin, aresl, aresv, resD, argOk, pickV, isP, deq, deqs, boundD, slD, lenD, isT, isSl, ptrIds, chunks, mn_min, mx_max, D.cells, splice_one, splice_more, Rbr_at, Rfr_at, frR, frV, frC, flatC, brwR, brwV, brwC, omap, leR, leV, leC, leL, leVL, hq, hz, h4, leL_refl]
        | (refine WCall.pfv (hFo) ?_ rfl ?_ ?_ ?_; (focus (simp [oks, opnds, gS, gof, eget]; done)); (focus (simp [omap, brwV, brwC, evS, eget, strip, hget, leVL, leV, leC, leL, hq, hz, h4, leL_refl]; done)); (focus (simp [noV, noC, flatR, flatV, flatC, evS, eget, strip, hq, hz, h4, leL_refl]; done)))
        | (refine ⟨WCall.pfv (hFo) ?_ rfl ?_ ?_ ?_, ?_⟩; (focus (simp [oks, opnds, gS, gof, eget]; done)); (focus (simp [omap, brwV, brwC, evS, eget, strip, hget, leVL, leV, leC, leL, hq, hz, h4, leL_refl]; done)); (focus (simp [noV, noC, flatR, flatV, flatC, evS, eget, strip, hq, hz, h4, leL_refl]; done)))
        | (with_reducible refine And.intro (And.intro ?_ ?_) ?_)
        | fail)
    | false =>
      repeat' (first
        | simp [AK_at, acode_seq, acode_region, acode_draw, acode_cond, ↓CB_t, ↓CB_f, CB_u, acode_block, acode_loop, acode_exit, acode_scope, acode_ret, acode_skip, seqQ_n, seqQ_e, seqQ_r, blockQ_n, blockQ_e, blockQ_r, TK_at, OK_at, SK_at, aops_nil, aops_cons, asch_done, asch_one, asch_two, asch_top, astep, aop_eq, isLoud, aloud, aloud1, isWrite, qv, evS, strip, gof, eget, hget, putO, eput, herase, oks, opnds, gS, afin, afin0, binD, arith, D.cells, takeD, fillD, keep, trim, envOf, Fin, aresl, aresv, resD, argOk, pickV, isP, deq, deqs, boundD, slD, lenD, isT, isSl, ptrIds, chunks, mn_min, mx_max, D.cells, splice_one, splice_more, Rbr_at, Rfr_at, frR, frV, frC, flatC, brwR, brwV, brwC, omap, leR, leV, leC, leL, leVL, hq, ii, h4, leL_refl]
        | (refine WCall.pfv (hFo) ?_ rfl ?_ ?_ ?_; (focus (simp [oks, opnds, gS, gof, eget]; done)); (focus (simp [omap, brwV, brwC, evS, eget, strip, hget, leVL, leV, leC, leL, hq, ii, h4, leL_refl]; done)); (focus (simp [noV, noC, flatR, flatV, flatC, evS, eget, strip, hq, ii, h4, leL_refl]; done)))
        | (refine ⟨WCall.pfv (hFo) ?_ rfl ?_ ?_ ?_, ?_⟩; (focus (simp [oks, opnds, gS, gof, eget]; done)); (focus (simp [omap, brwV, brwC, evS, eget, strip, hget, leVL, leV, leC, leL, hq, ii, h4, leL_refl]; done)); (focus (simp [noV, noC, flatR, flatV, flatC, evS, eget, strip, hq, ii, h4, leL_refl]; done)))
        | (with_reducible refine And.intro (And.intro ?_ ?_) ?_)
        | fail)
      exact ⟨_, i + 1, (Gh.ren [] (by simp [hB0]) (by simp [hB0] <;> decide) (by simp [eget, rnS, rnR, rnV, rnC, LtS, LtR, LtV, LtC, lget]) (by simp [hget, rnO, rnC, LtO, LtC, lget]) (.inr rfl)), by omega, rfl, by omega, fun j hj h => by
        by_cases hji : j = i
        · subst hji; rw [← ho]; exact hq
        · exact hb j hj (by omega)⟩
  · have hz := idxZ_none q l fun x hx => by
      obtain ⟨j, hj⟩ := List.getElem?_of_mem hx
      obtain ⟨hj2, rfl⟩ := List.getElem?_eq_some_iff.1 hj
      exact hb j hj2 (by omega)
    have hie : i = l.length := by omega
    subst hie
    simp [AK_at, acode_seq, acode_region, acode_draw, acode_cond, ↓CB_t, ↓CB_f, CB_u, acode_block, acode_loop, acode_exit, acode_scope, acode_ret, acode_skip, seqQ_n, seqQ_e, seqQ_r, blockQ_n, blockQ_e, blockQ_r, TK_at, OK_at, SK_at, aops_nil, aops_cons, asch_done, asch_one, asch_two, asch_top, astep, aop_eq, isLoud, aloud, aloud1, isWrite, qv, evS, strip, gof, eget, hget, putO, eput, herase, oks, opnds, gS, afin, afin0, binD, arith, D.cells, takeD, fillD, keep, trim, envOf, Fin, aresl, aresv, resD, argOk, pickV, isP, deq, deqs, boundD, slD, lenD, isT, isSl, ptrIds, chunks, mn_min, mx_max, D.cells, splice_one, splice_more, Rbr_at, Rfr_at, frR, frV, frC, flatC, brwR, brwV, brwC, omap, leR, leV, leC, leL, leVL, hz]
theorem licln_code : cfun Try.prog [] 96 = some ⟨(.seq (.region 0 [⟨(some 2), (.mov (.k .nil0)), none⟩]) (.seq (.seq (.region 1 [⟨(some 3), (.mov (.t 0)), none⟩, ⟨(some 4), (.isnil false (.t 3)), none⟩]) (.cond 4 (.seq (.region 2 [⟨(some 2), (.mov (.k .nil0)), none⟩]) .ret) .skip)) (.seq (.region 3 [⟨(some 5), (.bslice 6 0 [(.int .i64 0), (.int .i64 0), (.int .i64 0), (.int .i64 0), (.int .i64 0), (.int .i64 0)] []), none⟩, ⟨(some 6), (.mov (.t 0)), none⟩, ⟨(some 7), (.app 6 48 [(.int .i64 0), (.int .i64 0), (.int .i64 0), (.int .i64 0), (.int .i64 0), (.int .i64 0)] (.t 5) (.t 6)), none⟩, ⟨(some 2), (.mov (.t 7)), none⟩]) .ret))), [(.t 2)], 8⟩ := by kernel_rfl
theorem licln_hf {α : Type} (E : α → List D) (l : List α) (hl : l.length < 1000000) (hE : Els 6 E l) : HF Try.prog 96 [.rows 6 (l.map E)] [] 0 (fun d H' nx' => (d = .nil0 ∧ l = [] ∧ H' = [] ∧ nx' = 0) ∨ (d = .own 1 ∧ H' = [(1, .row 6 (l.map E))] ∧ nx' = 2)) := by
  have h2 : l.length * 48 ≤ 140737488355328 := by omega
  have h3 := hE.rows
  refine HF.of follows_ok licln_code (by simp) (by simp [argOk]) (by simp [LtV, LtC]) fun B hBN hB0 => acode_sound [0, 2, 4] [] _ _ _ ?_
  simp [AK_at, acode_seq, acode_region, acode_draw, acode_cond, ↓CB_t, ↓CB_f, CB_u, acode_block, acode_loop, acode_exit, acode_scope, acode_ret, acode_skip, seqQ_n, seqQ_e, seqQ_r, blockQ_n, blockQ_e, blockQ_r, TK_at, OK_at, SK_at, aops_nil, aops_cons, asch_done, asch_one, asch_two, asch_top, astep, aop_eq, isLoud, aloud, aloud1, isWrite, qv, evS, strip, gof, eget, hget, putO, eput, herase, oks, opnds, gS, afin, afin0, binD, arith, D.cells, takeD, fillD, keep, trim, envOf, Fin, aresl, aresv, resD, argOk, pickV, isP, deq, deqs, boundD, slD, lenD, isT, isSl, ptrIds, chunks, mn_min, mx_max, D.cells, splice_one, splice_more, Rbr_at, Rfr_at, frR, frV, frC, flatC, brwR, brwV, brwC, omap, leR, leV, leC, leL, leVL, h2]
  exact fun a ha => hE.len ha
theorem licln_pfn {α : Type} (E : α → List D) (l : List α) (hl : l.length < 1000000) (hE : Els 6 E l) (hfl : ∀ x ∈ l, ∀ d ∈ E x, flatC d = true) : PFn Try.prog 96 [.rows 6 (l.map E)] (.rows 6 (l.map E)) := by
  have h2 : l.length * 48 ≤ 140737488355328 := by omega
  refine PFn.of follows_ok licln_code (by simp) (by simp [argOk]) (by simp [noV, noC]) fun B hBN hB0 => acode_sound [0, 2, 4] [] _ _ _ ?_
  simp [AK_at, acode_seq, acode_region, acode_draw, acode_cond, ↓CB_t, ↓CB_f, CB_u, acode_block, acode_loop, acode_exit, acode_scope, acode_ret, acode_skip, seqQ_n, seqQ_e, seqQ_r, blockQ_n, blockQ_e, blockQ_r, TK_at, OK_at, SK_at, aops_nil, aops_cons, asch_done, asch_one, asch_two, asch_top, astep, aop_eq, isLoud, aloud, aloud1, isWrite, qv, evS, strip, gof, eget, hget, putO, eput, herase, oks, opnds, gS, afin, afin0, binD, arith, D.cells, takeD, fillD, keep, trim, envOf, Fin, aresl, aresv, resD, argOk, pickV, isP, deq, deqs, boundD, slD, lenD, isT, isSl, ptrIds, chunks, mn_min, mx_max, D.cells, splice_one, splice_more, Rbr_at, Rfr_at, frR, frV, frC, flatC, brwR, brwV, brwC, omap, leR, leV, leC, leL, leVL, h2]
  exact ⟨fun a ha => hE.len ha, fun a ha d hd => hfl a ha d hd⟩
theorem tiixf_code : cfun Try.prog [] 105 = some ⟨(.seq (.region 0 [⟨(some 4), (.mov (.k (.int .i64 0))), none⟩]) (.seq (.seq (.region 1 [⟨(some 6), (.mov (.t 0)), none⟩, ⟨(some 7), (.len (.t 6)), none⟩, ⟨(some 8), (.mov (.k (.int .i64 0))), none⟩]) (.block 0 (.loop (.seq (.region 2 [⟨(some 9), (.bin .lss (.t 8) (.t 7)), none⟩]) (.seq (.cond 9 .skip (.exit 0)) (.seq (.block 1 (.seq (.region 3 [⟨(some 10), (.mov (.t 8)), none⟩, ⟨(some 5), (.mov (.t 10)), none⟩]) (.seq (.region 4 [⟨(some 11), (.mov (.t 1)), none⟩, ⟨(some 12), (.mov (.t 0)), none⟩, ⟨(some 13), (.mov (.t 5)), none⟩, ⟨(some 14), (.iads 2 (.t 12) (.t 13)), none⟩, ⟨(some 15), (.load true 2 (.t 14)), none⟩, ⟨(some 16), (.callv (.t 11) [(.t 15)]), none⟩]) (.cond 16 (.seq (.region 5 [⟨(some 17), (.mov (.t 5)), none⟩, ⟨(some 4), (.mov (.t 17)), none⟩]) .ret) .skip)))) (.region 6 [⟨(some 18), (.bin .add (.t 8) (.k (.int .i64 1))), none⟩, ⟨(some 8), (.mov (.t 18)), none⟩]))))))) (.seq (.region 7 [⟨(some 4), (.mov (.k (.int .i64 (-1)))), none⟩]) .ret))), [(.t 4)], 19⟩ := by kernel_rfl
theorem tiixf0_pf {α : Type} (E : α → List D) (l : List α) (F : FuncId) (q : α → Bool) (hl : l.length ≤ 1000000) (hE : Els 2 E l) (hF : ∀ s ∈ l, PF Try.prog F [.agg (E s)] (.bool (q s))) : PF Try.prog 105 [.rows 2 (l.map E), .fn F []] (I (idxZ q l)) := by
  refine PF.of follows_ok tiixf_code (by simp) (by simp [argOk]) (by simp [noV, noC]) fun B hBN hB0 => acode_sound [0, 1, 4, 5, 7, 8, 9, 16] [] _ _ _ ?_
  simp [AK_at, acode_seq, acode_region, acode_draw, acode_cond, ↓CB_t, ↓CB_f, CB_u, acode_block, acode_loop, acode_exit, acode_scope, acode_ret, acode_skip, seqQ_n, seqQ_e, seqQ_r, blockQ_n, blockQ_e, blockQ_r, TK_at, OK_at, SK_at, aops_nil, aops_cons, asch_done, asch_one, asch_two, asch_top, astep, aop_eq, isLoud, aloud, aloud1, isWrite, qv, evS, strip, gof, eget, hget, putO, eput, herase, oks, opnds, gS, afin, afin0, binD, arith, D.cells, takeD, fillD, keep, trim, envOf, Fin, aresl, aresv, resD, argOk, pickV, isP, deq, deqs, boundD, slD, lenD, isT, isSl, ptrIds, chunks, mn_min, mx_max, D.cells, splice_one, splice_more, Rbr_at, Rfr_at, frR, frV, frC, flatC, brwR, brwV, brwC, omap, leR, leV, leC, leL, leVL]
  refine W.loopS (fun i : Nat => ⟨[(8, I i), (7, I l.length), (4, I 0), (1, .fn F []), (0, D.rows 2 (l.map E))], [], 0⟩)
    (fun n i => n = l.length - i ∧ i ≤ l.length ∧ ∀ j (hj : j < l.length), j < i → q l[j] = false) ?_ ?_
  · exact ⟨_, 0, (Gh.ren [] (by simp [hB0]) (by simp [hB0] <;> decide) (by simp [eget, rnS, rnR, rnV, rnC, LtS, LtR, LtV, LtC, lget]) (by simp [hget, rnO, rnC, LtO, LtC, lget]) (.inr rfl)), rfl, by omega, fun j _ h => by omega⟩
  rintro n i ⟨hn, hi, hb⟩
  refine acode_sound [0, 1, 4, 5, 7, 8, 9, 16] [] _ _ _ ?_
  by_cases hlt : i < l.length
  · have hm : l[i] ∈ l := List.getElem_mem hlt
    have hE0 := hE _ hm
    have hFo := hF _ hm
    obtain ⟨o, ho⟩ : ∃ o, o = l[i] := ⟨_, rfl⟩
    rw [← ho] at hE0 hFo
    obtain ⟨h1, h2⟩ := hE0
    have h3 : (E o).take 2 = E o := List.take_of_length_le (by omega)
    have h4 := fun H n => brw_T H n (E o) h2
    have ii : InR ((i : Int) + 1) := inW (by omega) (by omega)
    simp [AK_at, acode_seq, acode_region, acode_draw, acode_cond, ↓CB_t, ↓CB_f, CB_u, acode_block, acode_loop, acode_exit, acode_scope, acode_ret, acode_skip, seqQ_n, seqQ_e, seqQ_r, blockQ_n, blockQ_e, blockQ_r, TK_at, OK_at, SK_at, aops_nil, aops_cons, asch_done, asch_one, asch_two, asch_top, astep, aop_eq, isLoud, aloud, aloud1, isWrite, qv, evS, strip, gof, eget, hget, putO, eput, herase, oks, opnds, gS, afin, afin0, binD, arith, D.cells, takeD, fillD, keep, trim, envOf, Fin, aresl, aresv, resD, argOk, pickV, isP, deq, deqs, boundD, slD, lenD, isT, isSl, ptrIds, chunks, mn_min, mx_max, D.cells, splice_one, splice_more, Rbr_at, Rfr_at, frR, frV, frC, flatC, brwR, brwV, brwC, omap, leR, leV, leC, leL, leVL, hlt, ← ho, h1, h3]
    cases hq : q o with
    | true =>
      have hz := idxZ_at q l i hlt (fun j hj => hb j (by omega) hj) (by rw [← ho]; exact hq)
      repeat' (first
        | simp [AK_at, acode_seq, acode_region, acode_draw, acode_cond, ↓CB_t, ↓CB_f, CB_u, acode_block, acode_loop, acode_exit, acode_scope, acode_ret, acode_skip, seqQ_n, seqQ_e, seqQ_r, blockQ_n, blockQ_e, blockQ_r, TK_at, OK_at, SK_at, aops_nil, aops_cons, asch_done, asch_one, asch_two, asch_top, astep, aop_eq, isLoud, aloud, aloud1, isWrite, qv, evS, strip, gof, eget, hget, putO, eput, herase, oks, opnds, gS, afin, afin0, binD, arith, D.cells, takeD, fillD, keep, trim, envOf, Fin, aresl, aresv, resD, argOk, pickV, isP, deq, deqs, boundD, slD, lenD, isT, isSl, ptrIds, chunks, mn_min, mx_max, D.cells, splice_one, splice_more, Rbr_at, Rfr_at, frR, frV, frC, flatC, brwR, brwV, brwC, omap, leR, leV, leC, leL, leVL, hq, hz, h4, leL_refl]
        | (refine WCall.pfv (hFo) ?_ rfl ?_ ?_ ?_; (focus (simp [oks, opnds, gS, gof, eget]; done)); (focus (simp [omap, brwV, brwC, evS, eget, strip, hget, leVL, leV, leC, leL, hq, hz, h4, leL_refl]; done)); (focus (simp [noV, noC, flatR, flatV, flatC, evS, eget, strip, hq, hz, h4, leL_refl]; done)))
        | (refine ⟨WCall.pfv (hFo) ?_ rfl ?_ ?_ ?_, ?_⟩; (focus (simp [oks, opnds, gS, gof, eget]; done)); (focus (simp [omap, brwV, brwC, evS, eget, strip, hget, leVL, leV, leC, leL, hq, hz, h4, leL_refl]; done)); (focus (simp [noV, noC, flatR, flatV, flatC, evS, eget, strip, hq, hz, h4, leL_refl]; done)))
        | (with_reducible refine And.intro (And.intro ?_ ?_) ?_)
        | fail)
    | false =>
      repeat' (first
        | simp [AK_at, acode_seq, acode_region, acode_draw, acode_cond, ↓CB_t, ↓CB_f, CB_u, acode_block, acode_loop, acode_exit, acode_scope, acode_ret, acode_skip, seqQ_n, seqQ_e, seqQ_r, blockQ_n, blockQ_e, blockQ_r, TK_at, OK_at, SK_at, aops_nil, aops_cons, asch_done, asch_one, asch_two, asch_top, astep, aop_eq, isLoud, aloud, aloud1, isWrite, qv, evS, strip, gof, eget, hget, putO, eput, herase, oks, opnds, gS, afin, afin0, binD, arith, D.cells, takeD, fillD, keep, trim, envOf, Fin, aresl, aresv, resD, argOk, pickV, isP, deq, deqs, boundD, slD, lenD, isT, isSl, ptrIds, chunks, mn_min, mx_max, D.cells, splice_one, splice_more, Rbr_at, Rfr_at, frR, frV, frC, flatC, brwR, brwV, brwC, omap, leR, leV, leC, leL, leVL, hq, ii, h4, leL_refl]
        | (refine WCall.pfv (hFo) ?_ rfl ?_ ?_ ?_; (focus (simp [oks, opnds, gS, gof, eget]; done)); (focus (simp [omap, brwV, brwC, evS, eget, strip, hget, leVL, leV, leC, leL, hq, ii, h4, leL_refl]; done)); (focus (simp [noV, noC, flatR, flatV, flatC, evS, eget, strip, hq, ii, h4, leL_refl]; done)))
        | (refine ⟨WCall.pfv (hFo) ?_ rfl ?_ ?_ ?_, ?_⟩; (focus (simp [oks, opnds, gS, gof, eget]; done)); (focus (simp [omap, brwV, brwC, evS, eget, strip, hget, leVL, leV, leC, leL, hq, ii, h4, leL_refl]; done)); (focus (simp [noV, noC, flatR, flatV, flatC, evS, eget, strip, hq, ii, h4, leL_refl]; done)))
        | (with_reducible refine And.intro (And.intro ?_ ?_) ?_)
        | fail)
      exact ⟨_, i + 1, (Gh.ren [] (by simp [hB0]) (by simp [hB0] <;> decide) (by simp [eget, rnS, rnR, rnV, rnC, LtS, LtR, LtV, LtC, lget]) (by simp [hget, rnO, rnC, LtO, LtC, lget]) (.inr rfl)), by omega, rfl, by omega, fun j hj h => by
        by_cases hji : j = i
        · subst hji; rw [← ho]; exact hq
        · exact hb j hj (by omega)⟩
  · have hz := idxZ_none q l fun x hx => by
      obtain ⟨j, hj⟩ := List.getElem?_of_mem hx
      obtain ⟨hj2, rfl⟩ := List.getElem?_eq_some_iff.1 hj
      exact hb j hj2 (by omega)
    have hie : i = l.length := by omega
    subst hie
    simp [AK_at, acode_seq, acode_region, acode_draw, acode_cond, ↓CB_t, ↓CB_f, CB_u, acode_block, acode_loop, acode_exit, acode_scope, acode_ret, acode_skip, seqQ_n, seqQ_e, seqQ_r, blockQ_n, blockQ_e, blockQ_r, TK_at, OK_at, SK_at, aops_nil, aops_cons, asch_done, asch_one, asch_two, asch_top, astep, aop_eq, isLoud, aloud, aloud1, isWrite, qv, evS, strip, gof, eget, hget, putO, eput, herase, oks, opnds, gS, afin, afin0, binD, arith, D.cells, takeD, fillD, keep, trim, envOf, Fin, aresl, aresv, resD, argOk, pickV, isP, deq, deqs, boundD, slD, lenD, isT, isSl, ptrIds, chunks, mn_min, mx_max, D.cells, splice_one, splice_more, Rbr_at, Rfr_at, frR, frV, frC, flatC, brwR, brwV, brwC, omap, leR, leV, leC, leL, leVL, hz]
theorem tiixf1_pf {α : Type} (E : α → List D) (l : List α) (F : FuncId) (ds : List D) (q : α → Bool) (hl : l.length ≤ 1000000) (hE : Els 2 E l) (hF : ∀ s ∈ l, PF Try.prog F [.agg (E s), .pc ds] (.bool (q s))) : PF Try.prog 105 [.rows 2 (l.map E), .fn F [.pc ds]] (I (idxZ q l)) := by
  refine PF.of follows_ok tiixf_code (by simp) (by simp [argOk]) (by simp [noV, noC]) fun B hBN hB0 => acode_sound [0, 1, 4, 5, 7, 8, 9, 16] [] _ _ _ ?_
  simp [AK_at, acode_seq, acode_region, acode_draw, acode_cond, ↓CB_t, ↓CB_f, CB_u, acode_block, acode_loop, acode_exit, acode_scope, acode_ret, acode_skip, seqQ_n, seqQ_e, seqQ_r, blockQ_n, blockQ_e, blockQ_r, TK_at, OK_at, SK_at, aops_nil, aops_cons, asch_done, asch_one, asch_two, asch_top, astep, aop_eq, isLoud, aloud, aloud1, isWrite, qv, evS, strip, gof, eget, hget, putO, eput, herase, oks, opnds, gS, afin, afin0, binD, arith, D.cells, takeD, fillD, keep, trim, envOf, Fin, aresl, aresv, resD, argOk, pickV, isP, deq, deqs, boundD, slD, lenD, isT, isSl, ptrIds, chunks, mn_min, mx_max, D.cells, splice_one, splice_more, Rbr_at, Rfr_at, frR, frV, frC, flatC, brwR, brwV, brwC, omap, leR, leV, leC, leL, leVL]
  refine W.loopS (fun i : Nat => ⟨[(8, I i), (7, I l.length), (4, I 0), (1, .fn F [.pc ds]), (0, D.rows 2 (l.map E))], [], 0⟩)
    (fun n i => n = l.length - i ∧ i ≤ l.length ∧ ∀ j (hj : j < l.length), j < i → q l[j] = false) ?_ ?_
  · exact ⟨_, 0, (Gh.ren [] (by simp [hB0]) (by simp [hB0] <;> decide) (by simp [eget, rnS, rnR, rnV, rnC, LtS, LtR, LtV, LtC, lget]) (by simp [hget, rnO, rnC, LtO, LtC, lget]) (.inr rfl)), rfl, by omega, fun j _ h => by omega⟩
  rintro n i ⟨hn, hi, hb⟩
  refine acode_sound [0, 1, 4, 5, 7, 8, 9, 16] [] _ _ _ ?_
  by_cases hlt : i < l.length
  · have hm : l[i] ∈ l := List.getElem_mem hlt
    have hE0 := hE _ hm
    have hFo := hF _ hm
    obtain ⟨o, ho⟩ : ∃ o, o = l[i] := ⟨_, rfl⟩
    rw [← ho] at hE0 hFo
    obtain ⟨h1, h2⟩ := hE0
    have h3 : (E o).take 2 = E o := List.take_of_length_le (by omega)
    have h4 := fun H n => brw_T H n (E o) h2
    have ii : InR ((i : Int) + 1) := inW (by omega) (by omega)
    simp [AK_at, acode_seq, acode_region, acode_draw, acode_cond, ↓CB_t, ↓CB_f, CB_u, acode_block, acode_loop, acode_exit, acode_scope, acode_ret, acode_skip, seqQ_n, seqQ_e, seqQ_r, blockQ_n, blockQ_e, blockQ_r, TK_at, OK_at, SK_at, aops_nil, aops_cons, asch_done, asch_one, asch_two, asch_top, astep, aop_eq, isLoud, aloud, aloud1, isWrite, qv, evS, strip, gof, eget, hget, putO, eput, herase, oks, opnds, gS, afin, afin0, binD, arith, D.cells, takeD, fillD, keep, trim, envOf, Fin, aresl, aresv, resD, argOk, pickV, isP, deq, deqs, boundD, slD, lenD, isT, isSl, ptrIds, chunks, mn_min, mx_max, D.cells, splice_one, splice_more, Rbr_at, Rfr_at, frR, frV, frC, flatC, brwR, brwV, brwC, omap, leR, leV, leC, leL, leVL, hlt, ← ho, h1, h3]
    cases hq : q o with
    | true =>
      have hz := idxZ_at q l i hlt (fun j hj => hb j (by omega) hj) (by rw [← ho]; exact hq)
      repeat' (first
        | simp [AK_at, acode_seq, acode_region, acode_draw, acode_cond, ↓CB_t, ↓CB_f, CB_u, acode_block, acode_loop, acode_exit, acode_scope, acode_ret, acode_skip, seqQ_n, seqQ_e, seqQ_r, blockQ_n, blockQ_e, blockQ_r, TK_at, OK_at, SK_at, aops_nil, aops_cons, asch_done, asch_one, asch_two, asch_top, astep, aop_eq, isLoud, aloud, aloud1, isWrite, qv, evS, strip, gof, eget, hget, putO, eput, herase, oks, opnds, gS, afin, afin0, binD, arith, D.cells, takeD, fillD, keep, trim, envOf, Fin, aresl, aresv, resD, argOk, pickV, isP, deq, deqs, boundD, slD, lenD, isT, isSl, ptrIds, chunks, mn_min, mx_max, D.cells, splice_one, splice_more, Rbr_at, Rfr_at, frR, frV, frC, flatC, brwR, brwV, brwC, omap, leR, leV, leC, leL, leVL, hq, hz, h4, leL_refl]
        | (refine WCall.pfv (hFo) ?_ rfl ?_ ?_ ?_; (focus (simp [oks, opnds, gS, gof, eget]; done)); (focus (simp [omap, brwV, brwC, evS, eget, strip, hget, leVL, leV, leC, leL, hq, hz, h4, leL_refl]; done)); (focus (simp [noV, noC, flatR, flatV, flatC, evS, eget, strip, hq, hz, h4, leL_refl]; done)))
        | (refine ⟨WCall.pfv (hFo) ?_ rfl ?_ ?_ ?_, ?_⟩; (focus (simp [oks, opnds, gS, gof, eget]; done)); (focus (simp [omap, brwV, brwC, evS, eget, strip, hget, leVL, leV, leC, leL, hq, hz, h4, leL_refl]; done)); (focus (simp [noV, noC, flatR, flatV, flatC, evS, eget, strip, hq, hz, h4, leL_refl]; done)))
        | (with_reducible refine And.intro (And.intro ?_ ?_) ?_)
        | fail)
    | false =>
      repeat' (first
        | simp [AK_at, acode_seq, acode_region, acode_draw, acode_cond, ↓CB_t, ↓CB_f, CB_u, acode_block, acode_loop, acode_exit, acode_scope, acode_ret, acode_skip, seqQ_n, seqQ_e, seqQ_r, blockQ_n, blockQ_e, blockQ_r, TK_at, OK_at, SK_at, aops_nil, aops_cons, asch_done, asch_one, asch_two, asch_top, astep, aop_eq, isLoud, aloud, aloud1, isWrite, qv, evS, strip, gof, eget, hget, putO, eput, herase, oks, opnds, gS, afin, afin0, binD, arith, D.cells, takeD, fillD, keep, trim, envOf, Fin, aresl, aresv, resD, argOk, pickV, isP, deq, deqs, boundD, slD, lenD, isT, isSl, ptrIds, chunks, mn_min, mx_max, D.cells, splice_one, splice_more, Rbr_at, Rfr_at, frR, frV, frC, flatC, brwR, brwV, brwC, omap, leR, leV, leC, leL, leVL, hq, ii, h4, leL_refl]
        | (refine WCall.pfv (hFo) ?_ rfl ?_ ?_ ?_; (focus (simp [oks, opnds, gS, gof, eget]; done)); (focus (simp [omap, brwV, brwC, evS, eget, strip, hget, leVL, leV, leC, leL, hq, ii, h4, leL_refl]; done)); (focus (simp [noV, noC, flatR, flatV, flatC, evS, eget, strip, hq, ii, h4, leL_refl]; done)))
        | (refine ⟨WCall.pfv (hFo) ?_ rfl ?_ ?_ ?_, ?_⟩; (focus (simp [oks, opnds, gS, gof, eget]; done)); (focus (simp [omap, brwV, brwC, evS, eget, strip, hget, leVL, leV, leC, leL, hq, ii, h4, leL_refl]; done)); (focus (simp [noV, noC, flatR, flatV, flatC, evS, eget, strip, hq, ii, h4, leL_refl]; done)))
        | (with_reducible refine And.intro (And.intro ?_ ?_) ?_)
        | fail)
      exact ⟨_, i + 1, (Gh.ren [] (by simp [hB0]) (by simp [hB0] <;> decide) (by simp [eget, rnS, rnR, rnV, rnC, LtS, LtR, LtV, LtC, lget]) (by simp [hget, rnO, rnC, LtO, LtC, lget]) (.inr rfl)), by omega, rfl, by omega, fun j hj h => by
        by_cases hji : j = i
        · subst hji; rw [← ho]; exact hq
        · exact hb j hj (by omega)⟩
  · have hz := idxZ_none q l fun x hx => by
      obtain ⟨j, hj⟩ := List.getElem?_of_mem hx
      obtain ⟨hj2, rfl⟩ := List.getElem?_eq_some_iff.1 hj
      exact hb j hj2 (by omega)
    have hie : i = l.length := by omega
    subst hie
    simp [AK_at, acode_seq, acode_region, acode_draw, acode_cond, ↓CB_t, ↓CB_f, CB_u, acode_block, acode_loop, acode_exit, acode_scope, acode_ret, acode_skip, seqQ_n, seqQ_e, seqQ_r, blockQ_n, blockQ_e, blockQ_r, TK_at, OK_at, SK_at, aops_nil, aops_cons, asch_done, asch_one, asch_two, asch_top, astep, aop_eq, isLoud, aloud, aloud1, isWrite, qv, evS, strip, gof, eget, hget, putO, eput, herase, oks, opnds, gS, afin, afin0, binD, arith, D.cells, takeD, fillD, keep, trim, envOf, Fin, aresl, aresv, resD, argOk, pickV, isP, deq, deqs, boundD, slD, lenD, isT, isSl, ptrIds, chunks, mn_min, mx_max, D.cells, splice_one, splice_more, Rbr_at, Rfr_at, frR, frV, frC, flatC, brwR, brwV, brwC, omap, leR, leV, leC, leL, leVL, hz]
theorem ticln_code : cfun Try.prog [] 104 = some ⟨(.seq (.region 0 [⟨(some 2), (.mov (.k .nil0)), none⟩]) (.seq (.seq (.region 1 [⟨(some 3), (.mov (.t 0)), none⟩, ⟨(some 4), (.isnil false (.t 3)), none⟩]) (.cond 4 (.seq (.region 2 [⟨(some 2), (.mov (.k .nil0)), none⟩]) .ret) .skip)) (.seq (.region 3 [⟨(some 5), (.bslice 2 0 [(.int .i64 0), (.int .i64 0)] []), none⟩, ⟨(some 6), (.mov (.t 0)), none⟩, ⟨(some 7), (.app 2 16 [(.int .i64 0), (.int .i64 0)] (.t 5) (.t 6)), none⟩, ⟨(some 2), (.mov (.t 7)), none⟩]) .ret))), [(.t 2)], 8⟩ := by kernel_rfl
theorem ticln_hf {α : Type} (E : α → List D) (l : List α) (hl : l.length < 1000000) (hE : Els 2 E l) : HF Try.prog 104 [.rows 2 (l.map E)] [] 0 (fun d H' nx' => (d = .nil0 ∧ l = [] ∧ H' = [] ∧ nx' = 0) ∨ (d = .own 1 ∧ H' = [(1, .row 2 (l.map E))] ∧ nx' = 2)) := by
  have h2 : l.length * 16 ≤ 140737488355328 := by omega
  have h3 := hE.rows
  refine HF.of follows_ok ticln_code (by simp) (by simp [argOk]) (by simp [LtV, LtC]) fun B hBN hB0 => acode_sound [0, 2, 4] [] _ _ _ ?_
  simp [AK_at, acode_seq, acode_region, acode_draw, acode_cond, ↓CB_t, ↓CB_f, CB_u, acode_block, acode_loop, acode_exit, acode_scope, acode_ret, acode_skip, seqQ_n, seqQ_e, seqQ_r, blockQ_n, blockQ_e, blockQ_r, TK_at, OK_at, SK_at, aops_nil, aops_cons, asch_done, asch_one, asch_two, asch_top, astep, aop_eq, isLoud, aloud, aloud1, isWrite, qv, evS, strip, gof, eget, hget, putO, eput, herase, oks, opnds, gS, afin, afin0, binD, arith, D.cells, takeD, fillD, keep, trim, envOf, Fin, aresl, aresv, resD, argOk, pickV, isP, deq, deqs, boundD, slD, lenD, isT, isSl, ptrIds, chunks, mn_min, mx_max, D.cells, splice_one, splice_more, Rbr_at, Rfr_at, frR, frV, frC, flatC, brwR, brwV, brwC, omap, leR, leV, leC, leL, leVL, h2]
  exact fun a ha => hE.len ha
theorem ticln_pfn {α : Type} (E : α → List D) (l : List α) (hl : l.length < 1000000) (hE : Els 2 E l) (hfl : ∀ x ∈ l, ∀ d ∈ E x, flatC d = true) : PFn Try.prog 104 [.rows 2 (l.map E)] (.rows 2 (l.map E)) := by
  have h2 : l.length * 16 ≤ 140737488355328 := by omega
  refine PFn.of follows_ok ticln_code (by simp) (by simp [argOk]) (by simp [noV, noC]) fun B hBN hB0 => acode_sound [0, 2, 4] [] _ _ _ ?_
  simp [AK_at, acode_seq, acode_region, acode_draw, acode_cond, ↓CB_t, ↓CB_f, CB_u, acode_block, acode_loop, acode_exit, acode_scope, acode_ret, acode_skip, seqQ_n, seqQ_e, seqQ_r, blockQ_n, blockQ_e, blockQ_r, TK_at, OK_at, SK_at, aops_nil, aops_cons, asch_done, asch_one, asch_two, asch_top, astep, aop_eq, isLoud, aloud, aloud1, isWrite, qv, evS, strip, gof, eget, hget, putO, eput, herase, oks, opnds, gS, afin, afin0, binD, arith, D.cells, takeD, fillD, keep, trim, envOf, Fin, aresl, aresv, resD, argOk, pickV, isP, deq, deqs, boundD, slD, lenD, isT, isSl, ptrIds, chunks, mn_min, mx_max, D.cells, splice_one, splice_more, Rbr_at, Rfr_at, frR, frV, frC, flatC, brwR, brwV, brwC, omap, leR, leV, leC, leL, leVL, h2]
  exact ⟨fun a ha => hE.len ha, fun a ha d hd => hfl a ha d hd⟩
theorem spixf_code : cfun Try.prog [] 115 = some ⟨(.seq (.region 0 [⟨(some 4), (.mov (.k (.int .i64 0))), none⟩]) (.seq (.seq (.region 1 [⟨(some 6), (.mov (.t 0)), none⟩, ⟨(some 7), (.len (.t 6)), none⟩, ⟨(some 8), (.mov (.k (.int .i64 0))), none⟩]) (.block 0 (.loop (.seq (.region 2 [⟨(some 9), (.bin .lss (.t 8) (.t 7)), none⟩]) (.seq (.cond 9 .skip (.exit 0)) (.seq (.block 1 (.seq (.region 3 [⟨(some 10), (.mov (.t 8)), none⟩, ⟨(some 5), (.mov (.t 10)), none⟩]) (.seq (.region 4 [⟨(some 11), (.mov (.t 1)), none⟩, ⟨(some 12), (.mov (.t 0)), none⟩, ⟨(some 13), (.mov (.t 5)), none⟩, ⟨(some 14), (.iads 2 (.t 12) (.t 13)), none⟩, ⟨(some 15), (.load true 2 (.t 14)), none⟩, ⟨(some 16), (.callv (.t 11) [(.t 15)]), none⟩]) (.cond 16 (.seq (.region 5 [⟨(some 17), (.mov (.t 5)), none⟩, ⟨(some 4), (.mov (.t 17)), none⟩]) .ret) .skip)))) (.region 6 [⟨(some 18), (.bin .add (.t 8) (.k (.int .i64 1))), none⟩, ⟨(some 8), (.mov (.t 18)), none⟩]))))))) (.seq (.region 7 [⟨(some 4), (.mov (.k (.int .i64 (-1)))), none⟩]) .ret))), [(.t 4)], 19⟩ := by kernel_rfl
theorem spixf0_pf {α : Type} (E : α → List D) (l : List α) (F : FuncId) (q : α → Bool) (hl : l.length ≤ 1000000) (hE : Els 2 E l) (hF : ∀ s ∈ l, PF Try.prog F [.agg (E s)] (.bool (q s))) : PF Try.prog 115 [.rows 2 (l.map E), .fn F []] (I (idxZ q l)) := by
  refine PF.of follows_ok spixf_code (by simp) (by simp [argOk]) (by simp [noV, noC]) fun B hBN hB0 => acode_sound [0, 1, 4, 5, 7, 8, 9, 16] [] _ _ _ ?_
  simp [AK_at, acode_seq, acode_region, acode_draw, acode_cond, ↓CB_t, ↓CB_f, CB_u, acode_block, acode_loop, acode_exit, acode_scope, acode_ret, acode_skip, seqQ_n, seqQ_e, seqQ_r, blockQ_n, blockQ_e, blockQ_r, TK_at, OK_at, SK_at, aops_nil, aops_cons, asch_done, asch_one, asch_two, asch_top, astep, aop_eq, isLoud, aloud, aloud1, isWrite, qv, evS, strip, gof, eget, hget, putO, eput, herase, oks, opnds, gS, afin, afin0, binD, arith, D.cells, takeD, fillD, keep, trim, envOf, Fin, aresl, aresv, resD, argOk, pickV, isP, deq, deqs, boundD, slD, lenD, isT, isSl, ptrIds, chunks, mn_min, mx_max, D.cells, splice_one, splice_more, Rbr_at, Rfr_at, frR, frV, frC, flatC, brwR, brwV, brwC, omap, leR, leV, leC, leL, leVL]
  refine W.loopS (fun i : Nat => ⟨[(8, I i), (7, I l.length), (4, I 0), (1, .fn F []), (0, D.rows 2 (l.map E))], [], 0⟩)
    (fun n i => n = l.length - i ∧ i ≤ l.length ∧ ∀ j (hj : j < l.length), j < i → q l[j] = false) ?_ ?_
  · exact ⟨_, 0, (Gh.ren [] (by simp [hB0]) (by simp [hB0] <;> decide) (by simp [eget, rnS, rnR, rnV, rnC, LtS, LtR, LtV, LtC, lget]) (by simp [hget, rnO, rnC, LtO, LtC, lget]) (.inr rfl)), rfl, by omega, fun j _ h => by omega⟩
  rintro n i ⟨hn, hi, hb⟩
  refine acode_sound [0, 1, 4, 5, 7, 8, 9, 16] [] _ _ _ ?_
  by_cases hlt : i < l.length
  · have hm : l[i] ∈ l := List.getElem_mem hlt
    have hE0 := hE _ hm
    have hFo := hF _ hm
    obtain ⟨o, ho⟩ : ∃ o, o = l[i] := ⟨_, rfl⟩
    rw [← ho] at hE0 hFo
    obtain ⟨h1, h2⟩ := hE0
    have h3 : (E o).take 2 = E o := List.take_of_length_le (by omega)
    have h4 := fun H n => brw_T H n (E o) h2
    have ii : InR ((i : Int) + 1) := inW (by omega) (by omega)
    simp [AK_at, acode_seq, acode_region, acode_draw, acode_cond, ↓CB_t, ↓CB_f, CB_u, acode_block, acode_loop, acode_exit, acode_scope, acode_ret, acode_skip, seqQ_n, seqQ_e, seqQ_r, blockQ_n, blockQ_e, blockQ_r, TK_at, OK_at, SK_at, aops_nil, aops_cons, asch_done, asch_one, asch_two, asch_top, astep, aop_eq, isLoud, aloud, aloud1, isWrite, qv, evS, strip, gof, eget, hget, putO, eput, herase, oks, opnds, gS, afin, afin0, binD, arith, D.cells, takeD, fillD, keep, trim, envOf, Fin, aresl, aresv, resD, argOk, pickV, isP, deq, deqs, boundD, slD, lenD, isT, isSl, ptrIds, chunks, mn_min, mx_max, D.cells, splice_one, splice_more, Rbr_at, Rfr_at, frR, frV, frC, flatC, brwR, brwV, brwC, omap, leR, leV, leC, leL, leVL, hlt, ← ho, h1, h3]
    cases hq : q o with
    | true =>
      have hz := idxZ_at q l i hlt (fun j hj => hb j (by omega) hj) (by rw [← ho]; exact hq)
      repeat' (first
        | simp [AK_at, acode_seq, acode_region, acode_draw, acode_cond, ↓CB_t, ↓CB_f, CB_u, acode_block, acode_loop, acode_exit, acode_scope, acode_ret, acode_skip, seqQ_n, seqQ_e, seqQ_r, blockQ_n, blockQ_e, blockQ_r, TK_at, OK_at, SK_at, aops_nil, aops_cons, asch_done, asch_one, asch_two, asch_top, astep, aop_eq, isLoud, aloud, aloud1, isWrite, qv, evS, strip, gof, eget, hget, putO, eput, herase, oks, opnds, gS, afin, afin0, binD, arith, D.cells, takeD, fillD, keep, trim, envOf, Fin, aresl, aresv, resD, argOk, pickV, isP, deq, deqs, boundD, slD, lenD, isT, isSl, ptrIds, chunks, mn_min, mx_max, D.cells, splice_one, splice_more, Rbr_at, Rfr_at, frR, frV, frC, flatC, brwR, brwV, brwC, omap, leR, leV, leC, leL, leVL, hq, hz, h4, leL_refl]
        | (refine WCall.pfv (hFo) ?_ rfl ?_ ?_ ?_; (focus (simp [oks, opnds, gS, gof, eget]; done)); (focus (simp [omap, brwV, brwC, evS, eget, strip, hget, leVL, leV, leC, leL, hq, hz, h4, leL_refl]; done)); (focus (simp [noV, noC, flatR, flatV, flatC, evS, eget, strip, hq, hz, h4, leL_refl]; done)))
        | (refine ⟨WCall.pfv (hFo) ?_ rfl ?_ ?_ ?_, ?_⟩; (focus (simp [oks, opnds, gS, gof, eget]; done)); (focus (simp [omap, brwV, brwC, evS, eget, strip, hget, leVL, leV, leC, leL, hq, hz, h4, leL_refl]; done)); (focus (simp [noV, noC, flatR, flatV, flatC, evS, eget, strip, hq, hz, h4, leL_refl]; done)))
        | (with_reducible refine And.intro (And.intro ?_ ?_) ?_)
        | fail)
    | false =>
      repeat' (first
        | simp [AK_at, acode_seq, acode_region, acode_draw, acode_cond, ↓CB_t, ↓CB_f, CB_u, acode_block, acode_loop, acode_exit, acode_scope, acode_ret, acode_skip, seqQ_n, seqQ_e, seqQ_r, blockQ_n, blockQ_e, blockQ_r, TK_at, OK_at, SK_at, aops_nil, aops_cons, asch_done, asch_one, asch_two, asch_top, astep, aop_eq, isLoud, aloud, aloud1, isWrite, qv, evS, strip, gof, eget, hget, putO, eput, herase, oks, opnds, gS, afin, afin0, binD, arith, D.cells, takeD, fillD, keep, trim, envOf, Fin, aresl, aresv, resD, argOk, pickV, isP, deq, deqs, boundD, slD, lenD, isT, isSl, ptrIds, chunks, mn_min, mx_max, D.cells, splice_one, splice_more, Rbr_at, Rfr_at, frR, frV, frC, flatC, brwR, brwV, brwC, omap, leR, leV, leC, leL, leVL, hq, ii, h4, leL_refl]
        | (refine WCall.pfv (hFo) ?_ rfl ?_ ?_ ?_; (focus (simp [oks, opnds, gS, gof, eget]; done)); (focus (simp [omap, brwV, brwC, evS, eget, strip, hget, leVL, leV, leC, leL, hq, ii, h4, leL_refl]; done)); (focus (simp [noV, noC, flatR, flatV, flatC, evS, eget, strip, hq, ii, h4, leL_refl]; done)))
        | (refine ⟨WCall.pfv (hFo) ?_ rfl ?_ ?_ ?_, ?_⟩; (focus (simp [oks, opnds, gS, gof, eget]; done)); (focus (simp [omap, brwV, brwC, evS, eget, strip, hget, leVL, leV, leC, leL, hq, ii, h4, leL_refl]; done)); (focus (simp [noV, noC, flatR, flatV, flatC, evS, eget, strip, hq, ii, h4, leL_refl]; done)))
        | (with_reducible refine And.intro (And.intro ?_ ?_) ?_)
        | fail)
      exact ⟨_, i + 1, (Gh.ren [] (by simp [hB0]) (by simp [hB0] <;> decide) (by simp [eget, rnS, rnR, rnV, rnC, LtS, LtR, LtV, LtC, lget]) (by simp [hget, rnO, rnC, LtO, LtC, lget]) (.inr rfl)), by omega, rfl, by omega, fun j hj h => by
        by_cases hji : j = i
        · subst hji; rw [← ho]; exact hq
        · exact hb j hj (by omega)⟩
  · have hz := idxZ_none q l fun x hx => by
      obtain ⟨j, hj⟩ := List.getElem?_of_mem hx
      obtain ⟨hj2, rfl⟩ := List.getElem?_eq_some_iff.1 hj
      exact hb j hj2 (by omega)
    have hie : i = l.length := by omega
    subst hie
    simp [AK_at, acode_seq, acode_region, acode_draw, acode_cond, ↓CB_t, ↓CB_f, CB_u, acode_block, acode_loop, acode_exit, acode_scope, acode_ret, acode_skip, seqQ_n, seqQ_e, seqQ_r, blockQ_n, blockQ_e, blockQ_r, TK_at, OK_at, SK_at, aops_nil, aops_cons, asch_done, asch_one, asch_two, asch_top, astep, aop_eq, isLoud, aloud, aloud1, isWrite, qv, evS, strip, gof, eget, hget, putO, eput, herase, oks, opnds, gS, afin, afin0, binD, arith, D.cells, takeD, fillD, keep, trim, envOf, Fin, aresl, aresv, resD, argOk, pickV, isP, deq, deqs, boundD, slD, lenD, isT, isSl, ptrIds, chunks, mn_min, mx_max, D.cells, splice_one, splice_more, Rbr_at, Rfr_at, frR, frV, frC, flatC, brwR, brwV, brwC, omap, leR, leV, leC, leL, leVL, hz]
theorem spixf1_pf {α : Type} (E : α → List D) (l : List α) (F : FuncId) (ds : List D) (q : α → Bool) (hl : l.length ≤ 1000000) (hE : Els 2 E l) (hF : ∀ s ∈ l, PF Try.prog F [.agg (E s), .pc ds] (.bool (q s))) : PF Try.prog 115 [.rows 2 (l.map E), .fn F [.pc ds]] (I (idxZ q l)) := by
  refine PF.of follows_ok spixf_code (by simp) (by simp [argOk]) (by simp [noV, noC]) fun B hBN hB0 => acode_sound [0, 1, 4, 5, 7, 8, 9, 16] [] _ _ _ ?_
  simp [AK_at, acode_seq, acode_region, acode_draw, acode_cond, ↓CB_t, ↓CB_f, CB_u, acode_block, acode_loop, acode_exit, acode_scope, acode_ret, acode_skip, seqQ_n, seqQ_e, seqQ_r, blockQ_n, blockQ_e, blockQ_r, TK_at, OK_at, SK_at, aops_nil, aops_cons, asch_done, asch_one, asch_two, asch_top, astep, aop_eq, isLoud, aloud, aloud1, isWrite, qv, evS, strip, gof, eget, hget, putO, eput, herase, oks, opnds, gS, afin, afin0, binD, arith, D.cells, takeD, fillD, keep, trim, envOf, Fin, aresl, aresv, resD, argOk, pickV, isP, deq, deqs, boundD, slD, lenD, isT, isSl, ptrIds, chunks, mn_min, mx_max, D.cells, splice_one, splice_more, Rbr_at, Rfr_at, frR, frV, frC, flatC, brwR, brwV, brwC, omap, leR, leV, leC, leL, leVL]
  refine W.loopS (fun i : Nat => ⟨[(8, I i), (7, I l.length), (4, I 0), (1, .fn F [.pc ds]), (0, D.rows 2 (l.map E))], [], 0⟩)
    (fun n i => n = l.length - i ∧ i ≤ l.length ∧ ∀ j (hj : j < l.length), j < i → q l[j] = false) ?_ ?_
  · exact ⟨_, 0, (Gh.ren [] (by simp [hB0]) (by simp [hB0] <;> decide) (by simp [eget, rnS, rnR, rnV, rnC, LtS, LtR, LtV, LtC, lget]) (by simp [hget, rnO, rnC, LtO, LtC, lget]) (.inr rfl)), rfl, by omega, fun j _ h => by omega⟩
  rintro n i ⟨hn, hi, hb⟩
  refine acode_sound [0, 1, 4, 5, 7, 8, 9, 16] [] _ _ _ ?_
  by_cases hlt : i < l.length
  · have hm : l[i] ∈ l := List.getElem_mem hlt
    have hE0 := hE _ hm
    have hFo := hF _ hm
    obtain ⟨o, ho⟩ : ∃ o, o = l[i] := ⟨_, rfl⟩
    rw [← ho] at hE0 hFo
    obtain ⟨h1, h2⟩ := hE0
    have h3 : (E o).take 2 = E o := List.take_of_length_le (by omega)
    have h4 := fun H n => brw_T H n (E o) h2
    have ii : InR ((i : Int) + 1) := inW (by omega) (by omega)
    simp [AK_at, acode_seq, acode_region, acode_draw, acode_cond, ↓CB_t, ↓CB_f, CB_u, acode_block, acode_loop, acode_exit, acode_scope, acode_ret, acode_skip, seqQ_n, seqQ_e, seqQ_r, blockQ_n, blockQ_e, blockQ_r, TK_at, OK_at, SK_at, aops_nil, aops_cons, asch_done, asch_one, asch_two, asch_top, astep, aop_eq, isLoud, aloud, aloud1, isWrite, qv, evS, strip, gof, eget, hget, putO, eput, herase, oks, opnds, gS, afin, afin0, binD, arith, D.cells, takeD, fillD, keep, trim, envOf, Fin, aresl, aresv, resD, argOk, pickV, isP, deq, deqs, boundD, slD, lenD, isT, isSl, ptrIds, chunks, mn_min, mx_max, D.cells, splice_one, splice_more, Rbr_at, Rfr_at, frR, frV, frC, flatC, brwR, brwV, brwC, omap, leR, leV, leC, leL, leVL, hlt, ← ho, h1, h3]
    cases hq : q o with
    | true =>
      have hz := idxZ_at q l i hlt (fun j hj => hb j (by omega) hj) (by rw [← ho]; exact hq)
      repeat' (first
        | simp [AK_at, acode_seq, acode_region, acode_draw, acode_cond, ↓CB_t, ↓CB_f, CB_u, acode_block, acode_loop, acode_exit, acode_scope, acode_ret, acode_skip, seqQ_n, seqQ_e, seqQ_r, blockQ_n, blockQ_e, blockQ_r, TK_at, OK_at, SK_at, aops_nil, aops_cons, asch_done, asch_one, asch_two, asch_top, astep, aop_eq, isLoud, aloud, aloud1, isWrite, qv, evS, strip, gof, eget, hget, putO, eput, herase, oks, opnds, gS, afin, afin0, binD, arith, D.cells, takeD, fillD, keep, trim, envOf, Fin, aresl, aresv, resD, argOk, pickV, isP, deq, deqs, boundD, slD, lenD, isT, isSl, ptrIds, chunks, mn_min, mx_max, D.cells, splice_one, splice_more, Rbr_at, Rfr_at, frR, frV, frC, flatC, brwR, brwV, brwC, omap, leR, leV, leC, leL, leVL, hq, hz, h4, leL_refl]
        | (refine WCall.pfv (hFo) ?_ rfl ?_ ?_ ?_; (focus (simp [oks, opnds, gS, gof, eget]; done)); (focus (simp [omap, brwV, brwC, evS, eget, strip, hget, leVL, leV, leC, leL, hq, hz, h4, leL_refl]; done)); (focus (simp [noV, noC, flatR, flatV, flatC, evS, eget, strip, hq, hz, h4, leL_refl]; done)))
        | (refine ⟨WCall.pfv (hFo) ?_ rfl ?_ ?_ ?_, ?_⟩; (focus (simp [oks, opnds, gS, gof, eget]; done)); (focus (simp [omap, brwV, brwC, evS, eget, strip, hget, leVL, leV, leC, leL, hq, hz, h4, leL_refl]; done)); (focus (simp [noV, noC, flatR, flatV, flatC, evS, eget, strip, hq, hz, h4, leL_refl]; done)))
        | (with_reducible refine And.intro (And.intro ?_ ?_) ?_)
        | fail)
    | false =>
      repeat' (first
        | simp [AK_at, acode_seq, acode_region, acode_draw, acode_cond, ↓CB_t, ↓CB_f, CB_u, acode_block, acode_loop, acode_exit, acode_scope, acode_ret, acode_skip, seqQ_n, seqQ_e, seqQ_r, blockQ_n, blockQ_e, blockQ_r, TK_at, OK_at, SK_at, aops_nil, aops_cons, asch_done, asch_one, asch_two, asch_top, astep, aop_eq, isLoud, aloud, aloud1, isWrite, qv, evS, strip, gof, eget, hget, putO, eput, herase, oks, opnds, gS, afin, afin0, binD, arith, D.cells, takeD, fillD, keep, trim, envOf, Fin, aresl, aresv, resD, argOk, pickV, isP, deq, deqs, boundD, slD, lenD, isT, isSl, ptrIds, chunks, mn_min, mx_max, D.cells, splice_one, splice_more, Rbr_at, Rfr_at, frR, frV, frC, flatC, brwR, brwV, brwC, omap, leR, leV, leC, leL, leVL, hq, ii, h4, leL_refl]
        | (refine WCall.pfv (hFo) ?_ rfl ?_ ?_ ?_; (focus (simp [oks, opnds, gS, gof, eget]; done)); (focus (simp [omap, brwV, brwC, evS, eget, strip, hget, leVL, leV, leC, leL, hq, ii, h4, leL_refl]; done)); (focus (simp [noV, noC, flatR, flatV, flatC, evS, eget, strip, hq, ii, h4, leL_refl]; done)))
        | (refine ⟨WCall.pfv (hFo) ?_ rfl ?_ ?_ ?_, ?_⟩; (focus (simp [oks, opnds, gS, gof, eget]; done)); (focus (simp [omap, brwV, brwC, evS, eget, strip, hget, leVL, leV, leC, leL, hq, ii, h4, leL_refl]; done)); (focus (simp [noV, noC, flatR, flatV, flatC, evS, eget, strip, hq, ii, h4, leL_refl]; done)))
        | (with_reducible refine And.intro (And.intro ?_ ?_) ?_)
        | fail)
      exact ⟨_, i + 1, (Gh.ren [] (by simp [hB0]) (by simp [hB0] <;> decide) (by simp [eget, rnS, rnR, rnV, rnC, LtS, LtR, LtV, LtC, lget]) (by simp [hget, rnO, rnC, LtO, LtC, lget]) (.inr rfl)), by omega, rfl, by omega, fun j hj h => by
        by_cases hji : j = i
        · subst hji; rw [← ho]; exact hq
        · exact hb j hj (by omega)⟩
  · have hz := idxZ_none q l fun x hx => by
      obtain ⟨j, hj⟩ := List.getElem?_of_mem hx
      obtain ⟨hj2, rfl⟩ := List.getElem?_eq_some_iff.1 hj
      exact hb j hj2 (by omega)
    have hie : i = l.length := by omega
    subst hie
    simp [AK_at, acode_seq, acode_region, acode_draw, acode_cond, ↓CB_t, ↓CB_f, CB_u, acode_block, acode_loop, acode_exit, acode_scope, acode_ret, acode_skip, seqQ_n, seqQ_e, seqQ_r, blockQ_n, blockQ_e, blockQ_r, TK_at, OK_at, SK_at, aops_nil, aops_cons, asch_done, asch_one, asch_two, asch_top, astep, aop_eq, isLoud, aloud, aloud1, isWrite, qv, evS, strip, gof, eget, hget, putO, eput, herase, oks, opnds, gS, afin, afin0, binD, arith, D.cells, takeD, fillD, keep, trim, envOf, Fin, aresl, aresv, resD, argOk, pickV, isP, deq, deqs, boundD, slD, lenD, isT, isSl, ptrIds, chunks, mn_min, mx_max, D.cells, splice_one, splice_more, Rbr_at, Rfr_at, frR, frV, frC, flatC, brwR, brwV, brwC, omap, leR, leV, leC, leL, leVL, hz]
theorem spcln_code : cfun Try.prog [] 81 = some ⟨(.seq (.region 0 [⟨(some 2), (.mov (.k .nil0)), none⟩]) (.seq (.seq (.region 1 [⟨(some 3), (.mov (.t 0)), none⟩, ⟨(some 4), (.isnil false (.t 3)), none⟩]) (.cond 4 (.seq (.region 2 [⟨(some 2), (.mov (.k .nil0)), none⟩]) .ret) .skip)) (.seq (.region 3 [⟨(some 5), (.bslice 2 0 [(.int .i64 0), (.int .i64 0)] []), none⟩, ⟨(some 6), (.mov (.t 0)), none⟩, ⟨(some 7), (.app 2 16 [(.int .i64 0), (.int .i64 0)] (.t 5) (.t 6)), none⟩, ⟨(some 2), (.mov (.t 7)), none⟩]) .ret))), [(.t 2)], 8⟩ := by kernel_rfl
theorem spcln_hf {α : Type} (E : α → List D) (l : List α) (hl : l.length < 1000000) (hE : Els 2 E l) : HF Try.prog 81 [.rows 2 (l.map E)] [] 0 (fun d H' nx' => (d = .nil0 ∧ l = [] ∧ H' = [] ∧ nx' = 0) ∨ (d = .own 1 ∧ H' = [(1, .row 2 (l.map E))] ∧ nx' = 2)) := by
  have h2 : l.length * 16 ≤ 140737488355328 := by omega
  have h3 := hE.rows
  refine HF.of follows_ok spcln_code (by simp) (by simp [argOk]) (by simp [LtV, LtC]) fun B hBN hB0 => acode_sound [0, 2, 4] [] _ _ _ ?_
  simp [AK_at, acode_seq, acode_region, acode_draw, acode_cond, ↓CB_t, ↓CB_f, CB_u, acode_block, acode_loop, acode_exit, acode_scope, acode_ret, acode_skip, seqQ_n, seqQ_e, seqQ_r, blockQ_n, blockQ_e, blockQ_r, TK_at, OK_at, SK_at, aops_nil, aops_cons, asch_done, asch_one, asch_two, asch_top, astep, aop_eq, isLoud, aloud, aloud1, isWrite, qv, evS, strip, gof, eget, hget, putO, eput, herase, oks, opnds, gS, afin, afin0, binD, arith, D.cells, takeD, fillD, keep, trim, envOf, Fin, aresl, aresv, resD, argOk, pickV, isP, deq, deqs, boundD, slD, lenD, isT, isSl, ptrIds, chunks, mn_min, mx_max, D.cells, splice_one, splice_more, Rbr_at, Rfr_at, frR, frV, frC, flatC, brwR, brwV, brwC, omap, leR, leV, leC, leL, leVL, h2]
  exact fun a ha => hE.len ha
theorem spcln_pfn {α : Type} (E : α → List D) (l : List α) (hl : l.length < 1000000) (hE : Els 2 E l) (hfl : ∀ x ∈ l, ∀ d ∈ E x, flatC d = true) : PFn Try.prog 81 [.rows 2 (l.map E)] (.rows 2 (l.map E)) := by
  have h2 : l.length * 16 ≤ 140737488355328 := by omega
  refine PFn.of follows_ok spcln_code (by simp) (by simp [argOk]) (by simp [noV, noC]) fun B hBN hB0 => acode_sound [0, 2, 4] [] _ _ _ ?_
  simp [AK_at, acode_seq, acode_region, acode_draw, acode_cond, ↓CB_t, ↓CB_f, CB_u, acode_block, acode_loop, acode_exit, acode_scope, acode_ret, acode_skip, seqQ_n, seqQ_e, seqQ_r, blockQ_n, blockQ_e, blockQ_r, TK_at, OK_at, SK_at, aops_nil, aops_cons, asch_done, asch_one, asch_two, asch_top, astep, aop_eq, isLoud, aloud, aloud1, isWrite, qv, evS, strip, gof, eget, hget, putO, eput, herase, oks, opnds, gS, afin, afin0, binD, arith, D.cells, takeD, fillD, keep, trim, envOf, Fin, aresl, aresv, resD, argOk, pickV, isP, deq, deqs, boundD, slD, lenD, isT, isSl, ptrIds, chunks, mn_min, mx_max, D.cells, splice_one, splice_more, Rbr_at, Rfr_at, frR, frV, frC, flatC, brwR, brwV, brwC, omap, leR, leV, leC, leL, leVL, h2]
  exact ⟨fun a ha => hE.len ha, fun a ha d hd => hfl a ha d hd⟩
theorem tibsf_code : cfun Try.prog [] 107 = some ⟨(.seq (.region 0 [⟨(some 4), (.box (.t 1)), none⟩, ⟨(some 6), (.mov (.k (.int .i64 0))), none⟩, ⟨(some 7), (.mov (.k (.bool false))), none⟩]) (.seq (.region 1 [⟨(some 12), (.mov (.t 0)), none⟩, ⟨(some 13), (.len (.t 12)), none⟩, ⟨(some 8), (.mov (.t 13)), none⟩]) (.seq (.region 2 [⟨(some 14), (.mov (.t 8)), none⟩, ⟨(some 9), (.mov (.k (.int .i64 0))), none⟩, ⟨(some 10), (.mov (.t 14)), none⟩]) (.seq (.block 0 (.loop (.seq (.seq (.region 3 [⟨(some 15), (.mov (.t 9)), none⟩, ⟨(some 16), (.mov (.t 10)), none⟩, ⟨(some 17), (.bin .lss (.t 15) (.t 16)), none⟩]) (.cond 17 .skip (.exit 0))) (.block 1 (.seq (.region 4 [⟨(some 18), (.mov (.t 9)), none⟩, ⟨(some 19), (.mov (.t 10)), none⟩, ⟨(some 20), (.bin .add (.t 18) (.t 19)), none⟩, ⟨(some 21), (.conv .u64 (.t 20)), none⟩, ⟨(some 22), (.bin .shr (.t 21) (.k (.int .u64 1))), none⟩, ⟨(some 23), (.conv .i64 (.t 22)), none⟩, ⟨(some 11), (.mov (.t 23)), none⟩]) (.seq (.draw 5 (.one true ⟨(some 24), (.mov (.t 2)), none⟩ (.one true ⟨(some 25), (.mov (.t 0)), none⟩ (.one true ⟨(some 26), (.mov (.t 11)), none⟩ (.one true ⟨(some 27), (.iads 2 (.t 25) (.t 26)), none⟩ (.one true ⟨(some 28), (.load true 2 (.t 27)), none⟩ (.one true ⟨(some 29), (.load true 2 (.t 4)), none⟩ (.one false ⟨(some 30), (.callv (.t 24) [(.t 28), (.t 29)]), none⟩ (.one true ⟨(some 31), (.bin .lss (.t 30) (.k (.int .i64 0))), none⟩ .done))))))))) (.cond 31 (.region 6 [⟨(some 32), (.mov (.t 11)), none⟩, ⟨(some 33), (.bin .add (.t 32) (.k (.int .i64 1))), none⟩, ⟨(some 9), (.mov (.t 33)), none⟩]) (.region 7 [⟨(some 34), (.mov (.t 11)), none⟩, ⟨(some 10), (.mov (.t 34)), none⟩])))))))) (.seq (.draw 8 (.one true ⟨(some 35), (.mov (.t 9)), none⟩ (.one true ⟨(some 36), (.mov (.t 9)), none⟩ (.one true ⟨(some 37), (.mov (.t 8)), none⟩ (.one true ⟨(some 38), (.bin .lss (.t 36) (.t 37)), none⟩ (.one true ⟨(some 39), (.mov (.t 38)), none⟩ (.one true ⟨(some 40), (.mov (.t 2)), (some (39, true))⟩ (.one true ⟨(some 41), (.mov (.t 0)), (some (39, true))⟩ (.one true ⟨(some 42), (.mov (.t 9)), (some (39, true))⟩ (.one true ⟨(some 43), (.iads 2 (.t 41) (.t 42)), (some (39, true))⟩ (.one true ⟨(some 44), (.load true 2 (.t 43)), (some (39, true))⟩ (.one true ⟨(some 45), (.load true 2 (.t 4)), (some (39, true))⟩ (.one false ⟨(some 46), (.callv (.t 40) [(.t 44), (.t 45)]), (some (39, true))⟩ (.one true ⟨(some 47), (.bin .eql (.t 46) (.k (.int .i64 0))), (some (39, true))⟩ (.one true ⟨(some 48), (.pick (.t 39) (.t 47) (.k (.bool false))), none⟩ (.one true ⟨(some 6), (.mov (.t 35)), none⟩ (.one true ⟨(some 7), (.mov (.t 48)), none⟩ .done))))))))))))))))) .ret))))), [(.t 6), (.t 7)], 49⟩ := by kernel_rfl
theorem tibsf_pf {α : Type} (E : α → List D) (l : List α) (F : FuncId) (a b : Int) (cf : α → Int) (hl : l.length ≤ 1000000) (hE : Els 2 E l) (hF : ∀ s ∈ l, PF Try.prog F [.agg (E s), .agg [I a, I b]] (I (cf s)))
    (hmono : ∀ i j (hi : i < l.length) (hj : j < l.length), i ≤ j → cf l[j] < 0 → cf l[i] < 0) :
    PF Try.prog 107 [.rows 2 (l.map E), .agg [I a, I b], .fn F []] (.tup [I (lowB (fun x => decide (cf x < 0)) l), .bool (decide (∃ (h : lowB (fun x => decide (cf x < 0)) l < l.length), cf (l[lowB (fun x => decide (cf x < 0)) l]'h) = 0))]) := by
  have hp : (2 : Int) ^ min 1 IntKind.u64.bits = 2 := by decide
  refine PF.of follows_ok tibsf_code (by simp) (by simp [argOk]) (by simp [noV, noC]) fun B hBN hB0 => acode_sound [0, 1, 2, 4, 6, 7, 8, 9, 10, 11, 17, 31] [] _ _ _ ?_
  simp [AK_at, acode_seq, acode_region, acode_draw, acode_cond, ↓CB_t, ↓CB_f, CB_u, acode_block, acode_loop, acode_exit, acode_scope, acode_ret, acode_skip, seqQ_n, seqQ_e, seqQ_r, blockQ_n, blockQ_e, blockQ_r, TK_at, OK_at, SK_at, aops_nil, aops_cons, asch_done, asch_one, asch_two, asch_top, astep, aop_eq, isLoud, aloud, aloud1, isWrite, qv, evS, strip, gof, eget, hget, putO, eput, herase, oks, opnds, gS, afin, afin0, binD, arith, D.cells, takeD, fillD, keep, trim, envOf, Fin, aresl, aresv, resD, argOk, pickV, isP, deq, deqs, boundD, slD, lenD, isT, isSl, ptrIds, chunks, mn_min, mx_max, D.cells, splice_one, splice_more, Rbr_at, Rfr_at, frR, frV, frC, flatC, brwR, brwV, brwC, omap, leR, leV, leC, leL, leVL]
  refine W.loopS (fun y : Nat × Nat => ⟨[(10, I y.2), (9, I y.1), (8, I l.length), (7, .bool false), (6, I 0), (4, .ptr 0 0), (2, .fn F []), (0, D.rows 2 (l.map E))], [(0, .cells [I a, I b])], 1⟩)
    (fun n y => n = y.2 - y.1 ∧ y.1 ≤ y.2 ∧ y.2 ≤ l.length ∧ (∀ j (hj : j < l.length), j < y.1 → cf l[j] < 0) ∧ (∀ j (hj : j < l.length), y.2 ≤ j → 0 ≤ cf l[j])) ?_ ?_
  · exact ⟨_, (0, l.length), (Gh.ren [] (by simp [hB0]) (by simp [hB0] <;> decide) (by simp [eget, rnS, rnR, rnV, rnC, LtS, LtR, LtV, LtC, lget]) (by simp [hget, rnO, rnC, LtO, LtC, lget]) (.inr rfl)), rfl, by simp, by simp, fun j _ h => by simp at h, fun j hj h => by simp at h; omega⟩
  rintro n ⟨i, j⟩ ⟨hn, hij, hjl, hlo, hhi⟩
  simp only at hn hij hjl hlo hhi
  refine acode_sound [0, 1, 2, 4, 6, 7, 8, 9, 10, 11, 17, 31] [] _ _ _ ?_
  by_cases hlt : i < j
  · obtain ⟨h, hh⟩ : ∃ h, h = (i + j) / 2 := ⟨_, rfl⟩
    have hhl : h < l.length := by omega
    have hm : l[h] ∈ l := List.getElem_mem hhl
    have hE0 := hE _ hm
    have hFo := hF _ hm
    obtain ⟨o, ho⟩ : ∃ o, o = l[h] := ⟨_, rfl⟩
    rw [← ho] at hE0 hFo
    obtain ⟨h1, h2⟩ := hE0
    have h3 : (E o).take 2 = E o := List.take_of_length_le (by omega)
    have h4 := fun H n => brw_T H n (E o) h2
    have iij : InR ((i : Int) + j) := inW (by omega) (by omega)
    have hw1 : IntKind.u64.wrap ((i : Int) + j) = (i : Int) + j := by rw [IntKind.wrap_u64]; omega
    have hd : ((i : Int) + j) / 2 = (h : Nat) := by omega
    have ih : InR (h : Int) := inW (by omega) (by omega)
    have ii : InR ((h : Int) + 1) := inW (by omega) (by omega)
    have hol : cf l[h] = cf o := by rw [← ho]
    by_cases hc : cf o < 0
    · skip
      repeat' (first
        | simp [AK_at, acode_seq, acode_region, acode_draw, acode_cond, ↓CB_t, ↓CB_f, CB_u, acode_block, acode_loop, acode_exit, acode_scope, acode_ret, acode_skip, seqQ_n, seqQ_e, seqQ_r, blockQ_n, blockQ_e, blockQ_r, TK_at, OK_at, SK_at, aops_nil, aops_cons, asch_done, asch_one, asch_two, asch_top, astep, aop_eq, isLoud, aloud, aloud1, isWrite, qv, evS, strip, gof, eget, hget, putO, eput, herase, oks, opnds, gS, afin, afin0, binD, arith, D.cells, takeD, fillD, keep, trim, envOf, Fin, aresl, aresv, resD, argOk, pickV, isP, deq, deqs, boundD, slD, lenD, isT, isSl, ptrIds, chunks, mn_min, mx_max, D.cells, splice_one, splice_more, Rbr_at, Rfr_at, frR, frV, frC, flatC, brwR, brwV, brwC, omap, leR, leV, leC, leL, leVL, hlt, iij, hw1, hd, ih, ← ho, h1, h3, h4, hp, hhl, leL_refl, hc, ii]
        | (refine WCall.pfv (hFo) ?_ rfl ?_ ?_ ?_; (focus (simp [oks, opnds, gS, gof, eget]; done)); (focus (simp [omap, brwV, brwC, evS, eget, strip, hget, leVL, leV, leC, leL, hlt, iij, hw1, hd, ih, ← ho, h1, h3, h4, hp, hhl, leL_refl, hc, ii]; done)); (focus (simp [noV, noC, flatR, flatV, flatC, evS, eget, strip, hlt, iij, hw1, hd, ih, ← ho, h1, h3, h4, hp, hhl, leL_refl, hc, ii]; done)))
        | (refine ⟨WCall.pfv (hFo) ?_ rfl ?_ ?_ ?_, ?_⟩; (focus (simp [oks, opnds, gS, gof, eget]; done)); (focus (simp [omap, brwV, brwC, evS, eget, strip, hget, leVL, leV, leC, leL, hlt, iij, hw1, hd, ih, ← ho, h1, h3, h4, hp, hhl, leL_refl, hc, ii]; done)); (focus (simp [noV, noC, flatR, flatV, flatC, evS, eget, strip, hlt, iij, hw1, hd, ih, ← ho, h1, h3, h4, hp, hhl, leL_refl, hc, ii]; done)))
        | (with_reducible refine And.intro (And.intro ?_ ?_) ?_)
        | fail)
      exact ⟨_, (h + 1, j), (Gh.ren [] (by simp [hB0]) (by simp [hB0] <;> decide) (by simp [eget, rnS, rnR, rnV, rnC, LtS, LtR, LtV, LtC, lget]) (by simp [hget, rnO, rnC, LtO, LtC, lget]) (.inr rfl)), by simp only; omega, rfl, by simp only; omega, by simp only; omega, fun k hk hkh => by
        simp only at hkh
        exact hmono k h hk hhl (by omega) (by rw [hol]; exact hc), hhi⟩
    · skip
      repeat' (first
        | simp [AK_at, acode_seq, acode_region, acode_draw, acode_cond, ↓CB_t, ↓CB_f, CB_u, acode_block, acode_loop, acode_exit, acode_scope, acode_ret, acode_skip, seqQ_n, seqQ_e, seqQ_r, blockQ_n, blockQ_e, blockQ_r, TK_at, OK_at, SK_at, aops_nil, aops_cons, asch_done, asch_one, asch_two, asch_top, astep, aop_eq, isLoud, aloud, aloud1, isWrite, qv, evS, strip, gof, eget, hget, putO, eput, herase, oks, opnds, gS, afin, afin0, binD, arith, D.cells, takeD, fillD, keep, trim, envOf, Fin, aresl, aresv, resD, argOk, pickV, isP, deq, deqs, boundD, slD, lenD, isT, isSl, ptrIds, chunks, mn_min, mx_max, D.cells, splice_one, splice_more, Rbr_at, Rfr_at, frR, frV, frC, flatC, brwR, brwV, brwC, omap, leR, leV, leC, leL, leVL, hlt, iij, hw1, hd, ih, ← ho, h1, h3, h4, hp, hhl, leL_refl, hc, ii]
        | (refine WCall.pfv (hFo) ?_ rfl ?_ ?_ ?_; (focus (simp [oks, opnds, gS, gof, eget]; done)); (focus (simp [omap, brwV, brwC, evS, eget, strip, hget, leVL, leV, leC, leL, hlt, iij, hw1, hd, ih, ← ho, h1, h3, h4, hp, hhl, leL_refl, hc, ii]; done)); (focus (simp [noV, noC, flatR, flatV, flatC, evS, eget, strip, hlt, iij, hw1, hd, ih, ← ho, h1, h3, h4, hp, hhl, leL_refl, hc, ii]; done)))
        | (refine ⟨WCall.pfv (hFo) ?_ rfl ?_ ?_ ?_, ?_⟩; (focus (simp [oks, opnds, gS, gof, eget]; done)); (focus (simp [omap, brwV, brwC, evS, eget, strip, hget, leVL, leV, leC, leL, hlt, iij, hw1, hd, ih, ← ho, h1, h3, h4, hp, hhl, leL_refl, hc, ii]; done)); (focus (simp [noV, noC, flatR, flatV, flatC, evS, eget, strip, hlt, iij, hw1, hd, ih, ← ho, h1, h3, h4, hp, hhl, leL_refl, hc, ii]; done)))
        | (with_reducible refine And.intro (And.intro ?_ ?_) ?_)
        | fail)
      exact ⟨_, (i, h), (Gh.ren [] (by simp [hB0]) (by simp [hB0] <;> decide) (by simp [eget, rnS, rnR, rnV, rnC, LtS, LtR, LtV, LtC, lget]) (by simp [hget, rnO, rnC, LtO, LtC, lget]) (.inr rfl)), by simp only; omega, rfl, by simp only; omega, by simp only; omega, hlo, fun k hk hkh => by
        simp only at hkh
        exact Int.not_lt.1 fun hck => hc (by rw [← hol]; exact hmono h k hhl hk hkh hck)⟩
  · obtain rfl : i = j := by omega
    have hlb := lowB_at (fun x => decide (cf x < 0)) l i hjl (fun j hj hji => by simpa using hlo j hj hji) (fun hi => by simpa using hhi i hi (Nat.le_refl _))
    by_cases hil : i < l.length
    · have hm : l[i] ∈ l := List.getElem_mem hil
      have hE0 := hE _ hm
      have hFo := hF _ hm
      obtain ⟨o, ho⟩ : ∃ o, o = l[i] := ⟨_, rfl⟩
      have hol : cf l[i] = cf o := by rw [← ho]
      rw [← ho] at hE0 hFo
      obtain ⟨h1, h2⟩ := hE0
      have h3 : (E o).take 2 = E o := List.take_of_length_le (by omega)
      have h4 := fun H n => brw_T H n (E o) h2
      simp only [hlb]
      repeat' (first
        | simp [AK_at, acode_seq, acode_region, acode_draw, acode_cond, ↓CB_t, ↓CB_f, CB_u, acode_block, acode_loop, acode_exit, acode_scope, acode_ret, acode_skip, seqQ_n, seqQ_e, seqQ_r, blockQ_n, blockQ_e, blockQ_r, TK_at, OK_at, SK_at, aops_nil, aops_cons, asch_done, asch_one, asch_two, asch_top, astep, aop_eq, isLoud, aloud, aloud1, isWrite, qv, evS, strip, gof, eget, hget, putO, eput, herase, oks, opnds, gS, afin, afin0, binD, arith, D.cells, takeD, fillD, keep, trim, envOf, Fin, aresl, aresv, resD, argOk, pickV, isP, deq, deqs, boundD, slD, lenD, isT, isSl, ptrIds, chunks, mn_min, mx_max, D.cells, splice_one, splice_more, Rbr_at, Rfr_at, frR, frV, frC, flatC, brwR, brwV, brwC, omap, leR, leV, leC, leL, leVL, hil, ← ho, h1, h3, h4, leL_refl]
        | (refine WCall.pfv (hFo) ?_ rfl ?_ ?_ ?_; (focus (simp [oks, opnds, gS, gof, eget]; done)); (focus (simp [omap, brwV, brwC, evS, eget, strip, hget, leVL, leV, leC, leL, hil, ← ho, h1, h3, h4, leL_refl]; done)); (focus (simp [noV, noC, flatR, flatV, flatC, evS, eget, strip, hil, ← ho, h1, h3, h4, leL_refl]; done)))
        | (refine ⟨WCall.pfv (hFo) ?_ rfl ?_ ?_ ?_, ?_⟩; (focus (simp [oks, opnds, gS, gof, eget]; done)); (focus (simp [omap, brwV, brwC, evS, eget, strip, hget, leVL, leV, leC, leL, hil, ← ho, h1, h3, h4, leL_refl]; done)); (focus (simp [noV, noC, flatR, flatV, flatC, evS, eget, strip, hil, ← ho, h1, h3, h4, leL_refl]; done)))
        | (with_reducible refine And.intro (And.intro ?_ ?_) ?_)
        | fail)
    · simp only [hlb]
      simp [AK_at, acode_seq, acode_region, acode_draw, acode_cond, ↓CB_t, ↓CB_f, CB_u, acode_block, acode_loop, acode_exit, acode_scope, acode_ret, acode_skip, seqQ_n, seqQ_e, seqQ_r, blockQ_n, blockQ_e, blockQ_r, TK_at, OK_at, SK_at, aops_nil, aops_cons, asch_done, asch_one, asch_two, asch_top, astep, aop_eq, isLoud, aloud, aloud1, isWrite, qv, evS, strip, gof, eget, hget, putO, eput, herase, oks, opnds, gS, afin, afin0, binD, arith, D.cells, takeD, fillD, keep, trim, envOf, Fin, aresl, aresv, resD, argOk, pickV, isP, deq, deqs, boundD, slD, lenD, isT, isSl, ptrIds, chunks, mn_min, mx_max, D.cells, splice_one, splice_more, Rbr_at, Rfr_at, frR, frV, frC, flatC, brwR, brwV, brwC, omap, leR, leV, leC, leL, leVL, hil]
theorem spbsf_code : cfun Try.prog [] 117 = some ⟨(.seq (.region 0 [⟨(some 4), (.box (.t 1)), none⟩, ⟨(some 6), (.mov (.k (.int .i64 0))), none⟩, ⟨(some 7), (.mov (.k (.bool false))), none⟩]) (.seq (.region 1 [⟨(some 12), (.mov (.t 0)), none⟩, ⟨(some 13), (.len (.t 12)), none⟩, ⟨(some 8), (.mov (.t 13)), none⟩]) (.seq (.region 2 [⟨(some 14), (.mov (.t 8)), none⟩, ⟨(some 9), (.mov (.k (.int .i64 0))), none⟩, ⟨(some 10), (.mov (.t 14)), none⟩]) (.seq (.block 0 (.loop (.seq (.seq (.region 3 [⟨(some 15), (.mov (.t 9)), none⟩, ⟨(some 16), (.mov (.t 10)), none⟩, ⟨(some 17), (.bin .lss (.t 15) (.t 16)), none⟩]) (.cond 17 .skip (.exit 0))) (.block 1 (.seq (.region 4 [⟨(some 18), (.mov (.t 9)), none⟩, ⟨(some 19), (.mov (.t 10)), none⟩, ⟨(some 20), (.bin .add (.t 18) (.t 19)), none⟩, ⟨(some 21), (.conv .u64 (.t 20)), none⟩, ⟨(some 22), (.bin .shr (.t 21) (.k (.int .u64 1))), none⟩, ⟨(some 23), (.conv .i64 (.t 22)), none⟩, ⟨(some 11), (.mov (.t 23)), none⟩]) (.seq (.draw 5 (.one true ⟨(some 24), (.mov (.t 2)), none⟩ (.one true ⟨(some 25), (.mov (.t 0)), none⟩ (.one true ⟨(some 26), (.mov (.t 11)), none⟩ (.one true ⟨(some 27), (.iads 2 (.t 25) (.t 26)), none⟩ (.one true ⟨(some 28), (.load true 2 (.t 27)), none⟩ (.one true ⟨(some 29), (.load true 2 (.t 4)), none⟩ (.one false ⟨(some 30), (.callv (.t 24) [(.t 28), (.t 29)]), none⟩ (.one true ⟨(some 31), (.bin .lss (.t 30) (.k (.int .i64 0))), none⟩ .done))))))))) (.cond 31 (.region 6 [⟨(some 32), (.mov (.t 11)), none⟩, ⟨(some 33), (.bin .add (.t 32) (.k (.int .i64 1))), none⟩, ⟨(some 9), (.mov (.t 33)), none⟩]) (.region 7 [⟨(some 34), (.mov (.t 11)), none⟩, ⟨(some 10), (.mov (.t 34)), none⟩])))))))) (.seq (.draw 8 (.one true ⟨(some 35), (.mov (.t 9)), none⟩ (.one true ⟨(some 36), (.mov (.t 9)), none⟩ (.one true ⟨(some 37), (.mov (.t 8)), none⟩ (.one true ⟨(some 38), (.bin .lss (.t 36) (.t 37)), none⟩ (.one true ⟨(some 39), (.mov (.t 38)), none⟩ (.one true ⟨(some 40), (.mov (.t 2)), (some (39, true))⟩ (.one true ⟨(some 41), (.mov (.t 0)), (some (39, true))⟩ (.one true ⟨(some 42), (.mov (.t 9)), (some (39, true))⟩ (.one true ⟨(some 43), (.iads 2 (.t 41) (.t 42)), (some (39, true))⟩ (.one true ⟨(some 44), (.load true 2 (.t 43)), (some (39, true))⟩ (.one true ⟨(some 45), (.load true 2 (.t 4)), (some (39, true))⟩ (.one false ⟨(some 46), (.callv (.t 40) [(.t 44), (.t 45)]), (some (39, true))⟩ (.one true ⟨(some 47), (.bin .eql (.t 46) (.k (.int .i64 0))), (some (39, true))⟩ (.one true ⟨(some 48), (.pick (.t 39) (.t 47) (.k (.bool false))), none⟩ (.one true ⟨(some 6), (.mov (.t 35)), none⟩ (.one true ⟨(some 7), (.mov (.t 48)), none⟩ .done))))))))))))))))) .ret))))), [(.t 6), (.t 7)], 49⟩ := by kernel_rfl
theorem spbsf_pf {α : Type} (E : α → List D) (l : List α) (F : FuncId) (a b : Int) (cf : α → Int) (hl : l.length ≤ 1000000) (hE : Els 2 E l) (hF : ∀ s ∈ l, PF Try.prog F [.agg (E s), .agg [I a, I b]] (I (cf s)))
    (hmono : ∀ i j (hi : i < l.length) (hj : j < l.length), i ≤ j → cf l[j] < 0 → cf l[i] < 0) :
    PF Try.prog 117 [.rows 2 (l.map E), .agg [I a, I b], .fn F []] (.tup [I (lowB (fun x => decide (cf x < 0)) l), .bool (decide (∃ (h : lowB (fun x => decide (cf x < 0)) l < l.length), cf (l[lowB (fun x => decide (cf x < 0)) l]'h) = 0))]) := by
  have hp : (2 : Int) ^ min 1 IntKind.u64.bits = 2 := by decide
  refine PF.of follows_ok spbsf_code (by simp) (by simp [argOk]) (by simp [noV, noC]) fun B hBN hB0 => acode_sound [0, 1, 2, 4, 6, 7, 8, 9, 10, 11, 17, 31] [] _ _ _ ?_
  simp [AK_at, acode_seq, acode_region, acode_draw, acode_cond, ↓CB_t, ↓CB_f, CB_u, acode_block, acode_loop, acode_exit, acode_scope, acode_ret, acode_skip, seqQ_n, seqQ_e, seqQ_r, blockQ_n, blockQ_e, blockQ_r, TK_at, OK_at, SK_at, aops_nil, aops_cons, asch_done, asch_one, asch_two, asch_top, astep, aop_eq, isLoud, aloud, aloud1, isWrite, qv, evS, strip, gof, eget, hget, putO, eput, herase, oks, opnds, gS, afin, afin0, binD, arith, D.cells, takeD, fillD, keep, trim, envOf, Fin, aresl, aresv, resD, argOk, pickV, isP, deq, deqs, boundD, slD, lenD, isT, isSl, ptrIds, chunks, mn_min, mx_max, D.cells, splice_one, splice_more, Rbr_at, Rfr_at, frR, frV, frC, flatC, brwR, brwV, brwC, omap, leR, leV, leC, leL, leVL]
  refine W.loopS (fun y : Nat × Nat => ⟨[(10, I y.2), (9, I y.1), (8, I l.length), (7, .bool false), (6, I 0), (4, .ptr 0 0), (2, .fn F []), (0, D.rows 2 (l.map E))], [(0, .cells [I a, I b])], 1⟩)
    (fun n y => n = y.2 - y.1 ∧ y.1 ≤ y.2 ∧ y.2 ≤ l.length ∧ (∀ j (hj : j < l.length), j < y.1 → cf l[j] < 0) ∧ (∀ j (hj : j < l.length), y.2 ≤ j → 0 ≤ cf l[j])) ?_ ?_
  · exact ⟨_, (0, l.length), (Gh.ren [] (by simp [hB0]) (by simp [hB0] <;> decide) (by simp [eget, rnS, rnR, rnV, rnC, LtS, LtR, LtV, LtC, lget]) (by simp [hget, rnO, rnC, LtO, LtC, lget]) (.inr rfl)), rfl, by simp, by simp, fun j _ h => by simp at h, fun j hj h => by simp at h; omega⟩
  rintro n ⟨i, j⟩ ⟨hn, hij, hjl, hlo, hhi⟩
  simp only at hn hij hjl hlo hhi
  refine acode_sound [0, 1, 2, 4, 6, 7, 8, 9, 10, 11, 17, 31] [] _ _ _ ?_
  by_cases hlt : i < j
  · obtain ⟨h, hh⟩ : ∃ h, h = (i + j) / 2 := ⟨_, rfl⟩
    have hhl : h < l.length := by omega
    have hm : l[h] ∈ l := List.getElem_mem hhl
    have hE0 := hE _ hm
    have hFo := hF _ hm
    obtain ⟨o, ho⟩ : ∃ o, o = l[h] := ⟨_, rfl⟩
    rw [← ho] at hE0 hFo
    obtain ⟨h1, h2⟩ := hE0
    have h3 : (E o).take 2 = E o := List.take_of_length_le (by omega)
    have h4 := fun H n => brw_T H n (E o) h2
    have iij : InR ((i : Int) + j) := inW (by omega) (by omega)
    have hw1 : IntKind.u64.wrap ((i : Int) + j) = (i : Int) + j := by rw [IntKind.wrap_u64]; omega
    have hd : ((i : Int) + j) / 2 = (h : Nat) := by omega
    have ih : InR (h : Int) := inW (by omega) (by omega)
    have ii : InR ((h : Int) + 1) := inW (by omega) (by omega)
    have hol : cf l[h] = cf o := by rw [← ho]
    by_cases hc : cf o < 0
    · skip
      repeat' (first
        | simp [AK_at, acode_seq, acode_region, acode_draw, acode_cond, ↓CB_t, ↓CB_f, CB_u, acode_block, acode_loop, acode_exit, acode_scope, acode_ret, acode_skip, seqQ_n, seqQ_e, seqQ_r, blockQ_n, blockQ_e, blockQ_r, TK_at, OK_at, SK_at, aops_nil, aops_cons, asch_done, asch_one, asch_two, asch_top, astep, aop_eq, isLoud, aloud, aloud1, isWrite, qv, evS, strip, gof, eget, hget, putO, eput, herase, oks, opnds, gS, afin, afin0, binD, arith, D.cells, takeD, fillD, keep, trim, envOf, Fin, aresl, aresv, resD, argOk, pickV, isP, deq, deqs, boundD, slD, lenD, isT, isSl, ptrIds, chunks, mn_min, mx_max, D.cells, splice_one, splice_more, Rbr_at, Rfr_at, frR, frV, frC, flatC, brwR, brwV, brwC, omap, leR, leV, leC, leL, leVL, hlt, iij, hw1, hd, ih, ← ho, h1, h3, h4, hp, hhl, leL_refl, hc, ii]
        | (refine WCall.pfv (hFo) ?_ rfl ?_ ?_ ?_; (focus (simp [oks, opnds, gS, gof, eget]; done)); (focus (simp [omap, brwV, brwC, evS, eget, strip, hget, leVL, leV, leC, leL, hlt, iij, hw1, hd, ih, ← ho, h1, h3, h4, hp, hhl, leL_refl, hc, ii]; done)); (focus (simp [noV, noC, flatR, flatV, flatC, evS, eget, strip, hlt, iij, hw1, hd, ih, ← ho, h1, h3, h4, hp, hhl, leL_refl, hc, ii]; done)))
        | (refine ⟨WCall.pfv (hFo) ?_ rfl ?_ ?_ ?_, ?_⟩; (focus (simp [oks, opnds, gS, gof, eget]; done)); (focus (simp [omap, brwV, brwC, evS, eget, strip, hget, leVL, leV, leC, leL, hlt, iij, hw1, hd, ih, ← ho, h1, h3, h4, hp, hhl, leL_refl, hc, ii]; done)); (focus (simp [noV, noC, flatR, flatV, flatC, evS, eget, strip, hlt, iij, hw1, hd, ih, ← ho, h1, h3, h4, hp, hhl, leL_refl, hc, ii]; done)))
        | (with_reducible refine And.intro (And.intro ?_ ?_) ?_)
        | fail)
      exact ⟨_, (h + 1, j), (Gh.ren [] (by simp [hB0]) (by simp [hB0] <;> decide) (by simp [eget, rnS, rnR, rnV, rnC, LtS, LtR, LtV, LtC, lget]) (by simp [hget, rnO, rnC, LtO, LtC, lget]) (.inr rfl)), by simp only; omega, rfl, by simp only; omega, by simp only; omega, fun k hk hkh => by
        simp only at hkh
        exact hmono k h hk hhl (by omega) (by rw [hol]; exact hc), hhi⟩
    · skip
      repeat' (first
        | simp [AK_at, acode_seq, acode_region, acode_draw, acode_cond, ↓CB_t, ↓CB_f, CB_u, acode_block, acode_loop, acode_exit, acode_scope, acode_ret, acode_skip, seqQ_n, seqQ_e, seqQ_r, blockQ_n, blockQ_e, blockQ_r, TK_at, OK_at, SK_at, aops_nil, aops_cons, asch_done, asch_one, asch_two, asch_top, astep, aop_eq, isLoud, aloud, aloud1, isWrite, qv, evS, strip, gof, eget, hget, putO, eput, herase, oks, opnds, gS, afin, afin0, binD, arith, D.cells, takeD, fillD, keep, trim, envOf, Fin, aresl, aresv, resD, argOk, pickV, isP, deq, deqs, boundD, slD, lenD, isT, isSl, ptrIds, chunks, mn_min, mx_max, D.cells, splice_one, splice_more, Rbr_at, Rfr_at, frR, frV, frC, flatC, brwR, brwV, brwC, omap, leR, leV, leC, leL, leVL, hlt, iij, hw1, hd, ih, ← ho, h1, h3, h4, hp, hhl, leL_refl, hc, ii]
        | (refine WCall.pfv (hFo) ?_ rfl ?_ ?_ ?_; (focus (simp [oks, opnds, gS, gof, eget]; done)); (focus (simp [omap, brwV, brwC, evS, eget, strip, hget, leVL, leV, leC, leL, hlt, iij, hw1, hd, ih, ← ho, h1, h3, h4, hp, hhl, leL_refl, hc, ii]; done)); (focus (simp [noV, noC, flatR, flatV, flatC, evS, eget, strip, hlt, iij, hw1, hd, ih, ← ho, h1, h3, h4, hp, hhl, leL_refl, hc, ii]; done)))
        | (refine ⟨WCall.pfv (hFo) ?_ rfl ?_ ?_ ?_, ?_⟩; (focus (simp [oks, opnds, gS, gof, eget]; done)); (focus (simp [omap, brwV, brwC, evS, eget, strip, hget, leVL, leV, leC, leL, hlt, iij, hw1, hd, ih, ← ho, h1, h3, h4, hp, hhl, leL_refl, hc, ii]; done)); (focus (simp [noV, noC, flatR, flatV, flatC, evS, eget, strip, hlt, iij, hw1, hd, ih, ← ho, h1, h3, h4, hp, hhl, leL_refl, hc, ii]; done)))
        | (with_reducible refine And.intro (And.intro ?_ ?_) ?_)
        | fail)
      exact ⟨_, (i, h), (Gh.ren [] (by simp [hB0]) (by simp [hB0] <;> decide) (by simp [eget, rnS, rnR, rnV, rnC, LtS, LtR, LtV, LtC, lget]) (by simp [hget, rnO, rnC, LtO, LtC, lget]) (.inr rfl)), by simp only; omega, rfl, by simp only; omega, by simp only; omega, hlo, fun k hk hkh => by
        simp only at hkh
        exact Int.not_lt.1 fun hck => hc (by rw [← hol]; exact hmono h k hhl hk hkh hck)⟩
  · obtain rfl : i = j := by omega
    have hlb := lowB_at (fun x => decide (cf x < 0)) l i hjl (fun j hj hji => by simpa using hlo j hj hji) (fun hi => by simpa using hhi i hi (Nat.le_refl _))
    by_cases hil : i < l.length
    · have hm : l[i] ∈ l := List.getElem_mem hil
      have hE0 := hE _ hm
      have hFo := hF _ hm
      obtain ⟨o, ho⟩ : ∃ o, o = l[i] := ⟨_, rfl⟩
      have hol : cf l[i] = cf o := by rw [← ho]
      rw [← ho] at hE0 hFo
      obtain ⟨h1, h2⟩ := hE0
      have h3 : (E o).take 2 = E o := List.take_of_length_le (by omega)
      have h4 := fun H n => brw_T H n (E o) h2
      simp only [hlb]
      repeat' (first
        | simp [AK_at, acode_seq, acode_region, acode_draw, acode_cond, ↓CB_t, ↓CB_f, CB_u, acode_block, acode_loop, acode_exit, acode_scope, acode_ret, acode_skip, seqQ_n, seqQ_e, seqQ_r, blockQ_n, blockQ_e, blockQ_r, TK_at, OK_at, SK_at, aops_nil, aops_cons, asch_done, asch_one, asch_two, asch_top, astep, aop_eq, isLoud, aloud, aloud1, isWrite, qv, evS, strip, gof, eget, hget, putO, eput, herase, oks, opnds, gS, afin, afin0, binD, arith, D.cells, takeD, fillD, keep, trim, envOf, Fin, aresl, aresv, resD, argOk, pickV, isP, deq, deqs, boundD, slD, lenD, isT, isSl, ptrIds, chunks, mn_min, mx_max, D.cells, splice_one, splice_more, Rbr_at, Rfr_at, frR, frV, frC, flatC, brwR, brwV, brwC, omap, leR, leV, leC, leL, leVL, hil, ← ho, h1, h3, h4, leL_refl]
        | (refine WCall.pfv (hFo) ?_ rfl ?_ ?_ ?_; (focus (simp [oks, opnds, gS, gof, eget]; done)); (focus (simp [omap, brwV, brwC, evS, eget, strip, hget, leVL, leV, leC, leL, hil, ← ho, h1, h3, h4, leL_refl]; done)); (focus (simp [noV, noC, flatR, flatV, flatC, evS, eget, strip, hil, ← ho, h1, h3, h4, leL_refl]; done)))
        | (refine ⟨WCall.pfv (hFo) ?_ rfl ?_ ?_ ?_, ?_⟩; (focus (simp [oks, opnds, gS, gof, eget]; done)); (focus (simp [omap, brwV, brwC, evS, eget, strip, hget, leVL, leV, leC, leL, hil, ← ho, h1, h3, h4, leL_refl]; done)); (focus (simp [noV, noC, flatR, flatV, flatC, evS, eget, strip, hil, ← ho, h1, h3, h4, leL_refl]; done)))
        | (with_reducible refine And.intro (And.intro ?_ ?_) ?_)
        | fail)
    · simp only [hlb]
      simp [AK_at, acode_seq, acode_region, acode_draw, acode_cond, ↓CB_t, ↓CB_f, CB_u, acode_block, acode_loop, acode_exit, acode_scope, acode_ret, acode_skip, seqQ_n, seqQ_e, seqQ_r, blockQ_n, blockQ_e, blockQ_r, TK_at, OK_at, SK_at, aops_nil, aops_cons, asch_done, asch_one, asch_two, asch_top, astep, aop_eq, isLoud, aloud, aloud1, isWrite, qv, evS, strip, gof, eget, hget, putO, eput, herase, oks, opnds, gS, afin, afin0, binD, arith, D.cells, takeD, fillD, keep, trim, envOf, Fin, aresl, aresv, resD, argOk, pickV, isP, deq, deqs, boundD, slD, lenD, isT, isSl, ptrIds, chunks, mn_min, mx_max, D.cells, splice_one, splice_more, Rbr_at, Rfr_at, frR, frV, frC, flatC, brwR, brwV, brwC, omap, leR, leV, leC, leL, leVL, hil]
end Go.Proofs.Ytfkeddefajkobaa

set_option linter.unusedSimpArgs false
set_option linter.unusedVariables false
set_option maxRecDepth 100000
set_option maxHeartbeats 2000000
namespace Go.Proofs.Ytfkeddefajkobaa
open Go.RowKit
def cmpZ (a b : Int) : Int := if a < b then -1 else if b < a then 1 else 0
def ord2 (a b c d : Int) : Int := if cmpZ a c = 0 then cmpZ b d else cmpZ a c
theorem cmpZ_zero {a b : Int} : cmpZ a b = 0 ↔ a = b := by
  unfold cmpZ
  split
  · constructor
    · intro h; omega
    · intro h; omega
  · split
    · constructor
      · intro h; omega
      · intro h; omega
    · constructor
      · intro h; omega
      · intro h; rfl
theorem cmpZ_neg {a b : Int} : cmpZ a b < 0 ↔ a < b := by
  unfold cmpZ
  split
  · simp; assumption
  · split
    · constructor <;> intro h <;> omega
    · constructor <;> intro h <;> omega
theorem ord2_neg {a b c d : Int} : ord2 a b c d < 0 ↔ a < c ∨ (a = c ∧ b < d) := by
  unfold ord2
  split
  · rename_i h
    rw [cmpZ_zero] at h
    rw [cmpZ_neg]
    omega
  · rename_i h
    rw [cmpZ_zero] at h
    rw [cmpZ_neg]
    omega
theorem ord2_zero {a b c d : Int} : ord2 a b c d = 0 ↔ a = c ∧ b = d := by
  unfold ord2
  split
  · rename_i h
    rw [cmpZ_zero] at h
    rw [cmpZ_zero]
    exact ⟨fun h' => ⟨h, h'⟩, fun h' => h'.2⟩
  · rename_i h
    constructor
    · intro h'; exact absurd h' h
    · rintro ⟨rfl, rfl⟩; exact absurd (cmpZ_zero.2 rfl) h
theorem cnan_code : cfun Try.prog [] 133 = some ⟨(.seq (.region 0 [⟨(some 2), (.mov (.k (.bool false))), none⟩]) (.seq (.region 1 [⟨(some 3), (.mov (.t 0)), none⟩, ⟨(some 4), (.mov (.t 0)), none⟩, ⟨(some 5), (.bin .neq (.t 3) (.t 4)), none⟩, ⟨(some 2), (.mov (.t 5)), none⟩]) .ret)), [(.t 2)], 6⟩ := by kernel_rfl
theorem cnan_pf (a : Int) : PF Try.prog 133 [I a] (.bool false) := by
  refine PF.of follows_ok cnan_code (by simp) (by simp [argOk]) (by simp [noV, noC]) fun B hBN hB0 => acode_sound [0, 2] [] _ _ _ ?_
  simp [AK_at, acode_seq, acode_region, acode_draw, acode_cond, ↓CB_t, ↓CB_f, CB_u, acode_block, acode_loop, acode_exit, acode_scope, acode_ret, acode_skip, seqQ_n, seqQ_e, seqQ_r, blockQ_n, blockQ_e, blockQ_r, TK_at, OK_at, SK_at, aops_nil, aops_cons, asch_done, asch_one, asch_two, asch_top, astep, aop_eq, isLoud, aloud, aloud1, isWrite, qv, evS, strip, gof, eget, hget, putO, eput, herase, oks, opnds, gS, afin, afin0, binD, arith, D.cells, takeD, fillD, keep, trim, envOf, Fin, aresl, aresv, resD, argOk, pickV, isP, deq, deqs, boundD, slD, lenD, isT, isSl, ptrIds, chunks, mn_min, mx_max, D.cells, splice_one, splice_more, Rbr_at, Rfr_at, frR, frV, frC, flatC, brwR, brwV, brwC, omap, leR, leV, leC, leL, leVL]
theorem ccmp_code : cfun Try.prog [] 114 = some ⟨(.seq (.region 0 [⟨(some 4), (.mov (.k (.int .i64 0))), none⟩]) (.seq (.region 1 [⟨(some 7), (.mov (.t 0)), none⟩, ⟨(some 8), (.call 133 [(.t 7)]), none⟩, ⟨(some 5), (.mov (.t 8)), none⟩]) (.seq (.region 2 [⟨(some 9), (.mov (.t 1)), none⟩, ⟨(some 10), (.call 133 [(.t 9)]), none⟩, ⟨(some 6), (.mov (.t 10)), none⟩]) (.seq (.seq (.region 3 [⟨(some 11), (.mov (.t 5)), none⟩]) (.cond 11 (.seq (.seq (.region 4 [⟨(some 12), (.mov (.t 6)), none⟩]) (.cond 12 (.seq (.region 5 [⟨(some 4), (.mov (.k (.int .i64 0))), none⟩]) .ret) .skip)) (.seq (.region 6 [⟨(some 4), (.mov (.k (.int .i64 (-1)))), none⟩]) .ret)) .skip)) (.seq (.seq (.region 7 [⟨(some 13), (.mov (.t 6)), none⟩]) (.cond 13 (.seq (.region 8 [⟨(some 4), (.mov (.k (.int .i64 1))), none⟩]) .ret) .skip)) (.seq (.seq (.region 9 [⟨(some 14), (.mov (.t 0)), none⟩, ⟨(some 15), (.mov (.t 1)), none⟩, ⟨(some 16), (.bin .lss (.t 14) (.t 15)), none⟩]) (.cond 16 (.seq (.region 10 [⟨(some 4), (.mov (.k (.int .i64 (-1)))), none⟩]) .ret) .skip)) (.seq (.seq (.region 11 [⟨(some 17), (.mov (.t 0)), none⟩, ⟨(some 18), (.mov (.t 1)), none⟩, ⟨(some 19), (.bin .gtr (.t 17) (.t 18)), none⟩]) (.cond 19 (.seq (.region 12 [⟨(some 4), (.mov (.k (.int .i64 1))), none⟩]) .ret) .skip)) (.seq (.region 13 [⟨(some 4), (.mov (.k (.int .i64 0))), none⟩]) .ret)))))))), [(.t 4)], 20⟩ := by kernel_rfl
theorem ccmp_pf (a b : Int) : PF Try.prog 114 [I a, I b] (I (cmpZ a b)) := by
  have h1 := cnan_pf a
  have h2 := cnan_pf b
  refine PF.of follows_ok ccmp_code (by simp) (by simp [argOk]) (by simp [noV, noC]) fun B hBN hB0 => acode_sound [0, 1, 4, 5, 6, 11, 12, 13, 16, 19] [] _ _ _ ?_
  by_cases c1 : a < b
  · have c2 : ¬ b < a := by omega
    repeat' (first
      | simp [AK_at, acode_seq, acode_region, acode_draw, acode_cond, ↓CB_t, ↓CB_f, CB_u, acode_block, acode_loop, acode_exit, acode_scope, acode_ret, acode_skip, seqQ_n, seqQ_e, seqQ_r, blockQ_n, blockQ_e, blockQ_r, TK_at, OK_at, SK_at, aops_nil, aops_cons, asch_done, asch_one, asch_two, asch_top, astep, aop_eq, isLoud, aloud, aloud1, isWrite, qv, evS, strip, gof, eget, hget, putO, eput, herase, oks, opnds, gS, afin, afin0, binD, arith, D.cells, takeD, fillD, keep, trim, envOf, Fin, aresl, aresv, resD, argOk, pickV, isP, deq, deqs, boundD, slD, lenD, isT, isSl, ptrIds, chunks, mn_min, mx_max, D.cells, splice_one, splice_more, Rbr_at, Rfr_at, frR, frV, frC, flatC, brwR, brwV, brwC, omap, leR, leV, leC, leL, leVL, c1, c2, cmpZ]
      | (refine WCall.pf (h1) ?_ ?_ ?_ ?_; (focus (simp [oks, opnds, gS, gof, eget]; done)); (focus (simp [omap, brwV, brwC, evS, eget, strip, hget, leVL, leV, leC, leL, c1, c2, cmpZ]; done)); (focus (simp [noV, noC, flatR, flatV, flatC, evS, eget, strip, c1, c2, cmpZ]; done)))
      | (refine ⟨WCall.pf (h1) ?_ ?_ ?_ ?_, ?_⟩; (focus (simp [oks, opnds, gS, gof, eget]; done)); (focus (simp [omap, brwV, brwC, evS, eget, strip, hget, leVL, leV, leC, leL, c1, c2, cmpZ]; done)); (focus (simp [noV, noC, flatR, flatV, flatC, evS, eget, strip, c1, c2, cmpZ]; done)))
      | (refine WCall.pf (h2) ?_ ?_ ?_ ?_; (focus (simp [oks, opnds, gS, gof, eget]; done)); (focus (simp [omap, brwV, brwC, evS, eget, strip, hget, leVL, leV, leC, leL, c1, c2, cmpZ]; done)); (focus (simp [noV, noC, flatR, flatV, flatC, evS, eget, strip, c1, c2, cmpZ]; done)))
      | (refine ⟨WCall.pf (h2) ?_ ?_ ?_ ?_, ?_⟩; (focus (simp [oks, opnds, gS, gof, eget]; done)); (focus (simp [omap, brwV, brwC, evS, eget, strip, hget, leVL, leV, leC, leL, c1, c2, cmpZ]; done)); (focus (simp [noV, noC, flatR, flatV, flatC, evS, eget, strip, c1, c2, cmpZ]; done)))
      | (with_reducible refine And.intro (And.intro ?_ ?_) ?_)
      | fail)
  · by_cases c2 : b < a
    · skip
      repeat' (first
        | simp [AK_at, acode_seq, acode_region, acode_draw, acode_cond, ↓CB_t, ↓CB_f, CB_u, acode_block, acode_loop, acode_exit, acode_scope, acode_ret, acode_skip, seqQ_n, seqQ_e, seqQ_r, blockQ_n, blockQ_e, blockQ_r, TK_at, OK_at, SK_at, aops_nil, aops_cons, asch_done, asch_one, asch_two, asch_top, astep, aop_eq, isLoud, aloud, aloud1, isWrite, qv, evS, strip, gof, eget, hget, putO, eput, herase, oks, opnds, gS, afin, afin0, binD, arith, D.cells, takeD, fillD, keep, trim, envOf, Fin, aresl, aresv, resD, argOk, pickV, isP, deq, deqs, boundD, slD, lenD, isT, isSl, ptrIds, chunks, mn_min, mx_max, D.cells, splice_one, splice_more, Rbr_at, Rfr_at, frR, frV, frC, flatC, brwR, brwV, brwC, omap, leR, leV, leC, leL, leVL, c1, c2, cmpZ]
        | (refine WCall.pf (h1) ?_ ?_ ?_ ?_; (focus (simp [oks, opnds, gS, gof, eget]; done)); (focus (simp [omap, brwV, brwC, evS, eget, strip, hget, leVL, leV, leC, leL, c1, c2, cmpZ]; done)); (focus (simp [noV, noC, flatR, flatV, flatC, evS, eget, strip, c1, c2, cmpZ]; done)))
        | (refine ⟨WCall.pf (h1) ?_ ?_ ?_ ?_, ?_⟩; (focus (simp [oks, opnds, gS, gof, eget]; done)); (focus (simp [omap, brwV, brwC, evS, eget, strip, hget, leVL, leV, leC, leL, c1, c2, cmpZ]; done)); (focus (simp [noV, noC, flatR, flatV, flatC, evS, eget, strip, c1, c2, cmpZ]; done)))
        | (refine WCall.pf (h2) ?_ ?_ ?_ ?_; (focus (simp [oks, opnds, gS, gof, eget]; done)); (focus (simp [omap, brwV, brwC, evS, eget, strip, hget, leVL, leV, leC, leL, c1, c2, cmpZ]; done)); (focus (simp [noV, noC, flatR, flatV, flatC, evS, eget, strip, c1, c2, cmpZ]; done)))
        | (refine ⟨WCall.pf (h2) ?_ ?_ ?_ ?_, ?_⟩; (focus (simp [oks, opnds, gS, gof, eget]; done)); (focus (simp [omap, brwV, brwC, evS, eget, strip, hget, leVL, leV, leC, leL, c1, c2, cmpZ]; done)); (focus (simp [noV, noC, flatR, flatV, flatC, evS, eget, strip, c1, c2, cmpZ]; done)))
        | (with_reducible refine And.intro (And.intro ?_ ?_) ?_)
        | fail)
    · skip
      repeat' (first
        | simp [AK_at, acode_seq, acode_region, acode_draw, acode_cond, ↓CB_t, ↓CB_f, CB_u, acode_block, acode_loop, acode_exit, acode_scope, acode_ret, acode_skip, seqQ_n, seqQ_e, seqQ_r, blockQ_n, blockQ_e, blockQ_r, TK_at, OK_at, SK_at, aops_nil, aops_cons, asch_done, asch_one, asch_two, asch_top, astep, aop_eq, isLoud, aloud, aloud1, isWrite, qv, evS, strip, gof, eget, hget, putO, eput, herase, oks, opnds, gS, afin, afin0, binD, arith, D.cells, takeD, fillD, keep, trim, envOf, Fin, aresl, aresv, resD, argOk, pickV, isP, deq, deqs, boundD, slD, lenD, isT, isSl, ptrIds, chunks, mn_min, mx_max, D.cells, splice_one, splice_more, Rbr_at, Rfr_at, frR, frV, frC, flatC, brwR, brwV, brwC, omap, leR, leV, leC, leL, leVL, c1, c2, cmpZ]
        | (refine WCall.pf (h1) ?_ ?_ ?_ ?_; (focus (simp [oks, opnds, gS, gof, eget]; done)); (focus (simp [omap, brwV, brwC, evS, eget, strip, hget, leVL, leV, leC, leL, c1, c2, cmpZ]; done)); (focus (simp [noV, noC, flatR, flatV, flatC, evS, eget, strip, c1, c2, cmpZ]; done)))
        | (refine ⟨WCall.pf (h1) ?_ ?_ ?_ ?_, ?_⟩; (focus (simp [oks, opnds, gS, gof, eget]; done)); (focus (simp [omap, brwV, brwC, evS, eget, strip, hget, leVL, leV, leC, leL, c1, c2, cmpZ]; done)); (focus (simp [noV, noC, flatR, flatV, flatC, evS, eget, strip, c1, c2, cmpZ]; done)))
        | (refine WCall.pf (h2) ?_ ?_ ?_ ?_; (focus (simp [oks, opnds, gS, gof, eget]; done)); (focus (simp [omap, brwV, brwC, evS, eget, strip, hget, leVL, leV, leC, leL, c1, c2, cmpZ]; done)); (focus (simp [noV, noC, flatR, flatV, flatC, evS, eget, strip, c1, c2, cmpZ]; done)))
        | (refine ⟨WCall.pf (h2) ?_ ?_ ?_ ?_, ?_⟩; (focus (simp [oks, opnds, gS, gof, eget]; done)); (focus (simp [omap, brwV, brwC, evS, eget, strip, hget, leVL, leV, leC, leL, c1, c2, cmpZ]; done)); (focus (simp [noV, noC, flatR, flatV, flatC, evS, eget, strip, c1, c2, cmpZ]; done)))
        | (with_reducible refine And.intro (And.intro ?_ ?_) ?_)
        | fail)
theorem cor_code : cfun Try.prog [] 113 = some ⟨(.seq (.region 0 [⟨(some 2), (.mov (.k (.int .i64 0))), none⟩]) (.seq (.region 1 [⟨(some 3), (.mov (.k (.int .i64 0))), none⟩]) (.seq (.seq (.region 2 [⟨(some 6), (.mov (.t 0)), none⟩, ⟨(some 7), (.len (.t 6)), none⟩, ⟨(some 8), (.mov (.k (.int .i64 0))), none⟩]) (.block 0 (.loop (.seq (.region 3 [⟨(some 9), (.bin .lss (.t 8) (.t 7)), none⟩]) (.seq (.cond 9 .skip (.exit 0)) (.seq (.block 1 (.seq (.region 4 [⟨(some 10), (.iads 1 (.t 6) (.t 8)), none⟩, ⟨(some 11), (.load false 1 (.t 10)), none⟩, ⟨(some 5), (.mov (.t 11)), none⟩]) (.seq (.region 5 [⟨(some 12), (.mov (.t 5)), none⟩, ⟨(some 13), (.mov (.t 3)), none⟩, ⟨(some 14), (.bin .neq (.t 12) (.t 13)), none⟩]) (.cond 14 (.seq (.region 6 [⟨(some 15), (.mov (.t 5)), none⟩, ⟨(some 2), (.mov (.t 15)), none⟩]) .ret) .skip)))) (.region 7 [⟨(some 16), (.bin .add (.t 8) (.k (.int .i64 1))), none⟩, ⟨(some 8), (.mov (.t 16)), none⟩]))))))) (.seq (.region 8 [⟨(some 17), (.mov (.t 3)), none⟩, ⟨(some 2), (.mov (.t 17)), none⟩]) .ret)))), [(.t 2)], 18⟩ := by kernel_rfl
theorem cor_pf (a b : Int) : PF Try.prog 113 [.rows 1 [[I a], [I b]]] (I (if a = 0 then b else a)) := by
  refine PF.of follows_ok cor_code (by simp) (by simp [argOk]) (by simp [noV, noC]) fun B hBN hB0 => acode_sound [0, 2, 3, 5, 6, 7, 8, 9, 14] [] _ _ _ ?_
  simp [AK_at, acode_seq, acode_region, acode_draw, acode_cond, ↓CB_t, ↓CB_f, CB_u, acode_block, acode_loop, acode_exit, acode_scope, acode_ret, acode_skip, seqQ_n, seqQ_e, seqQ_r, blockQ_n, blockQ_e, blockQ_r, TK_at, OK_at, SK_at, aops_nil, aops_cons, asch_done, asch_one, asch_two, asch_top, astep, aop_eq, isLoud, aloud, aloud1, isWrite, qv, evS, strip, gof, eget, hget, putO, eput, herase, oks, opnds, gS, afin, afin0, binD, arith, D.cells, takeD, fillD, keep, trim, envOf, Fin, aresl, aresv, resD, argOk, pickV, isP, deq, deqs, boundD, slD, lenD, isT, isSl, ptrIds, chunks, mn_min, mx_max, D.cells, splice_one, splice_more, Rbr_at, Rfr_at, frR, frV, frC, flatC, brwR, brwV, brwC, omap, leR, leV, leC, leL, leVL]
  refine W.loopS (fun i : Nat => ⟨[(8, I i), (7, I 2), (6, D.rows 1 [[I a], [I b]]), (3, I 0), (2, I 0), (0, D.rows 1 [[I a], [I b]])], [], 0⟩)
    (fun n i => n = 2 - i ∧ i ≤ 2 ∧ (1 ≤ i → a = 0) ∧ (2 ≤ i → b = 0)) ?_ ?_
  · exact ⟨_, 0, (Gh.ren [] (by simp [hB0]) (by simp [hB0] <;> decide) (by simp [eget, rnS, rnR, rnV, rnC, LtS, LtR, LtV, LtC, lget]) (by simp [hget, rnO, rnC, LtO, LtC, lget]) (.inr rfl)), rfl, by omega, fun h => by omega, fun h => by omega⟩
  rintro n i ⟨hn, hi, ha, hb⟩
  refine acode_sound [0, 2, 3, 5, 6, 7, 8, 9, 14] [] _ _ _ ?_
  match i, hi with
  | 0, _ =>
    by_cases h : a = 0
    · have ii : InR 1 := inW (by omega) (by omega)
      simp [AK_at, acode_seq, acode_region, acode_draw, acode_cond, ↓CB_t, ↓CB_f, CB_u, acode_block, acode_loop, acode_exit, acode_scope, acode_ret, acode_skip, seqQ_n, seqQ_e, seqQ_r, blockQ_n, blockQ_e, blockQ_r, TK_at, OK_at, SK_at, aops_nil, aops_cons, asch_done, asch_one, asch_two, asch_top, astep, aop_eq, isLoud, aloud, aloud1, isWrite, qv, evS, strip, gof, eget, hget, putO, eput, herase, oks, opnds, gS, afin, afin0, binD, arith, D.cells, takeD, fillD, keep, trim, envOf, Fin, aresl, aresv, resD, argOk, pickV, isP, deq, deqs, boundD, slD, lenD, isT, isSl, ptrIds, chunks, mn_min, mx_max, D.cells, splice_one, splice_more, Rbr_at, Rfr_at, frR, frV, frC, flatC, brwR, brwV, brwC, omap, leR, leV, leC, leL, leVL, h, ii]
      exact ⟨_, 1, (Gh.ren [] (by simp [hB0]) (by simp [hB0] <;> decide) (by simp [eget, rnS, rnR, rnV, rnC, LtS, LtR, LtV, LtC, lget, h]) (by simp [hget, rnO, rnC, LtO, LtC, lget, h]) (.inr rfl)), by omega, rfl, by omega, fun h => by omega⟩
    · simp [AK_at, acode_seq, acode_region, acode_draw, acode_cond, ↓CB_t, ↓CB_f, CB_u, acode_block, acode_loop, acode_exit, acode_scope, acode_ret, acode_skip, seqQ_n, seqQ_e, seqQ_r, blockQ_n, blockQ_e, blockQ_r, TK_at, OK_at, SK_at, aops_nil, aops_cons, asch_done, asch_one, asch_two, asch_top, astep, aop_eq, isLoud, aloud, aloud1, isWrite, qv, evS, strip, gof, eget, hget, putO, eput, herase, oks, opnds, gS, afin, afin0, binD, arith, D.cells, takeD, fillD, keep, trim, envOf, Fin, aresl, aresv, resD, argOk, pickV, isP, deq, deqs, boundD, slD, lenD, isT, isSl, ptrIds, chunks, mn_min, mx_max, D.cells, splice_one, splice_more, Rbr_at, Rfr_at, frR, frV, frC, flatC, brwR, brwV, brwC, omap, leR, leV, leC, leL, leVL, h]
  | 1, _ =>
    have h := ha (by omega)
    by_cases h2 : b = 0
    · have ii : InR 2 := inW (by omega) (by omega)
      simp [AK_at, acode_seq, acode_region, acode_draw, acode_cond, ↓CB_t, ↓CB_f, CB_u, acode_block, acode_loop, acode_exit, acode_scope, acode_ret, acode_skip, seqQ_n, seqQ_e, seqQ_r, blockQ_n, blockQ_e, blockQ_r, TK_at, OK_at, SK_at, aops_nil, aops_cons, asch_done, asch_one, asch_two, asch_top, astep, aop_eq, isLoud, aloud, aloud1, isWrite, qv, evS, strip, gof, eget, hget, putO, eput, herase, oks, opnds, gS, afin, afin0, binD, arith, D.cells, takeD, fillD, keep, trim, envOf, Fin, aresl, aresv, resD, argOk, pickV, isP, deq, deqs, boundD, slD, lenD, isT, isSl, ptrIds, chunks, mn_min, mx_max, D.cells, splice_one, splice_more, Rbr_at, Rfr_at, frR, frV, frC, flatC, brwR, brwV, brwC, omap, leR, leV, leC, leL, leVL, h, h2, ii]
      exact ⟨_, 2, (Gh.ren [] (by simp [hB0]) (by simp [hB0] <;> decide) (by simp [eget, rnS, rnR, rnV, rnC, LtS, LtR, LtV, LtC, lget, h, h2]) (by simp [hget, rnO, rnC, LtO, LtC, lget, h, h2]) (.inr rfl)), by omega, rfl, by omega⟩
    · simp [AK_at, acode_seq, acode_region, acode_draw, acode_cond, ↓CB_t, ↓CB_f, CB_u, acode_block, acode_loop, acode_exit, acode_scope, acode_ret, acode_skip, seqQ_n, seqQ_e, seqQ_r, blockQ_n, blockQ_e, blockQ_r, TK_at, OK_at, SK_at, aops_nil, aops_cons, asch_done, asch_one, asch_two, asch_top, astep, aop_eq, isLoud, aloud, aloud1, isWrite, qv, evS, strip, gof, eget, hget, putO, eput, herase, oks, opnds, gS, afin, afin0, binD, arith, D.cells, takeD, fillD, keep, trim, envOf, Fin, aresl, aresv, resD, argOk, pickV, isP, deq, deqs, boundD, slD, lenD, isT, isSl, ptrIds, chunks, mn_min, mx_max, D.cells, splice_one, splice_more, Rbr_at, Rfr_at, frR, frV, frC, flatC, brwR, brwV, brwC, omap, leR, leV, leC, leL, leVL, h, h2]
  | 2, _ =>
    have h := ha (by omega)
    have h2 := hb (by omega)
    simp [AK_at, acode_seq, acode_region, acode_draw, acode_cond, ↓CB_t, ↓CB_f, CB_u, acode_block, acode_loop, acode_exit, acode_scope, acode_ret, acode_skip, seqQ_n, seqQ_e, seqQ_r, blockQ_n, blockQ_e, blockQ_r, TK_at, OK_at, SK_at, aops_nil, aops_cons, asch_done, asch_one, asch_two, asch_top, astep, aop_eq, isLoud, aloud, aloud1, isWrite, qv, evS, strip, gof, eget, hget, putO, eput, herase, oks, opnds, gS, afin, afin0, binD, arith, D.cells, takeD, fillD, keep, trim, envOf, Fin, aresl, aresv, resD, argOk, pickV, isP, deq, deqs, boundD, slD, lenD, isT, isSl, ptrIds, chunks, mn_min, mx_max, D.cells, splice_one, splice_more, Rbr_at, Rfr_at, frR, frV, frC, flatC, brwR, brwV, brwC, omap, leR, leV, leC, leL, leVL, h, h2]
theorem word_code : cfun Try.prog [] 103 = some ⟨(.seq (.region 0 [⟨(some 2), (.box (.t 0)), none⟩, ⟨(some 3), (.box (.t 1)), none⟩, ⟨(some 4), (.mov (.k (.int .i64 0))), none⟩]) (.seq (.draw 1 (.one true ⟨(some 5), (.fad 0 (.t 2)), none⟩ (.one true ⟨(some 6), (.load false 1 (.t 5)), none⟩ (.one true ⟨(some 7), (.fad 0 (.t 3)), none⟩ (.one true ⟨(some 8), (.load false 1 (.t 7)), none⟩ (.one true ⟨(some 10), (.fad 1 (.t 2)), none⟩ (.one true ⟨(some 11), (.load false 1 (.t 10)), none⟩ (.one true ⟨(some 12), (.fad 1 (.t 3)), none⟩ (.one true ⟨(some 13), (.load false 1 (.t 12)), none⟩ (.one true ⟨(some 9), (.call 114 [(.t 6), (.t 8)]), none⟩ (.one true ⟨(some 14), (.call 114 [(.t 11), (.t 13)]), none⟩ (.one true ⟨(some 15), (.bslice 1 2 [(.int .i64 0)] [(0, (.t 9)), (1, (.t 14))]), none⟩ (.one true ⟨(some 16), (.call 113 [(.t 15)]), none⟩ (.one true ⟨(some 4), (.mov (.t 16)), none⟩ .done)))))))))))))) .ret)), [(.t 4)], 17⟩ := by kernel_rfl
theorem word_pf (a b c d : Int) : PF Try.prog 103 [.agg [I a, I b], .agg [I c, I d]] (I (ord2 a b c d)) := by
  have h1 := ccmp_pf a c
  have h2 := ccmp_pf b d
  have h3 := cor_pf (cmpZ a c) (cmpZ b d)
  refine PF.of follows_ok word_code (by simp) (by simp [argOk]) (by simp [noV, noC]) fun B hBN hB0 => acode_sound [0, 1, 2, 3, 4] [] _ _ _ ?_
  repeat' (first
    | simp [AK_at, acode_seq, acode_region, acode_draw, acode_cond, ↓CB_t, ↓CB_f, CB_u, acode_block, acode_loop, acode_exit, acode_scope, acode_ret, acode_skip, seqQ_n, seqQ_e, seqQ_r, blockQ_n, blockQ_e, blockQ_r, TK_at, OK_at, SK_at, aops_nil, aops_cons, asch_done, asch_one, asch_two, asch_top, astep, aop_eq, isLoud, aloud, aloud1, isWrite, qv, evS, strip, gof, eget, hget, putO, eput, herase, oks, opnds, gS, afin, afin0, binD, arith, D.cells, takeD, fillD, keep, trim, envOf, Fin, aresl, aresv, resD, argOk, pickV, isP, deq, deqs, boundD, slD, lenD, isT, isSl, ptrIds, chunks, mn_min, mx_max, D.cells, splice_one, splice_more, Rbr_at, Rfr_at, frR, frV, frC, flatC, brwR, brwV, brwC, omap, leR, leV, leC, leL, leVL, ord2]
    | (refine WCall.pf (h1) ?_ ?_ ?_ ?_; (focus (simp [oks, opnds, gS, gof, eget]; done)); (focus (simp [omap, brwV, brwC, evS, eget, strip, hget, leVL, leV, leC, leL, ord2]; done)); (focus (simp [noV, noC, flatR, flatV, flatC, evS, eget, strip, ord2]; done)))
    | (refine ⟨WCall.pf (h1) ?_ ?_ ?_ ?_, ?_⟩; (focus (simp [oks, opnds, gS, gof, eget]; done)); (focus (simp [omap, brwV, brwC, evS, eget, strip, hget, leVL, leV, leC, leL, ord2]; done)); (focus (simp [noV, noC, flatR, flatV, flatC, evS, eget, strip, ord2]; done)))
    | (refine WCall.pf (h2) ?_ ?_ ?_ ?_; (focus (simp [oks, opnds, gS, gof, eget]; done)); (focus (simp [omap, brwV, brwC, evS, eget, strip, hget, leVL, leV, leC, leL, ord2]; done)); (focus (simp [noV, noC, flatR, flatV, flatC, evS, eget, strip, ord2]; done)))
    | (refine ⟨WCall.pf (h2) ?_ ?_ ?_ ?_, ?_⟩; (focus (simp [oks, opnds, gS, gof, eget]; done)); (focus (simp [omap, brwV, brwC, evS, eget, strip, hget, leVL, leV, leC, leL, ord2]; done)); (focus (simp [noV, noC, flatR, flatV, flatC, evS, eget, strip, ord2]; done)))
    | (refine WCall.pf (h3) ?_ ?_ ?_ ?_; (focus (simp [oks, opnds, gS, gof, eget]; done)); (focus (simp [omap, brwV, brwC, evS, eget, strip, hget, leVL, leV, leC, leL, ord2]; done)); (focus (simp [noV, noC, flatR, flatV, flatC, evS, eget, strip, ord2]; done)))
    | (refine ⟨WCall.pf (h3) ?_ ?_ ?_ ?_, ?_⟩; (focus (simp [oks, opnds, gS, gof, eget]; done)); (focus (simp [omap, brwV, brwC, evS, eget, strip, hget, leVL, leV, leC, leL, ord2]; done)); (focus (simp [noV, noC, flatR, flatV, flatC, evS, eget, strip, ord2]; done)))
    | (with_reducible refine And.intro (And.intro ?_ ?_) ?_)
    | fail)
theorem rord_code : cfun Try.prog [] 84 = some ⟨(.seq (.region 0 [⟨(some 2), (.box (.t 0)), none⟩, ⟨(some 3), (.box (.t 1)), none⟩, ⟨(some 4), (.mov (.k (.int .i64 0))), none⟩]) (.seq (.draw 1 (.one true ⟨(some 5), (.fad 0 (.t 2)), none⟩ (.one true ⟨(some 6), (.load false 1 (.t 5)), none⟩ (.one true ⟨(some 7), (.fad 0 (.t 3)), none⟩ (.one true ⟨(some 8), (.load false 1 (.t 7)), none⟩ (.one true ⟨(some 10), (.fad 1 (.t 2)), none⟩ (.one true ⟨(some 11), (.load false 1 (.t 10)), none⟩ (.one true ⟨(some 12), (.fad 1 (.t 3)), none⟩ (.one true ⟨(some 13), (.load false 1 (.t 12)), none⟩ (.one true ⟨(some 9), (.call 114 [(.t 6), (.t 8)]), none⟩ (.one true ⟨(some 14), (.call 114 [(.t 11), (.t 13)]), none⟩ (.one true ⟨(some 15), (.bslice 1 2 [(.int .i64 0)] [(0, (.t 9)), (1, (.t 14))]), none⟩ (.one true ⟨(some 16), (.call 113 [(.t 15)]), none⟩ (.one true ⟨(some 4), (.mov (.t 16)), none⟩ .done)))))))))))))) .ret)), [(.t 4)], 17⟩ := by kernel_rfl
theorem rord_pf (a b c d : Int) : PF Try.prog 84 [.agg [I a, I b], .agg [I c, I d]] (I (ord2 a b c d)) := by
  have h1 := ccmp_pf a c
  have h2 := ccmp_pf b d
  have h3 := cor_pf (cmpZ a c) (cmpZ b d)
  refine PF.of follows_ok rord_code (by simp) (by simp [argOk]) (by simp [noV, noC]) fun B hBN hB0 => acode_sound [0, 1, 2, 3, 4] [] _ _ _ ?_
  repeat' (first
    | simp [AK_at, acode_seq, acode_region, acode_draw, acode_cond, ↓CB_t, ↓CB_f, CB_u, acode_block, acode_loop, acode_exit, acode_scope, acode_ret, acode_skip, seqQ_n, seqQ_e, seqQ_r, blockQ_n, blockQ_e, blockQ_r, TK_at, OK_at, SK_at, aops_nil, aops_cons, asch_done, asch_one, asch_two, asch_top, astep, aop_eq, isLoud, aloud, aloud1, isWrite, qv, evS, strip, gof, eget, hget, putO, eput, herase, oks, opnds, gS, afin, afin0, binD, arith, D.cells, takeD, fillD, keep, trim, envOf, Fin, aresl, aresv, resD, argOk, pickV, isP, deq, deqs, boundD, slD, lenD, isT, isSl, ptrIds, chunks, mn_min, mx_max, D.cells, splice_one, splice_more, Rbr_at, Rfr_at, frR, frV, frC, flatC, brwR, brwV, brwC, omap, leR, leV, leC, leL, leVL, ord2]
    | (refine WCall.pf (h1) ?_ ?_ ?_ ?_; (focus (simp [oks, opnds, gS, gof, eget]; done)); (focus (simp [omap, brwV, brwC, evS, eget, strip, hget, leVL, leV, leC, leL, ord2]; done)); (focus (simp [noV, noC, flatR, flatV, flatC, evS, eget, strip, ord2]; done)))
    | (refine ⟨WCall.pf (h1) ?_ ?_ ?_ ?_, ?_⟩; (focus (simp [oks, opnds, gS, gof, eget]; done)); (focus (simp [omap, brwV, brwC, evS, eget, strip, hget, leVL, leV, leC, leL, ord2]; done)); (focus (simp [noV, noC, flatR, flatV, flatC, evS, eget, strip, ord2]; done)))
    | (refine WCall.pf (h2) ?_ ?_ ?_ ?_; (focus (simp [oks, opnds, gS, gof, eget]; done)); (focus (simp [omap, brwV, brwC, evS, eget, strip, hget, leVL, leV, leC, leL, ord2]; done)); (focus (simp [noV, noC, flatR, flatV, flatC, evS, eget, strip, ord2]; done)))
    | (refine ⟨WCall.pf (h2) ?_ ?_ ?_ ?_, ?_⟩; (focus (simp [oks, opnds, gS, gof, eget]; done)); (focus (simp [omap, brwV, brwC, evS, eget, strip, hget, leVL, leV, leC, leL, ord2]; done)); (focus (simp [noV, noC, flatR, flatV, flatC, evS, eget, strip, ord2]; done)))
    | (refine WCall.pf (h3) ?_ ?_ ?_ ?_; (focus (simp [oks, opnds, gS, gof, eget]; done)); (focus (simp [omap, brwV, brwC, evS, eget, strip, hget, leVL, leV, leC, leL, ord2]; done)); (focus (simp [noV, noC, flatR, flatV, flatC, evS, eget, strip, ord2]; done)))
    | (refine ⟨WCall.pf (h3) ?_ ?_ ?_ ?_, ?_⟩; (focus (simp [oks, opnds, gS, gof, eget]; done)); (focus (simp [omap, brwV, brwC, evS, eget, strip, hget, leVL, leV, leC, leL, ord2]; done)); (focus (simp [noV, noC, flatR, flatV, flatC, evS, eget, strip, ord2]; done)))
    | (with_reducible refine And.intro (And.intro ?_ ?_) ?_)
    | fail)
theorem tisf_code : cfun Try.prog [] 102 = some ⟨(.seq (.region 0 [⟨(some 4), (.mov (.k (.bool false))), none⟩]) (.seq (.seq (.region 1 [⟨(some 6), (.mov (.t 0)), none⟩, ⟨(some 7), (.len (.t 6)), none⟩, ⟨(some 8), (.bin .sub (.t 7) (.k (.int .i64 1))), none⟩, ⟨(some 5), (.mov (.t 8)), none⟩]) (.block 0 (.loop (.seq (.seq (.region 2 [⟨(some 9), (.mov (.t 5)), none⟩, ⟨(some 10), (.bin .gtr (.t 9) (.k (.int .i64 0))), none⟩]) (.cond 10 .skip (.exit 0))) (.seq (.block 1 (.seq (.draw 4 (.one true ⟨(some 13), (.mov (.t 1)), none⟩ (.one true ⟨(some 14), (.mov (.t 0)), none⟩ (.one true ⟨(some 15), (.mov (.t 5)), none⟩ (.one true ⟨(some 16), (.iads 2 (.t 14) (.t 15)), none⟩ (.one true ⟨(some 17), (.load true 2 (.t 16)), none⟩ (.one true ⟨(some 18), (.mov (.t 0)), none⟩ (.one true ⟨(some 19), (.mov (.t 5)), none⟩ (.one true ⟨(some 20), (.bin .sub (.t 19) (.k (.int .i64 1))), none⟩ (.one true ⟨(some 21), (.iads 2 (.t 18) (.t 20)), none⟩ (.one true ⟨(some 22), (.load true 2 (.t 21)), none⟩ (.one false ⟨(some 23), (.callv (.t 13) [(.t 17), (.t 22)]), none⟩ (.one true ⟨(some 24), (.bin .lss (.t 23) (.k (.int .i64 0))), none⟩ .done))))))))))))) (.cond 24 (.seq (.region 5 [⟨(some 4), (.mov (.k (.bool false))), none⟩]) .ret) .skip))) (.region 3 [⟨(some 11), (.mov (.t 5)), none⟩, ⟨(some 12), (.bin .sub (.t 11) (.k (.int .i64 1))), none⟩, ⟨(some 5), (.mov (.t 12)), none⟩])))))) (.seq (.region 6 [⟨(some 4), (.mov (.k (.bool true))), none⟩]) .ret))), [(.t 4)], 25⟩ := by kernel_rfl
theorem tisf_pf {α : Type} (E : α → List D) (l : List α) (F : FuncId) (cf : α → α → Int) (hl : l.length ≤ 1000000) (hE : Els 2 E l) (hF : ∀ s ∈ l, ∀ t ∈ l, PF Try.prog F [.agg (E s), .agg (E t)] (I (cf s t)))
    (hs : ∀ i (hi : i + 1 < l.length), ¬ cf l[i + 1] l[i] < 0) : PF Try.prog 102 [.rows 2 (l.map E), .fn F []] (.bool true) := by
  have i0 : InR ((l.length : Int) - 1) := inW (by omega) (by omega)
  refine PF.of follows_ok tisf_code (by simp) (by simp [argOk]) (by simp [noV, noC]) fun B hBN hB0 => acode_sound [0, 1, 4, 5, 10, 24] [] _ _ _ ?_
  simp [AK_at, acode_seq, acode_region, acode_draw, acode_cond, ↓CB_t, ↓CB_f, CB_u, acode_block, acode_loop, acode_exit, acode_scope, acode_ret, acode_skip, seqQ_n, seqQ_e, seqQ_r, blockQ_n, blockQ_e, blockQ_r, TK_at, OK_at, SK_at, aops_nil, aops_cons, asch_done, asch_one, asch_two, asch_top, astep, aop_eq, isLoud, aloud, aloud1, isWrite, qv, evS, strip, gof, eget, hget, putO, eput, herase, oks, opnds, gS, afin, afin0, binD, arith, D.cells, takeD, fillD, keep, trim, envOf, Fin, aresl, aresv, resD, argOk, pickV, isP, deq, deqs, boundD, slD, lenD, isT, isSl, ptrIds, chunks, mn_min, mx_max, D.cells, splice_one, splice_more, Rbr_at, Rfr_at, frR, frV, frC, flatC, brwR, brwV, brwC, omap, leR, leV, leC, leL, leVL, i0]
  refine W.loopS (fun z : Int => ⟨[(5, I z), (4, .bool false), (1, .fn F []), (0, D.rows 2 (l.map E))], [], 0⟩)
    (fun n z => n = (z + 1).toNat ∧ -1 ≤ z ∧ z < l.length) ?_ ?_
  · exact ⟨_, (l.length : Int) - 1, (Gh.ren [] (by simp [hB0]) (by simp [hB0] <;> decide) (by simp [eget, rnS, rnR, rnV, rnC, LtS, LtR, LtV, LtC, lget]) (by simp [hget, rnO, rnC, LtO, LtC, lget]) (.inr rfl)), rfl, by omega, by omega⟩
  rintro n z ⟨hn, h1, h2⟩
  refine acode_sound [0, 1, 4, 5, 10, 24] [] _ _ _ ?_
  by_cases hz : 0 < z
  · obtain ⟨i, rfl⟩ : ∃ i : Nat, z = (i : Int) + 1 := ⟨(z - 1).toNat, by omega⟩
    have hil : i + 1 < l.length := by omega
    have hil0 : i < l.length := by omega
    have hm1 : l[i + 1] ∈ l := List.getElem_mem hil
    have hm0 : l[i] ∈ l := List.getElem_mem hil0
    have hE1 := hE _ hm1
    have hE0 := hE _ hm0
    have hFo := hF _ hm1 _ hm0
    have hsi := hs i hil
    obtain ⟨o, ho⟩ : ∃ o, o = l[i + 1] := ⟨_, rfl⟩
    obtain ⟨p, hp⟩ : ∃ p, p = l[i] := ⟨_, rfl⟩
    rw [← ho] at hE1 hFo hsi
    rw [← hp] at hE0 hFo hsi
    obtain ⟨a1, a2⟩ := hE1
    obtain ⟨b1, b2⟩ := hE0
    have a3 : (E o).take 2 = E o := List.take_of_length_le (by omega)
    have a4 := fun H n => brw_T H n (E o) a2
    have b3 : (E p).take 2 = E p := List.take_of_length_le (by omega)
    have b4 := fun H n => brw_T H n (E p) b2
    have ii : InR (i : Int) := inW (by omega) (by omega)
    have e1 : (i : Int) + 1 - 1 = i := by omega
    have e2 : ((i : Int) + 1).toNat = i + 1 := by omega
    have p1 : (0 : Int) < (i : Int) + 1 := by omega
    have p2 : (0 : Int) ≤ (i : Int) + 1 := by omega
    have p3 : (i : Int) + 1 < l.length := by omega
    repeat' (first
      | simp [AK_at, acode_seq, acode_region, acode_draw, acode_cond, ↓CB_t, ↓CB_f, CB_u, acode_block, acode_loop, acode_exit, acode_scope, acode_ret, acode_skip, seqQ_n, seqQ_e, seqQ_r, blockQ_n, blockQ_e, blockQ_r, TK_at, OK_at, SK_at, aops_nil, aops_cons, asch_done, asch_one, asch_two, asch_top, astep, aop_eq, isLoud, aloud, aloud1, isWrite, qv, evS, strip, gof, eget, hget, putO, eput, herase, oks, opnds, gS, afin, afin0, binD, arith, D.cells, takeD, fillD, keep, trim, envOf, Fin, aresl, aresv, resD, argOk, pickV, isP, deq, deqs, boundD, slD, lenD, isT, isSl, ptrIds, chunks, mn_min, mx_max, D.cells, splice_one, splice_more, Rbr_at, Rfr_at, frR, frV, frC, flatC, brwR, brwV, brwC, omap, leR, leV, leC, leL, leVL, hil, hil0, ← ho, ← hp, a1, a3, a4, b1, b3, b4, ii, e1, e2, p1, p2, p3, leL_refl, hsi]
      | (refine WCall.pfv (hFo) ?_ rfl ?_ ?_ ?_; (focus (simp [oks, opnds, gS, gof, eget]; done)); (focus (simp [omap, brwV, brwC, evS, eget, strip, hget, leVL, leV, leC, leL, hil, hil0, ← ho, ← hp, a1, a3, a4, b1, b3, b4, ii, e1, e2, p1, p2, p3, leL_refl, hsi]; done)); (focus (simp [noV, noC, flatR, flatV, flatC, evS, eget, strip, hil, hil0, ← ho, ← hp, a1, a3, a4, b1, b3, b4, ii, e1, e2, p1, p2, p3, leL_refl, hsi]; done)))
      | (refine ⟨WCall.pfv (hFo) ?_ rfl ?_ ?_ ?_, ?_⟩; (focus (simp [oks, opnds, gS, gof, eget]; done)); (focus (simp [omap, brwV, brwC, evS, eget, strip, hget, leVL, leV, leC, leL, hil, hil0, ← ho, ← hp, a1, a3, a4, b1, b3, b4, ii, e1, e2, p1, p2, p3, leL_refl, hsi]; done)); (focus (simp [noV, noC, flatR, flatV, flatC, evS, eget, strip, hil, hil0, ← ho, ← hp, a1, a3, a4, b1, b3, b4, ii, e1, e2, p1, p2, p3, leL_refl, hsi]; done)))
      | (with_reducible refine And.intro (And.intro ?_ ?_) ?_)
      | fail)
    exact ⟨_, (i : Int), (Gh.ren [] (by simp [hB0]) (by simp [hB0] <;> decide) (by simp [eget, rnS, rnR, rnV, rnC, LtS, LtR, LtV, LtC, lget]) (by simp [hget, rnO, rnC, LtO, LtC, lget]) (.inr rfl)), by omega, rfl, by omega, by omega⟩
  · simp [AK_at, acode_seq, acode_region, acode_draw, acode_cond, ↓CB_t, ↓CB_f, CB_u, acode_block, acode_loop, acode_exit, acode_scope, acode_ret, acode_skip, seqQ_n, seqQ_e, seqQ_r, blockQ_n, blockQ_e, blockQ_r, TK_at, OK_at, SK_at, aops_nil, aops_cons, asch_done, asch_one, asch_two, asch_top, astep, aop_eq, isLoud, aloud, aloud1, isWrite, qv, evS, strip, gof, eget, hget, putO, eput, herase, oks, opnds, gS, afin, afin0, binD, arith, D.cells, takeD, fillD, keep, trim, envOf, Fin, aresl, aresv, resD, argOk, pickV, isP, deq, deqs, boundD, slD, lenD, isT, isSl, ptrIds, chunks, mn_min, mx_max, D.cells, splice_one, splice_more, Rbr_at, Rfr_at, frR, frV, frC, flatC, brwR, brwV, brwC, omap, leR, leV, leC, leL, leVL, hz]
theorem speq_code : cfun Try.prog [] 109 = some ⟨(.seq (.region 0 [⟨(some 4), (.mov (.k (.bool false))), none⟩]) (.seq (.seq (.region 1 [⟨(some 6), (.mov (.t 0)), none⟩, ⟨(some 7), (.len (.t 6)), none⟩, ⟨(some 8), (.mov (.t 1)), none⟩, ⟨(some 9), (.len (.t 8)), none⟩, ⟨(some 10), (.bin .neq (.t 7) (.t 9)), none⟩]) (.cond 10 (.seq (.region 2 [⟨(some 4), (.mov (.k (.bool false))), none⟩]) .ret) .skip)) (.seq (.seq (.region 3 [⟨(some 11), (.mov (.t 0)), none⟩, ⟨(some 12), (.len (.t 11)), none⟩, ⟨(some 13), (.mov (.k (.int .i64 0))), none⟩]) (.block 0 (.loop (.seq (.region 4 [⟨(some 14), (.bin .lss (.t 13) (.t 12)), none⟩]) (.seq (.cond 14 .skip (.exit 0)) (.seq (.block 1 (.seq (.region 5 [⟨(some 15), (.mov (.t 13)), none⟩, ⟨(some 5), (.mov (.t 15)), none⟩]) (.seq (.draw 6 (.one true ⟨(some 16), (.mov (.t 0)), none⟩ (.one true ⟨(some 17), (.mov (.t 5)), none⟩ (.one true ⟨(some 18), (.iads 2 (.t 16) (.t 17)), none⟩ (.one true ⟨(some 19), (.load true 2 (.t 18)), none⟩ (.one true ⟨(some 20), (.mov (.t 1)), none⟩ (.one true ⟨(some 21), (.mov (.t 5)), none⟩ (.one true ⟨(some 22), (.iads 2 (.t 20) (.t 21)), none⟩ (.one true ⟨(some 23), (.load true 2 (.t 22)), none⟩ (.one true ⟨(some 24), (.eqa true [.i, .i] (.t 19) (.t 23)), none⟩ .done)))))))))) (.cond 24 (.seq (.region 7 [⟨(some 4), (.mov (.k (.bool false))), none⟩]) .ret) .skip)))) (.region 8 [⟨(some 25), (.bin .add (.t 13) (.k (.int .i64 1))), none⟩, ⟨(some 13), (.mov (.t 25)), none⟩]))))))) (.seq (.region 9 [⟨(some 4), (.mov (.k (.bool true))), none⟩]) .ret)))), [(.t 4)], 26⟩ := by kernel_rfl
theorem speq_pf (l : List (Int × Int)) (hl : l.length ≤ 1000000) : PF Try.prog 109 [.rows 2 (l.map fun s => [I s.1, I s.2]), .rows 2 (l.map fun s => [I s.1, I s.2])] (.bool true) := by
  refine PF.of follows_ok speq_code (by simp) (by simp [argOk]) (by simp [noV, noC]) fun B hBN hB0 => acode_sound [0, 1, 4, 5, 10, 12, 13, 14, 24] [] _ _ _ ?_
  simp [AK_at, acode_seq, acode_region, acode_draw, acode_cond, ↓CB_t, ↓CB_f, CB_u, acode_block, acode_loop, acode_exit, acode_scope, acode_ret, acode_skip, seqQ_n, seqQ_e, seqQ_r, blockQ_n, blockQ_e, blockQ_r, TK_at, OK_at, SK_at, aops_nil, aops_cons, asch_done, asch_one, asch_two, asch_top, astep, aop_eq, isLoud, aloud, aloud1, isWrite, qv, evS, strip, gof, eget, hget, putO, eput, herase, oks, opnds, gS, afin, afin0, binD, arith, D.cells, takeD, fillD, keep, trim, envOf, Fin, aresl, aresv, resD, argOk, pickV, isP, deq, deqs, boundD, slD, lenD, isT, isSl, ptrIds, chunks, mn_min, mx_max, D.cells, splice_one, splice_more, Rbr_at, Rfr_at, frR, frV, frC, flatC, brwR, brwV, brwC, omap, leR, leV, leC, leL, leVL]
  refine W.loopS (fun i : Nat => ⟨[(13, I i), (12, I l.length), (4, .bool false), (1, D.rows 2 (l.map fun s => [I s.1, I s.2])), (0, D.rows 2 (l.map fun s => [I s.1, I s.2]))], [], 0⟩)
    (fun n i => n = l.length - i ∧ i ≤ l.length) ?_ ?_
  · exact ⟨_, 0, (Gh.ren [] (by simp [hB0]) (by simp [hB0] <;> decide) (by simp [eget, rnS, rnR, rnV, rnC, LtS, LtR, LtV, LtC, lget]) (by simp [hget, rnO, rnC, LtO, LtC, lget]) (.inr rfl)), rfl, by omega⟩
  rintro n i ⟨hn, hi⟩
  refine acode_sound [0, 1, 4, 5, 10, 12, 13, 14, 24] [] _ _ _ ?_
  by_cases hlt : i < l.length
  · have ii : InR ((i : Int) + 1) := inW (by omega) (by omega)
    simp [AK_at, acode_seq, acode_region, acode_draw, acode_cond, ↓CB_t, ↓CB_f, CB_u, acode_block, acode_loop, acode_exit, acode_scope, acode_ret, acode_skip, seqQ_n, seqQ_e, seqQ_r, blockQ_n, blockQ_e, blockQ_r, TK_at, OK_at, SK_at, aops_nil, aops_cons, asch_done, asch_one, asch_two, asch_top, astep, aop_eq, isLoud, aloud, aloud1, isWrite, qv, evS, strip, gof, eget, hget, putO, eput, herase, oks, opnds, gS, afin, afin0, binD, arith, D.cells, takeD, fillD, keep, trim, envOf, Fin, aresl, aresv, resD, argOk, pickV, isP, deq, deqs, boundD, slD, lenD, isT, isSl, ptrIds, chunks, mn_min, mx_max, D.cells, splice_one, splice_more, Rbr_at, Rfr_at, frR, frV, frC, flatC, brwR, brwV, brwC, omap, leR, leV, leC, leL, leVL, hlt, ii]
    exact ⟨_, i + 1, (Gh.ren [] (by simp [hB0]) (by simp [hB0] <;> decide) (by simp [eget, rnS, rnR, rnV, rnC, LtS, LtR, LtV, LtC, lget]) (by simp [hget, rnO, rnC, LtO, LtC, lget]) (.inr rfl)), by omega, rfl, by omega⟩
  · obtain rfl : i = l.length := by omega
    simp [AK_at, acode_seq, acode_region, acode_draw, acode_cond, ↓CB_t, ↓CB_f, CB_u, acode_block, acode_loop, acode_exit, acode_scope, acode_ret, acode_skip, seqQ_n, seqQ_e, seqQ_r, blockQ_n, blockQ_e, blockQ_r, TK_at, OK_at, SK_at, aops_nil, aops_cons, asch_done, asch_one, asch_two, asch_top, astep, aop_eq, isLoud, aloud, aloud1, isWrite, qv, evS, strip, gof, eget, hget, putO, eput, herase, oks, opnds, gS, afin, afin0, binD, arith, D.cells, takeD, fillD, keep, trim, envOf, Fin, aresl, aresv, resD, argOk, pickV, isP, deq, deqs, boundD, slD, lenD, isT, isSl, ptrIds, chunks, mn_min, mx_max, D.cells, splice_one, splice_more, Rbr_at, Rfr_at, frR, frV, frC, flatC, brwR, brwV, brwC, omap, leR, leV, leC, leL, leVL]
theorem iidx_code : cfun Try.prog [] 118 = some ⟨(.seq (.region 0 [⟨(some 4), (.mov (.k (.int .i64 0))), none⟩]) (.seq (.seq (.region 1 [⟨(some 6), (.mov (.t 0)), none⟩, ⟨(some 7), (.len (.t 6)), none⟩, ⟨(some 8), (.mov (.k (.int .i64 0))), none⟩]) (.block 0 (.loop (.seq (.region 2 [⟨(some 9), (.bin .lss (.t 8) (.t 7)), none⟩]) (.seq (.cond 9 .skip (.exit 0)) (.seq (.block 1 (.seq (.region 3 [⟨(some 10), (.mov (.t 8)), none⟩, ⟨(some 5), (.mov (.t 10)), none⟩]) (.seq (.region 4 [⟨(some 11), (.mov (.t 1)), none⟩, ⟨(some 12), (.mov (.t 0)), none⟩, ⟨(some 13), (.mov (.t 5)), none⟩, ⟨(some 14), (.iads 1 (.t 12) (.t 13)), none⟩, ⟨(some 15), (.load false 1 (.t 14)), none⟩, ⟨(some 16), (.bin .eql (.t 11) (.t 15)), none⟩]) (.cond 16 (.seq (.region 5 [⟨(some 17), (.mov (.t 5)), none⟩, ⟨(some 4), (.mov (.t 17)), none⟩]) .ret) .skip)))) (.region 6 [⟨(some 18), (.bin .add (.t 8) (.k (.int .i64 1))), none⟩, ⟨(some 8), (.mov (.t 18)), none⟩]))))))) (.seq (.region 7 [⟨(some 4), (.mov (.k (.int .i64 (-1)))), none⟩]) .ret))), [(.t 4)], 19⟩ := by kernel_rfl
theorem iidx_pf (l : List Int) (b : Int) (hl : l.length ≤ 1000000) : PF Try.prog 118 [.rows 1 (l.map fun z => [I z]), I b] (I (idxZ (fun z => decide (b = z)) l)) := by
  refine PF.of follows_ok iidx_code (by simp) (by simp [argOk]) (by simp [noV, noC]) fun B hBN hB0 => acode_sound [0, 1, 4, 5, 7, 8, 9, 16] [] _ _ _ ?_
  simp [AK_at, acode_seq, acode_region, acode_draw, acode_cond, ↓CB_t, ↓CB_f, CB_u, acode_block, acode_loop, acode_exit, acode_scope, acode_ret, acode_skip, seqQ_n, seqQ_e, seqQ_r, blockQ_n, blockQ_e, blockQ_r, TK_at, OK_at, SK_at, aops_nil, aops_cons, asch_done, asch_one, asch_two, asch_top, astep, aop_eq, isLoud, aloud, aloud1, isWrite, qv, evS, strip, gof, eget, hget, putO, eput, herase, oks, opnds, gS, afin, afin0, binD, arith, D.cells, takeD, fillD, keep, trim, envOf, Fin, aresl, aresv, resD, argOk, pickV, isP, deq, deqs, boundD, slD, lenD, isT, isSl, ptrIds, chunks, mn_min, mx_max, D.cells, splice_one, splice_more, Rbr_at, Rfr_at, frR, frV, frC, flatC, brwR, brwV, brwC, omap, leR, leV, leC, leL, leVL]
  refine W.loopS (fun i : Nat => ⟨[(8, I i), (7, I l.length), (4, I 0), (1, I b), (0, D.rows 1 (l.map fun z => [I z]))], [], 0⟩)
    (fun n i => n = l.length - i ∧ i ≤ l.length ∧ ∀ j (hj : j < l.length), j < i → ¬ b = l[j]) ?_ ?_
  · exact ⟨_, 0, (Gh.ren [] (by simp [hB0]) (by simp [hB0] <;> decide) (by simp [eget, rnS, rnR, rnV, rnC, LtS, LtR, LtV, LtC, lget]) (by simp [hget, rnO, rnC, LtO, LtC, lget]) (.inr rfl)), rfl, by omega, fun j _ h => by omega⟩
  rintro n i ⟨hn, hi, hb⟩
  refine acode_sound [0, 1, 4, 5, 7, 8, 9, 16] [] _ _ _ ?_
  by_cases hlt : i < l.length
  · have ii : InR ((i : Int) + 1) := inW (by omega) (by omega)
    by_cases hq : b = l[i]
    · have hz := idxZ_at (fun z => decide (b = z)) l i hlt (fun j hj => by simpa using hb j (by omega) hj) (by simpa using hq)
      simp [AK_at, acode_seq, acode_region, acode_draw, acode_cond, ↓CB_t, ↓CB_f, CB_u, acode_block, acode_loop, acode_exit, acode_scope, acode_ret, acode_skip, seqQ_n, seqQ_e, seqQ_r, blockQ_n, blockQ_e, blockQ_r, TK_at, OK_at, SK_at, aops_nil, aops_cons, asch_done, asch_one, asch_two, asch_top, astep, aop_eq, isLoud, aloud, aloud1, isWrite, qv, evS, strip, gof, eget, hget, putO, eput, herase, oks, opnds, gS, afin, afin0, binD, arith, D.cells, takeD, fillD, keep, trim, envOf, Fin, aresl, aresv, resD, argOk, pickV, isP, deq, deqs, boundD, slD, lenD, isT, isSl, ptrIds, chunks, mn_min, mx_max, D.cells, splice_one, splice_more, Rbr_at, Rfr_at, frR, frV, frC, flatC, brwR, brwV, brwC, omap, leR, leV, leC, leL, leVL, hlt, ← hq, hz]
    · simp [AK_at, acode_seq, acode_region, acode_draw, acode_cond, ↓CB_t, ↓CB_f, CB_u, acode_block, acode_loop, acode_exit, acode_scope, acode_ret, acode_skip, seqQ_n, seqQ_e, seqQ_r, blockQ_n, blockQ_e, blockQ_r, TK_at, OK_at, SK_at, aops_nil, aops_cons, asch_done, asch_one, asch_two, asch_top, astep, aop_eq, isLoud, aloud, aloud1, isWrite, qv, evS, strip, gof, eget, hget, putO, eput, herase, oks, opnds, gS, afin, afin0, binD, arith, D.cells, takeD, fillD, keep, trim, envOf, Fin, aresl, aresv, resD, argOk, pickV, isP, deq, deqs, boundD, slD, lenD, isT, isSl, ptrIds, chunks, mn_min, mx_max, D.cells, splice_one, splice_more, Rbr_at, Rfr_at, frR, frV, frC, flatC, brwR, brwV, brwC, omap, leR, leV, leC, leL, leVL, hlt, hq, ii]
      exact ⟨_, i + 1, (Gh.ren [] (by simp [hB0]) (by simp [hB0] <;> decide) (by simp [eget, rnS, rnR, rnV, rnC, LtS, LtR, LtV, LtC, lget]) (by simp [hget, rnO, rnC, LtO, LtC, lget]) (.inr rfl)), by omega, rfl, by omega, fun j hj h => by
        by_cases hji : j = i
        · subst hji; exact hq
        · exact hb j hj (by omega)⟩
  · have hz := idxZ_none (fun z => decide (b = z)) l fun x hx => by
      obtain ⟨j, hj⟩ := List.getElem?_of_mem hx
      obtain ⟨hj2, rfl⟩ := List.getElem?_eq_some_iff.1 hj
      simpa using hb j hj2 (by omega)
    obtain rfl : i = l.length := by omega
    simp [AK_at, acode_seq, acode_region, acode_draw, acode_cond, ↓CB_t, ↓CB_f, CB_u, acode_block, acode_loop, acode_exit, acode_scope, acode_ret, acode_skip, seqQ_n, seqQ_e, seqQ_r, blockQ_n, blockQ_e, blockQ_r, TK_at, OK_at, SK_at, aops_nil, aops_cons, asch_done, asch_one, asch_two, asch_top, astep, aop_eq, isLoud, aloud, aloud1, isWrite, qv, evS, strip, gof, eget, hget, putO, eput, herase, oks, opnds, gS, afin, afin0, binD, arith, D.cells, takeD, fillD, keep, trim, envOf, Fin, aresl, aresv, resD, argOk, pickV, isP, deq, deqs, boundD, slD, lenD, isT, isSl, ptrIds, chunks, mn_min, mx_max, D.cells, splice_one, splice_more, Rbr_at, Rfr_at, frR, frV, frC, flatC, brwR, brwV, brwC, omap, leR, leV, leC, leL, leVL, hz]
theorem idxZ_mem (l : List Int) (b : Int) : 0 ≤ idxZ (fun z => decide (b = z)) l ↔ b ∈ l := by
  constructor
  · intro h
    obtain ⟨h1, h2, _⟩ := idxZ_get _ l h
    have h3 : b = l[(idxZ (fun z => decide (b = z)) l).toNat] := by simpa using h2
    exact h3 ▸ List.getElem_mem h1
  · intro h
    exact idxZ_some _ l ⟨b, h, by simp⟩
theorem icon_code : cfun Try.prog [] 88 = some ⟨(.seq (.region 0 [⟨(some 4), (.mov (.k (.bool false))), none⟩]) (.seq (.region 1 [⟨(some 5), (.mov (.t 0)), none⟩, ⟨(some 6), (.mov (.t 1)), none⟩, ⟨(some 7), (.call 118 [(.t 5), (.t 6)]), none⟩, ⟨(some 8), (.bin .geq (.t 7) (.k (.int .i64 0))), none⟩, ⟨(some 4), (.mov (.t 8)), none⟩]) .ret)), [(.t 4)], 9⟩ := by kernel_rfl
theorem icon_pf (l : List Int) (b : Int) (hl : l.length ≤ 1000000) : PF Try.prog 88 [.rows 1 (l.map fun z => [I z]), I b] (.bool (decide (b ∈ l))) := by
  have h1 := iidx_pf l b hl
  have h2 := idxZ_mem l b
  refine PF.of follows_ok icon_code (by simp) (by simp [argOk]) (by simp [noV, noC]) fun B hBN hB0 => acode_sound [0, 1, 4] [] _ _ _ ?_
  repeat' (first
    | simp [AK_at, acode_seq, acode_region, acode_draw, acode_cond, ↓CB_t, ↓CB_f, CB_u, acode_block, acode_loop, acode_exit, acode_scope, acode_ret, acode_skip, seqQ_n, seqQ_e, seqQ_r, blockQ_n, blockQ_e, blockQ_r, TK_at, OK_at, SK_at, aops_nil, aops_cons, asch_done, asch_one, asch_two, asch_top, astep, aop_eq, isLoud, aloud, aloud1, isWrite, qv, evS, strip, gof, eget, hget, putO, eput, herase, oks, opnds, gS, afin, afin0, binD, arith, D.cells, takeD, fillD, keep, trim, envOf, Fin, aresl, aresv, resD, argOk, pickV, isP, deq, deqs, boundD, slD, lenD, isT, isSl, ptrIds, chunks, mn_min, mx_max, D.cells, splice_one, splice_more, Rbr_at, Rfr_at, frR, frV, frC, flatC, brwR, brwV, brwC, omap, leR, leV, leC, leL, leVL, h2]
    | (refine WCall.pf (h1) ?_ ?_ ?_ ?_; (focus (simp [oks, opnds, gS, gof, eget]; done)); (focus (simp [omap, brwV, brwC, evS, eget, strip, hget, leVL, leV, leC, leL, h2]; done)); (focus (simp [noV, noC, flatR, flatV, flatC, evS, eget, strip, h2]; done)))
    | (refine ⟨WCall.pf (h1) ?_ ?_ ?_ ?_, ?_⟩; (focus (simp [oks, opnds, gS, gof, eget]; done)); (focus (simp [omap, brwV, brwC, evS, eget, strip, hget, leVL, leV, leC, leL, h2]; done)); (focus (simp [noV, noC, flatR, flatV, flatC, evS, eget, strip, h2]; done)))
    | (with_reducible refine And.intro (And.intro ?_ ?_) ?_)
    | fail)
end Go.Proofs.Ytfkeddefajkobaa

set_option linter.unusedSimpArgs false
set_option linter.unusedVariables false
set_option maxRecDepth 100000
set_option maxHeartbeats 4000000
namespace Go.Proofs.Ytfkeddefajkobaa
open Go.RowKit
theorem inG {z : Int} (h1 : -9223372036854775808 ≤ z) (h2 : z ≤ 9223372036854775807) : InR z := ⟨h1, h2⟩
theorem hspot_pf (b i : Int) (hb : 0 ≤ b) (hb' : b < 12) (hi : 0 ≤ i) (hi' : i < 32) : PF Try.prog 110 [I b, I i] (.tup [I (spotN b.toNat i.toNat : Nat), I 0]) := by
  refine ⟨by kernel_rfl, fun Z w vs hz hl hv => ?_⟩
  obtain ⟨v0, v1, rfl⟩ : ∃ v0 v1, vs = #[v0, v1] := by
    match vs, hl with
    | ⟨[v0, v1]⟩, _ => exact ⟨_, _, rfl⟩
  have e0 : v0 = .int .i64 b := vtInt (hv 0 _ rfl)
  have e1 : v1 = .int .i64 i := vtInt (hv 1 _ rfl)
  subst e0 e1
  refine (hashSpot_any b i w hb hb' hi hi').mono fun e w' ⟨he, hB⟩ => ⟨_, Z, he, ⟨_, rfl, rfl, fun j x h => ?_⟩, Zx.refl hz hB, hB⟩
  match j, h with
  | 0, h => obtain rfl := Option.some.inj h; exact VT.int _ _
  | 1, h => obtain rfl := Option.some.inj h; exact VT.int _ _
  | j + 2, h => simp at h
theorem hkey_pf (k : Int) (h0 : 0 ≤ k) (h1 : k < 4294967296) : PF Try.prog 52 [I k] (.tup [I (keyN k.toNat : Nat), I 0]) := by
  refine ⟨by kernel_rfl, fun Z w vs hz hl hv => ?_⟩
  obtain ⟨v0, rfl⟩ : ∃ v0, vs = #[v0] := by
    match vs, hl with
    | ⟨[v0]⟩, _ => exact ⟨_, rfl⟩
  have e0 : v0 = .int .i64 k := vtInt (hv 0 _ rfl)
  subst e0
  refine (hashKey_any k w h0 h1).mono fun e w' ⟨he, hB⟩ => ⟨_, Z, he, ⟨_, rfl, rfl, fun j x h => ?_⟩, Zx.refl hz hB, hB⟩
  match j, h with
  | 0, h => obtain rfl := Option.some.inj h; exact VT.int _ _
  | 1, h => obtain rfl := Option.some.inj h; exact VT.int _ _
  | j + 2, h => simp at h
def spotAt (b i : Nat) : Int × Int := ((spotN b i : Nat), b)
def spotsM (b n : Nat) : List (Int × Int) := (List.range n).map (spotAt b)
theorem spotsM_succ (b n : Nat) : spotsM b (n + 1) = spotsM b n ++ [spotAt b n] := by unfold spotsM; rw [List.range_succ, List.map_append]; rfl
theorem spotsM_len (b n : Nat) : (spotsM b n).length = n := by simp [spotsM]
theorem rspots_code : cfun Try.prog [] 82 = some ⟨(.seq (.region 0 [⟨(some 4), (.mov (.k .nil0)), none⟩]) (.seq (.region 1 [⟨(some 5), (.mov (.k .nil0)), none⟩]) (.seq (.seq (.region 2 [⟨(some 9), (.mov (.t 1)), none⟩, ⟨(some 10), (.bin .mul (.t 9) (.k (.int .i64 4))), none⟩, ⟨(some 11), (.mov (.k (.int .i64 0))), none⟩]) (.block 0 (.loop (.seq (.region 3 [⟨(some 12), (.bin .lss (.t 11) (.t 10)), none⟩]) (.seq (.cond 12 .skip (.exit 0)) (.seq (.block 1 (.seq (.region 4 [⟨(some 13), (.mov (.t 11)), none⟩, ⟨(some 6), (.mov (.t 13)), none⟩]) (.seq (.region 5 [⟨(some 15), (.mov (.t 0)), none⟩, ⟨(some 16), (.mov (.t 6)), none⟩, ⟨(some 17), (.call 110 [(.t 15), (.t 16)]), none⟩, ⟨(some 14), (.mov (.t 17)), none⟩, ⟨(some 18), (.ext (.t 14) 0), none⟩, ⟨(some 19), (.ext (.t 14) 1), none⟩, ⟨(some 7), (.mov (.t 18)), none⟩, ⟨(some 8), (.mov (.t 19)), none⟩]) (.region 6 [⟨(some 20), (.mov (.t 5)), none⟩, ⟨(some 21), (.mov (.t 7)), none⟩, ⟨(some 22), (.mov (.t 0)), none⟩, ⟨(some 23), (.build [(.int .i64 0), (.int .i64 0)] [(0, (1, (.t 21))), (1, (1, (.t 22)))]), none⟩, ⟨(some 24), (.bslice 2 1 [(.int .i64 0), (.int .i64 0)] [(0, (.t 23))]), none⟩, ⟨(some 25), (.app 2 16 [(.int .i64 0), (.int .i64 0)] (.t 20) (.t 24)), none⟩, ⟨(some 5), (.mov (.t 25)), none⟩])))) (.region 7 [⟨(some 26), (.bin .add (.t 11) (.k (.int .i64 1))), none⟩, ⟨(some 11), (.mov (.t 26)), none⟩]))))))) (.seq (.region 8 [⟨(some 27), (.mov (.t 5)), none⟩, ⟨(some 4), (.mov (.t 27)), none⟩]) .ret)))), [(.t 4)], 28⟩ := by kernel_rfl
theorem rspots_pf (b w : Nat) (hb : b < 12) (hw : w ≤ 8) : PF Try.prog 82 [I b, I w] (.rows 2 ((spotsM b (4 * w)).map spE)) := by
  have i1 : InR ((w : Int) * 4) := inG (by omega) (by omega)
  refine PF.of follows_ok rspots_code (by simp) (by simp [argOk]) (by simp [noV, noC]) fun B hBN hB0 => acode_sound [0, 1, 4, 5, 6, 7, 10, 11, 12] [] _ _ _ ?_
  simp [AK_at, acode_seq, acode_region, acode_draw, acode_cond, ↓CB_t, ↓CB_f, CB_u, acode_block, acode_loop, acode_exit, acode_scope, acode_ret, acode_skip, seqQ_n, seqQ_e, seqQ_r, blockQ_n, blockQ_e, blockQ_r, TK_at, OK_at, SK_at, aops_nil, aops_cons, asch_done, asch_one, asch_two, asch_top, astep, aop_eq, isLoud, aloud, aloud1, isWrite, qv, evS, strip, gof, eget, hget, putO, eput, herase, oks, opnds, gS, afin, afin0, binD, arith, D.cells, takeD, fillD, keep, trim, envOf, Fin, aresl, aresv, resD, argOk, pickV, isP, deq, deqs, boundD, slD, lenD, isT, isSl, ptrIds, chunks, mn_min, mx_max, D.cells, splice_one, splice_more, Rbr_at, Rfr_at, frR, frV, frC, flatC, brwR, brwV, brwC, omap, leR, leV, leC, leL, leVL, i1]
  refine W.loopS (fun i : Nat => ⟨[(11, I i), (10, I ((w : Int) * 4)), (5, .own 0), (4, .nil0), (1, I w), (0, I b)], [(0, .row 2 ((spotsM b i).map spE))], 1⟩)
    (fun n i => n = 4 * w - i ∧ i ≤ 4 * w) ?_ ?_
  · refine ⟨_, 0, (Gh.adopt 5 2 (by omega) (by simp [eget])).trans ?_, rfl, by omega⟩
    simp [eput]
    exact (Gh.ren [0] (by simp [hB0]) (by simp [hB0] <;> decide) (by simp [eget, rnS, rnR, rnV, rnC, LtS, LtR, LtV, LtC, lget, spotsM]) (by simp [hget, rnO, rnC, LtO, LtC, lget, spotsM]) (.inl (by simp [lget, spotsM])))
  rintro n i ⟨hn, hi⟩
  refine acode_sound [0, 1, 4, 5, 6, 7, 10, 11, 12] [] _ _ _ ?_
  by_cases hlt : i < 4 * w
  · have hz : (i : Int) < w * 4 := by omega
    have hs := hspot_pf b i (by omega) (by omega) (by omega) (by omega)
    rw [Int.toNat_natCast, Int.toNat_natCast] at hs
    have hsl := spotsM_len b i
    have hcap : (i + 1) * 16 ≤ 140737488355328 := by omega
    have ii : InR ((i : Int) + 1) := inG (by omega) (by omega)
    have hss := spotsM_succ b i
    repeat' (first
      | simp [AK_at, acode_seq, acode_region, acode_draw, acode_cond, ↓CB_t, ↓CB_f, CB_u, acode_block, acode_loop, acode_exit, acode_scope, acode_ret, acode_skip, seqQ_n, seqQ_e, seqQ_r, blockQ_n, blockQ_e, blockQ_r, TK_at, OK_at, SK_at, aops_nil, aops_cons, asch_done, asch_one, asch_two, asch_top, astep, aop_eq, isLoud, aloud, aloud1, isWrite, qv, evS, strip, gof, eget, hget, putO, eput, herase, oks, opnds, gS, afin, afin0, binD, arith, D.cells, takeD, fillD, keep, trim, envOf, Fin, aresl, aresv, resD, argOk, pickV, isP, deq, deqs, boundD, slD, lenD, isT, isSl, ptrIds, chunks, mn_min, mx_max, D.cells, splice_one, splice_more, Rbr_at, Rfr_at, frR, frV, frC, flatC, brwR, brwV, brwC, omap, leR, leV, leC, leL, leVL, hz, hsl, hcap, ii]
      | (refine WCall.pf (hs) ?_ ?_ ?_ ?_; (focus (simp [oks, opnds, gS, gof, eget]; done)); (focus (simp [omap, brwV, brwC, evS, eget, strip, hget, leVL, leV, leC, leL, hz, hsl, hcap, ii]; done)); (focus (simp [noV, noC, flatR, flatV, flatC, evS, eget, strip, hz, hsl, hcap, ii]; done)))
      | (refine ⟨WCall.pf (hs) ?_ ?_ ?_ ?_, ?_⟩; (focus (simp [oks, opnds, gS, gof, eget]; done)); (focus (simp [omap, brwV, brwC, evS, eget, strip, hget, leVL, leV, leC, leL, hz, hsl, hcap, ii]; done)); (focus (simp [noV, noC, flatR, flatV, flatC, evS, eget, strip, hz, hsl, hcap, ii]; done)))
      | (with_reducible refine And.intro (And.intro ?_ ?_) ?_)
      | fail)
    all_goals exact ⟨_, i + 1, (Gh.ren [2] (by simp [hB0]) (by simp [hB0] <;> decide) (by simp [eget, rnS, rnR, rnV, rnC, LtS, LtR, LtV, LtC, lget, hss, spE, spotAt]) (by simp [hget, rnO, rnC, LtO, LtC, lget, hss, spE, spotAt]) (.inl (by simp [lget, hss, spE, spotAt]))), by omega, rfl, by omega⟩
  · obtain rfl : i = 4 * w := by omega
    have hz : ¬ (4 * (w : Int)) < w * 4 := by omega
    simp [AK_at, acode_seq, acode_region, acode_draw, acode_cond, ↓CB_t, ↓CB_f, CB_u, acode_block, acode_loop, acode_exit, acode_scope, acode_ret, acode_skip, seqQ_n, seqQ_e, seqQ_r, blockQ_n, blockQ_e, blockQ_r, TK_at, OK_at, SK_at, aops_nil, aops_cons, asch_done, asch_one, asch_two, asch_top, astep, aop_eq, isLoud, aloud, aloud1, isWrite, qv, evS, strip, gof, eget, hget, putO, eput, herase, oks, opnds, gS, afin, afin0, binD, arith, D.cells, takeD, fillD, keep, trim, envOf, Fin, aresl, aresv, resD, argOk, pickV, isP, deq, deqs, boundD, slD, lenD, isT, isSl, ptrIds, chunks, mn_min, mx_max, D.cells, splice_one, splice_more, Rbr_at, Rfr_at, frR, frV, frC, flatC, brwR, brwV, brwC, omap, leR, leV, leC, leL, leVL, hz]
/-- the weights of a ring -/
structure WOk (ws : List Nat) : Prop where
  len : ws.length = 12
  le : ∀ w ∈ ws, w ≤ 8
def wantM (ws : List Nat) (k : Nat) : List (Int × Int) := (List.range k).flatMap fun b => spotsM b (4 * ws.getD b 0)
def ringM (ws : List Nat) : List (Int × Int) := sortM (wantM ws 12)
def isB (b : Nat) (s : Int × Int) : Bool := decide (s.2 = (b : Int))
def cntS (l : List (Int × Int)) : List Int := (List.range 12).map fun b => ((l.countP (isB b) : Nat) : Int)
theorem wantM_succ (ws : List Nat) (k : Nat) : wantM ws (k + 1) = wantM ws k ++ spotsM k (4 * ws.getD k 0) := by unfold wantM; rw [List.range_succ, List.flatMap_append]; simp
theorem wantM_len (ws : List Nat) (h : WOk ws) : ∀ k, (wantM ws k).length ≤ 32 * k
  | 0 => by simp [wantM]
  | k + 1 => by
    have ih := wantM_len ws h k
    have : ws.getD k 0 ≤ 8 := by
      by_cases hk : k < ws.length
      · rw [List.getD_eq_getElem?_getD, List.getElem?_eq_getElem hk]; exact h.le _ (List.getElem_mem hk)
      · rw [List.getD_eq_getElem?_getD, List.getElem?_eq_none (by omega)]; simp
    rw [wantM_succ, List.length_append, spotsM_len]; omega
theorem spotsM_mem {b n : Nat} {s : Int × Int} (h : s ∈ spotsM b n) : s.2 = (b : Int) := by
  obtain ⟨i, _, rfl⟩ := List.mem_map.1 h; rfl
theorem wantM_mem {ws : List Nat} {k : Nat} {s : Int × Int} (h : s ∈ wantM ws k) : 0 ≤ s.2 ∧ s.2 < k := by
  obtain ⟨b, hb, hs⟩ := List.mem_flatMap.1 h
  have := spotsM_mem hs
  have := List.mem_range.1 hb
  omega
theorem ringM_perm (ws : List Nat) : (ringM ws).Perm (wantM ws 12) := List.mergeSort_perm _ _
theorem ringM_mem {ws : List Nat} {s : Int × Int} (h : s ∈ ringM ws) : 0 ≤ s.2 ∧ s.2 < 12 := wantM_mem ((ringM_perm ws).mem_iff.1 h)
theorem ringM_len (ws : List Nat) (h : WOk ws) : (ringM ws).length ≤ 384 := by rw [(ringM_perm ws).length_eq]; exact wantM_len ws h 12
theorem cnt_spots (b c n : Nat) : (spotsM c n).countP (isB b) = if c = b then n else 0 := by
  by_cases h : c = b
  · rw [if_pos h, List.countP_eq_length.2 fun s hs => by have := spotsM_mem hs; simp [isB, this, h], spotsM_len]
  · rw [if_neg h]
    refine List.countP_eq_zero.2 fun s hs => ?_
    have := spotsM_mem hs
    simp [isB, this]; omega
theorem cnt_want (ws : List Nat) (b : Nat) : ∀ k, (wantM ws k).countP (isB b) = if b < k then 4 * ws.getD b 0 else 0
  | 0 => by simp [wantM]
  | k + 1 => by
    rw [wantM_succ, List.countP_append, cnt_want ws b k, cnt_spots]
    rcases Nat.lt_trichotomy b k with h | h | h
    · rw [if_pos h, if_neg (by omega), if_pos (by omega)]; rfl
    · subst h; rw [if_neg (by omega), if_pos rfl, if_pos (by omega)]; omega
    · rw [if_neg (by omega), if_neg (by omega), if_neg (by omega)]
theorem cnt_ring (ws : List Nat) (b : Nat) (hb : b < 12) : (ringM ws).countP (isB b) = 4 * ws.getD b 0 := by
  rw [(ringM_perm ws).countP_eq, cnt_want, if_pos hb]
/-- behind the first loop; behind k rounds of the second -/
def byM (ws : List Nat) (k : Nat) : List Int := (List.range 12).map fun b => if b < k then ((ws.getD b 0 : Nat) : Int) else ((4 * ws.getD b 0 : Nat) : Int)
theorem cnt_byM (ws : List Nat) : cntS (ringM ws) = byM ws 0 := by
  unfold cntS byM
  refine List.map_congr_left fun b hb => ?_
  rw [cnt_ring ws b (List.mem_range.1 hb), if_neg (by omega)]
theorem cntS_succ (l : List (Int × Int)) (i : Nat) (h : i < l.length) (b : Nat) (hb : l[i].2 = b) (hb2 : b < 12) : cntS (l.take (i + 1)) = (cntS (l.take i)).set b (((l.take i).countP (isB b) : Nat) + 1) := by
  rw [List.take_succ_eq_append_getElem h]
  refine List.ext_getElem (by simp [cntS]) fun j h1 h2 => ?_
  have hj : j < 12 := by simpa [cntS] using h1
  rw [List.getElem_set]
  simp only [cntS, List.getElem_map, List.getElem_range, List.countP_append, List.countP_cons, List.countP_nil]
  by_cases hjb : b = j
  · subst hjb; simp [isB, hb]
  · rw [if_neg hjb]
    have : isB j l[i] = false := by simp [isB, hb]; omega
    simp [this]
theorem cntS_bd (l : List (Int × Int)) (b : Nat) : ((l.countP (isB b) : Nat) : Int) ≤ l.length := by
  have := List.countP_le_length (p := isB b) (l := l); omega
theorem byM_set (ws : List Nat) (k : Nat) (hk : k < 12) : (byM ws k).set k ((ws.getD k 0 : Nat) : Int) = byM ws (k + 1) := by
  refine List.ext_getElem (by simp [byM]) fun j h1 h2 => ?_
  rw [List.getElem_set]
  simp only [byM, List.getElem_map, List.getElem_range]
  by_cases h : k = j
  · subst h; rw [if_pos rfl, if_pos (by omega)]
  · rw [if_neg h]
    by_cases h3 : j < k
    · rw [if_pos h3, if_pos (by omega)]
    · rw [if_neg h3, if_neg (by omega)]
end Go.Proofs.Ytfkeddefajkobaa

set_option linter.unusedSimpArgs false
set_option linter.unusedVariables false
set_option maxRecDepth 100000
set_option maxHeartbeats 4000000
namespace Go.Proofs.Ytfkeddefajkobaa
open Go.RowKit
theorem speq2 (l : List (Int × Int)) (hl : l.length ≤ 1000000) : PF Try.prog 109 [.rows 2 (l.map spE), .rows 2 (l.map spE)] (.bool true) := speq_pf l hl
theorem rnI (f : Nat → Nat) : rnC f ∘ I = I := rfl
theorem spliceI (l : List Int) (b : Nat) (z : Int) (h : b < l.length) : splice (l.map I) b [D.int IntKind.i64 z] = (l.set b z).map I := by
  rw [splice_one _ _ _ (by simpa using h), List.map_set]
theorem omapI (H : List (Nat × Ob)) (nx : Nat) : ∀ l : List Nat, omap (brwC H nx) (l.map fun w : Nat => I (w : Int)) = some (l.map fun w : Nat => I (w : Int))
  | [] => rfl
  | x :: t => by simp [omap, brwC, omapI H nx t]
theorem leLI : ∀ l : List Nat, leL (l.map fun w : Nat => I (w : Int)) (l.map fun w : Nat => I (w : Int))
  | [] => by simp [leL]
  | x :: t => by simp [leL, leC, leLI t]
theorem rwei_code : cfun Try.prog [] 80 = some ⟨(.seq (.region 0 [⟨(some 1), (.box (.t 0)), none⟩, ⟨(some 2), (.alloc [(.int .i64 0), (.int .i64 0), (.int .i64 0), (.int .i64 0), (.int .i64 0), (.int .i64 0), (.int .i64 0), (.int .i64 0), (.int .i64 0), (.int .i64 0), (.int .i64 0), (.int .i64 0)]), none⟩, ⟨(some 3), (.mov (.k (.bool false))), none⟩]) (.seq (.region 1 [⟨(some 4), (.alloc [(.int .i64 0), (.int .i64 0), (.int .i64 0), (.int .i64 0), (.int .i64 0), (.int .i64 0), (.int .i64 0), (.int .i64 0), (.int .i64 0), (.int .i64 0), (.int .i64 0), (.int .i64 0)]), none⟩]) (.seq (.seq (.region 2 [⟨(some 10), (.fad 0 (.t 1)), none⟩, ⟨(some 11), (.load false 1 (.t 10)), none⟩, ⟨(some 12), (.len (.t 11)), none⟩, ⟨(some 13), (.mov (.k (.int .i64 0))), none⟩]) (.block 0 (.loop (.seq (.region 3 [⟨(some 14), (.bin .lss (.t 13) (.t 12)), none⟩]) (.seq (.cond 14 .skip (.exit 0)) (.seq (.block 1 (.seq (.region 4 [⟨(some 15), (.iads 2 (.t 11) (.t 13)), none⟩, ⟨(some 16), (.load true 2 (.t 15)), none⟩, ⟨(some 6), (.alloc [(.int .i64 0), (.int .i64 0)]), none⟩, ⟨none, (.store 2 (.t 6) (.t 16)), none⟩]) (.seq (.seq (.region 5 [⟨(some 17), (.fad 1 (.t 6)), none⟩, ⟨(some 18), (.load false 1 (.t 17)), none⟩, ⟨(some 19), (.bin .lss (.t 18) (.k (.int .i64 0))), none⟩, ⟨(some 20), (.mov (.t 19)), none⟩, ⟨(some 21), (.fad 1 (.t 6)), (some (20, false))⟩, ⟨(some 22), (.load false 1 (.t 21)), (some (20, false))⟩, ⟨(some 23), (.bin .geq (.t 22) (.k (.int .i64 12))), (some (20, false))⟩, ⟨(some 24), (.pick (.t 20) (.k (.bool true)) (.t 23)), none⟩]) (.cond 24 (.seq (.region 6 [⟨(some 25), (.load true 12 (.t 4)), none⟩, ⟨none, (.store 12 (.t 2) (.t 25)), none⟩, ⟨(some 3), (.mov (.k (.bool false))), none⟩]) .ret) .skip)) (.region 7 [⟨(some 26), (.fad 1 (.t 6)), none⟩, ⟨(some 27), (.load false 1 (.t 26)), none⟩, ⟨(some 28), (.iada 12 1 (.t 4) (.t 27)), none⟩, ⟨(some 29), (.load false 1 (.t 28)), none⟩, ⟨(some 30), (.bin .add (.t 29) (.k (.int .i64 1))), none⟩, ⟨(some 31), (.iada 12 1 (.t 4) (.t 27)), none⟩, ⟨none, (.store 1 (.t 31) (.t 30)), none⟩])))) (.region 8 [⟨(some 32), (.bin .add (.t 13) (.k (.int .i64 1))), none⟩, ⟨(some 13), (.mov (.t 32)), none⟩]))))))) (.seq (.region 9 [⟨(some 7), (.mov (.k .nil0)), none⟩]) (.seq (.seq (.region 10 [⟨(some 33), (.load true 12 (.t 4)), none⟩, ⟨(some 34), (.mov (.k (.int .i64 0))), none⟩]) (.block 2 (.loop (.seq (.region 11 [⟨(some 35), (.bin .lss (.t 34) (.k (.int .i64 12))), none⟩]) (.seq (.cond 35 .skip (.exit 2)) (.seq (.block 3 (.seq (.region 12 [⟨(some 36), (.mov (.t 34)), none⟩, ⟨(some 37), (.ida false 12 1 (.t 33) (.t 34)), none⟩, ⟨(some 8), (.mov (.t 36)), none⟩, ⟨(some 9), (.mov (.t 37)), none⟩]) (.seq (.seq (.region 13 [⟨(some 38), (.mov (.t 9)), none⟩, ⟨(some 39), (.bin .rem (.t 38) (.k (.int .i64 4))), none⟩, ⟨(some 40), (.bin .neq (.t 39) (.k (.int .i64 0))), none⟩, ⟨(some 41), (.mov (.t 40)), none⟩, ⟨(some 42), (.mov (.t 9)), (some (41, false))⟩, ⟨(some 43), (.bin .gtr (.t 42) (.k (.int .i64 32))), (some (41, false))⟩, ⟨(some 44), (.pick (.t 41) (.k (.bool true)) (.t 43)), none⟩]) (.cond 44 (.seq (.region 14 [⟨(some 45), (.load true 12 (.t 4)), none⟩, ⟨none, (.store 12 (.t 2) (.t 45)), none⟩, ⟨(some 3), (.mov (.k (.bool false))), none⟩]) .ret) .skip)) (.seq (.region 15 [⟨(some 46), (.mov (.t 8)), none⟩, ⟨(some 47), (.mov (.t 9)), none⟩, ⟨(some 48), (.bin .quo (.t 47) (.k (.int .i64 4))), none⟩, ⟨(some 49), (.iada 12 1 (.t 4) (.t 46)), none⟩, ⟨none, (.store 1 (.t 49) (.t 48)), none⟩]) (.region 16 [⟨(some 50), (.mov (.t 7)), none⟩, ⟨(some 51), (.mov (.t 8)), none⟩, ⟨(some 52), (.mov (.t 8)), none⟩, ⟨(some 53), (.iada 12 1 (.t 4) (.t 52)), none⟩, ⟨(some 54), (.load false 1 (.t 53)), none⟩, ⟨(some 55), (.call 82 [(.t 51), (.t 54)]), none⟩, ⟨(some 56), (.app 2 16 [(.int .i64 0), (.int .i64 0)] (.t 50) (.t 55)), none⟩, ⟨(some 7), (.mov (.t 56)), none⟩]))))) (.region 17 [⟨(some 57), (.bin .add (.t 34) (.k (.int .i64 1))), none⟩, ⟨(some 34), (.mov (.t 57)), none⟩]))))))) (.seq (.region 18 [⟨(some 58), (.mov (.t 7)), none⟩, ⟨(some 59), (.call 83 [(.t 58), (.k (.fn 84 []))]), none⟩]) (.seq (.draw 19 (.one true ⟨(some 60), (.load true 12 (.t 4)), none⟩ (.one true ⟨(some 61), (.mov (.t 7)), none⟩ (.one true ⟨(some 62), (.fad 0 (.t 1)), none⟩ (.one true ⟨(some 63), (.load false 1 (.t 62)), none⟩ (.one true ⟨(some 64), (.call 109 [(.t 61), (.t 63)]), none⟩ (.one false ⟨none, (.store 12 (.t 2) (.t 60)), none⟩ (.one true ⟨(some 3), (.mov (.t 64)), none⟩ .done)))))))) .ret))))))), [(.c 2 true 12), (.t 3)], 65⟩ := by kernel_rfl
theorem rwei_pf (ws : List Nat) (h : WOk ws) : PF Try.prog 80 [.agg [.rows 2 ((ringM ws).map spE)]] (.tup [.agg (ws.map fun w : Nat => I (w : Int)), .bool true]) := by
  have hrl := ringM_len ws h
  have heq := speq2 (ringM ws) (by omega)
  refine PF.of follows_ok rwei_code (by simp) (by simp [argOk]) (by simp [noV, noC]) fun B hBN hB0 => acode_sound [0, 1, 2, 3, 4, 6, 7, 8, 9, 11, 12, 13, 14, 24, 33, 34, 35, 44] [] _ _ _ ?_
  simp [AK_at, acode_seq, acode_region, acode_draw, acode_cond, ↓CB_t, ↓CB_f, CB_u, acode_block, acode_loop, acode_exit, acode_scope, acode_ret, acode_skip, seqQ_n, seqQ_e, seqQ_r, blockQ_n, blockQ_e, blockQ_r, TK_at, OK_at, SK_at, aops_nil, aops_cons, asch_done, asch_one, asch_two, asch_top, astep, aop_eq, isLoud, aloud, aloud1, isWrite, qv, evS, strip, gof, eget, hget, putO, eput, herase, oks, opnds, gS, afin, afin0, binD, arith, D.cells, takeD, fillD, keep, trim, envOf, Fin, aresl, aresv, resD, argOk, pickV, isP, deq, deqs, boundD, slD, lenD, isT, isSl, ptrIds, chunks, mn_min, mx_max, D.cells, splice_one, splice_more, Rbr_at, Rfr_at, frR, frV, frC, flatC, brwR, brwV, brwC, omap, leR, leV, leC, leL, leVL]
  refine W.loopS (fun i : Nat => ⟨[(13, I i), (12, I (ringM ws).length), (11, .rows 2 ((ringM ws).map spE)), (4, .ptr 2 0), (3, .bool false), (2, .ptr 1 0), (1, .ptr 0 0)], [(2, .cells ((cntS ((ringM ws).take i)).map I)), (1, .cells [I 0, I 0, I 0, I 0, I 0, I 0, I 0, I 0, I 0, I 0, I 0, I 0]), (0, .cells [.rows 2 ((ringM ws).map spE)])], 3⟩)
    (fun n i => n = (ringM ws).length - i ∧ i ≤ (ringM ws).length) ?_ ?_
  · exact ⟨_, 0, (Gh.ren [0, 1, 2] (by simp [hB0]) (by simp [hB0] <;> decide) (by simp [eget, rnS, rnR, rnV, rnC, LtS, LtR, LtV, LtC, lget, cntS, List.range_succ]) (by simp [hget, rnO, rnC, LtO, LtC, lget, cntS, List.range_succ]) (.inl (by simp [lget, cntS, List.range_succ]))), rfl, by omega⟩
  rintro n i ⟨hn, hi⟩
  refine acode_sound [0, 1, 2, 3, 4, 6, 7, 8, 9, 11, 12, 13, 14, 24, 33, 34, 35, 44] [] _ _ _ ?_
  by_cases hlt : i < (ringM ws).length
  · obtain ⟨o, ho⟩ : ∃ o, o = (ringM ws)[i] := ⟨_, rfl⟩
    have hm : o ∈ ringM ws := ho ▸ List.getElem_mem hlt
    have hmm := ringM_mem hm
    obtain ⟨b, hb⟩ : ∃ b : Nat, o.2 = b := ⟨o.2.toNat, by omega⟩
    have hb2 : b < 12 := by omega
    have hbd := cntS_bd ((ringM ws).take i) b
    have hll : ((ringM ws).take i).length ≤ 384 := by simp; omega
    have hst := cntS_succ (ringM ws) i hlt b (ho ▸ hb) hb2
    have hlc : (cntS ((ringM ws).take i)).length = 12 := by simp [cntS]
    obtain ⟨c, hc⟩ : ∃ c, c = ((ringM ws).take i).countP (isB b) := ⟨_, rfl⟩
    rw [← hc] at hst hbd
    have hat : (cntS ((ringM ws).take i))[b]? = some (c : Int) := by simp [cntS, hc, List.getElem?_range, hb2]
    have ii : InR ((i : Int) + 1) := inG (by omega) (by omega)
    have ic : InR ((c : Int) + 1) := inG (by omega) (by omega)
    have c1 : ¬ (b : Int) < 0 := by omega
    have c2 : ¬ (12 : Int) ≤ b := by omega
    have hspl := spliceI (cntS ((ringM ws).take i)) b ((c : Int) + 1) (by rw [hlc]; exact hb2)
    rw [← hst] at hspl
    simp [AK_at, acode_seq, acode_region, acode_draw, acode_cond, ↓CB_t, ↓CB_f, CB_u, acode_block, acode_loop, acode_exit, acode_scope, acode_ret, acode_skip, seqQ_n, seqQ_e, seqQ_r, blockQ_n, blockQ_e, blockQ_r, TK_at, OK_at, SK_at, aops_nil, aops_cons, asch_done, asch_one, asch_two, asch_top, astep, aop_eq, isLoud, aloud, aloud1, isWrite, qv, evS, strip, gof, eget, hget, putO, eput, herase, oks, opnds, gS, afin, afin0, binD, arith, D.cells, takeD, fillD, keep, trim, envOf, Fin, aresl, aresv, resD, argOk, pickV, isP, deq, deqs, boundD, slD, lenD, isT, isSl, ptrIds, chunks, mn_min, mx_max, D.cells, splice_one, splice_more, Rbr_at, Rfr_at, frR, frV, frC, flatC, brwR, brwV, brwC, omap, leR, leV, leC, leL, leVL, hlt, ← ho, spE, hb, hat, hlc, ii, ic, c1, c2, hspl]
    exact ⟨by omega, by omega, by omega, by omega, _, i + 1, (Gh.ren [0, 1, 2] (by simp [hB0]) (by simp [hB0] <;> decide) (by simp [eget, rnS, rnR, rnV, rnC, LtS, LtR, LtV, LtC, lget, rnI]) (by simp [hget, rnO, rnC, LtO, LtC, lget, rnI]) (.inl (by simp [lget, rnI]))), by omega, rfl, by omega⟩
  · obtain rfl : i = (ringM ws).length := by omega
    simp only [List.take_length, cnt_byM]
    have hlb : ∀ k, (byM ws k).length = 12 := fun k => by simp [byM]
    have htk : ∀ k, ((byM ws k).map I).take 12 = (byM ws k).map I := fun k => List.take_of_length_le (by simp [hlb])
    simp [AK_at, acode_seq, acode_region, acode_draw, acode_cond, ↓CB_t, ↓CB_f, CB_u, acode_block, acode_loop, acode_exit, acode_scope, acode_ret, acode_skip, seqQ_n, seqQ_e, seqQ_r, blockQ_n, blockQ_e, blockQ_r, TK_at, OK_at, SK_at, aops_nil, aops_cons, asch_done, asch_one, asch_two, asch_top, astep, aop_eq, isLoud, aloud, aloud1, isWrite, qv, evS, strip, gof, eget, hget, putO, eput, herase, oks, opnds, gS, afin, afin0, binD, arith, D.cells, takeD, fillD, keep, trim, envOf, Fin, aresl, aresv, resD, argOk, pickV, isP, deq, deqs, boundD, slD, lenD, isT, isSl, ptrIds, chunks, mn_min, mx_max, D.cells, splice_one, splice_more, Rbr_at, Rfr_at, frR, frV, frC, flatC, brwR, brwV, brwC, omap, leR, leV, leC, leL, leVL, hlb, htk]
    refine W.loopS (fun k : Nat => ⟨[(34, I k), (33, .agg ((byM ws 0).map I)), (7, .own 3), (4, .ptr 2 0), (3, .bool false), (2, .ptr 1 0), (1, .ptr 0 0)], [(3, .row 2 ((wantM ws k).map spE)), (2, .cells ((byM ws k).map I)), (1, .cells [I 0, I 0, I 0, I 0, I 0, I 0, I 0, I 0, I 0, I 0, I 0, I 0]), (0, .cells [.rows 2 ((ringM ws).map spE)])], 4⟩)
      (fun n k => n = 12 - k ∧ k ≤ 12) ?_ ?_
    · refine ⟨_, 0, (Gh.adopt 7 2 (by omega) (by simp [eget])).trans ?_, rfl, by omega⟩
      simp [eput]
      exact (Gh.ren [0, 1, 2, 3] (by simp [hB0]) (by simp [hB0] <;> decide) (by simp [eget, rnS, rnR, rnV, rnC, LtS, LtR, LtV, LtC, lget, wantM, rnI]) (by simp [hget, rnO, rnC, LtO, LtC, lget, wantM, rnI]) (.inl (by simp [lget, wantM, rnI])))
    rintro n k ⟨hn, hk⟩
    refine acode_sound [0, 1, 2, 3, 4, 6, 7, 8, 9, 11, 12, 13, 14, 24, 33, 34, 35, 44] [] _ _ _ ?_
    by_cases hlt : k < 12
    · have hz : (k : Int) < 12 := by omega
      obtain ⟨w, hw⟩ : ∃ w, w = ws.getD k 0 := ⟨_, rfl⟩
      have hw8 : w ≤ 8 := by
        rw [hw, List.getD_eq_getElem?_getD, List.getElem?_eq_getElem (by rw [h.len]; exact hlt)]
        exact h.le _ (List.getElem_mem _)
      have hset := byM_set ws k hlt
      rw [← hw] at hset
      have hat0 : (byM ws 0)[k]? = some ((4 * w : Nat) : Int) := by simp [byM, List.getElem?_range, hlt, hw]
      have hatk : (byM ws (k + 1))[k]? = some (w : Int) := by simp [byM, List.getElem?_range, hlt, hw]
      have hsp := rspots_pf k w hlt hw8
      have hws := wantM_succ ws k
      rw [← hw] at hws
      have hwl := wantM_len ws h k
      have hsl := spotsM_len k (4 * w)
      have ii : InR ((k : Int) + 1) := inG (by omega) (by omega)
      have c8 : ¬ (32 : Int) < 4 * w := by omega
      have hq : 4 * (w : Int) / 4 = w := by omega
      have hspl := spliceI (byM ws k) k (w : Int) (by rw [hlb]; exact hlt)
      rw [hset] at hspl
      have hcap : (wantM ws k).length + 4 * w ≤ 1000 := by omega
      have g1 : 0 < 12 - k := by omega
      have g2 : k ≤ 11 := by omega
      have g3 : (0 : Int) ≤ 4 * w := by omega
      have iw : InR (w : Int) := inG (by omega) (by omega)
      have hcap2 : ((wantM ws k).length + 4 * w) * 16 ≤ 140737488355328 := by omega
      repeat' (first
        | simp [AK_at, acode_seq, acode_region, acode_draw, acode_cond, ↓CB_t, ↓CB_f, CB_u, acode_block, acode_loop, acode_exit, acode_scope, acode_ret, acode_skip, seqQ_n, seqQ_e, seqQ_r, blockQ_n, blockQ_e, blockQ_r, TK_at, OK_at, SK_at, aops_nil, aops_cons, asch_done, asch_one, asch_two, asch_top, astep, aop_eq, isLoud, aloud, aloud1, isWrite, qv, evS, strip, gof, eget, hget, putO, eput, herase, oks, opnds, gS, afin, afin0, binD, arith, D.cells, takeD, fillD, keep, trim, envOf, Fin, aresl, aresv, resD, argOk, pickV, isP, deq, deqs, boundD, slD, lenD, isT, isSl, ptrIds, chunks, mn_min, mx_max, D.cells, splice_one, splice_more, Rbr_at, Rfr_at, frR, frV, frC, flatC, brwR, brwV, brwC, omap, leR, leV, leC, leL, leVL, hz, hlb, htk, hat0, c8, hq, hspl, hatk, ii, hwl, hsl, g1, g2, g3, iw, hcap2]
        | (refine WCall.pf (hsp) ?_ ?_ ?_ ?_; (focus (simp [oks, opnds, gS, gof, eget]; done)); (focus (simp [omap, brwV, brwC, evS, eget, strip, hget, leVL, leV, leC, leL, hz, hlb, htk, hat0, c8, hq, hspl, hatk, ii, hwl, hsl, g1, g2, g3, iw, hcap2]; done)); (focus (simp [noV, noC, flatR, flatV, flatC, evS, eget, strip, hz, hlb, htk, hat0, c8, hq, hspl, hatk, ii, hwl, hsl, g1, g2, g3, iw, hcap2]; done)))
        | (refine ⟨WCall.pf (hsp) ?_ ?_ ?_ ?_, ?_⟩; (focus (simp [oks, opnds, gS, gof, eget]; done)); (focus (simp [omap, brwV, brwC, evS, eget, strip, hget, leVL, leV, leC, leL, hz, hlb, htk, hat0, c8, hq, hspl, hatk, ii, hwl, hsl, g1, g2, g3, iw, hcap2]; done)); (focus (simp [noV, noC, flatR, flatV, flatC, evS, eget, strip, hz, hlb, htk, hat0, c8, hq, hspl, hatk, ii, hwl, hsl, g1, g2, g3, iw, hcap2]; done)))
        | (with_reducible refine And.intro (And.intro ?_ ?_) ?_)
        | fail)
      exact ⟨fun row a b h1 h2 => by subst h2; rfl, _, k + 1, (Gh.ren [0, 1, 2, 4] (by simp [hB0]) (by simp [hB0] <;> decide) (by simp [eget, rnS, rnR, rnV, rnC, LtS, LtR, LtV, LtC, lget, hws, rnI]) (by simp [hget, rnO, rnC, LtO, LtC, lget, hws, rnI]) (.inl (by simp [lget, hws, rnI]))), by omega, rfl, by omega⟩
    · obtain rfl : k = 12 := by omega
      simp [AK_at, acode_seq, acode_region, acode_draw, acode_cond, ↓CB_t, ↓CB_f, CB_u, acode_block, acode_loop, acode_exit, acode_scope, acode_ret, acode_skip, seqQ_n, seqQ_e, seqQ_r, blockQ_n, blockQ_e, blockQ_r, TK_at, OK_at, SK_at, aops_nil, aops_cons, asch_done, asch_one, asch_two, asch_top, astep, aop_eq, isLoud, aloud, aloud1, isWrite, qv, evS, strip, gof, eget, hget, putO, eput, herase, oks, opnds, gS, afin, afin0, binD, arith, D.cells, takeD, fillD, keep, trim, envOf, Fin, aresl, aresv, resD, argOk, pickV, isP, deq, deqs, boundD, slD, lenD, isT, isSl, ptrIds, chunks, mn_min, mx_max, D.cells, splice_one, splice_more, Rbr_at, Rfr_at, frR, frV, frC, flatC, brwR, brwV, brwC, omap, leR, leV, leC, leL, leVL, hlb, htk]
      refine WCall.hf [3] (spsortA_hf (wantM ws 12) (by have := wantM_len ws h 12; omega)) (by simp [oks, opnds, gS, gof, eget]) rfl rfl (by decide) (by simp) (by simp [evS, eget, strip, rnV, rnC, rho, ]) (by simp [argOk, ]) (by simp [LtV, LtC, ]) (by simp [rho, rnO, rnC, hget, LtO, LtC, ]) ?_
      rintro d H' nx' ⟨rfl, rfl, rfl⟩
      have hsr : sortM (wantM ws 12) = ringM ws := rfl
      have hs0 : splice [I 0, I 0, I 0, I 0, I 0, I 0, I 0, I 0, I 0, I 0, I 0, I 0] 0 ((byM ws 12).map I) = (byM ws 12).map I := by simp [splice, hlb]
      have hb12 : (byM ws 12).map I = ws.map fun w : Nat => I (w : Int) := by
        refine List.ext_getElem (by simp [byM, h.len]) fun j h1 h2 => ?_
        have hj : j < 12 := by simpa [byM] using h1
        simp [byM, hj, List.getElem?_eq_getElem (show j < ws.length by rw [h.len]; exact hj)]
      have hw12 : ws.length = 12 := h.len
      have htw : (ws.map fun w : Nat => I (w : Int)).take 12 = ws.map fun w : Nat => I (w : Int) := List.take_of_length_le (by simp [h.len])
      rw [hb12] at hs0
      repeat' (first
        | simp [AK_at, acode_seq, acode_region, acode_draw, acode_cond, ↓CB_t, ↓CB_f, CB_u, acode_block, acode_loop, acode_exit, acode_scope, acode_ret, acode_skip, seqQ_n, seqQ_e, seqQ_r, blockQ_n, blockQ_e, blockQ_r, TK_at, OK_at, SK_at, aops_nil, aops_cons, asch_done, asch_one, asch_two, asch_top, astep, aop_eq, isLoud, aloud, aloud1, isWrite, qv, evS, strip, gof, eget, hget, putO, eput, herase, oks, opnds, gS, afin, afin0, binD, arith, D.cells, takeD, fillD, keep, trim, envOf, Fin, aresl, aresv, resD, argOk, pickV, isP, deq, deqs, boundD, slD, lenD, isT, isSl, ptrIds, chunks, mn_min, mx_max, D.cells, splice_one, splice_more, Rbr_at, Rfr_at, frR, frV, frC, flatC, brwR, brwV, brwC, omap, leR, leV, leC, leL, leVL, rnR, rnV, rnC, rnO, rho_0, hputs, herases, rho, hlb, htk, hsr, hs0, hb12, hw12, htw, omapI, leLI]
        | (refine WCall.pf (heq) ?_ ?_ ?_ ?_; (focus (simp [oks, opnds, gS, gof, eget]; done)); (focus (simp [omap, brwV, brwC, evS, eget, strip, hget, leVL, leV, leC, leL, rnR, rnV, rnC, rnO, rho_0, hputs, herases, rho, hlb, htk, hsr, hs0, hb12, hw12, htw, omapI, leLI]; done)); (focus (simp [noV, noC, flatR, flatV, flatC, evS, eget, strip, rnR, rnV, rnC, rnO, rho_0, hputs, herases, rho, hlb, htk, hsr, hs0, hb12, hw12, htw, omapI, leLI]; done)))
        | (refine ⟨WCall.pf (heq) ?_ ?_ ?_ ?_, ?_⟩; (focus (simp [oks, opnds, gS, gof, eget]; done)); (focus (simp [omap, brwV, brwC, evS, eget, strip, hget, leVL, leV, leC, leL, rnR, rnV, rnC, rnO, rho_0, hputs, herases, rho, hlb, htk, hsr, hs0, hb12, hw12, htw, omapI, leLI]; done)); (focus (simp [noV, noC, flatR, flatV, flatC, evS, eget, strip, rnR, rnV, rnC, rnO, rho_0, hputs, herases, rho, hlb, htk, hsr, hs0, hb12, hw12, htw, omapI, leLI]; done)))
        | (with_reducible refine And.intro (And.intro ?_ ?_) ?_)
        | fail)
end Go.Proofs.Ytfkeddefajkobaa

set_option linter.unusedSimpArgs false
set_option linter.unusedVariables false
set_option maxRecDepth 100000
set_option maxHeartbeats 4000000
namespace Go.Proofs.Ytfkeddefajkobaa
open Go.RowKit Go.Sort
theorem sortM_pw (l : List (Int × Int)) : List.Pairwise (fun a b => (!(ltOf cfSp) b a) = true) (sortM l) := by
  refine List.pairwise_mergeSort (fun a b c h1 h2 => ?_) (fun a b => ?_) l
  · rw [ltSp] at *; simp at *; omega
  · rw [ltSp, ltSp]; simp; omega
theorem sortM_perm {l m : List (Int × Int)} (h : l.Perm m) : sortM l = sortM m := by
  refine List.Perm.eq_of_pairwise (le := fun a b => (!(ltOf cfSp) b a) = true) (fun a b _ _ h1 h2 => ?_) (sortM_pw l) (sortM_pw m) ((List.mergeSort_perm l _).trans (h.trans (List.mergeSort_perm m _).symm))
  simp only [Bool.not_eq_true'] at h1 h2
  exact totSp a b h2 h1
theorem want_add (ws : List Nat) (b w : Nat) (hb : ws.getD b 0 = 0) (hl : b < ws.length) : ∀ k, (wantM (ws.set b w) k).Perm (wantM ws k ++ if b < k then spotsM b (4 * w) else [])
  | 0 => by simp [wantM]
  | k + 1 => by
    have ih := want_add ws b w hb hl k
    rw [wantM_succ, wantM_succ]
    by_cases hk : b = k
    · subst hk
      have e : (ws.set b w).getD b 0 = w := by simp [List.getD_eq_getElem?_getD, hl]
      rw [e, hb, if_pos (by omega)]
      rw [if_neg (by omega), List.append_nil] at ih
      have : spotsM b (4 * 0) = [] := rfl
      rw [this, List.append_nil]
      exact ih.append_right _
    · have e : (ws.set b w).getD k 0 = ws.getD k 0 := by simp [List.getD_eq_getElem?_getD, List.getElem?_set_ne hk]
      rw [e]
      by_cases h2 : b < k
      · rw [if_pos h2] at ih
        rw [if_pos (by omega)]
        refine (ih.append_right _).trans ?_
        rw [List.append_assoc, List.append_assoc]
        exact List.Perm.append_left _ List.perm_append_comm
      · rw [if_neg h2, List.append_nil] at ih
        rw [if_neg (by omega), List.append_nil]
        exact ih.append_right _
theorem ring_add (ws : List Nat) (h : WOk ws) (b w : Nat) (hb : b < 12) (h0 : ws.getD b 0 = 0) : sortM (ringM ws ++ spotsM b (4 * w)) = ringM (ws.set b w) := by
  refine sortM_perm ?_
  have h1 := want_add ws b w h0 (by rw [h.len]; exact hb) 12
  rw [if_pos hb] at h1
  exact ((ringM_perm ws).append_right _).trans h1.symm
theorem WOk.set {ws : List Nat} (h : WOk ws) (b w : Nat) (hw : w ≤ 8) : WOk (ws.set b w) :=
  ⟨by rw [List.length_set]; exact h.len, fun x hx => by
    rcases List.mem_or_eq_of_mem_set hx with h1 | h1
    · exact h.le x h1
    · omega⟩
theorem spl12 {l : List Nat} (h : l.length = 12) : splice [I 0, I 0, I 0, I 0, I 0, I 0, I 0, I 0, I 0, I 0, I 0, I 0] 0 (l.map fun w : Nat => I (w : Int)) = l.map fun w : Nat => I (w : Int) := by simp [splice, h]
theorem els_sp (l : List (Int × Int)) : Els 2 spE l := fun x hx => ⟨rfl, fun d hd => by simp [spE] at hd; rcases hd with rfl | rfl <;> rfl⟩
theorem radd_code : cfun Try.prog [] 47 = some ⟨(.seq (.region 0 [⟨(some 3), (.box (.t 0)), none⟩, ⟨(some 6), (.alloc [.nil0]), none⟩, ⟨(some 7), (.mov (.k (.int .i64 0))), none⟩]) (.seq (.region 1 [⟨(some 12), (.load true 1 (.t 3)), none⟩, ⟨(some 13), (.call 80 [(.t 12)]), none⟩, ⟨(some 11), (.mov (.t 13)), none⟩, ⟨(some 14), (.ext (.t 11) 0), none⟩, ⟨(some 15), (.ext (.t 11) 1), none⟩, ⟨(some 8), (.alloc [(.int .i64 0), (.int .i64 0), (.int .i64 0), (.int .i64 0), (.int .i64 0), (.int .i64 0), (.int .i64 0), (.int .i64 0), (.int .i64 0), (.int .i64 0), (.int .i64 0), (.int .i64 0)]), none⟩, ⟨none, (.store 12 (.t 8) (.t 14)), none⟩, ⟨(some 9), (.mov (.t 15)), none⟩]) (.seq (.block 0 (.seq (.region 2 [⟨(some 17), (.mov (.t 9)), none⟩, ⟨(some 18), (.not (.t 17)), none⟩, ⟨(some 16), (.mov (.t 18)), none⟩]) (.cond 16 (.seq (.region 3 [⟨(some 19), (.build [.nil0] []), none⟩, ⟨none, (.store 1 (.t 6) (.t 19)), none⟩, ⟨(some 7), (.mov (.k (.int .i64 6))), none⟩]) .ret) (.seq (.region 4 [⟨(some 21), (.mov (.t 1)), none⟩, ⟨(some 22), (.bin .lss (.t 21) (.k (.int .i64 0))), none⟩, ⟨(some 23), (.mov (.t 22)), none⟩, ⟨(some 24), (.mov (.t 1)), (some (23, false))⟩, ⟨(some 25), (.bin .geq (.t 24) (.k (.int .i64 12))), (some (23, false))⟩, ⟨(some 26), (.pick (.t 23) (.k (.bool true)) (.t 25)), none⟩, ⟨(some 27), (.mov (.t 26)), none⟩, ⟨(some 28), (.mov (.t 2)), (some (27, false))⟩, ⟨(some 29), (.bin .lss (.t 28) (.k (.int .i64 1))), (some (27, false))⟩, ⟨(some 30), (.pick (.t 27) (.k (.bool true)) (.t 29)), none⟩, ⟨(some 31), (.mov (.t 30)), none⟩, ⟨(some 32), (.mov (.t 2)), (some (31, false))⟩, ⟨(some 33), (.bin .gtr (.t 32) (.k (.int .i64 8))), (some (31, false))⟩, ⟨(some 34), (.pick (.t 31) (.k (.bool true)) (.t 33)), none⟩, ⟨(some 20), (.mov (.t 34)), none⟩]) (.cond 20 (.seq (.region 5 [⟨(some 35), (.build [.nil0] []), none⟩, ⟨none, (.store 1 (.t 6) (.t 35)), none⟩, ⟨(some 7), (.mov (.k (.int .i64 2))), none⟩]) .ret) (.seq (.region 6 [⟨(some 37), (.mov (.t 1)), none⟩, ⟨(some 38), (.iada 12 1 (.t 8) (.t 37)), none⟩, ⟨(some 39), (.load false 1 (.t 38)), none⟩, ⟨(some 40), (.bin .gtr (.t 39) (.k (.int .i64 0))), none⟩, ⟨(some 36), (.mov (.t 40)), none⟩]) (.cond 36 (.seq (.region 7 [⟨(some 41), (.build [.nil0] []), none⟩, ⟨none, (.store 1 (.t 6) (.t 41)), none⟩, ⟨(some 7), (.mov (.k (.int .i64 7))), none⟩]) .ret) .skip))))))) (.seq (.region 8 [⟨(some 42), (.fad 0 (.t 3)), none⟩, ⟨(some 43), (.load false 1 (.t 42)), none⟩, ⟨(some 44), (.call 81 [(.t 43)]), none⟩, ⟨(some 45), (.mov (.t 1)), none⟩, ⟨(some 46), (.mov (.t 2)), none⟩, ⟨(some 47), (.call 82 [(.t 45), (.t 46)]), none⟩, ⟨(some 48), (.app 2 16 [(.int .i64 0), (.int .i64 0)] (.t 44) (.t 47)), none⟩, ⟨(some 10), (.mov (.t 48)), none⟩]) (.seq (.region 9 [⟨(some 49), (.mov (.t 10)), none⟩, ⟨(some 50), (.call 83 [(.t 49), (.k (.fn 84 []))]), none⟩]) (.seq (.region 10 [⟨(some 51), (.mov (.t 10)), none⟩, ⟨(some 52), (.build [.nil0] [(0, (1, (.t 51)))]), none⟩, ⟨none, (.store 1 (.t 6) (.t 52)), none⟩, ⟨(some 7), (.mov (.k (.int .i64 0))), none⟩]) .ret)))))), [(.c 6 true 1), (.t 7)], 53⟩ := by kernel_rfl
theorem radd_pf (ws : List Nat) (h : WOk ws) (b w : Nat) (hb : b < 12) (hw : 1 ≤ w ∧ w ≤ 8) (h0 : ws.getD b 0 = 0) :
    PF Try.prog 47 [.agg [.rows 2 ((ringM ws).map spE)], I b, I w] (.tup [.agg [.rows 2 ((ringM (ws.set b w)).map spE)], I 0]) := by
  have hwe := rwei_pf ws h
  have hsp := rspots_pf b w hb hw.2
  have hrl := ringM_len ws h
  have hsl := spotsM_len b (4 * w)
  have hra := ring_add ws h b w hb h0
  have hcl := spcln_hf spE (ringM ws) (by omega) (els_sp _)
  have hl12 := h.len
  have hs0 := spl12 h.len
  have htw : (ws.map fun w : Nat => I (w : Int)).take 12 = ws.map fun w : Nat => I (w : Int) := List.take_of_length_le (by simp [h.len])
  have hat : ws[b]? = some 0 := by
    rw [List.getD_eq_getElem?_getD, List.getElem?_eq_getElem (by omega)] at h0
    rw [List.getElem?_eq_getElem (by omega)]
    simpa using h0
  have c1 : ¬ (b : Int) < 0 := by omega
  have c2 : ¬ (12 : Int) ≤ b := by omega
  have c3 : ¬ (w : Int) < 1 := by omega
  have c4 : ¬ (8 : Int) < w := by omega
  have hb1 : (b : Int) < 12 := by omega
  have hb2 : b ≤ 11 := by omega
  have hb3 : 0 < 12 - b := by omega
  refine PF.of follows_ok radd_code (by simp) (by simp [argOk]) (by simp [noV, noC]) fun B hBN hB0 => acode_sound [0, 1, 2, 3, 6, 7, 8, 9, 10, 16, 20, 36] [] _ _ _ ?_
  repeat' (first
    | simp [AK_at, acode_seq, acode_region, acode_draw, acode_cond, ↓CB_t, ↓CB_f, CB_u, acode_block, acode_loop, acode_exit, acode_scope, acode_ret, acode_skip, seqQ_n, seqQ_e, seqQ_r, blockQ_n, blockQ_e, blockQ_r, TK_at, OK_at, SK_at, aops_nil, aops_cons, asch_done, asch_one, asch_two, asch_top, astep, aop_eq, isLoud, aloud, aloud1, isWrite, qv, evS, strip, gof, eget, hget, putO, eput, herase, oks, opnds, gS, afin, afin0, binD, arith, D.cells, takeD, fillD, keep, trim, envOf, Fin, aresl, aresv, resD, argOk, pickV, isP, deq, deqs, boundD, slD, lenD, isT, isSl, ptrIds, chunks, mn_min, mx_max, D.cells, splice_one, splice_more, Rbr_at, Rfr_at, frR, frV, frC, flatC, brwR, brwV, brwC, omap, leR, leV, leC, leL, leVL, hl12, hs0, htw, hat, c1, c2, c3, c4, hb1, hb2, hb3]
    | (refine WCall.pf (hwe) ?_ ?_ ?_ ?_; (focus (simp [oks, opnds, gS, gof, eget]; done)); (focus (simp [omap, brwV, brwC, evS, eget, strip, hget, leVL, leV, leC, leL, hl12, hs0, htw, hat, c1, c2, c3, c4, hb1, hb2, hb3]; done)); (focus (simp [noV, noC, flatR, flatV, flatC, evS, eget, strip, hl12, hs0, htw, hat, c1, c2, c3, c4, hb1, hb2, hb3]; done)))
    | (refine ⟨WCall.pf (hwe) ?_ ?_ ?_ ?_, ?_⟩; (focus (simp [oks, opnds, gS, gof, eget]; done)); (focus (simp [omap, brwV, brwC, evS, eget, strip, hget, leVL, leV, leC, leL, hl12, hs0, htw, hat, c1, c2, c3, c4, hb1, hb2, hb3]; done)); (focus (simp [noV, noC, flatR, flatV, flatC, evS, eget, strip, hl12, hs0, htw, hat, c1, c2, c3, c4, hb1, hb2, hb3]; done)))
    | (with_reducible refine And.intro (And.intro ?_ ?_) ?_)
    | fail)
  have hcap : ((ringM ws).length + 4 * w) * 16 ≤ 140737488355328 := by omega
  have hcap0 : 4 * w * 16 ≤ 140737488355328 := by omega
  have hw0 : ¬ spotsM b (4 * w) = [] := fun e => by rw [e] at hsl; simp at hsl; omega
  refine WCall.hf0 hcl (by simp [oks, opnds, gS, gof, eget]) (by simp [evS, eget, strip]) (by simp [argOk]) (by simp [noV, noC]) ?_
  rintro d H' nx' (⟨rfl, hnil, rfl, rfl⟩ | ⟨rfl, rfl, rfl⟩)
  · rw [hnil] at hra ⊢
    repeat' (first
      | simp [AK_at, acode_seq, acode_region, acode_draw, acode_cond, ↓CB_t, ↓CB_f, CB_u, acode_block, acode_loop, acode_exit, acode_scope, acode_ret, acode_skip, seqQ_n, seqQ_e, seqQ_r, blockQ_n, blockQ_e, blockQ_r, TK_at, OK_at, SK_at, aops_nil, aops_cons, asch_done, asch_one, asch_two, asch_top, astep, aop_eq, isLoud, aloud, aloud1, isWrite, qv, evS, strip, gof, eget, hget, putO, eput, herase, oks, opnds, gS, afin, afin0, binD, arith, D.cells, takeD, fillD, keep, trim, envOf, Fin, aresl, aresv, resD, argOk, pickV, isP, deq, deqs, boundD, slD, lenD, isT, isSl, ptrIds, chunks, mn_min, mx_max, D.cells, splice_one, splice_more, Rbr_at, Rfr_at, frR, frV, frC, flatC, brwR, brwV, brwC, omap, leR, leV, leC, leL, leVL, rnR, rnV, rnC, rnO, rho_0, hputs, herases, rho, hsl, hcap0, hw0]
      | (refine WCall.pf (hsp) ?_ ?_ ?_ ?_; (focus (simp [oks, opnds, gS, gof, eget]; done)); (focus (simp [omap, brwV, brwC, evS, eget, strip, hget, leVL, leV, leC, leL, rnR, rnV, rnC, rnO, rho_0, hputs, herases, rho, hsl, hcap0, hw0]; done)); (focus (simp [noV, noC, flatR, flatV, flatC, evS, eget, strip, rnR, rnV, rnC, rnO, rho_0, hputs, herases, rho, hsl, hcap0, hw0]; done)))
      | (refine ⟨WCall.pf (hsp) ?_ ?_ ?_ ?_, ?_⟩; (focus (simp [oks, opnds, gS, gof, eget]; done)); (focus (simp [omap, brwV, brwC, evS, eget, strip, hget, leVL, leV, leC, leL, rnR, rnV, rnC, rnO, rho_0, hputs, herases, rho, hsl, hcap0, hw0]; done)); (focus (simp [noV, noC, flatR, flatV, flatC, evS, eget, strip, rnR, rnV, rnC, rnO, rho_0, hputs, herases, rho, hsl, hcap0, hw0]; done)))
      | (with_reducible refine And.intro (And.intro ?_ ?_) ?_)
      | fail)
    refine ⟨fun row x y h1 h2 => by subst h2; rfl, ?_⟩
    refine WCall.hf [3] (spsortA_hf (spotsM b (4 * w)) (by omega)) (by simp [oks, opnds, gS, gof, eget]) rfl rfl (by decide) (by simp) (by simp [evS, eget, strip, rnV, rnC, rho, ]) (by simp [argOk, ]) (by simp [LtV, LtC, ]) (by simp [rho, rnO, rnC, hget, LtO, LtC, ]) ?_
    rintro d H' nx' ⟨rfl, rfl, rfl⟩
    rw [List.nil_append] at hra
    simp [AK_at, acode_seq, acode_region, acode_draw, acode_cond, ↓CB_t, ↓CB_f, CB_u, acode_block, acode_loop, acode_exit, acode_scope, acode_ret, acode_skip, seqQ_n, seqQ_e, seqQ_r, blockQ_n, blockQ_e, blockQ_r, TK_at, OK_at, SK_at, aops_nil, aops_cons, asch_done, asch_one, asch_two, asch_top, astep, aop_eq, isLoud, aloud, aloud1, isWrite, qv, evS, strip, gof, eget, hget, putO, eput, herase, oks, opnds, gS, afin, afin0, binD, arith, D.cells, takeD, fillD, keep, trim, envOf, Fin, aresl, aresv, resD, argOk, pickV, isP, deq, deqs, boundD, slD, lenD, isT, isSl, ptrIds, chunks, mn_min, mx_max, D.cells, splice_one, splice_more, Rbr_at, Rfr_at, frR, frV, frC, flatC, brwR, brwV, brwC, omap, leR, leV, leC, leL, leVL, rnR, rnV, rnC, rnO, rho_0, hputs, herases, rho, hra]
  · skip
    repeat' (first
      | simp [AK_at, acode_seq, acode_region, acode_draw, acode_cond, ↓CB_t, ↓CB_f, CB_u, acode_block, acode_loop, acode_exit, acode_scope, acode_ret, acode_skip, seqQ_n, seqQ_e, seqQ_r, blockQ_n, blockQ_e, blockQ_r, TK_at, OK_at, SK_at, aops_nil, aops_cons, asch_done, asch_one, asch_two, asch_top, astep, aop_eq, isLoud, aloud, aloud1, isWrite, qv, evS, strip, gof, eget, hget, putO, eput, herase, oks, opnds, gS, afin, afin0, binD, arith, D.cells, takeD, fillD, keep, trim, envOf, Fin, aresl, aresv, resD, argOk, pickV, isP, deq, deqs, boundD, slD, lenD, isT, isSl, ptrIds, chunks, mn_min, mx_max, D.cells, splice_one, splice_more, Rbr_at, Rfr_at, frR, frV, frC, flatC, brwR, brwV, brwC, omap, leR, leV, leC, leL, leVL, rnR, rnV, rnC, rnO, rho_0, hputs, herases, rho, hsl, hcap]
      | (refine WCall.pf (hsp) ?_ ?_ ?_ ?_; (focus (simp [oks, opnds, gS, gof, eget]; done)); (focus (simp [omap, brwV, brwC, evS, eget, strip, hget, leVL, leV, leC, leL, rnR, rnV, rnC, rnO, rho_0, hputs, herases, rho, hsl, hcap]; done)); (focus (simp [noV, noC, flatR, flatV, flatC, evS, eget, strip, rnR, rnV, rnC, rnO, rho_0, hputs, herases, rho, hsl, hcap]; done)))
      | (refine ⟨WCall.pf (hsp) ?_ ?_ ?_ ?_, ?_⟩; (focus (simp [oks, opnds, gS, gof, eget]; done)); (focus (simp [omap, brwV, brwC, evS, eget, strip, hget, leVL, leV, leC, leL, rnR, rnV, rnC, rnO, rho_0, hputs, herases, rho, hsl, hcap]; done)); (focus (simp [noV, noC, flatR, flatV, flatC, evS, eget, strip, rnR, rnV, rnC, rnO, rho_0, hputs, herases, rho, hsl, hcap]; done)))
      | (with_reducible refine And.intro (And.intro ?_ ?_) ?_)
      | fail)
    refine ⟨fun row x y h1 h2 => by subst h2; rfl, ?_⟩
    rw [← List.map_append]
    refine WCall.hf [5] (spsortA_hf (ringM ws ++ spotsM b (4 * w)) (by rw [List.length_append]; omega)) (by simp [oks, opnds, gS, gof, eget]) rfl rfl (by decide) (by simp) (by simp [evS, eget, strip, rnV, rnC, rho, ]) (by simp [argOk, ]) (by simp [LtV, LtC, ]) (by simp [rho, rnO, rnC, hget, LtO, LtC, ]) ?_
    rintro d H' nx' ⟨rfl, rfl, rfl⟩
    simp [AK_at, acode_seq, acode_region, acode_draw, acode_cond, ↓CB_t, ↓CB_f, CB_u, acode_block, acode_loop, acode_exit, acode_scope, acode_ret, acode_skip, seqQ_n, seqQ_e, seqQ_r, blockQ_n, blockQ_e, blockQ_r, TK_at, OK_at, SK_at, aops_nil, aops_cons, asch_done, asch_one, asch_two, asch_top, astep, aop_eq, isLoud, aloud, aloud1, isWrite, qv, evS, strip, gof, eget, hget, putO, eput, herase, oks, opnds, gS, afin, afin0, binD, arith, D.cells, takeD, fillD, keep, trim, envOf, Fin, aresl, aresv, resD, argOk, pickV, isP, deq, deqs, boundD, slD, lenD, isT, isSl, ptrIds, chunks, mn_min, mx_max, D.cells, splice_one, splice_more, Rbr_at, Rfr_at, frR, frV, frC, flatC, brwR, brwV, brwC, omap, leR, leV, leC, leL, leVL, rnR, rnV, rnC, rnO, rho_0, hputs, herases, rho, hra]
end Go.Proofs.Ytfkeddefajkobaa

