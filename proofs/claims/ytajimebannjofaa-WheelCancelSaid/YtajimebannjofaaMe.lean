/- This text holds, one behind the other, the texts that say what the program computes, step by step, and the rules that they need. They have no condition of their own. -/
import Derived.Test.YtajimebannjofaaMd
import Derived.Test.YtajimebannjofaaMc
import Derived.Deep.Slices
import Derived.DeepKeys4
set_option linter.unusedSimpArgs false
set_option linter.unusedVariables false
set_option maxRecDepth 100000
set_option maxHeartbeats 4000000
namespace Go.Proofs.Ytajimebannjofaa
open Go.RowKit
/-- a timer: tick, number -/
def tmE (t : Int × Int) : List D := [I t.1, I t.2]
theorem els_tm (l : List (Int × Int)) : Els 2 tmE l := fun x hx => ⟨rfl, fun d hd => by simp [tmE] at hd; rcases hd with rfl | rfl <;> rfl⟩
def isI (id : Int) (t : Int × Int) : Bool := decide (t.2 = id)
/-- lists as data -/
def lsR (L : List (List (Int × Int))) : List (List D) := L.map fun l => [.rows 2 (l.map tmE)]
def findZ (id : Int) : List (List (Int × Int)) → Nat → Int × Int
  | [], _ => (-1, -1)
  | l :: t, i => if 0 ≤ idxZ (isI id) l then (i, idxZ (isI id) l) else findZ id t (i + 1)
theorem wfind1_code : cfun Try.prog [] 44 = some ⟨(.seq (.region 0 [⟨(some 2), (.box (.t 0)), none⟩, ⟨(some 3), (.mov (.k (.bool false))), none⟩]) (.seq (.region 1 [⟨(some 4), (.fad 1 (.t 2)), none⟩, ⟨(some 5), (.load false 1 (.t 4)), none⟩, ⟨(some 6), (.load false 1 (.t 1)), none⟩, ⟨(some 7), (.bin .eql (.t 5) (.t 6)), none⟩, ⟨(some 3), (.mov (.t 7)), none⟩]) .ret)), [(.t 3)], 8⟩ := by kernel_rfl
theorem wfind1_pf (id : Int) (s : Int × Int) : PF Try.prog 44 [.agg (tmE s), .pc [I id]] (.bool (isI id s)) := by
  refine PF.of follows_ok wfind1_code (by simp) (by simp [argOk]) (by simp [noV, noC, tmE]) fun B hBN hB0 => acode_sound [0, 1, 2, 3] [] _ _ _ ?_
  simp [AK_at, acode_seq, acode_region, acode_draw, acode_cond, ↓CB_t, ↓CB_f, CB_u, acode_block, acode_loop, acode_exit, acode_scope, acode_ret, acode_skip, seqQ_n, seqQ_e, seqQ_r, blockQ_n, blockQ_e, blockQ_r, TK_at, OK_at, SK_at, aops_nil, aops_cons, asch_done, asch_one, asch_two, asch_top, astep, aop_eq, isLoud, aloud, aloud1, isWrite, qv, evS, strip, gof, eget, hget, putO, eput, herase, oks, opnds, gS, afin, afin0, binD, arith, D.cells, takeD, fillD, keep, trim, envOf, Fin, aresl, aresv, resD, argOk, pickV, isP, deq, deqs, boundD, slD, lenD, isT, isSl, ptrIds, chunks, mn_min, mx_max, D.cells, splice_one, splice_more, Rbr_at, Rfr_at, frR, frV, frC, flatC, brwR, brwV, brwC, omap, leR, leV, leC, leL, leVL, tmE, isI]
theorem wfind_code : cfun Try.prog [] 25 = some ⟨(.seq (.region 0 [⟨(some 3), (.box (.t 1)), none⟩, ⟨(some 4), (.mov (.k (.int .i64 0))), none⟩, ⟨(some 5), (.mov (.k (.int .i64 0))), none⟩]) (.seq (.seq (.region 1 [⟨(some 9), (.mov (.t 0)), none⟩, ⟨(some 10), (.nchk (.t 9)), none⟩, ⟨(some 11), (.fad 0 (.t 10)), none⟩, ⟨(some 12), (.fad 1 (.t 11)), none⟩, ⟨(some 13), (.load false 1 (.t 12)), none⟩, ⟨(some 14), (.len (.t 13)), none⟩, ⟨(some 15), (.mov (.k (.int .i64 0))), none⟩]) (.block 0 (.loop (.seq (.region 2 [⟨(some 16), (.bin .lss (.t 15) (.t 14)), none⟩]) (.seq (.cond 16 .skip (.exit 0)) (.seq (.block 1 (.seq (.region 3 [⟨(some 17), (.mov (.t 15)), none⟩, ⟨(some 18), (.iads 1 (.t 13) (.t 15)), none⟩, ⟨(some 19), (.load false 1 (.t 18)), none⟩, ⟨(some 6), (.mov (.t 17)), none⟩, ⟨(some 7), (.mov (.t 19)), none⟩]) (.seq (.region 4 [⟨(some 20), (.mov (.t 7)), none⟩, ⟨(some 21), (.mkfn 44 [(.t 3)]), none⟩, ⟨(some 22), (.call 43 [(.t 20), (.t 21)]), none⟩, ⟨(some 8), (.mov (.t 22)), none⟩]) (.seq (.region 5 [⟨(some 23), (.mov (.t 8)), none⟩, ⟨(some 24), (.bin .geq (.t 23) (.k (.int .i64 0))), none⟩]) (.cond 24 (.seq (.region 6 [⟨(some 25), (.mov (.t 6)), none⟩, ⟨(some 26), (.mov (.t 8)), none⟩, ⟨(some 4), (.mov (.t 25)), none⟩, ⟨(some 5), (.mov (.t 26)), none⟩]) .ret) .skip))))) (.region 7 [⟨(some 27), (.bin .add (.t 15) (.k (.int .i64 1))), none⟩, ⟨(some 15), (.mov (.t 27)), none⟩]))))))) (.seq (.region 8 [⟨(some 4), (.mov (.k (.int .i64 (-1)))), none⟩, ⟨(some 5), (.mov (.k (.int .i64 (-1)))), none⟩]) .ret))), [(.t 4), (.t 5)], 28⟩ := by kernel_rfl
theorem wfind_pf (now id : Int) (L : List (List (Int × Int))) (hL : L.length ≤ 25) (hl : ∀ l ∈ L, l.length ≤ 1000000) : PF Try.prog 25 [.pc [I now, .rows 1 (lsR L)], I id] (.tup [I (findZ id L 0).1, I (findZ id L 0).2]) := by
  have hlr : (lsR L).length = L.length := by simp [lsR]
  refine PF.of follows_ok wfind_code (by simp) (by simp [argOk]) (by simp [noV, noC]) fun B hBN hB0 => acode_sound [0, 1, 3, 4, 5, 6, 7, 8, 13, 14, 15, 16, 24] [] _ _ _ ?_
  simp [AK_at, acode_seq, acode_region, acode_draw, acode_cond, ↓CB_t, ↓CB_f, CB_u, acode_block, acode_loop, acode_exit, acode_scope, acode_ret, acode_skip, seqQ_n, seqQ_e, seqQ_r, blockQ_n, blockQ_e, blockQ_r, TK_at, OK_at, SK_at, aops_nil, aops_cons, asch_done, asch_one, asch_two, asch_top, astep, aop_eq, isLoud, aloud, aloud1, isWrite, qv, evS, strip, gof, eget, hget, putO, eput, herase, oks, opnds, gS, afin, afin0, binD, arith, D.cells, takeD, fillD, keep, trim, envOf, Fin, aresl, aresv, resD, argOk, pickV, isP, deq, deqs, boundD, slD, lenD, isT, isSl, ptrIds, chunks, mn_min, mx_max, D.cells, splice_one, splice_more, Rbr_at, Rfr_at, frR, frV, frC, flatC, brwR, brwV, brwC, omap, leR, leV, leC, leL, leVL, hlr]
  refine W.loopS (fun i : Nat => ⟨[(15, I i), (14, I L.length), (13, .rows 1 (lsR L)), (5, I 0), (4, I 0), (3, .ptr 0 0)], [(0, .cells [I id])], 1⟩)
    (fun n i => n = L.length - i ∧ i ≤ L.length ∧ findZ id L 0 = findZ id (L.drop i) i) ?_ ?_
  · exact ⟨_, 0, (Gh.ren [0] (by simp [hB0]) (by simp [hB0] <;> decide) (by simp [eget, rnS, rnR, rnV, rnC, LtS, LtR, LtV, LtC, lget]) (by simp [hget, rnO, rnC, LtO, LtC, lget]) (.inl (by simp [lget]))), rfl, by omega, by simp⟩
  rintro n i ⟨hn, hi, hf⟩
  refine acode_sound [0, 1, 3, 4, 5, 6, 7, 8, 13, 14, 15, 16, 24] [] _ _ _ ?_
  by_cases hlt : i < L.length
  · obtain ⟨l, hll⟩ : ∃ l, l = L[i] := ⟨_, rfl⟩
    have hm : l ∈ L := hll ▸ List.getElem_mem hlt
    have hat : ∀ h : i < (lsR L).length, (lsR L)[i] = [.rows 2 (l.map tmE)] := fun h => by simp [lsR, hll]
    have hix := tiixf1_pf tmE l 44 [I id] (isI id) (hl l hm) (els_tm l) (fun s _ => wfind1_pf id s)
    rw [List.drop_eq_getElem_cons hlt, ← hll] at hf
    simp only [findZ] at hf
    have ii : InR ((i : Int) + 1) := inW (by omega) (by omega)
    by_cases h0 : 0 ≤ idxZ (isI id) l
    · rw [if_pos h0] at hf
      repeat' (first
        | simp [AK_at, acode_seq, acode_region, acode_draw, acode_cond, ↓CB_t, ↓CB_f, CB_u, acode_block, acode_loop, acode_exit, acode_scope, acode_ret, acode_skip, seqQ_n, seqQ_e, seqQ_r, blockQ_n, blockQ_e, blockQ_r, TK_at, OK_at, SK_at, aops_nil, aops_cons, asch_done, asch_one, asch_two, asch_top, astep, aop_eq, isLoud, aloud, aloud1, isWrite, qv, evS, strip, gof, eget, hget, putO, eput, herase, oks, opnds, gS, afin, afin0, binD, arith, D.cells, takeD, fillD, keep, trim, envOf, Fin, aresl, aresv, resD, argOk, pickV, isP, deq, deqs, boundD, slD, lenD, isT, isSl, ptrIds, chunks, mn_min, mx_max, D.cells, splice_one, splice_more, Rbr_at, Rfr_at, frR, frV, frC, flatC, brwR, brwV, brwC, omap, leR, leV, leC, leL, leVL, hlt, hat, hlr, ii, h0, hf]
        | (refine WCall.pf (hix) ?_ ?_ ?_ ?_; (focus (simp [oks, opnds, gS, gof, eget]; done)); (focus (simp [omap, brwV, brwC, evS, eget, strip, hget, leVL, leV, leC, leL, hlt, hat, hlr, ii, h0, hf]; done)); (focus (simp [noV, noC, flatR, flatV, flatC, evS, eget, strip, hlt, hat, hlr, ii, h0, hf]; done)))
        | (refine ⟨WCall.pf (hix) ?_ ?_ ?_ ?_, ?_⟩; (focus (simp [oks, opnds, gS, gof, eget]; done)); (focus (simp [omap, brwV, brwC, evS, eget, strip, hget, leVL, leV, leC, leL, hlt, hat, hlr, ii, h0, hf]; done)); (focus (simp [noV, noC, flatR, flatV, flatC, evS, eget, strip, hlt, hat, hlr, ii, h0, hf]; done)))
        | (with_reducible refine And.intro (And.intro ?_ ?_) ?_)
        | fail)
    · rw [if_neg h0] at hf
      repeat' (first
        | simp [AK_at, acode_seq, acode_region, acode_draw, acode_cond, ↓CB_t, ↓CB_f, CB_u, acode_block, acode_loop, acode_exit, acode_scope, acode_ret, acode_skip, seqQ_n, seqQ_e, seqQ_r, blockQ_n, blockQ_e, blockQ_r, TK_at, OK_at, SK_at, aops_nil, aops_cons, asch_done, asch_one, asch_two, asch_top, astep, aop_eq, isLoud, aloud, aloud1, isWrite, qv, evS, strip, gof, eget, hget, putO, eput, herase, oks, opnds, gS, afin, afin0, binD, arith, D.cells, takeD, fillD, keep, trim, envOf, Fin, aresl, aresv, resD, argOk, pickV, isP, deq, deqs, boundD, slD, lenD, isT, isSl, ptrIds, chunks, mn_min, mx_max, D.cells, splice_one, splice_more, Rbr_at, Rfr_at, frR, frV, frC, flatC, brwR, brwV, brwC, omap, leR, leV, leC, leL, leVL, hlt, hat, hlr, ii, h0]
        | (refine WCall.pf (hix) ?_ ?_ ?_ ?_; (focus (simp [oks, opnds, gS, gof, eget]; done)); (focus (simp [omap, brwV, brwC, evS, eget, strip, hget, leVL, leV, leC, leL, hlt, hat, hlr, ii, h0]; done)); (focus (simp [noV, noC, flatR, flatV, flatC, evS, eget, strip, hlt, hat, hlr, ii, h0]; done)))
        | (refine ⟨WCall.pf (hix) ?_ ?_ ?_ ?_, ?_⟩; (focus (simp [oks, opnds, gS, gof, eget]; done)); (focus (simp [omap, brwV, brwC, evS, eget, strip, hget, leVL, leV, leC, leL, hlt, hat, hlr, ii, h0]; done)); (focus (simp [noV, noC, flatR, flatV, flatC, evS, eget, strip, hlt, hat, hlr, ii, h0]; done)))
        | (with_reducible refine And.intro (And.intro ?_ ?_) ?_)
        | fail)
      all_goals exact ⟨_, i + 1, (Gh.ren [0] (by simp [hB0]) (by simp [hB0] <;> decide) (by simp [eget, rnS, rnR, rnV, rnC, LtS, LtR, LtV, LtC, lget]) (by simp [hget, rnO, rnC, LtO, LtC, lget]) (.inl (by simp [lget]))), by omega, rfl, by omega, hf⟩
  · obtain rfl : i = L.length := by omega
    rw [List.drop_length] at hf
    simp only [findZ] at hf
    simp [AK_at, acode_seq, acode_region, acode_draw, acode_cond, ↓CB_t, ↓CB_f, CB_u, acode_block, acode_loop, acode_exit, acode_scope, acode_ret, acode_skip, seqQ_n, seqQ_e, seqQ_r, blockQ_n, blockQ_e, blockQ_r, TK_at, OK_at, SK_at, aops_nil, aops_cons, asch_done, asch_one, asch_two, asch_top, astep, aop_eq, isLoud, aloud, aloud1, isWrite, qv, evS, strip, gof, eget, hget, putO, eput, herase, oks, opnds, gS, afin, afin0, binD, arith, D.cells, takeD, fillD, keep, trim, envOf, Fin, aresl, aresv, resD, argOk, pickV, isP, deq, deqs, boundD, slD, lenD, isT, isSl, ptrIds, chunks, mn_min, mx_max, D.cells, splice_one, splice_more, Rbr_at, Rfr_at, frR, frV, frC, flatC, brwR, brwV, brwC, omap, leR, leV, leC, leL, leVL, hf]
end Go.Proofs.Ytajimebannjofaa

set_option linter.unusedSimpArgs false
set_option linter.unusedVariables false
set_option maxRecDepth 100000
set_option maxHeartbeats 4000000
namespace Go.Proofs.Ytajimebannjofaa
open Go.RowKit
/-- lists as rows of cells -/
def tmX (L : List (List (Int × Int))) : List (List (List D)) := L.map fun l => l.map tmE
def lowT (t : Int × Int) (l : List (Int × Int)) : Nat := lowB (fun x => decide (ord2 x.1 x.2 t.1 t.2 < 0)) l
def insT (t : Int × Int) (l : List (Int × Int)) : List (Int × Int) := l.take (lowT t l) ++ [t] ++ l.drop (lowT t l)
def SrtT (l : List (Int × Int)) : Prop := List.Pairwise (fun a b => a.1 < b.1 ∨ (a.1 = b.1 ∧ a.2 < b.2)) l
theorem tmX_set (L : List (List (Int × Int))) (p : Nat) (l : List (Int × Int)) : tmX (L.set p l) = (tmX L).set p (l.map tmE) := by simp [tmX, List.map_set]
theorem tmX_len (L : List (List (Int × Int))) : (tmX L).length = L.length := by simp [tmX]
theorem ownR_get (n p : Nat) (h : p < n) : ∀ hq, (ownR n)[p]'hq = [.own p] := fun hq => by simp [ownR]
theorem ownR_len (n : Nat) : (ownR n).length = n := by simp [ownR]
theorem srt_mono {l : List (Int × Int)} (h : SrtT l) (t : Int × Int) (i j : Nat) (hi : i < l.length) (hj : j < l.length) (hij : i ≤ j) (hh : ord2 l[j].1 l[j].2 t.1 t.2 < 0) : ord2 l[i].1 l[i].2 t.1 t.2 < 0 := by
  by_cases e : i = j
  · subst e; exact hh
  have hp := List.pairwise_iff_getElem.1 h i j hi hj (by omega)
  rw [ord2_neg] at *
  omega
theorem wput_code : cfun Try.prog [46] 28 = some ⟨(.seq (.region 0 [⟨(some 3), (.box (.t 1)), none⟩]) (.seq (.draw 1 (.one true ⟨(some 7), (.mov (.t 0)), none⟩ (.one true ⟨(some 8), (.nchk (.t 7)), none⟩ (.one true ⟨(some 9), (.fad 0 (.t 8)), none⟩ (.one true ⟨(some 10), (.fad 1 (.t 9)), none⟩ (.one true ⟨(some 11), (.load false 1 (.t 10)), none⟩ (.one true ⟨(some 12), (.fad 0 (.t 3)), none⟩ (.one true ⟨(some 13), (.load false 1 (.t 12)), none⟩ (.one true ⟨(some 14), (.mov (.t 0)), none⟩ (.one true ⟨(some 15), (.nchk (.t 14)), none⟩ (.one true ⟨(some 16), (.fad 0 (.t 15)), none⟩ (.one true ⟨(some 17), (.fad 0 (.t 16)), none⟩ (.one true ⟨(some 18), (.load false 1 (.t 17)), none⟩ (.one true ⟨(some 19), (.call 39 [(.t 13), (.t 18)]), none⟩ (.one true ⟨(some 20), (.iads 1 (.t 11) (.t 19)), none⟩ (.one true ⟨(some 4), (.mov (.t 20)), none⟩ .done)))))))))))))))) (.seq (.draw 2 (.one true ⟨(some 22), (.mov (.t 4)), none⟩ (.one true ⟨(some 23), (.nchk (.t 22)), none⟩ (.one true ⟨(some 24), (.load false 1 (.t 23)), none⟩ (.one true ⟨(some 25), (.load true 2 (.t 3)), none⟩ (.one true ⟨(some 26), (.call 45 [(.t 24), (.t 25), (.k (.fn 41 []))]), none⟩ (.one true ⟨(some 21), (.mov (.t 26)), none⟩ (.one true ⟨(some 27), (.ext (.t 21) 0), none⟩ (.one true ⟨(some 28), (.ext (.t 21) 1), none⟩ (.one true ⟨(some 5), (.mov (.t 27)), none⟩ (.one true ⟨(some 6), (.mov (.t 28)), none⟩ .done))))))))))) (.draw 3 (.one true ⟨(some 29), (.mov (.t 4)), none⟩ (.one true ⟨(some 30), (.mov (.t 4)), none⟩ (.one true ⟨(some 31), (.nchk (.t 30)), none⟩ (.one true ⟨(some 32), (.load false 1 (.t 31)), none⟩ (.one true ⟨(some 33), (.mov (.t 5)), none⟩ (.one true ⟨(some 34), (.load true 2 (.t 3)), none⟩ (.one true ⟨(some 35), (.bslice 2 1 [(.int .i64 0), (.int .i64 0)] [(0, (.t 34))]), none⟩ (.one false ⟨(some 36), (.call 46 [(.t 32), (.t 33), (.t 35)]), none⟩ (.one true ⟨(some 37), (.nchk (.t 29)), none⟩ (.one false ⟨none, (.store 1 (.t 37) (.t 36)), none⟩ .done)))))))))))))), [], 38⟩ := by kernel_rfl
theorem wput_hf (now at_ id : Int) (L : List (List (Int × Int))) (p : Nat) (hL : L.length = 25) (n0 : 0 ≤ now) (n1 : now ≤ 2199023255552) (a0 : 0 ≤ at_) (a1 : at_ ≤ 2199023255552) (hp : placeM at_ now = p) (hp25 : p < 25) (hsl : ∀ l ∈ L, l.length ≤ 100000) (hs : SrtT (L.getD p [])) :
    HF Try.prog 28 [.ptr 26 0, .agg [I at_, I id]] (nestC now (tmX L)) 27 (RN (.tup []) now (tmX (L.set p (insT (at_, id) (L.getD p []))))) := by
  have hpl := wplace_pf at_ now a0 a1 n0 n1
  rw [hp] at hpl
  obtain ⟨l, hl⟩ : ∃ l, l = L.getD p [] := ⟨_, rfl⟩
  rw [← hl] at hs ⊢
  have hll : l ∈ L := by
    rw [hl, List.getD_eq_getElem?_getD, List.getElem?_eq_getElem (by omega)]
    exact List.getElem_mem _
  have hbs := tibsf_pf tmE l 41 at_ id (fun x => ord2 x.1 x.2 at_ id) (by have := hsl l hll; omega) (els_tm l) (fun s _ => word_pf s.1 s.2 at_ id) (fun i j hi hj hij hh => srt_mono hs (at_, id) i j hi hj hij hh)
  obtain ⟨i, hi⟩ : ∃ i, i = lowB (fun x : Int × Int => decide (ord2 x.1 x.2 at_ id < 0)) l := ⟨_, rfl⟩
  rw [← hi] at hbs
  have hil : i ≤ l.length := hi ▸ lowB_le _ _
  have hins := tins_hf (l.map tmE) i (tmE (at_, id)) (by simpa using hil) (by have := hsl l hll; simp; omega) rfl (els_tm l).rows (els_tm l).isT (fun d hd => by simp [tmE] at hd; rcases hd with rfl | rfl <;> rfl)
  have hXl := tmX_len L
  have h25 : (tmX L).length ≤ 25 := by omega
  have g26 := hget_nest26 now (tmX L)
  have g25 := hget_nest25 now (tmX L)
  have gp : hget (nestC now (tmX L)) p = some (.row 2 (l.map tmE)) := by
    rw [hget_nestp now (tmX L) p (by omega) h25]
    congr 2
    rw [hl]
    simp [tmX, List.getD_eq_getElem?_getD, hL, hp25]
  have hpn : ∀ n, 25 ≤ n → ¬ p = n := fun n h e => by omega
  have hpn2 : ∀ n, 25 ≤ n → ¬ n = p := fun n h e => by omega
  have hpz : (p : Int) < 25 := by omega
  have hrl : (ownR (tmX L).length).length = 25 := by rw [ownR_len, hXl, hL]
  have hrp := ownR_get (tmX L).length p (by omega)
  rw [hXl, hL] at hrl hrp g25
  refine HF.of follows_ok wput_code (by simp) (by simp [argOk]) (by simp [LtV, LtC]) fun B hBN hB0 => acode_sound [0, 1, 3, 4, 5] [] _ _ _ ?_
  have hep := eput_nest now (tmX L)
  repeat' (first
    | simp [AK_at, acode_seq, acode_region, acode_draw, acode_cond, ↓CB_t, ↓CB_f, CB_u, acode_block, acode_loop, acode_exit, acode_scope, acode_ret, acode_skip, seqQ_n, seqQ_e, seqQ_r, blockQ_n, blockQ_e, blockQ_r, TK_at, OK_at, SK_at, aops_nil, aops_cons, asch_done, asch_one, asch_two, asch_top, astep, aop_eq, isLoud, aloud, aloud1, isWrite, qv, evS, strip, gof, eget, hget, putO, eput, herase, oks, opnds, gS, afin, afin0, binD, arith, D.cells, takeD, fillD, keep, trim, envOf, Fin, aresl, aresv, resD, argOk, pickV, isP, deq, deqs, boundD, slD, lenD, isT, isSl, ptrIds, chunks, mn_min, mx_max, D.cells, splice_one, splice_more, Rbr_at, Rfr_at, frR, frV, frC, flatC, brwR, brwV, brwC, omap, leR, leV, leC, leL, leVL, hep, g26, g25, gp, hpn, hpn2, hpz, hrl, hrp, hp25]
    | (refine WCall.pf (hpl) ?_ ?_ ?_ ?_; (focus (simp [oks, opnds, gS, gof, eget]; done)); (focus (simp [omap, brwV, brwC, evS, eget, strip, hget, leVL, leV, leC, leL, hep, g26, g25, gp, hpn, hpn2, hpz, hrl, hrp, hp25]; done)); (focus (simp [noV, noC, flatR, flatV, flatC, evS, eget, strip, hep, g26, g25, gp, hpn, hpn2, hpz, hrl, hrp, hp25]; done)))
    | (refine ⟨WCall.pf (hpl) ?_ ?_ ?_ ?_, ?_⟩; (focus (simp [oks, opnds, gS, gof, eget]; done)); (focus (simp [omap, brwV, brwC, evS, eget, strip, hget, leVL, leV, leC, leL, hep, g26, g25, gp, hpn, hpn2, hpz, hrl, hrp, hp25]; done)); (focus (simp [noV, noC, flatR, flatV, flatC, evS, eget, strip, hep, g26, g25, gp, hpn, hpn2, hpz, hrl, hrp, hp25]; done)))
    | (refine WCall.pf (hbs) ?_ ?_ ?_ ?_; (focus (simp [oks, opnds, gS, gof, eget]; done)); (focus (simp [omap, brwV, brwC, evS, eget, strip, hget, leVL, leV, leC, leL, hep, g26, g25, gp, hpn, hpn2, hpz, hrl, hrp, hp25]; done)); (focus (simp [noV, noC, flatR, flatV, flatC, evS, eget, strip, hep, g26, g25, gp, hpn, hpn2, hpz, hrl, hrp, hp25]; done)))
    | (refine ⟨WCall.pf (hbs) ?_ ?_ ?_ ?_, ?_⟩; (focus (simp [oks, opnds, gS, gof, eget]; done)); (focus (simp [omap, brwV, brwC, evS, eget, strip, hget, leVL, leV, leC, leL, hep, g26, g25, gp, hpn, hpn2, hpz, hrl, hrp, hp25]; done)); (focus (simp [noV, noC, flatR, flatV, flatC, evS, eget, strip, hep, g26, g25, gp, hpn, hpn2, hpz, hrl, hrp, hp25]; done)))
    | (with_reducible refine And.intro (And.intro ?_ ?_) ?_)
    | fail)
  have hgl : ∀ n, 25 ≤ n → ¬ p = n := hpn
  refine WCall.hf [p, 28] hins (by simp [oks, opnds, gS, gof, eget]) rfl rfl (by simp [hpn]) (by simp; omega) (by simp [evS, eget, strip, rnV, rnC, rho]) (by simp [argOk]) (by simp [LtV, LtC]) (by simp [rho, rnO, rnC, hget, LtO, LtC, gp, hpn, tmE]) ?_
  rintro d H' nx' ⟨rfl, rfl, rfl⟩
  have gh25 : hget (herase (herase (nestC now (tmX L)) p) 28) 25 = some (.rowd 1 (ownR 25)) := by
    rw [hget_herase, if_neg (by omega), hget_herase, if_neg (by omega)]; exact g25
  simp [AK_at, acode_seq, acode_region, acode_draw, acode_cond, ↓CB_t, ↓CB_f, CB_u, acode_block, acode_loop, acode_exit, acode_scope, acode_ret, acode_skip, seqQ_n, seqQ_e, seqQ_r, blockQ_n, blockQ_e, blockQ_r, TK_at, OK_at, SK_at, aops_nil, aops_cons, asch_done, asch_one, asch_two, asch_top, astep, aop_eq, isLoud, aloud, aloud1, isWrite, qv, evS, strip, gof, eget, hget, putO, eput, herase, oks, opnds, gS, afin, afin0, binD, arith, D.cells, takeD, fillD, keep, trim, envOf, Fin, aresl, aresv, resD, argOk, pickV, isP, deq, deqs, boundD, slD, lenD, isT, isSl, ptrIds, chunks, mn_min, mx_max, D.cells, splice_one, splice_more, Rbr_at, Rfr_at, frR, frV, frC, flatC, brwR, brwV, brwC, omap, leR, leV, leC, leL, leVL, rnR, rnV, rnC, rnO, rho_0, hputs, herases, rho, hpn, hpn2, hep, g26, g25, hrl, hrp, hp25, gh25]
  rw [tmX_set]
  refine ⟨rfl, (List.range 25).set p 29, nestOk_set (now := now) (by omega) hp25 (by omega) ?_ ?_ ?_ (fun j hj hjp => ?_), set_ids (by omega)⟩
  · simp only [hget]
    rw [if_neg (by omega), if_neg (by omega), hget_eput, if_neg (by omega), hget_herase, if_neg (by omega), hget_herase, if_neg (by omega)]
    exact g26
  · simp only [hget]
    rw [if_neg (by omega), if_neg (by omega), hget_eput, if_pos rfl]
  · simp only [hget]
    rw [if_pos trivial]
    simp [insT, lowT, ← hi]
  · simp only [hget]
    rw [if_neg (by omega), if_neg (by omega), hget_eput, if_neg (by omega), hget_herase, if_neg (by omega), hget_herase, if_neg hjp]
end Go.Proofs.Ytajimebannjofaa

set_option linter.unusedSimpArgs false
set_option linter.unusedVariables false
namespace Go.Proofs.Ytajimebannjofaa
open Go.ChangeShapes Go.WideShapes Go.ChangeAt Go.RowKit

def numsE (r : List Int) : List Value := r.map (Value.int .i64)
def NumsOk (r : List Int) : Prop := ∀ z ∈ r, (Lit.int .i64 z).wf = true
/-- a type of n numbers in n cells -/
def Nums (P : Program) (t : TypeId) (n : Nat) : Prop :=
  ∀ {H : Type} {enc : TypeId × Value → H} {w : World} {base : Nat} {spare : Nat → Bool} {held : Bool} {fuel : Nat} {cs : List Value} {x : DataW H × List MemPlace},
    DataW.trod enc P w base spare held fuel t cs = some x → ∃ r : List Int, cs = numsE r ∧ r.length = n ∧ NumsOk r
theorem nums_of_cells (cs : List Value) (h : ∀ i, i < cs.length → ∃ z, cs[i]? = some (.int .i64 z) ∧ (Lit.int .i64 z).wf = true) : ∃ r : List Int, cs = numsE r ∧ NumsOk r := by
  induction cs with
  | nil => exact ⟨[], rfl, fun z hz => by cases hz⟩
  | cons v cs ih =>
    obtain ⟨z, hz, hw⟩ := h 0 (by simp)
    obtain ⟨r, rfl, hr⟩ := ih fun i hi => by have := h (i + 1) (by simpa using hi); simpa using this
    simp only [List.getElem?_cons_zero, Option.some.injEq] at hz
    subst hz
    refine ⟨z :: r, rfl, fun y hy => ?_⟩
    rcases List.mem_cons.1 hy with rfl | hy
    · exact hw
    · exact hr y hy
theorem Nums.struct {P : Program} {t : TypeId} {fs : Array Field} (ht : P.underlying t = some (.struct fs)) (hc : P.cellsOf t = fs.size)
    (hf : ∀ (i : Nat) (f : Field), fs[i]? = some f → f.offset = i ∧ P.cellsOf f.type = 1 ∧ P.underlying f.type = some (.int .i64)) : Nums P t fs.size := by
  intro H enc w base spare held fuel cs x h
  obtain ⟨xs, n, _, _, hl, hlen, hx⟩ := DataW.trod_struct ht h
  rw [hc] at hl
  obtain ⟨r, rfl, hr⟩ := nums_of_cells cs fun i hi => by
    rw [hl] at hi
    have hi' : i < xs.length := by omega
    have h1 := hx i fs[i] (by simp [hi])
    obtain ⟨h2, h3, h4⟩ := hf i fs[i] (by simp [hi])
    rw [h2, h3, List.getElem?_eq_getElem hi'] at h1
    obtain ⟨z, hz, _, hw⟩ := DataW.trod_int h4 h1
    refine ⟨z, ?_, hw⟩
    have := congrArg (fun l => l[0]?) hz
    simpa [List.getElem?_take, List.getElem?_drop] using this
  exact ⟨r, rfl, by simpa [numsE] using hl, hr⟩
theorem open_nums {H : Type} {enc : TypeId × Value → H} {P : Program} {w : World} {base : Nat} {spare : Nat → Bool} {held : Bool} {r0 : Reach} {b0 : Nat} {t e : TypeId} {n : Nat} {v : Value} {d : DataW H} {ps : List MemPlace}
    (ht : P.underlying t = some (.slice e)) (hc : P.cellsOf e = n) (hn0 : 0 < n) (hI : Nums P e n) (hv : Value.okWide P w r0 b0 t v) (h : DataW.Trod enc P w base spare held t v d ps) :
    ∃ rows : List (List Int), rows.length ≤ maxLen ∧ (∀ r ∈ rows, r.length = n ∧ NumsOk r) ∧ Sl w n numsE v rows := by
  obtain ⟨a0, len0, cap0, rfl⟩ := okWide_slice ht hv
  obtain ⟨fuel, hf⟩ := h
  rcases Go.Deep.open_slice ht hf with ⟨h0, _⟩ | ⟨a, len, cap, m, k, D, Pl, hcs, hb, hl, hm, hmm, _, hx⟩
  · simp only [Value.cells, List.cons.injEq, Value.slice.injEq, and_true] at h0
    obtain ⟨rfl, rfl, rfl⟩ := h0
    exact ⟨[], by simp, by simp, Sl.nil _ _ _⟩
  · simp only [Value.cells, List.cons.injEq, Value.slice.injEq, and_true] at hcs
    obtain ⟨e0, e1, e2⟩ := hcs
    subst e0 e1 e2
    rw [hc] at hx
    have hlm : len0 ≤ m := by rw [hmm]; split <;> omega
    have hrow : ∀ i, i < len0 → ∃ r : List Int, (r.length = n ∧ NumsOk r) ∧ ∀ j, j < n → w.cell? ((a.add (i * n)).add j) = (numsE r)[j]? := fun i hi => by
      obtain ⟨cs', h1, h2⟩ := hx i (by omega)
      obtain ⟨r, rfl, hr, hk⟩ := hI h2
      exact ⟨r, ⟨hr, hk⟩, (World.cells?_some h1).2.2⟩
    obtain ⟨f, hf'⟩ := Go.Deep.choose_lt hrow
    have hlen : ((List.range len0).map f).length = len0 := by simp
    refine ⟨(List.range len0).map f, by rw [hlen]; omega, fun r hr => ?_, some a, cap0, by rw [hlen], by rw [hlen]; exact hl, (fun h => by cases h), fun hne => ?_⟩
    · obtain ⟨i, hi, rfl⟩ := List.mem_map.1 hr
      exact (hf' i (List.mem_range.1 hi)).1
    · have h0 : 0 < len0 := by
        rcases Nat.eq_zero_or_pos len0 with rfl | h
        · simp at hne
        · exact h
      have hL : ∀ i, i < len0 → (numsE (f i)).length = n := fun i hi => by simp [numsE, (hf' i hi).1.1]
      have hc0 := (hf' 0 h0).2 0 hn0
      rw [List.getElem?_eq_getElem (by rw [hL 0 h0]; exact hn0)] at hc0
      obtain ⟨b, off, spot⟩ := a
      have hspot : spot = none := by simpa [Addr.add] using World.cell?_spot hc0
      subst hspot
      refine ⟨b, off, rfl, ?_, fun i x j u hxx hu => ?_⟩
      · obtain ⟨cs0, g1, _⟩ := hx 0 (by omega)
        simpa [Addr.add] using World.cells?_block g1 (by omega)
      · have hi : i < len0 := by
          have := (List.getElem?_eq_some_iff.1 hxx).1
          rwa [hlen] at this
        rw [List.getElem?_map, List.getElem?_range hi] at hxx
        simp only [Option.map_some, Option.some.injEq] at hxx
        subst hxx
        have hj : j < n := by
          have := (List.getElem?_eq_some_iff.1 hu).1
          rwa [hL i hi] at this
        rw [← hu, ← (hf' i hi).2 j hj, Go.Deep.add_add]
        congr 1
        unfold Addr.add
        split
        · rename_i hz
          obtain ⟨h1, h2⟩ : i * n = 0 ∧ j = 0 := by omega
          rw [h1, h2]; rfl
        · rw [Nat.add_assoc]
theorem Sl.map {α β : Type} {w : World} {sz : Nat} {E : α → List Value} {F : β → List Value} {v : Value} {xs : List α} (g : α → β) (h : Sl w sz E v xs) (hg : ∀ x ∈ xs, F (g x) = E x) : Sl w sz F v (xs.map g) := by
  obtain ⟨a, cap, h1, h2, h0, h3⟩ := h
  refine ⟨a, cap, by rw [h1, List.length_map], by rw [List.length_map]; exact h2, h0, fun hne => ?_⟩
  obtain ⟨b, off, h4, h5, h6⟩ := h3 (by simpa using hne)
  refine ⟨b, off, h4, h5, fun i x j u hx hu => ?_⟩
  rw [List.getElem?_map] at hx
  cases hxi : xs[i]? with
  | none => rw [hxi] at hx; cases hx
  | some y =>
    rw [hxi] at hx
    simp only [Option.map_some, Option.some.injEq] at hx
    subst hx
    exact h6 i y j u hxi (by rw [← hg y (List.mem_of_getElem? hxi)]; exact hu)
theorem nums_wf {z : Int} (h : (Lit.int .i64 z).wf = true) : -9223372036854775808 ≤ z ∧ z ≤ 9223372036854775807 := by
  have h1 : IntKind.i64.min = -9223372036854775808 := rfl
  have h2 : IntKind.i64.max = 9223372036854775807 := rfl
  simp only [Lit.wf, Bool.and_eq_true, decide_eq_true_eq] at h
  omega
end Go.Proofs.Ytajimebannjofaa

set_option linter.unusedSimpArgs false
set_option linter.unusedVariables false
set_option maxRecDepth 100000
namespace Go.Proofs.Ytajimebannjofaa
open Go.ChangeShapes Go.WideShapes Go.ChangeAt Go.RowKit

/-- what a type's cells may be -/
def Elt (P : Program) (t : TypeId) (n : Nat) {α : Type} (E : α → List Value) (ok : α → Prop) : Prop :=
  ∀ {H : Type} {enc : TypeId × Value → H} {w : World} {base : Nat} {spare : Nat → Bool} {held : Bool} {fuel : Nat} {cs : List Value} {x : DataW H × List MemPlace},
    DataW.trod enc P w base spare held fuel t cs = some x → ∃ r : α, cs = E r ∧ (E r).length = n ∧ ok r
theorem Elt.bool {P : Program} {t : TypeId} (ht : P.underlying t = some .bool) : Elt P t 1 (fun b : Bool => [Value.bool b]) (fun _ => True) := fun h => by
  obtain ⟨b, rfl, _⟩ := DataW.trod_bool ht h
  exact ⟨b, rfl, rfl, trivial⟩
theorem Elt.int {P : Program} {t : TypeId} (ht : P.underlying t = some (.int .i64)) : Elt P t 1 (fun z : Int => [Value.int .i64 z]) InR := fun h => by
  obtain ⟨z, rfl, _, hw⟩ := DataW.trod_int ht h
  exact ⟨z, rfl, rfl, nums_wf hw⟩
theorem Elt.nums {P : Program} {t : TypeId} {n : Nat} (h : Nums P t n) : Elt P t n numsE (fun r => r.length = n ∧ ∀ z ∈ r, InR z) := fun hx => by
  obtain ⟨r, rfl, hl, hk⟩ := h hx
  exact ⟨r, rfl, by simpa [numsE] using hl, hl, fun z hz => nums_wf (hk z hz)⟩
theorem open_elts {α : Type} [Inhabited α] {E : α → List Value} {ok : α → Prop} {H : Type} {enc : TypeId × Value → H} {P : Program} {w : World} {base : Nat} {spare : Nat → Bool} {held : Bool} {r0 : Reach} {b0 : Nat} {t e : TypeId} {n : Nat} {v : Value} {d : DataW H} {ps : List MemPlace}
    (ht : P.underlying t = some (.slice e)) (hc : P.cellsOf e = n) (hn0 : 0 < n) (hI : Elt P e n E ok) (hv : Value.okWide P w r0 b0 t v) (h : DataW.Trod enc P w base spare held t v d ps) :
    ∃ rows : List α, rows.length ≤ maxLen ∧ (∀ r ∈ rows, (E r).length = n ∧ ok r) ∧ Sl w n E v rows := by
  obtain ⟨a0, len0, cap0, rfl⟩ := okWide_slice ht hv
  obtain ⟨fuel, hf⟩ := h
  rcases Go.Deep.open_slice ht hf with ⟨h0, _⟩ | ⟨a, len, cap, m, k, D, Pl, hcs, hb, hl, hm, hmm, _, hx⟩
  · simp only [Value.cells, List.cons.injEq, Value.slice.injEq, and_true] at h0
    obtain ⟨rfl, rfl, rfl⟩ := h0
    exact ⟨[], by simp, by simp, Sl.nil _ _ _⟩
  · simp only [Value.cells, List.cons.injEq, Value.slice.injEq, and_true] at hcs
    obtain ⟨e0, e1, e2⟩ := hcs
    subst e0 e1 e2
    rw [hc] at hx
    have hlm : len0 ≤ m := by rw [hmm]; split <;> omega
    have hrow : ∀ i, i < len0 → ∃ r : α, ((E r).length = n ∧ ok r) ∧ ∀ j, j < n → w.cell? ((a.add (i * n)).add j) = (E r)[j]? := fun i hi => by
      obtain ⟨cs', h1, h2⟩ := hx i (by omega)
      obtain ⟨r, rfl, hr, hk⟩ := hI h2
      exact ⟨r, ⟨hr, hk⟩, (World.cells?_some h1).2.2⟩
    obtain ⟨f, hf'⟩ := Go.Deep.choose_lt hrow
    have hlen : ((List.range len0).map f).length = len0 := by simp
    refine ⟨(List.range len0).map f, by rw [hlen]; omega, fun r hr => ?_, some a, cap0, by rw [hlen], by rw [hlen]; exact hl, (fun h => by cases h), fun hne => ?_⟩
    · obtain ⟨i, hi, rfl⟩ := List.mem_map.1 hr
      exact (hf' i (List.mem_range.1 hi)).1
    · have h0 : 0 < len0 := by
        rcases Nat.eq_zero_or_pos len0 with rfl | h
        · simp at hne
        · exact h
      have hL : ∀ i, i < len0 → (E (f i)).length = n := fun i hi => (hf' i hi).1.1
      have hc0 := (hf' 0 h0).2 0 hn0
      rw [List.getElem?_eq_getElem (by rw [hL 0 h0]; exact hn0)] at hc0
      obtain ⟨b, off, spot⟩ := a
      have hspot : spot = none := by simpa [Addr.add] using World.cell?_spot hc0
      subst hspot
      refine ⟨b, off, rfl, ?_, fun i x j u hxx hu => ?_⟩
      · obtain ⟨cs0, g1, _⟩ := hx 0 (by omega)
        simpa [Addr.add] using World.cells?_block g1 (by omega)
      · have hi : i < len0 := by
          have := (List.getElem?_eq_some_iff.1 hxx).1
          rwa [hlen] at this
        rw [List.getElem?_map, List.getElem?_range hi] at hxx
        simp only [Option.map_some, Option.some.injEq] at hxx
        subst hxx
        have hj : j < n := by
          have := (List.getElem?_eq_some_iff.1 hu).1
          rwa [hL i hi] at this
        rw [← hu, ← (hf' i hi).2 j hj, Go.Deep.add_add]
        congr 1
        unfold Addr.add
        split
        · rename_i hz
          obtain ⟨h1, h2⟩ : i * n = 0 ∧ j = 0 := by omega
          rw [h1, h2]; rfl
        · rw [Nat.add_assoc]

theorem vt_bools {W : World} {v : Value} {l : List Bool} (h : Sl W 1 (fun b : Bool => [Value.bool b]) v l) : VT (allZ W) (.rows 1 (l.map fun b => [D.bool b])) v :=
  h.rows fun b _ => ⟨rfl, rfl, fun j d hd => by
    cases j with
    | zero => simp at hd; subst hd; exact ⟨_, rfl, fun Z => VT.bool b⟩
    | succ j => simp at hd⟩
theorem vt_ints {W : World} {v : Value} {l : List Int} (h : Sl W 1 (fun z : Int => [Value.int .i64 z]) v l) : VT (allZ W) (.rows 1 (l.map fun z => [I z])) v :=
  h.rows fun z _ => ⟨rfl, rfl, fun j d hd => by
    cases j with
    | zero => simp at hd; subst hd; exact ⟨_, rfl, fun Z => VT.int .i64 z⟩
    | succ j => simp at hd⟩
theorem vt_nums {W : World} {v : Value} {n : Nat} {l : List (List Int)} (h : Sl W n numsE v l) (hl : ∀ r ∈ l, r.length = n) : VT (allZ W) (.rows n (l.map fun r => r.map I)) v :=
  h.rows fun r hr => ⟨by simp [numsE, hl r hr], by simp [hl r hr], fun j d hd => by
    obtain ⟨z, hz, rfl⟩ := (map_get _ _ _ _).1 hd
    exact ⟨_, (map_get _ _ _ _).2 ⟨z, hz, rfl⟩, fun Z => VT.int .i64 z⟩⟩
theorem open_bools {H : Type} {enc : TypeId × Value → H} {w : World} {base : Nat} {spare : Nat → Bool} {held : Bool} {r0 : Reach} {b0 : Nat} {t e : TypeId} {v : Value} {d : DataW H} {ps : List MemPlace}
    (ht : Try.prog.underlying t = some (.slice e)) (hc : Try.prog.cellsOf e = 1) (he : Try.prog.underlying e = some .bool) (hv : Value.okWide Try.prog w r0 b0 t v) (h : DataW.Trod enc Try.prog w base spare held t v d ps) :
    ∃ l : List Bool, l.length ≤ maxLen ∧ VV s0 (allZ w) (.rows 1 (l.map fun b => [D.bool b])) v ∧ True := by
  obtain ⟨l, h1, _, h3⟩ := open_elts ht hc (by omega) (Elt.bool he) hv h
  exact ⟨l, h1, vt_bools h3, trivial⟩
theorem open_ints {H : Type} {enc : TypeId × Value → H} {w : World} {base : Nat} {spare : Nat → Bool} {held : Bool} {r0 : Reach} {b0 : Nat} {t e : TypeId} {v : Value} {d : DataW H} {ps : List MemPlace}
    (ht : Try.prog.underlying t = some (.slice e)) (hc : Try.prog.cellsOf e = 1) (he : Try.prog.underlying e = some (.int .i64)) (hv : Value.okWide Try.prog w r0 b0 t v) (h : DataW.Trod enc Try.prog w base spare held t v d ps) :
    ∃ l : List Int, l.length ≤ maxLen ∧ VV s0 (allZ w) (.rows 1 (l.map fun z => [I z])) v ∧ ∀ z ∈ l, InR z := by
  obtain ⟨l, h1, h2, h3⟩ := open_elts ht hc (by omega) (Elt.int he) hv h
  exact ⟨l, h1, vt_ints h3, fun z hz => (h2 z hz).2⟩
theorem open_rows {H : Type} {enc : TypeId × Value → H} {w : World} {base : Nat} {spare : Nat → Bool} {held : Bool} {r0 : Reach} {b0 : Nat} {t e : TypeId} {n : Nat} {v : Value} {d : DataW H} {ps : List MemPlace}
    (ht : Try.prog.underlying t = some (.slice e)) (hc : Try.prog.cellsOf e = n) (h0 : 0 < n) (he : Nums Try.prog e n) (hv : Value.okWide Try.prog w r0 b0 t v) (h : DataW.Trod enc Try.prog w base spare held t v d ps) :
    ∃ l : List (List Int), l.length ≤ maxLen ∧ VV s0 (allZ w) (.rows n (l.map fun r => r.map I)) v ∧ ∀ r ∈ l, r.length = n ∧ ∀ z ∈ r, InR z := by
  obtain ⟨l, h1, h2, h3⟩ := open_elts ht hc h0 (Elt.nums he) hv h
  exact ⟨l, h1, vt_nums h3 (fun r hr => (h2 r hr).2.1), fun r hr => (h2 r hr).2⟩
theorem laidOut : laidOutB Try.prog = true := by kernel_rfl
end Go.Proofs.Ytajimebannjofaa

set_option linter.unusedSimpArgs false
set_option linter.unusedVariables false
set_option maxRecDepth 100000
namespace Go.Proofs.Ytajimebannjofaa
open Go.RowKit
theorem mapK_row {P : Program} {kt : TypeId} {n : Nat} (h : mapK P kt = some n) : kt < P.types.size := by
  unfold mapK at h
  split at h
  · assumption
  · cases h
theorem wf_inr {z : Int} (h : InR z) : (Lit.int .i64 z).wf = true := by
  have h1 : IntKind.i64.min = -9223372036854775808 := rfl
  have h2 : IntKind.i64.max = 9223372036854775807 := rfl
  simp only [Lit.wf, Bool.and_eq_true, decide_eq_true_eq]
  obtain ⟨h3, h4⟩ := h
  omega
theorem key0 {P : Program} : MapsOk P 0 := fun t kt e ht hkt => by
  have hu : P.underlying kt = some (.int .i64) := by
    unfold mapK at hkt
    split at hkt
    · split at hkt
      · assumption
      · split at hkt
        · split at hkt
          · rename_i ks _ hc
            simp only [Bool.and_eq_true, decide_eq_true_eq] at hc
            simp at hkt
            rw [hkt] at hc
            simp at hc
          · cases hkt
        · cases hkt
      · cases hkt
    · cases hkt
  refine ⟨Maps.int_keyed hu, fun ks hk => ?_⟩
  obtain ⟨h1, h2⟩ := hk
  simp only [if_true] at h1
  match ks, h1 with
  | [z], _ => exact ⟨_, Maps.keyOf_int_mk hu (wf_inr (h2 z (by simp)))⟩
theorem key2_of {P : Program} (hlaid : laidOutB P = true) {kt : TypeId} {f g : Field} (hrow : kt < P.types.size) (hfs : P.underlying kt = some (.struct #[f, g])) (h2 : P.keyTypeAt 3 kt = true) (h4 : P.cellsOf kt = 2) (n1 : f.name ≠ "_" ∧ g.name ≠ "_")
    (g1 : f.offset = 0) (g2 : g.offset = 1) (g3 : P.cellsOf f.type = 1) (g4 : P.cellsOf g.type = 1) (g6 : P.underlying f.type = some (.int .i64) ∧ P.underlying g.type = some (.int .i64)) :
    Maps.Keyed P kt ∧ ∀ ks, goodK 2 ks → ∃ l, keyOf P kt (vInts (2 == 0) ks) = some l := by
  refine ⟨Maps.Keyed.of_law (deep_law_laid hlaid (m := 3) (by omega) hrow h2 (by rw [hfs])), fun ks hk => ?_⟩
  obtain ⟨k1, k2⟩ := hk
  have k1 : ks.length = 2 := k1
  match ks, k1 with
  | [a, b], _ =>
    have wa := wf_inr (k2 a (by simp))
    have wb := wf_inr (k2 b (by simp))
    obtain ⟨s, hs⟩ : ∃ s, P.types.size = s + 1 := ⟨P.types.size - 1, (Nat.succ_pred_eq_of_pos (Nat.lt_of_le_of_lt (Nat.zero_le kt) hrow)).symm⟩
    have h2k : P.keyType kt = true := by
      have h2' := h2
      unfold Program.keyType
      rw [hs]
      simp only [Program.keyTypeAt, hfs, g6.1, g6.2] at h2' ⊢
      simpa [n1.1, n1.2, g6.1, g6.2, Program.keyTypeAt] using h2'
    have hsome : (keyOf P kt (vInts (2 == 0) [a, b])).isSome = true := by
      unfold keyOf
      rw [hfs]
      simp only [vInts, Value.formed, hfs, h4, hs, Program.keyLits, Value.cells]
      simp [g1, g2, g3, g4, g6.1, g6.2, wa, wb, n1.1, n1.2, h2k]
    exact Option.isSome_iff_exists.1 hsome
end Go.Proofs.Ytajimebannjofaa

set_option linter.unusedSimpArgs false
set_option linter.unusedVariables false
set_option maxRecDepth 100000
set_option maxHeartbeats 4000000
namespace Go.Proofs.Ytajimebannjofaa
open Go.RowKit
structure LsOk (now : Int) (L : List (List (Int × Int))) : Prop where
  n0 : 0 ≤ now
  n1 : now ≤ 1099511627776
  len : L.length = 25
  fit : ∀ p, p < 25 → ∀ t ∈ L.getD p [], now < t.1 ∧ t.1 ≤ now + 500 ∧ t.1 ≤ 1099511627776 ∧ 0 ≤ t.2 ∧ t.2 < 200 ∧ placeM t.1 now = p
  srt : ∀ l ∈ L, SrtT l
  ids : (L.flatten.map (·.2)).Nodup
  few : L.flatten.length ≤ 200
def whLD (now : Int) (L : List (List (Int × Int))) : D := .agg [I now, .rows 1 (lsR L)]
/-- the numbers, as a map holds them -/
def wEs : List (Int × Int) → Nat → List Ent
  | [], _ => []
  | t :: l, k => ([t.2], [], k) :: wEs l (k + 1)
theorem wEs_app : ∀ (l : List (Int × Int)) (t : Int × Int) (k : Nat), wEs (l ++ [t]) k = wEs l k ++ [([t.2], [], k + l.length)]
  | [], t, k => rfl
  | x :: l, t, k => by
    simp only [List.cons_append, wEs, wEs_app l t (k + 1), List.length_cons]
    rw [show k + 1 + l.length = k + (l.length + 1) by omega]
theorem wEs_keys : ∀ (l : List (Int × Int)) (k : Nat), (wEs l k).map (·.1) = l.map fun t => [t.2]
  | [], _ => rfl
  | x :: l, k => by simp [wEs, wEs_keys l (k + 1)]
theorem wEs_len (l : List (Int × Int)) (k : Nat) : (wEs l k).length = l.length := by
  have := congrArg List.length (wEs_keys l k)
  simpa using this
theorem wEs_mem {l : List (Int × Int)} {k : Nat} {e : Ent} (h : e ∈ wEs l k) : ∃ t ∈ l, e.1 = [t.2] := by
  have : e.1 ∈ (wEs l k).map (·.1) := List.mem_map.2 ⟨e, h, rfl⟩
  rw [wEs_keys] at this
  obtain ⟨r, hr, he⟩ := List.mem_map.1 this
  exact ⟨r, hr, he.symm⟩
theorem ticlo_hf (l : List (Int × Int)) (hl : l.length < 1000000) : HF Try.prog 42 [.rows 2 (l.map tmE)] [] 0 (fun d H' nx' => d = .own 0 ∧ H' = [(0, .row 2 (l.map tmE))] ∧ nx' = 1) := by
  refine HF.gh (ticln_hf tmE l hl (els_tm l)) fun B hB d H' nx' hR => ?_
  rcases hR with ⟨rfl, rfl, rfl, rfl⟩ | ⟨rfl, rfl, rfl⟩
  · exact ⟨.own 0, [(0, .row 2 [])], 1, (Gh.adopt 0 2 (by omega) (by simp [eget])).trans (Gh.of_eq (by simp [eput])), by simp, rfl, rfl, rfl⟩
  · exact ⟨.own 0, [(0, .row 2 (l.map tmE))], 1, Gh.ren [1] (by simp [hB]) (fun id h => by rw [hB] at h; omega) (by simp [eget, rnS, rnR, rnV, rnC, lget, LtS, LtR, LtV, LtC]) (by simp [hget, rnO, LtO, lget]) (.inl (by simp [lget])), by simp, rfl, rfl, rfl⟩
theorem wopen_code : cfun Try.prog [] 24 = some ⟨(.seq (.region 0 [⟨(some 1), (.box (.t 0)), none⟩, ⟨(some 2), (.mov (.k .nilp)), none⟩, ⟨(some 3), (.mov (.k (.int .i64 0))), none⟩]) (.seq (.seq (.region 1 [⟨(some 11), (.fad 0 (.t 1)), none⟩, ⟨(some 12), (.load false 1 (.t 11)), none⟩, ⟨(some 13), (.bin .lss (.t 12) (.k (.int .i64 0))), none⟩, ⟨(some 14), (.mov (.t 13)), none⟩, ⟨(some 15), (.fad 0 (.t 1)), (some (14, false))⟩, ⟨(some 16), (.load false 1 (.t 15)), (some (14, false))⟩, ⟨(some 17), (.bin .gtr (.t 16) (.k (.int .i64 1099511627776))), (some (14, false))⟩, ⟨(some 18), (.pick (.t 14) (.k (.bool true)) (.t 17)), none⟩, ⟨(some 19), (.mov (.t 18)), none⟩, ⟨(some 20), (.fad 1 (.t 1)), (some (19, false))⟩, ⟨(some 21), (.load false 1 (.t 20)), (some (19, false))⟩, ⟨(some 22), (.len (.t 21)), (some (19, false))⟩, ⟨(some 23), (.bin .neq (.t 22) (.k (.int .i64 25))), (some (19, false))⟩, ⟨(some 24), (.pick (.t 19) (.k (.bool true)) (.t 23)), none⟩]) (.cond 24 (.seq (.region 2 [⟨(some 2), (.mov (.k .nilp)), none⟩, ⟨(some 3), (.mov (.k (.int .i64 6))), none⟩]) .ret) .skip)) (.seq (.region 3 [⟨(some 25), (.fad 0 (.t 1)), none⟩, ⟨(some 26), (.load false 1 (.t 25)), none⟩, ⟨(some 27), (.build [(.int .i64 0), .nil0] [(0, (1, (.t 26)))]), none⟩, ⟨(some 28), (.build [(.int .i64 0), .nil0] [(0, (2, (.t 27)))]), none⟩, ⟨(some 29), (.box (.t 28)), none⟩, ⟨(some 4), (.mov (.t 29)), none⟩]) (.seq (.region 4 [⟨(some 30), (.xop 0 [0] []), none⟩, ⟨(some 5), (.mov (.t 30)), none⟩]) (.seq (.region 5 [⟨(some 6), (.mov (.k (.int .i64 0))), none⟩]) (.seq (.seq (.region 6 [⟨(some 31), (.fad 1 (.t 1)), none⟩, ⟨(some 32), (.load false 1 (.t 31)), none⟩, ⟨(some 33), (.len (.t 32)), none⟩, ⟨(some 34), (.mov (.k (.int .i64 0))), none⟩]) (.block 0 (.loop (.seq (.region 7 [⟨(some 35), (.bin .lss (.t 34) (.t 33)), none⟩]) (.seq (.cond 35 .skip (.exit 0)) (.seq (.block 1 (.seq (.region 8 [⟨(some 36), (.mov (.t 34)), none⟩, ⟨(some 37), (.iads 1 (.t 32) (.t 34)), none⟩, ⟨(some 38), (.load false 1 (.t 37)), none⟩, ⟨(some 7), (.mov (.t 36)), none⟩, ⟨(some 8), (.mov (.t 38)), none⟩]) (.seq (.seq (.region 9 [⟨(some 39), (.mov (.t 8)), none⟩, ⟨(some 40), (.len (.t 39)), none⟩, ⟨(some 41), (.mov (.k (.int .i64 0))), none⟩]) (.block 2 (.loop (.seq (.region 10 [⟨(some 42), (.bin .lss (.t 41) (.t 40)), none⟩]) (.seq (.cond 42 .skip (.exit 2)) (.seq (.block 3 (.seq (.region 11 [⟨(some 43), (.iads 2 (.t 39) (.t 41)), none⟩, ⟨(some 44), (.load true 2 (.t 43)), none⟩, ⟨(some 10), (.alloc [(.int .i64 0), (.int .i64 0)]), none⟩, ⟨none, (.store 2 (.t 10) (.t 44)), none⟩]) (.seq (.seq (.region 12 [⟨(some 45), (.load true 2 (.t 10)), none⟩, ⟨(some 46), (.fad 0 (.t 1)), none⟩, ⟨(some 47), (.load false 1 (.t 46)), none⟩, ⟨(some 48), (.call 27 [(.t 45), (.t 47)]), none⟩, ⟨(some 49), (.not (.t 48)), none⟩, ⟨(some 50), (.mov (.t 49)), none⟩, ⟨(some 51), (.fad 0 (.t 10)), (some (50, false))⟩, ⟨(some 52), (.load false 1 (.t 51)), (some (50, false))⟩, ⟨(some 53), (.fad 0 (.t 1)), (some (50, false))⟩, ⟨(some 54), (.load false 1 (.t 53)), (some (50, false))⟩, ⟨(some 55), (.call 39 [(.t 52), (.t 54)]), (some (50, false))⟩, ⟨(some 56), (.mov (.t 7)), (some (50, false))⟩, ⟨(some 57), (.bin .neq (.t 55) (.t 56)), (some (50, false))⟩, ⟨(some 58), (.pick (.t 50) (.k (.bool true)) (.t 57)), none⟩]) (.cond 58 (.seq (.region 13 [⟨(some 2), (.mov (.k .nilp)), none⟩, ⟨(some 3), (.mov (.k (.int .i64 6))), none⟩]) .ret) .skip)) (.region 14 [⟨(some 59), (.mov (.t 5)), none⟩, ⟨(some 60), (.fad 1 (.t 10)), none⟩, ⟨(some 61), (.load false 1 (.t 60)), none⟩, ⟨(some 62), (.build [] []), none⟩, ⟨none, (.xop 1 [0] [(.t 59), (.t 61), (.t 62)]), none⟩])))) (.region 15 [⟨(some 63), (.bin .add (.t 41) (.k (.int .i64 1))), none⟩, ⟨(some 41), (.mov (.t 63)), none⟩]))))))) (.seq (.seq (.region 16 [⟨(some 64), (.mov (.t 8)), none⟩, ⟨(some 65), (.call 40 [(.t 64), (.k (.fn 41 []))]), none⟩, ⟨(some 66), (.not (.t 65)), none⟩]) (.cond 66 (.seq (.region 17 [⟨(some 2), (.mov (.k .nilp)), none⟩, ⟨(some 3), (.mov (.k (.int .i64 6))), none⟩]) .ret) .skip)) (.seq (.region 18 [⟨(some 67), (.mov (.t 6)), none⟩, ⟨(some 68), (.mov (.t 8)), none⟩, ⟨(some 69), (.len (.t 68)), none⟩, ⟨(some 70), (.bin .add (.t 67) (.t 69)), none⟩, ⟨(some 6), (.mov (.t 70)), none⟩]) (.draw 19 (.one true ⟨(some 71), (.mov (.t 4)), none⟩ (.one true ⟨(some 72), (.mov (.t 4)), none⟩ (.one true ⟨(some 73), (.nchk (.t 72)), none⟩ (.one true ⟨(some 74), (.fad 0 (.t 73)), none⟩ (.one true ⟨(some 75), (.fad 1 (.t 74)), none⟩ (.one true ⟨(some 76), (.load false 1 (.t 75)), none⟩ (.one true ⟨(some 77), (.mov (.t 8)), none⟩ (.one true ⟨(some 78), (.call 42 [(.t 77)]), none⟩ (.one true ⟨(some 79), (.bslice 1 1 [.nil0] [(0, (.t 78))]), none⟩ (.one false ⟨(some 80), (.app 1 24 [.nil0] (.t 76) (.t 79)), none⟩ (.one true ⟨(some 81), (.nchk (.t 71)), none⟩ (.one true ⟨(some 82), (.fad 0 (.t 81)), none⟩ (.one true ⟨(some 83), (.fad 1 (.t 82)), none⟩ (.one false ⟨none, (.store 1 (.t 83) (.t 80)), none⟩ .done)))))))))))))))))))) (.region 20 [⟨(some 84), (.bin .add (.t 34) (.k (.int .i64 1))), none⟩, ⟨(some 34), (.mov (.t 84)), none⟩]))))))) (.seq (.seq (.region 21 [⟨(some 85), (.mov (.t 5)), none⟩, ⟨(some 86), (.xop 3 [0] [(.t 85)]), none⟩, ⟨(some 87), (.mov (.t 6)), none⟩, ⟨(some 88), (.bin .lss (.t 86) (.t 87)), none⟩]) (.cond 88 (.seq (.region 22 [⟨(some 2), (.mov (.k .nilp)), none⟩, ⟨(some 3), (.mov (.k (.int .i64 6))), none⟩]) .ret) .skip)) (.seq (.region 23 [⟨(some 89), (.mov (.t 4)), none⟩, ⟨(some 2), (.mov (.t 89)), none⟩, ⟨(some 3), (.mov (.k (.int .i64 0))), none⟩]) .ret)))))))), [(.t 2), (.t 3)], 90⟩ := by kernel_rfl
theorem wopen_hf (now : Int) (L : List (List (Int × Int))) (h : LsOk now L) : HF Try.prog 24 [whLD now L] [] 0 (fun d H' nx' => d = .tup [.ptr 26 0, I 0] ∧ H' = nestC now (tmX L) ∧ nx' = 27) := by
  refine HF.gh (R := fun d H' nx' => d = .tup [.ptr 26 0, I 0] ∧ NestOk H' 26 25 (List.range 25) now (tmX L)) ?_ (fun B hB d H' nx' hR => ?_)
  · have hL := h.len
    have hlr : (lsR L).length = 25 := by simp [lsR, hL]
    have c1 : ¬ now < 0 := by have := h.n0; omega
    have c2 : ¬ 1099511627776 < now := by have := h.n1; omega
    unfold whLD
    refine HF.of follows_ok wopen_code (by simp) (by simp [argOk]) (by simp [LtV, LtC]) fun B hBN hB0 => acode_sound [0, 1, 2, 3, 4, 5, 6, 7, 8, 10, 24, 32, 33, 34, 35, 39, 40, 41, 42, 58, 66, 88] [] _ _ _ ?_
    simp [AK_at, acode_seq, acode_region, acode_draw, acode_cond, ↓CB_t, ↓CB_f, CB_u, acode_block, acode_loop, acode_exit, acode_scope, acode_ret, acode_skip, seqQ_n, seqQ_e, seqQ_r, blockQ_n, blockQ_e, blockQ_r, TK_at, OK_at, SK_at, aops_nil, aops_cons, asch_done, asch_one, asch_two, asch_top, astep, aop_eq, isLoud, aloud, aloud1, isWrite, qv, evS, strip, gof, eget, hget, putO, eput, herase, oks, opnds, gS, afin, afin0, binD, arith, D.cells, takeD, fillD, keep, trim, envOf, Fin, aresl, aresv, resD, argOk, pickV, isP, deq, deqs, boundD, slD, lenD, isT, isSl, ptrIds, chunks, mn_min, mx_max, D.cells, splice_one, splice_more, Rbr_at, Rfr_at, frR, frV, frC, flatC, brwR, brwV, brwC, omap, leR, leV, leC, leL, leVL, hlr, c1, c2]
    refine XCall.mk ?_
    simp [AK_at, acode_seq, acode_region, acode_draw, acode_cond, ↓CB_t, ↓CB_f, CB_u, acode_block, acode_loop, acode_exit, acode_scope, acode_ret, acode_skip, seqQ_n, seqQ_e, seqQ_r, blockQ_n, blockQ_e, blockQ_r, TK_at, OK_at, SK_at, aops_nil, aops_cons, asch_done, asch_one, asch_two, asch_top, astep, aop_eq, isLoud, aloud, aloud1, isWrite, qv, evS, strip, gof, eget, hget, putO, eput, herase, oks, opnds, gS, afin, afin0, binD, arith, D.cells, takeD, fillD, keep, trim, envOf, Fin, aresl, aresv, resD, argOk, pickV, isP, deq, deqs, boundD, slD, lenD, isT, isSl, ptrIds, chunks, mn_min, mx_max, D.cells, splice_one, splice_more, Rbr_at, Rfr_at, frR, frV, frC, flatC, brwR, brwV, brwC, omap, leR, leV, leC, leL, leVL, hlr]
    refine W.loopS (fun i : Nat => ⟨[(34, I i), (33, I 25), (32, .rows 1 (lsR L)), (6, I ((L.take i).flatten.length : Nat)), (5, .own 28), (4, .ptr 26 0), (1, .ptr 27 0)], (28, .mp true (wEs (L.take i).flatten 0) (L.take i).flatten.length) :: (27, .cells [I now, .rows 1 (lsR L)]) :: nestC now (tmX (L.take i)), 29⟩)
      (fun n i => n = 25 - i ∧ i ≤ 25) ?_ ?_
    · refine ⟨_, 0, (Gh.adoptC 1 1 1 (by omega) [I now, .nil0] (by simp [hget]) rfl).trans ((Gh.rowd 3 1 [] (by simp [hget, eput])).trans ?_), rfl, by omega⟩
      simp [eput]
      exact Gh.canon (Hx := [(28, .mp true (wEs [] 0) 0), (27, .cells [I now, .rows 1 (lsR L)])]) (x' := 1) (l' := 3) (ids := []) (es := [0, 2]) (xss := []) 29 hB0 ⟨rfl, by simp [hget], by simp [hget], fun p hp => by simp at hp, by simp⟩ (by simp) (by omega) (by simp [eget, canL, rnR, rnV, rnC, LtR, LtV, LtC]) (by simp [hget, canL, rnO, rnC, LtO, LtC, wEs]) (by simp [canL]) (by simp [canL])
    rintro n i ⟨hn, hi⟩
    refine acode_sound [0, 1, 2, 3, 4, 5, 6, 7, 8, 10, 24, 32, 33, 34, 35, 39, 40, 41, 42, 58, 66, 88] [] _ _ _ ?_
    by_cases hlt : i < 25
    · obtain ⟨l, hl⟩ : ∃ l, l = L[i]'(by omega) := ⟨_, rfl⟩
      have hlm : l ∈ L := hl ▸ List.getElem_mem _
      have hat : ∀ h : i < (lsR L).length, (lsR L)[i] = [.rows 2 (l.map tmE)] := fun h => by simp [lsR, hl]
      have hltz : (i : Int) < 25 := by omega
      obtain ⟨C, hC⟩ : ∃ C, C = (L.take i).flatten := ⟨_, rfl⟩
      have hC1 : (L.take (i + 1)).flatten = C ++ l := by
        rw [List.take_succ_eq_append_getElem (by omega), List.flatten_append, ← hC, ← hl]; simp
      have hpre : (C ++ l).Sublist L.flatten := by
        rw [← hC1]
        conv => rhs; rw [← List.take_append_drop (i + 1) L]
        rw [List.flatten_append]
        exact List.sublist_append_left _ _
      have hCl : (C ++ l).length ≤ 200 := Nat.le_trans hpre.length_le h.few
      have hidn : ((C ++ l).map (·.2)).Nodup := h.ids.sublist (hpre.map _)
      have hget0 : L.getD i [] = l := by rw [List.getD_eq_getElem?_getD, List.getElem?_eq_getElem (by omega), ← hl]; rfl
      have hfit := h.fit i hlt
      rw [hget0] at hfit
      rw [List.length_append] at hCl
      simp only [← hC]
      simp [AK_at, acode_seq, acode_region, acode_draw, acode_cond, ↓CB_t, ↓CB_f, CB_u, acode_block, acode_loop, acode_exit, acode_scope, acode_ret, acode_skip, seqQ_n, seqQ_e, seqQ_r, blockQ_n, blockQ_e, blockQ_r, TK_at, OK_at, SK_at, aops_nil, aops_cons, asch_done, asch_one, asch_two, asch_top, astep, aop_eq, isLoud, aloud, aloud1, isWrite, qv, evS, strip, gof, eget, hget, putO, eput, herase, oks, opnds, gS, afin, afin0, binD, arith, D.cells, takeD, fillD, keep, trim, envOf, Fin, aresl, aresv, resD, argOk, pickV, isP, deq, deqs, boundD, slD, lenD, isT, isSl, ptrIds, chunks, mn_min, mx_max, D.cells, splice_one, splice_more, Rbr_at, Rfr_at, frR, frV, frC, flatC, brwR, brwV, brwC, omap, leR, leV, leC, leL, leVL, hlr, hlt, hltz, hat]
      refine W.loopS (fun j : Nat => ⟨[(41, I j), (40, I l.length), (39, .rows 2 (l.map tmE)), (34, I i), (33, I 25), (32, .rows 1 (lsR L)), (8, .rows 2 (l.map tmE)), (7, I i), (6, I C.length), (5, .own 28), (4, .ptr 26 0), (1, .ptr 27 0)], (28, .mp true (wEs (C ++ l.take j) 0) (C ++ l.take j).length) :: (27, .cells [I now, .rows 1 (lsR L)]) :: nestC now (tmX (L.take i)), 29⟩)
        (fun n j => n = l.length - j ∧ j ≤ l.length) ?_ ?_
      · exact ⟨_, 0, Gh.envH (by simp [eget]) (by simp) rfl, rfl, by omega⟩
      rintro n j ⟨hn, hj⟩
      refine acode_sound [0, 1, 2, 3, 4, 5, 6, 7, 8, 10, 24, 32, 33, 34, 35, 39, 40, 41, 42, 58, 66, 88] [] _ _ _ ?_
      by_cases hjl : j < l.length
      · obtain ⟨o, ho⟩ : ∃ o, o = l[j] := ⟨_, rfl⟩
        have hof := hfit o (ho ▸ List.getElem_mem hjl)
        have hft := wfits_pf o.1 o.2 now h.n0 h.n1
        have hf1 : fitsB o.1 o.2 now = true := by simp [fitsB]; omega
        rw [hf1] at hft
        have hpl := wplace_pf o.1 now (by have := h.n0; omega) (by omega) h.n0 (by have := h.n1; omega)
        rw [hof.2.2.2.2.2] at hpl
        have hC2 : C ++ l.take (j + 1) = (C ++ l.take j) ++ [o] := by
          rw [List.take_succ_eq_append_getElem hjl, ← ho, List.append_assoc]
        have hidj : ((C ++ l.take (j + 1)).map (·.2)).Nodup := hidn.sublist (((List.Sublist.refl C).append (List.take_sublist (j + 1) l)).map _)
        obtain ⟨G, hG⟩ : ∃ G, G = C ++ l.take j := ⟨_, rfl⟩
        rw [← hG] at hC2
        rw [hC2, List.map_append] at hidj
        simp only [← hG]
        have hGl : G.length ≤ 200 := by rw [hG]; simp; omega
        obtain ⟨hnd1, _, hnd2⟩ := List.nodup_append.1 hidj
        have hnew : ∀ e ∈ wEs G 0, e.1 ≠ [o.2] := fun e he hk => by
          obtain ⟨r, hr, her⟩ := wEs_mem he
          rw [her] at hk
          simp only [List.cons.injEq, and_true] at hk
          exact hnd2 r.2 (List.mem_map.2 ⟨r, hr, rfl⟩) o.2 (by simp) hk
        have hGm : ∀ r ∈ G, 0 ≤ r.2 ∧ r.2 < 200 := fun r hr => by
          rw [hG] at hr
          have hr2 : r ∈ L.flatten := hpre.subset (((List.Sublist.refl C).append (List.take_sublist j l)).subset hr)
          obtain ⟨m, hm, hrm⟩ := List.mem_flatten.1 hr2
          obtain ⟨q, hq⟩ := List.getElem?_of_mem hm
          have hq25 := (List.getElem?_eq_some_iff.1 hq).1
          have := h.fit q (by rw [← hL]; exact hq25) r (by rw [List.getD_eq_getElem?_getD, hq]; exact hrm)
          omega
        have hgk : ∀ e ∈ wEs G 0, goodK 0 e.1 := fun e he => by
          obtain ⟨r, hr, her⟩ := wEs_mem he
          have := hGm r hr
          rw [her]
          exact ⟨rfl, by
            intro z hz
            rw [List.mem_singleton.1 hz]
            exact inW (by omega) (by omega)⟩
        have hnd : ((wEs G 0).map (·.1)).Nodup := by
          rw [wEs_keys]
          rw [List.nodup_iff_pairwise_ne, List.pairwise_map] at hnd1 ⊢
          exact hnd1.imp fun h e => h (by simpa using e)
        have hgi : goodK 0 [o.2] := ⟨rfl, by
          intro z hz
          rw [List.mem_singleton.1 hz]
          exact inW (by omega) (by omega)⟩
        have ij : InR ((j : Int) + 1) := inW (by omega) (by omega)
        have happ := wEs_app G o 0
        rw [Nat.zero_add] at happ
        have hwe : wEs (C ++ l.take (j + 1)) 0 = wEs G 0 ++ [([o.2], [], G.length)] := by rw [hC2, happ]
        have hmi : C.length + min (j + 1) l.length = G.length + 1 := by rw [hG]; simp; omega
        have hXi : (tmX (L.take i)).length = i := by simp [tmX]; omega
        repeat' (first
          | simp [AK_at, acode_seq, acode_region, acode_draw, acode_cond, ↓CB_t, ↓CB_f, CB_u, acode_block, acode_loop, acode_exit, acode_scope, acode_ret, acode_skip, seqQ_n, seqQ_e, seqQ_r, blockQ_n, blockQ_e, blockQ_r, TK_at, OK_at, SK_at, aops_nil, aops_cons, asch_done, asch_one, asch_two, asch_top, astep, aop_eq, isLoud, aloud, aloud1, isWrite, qv, evS, strip, gof, eget, hget, putO, eput, herase, oks, opnds, gS, afin, afin0, binD, arith, D.cells, takeD, fillD, keep, trim, envOf, Fin, aresl, aresv, resD, argOk, pickV, isP, deq, deqs, boundD, slD, lenD, isT, isSl, ptrIds, chunks, mn_min, mx_max, D.cells, splice_one, splice_more, Rbr_at, Rfr_at, frR, frV, frC, flatC, brwR, brwV, brwC, omap, leR, leV, leC, leL, leVL, tmE, hjl, ← ho]
          | (refine WCall.pf (hft) ?_ ?_ ?_ ?_; (focus (simp [oks, opnds, gS, gof, eget]; done)); (focus (simp [omap, brwV, brwC, evS, eget, strip, hget, leVL, leV, leC, leL, tmE, hjl, ← ho]; done)); (focus (simp [noV, noC, flatR, flatV, flatC, evS, eget, strip, tmE, hjl, ← ho]; done)))
          | (refine ⟨WCall.pf (hft) ?_ ?_ ?_ ?_, ?_⟩; (focus (simp [oks, opnds, gS, gof, eget]; done)); (focus (simp [omap, brwV, brwC, evS, eget, strip, hget, leVL, leV, leC, leL, tmE, hjl, ← ho]; done)); (focus (simp [noV, noC, flatR, flatV, flatC, evS, eget, strip, tmE, hjl, ← ho]; done)))
          | (refine WCall.pf (hpl) ?_ ?_ ?_ ?_; (focus (simp [oks, opnds, gS, gof, eget]; done)); (focus (simp [omap, brwV, brwC, evS, eget, strip, hget, leVL, leV, leC, leL, tmE, hjl, ← ho]; done)); (focus (simp [noV, noC, flatR, flatV, flatC, evS, eget, strip, tmE, hjl, ← ho]; done)))
          | (refine ⟨WCall.pf (hpl) ?_ ?_ ?_ ?_, ?_⟩; (focus (simp [oks, opnds, gS, gof, eget]; done)); (focus (simp [omap, brwV, brwC, evS, eget, strip, hget, leVL, leV, leC, leL, tmE, hjl, ← ho]; done)); (focus (simp [noV, noC, flatR, flatV, flatC, evS, eget, strip, tmE, hjl, ← ho]; done)))
          | (with_reducible refine And.intro (And.intro ?_ ?_) ?_)
          | fail)
        refine XCall.upd key0 (id := 28) (es := wEs G 0) (ck := G.length) (ks := [o.2]) (vs := []) (by simp [oks, opnds, gS, gof, eget]) rfl (by simp [evS, eget, strip]) (by simp [hget]) (by simp [evS, eget, strip, keyD]) (by simp [evS, eget, strip]) hgi hgk hnd ?_
        rw [mput_new hnew]
        simp [AK_at, acode_seq, acode_region, acode_draw, acode_cond, ↓CB_t, ↓CB_f, CB_u, acode_block, acode_loop, acode_exit, acode_scope, acode_ret, acode_skip, seqQ_n, seqQ_e, seqQ_r, blockQ_n, blockQ_e, blockQ_r, TK_at, OK_at, SK_at, aops_nil, aops_cons, asch_done, asch_one, asch_two, asch_top, astep, aop_eq, isLoud, aloud, aloud1, isWrite, qv, evS, strip, gof, eget, hget, putO, eput, herase, oks, opnds, gS, afin, afin0, binD, arith, D.cells, takeD, fillD, keep, trim, envOf, Fin, aresl, aresv, resD, argOk, pickV, isP, deq, deqs, boundD, slD, lenD, isT, isSl, ptrIds, chunks, mn_min, mx_max, D.cells, splice_one, splice_more, Rbr_at, Rfr_at, frR, frV, frC, flatC, brwR, brwV, brwC, omap, leR, leV, leC, leL, leVL, ij]
        refine ⟨_, j + 1, Gh.canonK (ids := List.range i) (Hx := [(28, _), (27, _)]) 29 hB0 ?_ (by omega) (by omega) (by simp [eget, rnR, rnV, rnC, LtR, LtV, LtC, canK]) (by simp [hget, rnO, rnC, LtO, LtC, hwe, hmi]) (fun k hk => .inl (range_lt (by omega) k hk)) (by simp), by omega, rfl, by omega⟩
        exact (((nestOk_range now _ i hXi (by omega)).up 27 _ (by omega) (range_lt (by omega))).up 28 _ (by omega) (range_lt (by omega))).up 29 _ (by omega) (range_lt (by omega))
      · obtain rfl : j = l.length := by omega
        have hso := tisf_pf tmE l 41 (fun a b => ord2 a.1 a.2 b.1 b.2) (by omega) (els_tm l) (fun s _ t _ => word_pf s.1 s.2 t.1 t.2) (fun k hk hh => by
          have := List.pairwise_iff_getElem.1 (h.srt l hlm) k (k + 1) (by omega) hk (by omega)
          rw [ord2_neg] at hh
          omega)
        have hcl := ticlo_hf l (by omega)
        have im : InR ((C.length : Int) + l.length) := inW (by omega) (by omega)
        have ii : InR ((i : Int) + 1) := inW (by omega) (by omega)
        simp only [List.take_length]
        have hXi : (tmX (L.take i)).length = i := by simp [tmX]; omega
        have g26 := hget_nest26 now (tmX (L.take i))
        have g25 := hget_nest25 now (tmX (L.take i))
        rw [hXi] at g25
        have gh26 : hget (herase (nestC now (tmX (L.take i))) 25) 26 = some (.cells [I now, .own 25]) := by
          rw [hget_herase, if_neg (by omega)]; exact g26
        have hol := ownR_len i
        have hcap : (i + 1) * 24 ≤ 140737488355328 := by omega
        have hor : ∀ row ∈ ownR i, row.length = 1 := fun row hr => by
          unfold ownR at hr
          obtain ⟨q, _, rfl⟩ := List.mem_map.1 hr
          rfl
        repeat' (first
          | simp [AK_at, acode_seq, acode_region, acode_draw, acode_cond, ↓CB_t, ↓CB_f, CB_u, acode_block, acode_loop, acode_exit, acode_scope, acode_ret, acode_skip, seqQ_n, seqQ_e, seqQ_r, blockQ_n, blockQ_e, blockQ_r, TK_at, OK_at, SK_at, aops_nil, aops_cons, asch_done, asch_one, asch_two, asch_top, astep, aop_eq, isLoud, aloud, aloud1, isWrite, qv, evS, strip, gof, eget, hget, putO, eput, herase, oks, opnds, gS, afin, afin0, binD, arith, D.cells, takeD, fillD, keep, trim, envOf, Fin, aresl, aresv, resD, argOk, pickV, isP, deq, deqs, boundD, slD, lenD, isT, isSl, ptrIds, chunks, mn_min, mx_max, D.cells, splice_one, splice_more, Rbr_at, Rfr_at, frR, frV, frC, flatC, brwR, brwV, brwC, omap, leR, leV, leC, leL, leVL, im, ii, g26, g25]
          | (refine WCall.pf (hso) ?_ ?_ ?_ ?_; (focus (simp [oks, opnds, gS, gof, eget]; done)); (focus (simp [omap, brwV, brwC, evS, eget, strip, hget, leVL, leV, leC, leL, im, ii, g26, g25]; done)); (focus (simp [noV, noC, flatR, flatV, flatC, evS, eget, strip, im, ii, g26, g25]; done)))
          | (refine ⟨WCall.pf (hso) ?_ ?_ ?_ ?_, ?_⟩; (focus (simp [oks, opnds, gS, gof, eget]; done)); (focus (simp [omap, brwV, brwC, evS, eget, strip, hget, leVL, leV, leC, leL, im, ii, g26, g25]; done)); (focus (simp [noV, noC, flatR, flatV, flatC, evS, eget, strip, im, ii, g26, g25]; done)))
          | (with_reducible refine And.intro (And.intro ?_ ?_) ?_)
          | fail)
        refine WCall.hf0 hcl (by simp [oks, opnds, gS, gof, eget]) (by simp [evS, eget, strip]) (by simp [argOk]) (by simp [noV, noC]) ?_
        rintro d H' nx' ⟨rfl, rfl, rfl⟩
        simp [AK_at, acode_seq, acode_region, acode_draw, acode_cond, ↓CB_t, ↓CB_f, CB_u, acode_block, acode_loop, acode_exit, acode_scope, acode_ret, acode_skip, seqQ_n, seqQ_e, seqQ_r, blockQ_n, blockQ_e, blockQ_r, TK_at, OK_at, SK_at, aops_nil, aops_cons, asch_done, asch_one, asch_two, asch_top, astep, aop_eq, isLoud, aloud, aloud1, isWrite, qv, evS, strip, gof, eget, hget, putO, eput, herase, oks, opnds, gS, afin, afin0, binD, arith, D.cells, takeD, fillD, keep, trim, envOf, Fin, aresl, aresv, resD, argOk, pickV, isP, deq, deqs, boundD, slD, lenD, isT, isSl, ptrIds, chunks, mn_min, mx_max, D.cells, splice_one, splice_more, Rbr_at, Rfr_at, frR, frV, frC, flatC, brwR, brwV, brwC, omap, leR, leV, leC, leL, leVL, rnR, rnV, rnC, rnO, rho_0, hputs, herases, g26, g25, gh26, hol, hcap, ii]
        have hsum : (List.take (i + 1) (L.map List.length)).sum = C.length + l.length := by
          have := congrArg List.length hC1
          simpa using this
        have hlt1 : (L.take (i + 1)).length = i + 1 := by simp; omega
        have hX1 : tmX (L.take (i + 1)) = tmX (L.take i) ++ [l.map tmE] := by
          rw [List.take_succ_eq_append_getElem (by omega), ← hl]; simp [tmX]
        have hH : ∀ j, j < 27 → j ≠ 26 → j ≠ 25 → hget ((31, Ob.rowd 1 (ownR i ++ [[D.own 29]])) :: (30, Ob.rowd 1 [[D.own 29]]) :: (29, Ob.row 2 (l.map tmE)) :: (28, Ob.mp true (wEs (C ++ l) 0) (C.length + l.length)) :: (27, Ob.cells [I now, D.rows 1 (lsR L)]) :: eput (herase (nestC now (tmX (L.take i))) 25) 26 (Ob.cells [I now, D.own 31])) j = hget (nestC now (tmX (L.take i))) j := fun j h1 h2 h3 => by
          simp only [hget]
          rw [if_neg (by omega), if_neg (by omega), if_neg (by omega), if_neg (by omega), if_neg (by omega), hget_eput, if_neg h2, hget_herase, if_neg h3]
        refine ⟨_, i + 1, Gh.canon (ids := List.range i ++ [29]) (l' := 31) (x' := 26) (es := [27, 28]) (Hx := [(28, _), (27, _)]) 29 hB0 ⟨by rw [tmX_len, hlt1]; simp, ?_, ?_, fun q hq => ?_, ?_⟩ (by rw [tmX_len, hlt1]; omega) (by omega) (by simp [eget, rnR, rnV, rnC, LtR, LtV, LtC, canL, hsum]) (by simp [hget, rnO, rnC, LtO, LtC, canL, hC1, hsum]) ?_ (by simp [canL]), by omega, rfl, by omega⟩
        · simp only [hget]
          rw [if_neg (by omega), if_neg (by omega), if_neg (by omega), if_neg (by omega), if_neg (by omega), hget_eput, if_pos rfl]
        · simp [hget, ownR]
        · rw [hX1] at hq ⊢
          simp only [List.length_append, hXi, List.length_cons, List.length_nil] at hq
          by_cases hqi : q < i
          · have e1 : (List.range i ++ [29]).getD q 0 = q := by
              rw [List.getD_eq_getElem?_getD, List.getElem?_append_left (by simpa using hqi), List.getElem?_range hqi]; rfl
            rw [e1, hH q (by omega) (by omega) (by omega), hget_nestp _ _ q (by omega) (by omega)]
            congr 2
            rw [List.getD_eq_getElem?_getD, List.getD_eq_getElem?_getD, List.getElem?_append_left (by omega)]
          · obtain rfl : q = i := by omega
            have e1 : (List.range q ++ [29]).getD q 0 = 29 := by
              rw [List.getD_eq_getElem?_getD, List.getElem?_append_right (by simp)]; simp
            rw [e1]
            simp only [hget]
            rw [if_neg (by omega), if_neg (by omega), if_pos trivial, List.getD_eq_getElem?_getD, List.getElem?_append_right (by omega), hXi]
            simp
        · rw [List.nodup_append]
          refine ⟨List.nodup_range, by simp, fun x hx y hy => ?_⟩
          simp at hx hy
          omega
        · intro p hp
          simp at hp
          rcases hp with rfl | rfl
          · simp [canL]; omega
          · simp [canL]; omega
    · obtain rfl : i = 25 := by omega
      have htk : L.take 25 = L := List.take_of_length_le (by omega)
      simp only [htk]
      have hfew := h.few
      obtain ⟨C, hC⟩ : ∃ C, C = L.flatten := ⟨_, rfl⟩
      simp only [← hC] at hfew ⊢
      have hlw := wEs_len C 0
      have g26 := hget_nest26 now (tmX L)
      simp [AK_at, acode_seq, acode_region, acode_draw, acode_cond, ↓CB_t, ↓CB_f, CB_u, acode_block, acode_loop, acode_exit, acode_scope, acode_ret, acode_skip, seqQ_n, seqQ_e, seqQ_r, blockQ_n, blockQ_e, blockQ_r, TK_at, OK_at, SK_at, aops_nil, aops_cons, asch_done, asch_one, asch_two, asch_top, astep, aop_eq, isLoud, aloud, aloud1, isWrite, qv, evS, strip, gof, eget, hget, putO, eput, herase, oks, opnds, gS, afin, afin0, binD, arith, D.cells, takeD, fillD, keep, trim, envOf, Fin, aresl, aresv, resD, argOk, pickV, isP, deq, deqs, boundD, slD, lenD, isT, isSl, ptrIds, chunks, mn_min, mx_max, D.cells, splice_one, splice_more, Rbr_at, Rfr_at, frR, frV, frC, flatC, brwR, brwV, brwC, omap, leR, leV, leC, leL, leVL]
      refine XCall.len (id := 28) (bare := true) (es := wEs C 0) (ck := C.length) (by simp [oks, opnds, gS, gof, eget]) (by simp [evS, eget, strip]) (by simp [hget]) ?_
      simp [AK_at, acode_seq, acode_region, acode_draw, acode_cond, ↓CB_t, ↓CB_f, CB_u, acode_block, acode_loop, acode_exit, acode_scope, acode_ret, acode_skip, seqQ_n, seqQ_e, seqQ_r, blockQ_n, blockQ_e, blockQ_r, TK_at, OK_at, SK_at, aops_nil, aops_cons, asch_done, asch_one, asch_two, asch_top, astep, aop_eq, isLoud, aloud, aloud1, isWrite, qv, evS, strip, gof, eget, hget, putO, eput, herase, oks, opnds, gS, afin, afin0, binD, arith, D.cells, takeD, fillD, keep, trim, envOf, Fin, aresl, aresv, resD, argOk, pickV, isP, deq, deqs, boundD, slD, lenD, isT, isSl, ptrIds, chunks, mn_min, mx_max, D.cells, splice_one, splice_more, Rbr_at, Rfr_at, frR, frV, frC, flatC, brwR, brwV, brwC, omap, leR, leV, leC, leL, leVL, hlw]
      exact ((nestOk_range now _ 25 (by rw [tmX_len, hL]) (by omega)).up 27 _ (by omega) (range_lt (by omega))).up 28 _ (by omega) (range_lt (by omega))
  · obtain ⟨rfl, hn⟩ := hR
    refine ⟨_, _, 27, Gh.canonK (Hx := []) (env1 := [(0, .tup [.ptr 26 0, I 0])]) 27 hB hn (by simp [tmX, h.len]) (by omega) ?_ (by simp) (fun i hi => .inl (List.mem_range.1 hi)) (by simp), by simp, rfl, by simp, rfl⟩
    simp [eget, rnR, rnV, rnC, canK, LtR, LtV, LtC]
end Go.Proofs.Ytajimebannjofaa

set_option linter.unusedSimpArgs false
set_option linter.unusedVariables false
set_option maxRecDepth 100000
set_option maxHeartbeats 4000000
namespace Go.Proofs.Ytajimebannjofaa
open Go.RowKit
theorem findZ_none (id : Int) : ∀ (L : List (List (Int × Int))) (k : Nat), (∀ l ∈ L, ∀ t ∈ l, t.2 ≠ id) → findZ id L k = (-1, -1)
  | [], _, _ => rfl
  | l :: L, k, h => by
    have : idxZ (isI id) l = -1 := idxZ_none (isI id) l fun t ht => by simpa [isI] using h l List.mem_cons_self t ht
    simp only [findZ, this]
    rw [if_neg (by omega)]
    exact findZ_none id L (k + 1) fun m hm => h m (List.mem_cons_of_mem _ hm)
theorem len_flat {α : Type} : ∀ (L : List (List α)) (l : List α), l ∈ L → l.length ≤ L.flatten.length
  | [], _, h => by cases h
  | m :: L, l, h => by
    rw [List.flatten_cons, List.length_append]
    rcases List.mem_cons.1 h with rfl | h
    · omega
    · have := len_flat L l h; omega
theorem LsOk.small {now : Int} {L : List (List (Int × Int))} (h : LsOk now L) (l : List (Int × Int)) (hl : l ∈ L) : l.length ≤ 200 := Nat.le_trans (len_flat L l hl) h.few
theorem lsR_tmX (L : List (List (Int × Int))) : (tmX L).map (fun xs => [D.rows 2 xs]) = lsR L := by simp [tmX, lsR]
/-- reading such a struct -/
theorem brw_ls (H : List (Nat × Ob)) (n : Nat) (now : Int) (L : List (List (Int × Int))) (hL : L.length = 25) (h : ∀ p, p < 25 → hget H p = hget (nestC now (tmX L)) p) : omap (omap (brwC H (n + 1))) (ownR 25) = some (lsR L) := by
  have := brw_own H n (tmX L) (fun p hp => by
    rw [tmX_len, hL] at hp
    rw [h p hp]
    exact hget_nestp now (tmX L) p (by rw [tmX_len, hL]; exact hp) (by rw [tmX_len, hL]; exact Nat.le_refl _))
  rw [tmX_len, hL, lsR_tmX] at this
  exact this
theorem up3 {now : Int} {X : List (List (List D))} {a b c : Nat} {oa ob oc : Ob} (ha : 27 ≤ a) (hb : 27 ≤ b) (hc : 27 ≤ c) (p : Nat) (hp : p < 25) : hget ((a, oa) :: (b, ob) :: (c, oc) :: nestC now X) p = hget (nestC now X) p := by
  simp only [hget]; rw [if_neg (by omega), if_neg (by omega), if_neg (by omega)]
theorem up2 {now : Int} {X : List (List (List D))} {a b : Nat} {oa ob : Ob} (ha : 27 ≤ a) (hb : 27 ≤ b) (p : Nat) (hp : p < 25) : hget ((a, oa) :: (b, ob) :: nestC now X) p = hget (nestC now X) p := by
  simp only [hget]; rw [if_neg (by omega), if_neg (by omega)]
/-- the heap behind open -/
theorem open_nest {now : Int} {X : List (List (List D))} (n : Nat) (H : List (Nat × Ob)) (h25 : X.length ≤ 25) (hH : ∀ j, hget H j ≠ none → j < n) :
    NestOk (hputs (rho [] 0 n) (nestC now X) H) (n + 26) (n + 25) ((List.range X.length).map (n + ·)) now X ∧ ∀ j, j < n → hget (hputs (rho [] 0 n) (nestC now X) H) j = hget H j := by
  have hr : ∀ j, rho [] 0 n j = n + j := fun j => rho_0 n j
  have hinj : ∀ {id : Nat}, ∀ p ∈ nestC now X, rho [] 0 n p.1 = rho [] 0 n id → p.1 = id := fun p _ e => by rw [hr, hr] at e; omega
  refine ⟨⟨by simp, ?_, ?_, fun p hp => ?_, ?_⟩, fun j hj => hputs_out fun p hp e => by rw [hr] at e; omega⟩
  · have := hputs_fwd (H := H) hinj (hget_nest26 now X)
    rw [hr] at this
    rw [this]; simp [rnO, rnC, hr]
  · have := hputs_fwd (H := H) hinj (hget_nest25 now X)
    rw [hr] at this
    rw [this]; simp [rnO, rnC, hr, ownR]
  · have := hputs_fwd (H := H) hinj (hget_nestp now X p hp h25)
    rw [hr] at this
    have e : ((List.range X.length).map (n + ·)).getD p 0 = n + p := by
      rw [List.getD_eq_getElem?_getD, List.getElem?_map, List.getElem?_range hp]; rfl
    rw [e, this]; rfl
  · exact List.Pairwise.map _ (fun a b hab e => hab (by omega)) List.nodup_range
theorem warm_code : cfun Try.prog [] 13 = some ⟨(.seq (.region 0 [⟨(some 3), (.box (.t 0)), none⟩, ⟨(some 6), (.alloc [(.int .i64 0), .nil0]), none⟩, ⟨(some 7), (.mov (.k (.int .i64 0))), none⟩]) (.seq (.region 1 [⟨(some 14), (.load true 2 (.t 3)), none⟩, ⟨(some 15), (.call 24 [(.t 14)]), none⟩, ⟨(some 13), (.mov (.t 15)), none⟩, ⟨(some 16), (.ext (.t 13) 0), none⟩, ⟨(some 17), (.ext (.t 13) 1), none⟩, ⟨(some 8), (.mov (.t 16)), none⟩, ⟨(some 9), (.mov (.t 17)), none⟩]) (.seq (.seq (.region 2 [⟨(some 18), (.mov (.t 9)), none⟩, ⟨(some 19), (.bin .neq (.t 18) (.k (.int .i64 0))), none⟩]) (.cond 19 (.seq (.region 3 [⟨(some 20), (.build [(.int .i64 0), .nil0] []), none⟩, ⟨(some 21), (.mov (.t 9)), none⟩, ⟨none, (.store 2 (.t 6) (.t 20)), none⟩, ⟨(some 7), (.mov (.t 21)), none⟩]) .ret) .skip)) (.seq (.region 4 [⟨(some 22), (.mov (.t 2)), none⟩, ⟨(some 23), (.mov (.t 1)), none⟩, ⟨(some 24), (.build [(.int .i64 0), (.int .i64 0)] [(0, (1, (.t 22))), (1, (1, (.t 23)))]), none⟩, ⟨(some 10), (.alloc [(.int .i64 0), (.int .i64 0)]), none⟩, ⟨none, (.store 2 (.t 10) (.t 24)), none⟩]) (.seq (.seq (.region 5 [⟨(some 25), (.load true 2 (.t 10)), none⟩, ⟨(some 26), (.fad 0 (.t 3)), none⟩, ⟨(some 27), (.load false 1 (.t 26)), none⟩, ⟨(some 28), (.call 27 [(.t 25), (.t 27)]), none⟩, ⟨(some 29), (.not (.t 28)), none⟩]) (.cond 29 (.seq (.region 6 [⟨(some 30), (.build [(.int .i64 0), .nil0] []), none⟩, ⟨none, (.store 2 (.t 6) (.t 30)), none⟩, ⟨(some 7), (.mov (.k (.int .i64 2))), none⟩]) .ret) .skip)) (.seq (.seq (.region 7 [⟨(some 32), (.mov (.t 8)), none⟩, ⟨(some 33), (.mov (.t 1)), none⟩, ⟨(some 34), (.call 25 [(.t 32), (.t 33)]), none⟩, ⟨(some 31), (.mov (.t 34)), none⟩, ⟨(some 35), (.ext (.t 31) 0), none⟩, ⟨(some 36), (.ext (.t 31) 1), none⟩, ⟨(some 11), (.mov (.t 35)), none⟩, ⟨(some 12), (.mov (.t 36)), none⟩]) (.seq (.region 8 [⟨(some 37), (.mov (.t 11)), none⟩, ⟨(some 38), (.bin .geq (.t 37) (.k (.int .i64 0))), none⟩]) (.cond 38 (.seq (.region 9 [⟨(some 39), (.build [(.int .i64 0), .nil0] []), none⟩, ⟨none, (.store 2 (.t 6) (.t 39)), none⟩, ⟨(some 7), (.mov (.k (.int .i64 7))), none⟩]) .ret) .skip))) (.seq (.region 10 [⟨(some 40), (.mov (.t 8)), none⟩, ⟨(some 41), (.load true 2 (.t 10)), none⟩, ⟨(some 42), (.call 28 [(.t 40), (.t 41)]), none⟩]) (.seq (.region 11 [⟨(some 43), (.mov (.t 8)), none⟩, ⟨(some 44), (.nchk (.t 43)), none⟩, ⟨(some 45), (.fad 0 (.t 44)), none⟩, ⟨(some 46), (.load true 2 (.t 45)), none⟩, ⟨none, (.store 2 (.t 6) (.t 46)), none⟩, ⟨(some 7), (.mov (.k (.int .i64 0))), none⟩]) .ret)))))))), [(.c 6 true 2), (.t 7)], 47⟩ := by kernel_rfl
theorem warm_pf (now at_ id : Int) (L : List (List (Int × Int))) (p : Nat) (h : LsOk now L) (hf : fitsB at_ id now = true) (hp : placeM at_ now = p) (hp25 : p < 25) (hid : ∀ l ∈ L, ∀ t ∈ l, t.2 ≠ id) :
    PF Try.prog 13 [whLD now L, I id, I at_] (.tup [whLD now (L.set p (insT (at_, id) (L.getD p []))), I 0]) := by
  have hop := wopen_hf now L h
  have hL := h.len
  have hft := wfits_pf at_ id now h.n0 h.n1
  rw [hf] at hft
  have hfn := wfind_pf now id L (by omega) (fun l hl => by have := h.small l hl; omega)
  rw [findZ_none id L 0 hid] at hfn
  have hX : (tmX L).length = 25 := by rw [tmX_len, hL]
  have hb : 0 ≤ at_ ∧ at_ ≤ 1099511627776 := by have := h.n0; simp [fitsB] at hf; omega
  have hput := wput_hf now at_ id L p hL h.n0 (by have := h.n1; omega) hb.1 (by omega) hp hp25 (fun l hl => by have := h.small l hl; omega) (by
    rw [List.getD_eq_getElem?_getD, List.getElem?_eq_getElem (by omega)]
    exact h.srt _ (List.getElem_mem _))
  have hL'l : (L.set p (insT (at_, id) (L.getD p []))).length = 25 := by simp [hL]
  generalize L.set p (insT (at_, id) (L.getD p [])) = L' at hput hL'l ⊢
  unfold whLD at hop ⊢
  refine PF.of follows_ok warm_code (by simp) (by simp [argOk]) (by simp [noV, noC]) fun B hBN hB0 => acode_sound [0, 1, 2, 3, 6, 7, 8, 9, 10, 11, 19, 29, 38] [2, 10] _ _ _ ?_
  simp [AK_at, acode_seq, acode_region, acode_draw, acode_cond, ↓CB_t, ↓CB_f, CB_u, acode_block, acode_loop, acode_exit, acode_scope, acode_ret, acode_skip, seqQ_n, seqQ_e, seqQ_r, blockQ_n, blockQ_e, blockQ_r, TK_at, OK_at, SK_at, aops_nil, aops_cons, asch_done, asch_one, asch_two, asch_top, astep, aop_eq, isLoud, aloud, aloud1, isWrite, qv, evS, strip, gof, eget, hget, putO, eput, herase, oks, opnds, gS, afin, afin0, binD, arith, D.cells, takeD, fillD, keep, trim, envOf, Fin, aresl, aresv, resD, argOk, pickV, isP, deq, deqs, boundD, slD, lenD, isT, isSl, ptrIds, chunks, mn_min, mx_max, D.cells, splice_one, splice_more, Rbr_at, Rfr_at, frR, frV, frC, flatC, brwR, brwV, brwC, omap, leR, leV, leC, leL, leVL]
  refine WCall.hf0 hop (by simp [oks, opnds, gS, gof, eget]) (by simp [evS, eget, strip]) (by simp [argOk]) (by simp [noV, noC]) ?_
  rintro d H' nx' ⟨rfl, rfl, rfl⟩
  obtain ⟨hno, hnx⟩ := open_nest (now := now) (X := tmX L) 2 [(1, .cells [I 0, .nil0]), (0, .cells [I now, .rows 1 (lsR L)])] (by omega) (fun j hj => by
    by_cases h1 : j = 1
    · omega
    · by_cases h2 : j = 0
      · omega
      · simp [hget, h1, h2] at hj)
  obtain ⟨Hn, hHn⟩ : ∃ Hn, Hn = hputs (rho [] 0 2) (nestC now (tmX L)) [(1, .cells [I 0, .nil0]), (0, .cells [I now, .rows 1 (lsR L)])] := ⟨_, rfl⟩
  rw [← hHn] at hno hnx
  have k0 := hnx 0 (by omega)
  have k1 := hnx 1 (by omega)
  simp only [hget, if_true, Nat.zero_ne_one, if_false] at k0 k1
  simp only [← hHn]
  simp [AK_at, acode_seq, acode_region, acode_draw, acode_cond, ↓CB_t, ↓CB_f, CB_u, acode_block, acode_loop, acode_exit, acode_scope, acode_ret, acode_skip, seqQ_n, seqQ_e, seqQ_r, blockQ_n, blockQ_e, blockQ_r, TK_at, OK_at, SK_at, aops_nil, aops_cons, asch_done, asch_one, asch_two, asch_top, astep, aop_eq, isLoud, aloud, aloud1, isWrite, qv, evS, strip, gof, eget, hget, putO, eput, herase, oks, opnds, gS, afin, afin0, binD, arith, D.cells, takeD, fillD, keep, trim, envOf, Fin, aresl, aresv, resD, argOk, pickV, isP, deq, deqs, boundD, slD, lenD, isT, isSl, ptrIds, chunks, mn_min, mx_max, D.cells, splice_one, splice_more, Rbr_at, Rfr_at, frR, frV, frC, flatC, brwR, brwV, brwC, omap, leR, leV, leC, leL, leVL, rnR, rnV, rnC, rnO, rho_0, hputs, herases]
  refine W.gh (st1 := ⟨[(9, I 0), (8, .ptr 26 0), (6, .ptr 28 0), (3, .ptr 27 0), (2, I at_), (1, I id)], [(28, .cells [I 0, .nil0]), (27, .cells [I now, .rows 1 (lsR L)])] ++ nestC now (tmX L), 29⟩) (Gh.canon (es := [0, 1]) 29 hB0 hno (by omega) (by omega) (by simp [eget, rnR, rnV, rnC, LtR, LtV, LtC, canL]) (by simp [hget, rnO, rnC, LtO, LtC, canL, k0, k1]) (by simp [canL]; intros; omega) (by simp [canL])) ?_
  have hbw : omap (omap (brwC ((29, .cells [I at_, I id]) :: (28, .cells [I 0, .nil0]) :: (27, .cells [I now, .rows 1 (lsR L)]) :: nestC now (tmX L)) 2)) (ownR 25) = some (lsR L) := brw_ls _ 1 now L hL fun q hq => up3 (by omega) (by omega) (by omega) q hq
  have g26 := hget_nest26 now (tmX L)
  have g25 := hget_nest25 now (tmX L)
  rw [hX] at g25
  have hep := eput_nest now (tmX L)
  refine acode_sound [0, 1, 2, 3, 6, 7, 8, 9, 10, 11, 19, 29, 38] [10] _ _ _ ?_
  repeat' (first
    | simp [AK_at, acode_seq, acode_region, acode_draw, acode_cond, ↓CB_t, ↓CB_f, CB_u, acode_block, acode_loop, acode_exit, acode_scope, acode_ret, acode_skip, seqQ_n, seqQ_e, seqQ_r, blockQ_n, blockQ_e, blockQ_r, TK_at, OK_at, SK_at, aops_nil, aops_cons, asch_done, asch_one, asch_two, asch_top, astep, aop_eq, isLoud, aloud, aloud1, isWrite, qv, evS, strip, gof, eget, hget, putO, eput, herase, oks, opnds, gS, afin, afin0, binD, arith, D.cells, takeD, fillD, keep, trim, envOf, Fin, aresl, aresv, resD, argOk, pickV, isP, deq, deqs, boundD, slD, lenD, isT, isSl, ptrIds, chunks, mn_min, mx_max, D.cells, splice_one, splice_more, Rbr_at, Rfr_at, frR, frV, frC, flatC, brwR, brwV, brwC, omap, leR, leV, leC, leL, leVL, g26, g25, hbw, hep]
    | (refine WCall.pf (hft) ?_ ?_ ?_ ?_; (focus (simp [oks, opnds, gS, gof, eget]; done)); (focus (simp [omap, brwV, brwC, evS, eget, strip, hget, leVL, leV, leC, leL, g26, g25, hbw, hep]; done)); (focus (simp [noV, noC, flatR, flatV, flatC, evS, eget, strip, g26, g25, hbw, hep]; done)))
    | (refine ⟨WCall.pf (hft) ?_ ?_ ?_ ?_, ?_⟩; (focus (simp [oks, opnds, gS, gof, eget]; done)); (focus (simp [omap, brwV, brwC, evS, eget, strip, hget, leVL, leV, leC, leL, g26, g25, hbw, hep]; done)); (focus (simp [noV, noC, flatR, flatV, flatC, evS, eget, strip, g26, g25, hbw, hep]; done)))
    | (refine WCall.pf (hfn) ?_ ?_ ?_ ?_; (focus (simp [oks, opnds, gS, gof, eget]; done)); (focus (simp [omap, brwV, brwC, evS, eget, strip, hget, leVL, leV, leC, leL, g26, g25, hbw, hep]; done)); (focus (simp [noV, noC, flatR, flatV, flatC, evS, eget, strip, g26, g25, hbw, hep]; done)))
    | (refine ⟨WCall.pf (hfn) ?_ ?_ ?_ ?_, ?_⟩; (focus (simp [oks, opnds, gS, gof, eget]; done)); (focus (simp [omap, brwV, brwC, evS, eget, strip, hget, leVL, leV, leC, leL, g26, g25, hbw, hep]; done)); (focus (simp [noV, noC, flatR, flatV, flatC, evS, eget, strip, g26, g25, hbw, hep]; done)))
    | (with_reducible refine And.intro (And.intro ?_ ?_) ?_)
    | fail)
  have hX' : (tmX L').length = 25 := by rw [tmX_len, hL'l]
  refine W.region (K := fun st' => Gh B st' ⟨[(8, .ptr 26 0), (6, .ptr 28 0)], [(28, .cells [I 0, .nil0])] ++ nestC now (tmX L'), 29⟩) ?_ (fun st' hg => ⟨_, hg, ?_⟩)
  · simp [AK_at, acode_seq, acode_region, acode_draw, acode_cond, ↓CB_t, ↓CB_f, CB_u, acode_block, acode_loop, acode_exit, acode_scope, acode_ret, acode_skip, seqQ_n, seqQ_e, seqQ_r, blockQ_n, blockQ_e, blockQ_r, TK_at, OK_at, SK_at, aops_nil, aops_cons, asch_done, asch_one, asch_two, asch_top, astep, aop_eq, isLoud, aloud, aloud1, isWrite, qv, evS, strip, gof, eget, hget, putO, eput, herase, oks, opnds, gS, afin, afin0, binD, arith, D.cells, takeD, fillD, keep, trim, envOf, Fin, aresl, aresv, resD, argOk, pickV, isP, deq, deqs, boundD, slD, lenD, isT, isSl, ptrIds, chunks, mn_min, mx_max, D.cells, splice_one, splice_more, Rbr_at, Rfr_at, frR, frV, frC, flatC, brwR, brwV, brwC, omap, leR, leV, leC, leL, leVL]
    refine WCall.nest hput (by omega) (by simp [oks, opnds, gS, gof, eget]) rfl (by simp) (by simp [evS, eget, strip]) (by simp [argOk]) (by simp [LtV, LtC]) (fun j hj => by simp only [hget]; rw [if_neg (by omega), if_neg (by omega), if_neg (by omega)]) (fun x hx => by simp at hx) ?_
    rintro ⟨e', H', n'⟩ ⟨h1, h2, ⟨ids, hn, hids⟩, h4⟩
    simp at h1 h2 hn hids h4
    subst h1
    have k28 := h4 28 (by omega) (by omega)
    simp only [hget] at k28
    simp [AK_at, acode_seq, acode_region, acode_draw, acode_cond, ↓CB_t, ↓CB_f, CB_u, acode_block, acode_loop, acode_exit, acode_scope, acode_ret, acode_skip, seqQ_n, seqQ_e, seqQ_r, blockQ_n, blockQ_e, blockQ_r, TK_at, OK_at, SK_at, aops_nil, aops_cons, asch_done, asch_one, asch_two, asch_top, astep, aop_eq, isLoud, aloud, aloud1, isWrite, qv, evS, strip, gof, eget, hget, putO, eput, herase, oks, opnds, gS, afin, afin0, binD, arith, D.cells, takeD, fillD, keep, trim, envOf, Fin, aresl, aresv, resD, argOk, pickV, isP, deq, deqs, boundD, slD, lenD, isT, isSl, ptrIds, chunks, mn_min, mx_max, D.cells, splice_one, splice_more, Rbr_at, Rfr_at, frR, frV, frC, flatC, brwR, brwV, brwC, omap, leR, leV, leC, leL, leVL]
    exact Gh.canonK (Hx := [(28, .cells [I 0, .nil0])]) 29 hB0 hn (by omega) (by omega) (by simp [eget, rnR, rnV, rnC, LtR, LtV, LtC, canK]) (by simp [hget, rnO, rnC, LtO, LtC, canK, k28]) (fun i hi => by have := hids i hi; omega) (by simp)
  · have g26' := hget_nest26 now (tmX L')
    have g25' := hget_nest25 now (tmX L')
    rw [hX'] at g25'
    have hbw' : omap (omap (brwC ((28, .cells [I now, .own 25]) :: nestC now (tmX L')) 3)) (ownR 25) = some (lsR L') := brw_ls _ 2 now L' hL'l fun q hq => by simp only [hget]; rw [if_neg (by omega)]
    simp [AK_at, acode_seq, acode_region, acode_draw, acode_cond, ↓CB_t, ↓CB_f, CB_u, acode_block, acode_loop, acode_exit, acode_scope, acode_ret, acode_skip, seqQ_n, seqQ_e, seqQ_r, blockQ_n, blockQ_e, blockQ_r, TK_at, OK_at, SK_at, aops_nil, aops_cons, asch_done, asch_one, asch_two, asch_top, astep, aop_eq, isLoud, aloud, aloud1, isWrite, qv, evS, strip, gof, eget, hget, putO, eput, herase, oks, opnds, gS, afin, afin0, binD, arith, D.cells, takeD, fillD, keep, trim, envOf, Fin, aresl, aresv, resD, argOk, pickV, isP, deq, deqs, boundD, slD, lenD, isT, isSl, ptrIds, chunks, mn_min, mx_max, D.cells, splice_one, splice_more, Rbr_at, Rfr_at, frR, frV, frC, flatC, brwR, brwV, brwC, omap, leR, leV, leC, leL, leVL, g26', g25', hbw']
end Go.Proofs.Ytajimebannjofaa

set_option linter.unusedSimpArgs false
set_option linter.unusedVariables false
set_option maxRecDepth 100000
set_option maxHeartbeats 4000000
namespace Go.Proofs.Ytajimebannjofaa
open Go.RowKit
theorem findZ_some (id : Int) : ∀ (L : List (List (Int × Int))) (m : Nat), (∃ l ∈ L, ∃ t ∈ l, t.2 = id) → ∃ (i k : Nat), findZ id L m = (((m + i : Nat) : Int), (k : Int)) ∧ ∃ (hi : i < L.length) (hk : k < L[i].length), (L[i][k]).2 = id
  | [], _, h => by obtain ⟨l, hl, _⟩ := h; cases hl
  | l :: L, m, h => by
    simp only [findZ]
    by_cases h0 : 0 ≤ idxZ (isI id) l
    · rw [if_pos h0]
      obtain ⟨h2, h3, _⟩ := idxZ_get (isI id) l h0
      refine ⟨0, (idxZ (isI id) l).toNat, by rw [Int.toNat_of_nonneg h0]; rfl, by simp, by simpa using h2, by simpa [isI] using h3⟩
    · rw [if_neg h0]
      obtain ⟨l', hl', t, ht, hti⟩ := h
      rcases List.mem_cons.1 hl' with rfl | hl'
      · exact absurd (idxZ_some (isI id) l' ⟨t, ht, by simp [isI, hti]⟩) h0
      · obtain ⟨i, k, h1, h2, h3, h4⟩ := findZ_some id L (m + 1) ⟨l', hl', t, ht, hti⟩
        refine ⟨i + 1, k, by rw [h1]; congr 2; omega, by simp; omega, by simpa using h3, by simpa using h4⟩
theorem open_pre {now : Int} {L : List (List (Int × Int))} (hL : L.length = 25) (a b : Ob) : NestOk (hputs (rho [] 0 2) (nestC now (tmX L)) [(1, a), (0, b)]) (2 + 26) (2 + 25) ((List.range (tmX L).length).map (2 + ·)) now (tmX L) ∧
    hget (hputs (rho [] 0 2) (nestC now (tmX L)) [(1, a), (0, b)]) 0 = some b ∧ hget (hputs (rho [] 0 2) (nestC now (tmX L)) [(1, a), (0, b)]) 1 = some a := by
  obtain ⟨hno, hnx⟩ := open_nest (now := now) (X := tmX L) 2 [(1, a), (0, b)] (by rw [tmX_len, hL]; exact Nat.le_refl _) (fun j hj => by
    by_cases h1 : j = 1
    · omega
    · by_cases h2 : j = 0
      · omega
      · simp [hget, h1, h2] at hj)
  exact ⟨hno, by rw [hnx 0 (by omega)]; rfl, by rw [hnx 1 (by omega)]; rfl⟩
theorem warmt_code : cfun Try.prog [] 13 = some ⟨(.seq (.region 0 [⟨(some 3), (.box (.t 0)), none⟩, ⟨(some 6), (.alloc [(.int .i64 0), .nil0]), none⟩, ⟨(some 7), (.mov (.k (.int .i64 0))), none⟩]) (.seq (.region 1 [⟨(some 14), (.load true 2 (.t 3)), none⟩, ⟨(some 15), (.call 24 [(.t 14)]), none⟩, ⟨(some 13), (.mov (.t 15)), none⟩, ⟨(some 16), (.ext (.t 13) 0), none⟩, ⟨(some 17), (.ext (.t 13) 1), none⟩, ⟨(some 8), (.mov (.t 16)), none⟩, ⟨(some 9), (.mov (.t 17)), none⟩]) (.seq (.seq (.region 2 [⟨(some 18), (.mov (.t 9)), none⟩, ⟨(some 19), (.bin .neq (.t 18) (.k (.int .i64 0))), none⟩]) (.cond 19 (.seq (.region 3 [⟨(some 20), (.build [(.int .i64 0), .nil0] []), none⟩, ⟨(some 21), (.mov (.t 9)), none⟩, ⟨none, (.store 2 (.t 6) (.t 20)), none⟩, ⟨(some 7), (.mov (.t 21)), none⟩]) .ret) .skip)) (.seq (.region 4 [⟨(some 22), (.mov (.t 2)), none⟩, ⟨(some 23), (.mov (.t 1)), none⟩, ⟨(some 24), (.build [(.int .i64 0), (.int .i64 0)] [(0, (1, (.t 22))), (1, (1, (.t 23)))]), none⟩, ⟨(some 10), (.alloc [(.int .i64 0), (.int .i64 0)]), none⟩, ⟨none, (.store 2 (.t 10) (.t 24)), none⟩]) (.seq (.seq (.region 5 [⟨(some 25), (.load true 2 (.t 10)), none⟩, ⟨(some 26), (.fad 0 (.t 3)), none⟩, ⟨(some 27), (.load false 1 (.t 26)), none⟩, ⟨(some 28), (.call 27 [(.t 25), (.t 27)]), none⟩, ⟨(some 29), (.not (.t 28)), none⟩]) (.cond 29 (.seq (.region 6 [⟨(some 30), (.build [(.int .i64 0), .nil0] []), none⟩, ⟨none, (.store 2 (.t 6) (.t 30)), none⟩, ⟨(some 7), (.mov (.k (.int .i64 2))), none⟩]) .ret) .skip)) (.seq (.seq (.region 7 [⟨(some 32), (.mov (.t 8)), none⟩, ⟨(some 33), (.mov (.t 1)), none⟩, ⟨(some 34), (.call 25 [(.t 32), (.t 33)]), none⟩, ⟨(some 31), (.mov (.t 34)), none⟩, ⟨(some 35), (.ext (.t 31) 0), none⟩, ⟨(some 36), (.ext (.t 31) 1), none⟩, ⟨(some 11), (.mov (.t 35)), none⟩, ⟨(some 12), (.mov (.t 36)), none⟩]) (.seq (.region 8 [⟨(some 37), (.mov (.t 11)), none⟩, ⟨(some 38), (.bin .geq (.t 37) (.k (.int .i64 0))), none⟩]) (.cond 38 (.seq (.region 9 [⟨(some 39), (.build [(.int .i64 0), .nil0] []), none⟩, ⟨none, (.store 2 (.t 6) (.t 39)), none⟩, ⟨(some 7), (.mov (.k (.int .i64 7))), none⟩]) .ret) .skip))) (.seq (.region 10 [⟨(some 40), (.mov (.t 8)), none⟩, ⟨(some 41), (.load true 2 (.t 10)), none⟩, ⟨(some 42), (.call 28 [(.t 40), (.t 41)]), none⟩]) (.seq (.region 11 [⟨(some 43), (.mov (.t 8)), none⟩, ⟨(some 44), (.nchk (.t 43)), none⟩, ⟨(some 45), (.fad 0 (.t 44)), none⟩, ⟨(some 46), (.load true 2 (.t 45)), none⟩, ⟨none, (.store 2 (.t 6) (.t 46)), none⟩, ⟨(some 7), (.mov (.k (.int .i64 0))), none⟩]) .ret)))))))), [(.c 6 true 2), (.t 7)], 47⟩ := by kernel_rfl
theorem warm1_pf (now at_ id : Int) (L : List (List (Int × Int))) (h : LsOk now L) (hf : fitsB at_ id now = true) (hid : ∃ l ∈ L, ∃ t ∈ l, t.2 = id) :
    PF Try.prog 13 [whLD now L, I id, I at_] (.tup [.agg [I 0, .rows 1 []], I 7]) := by
  have hop := wopen_hf now L h
  have hL := h.len
  have hft := wfits_pf at_ id now h.n0 h.n1
  rw [hf] at hft
  have hfn := wfind_pf now id L (by omega) (fun l hl => by have := h.small l hl; omega)
  obtain ⟨i, k, hfz, _⟩ := findZ_some id L 0 hid
  rw [hfz] at hfn
  have hX : (tmX L).length = 25 := by rw [tmX_len, hL]
  unfold whLD at hop ⊢
  refine PF.of follows_ok warmt_code (by simp) (by simp [argOk]) (by simp [noV, noC]) fun B hBN hB0 => acode_sound [0, 1, 2, 3, 6, 7, 8, 9, 10, 11, 19, 29, 38] [2] _ _ _ ?_
  simp [AK_at, acode_seq, acode_region, acode_draw, acode_cond, ↓CB_t, ↓CB_f, CB_u, acode_block, acode_loop, acode_exit, acode_scope, acode_ret, acode_skip, seqQ_n, seqQ_e, seqQ_r, blockQ_n, blockQ_e, blockQ_r, TK_at, OK_at, SK_at, aops_nil, aops_cons, asch_done, asch_one, asch_two, asch_top, astep, aop_eq, isLoud, aloud, aloud1, isWrite, qv, evS, strip, gof, eget, hget, putO, eput, herase, oks, opnds, gS, afin, afin0, binD, arith, D.cells, takeD, fillD, keep, trim, envOf, Fin, aresl, aresv, resD, argOk, pickV, isP, deq, deqs, boundD, slD, lenD, isT, isSl, ptrIds, chunks, mn_min, mx_max, D.cells, splice_one, splice_more, Rbr_at, Rfr_at, frR, frV, frC, flatC, brwR, brwV, brwC, omap, leR, leV, leC, leL, leVL]
  refine WCall.hf0 hop (by simp [oks, opnds, gS, gof, eget]) (by simp [evS, eget, strip]) (by simp [argOk]) (by simp [noV, noC]) ?_
  rintro d H' nx' ⟨rfl, rfl, rfl⟩
  obtain ⟨hno, k0, k1⟩ := open_pre (now := now) hL (.cells [I 0, .nil0]) (.cells [I now, .rows 1 (lsR L)])
  obtain ⟨Hn, hHn⟩ : ∃ Hn, Hn = hputs (rho [] 0 2) (nestC now (tmX L)) [(1, .cells [I 0, .nil0]), (0, .cells [I now, .rows 1 (lsR L)])] := ⟨_, rfl⟩
  rw [← hHn] at hno k0 k1
  simp only [← hHn]
  simp [AK_at, acode_seq, acode_region, acode_draw, acode_cond, ↓CB_t, ↓CB_f, CB_u, acode_block, acode_loop, acode_exit, acode_scope, acode_ret, acode_skip, seqQ_n, seqQ_e, seqQ_r, blockQ_n, blockQ_e, blockQ_r, TK_at, OK_at, SK_at, aops_nil, aops_cons, asch_done, asch_one, asch_two, asch_top, astep, aop_eq, isLoud, aloud, aloud1, isWrite, qv, evS, strip, gof, eget, hget, putO, eput, herase, oks, opnds, gS, afin, afin0, binD, arith, D.cells, takeD, fillD, keep, trim, envOf, Fin, aresl, aresv, resD, argOk, pickV, isP, deq, deqs, boundD, slD, lenD, isT, isSl, ptrIds, chunks, mn_min, mx_max, D.cells, splice_one, splice_more, Rbr_at, Rfr_at, frR, frV, frC, flatC, brwR, brwV, brwC, omap, leR, leV, leC, leL, leVL, rnR, rnV, rnC, rnO, rho_0, hputs, herases]
  refine W.gh (st1 := ⟨[(9, I 0), (8, .ptr 26 0), (6, .ptr 28 0), (3, .ptr 27 0), (2, I at_), (1, I id)], [(28, .cells [I 0, .nil0]), (27, .cells [I now, .rows 1 (lsR L)])] ++ nestC now (tmX L), 29⟩) (Gh.canon (es := [0, 1]) 29 hB0 hno (by omega) (by omega) (by simp [eget, rnR, rnV, rnC, LtR, LtV, LtC, canL]) (by simp [hget, rnO, rnC, LtO, LtC, canL, k0, k1]) (by simp [canL]; intros; omega) (by simp [canL])) ?_
  have hbw : omap (omap (brwC ((29, .cells [I at_, I id]) :: (28, .cells [I 0, .nil0]) :: (27, .cells [I now, .rows 1 (lsR L)]) :: nestC now (tmX L)) 2)) (ownR 25) = some (lsR L) := brw_ls _ 1 now L hL fun q hq => up3 (by omega) (by omega) (by omega) q hq
  have g26 := hget_nest26 now (tmX L)
  have g25 := hget_nest25 now (tmX L)
  rw [hX] at g25
  have hep := eput_nest now (tmX L)
  refine acode_sound [0, 1, 2, 3, 6, 7, 8, 9, 10, 11, 19, 29, 38] [] _ _ _ ?_
  repeat' (first
    | simp [AK_at, acode_seq, acode_region, acode_draw, acode_cond, ↓CB_t, ↓CB_f, CB_u, acode_block, acode_loop, acode_exit, acode_scope, acode_ret, acode_skip, seqQ_n, seqQ_e, seqQ_r, blockQ_n, blockQ_e, blockQ_r, TK_at, OK_at, SK_at, aops_nil, aops_cons, asch_done, asch_one, asch_two, asch_top, astep, aop_eq, isLoud, aloud, aloud1, isWrite, qv, evS, strip, gof, eget, hget, putO, eput, herase, oks, opnds, gS, afin, afin0, binD, arith, D.cells, takeD, fillD, keep, trim, envOf, Fin, aresl, aresv, resD, argOk, pickV, isP, deq, deqs, boundD, slD, lenD, isT, isSl, ptrIds, chunks, mn_min, mx_max, D.cells, splice_one, splice_more, Rbr_at, Rfr_at, frR, frV, frC, flatC, brwR, brwV, brwC, omap, leR, leV, leC, leL, leVL, g26, g25, hbw, hep]
    | (refine WCall.pf (hft) ?_ ?_ ?_ ?_; (focus (simp [oks, opnds, gS, gof, eget]; done)); (focus (simp [omap, brwV, brwC, evS, eget, strip, hget, leVL, leV, leC, leL, g26, g25, hbw, hep]; done)); (focus (simp [noV, noC, flatR, flatV, flatC, evS, eget, strip, g26, g25, hbw, hep]; done)))
    | (refine ⟨WCall.pf (hft) ?_ ?_ ?_ ?_, ?_⟩; (focus (simp [oks, opnds, gS, gof, eget]; done)); (focus (simp [omap, brwV, brwC, evS, eget, strip, hget, leVL, leV, leC, leL, g26, g25, hbw, hep]; done)); (focus (simp [noV, noC, flatR, flatV, flatC, evS, eget, strip, g26, g25, hbw, hep]; done)))
    | (refine WCall.pf (hfn) ?_ ?_ ?_ ?_; (focus (simp [oks, opnds, gS, gof, eget]; done)); (focus (simp [omap, brwV, brwC, evS, eget, strip, hget, leVL, leV, leC, leL, g26, g25, hbw, hep]; done)); (focus (simp [noV, noC, flatR, flatV, flatC, evS, eget, strip, g26, g25, hbw, hep]; done)))
    | (refine ⟨WCall.pf (hfn) ?_ ?_ ?_ ?_, ?_⟩; (focus (simp [oks, opnds, gS, gof, eget]; done)); (focus (simp [omap, brwV, brwC, evS, eget, strip, hget, leVL, leV, leC, leL, g26, g25, hbw, hep]; done)); (focus (simp [noV, noC, flatR, flatV, flatC, evS, eget, strip, g26, g25, hbw, hep]; done)))
    | (with_reducible refine And.intro (And.intro ?_ ?_) ?_)
    | fail)
theorem wcan_code : cfun Try.prog [26] 12 = some ⟨(.seq (.region 0 [⟨(some 2), (.box (.t 0)), none⟩, ⟨(some 4), (.alloc [(.int .i64 0), .nil0]), none⟩, ⟨(some 5), (.mov (.k (.int .i64 0))), none⟩]) (.seq (.region 1 [⟨(some 11), (.load true 2 (.t 2)), none⟩, ⟨(some 12), (.call 24 [(.t 11)]), none⟩, ⟨(some 10), (.mov (.t 12)), none⟩, ⟨(some 13), (.ext (.t 10) 0), none⟩, ⟨(some 14), (.ext (.t 10) 1), none⟩, ⟨(some 6), (.mov (.t 13)), none⟩, ⟨(some 7), (.mov (.t 14)), none⟩]) (.seq (.seq (.region 2 [⟨(some 15), (.mov (.t 7)), none⟩, ⟨(some 16), (.bin .neq (.t 15) (.k (.int .i64 0))), none⟩]) (.cond 16 (.seq (.region 3 [⟨(some 17), (.build [(.int .i64 0), .nil0] []), none⟩, ⟨(some 18), (.mov (.t 7)), none⟩, ⟨none, (.store 2 (.t 4) (.t 17)), none⟩, ⟨(some 5), (.mov (.t 18)), none⟩]) .ret) .skip)) (.seq (.region 4 [⟨(some 20), (.mov (.t 6)), none⟩, ⟨(some 21), (.mov (.t 1)), none⟩, ⟨(some 22), (.call 25 [(.t 20), (.t 21)]), none⟩, ⟨(some 19), (.mov (.t 22)), none⟩, ⟨(some 23), (.ext (.t 19) 0), none⟩, ⟨(some 24), (.ext (.t 19) 1), none⟩, ⟨(some 8), (.mov (.t 23)), none⟩, ⟨(some 9), (.mov (.t 24)), none⟩]) (.seq (.seq (.region 5 [⟨(some 25), (.mov (.t 8)), none⟩, ⟨(some 26), (.bin .lss (.t 25) (.k (.int .i64 0))), none⟩]) (.cond 26 (.seq (.region 6 [⟨(some 27), (.build [(.int .i64 0), .nil0] []), none⟩, ⟨none, (.store 2 (.t 4) (.t 27)), none⟩, ⟨(some 5), (.mov (.k (.int .i64 8))), none⟩]) .ret) .skip)) (.seq (.draw 7 (.one true ⟨(some 28), (.mov (.t 6)), none⟩ (.one true ⟨(some 29), (.nchk (.t 28)), none⟩ (.one true ⟨(some 30), (.fad 0 (.t 29)), none⟩ (.one true ⟨(some 31), (.fad 1 (.t 30)), none⟩ (.one true ⟨(some 33), (.mov (.t 8)), none⟩ (.one true ⟨(some 34), (.mov (.t 6)), none⟩ (.one true ⟨(some 35), (.nchk (.t 34)), none⟩ (.one true ⟨(some 36), (.fad 0 (.t 35)), none⟩ (.one true ⟨(some 37), (.fad 1 (.t 36)), none⟩ (.one true ⟨(some 38), (.load false 1 (.t 37)), none⟩ (.one true ⟨(some 39), (.mov (.t 8)), none⟩ (.one true ⟨(some 40), (.iads 1 (.t 38) (.t 39)), none⟩ (.one true ⟨(some 41), (.load false 1 (.t 40)), none⟩ (.one true ⟨(some 42), (.mov (.t 9)), none⟩ (.one true ⟨(some 43), (.mov (.t 9)), none⟩ (.one true ⟨(some 44), (.bin .add (.t 43) (.k (.int .i64 1))), none⟩ (.two (.one true ⟨(some 32), (.load false 1 (.t 31)), none⟩ (.one false ⟨(some 45), (.call 26 [(.t 41), (.t 42), (.t 44)]), none⟩ (.one true ⟨(some 46), (.iads 1 (.t 32) (.t 33)), none⟩ (.one false ⟨none, (.store 1 (.t 46) (.t 45)), none⟩ .done)))) (.two (.one false ⟨(some 45), (.call 26 [(.t 41), (.t 42), (.t 44)]), none⟩ (.one true ⟨(some 32), (.load false 1 (.t 31)), none⟩ (.one true ⟨(some 46), (.iads 1 (.t 32) (.t 33)), none⟩ (.one false ⟨none, (.store 1 (.t 46) (.t 45)), none⟩ .done)))) .top))))))))))))))))))) (.seq (.region 8 [⟨(some 47), (.mov (.t 6)), none⟩, ⟨(some 48), (.nchk (.t 47)), none⟩, ⟨(some 49), (.fad 0 (.t 48)), none⟩, ⟨(some 50), (.load true 2 (.t 49)), none⟩, ⟨none, (.store 2 (.t 4) (.t 50)), none⟩, ⟨(some 5), (.mov (.k (.int .i64 0))), none⟩]) .ret))))))), [(.c 4 true 2), (.t 5)], 51⟩ := by kernel_rfl
theorem wcan0_pf (now id : Int) (L : List (List (Int × Int))) (h : LsOk now L) (hid : ∀ l ∈ L, ∀ t ∈ l, t.2 ≠ id) :
    PF Try.prog 12 [whLD now L, I id] (.tup [.agg [I 0, .rows 1 []], I 8]) := by
  have hop := wopen_hf now L h
  have hL := h.len
  have hfn := wfind_pf now id L (by omega) (fun l hl => by have := h.small l hl; omega)
  rw [findZ_none id L 0 hid] at hfn
  have hX : (tmX L).length = 25 := by rw [tmX_len, hL]
  unfold whLD at hop ⊢
  refine PF.of follows_ok wcan_code (by simp) (by simp [argOk]) (by simp [noV, noC]) fun B hBN hB0 => acode_sound [0, 1, 2, 4, 5, 6, 7, 8, 9, 16, 26] [2] _ _ _ ?_
  simp [AK_at, acode_seq, acode_region, acode_draw, acode_cond, ↓CB_t, ↓CB_f, CB_u, acode_block, acode_loop, acode_exit, acode_scope, acode_ret, acode_skip, seqQ_n, seqQ_e, seqQ_r, blockQ_n, blockQ_e, blockQ_r, TK_at, OK_at, SK_at, aops_nil, aops_cons, asch_done, asch_one, asch_two, asch_top, astep, aop_eq, isLoud, aloud, aloud1, isWrite, qv, evS, strip, gof, eget, hget, putO, eput, herase, oks, opnds, gS, afin, afin0, binD, arith, D.cells, takeD, fillD, keep, trim, envOf, Fin, aresl, aresv, resD, argOk, pickV, isP, deq, deqs, boundD, slD, lenD, isT, isSl, ptrIds, chunks, mn_min, mx_max, D.cells, splice_one, splice_more, Rbr_at, Rfr_at, frR, frV, frC, flatC, brwR, brwV, brwC, omap, leR, leV, leC, leL, leVL]
  refine WCall.hf0 hop (by simp [oks, opnds, gS, gof, eget]) (by simp [evS, eget, strip]) (by simp [argOk]) (by simp [noV, noC]) ?_
  rintro d H' nx' ⟨rfl, rfl, rfl⟩
  obtain ⟨hno, k0, k1⟩ := open_pre (now := now) hL (.cells [I 0, .nil0]) (.cells [I now, .rows 1 (lsR L)])
  obtain ⟨Hn, hHn⟩ : ∃ Hn, Hn = hputs (rho [] 0 2) (nestC now (tmX L)) [(1, .cells [I 0, .nil0]), (0, .cells [I now, .rows 1 (lsR L)])] := ⟨_, rfl⟩
  rw [← hHn] at hno k0 k1
  simp only [← hHn]
  simp [AK_at, acode_seq, acode_region, acode_draw, acode_cond, ↓CB_t, ↓CB_f, CB_u, acode_block, acode_loop, acode_exit, acode_scope, acode_ret, acode_skip, seqQ_n, seqQ_e, seqQ_r, blockQ_n, blockQ_e, blockQ_r, TK_at, OK_at, SK_at, aops_nil, aops_cons, asch_done, asch_one, asch_two, asch_top, astep, aop_eq, isLoud, aloud, aloud1, isWrite, qv, evS, strip, gof, eget, hget, putO, eput, herase, oks, opnds, gS, afin, afin0, binD, arith, D.cells, takeD, fillD, keep, trim, envOf, Fin, aresl, aresv, resD, argOk, pickV, isP, deq, deqs, boundD, slD, lenD, isT, isSl, ptrIds, chunks, mn_min, mx_max, D.cells, splice_one, splice_more, Rbr_at, Rfr_at, frR, frV, frC, flatC, brwR, brwV, brwC, omap, leR, leV, leC, leL, leVL, rnR, rnV, rnC, rnO, rho_0, hputs, herases]
  refine W.gh (st1 := ⟨[(7, I 0), (6, .ptr 26 0), (4, .ptr 28 0), (2, .ptr 27 0), (1, I id)], [(28, .cells [I 0, .nil0]), (27, .cells [I now, .rows 1 (lsR L)])] ++ nestC now (tmX L), 29⟩) (Gh.canon (es := [0, 1]) 29 hB0 hno (by omega) (by omega) (by simp [eget, rnR, rnV, rnC, LtR, LtV, LtC, canL]) (by simp [hget, rnO, rnC, LtO, LtC, canL, k0, k1]) (by simp [canL]; intros; omega) (by simp [canL])) ?_
  have hbw : omap (omap (brwC ((28, .cells [I 0, .nil0]) :: (27, .cells [I now, .rows 1 (lsR L)]) :: nestC now (tmX L)) 2)) (ownR 25) = some (lsR L) := brw_ls _ 1 now L hL fun q hq => up2 (by omega) (by omega) q hq
  have g26 := hget_nest26 now (tmX L)
  have g25 := hget_nest25 now (tmX L)
  rw [hX] at g25
  refine acode_sound [0, 1, 2, 4, 5, 6, 7, 8, 9, 16, 26] [] _ _ _ ?_
  repeat' (first
    | simp [AK_at, acode_seq, acode_region, acode_draw, acode_cond, ↓CB_t, ↓CB_f, CB_u, acode_block, acode_loop, acode_exit, acode_scope, acode_ret, acode_skip, seqQ_n, seqQ_e, seqQ_r, blockQ_n, blockQ_e, blockQ_r, TK_at, OK_at, SK_at, aops_nil, aops_cons, asch_done, asch_one, asch_two, asch_top, astep, aop_eq, isLoud, aloud, aloud1, isWrite, qv, evS, strip, gof, eget, hget, putO, eput, herase, oks, opnds, gS, afin, afin0, binD, arith, D.cells, takeD, fillD, keep, trim, envOf, Fin, aresl, aresv, resD, argOk, pickV, isP, deq, deqs, boundD, slD, lenD, isT, isSl, ptrIds, chunks, mn_min, mx_max, D.cells, splice_one, splice_more, Rbr_at, Rfr_at, frR, frV, frC, flatC, brwR, brwV, brwC, omap, leR, leV, leC, leL, leVL, g26, g25, hbw]
    | (refine WCall.pf (hfn) ?_ ?_ ?_ ?_; (focus (simp [oks, opnds, gS, gof, eget]; done)); (focus (simp [omap, brwV, brwC, evS, eget, strip, hget, leVL, leV, leC, leL, g26, g25, hbw]; done)); (focus (simp [noV, noC, flatR, flatV, flatC, evS, eget, strip, g26, g25, hbw]; done)))
    | (refine ⟨WCall.pf (hfn) ?_ ?_ ?_ ?_, ?_⟩; (focus (simp [oks, opnds, gS, gof, eget]; done)); (focus (simp [omap, brwV, brwC, evS, eget, strip, hget, leVL, leV, leC, leL, g26, g25, hbw]; done)); (focus (simp [noV, noC, flatR, flatV, flatC, evS, eget, strip, g26, g25, hbw]; done)))
    | (with_reducible refine And.intro (And.intro ?_ ?_) ?_)
    | fail)
theorem wcan_pf (now id : Int) (L : List (List (Int × Int))) (h : LsOk now L) (hid : ∃ l ∈ L, ∃ t ∈ l, t.2 = id) :
    ∃ (i k : Nat) (hi : i < L.length) (hk : k < L[i].length), (L[i][k]).2 = id ∧ PF Try.prog 12 [whLD now L, I id] (.tup [whLD now (L.set i (L[i].take k ++ L[i].drop (k + 1))), I 0]) := by
  have hop := wopen_hf now L h
  have hL := h.len
  have hfn := wfind_pf now id L (by omega) (fun l hl => by have := h.small l hl; omega)
  obtain ⟨p, k, hfz, hp, hk, hki⟩ := findZ_some id L 0 hid
  refine ⟨p, k, hp, hk, hki, ?_⟩
  rw [Nat.zero_add] at hfz
  rw [hfz] at hfn
  have hX : (tmX L).length = 25 := by rw [tmX_len, hL]
  have hp25 : p < 25 := by omega
  obtain ⟨l, hl⟩ : ∃ l, l = L[p] := ⟨_, rfl⟩
  have hll := h.small l (hl ▸ List.getElem_mem _)
  rw [← hl] at hk ⊢
  have hdel := tdel_hf (l.map tmE) k (by simpa using hk) (by simp; omega) (els_tm l).rows (els_tm l).isT
  have hL'l : (L.set p (l.take k ++ l.drop (k + 1))).length = 25 := by simp [hL]
  have hXs : tmX (L.set p (l.take k ++ l.drop (k + 1))) = (tmX L).set p ((l.map tmE).take k ++ (l.map tmE).drop (k + 1)) := by rw [tmX_set]; simp
  generalize L.set p (l.take k ++ l.drop (k + 1)) = L' at hL'l hXs ⊢
  unfold whLD at hop ⊢
  refine PF.of follows_ok wcan_code (by simp) (by simp [argOk]) (by simp [noV, noC]) fun B hBN hB0 => acode_sound [0, 1, 2, 4, 5, 6, 7, 8, 9, 16, 26] [2, 7] _ _ _ ?_
  simp [AK_at, acode_seq, acode_region, acode_draw, acode_cond, ↓CB_t, ↓CB_f, CB_u, acode_block, acode_loop, acode_exit, acode_scope, acode_ret, acode_skip, seqQ_n, seqQ_e, seqQ_r, blockQ_n, blockQ_e, blockQ_r, TK_at, OK_at, SK_at, aops_nil, aops_cons, asch_done, asch_one, asch_two, asch_top, astep, aop_eq, isLoud, aloud, aloud1, isWrite, qv, evS, strip, gof, eget, hget, putO, eput, herase, oks, opnds, gS, afin, afin0, binD, arith, D.cells, takeD, fillD, keep, trim, envOf, Fin, aresl, aresv, resD, argOk, pickV, isP, deq, deqs, boundD, slD, lenD, isT, isSl, ptrIds, chunks, mn_min, mx_max, D.cells, splice_one, splice_more, Rbr_at, Rfr_at, frR, frV, frC, flatC, brwR, brwV, brwC, omap, leR, leV, leC, leL, leVL]
  refine WCall.hf0 hop (by simp [oks, opnds, gS, gof, eget]) (by simp [evS, eget, strip]) (by simp [argOk]) (by simp [noV, noC]) ?_
  rintro d H' nx' ⟨rfl, rfl, rfl⟩
  obtain ⟨hno, k0, k1⟩ := open_pre (now := now) hL (.cells [I 0, .nil0]) (.cells [I now, .rows 1 (lsR L)])
  obtain ⟨Hn, hHn⟩ : ∃ Hn, Hn = hputs (rho [] 0 2) (nestC now (tmX L)) [(1, .cells [I 0, .nil0]), (0, .cells [I now, .rows 1 (lsR L)])] := ⟨_, rfl⟩
  rw [← hHn] at hno k0 k1
  simp only [← hHn]
  simp [AK_at, acode_seq, acode_region, acode_draw, acode_cond, ↓CB_t, ↓CB_f, CB_u, acode_block, acode_loop, acode_exit, acode_scope, acode_ret, acode_skip, seqQ_n, seqQ_e, seqQ_r, blockQ_n, blockQ_e, blockQ_r, TK_at, OK_at, SK_at, aops_nil, aops_cons, asch_done, asch_one, asch_two, asch_top, astep, aop_eq, isLoud, aloud, aloud1, isWrite, qv, evS, strip, gof, eget, hget, putO, eput, herase, oks, opnds, gS, afin, afin0, binD, arith, D.cells, takeD, fillD, keep, trim, envOf, Fin, aresl, aresv, resD, argOk, pickV, isP, deq, deqs, boundD, slD, lenD, isT, isSl, ptrIds, chunks, mn_min, mx_max, D.cells, splice_one, splice_more, Rbr_at, Rfr_at, frR, frV, frC, flatC, brwR, brwV, brwC, omap, leR, leV, leC, leL, leVL, rnR, rnV, rnC, rnO, rho_0, hputs, herases]
  refine W.gh (st1 := ⟨[(7, I 0), (6, .ptr 26 0), (4, .ptr 28 0), (2, .ptr 27 0), (1, I id)], [(28, .cells [I 0, .nil0]), (27, .cells [I now, .rows 1 (lsR L)])] ++ nestC now (tmX L), 29⟩) (Gh.canon (es := [0, 1]) 29 hB0 hno (by omega) (by omega) (by simp [eget, rnR, rnV, rnC, LtR, LtV, LtC, canL]) (by simp [hget, rnO, rnC, LtO, LtC, canL, k0, k1]) (by simp [canL]; intros; omega) (by simp [canL])) ?_
  have hbw : omap (omap (brwC ((28, .cells [I 0, .nil0]) :: (27, .cells [I now, .rows 1 (lsR L)]) :: nestC now (tmX L)) 2)) (ownR 25) = some (lsR L) := brw_ls _ 1 now L hL fun q hq => up2 (by omega) (by omega) q hq
  have g26 := hget_nest26 now (tmX L)
  have g25 := hget_nest25 now (tmX L)
  rw [hX] at g25
  refine acode_sound [0, 1, 2, 4, 5, 6, 7, 8, 9, 16, 26] [7] _ _ _ ?_
  repeat' (first
    | simp [AK_at, acode_seq, acode_region, acode_draw, acode_cond, ↓CB_t, ↓CB_f, CB_u, acode_block, acode_loop, acode_exit, acode_scope, acode_ret, acode_skip, seqQ_n, seqQ_e, seqQ_r, blockQ_n, blockQ_e, blockQ_r, TK_at, OK_at, SK_at, aops_nil, aops_cons, asch_done, asch_one, asch_two, asch_top, astep, aop_eq, isLoud, aloud, aloud1, isWrite, qv, evS, strip, gof, eget, hget, putO, eput, herase, oks, opnds, gS, afin, afin0, binD, arith, D.cells, takeD, fillD, keep, trim, envOf, Fin, aresl, aresv, resD, argOk, pickV, isP, deq, deqs, boundD, slD, lenD, isT, isSl, ptrIds, chunks, mn_min, mx_max, D.cells, splice_one, splice_more, Rbr_at, Rfr_at, frR, frV, frC, flatC, brwR, brwV, brwC, omap, leR, leV, leC, leL, leVL, g26, g25, hbw]
    | (refine WCall.pf (hfn) ?_ ?_ ?_ ?_; (focus (simp [oks, opnds, gS, gof, eget]; done)); (focus (simp [omap, brwV, brwC, evS, eget, strip, hget, leVL, leV, leC, leL, g26, g25, hbw]; done)); (focus (simp [noV, noC, flatR, flatV, flatC, evS, eget, strip, g26, g25, hbw]; done)))
    | (refine ⟨WCall.pf (hfn) ?_ ?_ ?_ ?_, ?_⟩; (focus (simp [oks, opnds, gS, gof, eget]; done)); (focus (simp [omap, brwV, brwC, evS, eget, strip, hget, leVL, leV, leC, leL, g26, g25, hbw]; done)); (focus (simp [noV, noC, flatR, flatV, flatC, evS, eget, strip, g26, g25, hbw]; done)))
    | (with_reducible refine And.intro (And.intro ?_ ?_) ?_)
    | fail)
  have hX' : (tmX L').length = 25 := by rw [tmX_len, hL'l]
  have gp : hget (nestC now (tmX L)) p = some (.row 2 (l.map tmE)) := by
    rw [hget_nestp now (tmX L) p (by omega) (by omega)]
    congr 2
    simp [tmX, List.getD_eq_getElem?_getD, hp, ← hl]
  have hpn : ∀ n, 25 ≤ n → ¬ p = n := fun n h e => by omega
  have hpn2 : ∀ n, 25 ≤ n → ¬ n = p := fun n h e => by omega
  have hpz : (p : Int) < 25 := by omega
  have hrl : (ownR 25).length = 25 := ownR_len 25
  have hrp := ownR_get 25 p (by omega)
  have ik : InR ((k : Int) + 1) := inW (by omega) (by omega)
  have gh25 : hget (herase (nestC now (tmX L)) p) 25 = some (.rowd 1 (ownR 25)) := by
    rw [hget_herase, if_neg (by omega)]; exact g25
  refine W.draw (K := fun st' => Gh B st' ⟨[(6, .ptr 26 0), (4, .ptr 28 0)], [(28, .cells [I 0, .nil0])] ++ nestC now (tmX L'), 29⟩) ?_ (fun st' hg => ⟨_, hg, ?_⟩)
  · skip
    repeat' (first
      | simp [AK_at, acode_seq, acode_region, acode_draw, acode_cond, ↓CB_t, ↓CB_f, CB_u, acode_block, acode_loop, acode_exit, acode_scope, acode_ret, acode_skip, seqQ_n, seqQ_e, seqQ_r, blockQ_n, blockQ_e, blockQ_r, TK_at, OK_at, SK_at, aops_nil, aops_cons, asch_done, asch_one, asch_two, asch_top, astep, aop_eq, isLoud, aloud, aloud1, isWrite, qv, evS, strip, gof, eget, hget, putO, eput, herase, oks, opnds, gS, afin, afin0, binD, arith, D.cells, takeD, fillD, keep, trim, envOf, Fin, aresl, aresv, resD, argOk, pickV, isP, deq, deqs, boundD, slD, lenD, isT, isSl, ptrIds, chunks, mn_min, mx_max, D.cells, splice_one, splice_more, Rbr_at, Rfr_at, frR, frV, frC, flatC, brwR, brwV, brwC, omap, leR, leV, leC, leL, leVL, g26, g25, gp, hpn, hpn2, hpz, hrl, hrp, hp25, ik]
      | (refine WCall.pf (hfn) ?_ ?_ ?_ ?_; (focus (simp [oks, opnds, gS, gof, eget]; done)); (focus (simp [omap, brwV, brwC, evS, eget, strip, hget, leVL, leV, leC, leL, g26, g25, gp, hpn, hpn2, hpz, hrl, hrp, hp25, ik]; done)); (focus (simp [noV, noC, flatR, flatV, flatC, evS, eget, strip, g26, g25, gp, hpn, hpn2, hpz, hrl, hrp, hp25, ik]; done)))
      | (refine ⟨WCall.pf (hfn) ?_ ?_ ?_ ?_, ?_⟩; (focus (simp [oks, opnds, gS, gof, eget]; done)); (focus (simp [omap, brwV, brwC, evS, eget, strip, hget, leVL, leV, leC, leL, g26, g25, gp, hpn, hpn2, hpz, hrl, hrp, hp25, ik]; done)); (focus (simp [noV, noC, flatR, flatV, flatC, evS, eget, strip, g26, g25, gp, hpn, hpn2, hpz, hrl, hrp, hp25, ik]; done)))
      | (with_reducible refine And.intro (And.intro ?_ ?_) ?_)
      | fail)
    have gh26 : hget (herase (nestC now (tmX L)) p) 26 = some (.cells [I now, .own 25]) := by
      rw [hget_herase, if_neg (by omega)]; exact g26
    have fin : ∀ env : List (Nat × D), eget env 6 = .ptr 26 0 → eget env 4 = .ptr 28 0 → Gh B ⟨env, (29, .row 2 ((l.map tmE).take k ++ (l.map tmE).drop (k + 1))) :: (28, .cells [I 0, .nil0]) :: (27, .cells [I now, .rows 1 (lsR L)]) :: eput (herase (nestC now (tmX L)) p) 25 (.rowd 1 ((ownR 25).set p [.own 29])), 30⟩
        ⟨[(6, .ptr 26 0), (4, .ptr 28 0)], [(28, .cells [I 0, .nil0])] ++ nestC now (tmX L'), 29⟩ := fun env e6 e4 => by
      rw [hXs]
      refine Gh.canonK (ids := (List.range 25).set p 29) (Hx := [(28, .cells [I 0, .nil0])]) 29 hB0 (nestOk_set (now := now) hX hp25 (by omega) ?_ ?_ ?_ (fun j hj hjp => ?_)) (by simp [hX]) (by omega) (by simp [e6, e4, rnR, rnV, rnC, LtR, LtV, LtC, canK]) (by simp [hget, rnO, rnC, LtO, LtC, canK]) (fun i hi => ?_) (by simp)
      · simp only [hget]
        rw [if_neg (by omega), if_neg (by omega), if_neg (by omega), hget_eput, if_neg (by omega)]; exact gh26
      · simp only [hget]
        rw [if_neg (by omega), if_neg (by omega), if_neg (by omega), hget_eput, if_pos rfl]
      · simp only [hget]
        rw [if_pos trivial]
      · simp only [hget]
        rw [if_neg (by omega), if_neg (by omega), if_neg (by omega), hget_eput, if_neg (by omega), hget_herase, if_neg hjp]
      · rcases List.mem_or_eq_of_mem_set hi with h | rfl
        · exact .inl (List.mem_range.1 h)
        · exact .inr (Nat.le_refl _)
    refine ⟨?_, ?_⟩
    all_goals
      refine WCall.hf [p] hdel (by simp [oks, opnds, gS, gof, eget]) rfl rfl (by simp) (by simp; omega) (by simp [evS, eget, strip, rnV, rnC, rho]) (by simp [argOk]) (by simp [LtV, LtC]) (by simp [rho, rnO, rnC, hget, LtO, LtC, gp, hpn]) ?_
      rintro d H' nx' ⟨rfl, rfl, rfl⟩
      simp [AK_at, acode_seq, acode_region, acode_draw, acode_cond, ↓CB_t, ↓CB_f, CB_u, acode_block, acode_loop, acode_exit, acode_scope, acode_ret, acode_skip, seqQ_n, seqQ_e, seqQ_r, blockQ_n, blockQ_e, blockQ_r, TK_at, OK_at, SK_at, aops_nil, aops_cons, asch_done, asch_one, asch_two, asch_top, astep, aop_eq, isLoud, aloud, aloud1, isWrite, qv, evS, strip, gof, eget, hget, putO, eput, herase, oks, opnds, gS, afin, afin0, binD, arith, D.cells, takeD, fillD, keep, trim, envOf, Fin, aresl, aresv, resD, argOk, pickV, isP, deq, deqs, boundD, slD, lenD, isT, isSl, ptrIds, chunks, mn_min, mx_max, D.cells, splice_one, splice_more, Rbr_at, Rfr_at, frR, frV, frC, flatC, brwR, brwV, brwC, omap, leR, leV, leC, leL, leVL, rnR, rnV, rnC, rnO, rho_0, hputs, herases, rho, hpn, hpn2, g26, g25, hrl, hrp, hp25, hpz, gh25, gh26]
      exact fin _ (by simp [eget]) (by simp [eget])
  · have g26' := hget_nest26 now (tmX L')
    have g25' := hget_nest25 now (tmX L')
    rw [hX'] at g25'
    have hbw' : omap (omap (brwC ((28, .cells [I now, .own 25]) :: nestC now (tmX L')) 3)) (ownR 25) = some (lsR L') := brw_ls _ 2 now L' hL'l fun q hq => by simp only [hget]; rw [if_neg (by omega)]
    simp [AK_at, acode_seq, acode_region, acode_draw, acode_cond, ↓CB_t, ↓CB_f, CB_u, acode_block, acode_loop, acode_exit, acode_scope, acode_ret, acode_skip, seqQ_n, seqQ_e, seqQ_r, blockQ_n, blockQ_e, blockQ_r, TK_at, OK_at, SK_at, aops_nil, aops_cons, asch_done, asch_one, asch_two, asch_top, astep, aop_eq, isLoud, aloud, aloud1, isWrite, qv, evS, strip, gof, eget, hget, putO, eput, herase, oks, opnds, gS, afin, afin0, binD, arith, D.cells, takeD, fillD, keep, trim, envOf, Fin, aresl, aresv, resD, argOk, pickV, isP, deq, deqs, boundD, slD, lenD, isT, isSl, ptrIds, chunks, mn_min, mx_max, D.cells, splice_one, splice_more, Rbr_at, Rfr_at, frR, frV, frC, flatC, brwR, brwV, brwC, omap, leR, leV, leC, leL, leVL, g26', g25', hbw']
end Go.Proofs.Ytajimebannjofaa

set_option linter.unusedSimpArgs false
set_option linter.unusedVariables false
namespace Go.Proofs.Ytajimebannjofaa
open Go.RowKit
structure WhOk (now : Int) (tm : List (Int × Int)) : Prop where
  n0 : 0 ≤ now
  n1 : now ≤ 1099511627776
  srt : SrtT tm
  fit : ∀ t ∈ tm, now < t.1 ∧ t.1 ≤ now + 500 ∧ t.1 ≤ 1099511627776 ∧ 0 ≤ t.2 ∧ t.2 < 200
  ids : (tm.map (·.2)).Nodup
  few : tm.length ≤ 200
/-- timers by a place -/
def byP (tm : List (Int × Int)) (pos : Int × Int → Nat) : List (List (Int × Int)) := (List.range 25).map fun p => tm.filter fun t => decide (pos t = p)
def plN (now : Int) (t : Int × Int) : Nat := (placeM t.1 now).toNat
theorem placeM_bd (z now : Int) : 0 ≤ placeM z now ∧ placeM z now < 25 := by
  unfold placeM
  split
  · omega
  split
  · omega
  split
  · omega
  · omega
theorem plN_lt (now : Int) (t : Int × Int) : plN now t < 25 := by have := placeM_bd t.1 now; unfold plN; omega
theorem plN_eq (now : Int) (t : Int × Int) : placeM t.1 now = (plN now t : Nat) := by have := placeM_bd t.1 now; unfold plN; omega
theorem byP_len (tm : List (Int × Int)) (pos : Int × Int → Nat) : (byP tm pos).length = 25 := by simp [byP]
theorem byP_get (tm : List (Int × Int)) (pos : Int × Int → Nat) (p : Nat) (hp : p < 25) : (byP tm pos).getD p [] = tm.filter fun t => decide (pos t = p) := by
  simp [byP, List.getD_eq_getElem?_getD, List.getElem?_range, hp]
theorem byP_congr {tm : List (Int × Int)} {pos pos' : Int × Int → Nat} (h : ∀ t ∈ tm, pos t = pos' t) : byP tm pos = byP tm pos' := by
  unfold byP
  exact List.map_congr_left fun p _ => List.filter_congr fun t ht => by rw [h t ht]
theorem byP_mem {tm : List (Int × Int)} {pos : Int × Int → Nat} {l : List (Int × Int)} (h : l ∈ byP tm pos) : ∃ p, p < 25 ∧ l = tm.filter fun t => decide (pos t = p) := by
  unfold byP at h
  obtain ⟨p, hp, rfl⟩ := List.mem_map.1 h
  exact ⟨p, List.mem_range.1 hp, rfl⟩
theorem filter_two {α : Type} (q r : α → Bool) (h : ∀ x, ¬ (q x = true ∧ r x = true)) : ∀ l : List α, (l.filter q ++ l.filter r).Perm (l.filter fun x => q x || r x)
  | [] => .nil
  | x :: t => by
    have ih := filter_two q r h t
    rw [List.filter_cons, List.filter_cons, List.filter_cons]
    cases hq : q x with
    | true =>
      have hr : r x = false := by
        cases hr : r x with
        | false => rfl
        | true => exact absurd ⟨hq, hr⟩ (h x)
      simp only [hr, if_true, Bool.false_eq_true, if_false, Bool.true_or, List.cons_append]
      exact ih.cons x
    | false =>
      cases hr : r x with
      | true =>
        simp only [Bool.false_eq_true, if_false, if_true, Bool.false_or]
        exact List.perm_middle.trans (ih.cons x)
      | false =>
        simp only [Bool.false_eq_true, if_false, Bool.false_or]
        exact ih
theorem byP_perm (tm : List (Int × Int)) (pos : Int × Int → Nat) : ∀ l : List Nat, l.Nodup → ((l.map fun p => tm.filter fun t => decide (pos t = p)).flatten).Perm (tm.filter fun t => decide (pos t ∈ l))
  | [], _ => by simp
  | p :: l, h => by
    obtain ⟨h1, h2⟩ := List.nodup_cons.1 h
    rw [List.map_cons, List.flatten_cons]
    refine ((byP_perm tm pos l h2).append_left _).trans ?_
    refine (filter_two _ _ (fun x hx => ?_) tm).trans ?_
    · simp only [decide_eq_true_eq] at hx
      obtain ⟨h3, h4⟩ := hx
      rw [h3] at h4
      exact h1 h4
    · rw [List.filter_congr fun t _ => ?_]
      simp [List.mem_cons]
theorem srt_nodup {l : List (Int × Int)} (h : SrtT l) : l.Nodup := List.Pairwise.imp (fun {a b} hab e => by subst e; omega) h
theorem byP_ok {now : Int} {tm : List (Int × Int)} (h : WhOk now tm) : LsOk now (byP tm (plN now)) := by
  have hp : ((byP tm (plN now)).flatten).Perm (tm.filter fun t => decide (plN now t ∈ List.range 25)) := byP_perm tm (plN now) (List.range 25) List.nodup_range
  refine ⟨h.n0, h.n1, byP_len _ _, fun p hp25 t ht => ?_, fun l hl => ?_, ?_, ?_⟩
  · rw [byP_get tm _ p hp25] at ht
    obtain ⟨h1, h2⟩ := List.mem_filter.1 ht
    have := h.fit t h1
    have e := plN_eq now t
    simp at h2
    refine ⟨by omega, by omega, by omega, by omega, by omega, by rw [e, h2]⟩
  · obtain ⟨p, _, rfl⟩ := byP_mem hl
    exact List.Pairwise.filter _ h.srt
  · rw [(hp.map (·.2)).nodup_iff]
    exact h.ids.sublist (List.filter_sublist.map _)
  · rw [hp.length_eq]
    exact Nat.le_trans (List.length_filter_le _ _) h.few
theorem ins_filter {tm : List (Int × Int)} (hs : SrtT tm) (t0 : Int × Int) (h0 : t0 ∈ tm) (q : Int × Int → Bool) (hq : q t0 = false) : insT t0 (tm.filter q) = tm.filter fun t => q t || decide (t = t0) := by
  obtain ⟨A, C, rfl⟩ := List.append_of_mem h0
  obtain ⟨h1, h2, h3⟩ := List.pairwise_append.1 hs
  obtain ⟨h4, h5⟩ := List.pairwise_cons.1 h2
  have hA : ∀ x ∈ A, ord2 x.1 x.2 t0.1 t0.2 < 0 ∧ x ≠ t0 := fun x hx => by
    have := h3 x hx t0 List.mem_cons_self
    exact ⟨ord2_neg.2 (by omega), fun e => by subst e; omega⟩
  have hC : ∀ x ∈ C, ¬ ord2 x.1 x.2 t0.1 t0.2 < 0 ∧ x ≠ t0 := fun x hx => by
    have := h4 x hx
    exact ⟨fun hh => by have := ord2_neg.1 hh; omega, fun e => by subst e; omega⟩
  have e1 : (A ++ t0 :: C).filter q = A.filter q ++ C.filter q := by rw [List.filter_append, List.filter_cons, hq]; simp
  have eA : A.filter (fun t => q t || decide (t = t0)) = A.filter q := List.filter_congr fun x hx => by simp [(hA x hx).2]
  have eC : C.filter (fun t => q t || decide (t = t0)) = C.filter q := List.filter_congr fun x hx => by simp [(hC x hx).2]
  have e2 : (A ++ t0 :: C).filter (fun t => q t || decide (t = t0)) = A.filter q ++ t0 :: C.filter q := by rw [List.filter_append, List.filter_cons, eA, eC]; simp
  rw [e1, e2]
  have hlow : lowT t0 (A.filter q ++ C.filter q) = (A.filter q).length := by
    unfold lowT
    refine lowB_at _ _ _ (by simp) (fun j hj hji => ?_) (fun hi => ?_)
    · rw [List.getElem_append_left hji]
      have := hA _ (List.mem_filter.1 (List.getElem_mem hji)).1
      simpa using this.1
    · rw [List.getElem_append_right (Nat.le_refl _)]
      have := hC _ (List.mem_filter.1 (List.getElem_mem (l := C.filter q) (n := (A.filter q).length - (A.filter q).length) (by simp at hi ⊢; omega))).1
      simpa using this.1
  unfold insT
  rw [hlow]
  simp
theorem byP_put {tm : List (Int × Int)} (hs : SrtT tm) (pos : Int × Int → Nat) (t0 : Int × Int) (h0 : t0 ∈ tm) (p : Nat) (hp : p < 25) (hpos : 25 ≤ pos t0) :
    (byP tm pos).set p (insT t0 ((byP tm pos).getD p [])) = byP tm fun t => if t = t0 then p else pos t := by
  rw [byP_get tm pos p hp, ins_filter hs t0 h0 _ (by simp; omega)]
  apply List.ext_getElem?
  intro i
  unfold byP
  rw [List.getElem?_set, List.getElem?_map, List.getElem?_map]
  by_cases hi : i < 25
  · rw [List.getElem?_range hi]
    by_cases e : p = i
    · subst e
      simp [hp]
      refine List.filter_congr fun t ht => ?_
      by_cases e2 : t = t0 <;> simp [e2]
    · simp [e]
      refine List.filter_congr fun t ht => ?_
      by_cases e2 : t = t0
      · subst e2
        have : ¬ pos t = i := by omega
        simp [e, this]
      · simp [e2]
  · rw [List.getElem?_eq_none (by simp; omega)]
    simp; omega
theorem byP_out (tm : List (Int × Int)) (pos : Int × Int → Nat) (q : Nat) (hq : q < 25) : (byP tm pos).set q [] = byP tm fun t => if pos t = q then 25 else pos t := by
  apply List.ext_getElem?
  intro i
  unfold byP
  rw [List.getElem?_set, List.getElem?_map, List.getElem?_map]
  by_cases hi : i < 25
  · rw [List.getElem?_range hi]
    by_cases e : q = i
    · subst e
      simp [hq]
      intro a b hab
      split <;> omega
    · simp [e]
      refine List.filter_congr fun t ht => ?_
      by_cases e2 : pos t = q
      · have h1 : ¬ pos t = i := by omega
        have h2 : ¬ 25 = i := by omega
        simp [e2, e, h2]
      · simp [e2]
  · rw [List.getElem?_eq_none (by simp; omega)]
    simp; omega
def szA (k : Nat) : Int := if k = 0 then 512 else if k = 1 then 64 else 8
def qA (n : Int) (k : Nat) : Nat := if k = 0 then 24 else if k = 1 then (16 + n / 64 % 8).toNat else (8 + n / 8 % 8).toNat
/-- the places behind k blocks -/
def posA (now : Int) : Nat → Int × Int → Nat
  | 0, t => plN now t
  | k + 1, t => if (now + 1) % szA k = 0 ∧ posA now k t = qA (now + 1) k then plN (now + 1) t else posA now k t
theorem place_keep (now z : Int) (h0 : 0 ≤ now) (h1 : now < z) (k0 : ¬ ((now + 1) % 512 = 0 ∧ placeM z now = 24)) (k1 : ¬ ((now + 1) % 64 = 0 ∧ placeM z now = 16 + (now + 1) / 64 % 8)) (k2 : ¬ ((now + 1) % 8 = 0 ∧ placeM z now = 8 + (now + 1) / 8 % 8)) :
    placeM z now = placeM z (now + 1) := by
  unfold placeM at *
  by_cases c8 : (now + 1) % 8 = 0
  · have e8 : (now + 1) / 8 = now / 8 + 1 := by omega
    have a0 : ¬ z / 8 = now / 8 := by omega
    rw [if_neg a0] at *
    by_cases c64 : (now + 1) % 64 = 0
    · have e64 : (now + 1) / 64 = now / 64 + 1 := by omega
      have a1 : ¬ z / 64 = now / 64 := by omega
      rw [if_neg a1] at *
      by_cases c512 : (now + 1) % 512 = 0
      · have e512 : (now + 1) / 512 = now / 512 + 1 := by omega
        have a2 : ¬ z / 512 = now / 512 := by omega
        rw [if_neg a2] at *
        exact absurd ⟨c512, rfl⟩ k0
      · have e512 : (now + 1) / 512 = now / 512 := by omega
        rw [e512, e64, e8]
        by_cases a2 : z / 512 = now / 512
        · rw [if_pos a2] at *
          have : ¬ z / 64 % 8 = (now / 64 + 1) % 8 := fun e => k1 ⟨c64, by rw [e64]; omega⟩
          have a3 : ¬ z / 64 = now / 64 + 1 := fun e => this (by rw [e])
          have a4 : ¬ z / 8 = now / 8 + 1 := by omega
          rw [if_neg a4, if_neg a3]
        · rw [if_neg a2] at *
          have a3 : ¬ z / 8 = now / 8 + 1 := by omega
          have a4 : ¬ z / 64 = now / 64 + 1 := by omega
          rw [if_neg a3, if_neg a4]
    · have e64 : (now + 1) / 64 = now / 64 := by omega
      have e512 : (now + 1) / 512 = now / 512 := by omega
      rw [e512, e64, e8]
      by_cases a1 : z / 64 = now / 64
      · rw [if_pos a1] at *
        have : ¬ z / 8 % 8 = (now / 8 + 1) % 8 := fun e => k2 ⟨c8, by rw [e8]; omega⟩
        rw [if_neg (fun e => this (by rw [e]))]
      · rw [if_neg a1] at *
        have a3 : ¬ z / 8 = now / 8 + 1 := by omega
        rw [if_neg a3]
  · have e8 : (now + 1) / 8 = now / 8 := by omega
    have e64 : (now + 1) / 64 = now / 64 := by omega
    have e512 : (now + 1) / 512 = now / 512 := by omega
    rw [e512, e64, e8]
theorem posA_end (now : Int) (t : Int × Int) (h0 : 0 ≤ now) (h1 : now < t.1) : posA now 3 t = plN (now + 1) t := by
  have e0 : posA now 0 t = plN now t := rfl
  have b0 : plN now t = (placeM t.1 now).toNat := rfl
  have hb := placeM_bd t.1 now
  have s1 : posA now 1 t = if (now + 1) % 512 = 0 ∧ posA now 0 t = 24 then plN (now + 1) t else posA now 0 t := rfl
  have s2 : posA now 2 t = if (now + 1) % 64 = 0 ∧ posA now 1 t = (16 + (now + 1) / 64 % 8).toNat then plN (now + 1) t else posA now 1 t := rfl
  have s3 : posA now 3 t = if (now + 1) % 8 = 0 ∧ posA now 2 t = (8 + (now + 1) / 8 % 8).toNat then plN (now + 1) t else posA now 2 t := rfl
  by_cases c1 : (now + 1) % 512 = 0 ∧ posA now 0 t = 24
  · rw [if_pos c1] at s1
    have s2 : posA now 2 t = plN (now + 1) t := by rw [s2, s1]; split <;> rfl
    rw [s3, s2]; split <;> rfl
  rw [if_neg c1] at s1
  by_cases c2 : (now + 1) % 64 = 0 ∧ posA now 1 t = (16 + (now + 1) / 64 % 8).toNat
  · rw [if_pos c2] at s2
    rw [s3, s2]; split <;> rfl
  rw [if_neg c2] at s2
  by_cases c3 : (now + 1) % 8 = 0 ∧ posA now 2 t = (8 + (now + 1) / 8 % 8).toNat
  · rw [s3, if_pos c3]
  rw [s3, if_neg c3, s2, s1, e0]
  rw [s1, e0] at c2
  rw [s2, s1, e0] at c3
  rw [e0] at c1
  have := place_keep now t.1 h0 h1 (fun h => c1 ⟨h.1, by omega⟩) (fun h => c2 ⟨h.1, by omega⟩) (fun h => c3 ⟨h.1, by omega⟩)
  unfold plN
  rw [this]
theorem herase_same (H : List (Nat × Ob)) (k : Nat) (h : ∀ p ∈ H, p.1 ≠ k) : herase H k = H := by
  induction H with
  | nil => rfl
  | cons p t ih =>
    obtain ⟨j, o⟩ := p
    simp only [herase]
    rw [if_neg (fun e => h _ List.mem_cons_self e.symm), ih fun q hq => h q (List.mem_cons_of_mem _ hq)]
theorem plN_now (n z id : Int) : plN n (z, id) = (n % 8).toNat ∧ 0 ≤ n → (0 ≤ z → z = n) := fun ⟨h, h0⟩ hz => by
  simp only [plN, placeM] at h
  split at h
  · omega
  split at h
  · omega
  split at h <;> omega
end Go.Proofs.Ytajimebannjofaa

