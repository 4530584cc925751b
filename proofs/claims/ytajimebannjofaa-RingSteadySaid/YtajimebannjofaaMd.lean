/- This text holds, one behind the other, the texts that say what the program computes, step by step, and the rules that they need. They have no condition of their own. -/
import Derived.Test.YtajimebannjofaaMc
import Derived.Test.YtajimebannjofaaMa
import Derived.RangeFuncLeaves
import Derived.Shelf.Abstract
import Derived.WalkKit
import Derived.OwnWalkIn
import Derived.TacticsInMore
import Derived.LoopNIn
import Derived.LoopIn
import Derived.Maps.AppendAt
import Derived.Shelf.SlSortCmp.NoneTotal
import Derived.Shelf.SlicesG.Cmp
import Derived.Shelf.Lay
import Derived.Ground.SlsfProg
import Derived.Ground.SlgcProg
import Derived.Lib.Walk
import Derived.StillTailTactics
import Derived.Laws.BitsAllLaws
set_option linter.unusedSimpArgs false
set_option linter.unusedVariables false
set_option maxRecDepth 100000
set_option maxHeartbeats 2000000
namespace Go.Proofs.Ytajimebannjofaa
open Go.RowKit
theorem ins_a (A : List (List D)) (row : List D) (i m k z : Nat) (hA : A.length = i) (hm : 1 ≤ m) :
    (A ++ List.replicate (m + k) (anyRow z)).take i ++ [row].take m ++ (A ++ List.replicate (m + k) (anyRow z)).drop (i + ([row].take m).length) = A ++ [row] ++ List.replicate (m + k - 1) (anyRow z) := by
  obtain ⟨m, rfl⟩ : ∃ m', m = m' + 1 := ⟨m - 1, by omega⟩
  subst hA
  rw [List.take_left, List.take_of_length_le (by simp), List.drop_append, List.drop_eq_nil_of_le (by simp), List.drop_replicate]
  simp
theorem ins_b (A B : List (List D)) (row : List D) (i r z : Nat) (hA : A.length = i) (hr : B.length ≤ r) :
    (A ++ [row] ++ List.replicate r (anyRow z)).take (i + 1) ++ B ++ (A ++ [row] ++ List.replicate r (anyRow z)).drop (i + 1 + B.length) = A ++ [row] ++ B ++ List.replicate (r - B.length) (anyRow z) := by
  subst hA
  have e : A.length + 1 = (A ++ [row]).length := by simp
  rw [e, List.take_left, List.drop_append, List.drop_eq_nil_of_le (by simp), List.drop_replicate]
  simp only [List.nil_append]
  congr 2; simp
theorem ins_c (xs : List (List D)) (i k z : Nat) (hi : i < xs.length) : (((xs ++ List.replicate (k + 1) (anyRow z)).drop i).take (xs.length + 1 - i)).take (xs.length - i) = xs.drop i := by
  rw [List.take_take, Nat.min_eq_left (by omega), List.drop_append_of_le_length (by omega), List.take_append_of_le_length (by simp), List.take_of_length_le (by simp)]
theorem ins_d (xs : List (List D)) (i k z : Nat) (hi : i < xs.length) :
    (xs ++ List.replicate (k + 1) (anyRow z)).take (i + 1) ++ xs.drop i ++ (xs ++ List.replicate (k + 1) (anyRow z)).drop (i + 1 + (xs.drop i).length) = xs.take (i + 1) ++ xs.drop i ++ List.replicate k (anyRow z) := by
  have h1 : xs.drop (i + 1 + (xs.drop i).length) = [] := List.drop_eq_nil_of_le (by simp; omega)
  rw [List.take_append_of_le_length (by omega), List.drop_append (l₁ := xs), h1, List.drop_replicate]
  simp only [List.nil_append]
  congr 2; simp; omega
theorem ins_e (xs : List (List D)) (row : List D) (i k z m : Nat) (hi : i < xs.length) (hm : 1 ≤ m) :
    (xs.take (i + 1) ++ xs.drop i ++ List.replicate k (anyRow z)).take i ++ [row].take m ++ (xs.take (i + 1) ++ xs.drop i ++ List.replicate k (anyRow z)).drop (i + ([row].take m).length) = xs.take i ++ [row] ++ xs.drop i ++ List.replicate k (anyRow z) := by
  have h1 : (xs.take (i + 1)).length = i + 1 := by simp; omega
  rw [List.take_of_length_le (l := [row]) (by simp; omega), List.append_assoc (xs.take (i + 1)), List.take_append_of_le_length (by omega), List.take_take, Nat.min_eq_left (by omega)]
  have e : i + [row].length = (xs.take (i + 1)).length := by simp; omega
  rw [e, List.drop_left]
  simp
theorem ins_t (xs : List (List D)) (row : List D) (i k z : Nat) (hi : i ≤ xs.length) : (xs.take i ++ [row] ++ xs.drop i ++ List.replicate k (anyRow z)).take (xs.length + 1) = xs.take i ++ [row] ++ xs.drop i := by
  have e : xs.length + 1 = (xs.take i ++ [row] ++ xs.drop i).length := by simp; omega
  rw [e, List.take_left]
theorem ins_mem {xs : List (List D)} {row : List D} {i : Nat} {q : List D → Prop} (h1 : ∀ r ∈ xs, q r) (h2 : q row) : ∀ r ∈ xs.take i ++ [row] ++ xs.drop i, q r := by
  intro r hr
  rcases List.mem_append.1 hr with hr | hr
  · rcases List.mem_append.1 hr with hr | hr
    · exact h1 r (List.mem_of_mem_take hr)
    · rw [List.mem_singleton.1 hr]; exact h2
  · exact h1 r (List.mem_of_mem_drop hr)
theorem tins_code : cfun Try.prog [] 46 = some ⟨(.seq (.region 0 [⟨(some 6), (.mov (.k .nil0)), none⟩]) (.seq (.region 1 [⟨(some 10), (.mov (.t 0)), none⟩, ⟨(some 11), (.mov (.t 1)), none⟩, ⟨(some 12), (.slc 2 (.t 10) (some (.t 11)) none none), none⟩]) (.seq (.region 2 [⟨(some 13), (.mov (.t 2)), none⟩, ⟨(some 14), (.len (.t 13)), none⟩, ⟨(some 7), (.mov (.t 14)), none⟩]) (.seq (.seq (.region 3 [⟨(some 15), (.mov (.t 7)), none⟩, ⟨(some 16), (.bin .eql (.t 15) (.k (.int .i64 0))), none⟩]) (.cond 16 (.seq (.region 4 [⟨(some 17), (.mov (.t 0)), none⟩, ⟨(some 6), (.mov (.t 17)), none⟩]) .ret) .skip)) (.seq (.region 5 [⟨(some 18), (.mov (.t 0)), none⟩, ⟨(some 19), (.len (.t 18)), none⟩, ⟨(some 8), (.mov (.t 19)), none⟩]) (.seq (.seq (.region 6 [⟨(some 20), (.mov (.t 1)), none⟩, ⟨(some 21), (.mov (.t 8)), none⟩, ⟨(some 22), (.bin .eql (.t 20) (.t 21)), none⟩]) (.cond 22 (.seq (.region 7 [⟨(some 23), (.mov (.t 0)), none⟩, ⟨(some 24), (.mov (.t 2)), none⟩, ⟨(some 25), (.app 2 16 [(.int .i64 0), (.int .i64 0)] (.t 23) (.t 24)), none⟩, ⟨(some 6), (.mov (.t 25)), none⟩]) .ret) .skip)) (.seq (.seq (.region 8 [⟨(some 26), (.mov (.t 8)), none⟩, ⟨(some 27), (.mov (.t 7)), none⟩, ⟨(some 28), (.bin .add (.t 26) (.t 27)), none⟩, ⟨(some 29), (.mov (.t 0)), none⟩, ⟨(some 30), (.xop 8 [] [(.t 29)]), none⟩, ⟨(some 31), (.bin .gtr (.t 28) (.t 30)), none⟩]) (.cond 31 (.seq (.region 9 [⟨(some 32), (.mov (.t 0)), none⟩, ⟨(some 33), (.mov (.t 1)), none⟩, ⟨(some 34), (.slc 2 (.t 32) none (some (.t 33)) none), none⟩, ⟨(some 35), (.mov (.t 8)), none⟩, ⟨(some 36), (.mov (.t 7)), none⟩, ⟨(some 37), (.bin .add (.t 35) (.t 36)), none⟩, ⟨(some 38), (.mov (.t 1)), none⟩, ⟨(some 39), (.bin .sub (.t 37) (.t 38)), none⟩, ⟨(some 40), (.xop 11 [2, 16] [(.t 34), (.t 39)]), none⟩, ⟨(some 9), (.mov (.t 40)), none⟩]) (.seq (.region 10 [⟨(some 41), (.mov (.t 9)), none⟩, ⟨(some 42), (.mov (.t 1)), none⟩, ⟨(some 43), (.slc 2 (.t 41) (some (.t 42)) none none), none⟩, ⟨(some 44), (.mov (.t 2)), none⟩, ⟨(some 45), (.xop 9 [2] [(.t 43), (.t 44)]), none⟩]) (.seq (.draw 11 (.one true ⟨(some 46), (.mov (.t 9)), none⟩ (.one true ⟨(some 47), (.mov (.t 1)), none⟩ (.one true ⟨(some 48), (.mov (.t 7)), none⟩ (.one true ⟨(some 49), (.bin .add (.t 47) (.t 48)), none⟩ (.one true ⟨(some 50), (.slc 2 (.t 46) (some (.t 49)) none none), none⟩ (.one true ⟨(some 51), (.mov (.t 0)), none⟩ (.one true ⟨(some 52), (.mov (.t 1)), none⟩ (.one true ⟨(some 53), (.slc 2 (.t 51) (some (.t 52)) none none), none⟩ (.one false ⟨(some 54), (.xop 9 [2] [(.t 50), (.t 53)]), none⟩ .done)))))))))) (.seq (.region 12 [⟨(some 55), (.mov (.t 9)), none⟩, ⟨(some 6), (.mov (.t 55)), none⟩]) .ret)))) .skip)) (.seq (.region 13 [⟨(some 56), (.mov (.t 0)), none⟩, ⟨(some 57), (.mov (.t 8)), none⟩, ⟨(some 58), (.mov (.t 7)), none⟩, ⟨(some 59), (.bin .add (.t 57) (.t 58)), none⟩, ⟨(some 60), (.slc 2 (.t 56) none (some (.t 59)) none), none⟩, ⟨(some 0), (.mov (.t 60)), none⟩]) (.seq (.seq (.region 14 [⟨(some 61), (.mov (.t 2)), none⟩, ⟨(some 62), (.mov (.t 0)), none⟩, ⟨(some 63), (.mov (.t 1)), none⟩, ⟨(some 64), (.mov (.t 7)), none⟩, ⟨(some 65), (.bin .add (.t 63) (.t 64)), none⟩, ⟨(some 66), (.slc 2 (.t 62) (some (.t 65)) none none), none⟩, ⟨(some 67), (.call 57 [(.t 61), (.t 66)]), none⟩, ⟨(some 68), (.not (.t 67)), none⟩]) (.cond 68 (.seq (.draw 15 (.one true ⟨(some 69), (.mov (.t 0)), none⟩ (.one true ⟨(some 70), (.mov (.t 1)), none⟩ (.one true ⟨(some 71), (.mov (.t 7)), none⟩ (.one true ⟨(some 72), (.bin .add (.t 70) (.t 71)), none⟩ (.one true ⟨(some 73), (.slc 2 (.t 69) (some (.t 72)) none none), none⟩ (.one true ⟨(some 74), (.mov (.t 0)), none⟩ (.one true ⟨(some 75), (.mov (.t 1)), none⟩ (.one true ⟨(some 76), (.slc 2 (.t 74) (some (.t 75)) none none), none⟩ (.one false ⟨(some 77), (.xop 9 [2] [(.t 73), (.t 76)]), none⟩ .done)))))))))) (.seq (.region 16 [⟨(some 78), (.mov (.t 0)), none⟩, ⟨(some 79), (.mov (.t 1)), none⟩, ⟨(some 80), (.slc 2 (.t 78) (some (.t 79)) none none), none⟩, ⟨(some 81), (.mov (.t 2)), none⟩, ⟨(some 82), (.xop 9 [2] [(.t 80), (.t 81)]), none⟩]) (.seq (.region 17 [⟨(some 83), (.mov (.t 0)), none⟩, ⟨(some 6), (.mov (.t 83)), none⟩]) .ret))) .skip)) (.seq (.region 18 [⟨(some 84), (.mov (.t 0)), none⟩, ⟨(some 85), (.mov (.t 8)), none⟩, ⟨(some 86), (.slc 2 (.t 84) (some (.t 85)) none none), none⟩, ⟨(some 87), (.mov (.t 2)), none⟩, ⟨(some 88), (.xop 9 [2] [(.t 86), (.t 87)]), none⟩]) (.seq (.region 19 [⟨(some 89), (.mov (.t 0)), none⟩, ⟨(some 90), (.mov (.t 1)), none⟩, ⟨(some 91), (.slc 2 (.t 89) (some (.t 90)) none none), none⟩, ⟨(some 92), (.mov (.t 7)), none⟩, ⟨(some 93), (.call 58 [(.t 91), (.t 92)]), none⟩]) (.seq (.region 20 [⟨(some 94), (.mov (.t 0)), none⟩, ⟨(some 6), (.mov (.t 94)), none⟩]) .ret)))))))))))), [(.t 6)], 95⟩ := by kernel_rfl
theorem tov_ext (args : Array Value) (w : World) : (callFunc 57 args).run Try.prog w = ((Extern.SlicesOverlaps.overlaps #[45, 45] #[4] args).run Try.prog w).andThen fun v w' => .ok (.value v) w' :=
  run_callFunc_extern Try.func57 (by kernel_rfl) (by kernel_rfl) (by kernel_rfl) (e := Extern.SlicesOverlaps.overlaps #[45, 45] #[4]) (by kernel_rfl) args w
theorem tins_hf (xs : List (List D)) (i : Nat) (row : List D) (hi : i ≤ xs.length) (hl : xs.length < 1000000) (hrow : row.length = 2) (hxs : ∀ r ∈ xs, r.length = 2) (hT : ∀ r ∈ xs, ∀ d ∈ r, isT d = true) (hTr : ∀ d ∈ row, isT d = true) :
    HF Try.prog 46 [.own 0, I i, .own 1] [(1, .row 2 [row]), (0, .row 2 xs)] 2 (fun d H' nx' => d = .own 2 ∧ H' = [(2, .row 2 (xs.take i ++ [row] ++ xs.drop i))] ∧ nx' = 3) := by
  refine HF.one (fun _ => rfl) (fun _ => trivial) ?_
  refine HF.of follows_ok tins_code (by simp) (by simp [argOk]) (by simp [LtV, LtC]) fun B hBN hB0 => acode_sound [0, 1, 2, 6, 7, 8, 9, 16, 22, 31, 68] [8, 12, 17] _ _ _ ?_
  by_cases hin : i = xs.length
  · subst hin
    have hcap : (xs.length + 1) * 16 ≤ 140737488355328 := by omega
    simp [AK_at, acode_seq, acode_region, acode_draw, acode_cond, ↓CB_t, ↓CB_f, CB_u, acode_block, acode_loop, acode_exit, acode_scope, acode_ret, acode_skip, seqQ_n, seqQ_e, seqQ_r, blockQ_n, blockQ_e, blockQ_r, TK_at, OK_at, SK_at, aops_nil, aops_cons, asch_done, asch_one, asch_two, asch_top, astep, aop_eq, isLoud, aloud, aloud1, isWrite, qv, evS, strip, gof, eget, hget, putO, eput, herase, oks, opnds, gS, afin, afin0, binD, arith, D.cells, takeD, fillD, keep, trim, envOf, Fin, aresl, aresv, resD, argOk, pickV, isP, deq, deqs, boundD, slD, lenD, isT, isSl, ptrIds, chunks, mn_min, mx_max, D.cells, splice_one, splice_more, hcap, hrow]
  have hz : ¬ ((i : Int) = xs.length) := by omega
  have h0 : xs ≠ [] := by
    rintro rfl
    simp at hi hin; omega
  have hlt : i < xs.length := by omega
  have i1 : InR ((xs.length : Int) + 1) := inW (by omega) (by omega)
  have i2 : InR ((xs.length : Int) + 1 - i) := inW (by omega) (by omega)
  have i3 : InR ((i : Int) + 1) := inW (by omega) (by omega)
  have p1 : (0 : Int) ≤ (xs.length : Int) + 1 := by omega
  have p3 : (0 : Int) ≤ (i : Int) + 1 := by omega
  have hnv : ∀ {d : D}, isT d = true → d ≠ .any := fun h e => by rw [e] at h; cases h
  simp [AK_at, acode_seq, acode_region, acode_draw, acode_cond, ↓CB_t, ↓CB_f, CB_u, acode_block, acode_loop, acode_exit, acode_scope, acode_ret, acode_skip, seqQ_n, seqQ_e, seqQ_r, blockQ_n, blockQ_e, blockQ_r, TK_at, OK_at, SK_at, aops_nil, aops_cons, asch_done, asch_one, asch_two, asch_top, astep, aop_eq, isLoud, aloud, aloud1, isWrite, qv, evS, strip, gof, eget, hget, putO, eput, herase, oks, opnds, gS, afin, afin0, binD, arith, D.cells, takeD, fillD, keep, trim, envOf, Fin, aresl, aresv, resD, argOk, pickV, isP, deq, deqs, boundD, slD, lenD, isT, isSl, ptrIds, chunks, mn_min, mx_max, D.cells, splice_one, splice_more, hin, hz, hi]
  refine W.openR (t := 0) (id := 0) (sz := 2) (xs := xs) (by simp [eget]) (by simp [hget]) h0 fun k => ?_
  simp only [eput]
  refine acode_sound [0, 1, 2, 6, 7, 8, 9, 16, 22, 31, 68] [] _ _ _ ?_
  have hA : (xs.take i).length = i := by simp; omega
  have hB : (xs.drop i).length = xs.length - i := by simp
  cases k with
  | zero =>
    have c0 : (xs.length : Int) < xs.length + 1 := by omega
    obtain ⟨m, hm⟩ : ∃ m, m = xs.length + 1 - i := ⟨_, rfl⟩
    have hmz : (xs.length : Int) + 1 - i = (m : Nat) := by omega
    have him : i + m = xs.length + 1 := by omega
    have hm1 : 1 ≤ m := by omega
    have i2' : InR (m : Int) := by rw [← hmz]; exact i2
    simp [AK_at, acode_seq, acode_region, acode_draw, acode_cond, ↓CB_t, ↓CB_f, CB_u, acode_block, acode_loop, acode_exit, acode_scope, acode_ret, acode_skip, seqQ_n, seqQ_e, seqQ_r, blockQ_n, blockQ_e, blockQ_r, TK_at, OK_at, SK_at, aops_nil, aops_cons, asch_done, asch_one, asch_two, asch_top, astep, aop_eq, isLoud, aloud, aloud1, isWrite, qv, evS, strip, gof, eget, hget, putO, eput, herase, oks, opnds, gS, afin, afin0, binD, arith, D.cells, takeD, fillD, keep, trim, envOf, Fin, aresl, aresv, resD, argOk, pickV, isP, deq, deqs, boundD, slD, lenD, isT, isSl, ptrIds, chunks, mn_min, mx_max, D.cells, splice_one, splice_more, i1]
    refine XCall.cap (id := 0) (sz := 2) (off := 0) (len := xs.length) (cp := xs.length) (by simp [oks, opnds, gS, gof, eget]) (by simp [evS, eget, strip]) ?_
    simp [AK_at, acode_seq, acode_region, acode_draw, acode_cond, ↓CB_t, ↓CB_f, CB_u, acode_block, acode_loop, acode_exit, acode_scope, acode_ret, acode_skip, seqQ_n, seqQ_e, seqQ_r, blockQ_n, blockQ_e, blockQ_r, TK_at, OK_at, SK_at, aops_nil, aops_cons, asch_done, asch_one, asch_two, asch_top, astep, aop_eq, isLoud, aloud, aloud1, isWrite, qv, evS, strip, gof, eget, hget, putO, eput, herase, oks, opnds, gS, afin, afin0, binD, arith, D.cells, takeD, fillD, keep, trim, envOf, Fin, aresl, aresv, resD, argOk, pickV, isP, deq, deqs, boundD, slD, lenD, isT, isSl, ptrIds, chunks, mn_min, mx_max, D.cells, splice_one, splice_more, i1, hmz, i2', c0, hi]
    refine XCall.appmake (id := 0) (off := 0) (len := i) (cp := xs.length) (xs := xs) (n := m) (by simp [oks, opnds, gS, gof, eget]) (by simp [evS, eget, strip]) (by simp [hget]) (by simp [evS, eget, strip]) (by omega) (by omega) (by omega) (by omega) fun k => ?_
    rw [List.drop_zero, him]
    obtain ⟨W1, hW1⟩ : ∃ W1, W1 = xs.take i ++ List.replicate (m + k) (anyRow 2) := ⟨_, rfl⟩
    have hW2 := ins_a (xs.take i) row i m k 2 hA hm1
    rw [← hW1] at hW2 ⊢
    obtain ⟨W2, hW2'⟩ : ∃ W2, W2 = xs.take i ++ [row] ++ List.replicate (m + k - 1) (anyRow 2) := ⟨_, rfl⟩
    rw [← hW2'] at hW2
    have hW3 := ins_b (xs.take i) (xs.drop i) row i (m + k - 1) 2 hA (by omega)
    rw [← hW2'] at hW3
    have hk3 : m + k - 1 - (xs.drop i).length = k := by omega
    rw [hk3] at hW3
    obtain ⟨W3, hW3'⟩ : ∃ W3, W3 = xs.take i ++ [row] ++ xs.drop i ++ List.replicate k (anyRow 2) := ⟨_, rfl⟩
    rw [← hW3'] at hW3
    have l3 : W3.length = xs.length + 1 + k := by rw [hW3']; simp; omega
    have t3 : W3.take (xs.length + 1) = xs.take i ++ [row] ++ xs.drop i := by rw [hW3']; exact ins_t xs row i k 2 hi
    have hle1 : i ≤ xs.length + 1 := by omega
    have hle2 : i + 1 ≤ xs.length + 1 := by omega
    have hle3 : xs.length + 1 ≤ xs.length + 1 + k := by omega
    simp [AK_at, acode_seq, acode_region, acode_draw, acode_cond, ↓CB_t, ↓CB_f, CB_u, acode_block, acode_loop, acode_exit, acode_scope, acode_ret, acode_skip, seqQ_n, seqQ_e, seqQ_r, blockQ_n, blockQ_e, blockQ_r, TK_at, OK_at, SK_at, aops_nil, aops_cons, asch_done, asch_one, asch_two, asch_top, astep, aop_eq, isLoud, aloud, aloud1, isWrite, qv, evS, strip, gof, eget, hget, putO, eput, herase, oks, opnds, gS, afin, afin0, binD, arith, D.cells, takeD, fillD, keep, trim, envOf, Fin, aresl, aresv, resD, argOk, pickV, isP, deq, deqs, boundD, slD, lenD, isT, isSl, ptrIds, chunks, mn_min, mx_max, D.cells, splice_one, splice_more, hle1, hle3]
    refine XCall.copy (id := 2) (off := i) (len := xs.length + 1 - i) (xs := W1) (ys := [row]) (cp := xs.length + 1 + k - i) (by simp [oks, opnds, gS, gof, eget]) rfl (by simp [evS, eget, strip]) (by simp [hget]) (by simp [evS, eget, strip, srcD, slD, hget]) (fun r hr => ?_) (fun r hr d hd => ?_) ?_
    · rw [List.mem_singleton.1 (List.mem_of_mem_take hr)]; exact hrow
    · rw [List.mem_singleton.1 (List.mem_of_mem_take hr)] at hd; exact hnv (hTr d hd)
    rw [← hm, hW2]
    simp [AK_at, acode_seq, acode_region, acode_draw, acode_cond, ↓CB_t, ↓CB_f, CB_u, acode_block, acode_loop, acode_exit, acode_scope, acode_ret, acode_skip, seqQ_n, seqQ_e, seqQ_r, blockQ_n, blockQ_e, blockQ_r, TK_at, OK_at, SK_at, aops_nil, aops_cons, asch_done, asch_one, asch_two, asch_top, astep, aop_eq, isLoud, aloud, aloud1, isWrite, qv, evS, strip, gof, eget, hget, putO, eput, herase, oks, opnds, gS, afin, afin0, binD, arith, D.cells, takeD, fillD, keep, trim, envOf, Fin, aresl, aresv, resD, argOk, pickV, isP, deq, deqs, boundD, slD, lenD, isT, isSl, ptrIds, chunks, mn_min, mx_max, D.cells, splice_one, splice_more, i3, hle2, hle3, hi, p3]
    have hdt0 : (xs.drop i).take (xs.length - i) = xs.drop i := List.take_of_length_le (by simp)
    refine XCall.copy (id := 2) (off := i + 1) (len := xs.length + 1 - (i + 1)) (xs := W2) (ys := xs.drop i) (cp := xs.length + 1 + k - (i + 1)) (by simp [oks, opnds, gS, gof, eget]) rfl (by simp [evS, eget, strip]) (by simp [hget]) (by simp [evS, eget, strip, srcD, hget, hdt0]) (fun r hr => ?_) (fun r hr d hd => ?_) ?_
    · exact hxs r (List.mem_of_mem_drop (List.mem_of_mem_take hr))
    · exact hnv (hT r (List.mem_of_mem_drop (List.mem_of_mem_take hr)) d hd)
    have hdt : (xs.drop i).take (xs.length + 1 - (i + 1)) = xs.drop i := List.take_of_length_le (by simp)
    rw [hdt, hW3]
    simp [AK_at, acode_seq, acode_region, acode_draw, acode_cond, ↓CB_t, ↓CB_f, CB_u, acode_block, acode_loop, acode_exit, acode_scope, acode_ret, acode_skip, seqQ_n, seqQ_e, seqQ_r, blockQ_n, blockQ_e, blockQ_r, TK_at, OK_at, SK_at, aops_nil, aops_cons, asch_done, asch_one, asch_two, asch_top, astep, aop_eq, isLoud, aloud, aloud1, isWrite, qv, evS, strip, gof, eget, hget, putO, eput, herase, oks, opnds, gS, afin, afin0, binD, arith, D.cells, takeD, fillD, keep, trim, envOf, Fin, aresl, aresv, resD, argOk, pickV, isP, deq, deqs, boundD, slD, lenD, isT, isSl, ptrIds, chunks, mn_min, mx_max, D.cells, splice_one, splice_more]
    refine W.gh (Gh.closeR (t := 9) (id := 2) (sz := 2) (len := xs.length + 1) (xs := W3) (by simp [eget, l3]) (by simp [hget]) (by rw [t3]; exact ins_mem hT hTr)) ?_
    rw [t3]
    simp only [eput, herase]
    refine acode_sound [0, 1, 2, 6, 7, 8, 9, 16, 22, 31, 68] [] _ _ _ ?_
    simp [AK_at, acode_seq, acode_region, acode_draw, acode_cond, ↓CB_t, ↓CB_f, CB_u, acode_block, acode_loop, acode_exit, acode_scope, acode_ret, acode_skip, seqQ_n, seqQ_e, seqQ_r, blockQ_n, blockQ_e, blockQ_r, TK_at, OK_at, SK_at, aops_nil, aops_cons, asch_done, asch_one, asch_two, asch_top, astep, aop_eq, isLoud, aloud, aloud1, isWrite, qv, evS, strip, gof, eget, hget, putO, eput, herase, oks, opnds, gS, afin, afin0, binD, arith, D.cells, takeD, fillD, keep, trim, envOf, Fin, aresl, aresv, resD, argOk, pickV, isP, deq, deqs, boundD, slD, lenD, isT, isSl, ptrIds, chunks, mn_min, mx_max, D.cells, splice_one, splice_more]
  | succ k =>
    have c0 : ¬ ((k : Int) + 1 < 1) := by omega
    have c1 : xs.length + 1 ≤ xs.length + (k + 1) := by omega
    have hle1 : i ≤ xs.length + 1 := by omega
    have hle2 : i + 1 ≤ xs.length + 1 := by omega
    simp [AK_at, acode_seq, acode_region, acode_draw, acode_cond, ↓CB_t, ↓CB_f, CB_u, acode_block, acode_loop, acode_exit, acode_scope, acode_ret, acode_skip, seqQ_n, seqQ_e, seqQ_r, blockQ_n, blockQ_e, blockQ_r, TK_at, OK_at, SK_at, aops_nil, aops_cons, asch_done, asch_one, asch_two, asch_top, astep, aop_eq, isLoud, aloud, aloud1, isWrite, qv, evS, strip, gof, eget, hget, putO, eput, herase, oks, opnds, gS, afin, afin0, binD, arith, D.cells, takeD, fillD, keep, trim, envOf, Fin, aresl, aresv, resD, argOk, pickV, isP, deq, deqs, boundD, slD, lenD, isT, isSl, ptrIds, chunks, mn_min, mx_max, D.cells, splice_one, splice_more, i1]
    refine XCall.cap (id := 0) (sz := 2) (off := 0) (len := xs.length) (cp := xs.length + (k + 1)) (by simp [oks, opnds, gS, gof, eget]) (by simp [evS, eget, strip]) ?_
    simp [AK_at, acode_seq, acode_region, acode_draw, acode_cond, ↓CB_t, ↓CB_f, CB_u, acode_block, acode_loop, acode_exit, acode_scope, acode_ret, acode_skip, seqQ_n, seqQ_e, seqQ_r, blockQ_n, blockQ_e, blockQ_r, TK_at, OK_at, SK_at, aops_nil, aops_cons, asch_done, asch_one, asch_two, asch_top, astep, aop_eq, isLoud, aloud, aloud1, isWrite, qv, evS, strip, gof, eget, hget, putO, eput, herase, oks, opnds, gS, afin, afin0, binD, arith, D.cells, takeD, fillD, keep, trim, envOf, Fin, aresl, aresv, resD, argOk, pickV, isP, deq, deqs, boundD, slD, lenD, isT, isSl, ptrIds, chunks, mn_min, mx_max, D.cells, splice_one, splice_more, i1, i3, c0, c1, hle1, hle2, p1, p3]
    obtain ⟨U, hU⟩ : ∃ U, U = xs ++ List.replicate (k + 1) (anyRow 2) := ⟨_, rfl⟩
    have hC := ins_c xs i k 2 hlt
    have hD := ins_d xs i k 2 hlt
    rw [← hU] at hC hD
    obtain ⟨V, hV⟩ : ∃ V, V = xs.take (i + 1) ++ xs.drop i ++ List.replicate k (anyRow 2) := ⟨_, rfl⟩
    have hE := ins_e xs row i k 2 (xs.length + 1 - i) hlt (by omega)
    rw [← hV] at hD hE
    obtain ⟨W3, hW3'⟩ : ∃ W3, W3 = xs.take i ++ [row] ++ xs.drop i ++ List.replicate k (anyRow 2) := ⟨_, rfl⟩
    rw [← hW3'] at hE
    have l3 : W3.length = xs.length + (k + 1) := by rw [hW3']; simp; omega
    have t3 : W3.take (xs.length + 1) = xs.take i ++ [row] ++ xs.drop i := by rw [hW3']; exact ins_t xs row i k 2 hi
    rw [← hU]
    refine WCall.overlaps (sz := 2) (off := i + 1) (len := xs.length + 1 - (i + 1)) (cp := xs.length + (k + 1) - (i + 1)) (id1 := 1) (sz1 := 2) (id := 0) (zs := [row]) (xs := U) (tov_ext) Try.underlying45 (by kernel_rfl) (by simp [oks, opnds, gS, gof, eget]) (by simp [evS, eget, strip]) (by simp [hget]) (by simp) (by simp [evS, eget, strip]) (by simp [hget]) (by omega) ?_
    simp [AK_at, acode_seq, acode_region, acode_draw, acode_cond, ↓CB_t, ↓CB_f, CB_u, acode_block, acode_loop, acode_exit, acode_scope, acode_ret, acode_skip, seqQ_n, seqQ_e, seqQ_r, blockQ_n, blockQ_e, blockQ_r, TK_at, OK_at, SK_at, aops_nil, aops_cons, asch_done, asch_one, asch_two, asch_top, astep, aop_eq, isLoud, aloud, aloud1, isWrite, qv, evS, strip, gof, eget, hget, putO, eput, herase, oks, opnds, gS, afin, afin0, binD, arith, D.cells, takeD, fillD, keep, trim, envOf, Fin, aresl, aresv, resD, argOk, pickV, isP, deq, deqs, boundD, slD, lenD, isT, isSl, ptrIds, chunks, mn_min, mx_max, D.cells, splice_one, splice_more, i3, p3, hle1, hle2]
    refine XCall.copy (id := 0) (off := i + 1) (len := xs.length + 1 - (i + 1)) (xs := U) (ys := (U.drop i).take (xs.length + 1 - i)) (cp := xs.length + (k + 1) - (i + 1)) (by simp [oks, opnds, gS, gof, eget]) rfl (by simp [evS, eget, strip]) (by simp [hget]) (by simp [evS, eget, strip, srcD, hget]) (fun r hr => ?_) (fun r hr d hd => ?_) ?_
    · rw [show xs.length + 1 - (i + 1) = xs.length - i by omega, hC] at hr
      exact hxs r (List.mem_of_mem_drop hr)
    · rw [show xs.length + 1 - (i + 1) = xs.length - i by omega, hC] at hr
      exact hnv (hT r (List.mem_of_mem_drop hr) d hd)
    rw [show xs.length + 1 - (i + 1) = xs.length - i by omega, hC, hD]
    simp [AK_at, acode_seq, acode_region, acode_draw, acode_cond, ↓CB_t, ↓CB_f, CB_u, acode_block, acode_loop, acode_exit, acode_scope, acode_ret, acode_skip, seqQ_n, seqQ_e, seqQ_r, blockQ_n, blockQ_e, blockQ_r, TK_at, OK_at, SK_at, aops_nil, aops_cons, asch_done, asch_one, asch_two, asch_top, astep, aop_eq, isLoud, aloud, aloud1, isWrite, qv, evS, strip, gof, eget, hget, putO, eput, herase, oks, opnds, gS, afin, afin0, binD, arith, D.cells, takeD, fillD, keep, trim, envOf, Fin, aresl, aresv, resD, argOk, pickV, isP, deq, deqs, boundD, slD, lenD, isT, isSl, ptrIds, chunks, mn_min, mx_max, D.cells, splice_one, splice_more, i3, p3, hle1, hle2]
    refine XCall.copy (id := 0) (off := i) (len := xs.length + 1 - i) (xs := V) (ys := [row]) (cp := xs.length + (k + 1) - i) (by simp [oks, opnds, gS, gof, eget]) rfl (by simp [evS, eget, strip]) (by simp [hget]) (by simp [evS, eget, strip, srcD, slD, hget]) (fun r hr => ?_) (fun r hr d hd => ?_) ?_
    · rw [List.mem_singleton.1 (List.mem_of_mem_take hr)]; exact hrow
    · rw [List.mem_singleton.1 (List.mem_of_mem_take hr)] at hd; exact hnv (hTr d hd)
    rw [hE]
    simp [AK_at, acode_seq, acode_region, acode_draw, acode_cond, ↓CB_t, ↓CB_f, CB_u, acode_block, acode_loop, acode_exit, acode_scope, acode_ret, acode_skip, seqQ_n, seqQ_e, seqQ_r, blockQ_n, blockQ_e, blockQ_r, TK_at, OK_at, SK_at, aops_nil, aops_cons, asch_done, asch_one, asch_two, asch_top, astep, aop_eq, isLoud, aloud, aloud1, isWrite, qv, evS, strip, gof, eget, hget, putO, eput, herase, oks, opnds, gS, afin, afin0, binD, arith, D.cells, takeD, fillD, keep, trim, envOf, Fin, aresl, aresv, resD, argOk, pickV, isP, deq, deqs, boundD, slD, lenD, isT, isSl, ptrIds, chunks, mn_min, mx_max, D.cells, splice_one, splice_more]
    refine W.gh (Gh.closeR (t := 0) (id := 0) (sz := 2) (len := xs.length + 1) (xs := W3) (by simp [eget, l3]) (by simp [hget]) (by rw [t3]; exact ins_mem hT hTr)) ?_
    rw [t3]
    simp only [eput, herase]
    refine acode_sound [0, 1, 2, 6, 7, 8, 9, 16, 22, 31, 68] [] _ _ _ ?_
    simp [AK_at, acode_seq, acode_region, acode_draw, acode_cond, ↓CB_t, ↓CB_f, CB_u, acode_block, acode_loop, acode_exit, acode_scope, acode_ret, acode_skip, seqQ_n, seqQ_e, seqQ_r, blockQ_n, blockQ_e, blockQ_r, TK_at, OK_at, SK_at, aops_nil, aops_cons, asch_done, asch_one, asch_two, asch_top, astep, aop_eq, isLoud, aloud, aloud1, isWrite, qv, evS, strip, gof, eget, hget, putO, eput, herase, oks, opnds, gS, afin, afin0, binD, arith, D.cells, takeD, fillD, keep, trim, envOf, Fin, aresl, aresv, resD, argOk, pickV, isP, deq, deqs, boundD, slD, lenD, isT, isSl, ptrIds, chunks, mn_min, mx_max, D.cells, splice_one, splice_more]
end Go.Proofs.Ytajimebannjofaa

set_option linter.unusedSimpArgs false
set_option linter.unusedVariables false
set_option maxRecDepth 100000
set_option maxHeartbeats 2000000
namespace Go.Proofs.Ytajimebannjofaa
open Go.RowKit
theorem del_a (xs : List (List D)) (i k z : Nat) (hi : i < xs.length) : ((xs ++ List.replicate k (anyRow z)).drop (i + 1)).take (xs.length - (i + 1)) = xs.drop (i + 1) := by
  rw [List.drop_append_of_le_length (by omega), List.take_append_of_le_length (by simp), List.take_of_length_le (by simp)]
theorem del_b (xs : List (List D)) (i k z : Nat) (hi : i < xs.length) : ∃ r, r.length = k + 1 ∧
    (xs ++ List.replicate k (anyRow z)).take i ++ xs.drop (i + 1) ++ (xs ++ List.replicate k (anyRow z)).drop (i + (xs.drop (i + 1)).length) = xs.take i ++ xs.drop (i + 1) ++ r := by
  refine ⟨(xs ++ List.replicate k (anyRow z)).drop (i + (xs.drop (i + 1)).length), by simp; omega, ?_⟩
  rw [List.take_append_of_le_length (by omega)]
theorem del_c (A r : List (List D)) (n m z : Nat) (hA : A.length = n) : (A ++ r).take n ++ List.replicate m (anyRow z) ++ (A ++ r).drop (n + (List.replicate m (anyRow z)).length) = A ++ (List.replicate m (anyRow z) ++ r.drop m) := by
  subst hA
  rw [List.take_left, List.drop_append]
  have h : A.drop (A.length + (List.replicate m (anyRow z)).length) = [] := List.drop_eq_nil_of_le (by simp)
  rw [h]
  simp
theorem tdel_code : cfun Try.prog [] 26 = some ⟨(.seq (.region 0 [⟨(some 6), (.mov (.k .nil0)), none⟩]) (.seq (.region 1 [⟨(some 8), (.mov (.t 0)), none⟩, ⟨(some 9), (.mov (.t 1)), none⟩, ⟨(some 10), (.mov (.t 2)), none⟩, ⟨(some 11), (.mov (.t 0)), none⟩, ⟨(some 12), (.len (.t 11)), none⟩, ⟨(some 13), (.slc 2 (.t 8) (some (.t 9)) (some (.t 10)) (some (.t 12))), none⟩]) (.seq (.seq (.region 2 [⟨(some 14), (.mov (.t 1)), none⟩, ⟨(some 15), (.mov (.t 2)), none⟩, ⟨(some 16), (.bin .eql (.t 14) (.t 15)), none⟩]) (.cond 16 (.seq (.region 3 [⟨(some 17), (.mov (.t 0)), none⟩, ⟨(some 6), (.mov (.t 17)), none⟩]) .ret) .skip)) (.seq (.region 4 [⟨(some 18), (.mov (.t 0)), none⟩, ⟨(some 19), (.len (.t 18)), none⟩, ⟨(some 7), (.mov (.t 19)), none⟩]) (.seq (.draw 5 (.one true ⟨(some 20), (.mov (.t 0)), none⟩ (.one true ⟨(some 21), (.mov (.t 1)), none⟩ (.one true ⟨(some 22), (.slc 2 (.t 20) none (some (.t 21)) none), none⟩ (.one true ⟨(some 23), (.mov (.t 0)), none⟩ (.one true ⟨(some 24), (.mov (.t 2)), none⟩ (.one true ⟨(some 25), (.slc 2 (.t 23) (some (.t 24)) none none), none⟩ (.one false ⟨(some 26), (.app 2 16 [(.int .i64 0), (.int .i64 0)] (.t 22) (.t 25)), none⟩ (.one true ⟨(some 0), (.mov (.t 26)), none⟩ .done))))))))) (.seq (.region 6 [⟨(some 27), (.mov (.t 0)), none⟩, ⟨(some 28), (.mov (.t 0)), none⟩, ⟨(some 29), (.len (.t 28)), none⟩, ⟨(some 30), (.mov (.t 7)), none⟩, ⟨(some 31), (.slc 2 (.t 27) (some (.t 29)) (some (.t 30)) none), none⟩, ⟨none, (.xop 10 [2] [(.t 31)]), none⟩]) (.seq (.region 7 [⟨(some 32), (.mov (.t 0)), none⟩, ⟨(some 6), (.mov (.t 32)), none⟩]) .ret))))))), [(.t 6)], 33⟩ := by kernel_rfl
theorem tdel_hf (xs : List (List D)) (i : Nat) (hi : i < xs.length) (hl : xs.length < 1000000) (hxs : ∀ r ∈ xs, r.length = 2) (hT : ∀ r ∈ xs, ∀ d ∈ r, isT d = true) :
    HF Try.prog 26 [.own 0, I i, I ((i : Int) + 1)] [(0, .row 2 xs)] 1 (fun d H' nx' => d = .own 1 ∧ H' = [(1, .row 2 (xs.take i ++ xs.drop (i + 1)))] ∧ nx' = 2) := by
  refine HF.one (fun _ => rfl) (fun _ => trivial) ?_
  refine HF.of follows_ok tdel_code (by simp) (by simp [argOk]) (by simp [LtV, LtC]) fun B hBN hB0 => acode_sound [0, 1, 2, 6, 7, 16] [5, 7] _ _ _ ?_
  have hz : ¬ ((i : Int) = i + 1) := by omega
  have h0 : xs ≠ [] := by
    rintro rfl
    simp at hi
  have p3 : (0 : Int) ≤ (i : Int) + 1 := by omega
  have hle : i + 1 ≤ xs.length := by omega
  have hle0 : i ≤ xs.length := by omega
  have hnv : ∀ {d : D}, isT d = true → d ≠ .any := fun h e => by rw [e] at h; cases h
  simp [AK_at, acode_seq, acode_region, acode_draw, acode_cond, ↓CB_t, ↓CB_f, CB_u, acode_block, acode_loop, acode_exit, acode_scope, acode_ret, acode_skip, seqQ_n, seqQ_e, seqQ_r, blockQ_n, blockQ_e, blockQ_r, TK_at, OK_at, SK_at, aops_nil, aops_cons, asch_done, asch_one, asch_two, asch_top, astep, aop_eq, isLoud, aloud, aloud1, isWrite, qv, evS, strip, gof, eget, hget, putO, eput, herase, oks, opnds, gS, afin, afin0, binD, arith, D.cells, takeD, fillD, keep, trim, envOf, Fin, aresl, aresv, resD, argOk, pickV, isP, deq, deqs, boundD, slD, lenD, isT, isSl, ptrIds, chunks, mn_min, mx_max, D.cells, splice_one, splice_more, hz, hle, p3]
  refine W.openR (t := 0) (id := 0) (sz := 2) (xs := xs) (by simp [eget]) (by simp [hget]) h0 fun k => ?_
  simp only [eput]
  refine acode_sound [0, 1, 2, 6, 7, 16] [] _ _ _ ?_
  obtain ⟨U, hU⟩ : ∃ U, U = xs ++ List.replicate k (anyRow 2) := ⟨_, rfl⟩
  have hA := del_a xs i k 2 hi
  obtain ⟨r, hr, hB⟩ := del_b xs i k 2 hi
  rw [← hU] at hA hB ⊢
  obtain ⟨V, hV⟩ : ∃ V, V = xs.take i ++ xs.drop (i + 1) := ⟨_, rfl⟩
  have hVl : V.length = xs.length - 1 := by rw [hV]; simp; omega
  rw [← hV] at hB ⊢
  have hdl : (xs.drop (i + 1)).length = xs.length - (i + 1) := by simp
  have hle2 : i ≤ xs.length + k := by omega
  simp [AK_at, acode_seq, acode_region, acode_draw, acode_cond, ↓CB_t, ↓CB_f, CB_u, acode_block, acode_loop, acode_exit, acode_scope, acode_ret, acode_skip, seqQ_n, seqQ_e, seqQ_r, blockQ_n, blockQ_e, blockQ_r, TK_at, OK_at, SK_at, aops_nil, aops_cons, asch_done, asch_one, asch_two, asch_top, astep, aop_eq, isLoud, aloud, aloud1, isWrite, qv, evS, strip, gof, eget, hget, putO, eput, herase, oks, opnds, gS, afin, afin0, binD, arith, D.cells, takeD, fillD, keep, trim, envOf, Fin, aresl, aresv, resD, argOk, pickV, isP, deq, deqs, boundD, slD, lenD, isT, isSl, ptrIds, chunks, mn_min, mx_max, D.cells, splice_one, splice_more, p3, hle, hle2, hle0]
  refine WCall.appSl (id := 0) (off := 0) (len := i) (cp := xs.length + k) (xs := U) (ys := (U.drop (i + 1)).take (xs.length - (i + 1))) (by simp [oks, opnds, gS, gof, eget]) rfl (by simp [evS, eget, strip]) (by simp [hget]) (by simp [evS, eget, strip, srcD, hget]) (by rw [hA, hdl]; omega) (fun r hr => ?_) (fun r hr d hd => ?_) ?_
  · rw [hA] at hr
    exact hxs r (List.mem_of_mem_drop hr)
  · rw [hA] at hr
    exact hnv (hT r (List.mem_of_mem_drop hr) d hd)
  rw [hA, Nat.zero_add, hB, hdl, show i + (xs.length - (i + 1)) = xs.length - 1 by omega]
  have c1 : xs.length - 1 ≤ xs.length := by omega
  have c2 : xs.length ≤ xs.length + k := by omega
  simp [AK_at, acode_seq, acode_region, acode_draw, acode_cond, ↓CB_t, ↓CB_f, CB_u, acode_block, acode_loop, acode_exit, acode_scope, acode_ret, acode_skip, seqQ_n, seqQ_e, seqQ_r, blockQ_n, blockQ_e, blockQ_r, TK_at, OK_at, SK_at, aops_nil, aops_cons, asch_done, asch_one, asch_two, asch_top, astep, aop_eq, isLoud, aloud, aloud1, isWrite, qv, evS, strip, gof, eget, hget, putO, eput, herase, oks, opnds, gS, afin, afin0, binD, arith, D.cells, takeD, fillD, keep, trim, envOf, Fin, aresl, aresv, resD, argOk, pickV, isP, deq, deqs, boundD, slD, lenD, isT, isSl, ptrIds, chunks, mn_min, mx_max, D.cells, splice_one, splice_more, c1, c2]
  have hC := del_c V r (xs.length - 1) (xs.length - (xs.length - 1)) 2 hVl
  refine XCall.clear (id := 0) (sz := 2) (off := xs.length - 1) (len := xs.length - (xs.length - 1)) (cp := xs.length + k - (xs.length - 1)) (xs := V ++ r) (by simp [oks, opnds, gS, gof, eget]) rfl (by simp [evS, eget, strip]) (by simp [hget]) ?_
  rw [hC]
  obtain ⟨W3, hW3⟩ : ∃ W3, W3 = V ++ (List.replicate (xs.length - (xs.length - 1)) (anyRow 2) ++ r.drop (xs.length - (xs.length - 1))) := ⟨_, rfl⟩
  have l3 : W3.length = xs.length + k := by rw [hW3]; simp; omega
  have t3 : W3.take (xs.length - 1) = V := by rw [hW3, ← hVl, List.take_left]
  rw [← hW3]
  simp [AK_at, acode_seq, acode_region, acode_draw, acode_cond, ↓CB_t, ↓CB_f, CB_u, acode_block, acode_loop, acode_exit, acode_scope, acode_ret, acode_skip, seqQ_n, seqQ_e, seqQ_r, blockQ_n, blockQ_e, blockQ_r, TK_at, OK_at, SK_at, aops_nil, aops_cons, asch_done, asch_one, asch_two, asch_top, astep, aop_eq, isLoud, aloud, aloud1, isWrite, qv, evS, strip, gof, eget, hget, putO, eput, herase, oks, opnds, gS, afin, afin0, binD, arith, D.cells, takeD, fillD, keep, trim, envOf, Fin, aresl, aresv, resD, argOk, pickV, isP, deq, deqs, boundD, slD, lenD, isT, isSl, ptrIds, chunks, mn_min, mx_max, D.cells, splice_one, splice_more]
  refine W.gh (Gh.closeR (t := 0) (id := 0) (sz := 2) (len := xs.length - 1) (xs := W3) (by simp [eget, l3]) (by simp [hget]) ?_) ?_
  · rw [t3, hV]
    intro r hr
    rcases List.mem_append.1 hr with hr | hr
    · exact hT r (List.mem_of_mem_take hr)
    · exact hT r (List.mem_of_mem_drop hr)
  rw [t3]
  simp only [eput, herase]
  refine acode_sound [0, 1, 2, 6, 7, 16] [] _ _ _ ?_
  simp [AK_at, acode_seq, acode_region, acode_draw, acode_cond, ↓CB_t, ↓CB_f, CB_u, acode_block, acode_loop, acode_exit, acode_scope, acode_ret, acode_skip, seqQ_n, seqQ_e, seqQ_r, blockQ_n, blockQ_e, blockQ_r, TK_at, OK_at, SK_at, aops_nil, aops_cons, asch_done, asch_one, asch_two, asch_top, astep, aop_eq, isLoud, aloud, aloud1, isWrite, qv, evS, strip, gof, eget, hget, putO, eput, herase, oks, opnds, gS, afin, afin0, binD, arith, D.cells, takeD, fillD, keep, trim, envOf, Fin, aresl, aresv, resD, argOk, pickV, isP, deq, deqs, boundD, slD, lenD, isT, isSl, ptrIds, chunks, mn_min, mx_max, D.cells, splice_one, splice_more]
end Go.Proofs.Ytajimebannjofaa

set_option linter.unusedSimpArgs false
set_option linter.unusedVariables false
namespace Go.Proofs.Ytajimebannjofaa
/-- the place of the first that fits, or -1 -/
def idxZ {α : Type} (q : α → Bool) : List α → Int
  | [] => -1
  | x :: l => if q x then 0 else if idxZ q l < 0 then -1 else idxZ q l + 1
theorem idxZ_lo {α : Type} (q : α → Bool) : ∀ l : List α, -1 ≤ idxZ q l ∧ idxZ q l < l.length
  | [] => by simp [idxZ]
  | x :: l => by
    have := idxZ_lo q l
    simp only [idxZ, List.length_cons]
    split
    · omega
    · split <;> omega
theorem idxZ_at {α : Type} (q : α → Bool) : ∀ (l : List α) (i : Nat) (h : i < l.length), (∀ j (hj : j < i), q l[j] = false) → q l[i] = true → idxZ q l = i
  | [], i, h, _, _ => by simp at h
  | x :: l, 0, h, _, hq => by
    simp only [List.getElem_cons_zero] at hq
    simp [idxZ, hq]
  | x :: l, i + 1, h, hb, hq => by
    have h0 := hb 0 (by omega)
    simp only [List.getElem_cons_zero] at h0
    have ih := idxZ_at q l i (by simpa using h) (fun j hj => by simpa using hb (j + 1) (by omega)) (by simpa using hq)
    simp only [idxZ, h0, Bool.false_eq_true, if_false, ih]
    rw [if_neg (by omega)]; omega
theorem idxZ_none {α : Type} (q : α → Bool) : ∀ (l : List α), (∀ x ∈ l, q x = false) → idxZ q l = -1
  | [], _ => rfl
  | x :: l, h => by simp [idxZ, h x (by simp), idxZ_none q l fun y hy => h y (List.mem_cons_of_mem _ hy)]
theorem idxZ_some {α : Type} (q : α → Bool) : ∀ (l : List α), (∃ x ∈ l, q x = true) → 0 ≤ idxZ q l
  | [], h => by simp at h
  | x :: l, h => by
    simp only [idxZ]
    split
    · omega
    · rename_i hx
      have : 0 ≤ idxZ q l := idxZ_some q l (by
        obtain ⟨y, hy, hq⟩ := h
        rcases List.mem_cons.1 hy with rfl | hy
        · exact absurd hq hx
        · exact ⟨y, hy, hq⟩)
      rw [if_neg (by omega)]; omega
theorem idxZ_get {α : Type} (q : α → Bool) : ∀ (l : List α) (h : 0 ≤ idxZ q l), ∃ (h2 : (idxZ q l).toNat < l.length), q l[(idxZ q l).toNat] = true ∧ ∀ j (hj : j < (idxZ q l).toNat), q (l[j]'(by omega)) = false := fun l h => by
  by_cases hx : ∃ x ∈ l, q x = true
  · obtain ⟨i, hi, hq, hb⟩ : ∃ (i : Nat) (hi : i < l.length), q l[i] = true ∧ ∀ j (hj : j < i), q (l[j]'(by omega)) = false := by
      obtain ⟨x, hx, hq⟩ := hx
      have h1 : l.findIdx q < l.length := List.findIdx_lt_length_of_exists ⟨x, hx, hq⟩
      exact ⟨l.findIdx q, h1, List.findIdx_getElem (w := h1), fun j hj => by simpa using List.not_of_lt_findIdx hj⟩
    have e := idxZ_at q l i hi hb hq
    have e2 : (idxZ q l).toNat = i := by omega
    refine ⟨by omega, ?_, fun j hj => hb j (by omega)⟩
    simp only [e2]; exact hq
  · have := idxZ_none q l fun x hm => by
      cases hqx : q x with
      | true => exact absurd ⟨x, hm, hqx⟩ hx
      | false => rfl
    omega
end Go.Proofs.Ytajimebannjofaa

set_option linter.unusedSimpArgs false
set_option linter.unusedVariables false
set_option maxRecDepth 100000
set_option maxHeartbeats 2000000
namespace Go.Proofs.Ytajimebannjofaa
open Go.RowKit
theorem brw_T (H : List (Nat × Ob)) (n : Nat) : ∀ ds : List D, (∀ d ∈ ds, isT d = true) → omap (brwC H n) ds = some ds
  | [], _ => rfl
  | d :: ds, h => by
    have h1 : brwC H n d = some d := by
      have := h d (by simp)
      cases d <;> first | (cases this; done) | (cases n <;> rfl)
    simp only [omap, h1, brw_T H n ds fun x hx => h x (List.mem_cons_of_mem _ hx)]
theorem splice_all (zs es : List D) (h : zs.length = es.length) : splice zs 0 es = es := by
  unfold splice
  rw [List.take_zero, List.nil_append, Nat.zero_add, List.drop_eq_nil_of_le (by omega), List.append_nil]
/-- elements of n cells, none of which is a reference -/
def Els {α : Type} (n : Nat) (E : α → List D) (l : List α) : Prop := ∀ x ∈ l, (E x).length = n ∧ ∀ d ∈ E x, isT d = true
theorem Els.len {α : Type} {n : Nat} {E : α → List D} {l : List α} (h : Els n E l) {x : α} (hx : x ∈ l) : (E x).length = n := (h x hx).1
theorem Els.rows {α : Type} {n : Nat} {E : α → List D} {l : List α} (h : Els n E l) : ∀ r ∈ l.map E, r.length = n := fun r hr => by
  obtain ⟨x, hx, rfl⟩ := List.mem_map.1 hr
  exact (h x hx).1
theorem Els.isT {α : Type} {n : Nat} {E : α → List D} {l : List α} (h : Els n E l) : ∀ r ∈ l.map E, ∀ d ∈ r, Go.Proofs.Ytajimebannjofaa.isT d = true := fun r hr => by
  obtain ⟨x, hx, rfl⟩ := List.mem_map.1 hr
  exact (h x hx).2
/-- how many stand ahead -/
def lowB {α : Type} (p : α → Bool) (l : List α) : Nat := (l.takeWhile p).length
theorem lowB_at {α : Type} (p : α → Bool) : ∀ (l : List α) (i : Nat), i ≤ l.length → (∀ j (hj : j < l.length), j < i → p l[j] = true) → (∀ (hi : i < l.length), p l[i] = false) → lowB p l = i
  | [], i, h, _, _ => by simp at h; subst h; rfl
  | x :: l, 0, _, _, h2 => by
    have := h2 (by simp)
    simp only [List.getElem_cons_zero] at this
    simp [lowB, List.takeWhile_cons, this]
  | x :: l, i + 1, h, h1, h2 => by
    have h0 := h1 0 (by simp) (by omega)
    simp only [List.getElem_cons_zero] at h0
    have ih := lowB_at p l i (by simpa using h) (fun j hj hji => by have := h1 (j + 1) (by simpa using hj) (by omega); rwa [List.getElem_cons_succ] at this) (fun hi => by have := h2 (by simpa using hi); rwa [List.getElem_cons_succ] at this)
    unfold lowB at ih ⊢
    rw [List.takeWhile_cons, if_pos h0, List.length_cons, ih]
theorem lowB_cons {α : Type} (p : α → Bool) (x : α) (l : List α) : lowB p (x :: l) = if p x then lowB p l + 1 else 0 := by
  unfold lowB
  rw [List.takeWhile_cons]
  split <;> simp
theorem lowB_lt {α : Type} (p : α → Bool) : ∀ (l : List α) (j : Nat) (h : j < l.length), j < lowB p l → p l[j] = true
  | [], j, h, _ => by simp at h
  | x :: l, 0, h, hj => by
    rw [lowB_cons] at hj
    split at hj
    · assumption
    · omega
  | x :: l, j + 1, h, hj => by
    rw [lowB_cons] at hj
    split at hj
    · simpa using lowB_lt p l j (by simpa using h) (by omega)
    · omega
theorem lowB_ge {α : Type} (p : α → Bool) : ∀ (l : List α) (h : lowB p l < l.length), p (l[lowB p l]'h) = false
  | [], h => by simp [lowB] at h
  | x :: l, h => by
    cases hp : p x with
    | false =>
      have e : lowB p (x :: l) = 0 := by rw [lowB_cons, hp]; rfl
      simp only [e]
      exact hp
    | true =>
      have e : lowB p (x :: l) = lowB p l + 1 := by rw [lowB_cons, hp]; rfl
      have h' : lowB p l < l.length := by rw [e] at h; simpa using h
      simp only [e]
      exact lowB_ge p l h'
theorem lowB_le {α : Type} (p : α → Bool) (l : List α) : lowB p l ≤ l.length := (List.takeWhile_sublist p).length_le
theorem tiixf_code : cfun Try.prog [] 43 = some ⟨(.seq (.region 0 [⟨(some 4), (.mov (.k (.int .i64 0))), none⟩]) (.seq (.seq (.region 1 [⟨(some 6), (.mov (.t 0)), none⟩, ⟨(some 7), (.len (.t 6)), none⟩, ⟨(some 8), (.mov (.k (.int .i64 0))), none⟩]) (.block 0 (.loop (.seq (.region 2 [⟨(some 9), (.bin .lss (.t 8) (.t 7)), none⟩]) (.seq (.cond 9 .skip (.exit 0)) (.seq (.block 1 (.seq (.region 3 [⟨(some 10), (.mov (.t 8)), none⟩, ⟨(some 5), (.mov (.t 10)), none⟩]) (.seq (.region 4 [⟨(some 11), (.mov (.t 1)), none⟩, ⟨(some 12), (.mov (.t 0)), none⟩, ⟨(some 13), (.mov (.t 5)), none⟩, ⟨(some 14), (.iads 2 (.t 12) (.t 13)), none⟩, ⟨(some 15), (.load true 2 (.t 14)), none⟩, ⟨(some 16), (.callv (.t 11) [(.t 15)]), none⟩]) (.cond 16 (.seq (.region 5 [⟨(some 17), (.mov (.t 5)), none⟩, ⟨(some 4), (.mov (.t 17)), none⟩]) .ret) .skip)))) (.region 6 [⟨(some 18), (.bin .add (.t 8) (.k (.int .i64 1))), none⟩, ⟨(some 8), (.mov (.t 18)), none⟩]))))))) (.seq (.region 7 [⟨(some 4), (.mov (.k (.int .i64 (-1)))), none⟩]) .ret))), [(.t 4)], 19⟩ := by kernel_rfl
theorem tiixf0_pf {α : Type} (E : α → List D) (l : List α) (F : FuncId) (q : α → Bool) (hl : l.length ≤ 1000000) (hE : Els 2 E l) (hF : ∀ s ∈ l, PF Try.prog F [.agg (E s)] (.bool (q s))) : PF Try.prog 43 [.rows 2 (l.map E), .fn F []] (I (idxZ q l)) := by
  refine PF.of follows_ok tiixf_code (by simp) (by simp [argOk]) (by simp [noV, noC]) fun B hBN hB0 => acode_sound [0, 1, 4, 5, 7, 8, 9, 16] [] _ _ _ ?_
  simp [AK_at, acode_seq, acode_region, acode_draw, acode_cond, ↓CB_t, ↓CB_f, CB_u, acode_block, acode_loop, acode_exit, acode_scope, acode_ret, acode_skip, seqQ_n, seqQ_e, seqQ_r, blockQ_n, blockQ_e, blockQ_r, TK_at, OK_at, SK_at, aops_nil, aops_cons, asch_done, asch_one, asch_two, asch_top, astep, aop_eq, isLoud, aloud, aloud1, isWrite, qv, evS, strip, gof, eget, hget, putO, eput, herase, oks, opnds, gS, afin, afin0, binD, arith, D.cells, takeD, fillD, keep, trim, envOf, Fin, aresl, aresv, resD, argOk, pickV, isP, deq, deqs, boundD, slD, lenD, isT, isSl, ptrIds, chunks, mn_min, mx_max, D.cells, splice_one, splice_more, Rbr_at, Rfr_at, frR, frV, frC, flatC, brwR, brwV, brwC, omap, leR, leV, leC, leL, leVL]
  refine W.loopS (fun i : Nat => ⟨[(8, I i), (7, I l.length), (4, I 0), (1, .fn F []), (0, D.rows 2 (l.map E))], [], 0⟩)
    (fun n i => n = l.length - i ∧ i ≤ l.length ∧ ∀ j (hj : j < l.length), j < i → q l[j] = false) ?_ ?_
  · exact ⟨_, 0, (Gh.ren [] (by simp [hB0]) (by simp [hB0] <;> decide) (by simp [eget, rnS, rnR, rnV, rnC, LtS, LtR, LtV, LtC, lget]) (by simp [hget, rnO, rnC, LtO, LtC, lget]) (.inr rfl)), rfl, by omega, fun j _ h => by omega⟩
  rintro n i ⟨hn, hi, hb⟩
  refine acode_sound [0, 1, 4, 5, 7, 8, 9, 16] [] _ _ _ ?_
  by_cases hlt : i < l.length
  · have hm : l[i] ∈ l := List.getElem_mem hlt
    have hE0 := hE _ hm
    have hFo := hF _ hm
    obtain ⟨o, ho⟩ : ∃ o, o = l[i] := ⟨_, rfl⟩
    rw [← ho] at hE0 hFo
    obtain ⟨h1, h2⟩ := hE0
    have h3 : (E o).take 2 = E o := List.take_of_length_le (by omega)
    have h4 := fun H n => brw_T H n (E o) h2
    have ii : InR ((i : Int) + 1) := inW (by omega) (by omega)
    simp [AK_at, acode_seq, acode_region, acode_draw, acode_cond, ↓CB_t, ↓CB_f, CB_u, acode_block, acode_loop, acode_exit, acode_scope, acode_ret, acode_skip, seqQ_n, seqQ_e, seqQ_r, blockQ_n, blockQ_e, blockQ_r, TK_at, OK_at, SK_at, aops_nil, aops_cons, asch_done, asch_one, asch_two, asch_top, astep, aop_eq, isLoud, aloud, aloud1, isWrite, qv, evS, strip, gof, eget, hget, putO, eput, herase, oks, opnds, gS, afin, afin0, binD, arith, D.cells, takeD, fillD, keep, trim, envOf, Fin, aresl, aresv, resD, argOk, pickV, isP, deq, deqs, boundD, slD, lenD, isT, isSl, ptrIds, chunks, mn_min, mx_max, D.cells, splice_one, splice_more, Rbr_at, Rfr_at, frR, frV, frC, flatC, brwR, brwV, brwC, omap, leR, leV, leC, leL, leVL, hlt, ← ho, h1, h3]
    cases hq : q o with
    | true =>
      have hz := idxZ_at q l i hlt (fun j hj => hb j (by omega) hj) (by rw [← ho]; exact hq)
      repeat' (first
        | simp [AK_at, acode_seq, acode_region, acode_draw, acode_cond, ↓CB_t, ↓CB_f, CB_u, acode_block, acode_loop, acode_exit, acode_scope, acode_ret, acode_skip, seqQ_n, seqQ_e, seqQ_r, blockQ_n, blockQ_e, blockQ_r, TK_at, OK_at, SK_at, aops_nil, aops_cons, asch_done, asch_one, asch_two, asch_top, astep, aop_eq, isLoud, aloud, aloud1, isWrite, qv, evS, strip, gof, eget, hget, putO, eput, herase, oks, opnds, gS, afin, afin0, binD, arith, D.cells, takeD, fillD, keep, trim, envOf, Fin, aresl, aresv, resD, argOk, pickV, isP, deq, deqs, boundD, slD, lenD, isT, isSl, ptrIds, chunks, mn_min, mx_max, D.cells, splice_one, splice_more, Rbr_at, Rfr_at, frR, frV, frC, flatC, brwR, brwV, brwC, omap, leR, leV, leC, leL, leVL, hq, hz, h4, leL_refl]
        | (refine WCall.pfv (hFo) ?_ rfl ?_ ?_ ?_; (focus (simp [oks, opnds, gS, gof, eget]; done)); (focus (simp [omap, brwV, brwC, evS, eget, strip, hget, leVL, leV, leC, leL, hq, hz, h4, leL_refl]; done)); (focus (simp [noV, noC, flatR, flatV, flatC, evS, eget, strip, hq, hz, h4, leL_refl]; done)))
        | (refine ⟨WCall.pfv (hFo) ?_ rfl ?_ ?_ ?_, ?_⟩; (focus (simp [oks, opnds, gS, gof, eget]; done)); (focus (simp [omap, brwV, brwC, evS, eget, strip, hget, leVL, leV, leC, leL, hq, hz, h4, leL_refl]; done)); (focus (simp [noV, noC, flatR, flatV, flatC, evS, eget, strip, hq, hz, h4, leL_refl]; done)))
        | (with_reducible refine And.intro (And.intro ?_ ?_) ?_)
        | fail)
    | false =>
      repeat' (first
        | simp [AK_at, acode_seq, acode_region, acode_draw, acode_cond, ↓CB_t, ↓CB_f, CB_u, acode_block, acode_loop, acode_exit, acode_scope, acode_ret, acode_skip, seqQ_n, seqQ_e, seqQ_r, blockQ_n, blockQ_e, blockQ_r, TK_at, OK_at, SK_at, aops_nil, aops_cons, asch_done, asch_one, asch_two, asch_top, astep, aop_eq, isLoud, aloud, aloud1, isWrite, qv, evS, strip, gof, eget, hget, putO, eput, herase, oks, opnds, gS, afin, afin0, binD, arith, D.cells, takeD, fillD, keep, trim, envOf, Fin, aresl, aresv, resD, argOk, pickV, isP, deq, deqs, boundD, slD, lenD, isT, isSl, ptrIds, chunks, mn_min, mx_max, D.cells, splice_one, splice_more, Rbr_at, Rfr_at, frR, frV, frC, flatC, brwR, brwV, brwC, omap, leR, leV, leC, leL, leVL, hq, ii, h4, leL_refl]
        | (refine WCall.pfv (hFo) ?_ rfl ?_ ?_ ?_; (focus (simp [oks, opnds, gS, gof, eget]; done)); (focus (simp [omap, brwV, brwC, evS, eget, strip, hget, leVL, leV, leC, leL, hq, ii, h4, leL_refl]; done)); (focus (simp [noV, noC, flatR, flatV, flatC, evS, eget, strip, hq, ii, h4, leL_refl]; done)))
        | (refine ⟨WCall.pfv (hFo) ?_ rfl ?_ ?_ ?_, ?_⟩; (focus (simp [oks, opnds, gS, gof, eget]; done)); (focus (simp [omap, brwV, brwC, evS, eget, strip, hget, leVL, leV, leC, leL, hq, ii, h4, leL_refl]; done)); (focus (simp [noV, noC, flatR, flatV, flatC, evS, eget, strip, hq, ii, h4, leL_refl]; done)))
        | (with_reducible refine And.intro (And.intro ?_ ?_) ?_)
        | fail)
      exact ⟨_, i + 1, (Gh.ren [] (by simp [hB0]) (by simp [hB0] <;> decide) (by simp [eget, rnS, rnR, rnV, rnC, LtS, LtR, LtV, LtC, lget]) (by simp [hget, rnO, rnC, LtO, LtC, lget]) (.inr rfl)), by omega, rfl, by omega, fun j hj h => by
        by_cases hji : j = i
        · subst hji; rw [← ho]; exact hq
        · exact hb j hj (by omega)⟩
  · have hz := idxZ_none q l fun x hx => by
      obtain ⟨j, hj⟩ := List.getElem?_of_mem hx
      obtain ⟨hj2, rfl⟩ := List.getElem?_eq_some_iff.1 hj
      exact hb j hj2 (by omega)
    have hie : i = l.length := by omega
    subst hie
    simp [AK_at, acode_seq, acode_region, acode_draw, acode_cond, ↓CB_t, ↓CB_f, CB_u, acode_block, acode_loop, acode_exit, acode_scope, acode_ret, acode_skip, seqQ_n, seqQ_e, seqQ_r, blockQ_n, blockQ_e, blockQ_r, TK_at, OK_at, SK_at, aops_nil, aops_cons, asch_done, asch_one, asch_two, asch_top, astep, aop_eq, isLoud, aloud, aloud1, isWrite, qv, evS, strip, gof, eget, hget, putO, eput, herase, oks, opnds, gS, afin, afin0, binD, arith, D.cells, takeD, fillD, keep, trim, envOf, Fin, aresl, aresv, resD, argOk, pickV, isP, deq, deqs, boundD, slD, lenD, isT, isSl, ptrIds, chunks, mn_min, mx_max, D.cells, splice_one, splice_more, Rbr_at, Rfr_at, frR, frV, frC, flatC, brwR, brwV, brwC, omap, leR, leV, leC, leL, leVL, hz]
theorem tiixf1_pf {α : Type} (E : α → List D) (l : List α) (F : FuncId) (ds : List D) (q : α → Bool) (hl : l.length ≤ 1000000) (hE : Els 2 E l) (hF : ∀ s ∈ l, PF Try.prog F [.agg (E s), .pc ds] (.bool (q s))) : PF Try.prog 43 [.rows 2 (l.map E), .fn F [.pc ds]] (I (idxZ q l)) := by
  refine PF.of follows_ok tiixf_code (by simp) (by simp [argOk]) (by simp [noV, noC]) fun B hBN hB0 => acode_sound [0, 1, 4, 5, 7, 8, 9, 16] [] _ _ _ ?_
  simp [AK_at, acode_seq, acode_region, acode_draw, acode_cond, ↓CB_t, ↓CB_f, CB_u, acode_block, acode_loop, acode_exit, acode_scope, acode_ret, acode_skip, seqQ_n, seqQ_e, seqQ_r, blockQ_n, blockQ_e, blockQ_r, TK_at, OK_at, SK_at, aops_nil, aops_cons, asch_done, asch_one, asch_two, asch_top, astep, aop_eq, isLoud, aloud, aloud1, isWrite, qv, evS, strip, gof, eget, hget, putO, eput, herase, oks, opnds, gS, afin, afin0, binD, arith, D.cells, takeD, fillD, keep, trim, envOf, Fin, aresl, aresv, resD, argOk, pickV, isP, deq, deqs, boundD, slD, lenD, isT, isSl, ptrIds, chunks, mn_min, mx_max, D.cells, splice_one, splice_more, Rbr_at, Rfr_at, frR, frV, frC, flatC, brwR, brwV, brwC, omap, leR, leV, leC, leL, leVL]
  refine W.loopS (fun i : Nat => ⟨[(8, I i), (7, I l.length), (4, I 0), (1, .fn F [.pc ds]), (0, D.rows 2 (l.map E))], [], 0⟩)
    (fun n i => n = l.length - i ∧ i ≤ l.length ∧ ∀ j (hj : j < l.length), j < i → q l[j] = false) ?_ ?_
  · exact ⟨_, 0, (Gh.ren [] (by simp [hB0]) (by simp [hB0] <;> decide) (by simp [eget, rnS, rnR, rnV, rnC, LtS, LtR, LtV, LtC, lget]) (by simp [hget, rnO, rnC, LtO, LtC, lget]) (.inr rfl)), rfl, by omega, fun j _ h => by omega⟩
  rintro n i ⟨hn, hi, hb⟩
  refine acode_sound [0, 1, 4, 5, 7, 8, 9, 16] [] _ _ _ ?_
  by_cases hlt : i < l.length
  · have hm : l[i] ∈ l := List.getElem_mem hlt
    have hE0 := hE _ hm
    have hFo := hF _ hm
    obtain ⟨o, ho⟩ : ∃ o, o = l[i] := ⟨_, rfl⟩
    rw [← ho] at hE0 hFo
    obtain ⟨h1, h2⟩ := hE0
    have h3 : (E o).take 2 = E o := List.take_of_length_le (by omega)
    have h4 := fun H n => brw_T H n (E o) h2
    have ii : InR ((i : Int) + 1) := inW (by omega) (by omega)
    simp [AK_at, acode_seq, acode_region, acode_draw, acode_cond, ↓CB_t, ↓CB_f, CB_u, acode_block, acode_loop, acode_exit, acode_scope, acode_ret, acode_skip, seqQ_n, seqQ_e, seqQ_r, blockQ_n, blockQ_e, blockQ_r, TK_at, OK_at, SK_at, aops_nil, aops_cons, asch_done, asch_one, asch_two, asch_top, astep, aop_eq, isLoud, aloud, aloud1, isWrite, qv, evS, strip, gof, eget, hget, putO, eput, herase, oks, opnds, gS, afin, afin0, binD, arith, D.cells, takeD, fillD, keep, trim, envOf, Fin, aresl, aresv, resD, argOk, pickV, isP, deq, deqs, boundD, slD, lenD, isT, isSl, ptrIds, chunks, mn_min, mx_max, D.cells, splice_one, splice_more, Rbr_at, Rfr_at, frR, frV, frC, flatC, brwR, brwV, brwC, omap, leR, leV, leC, leL, leVL, hlt, ← ho, h1, h3]
    cases hq : q o with
    | true =>
      have hz := idxZ_at q l i hlt (fun j hj => hb j (by omega) hj) (by rw [← ho]; exact hq)
      repeat' (first
        | simp [AK_at, acode_seq, acode_region, acode_draw, acode_cond, ↓CB_t, ↓CB_f, CB_u, acode_block, acode_loop, acode_exit, acode_scope, acode_ret, acode_skip, seqQ_n, seqQ_e, seqQ_r, blockQ_n, blockQ_e, blockQ_r, TK_at, OK_at, SK_at, aops_nil, aops_cons, asch_done, asch_one, asch_two, asch_top, astep, aop_eq, isLoud, aloud, aloud1, isWrite, qv, evS, strip, gof, eget, hget, putO, eput, herase, oks, opnds, gS, afin, afin0, binD, arith, D.cells, takeD, fillD, keep, trim, envOf, Fin, aresl, aresv, resD, argOk, pickV, isP, deq, deqs, boundD, slD, lenD, isT, isSl, ptrIds, chunks, mn_min, mx_max, D.cells, splice_one, splice_more, Rbr_at, Rfr_at, frR, frV, frC, flatC, brwR, brwV, brwC, omap, leR, leV, leC, leL, leVL, hq, hz, h4, leL_refl]
        | (refine WCall.pfv (hFo) ?_ rfl ?_ ?_ ?_; (focus (simp [oks, opnds, gS, gof, eget]; done)); (focus (simp [omap, brwV, brwC, evS, eget, strip, hget, leVL, leV, leC, leL, hq, hz, h4, leL_refl]; done)); (focus (simp [noV, noC, flatR, flatV, flatC, evS, eget, strip, hq, hz, h4, leL_refl]; done)))
        | (refine ⟨WCall.pfv (hFo) ?_ rfl ?_ ?_ ?_, ?_⟩; (focus (simp [oks, opnds, gS, gof, eget]; done)); (focus (simp [omap, brwV, brwC, evS, eget, strip, hget, leVL, leV, leC, leL, hq, hz, h4, leL_refl]; done)); (focus (simp [noV, noC, flatR, flatV, flatC, evS, eget, strip, hq, hz, h4, leL_refl]; done)))
        | (with_reducible refine And.intro (And.intro ?_ ?_) ?_)
        | fail)
    | false =>
      repeat' (first
        | simp [AK_at, acode_seq, acode_region, acode_draw, acode_cond, ↓CB_t, ↓CB_f, CB_u, acode_block, acode_loop, acode_exit, acode_scope, acode_ret, acode_skip, seqQ_n, seqQ_e, seqQ_r, blockQ_n, blockQ_e, blockQ_r, TK_at, OK_at, SK_at, aops_nil, aops_cons, asch_done, asch_one, asch_two, asch_top, astep, aop_eq, isLoud, aloud, aloud1, isWrite, qv, evS, strip, gof, eget, hget, putO, eput, herase, oks, opnds, gS, afin, afin0, binD, arith, D.cells, takeD, fillD, keep, trim, envOf, Fin, aresl, aresv, resD, argOk, pickV, isP, deq, deqs, boundD, slD, lenD, isT, isSl, ptrIds, chunks, mn_min, mx_max, D.cells, splice_one, splice_more, Rbr_at, Rfr_at, frR, frV, frC, flatC, brwR, brwV, brwC, omap, leR, leV, leC, leL, leVL, hq, ii, h4, leL_refl]
        | (refine WCall.pfv (hFo) ?_ rfl ?_ ?_ ?_; (focus (simp [oks, opnds, gS, gof, eget]; done)); (focus (simp [omap, brwV, brwC, evS, eget, strip, hget, leVL, leV, leC, leL, hq, ii, h4, leL_refl]; done)); (focus (simp [noV, noC, flatR, flatV, flatC, evS, eget, strip, hq, ii, h4, leL_refl]; done)))
        | (refine ⟨WCall.pfv (hFo) ?_ rfl ?_ ?_ ?_, ?_⟩; (focus (simp [oks, opnds, gS, gof, eget]; done)); (focus (simp [omap, brwV, brwC, evS, eget, strip, hget, leVL, leV, leC, leL, hq, ii, h4, leL_refl]; done)); (focus (simp [noV, noC, flatR, flatV, flatC, evS, eget, strip, hq, ii, h4, leL_refl]; done)))
        | (with_reducible refine And.intro (And.intro ?_ ?_) ?_)
        | fail)
      exact ⟨_, i + 1, (Gh.ren [] (by simp [hB0]) (by simp [hB0] <;> decide) (by simp [eget, rnS, rnR, rnV, rnC, LtS, LtR, LtV, LtC, lget]) (by simp [hget, rnO, rnC, LtO, LtC, lget]) (.inr rfl)), by omega, rfl, by omega, fun j hj h => by
        by_cases hji : j = i
        · subst hji; rw [← ho]; exact hq
        · exact hb j hj (by omega)⟩
  · have hz := idxZ_none q l fun x hx => by
      obtain ⟨j, hj⟩ := List.getElem?_of_mem hx
      obtain ⟨hj2, rfl⟩ := List.getElem?_eq_some_iff.1 hj
      exact hb j hj2 (by omega)
    have hie : i = l.length := by omega
    subst hie
    simp [AK_at, acode_seq, acode_region, acode_draw, acode_cond, ↓CB_t, ↓CB_f, CB_u, acode_block, acode_loop, acode_exit, acode_scope, acode_ret, acode_skip, seqQ_n, seqQ_e, seqQ_r, blockQ_n, blockQ_e, blockQ_r, TK_at, OK_at, SK_at, aops_nil, aops_cons, asch_done, asch_one, asch_two, asch_top, astep, aop_eq, isLoud, aloud, aloud1, isWrite, qv, evS, strip, gof, eget, hget, putO, eput, herase, oks, opnds, gS, afin, afin0, binD, arith, D.cells, takeD, fillD, keep, trim, envOf, Fin, aresl, aresv, resD, argOk, pickV, isP, deq, deqs, boundD, slD, lenD, isT, isSl, ptrIds, chunks, mn_min, mx_max, D.cells, splice_one, splice_more, Rbr_at, Rfr_at, frR, frV, frC, flatC, brwR, brwV, brwC, omap, leR, leV, leC, leL, leVL, hz]
theorem ticln_code : cfun Try.prog [] 42 = some ⟨(.seq (.region 0 [⟨(some 2), (.mov (.k .nil0)), none⟩]) (.seq (.seq (.region 1 [⟨(some 3), (.mov (.t 0)), none⟩, ⟨(some 4), (.isnil false (.t 3)), none⟩]) (.cond 4 (.seq (.region 2 [⟨(some 2), (.mov (.k .nil0)), none⟩]) .ret) .skip)) (.seq (.region 3 [⟨(some 5), (.bslice 2 0 [(.int .i64 0), (.int .i64 0)] []), none⟩, ⟨(some 6), (.mov (.t 0)), none⟩, ⟨(some 7), (.app 2 16 [(.int .i64 0), (.int .i64 0)] (.t 5) (.t 6)), none⟩, ⟨(some 2), (.mov (.t 7)), none⟩]) .ret))), [(.t 2)], 8⟩ := by kernel_rfl
theorem ticln_hf {α : Type} (E : α → List D) (l : List α) (hl : l.length < 1000000) (hE : Els 2 E l) : HF Try.prog 42 [.rows 2 (l.map E)] [] 0 (fun d H' nx' => (d = .nil0 ∧ l = [] ∧ H' = [] ∧ nx' = 0) ∨ (d = .own 1 ∧ H' = [(1, .row 2 (l.map E))] ∧ nx' = 2)) := by
  have h2 : l.length * 16 ≤ 140737488355328 := by omega
  have h3 := hE.rows
  refine HF.of follows_ok ticln_code (by simp) (by simp [argOk]) (by simp [LtV, LtC]) fun B hBN hB0 => acode_sound [0, 2, 4] [] _ _ _ ?_
  simp [AK_at, acode_seq, acode_region, acode_draw, acode_cond, ↓CB_t, ↓CB_f, CB_u, acode_block, acode_loop, acode_exit, acode_scope, acode_ret, acode_skip, seqQ_n, seqQ_e, seqQ_r, blockQ_n, blockQ_e, blockQ_r, TK_at, OK_at, SK_at, aops_nil, aops_cons, asch_done, asch_one, asch_two, asch_top, astep, aop_eq, isLoud, aloud, aloud1, isWrite, qv, evS, strip, gof, eget, hget, putO, eput, herase, oks, opnds, gS, afin, afin0, binD, arith, D.cells, takeD, fillD, keep, trim, envOf, Fin, aresl, aresv, resD, argOk, pickV, isP, deq, deqs, boundD, slD, lenD, isT, isSl, ptrIds, chunks, mn_min, mx_max, D.cells, splice_one, splice_more, Rbr_at, Rfr_at, frR, frV, frC, flatC, brwR, brwV, brwC, omap, leR, leV, leC, leL, leVL, h2]
  exact fun a ha => hE.len ha
theorem ticln_pfn {α : Type} (E : α → List D) (l : List α) (hl : l.length < 1000000) (hE : Els 2 E l) (hfl : ∀ x ∈ l, ∀ d ∈ E x, flatC d = true) : PFn Try.prog 42 [.rows 2 (l.map E)] (.rows 2 (l.map E)) := by
  have h2 : l.length * 16 ≤ 140737488355328 := by omega
  refine PFn.of follows_ok ticln_code (by simp) (by simp [argOk]) (by simp [noV, noC]) fun B hBN hB0 => acode_sound [0, 2, 4] [] _ _ _ ?_
  simp [AK_at, acode_seq, acode_region, acode_draw, acode_cond, ↓CB_t, ↓CB_f, CB_u, acode_block, acode_loop, acode_exit, acode_scope, acode_ret, acode_skip, seqQ_n, seqQ_e, seqQ_r, blockQ_n, blockQ_e, blockQ_r, TK_at, OK_at, SK_at, aops_nil, aops_cons, asch_done, asch_one, asch_two, asch_top, astep, aop_eq, isLoud, aloud, aloud1, isWrite, qv, evS, strip, gof, eget, hget, putO, eput, herase, oks, opnds, gS, afin, afin0, binD, arith, D.cells, takeD, fillD, keep, trim, envOf, Fin, aresl, aresv, resD, argOk, pickV, isP, deq, deqs, boundD, slD, lenD, isT, isSl, ptrIds, chunks, mn_min, mx_max, D.cells, splice_one, splice_more, Rbr_at, Rfr_at, frR, frV, frC, flatC, brwR, brwV, brwC, omap, leR, leV, leC, leL, leVL, h2]
  exact ⟨fun a ha => hE.len ha, fun a ha d hd => hfl a ha d hd⟩
theorem spixf_code : cfun Try.prog [] 56 = some ⟨(.seq (.region 0 [⟨(some 4), (.mov (.k (.int .i64 0))), none⟩]) (.seq (.seq (.region 1 [⟨(some 6), (.mov (.t 0)), none⟩, ⟨(some 7), (.len (.t 6)), none⟩, ⟨(some 8), (.mov (.k (.int .i64 0))), none⟩]) (.block 0 (.loop (.seq (.region 2 [⟨(some 9), (.bin .lss (.t 8) (.t 7)), none⟩]) (.seq (.cond 9 .skip (.exit 0)) (.seq (.block 1 (.seq (.region 3 [⟨(some 10), (.mov (.t 8)), none⟩, ⟨(some 5), (.mov (.t 10)), none⟩]) (.seq (.region 4 [⟨(some 11), (.mov (.t 1)), none⟩, ⟨(some 12), (.mov (.t 0)), none⟩, ⟨(some 13), (.mov (.t 5)), none⟩, ⟨(some 14), (.iads 2 (.t 12) (.t 13)), none⟩, ⟨(some 15), (.load true 2 (.t 14)), none⟩, ⟨(some 16), (.callv (.t 11) [(.t 15)]), none⟩]) (.cond 16 (.seq (.region 5 [⟨(some 17), (.mov (.t 5)), none⟩, ⟨(some 4), (.mov (.t 17)), none⟩]) .ret) .skip)))) (.region 6 [⟨(some 18), (.bin .add (.t 8) (.k (.int .i64 1))), none⟩, ⟨(some 8), (.mov (.t 18)), none⟩]))))))) (.seq (.region 7 [⟨(some 4), (.mov (.k (.int .i64 (-1)))), none⟩]) .ret))), [(.t 4)], 19⟩ := by kernel_rfl
theorem spixf0_pf {α : Type} (E : α → List D) (l : List α) (F : FuncId) (q : α → Bool) (hl : l.length ≤ 1000000) (hE : Els 2 E l) (hF : ∀ s ∈ l, PF Try.prog F [.agg (E s)] (.bool (q s))) : PF Try.prog 56 [.rows 2 (l.map E), .fn F []] (I (idxZ q l)) := by
  refine PF.of follows_ok spixf_code (by simp) (by simp [argOk]) (by simp [noV, noC]) fun B hBN hB0 => acode_sound [0, 1, 4, 5, 7, 8, 9, 16] [] _ _ _ ?_
  simp [AK_at, acode_seq, acode_region, acode_draw, acode_cond, ↓CB_t, ↓CB_f, CB_u, acode_block, acode_loop, acode_exit, acode_scope, acode_ret, acode_skip, seqQ_n, seqQ_e, seqQ_r, blockQ_n, blockQ_e, blockQ_r, TK_at, OK_at, SK_at, aops_nil, aops_cons, asch_done, asch_one, asch_two, asch_top, astep, aop_eq, isLoud, aloud, aloud1, isWrite, qv, evS, strip, gof, eget, hget, putO, eput, herase, oks, opnds, gS, afin, afin0, binD, arith, D.cells, takeD, fillD, keep, trim, envOf, Fin, aresl, aresv, resD, argOk, pickV, isP, deq, deqs, boundD, slD, lenD, isT, isSl, ptrIds, chunks, mn_min, mx_max, D.cells, splice_one, splice_more, Rbr_at, Rfr_at, frR, frV, frC, flatC, brwR, brwV, brwC, omap, leR, leV, leC, leL, leVL]
  refine W.loopS (fun i : Nat => ⟨[(8, I i), (7, I l.length), (4, I 0), (1, .fn F []), (0, D.rows 2 (l.map E))], [], 0⟩)
    (fun n i => n = l.length - i ∧ i ≤ l.length ∧ ∀ j (hj : j < l.length), j < i → q l[j] = false) ?_ ?_
  · exact ⟨_, 0, (Gh.ren [] (by simp [hB0]) (by simp [hB0] <;> decide) (by simp [eget, rnS, rnR, rnV, rnC, LtS, LtR, LtV, LtC, lget]) (by simp [hget, rnO, rnC, LtO, LtC, lget]) (.inr rfl)), rfl, by omega, fun j _ h => by omega⟩
  rintro n i ⟨hn, hi, hb⟩
  refine acode_sound [0, 1, 4, 5, 7, 8, 9, 16] [] _ _ _ ?_
  by_cases hlt : i < l.length
  · have hm : l[i] ∈ l := List.getElem_mem hlt
    have hE0 := hE _ hm
    have hFo := hF _ hm
    obtain ⟨o, ho⟩ : ∃ o, o = l[i] := ⟨_, rfl⟩
    rw [← ho] at hE0 hFo
    obtain ⟨h1, h2⟩ := hE0
    have h3 : (E o).take 2 = E o := List.take_of_length_le (by omega)
    have h4 := fun H n => brw_T H n (E o) h2
    have ii : InR ((i : Int) + 1) := inW (by omega) (by omega)
    simp [AK_at, acode_seq, acode_region, acode_draw, acode_cond, ↓CB_t, ↓CB_f, CB_u, acode_block, acode_loop, acode_exit, acode_scope, acode_ret, acode_skip, seqQ_n, seqQ_e, seqQ_r, blockQ_n, blockQ_e, blockQ_r, TK_at, OK_at, SK_at, aops_nil, aops_cons, asch_done, asch_one, asch_two, asch_top, astep, aop_eq, isLoud, aloud, aloud1, isWrite, qv, evS, strip, gof, eget, hget, putO, eput, herase, oks, opnds, gS, afin, afin0, binD, arith, D.cells, takeD, fillD, keep, trim, envOf, Fin, aresl, aresv, resD, argOk, pickV, isP, deq, deqs, boundD, slD, lenD, isT, isSl, ptrIds, chunks, mn_min, mx_max, D.cells, splice_one, splice_more, Rbr_at, Rfr_at, frR, frV, frC, flatC, brwR, brwV, brwC, omap, leR, leV, leC, leL, leVL, hlt, ← ho, h1, h3]
    cases hq : q o with
    | true =>
      have hz := idxZ_at q l i hlt (fun j hj => hb j (by omega) hj) (by rw [← ho]; exact hq)
      repeat' (first
        | simp [AK_at, acode_seq, acode_region, acode_draw, acode_cond, ↓CB_t, ↓CB_f, CB_u, acode_block, acode_loop, acode_exit, acode_scope, acode_ret, acode_skip, seqQ_n, seqQ_e, seqQ_r, blockQ_n, blockQ_e, blockQ_r, TK_at, OK_at, SK_at, aops_nil, aops_cons, asch_done, asch_one, asch_two, asch_top, astep, aop_eq, isLoud, aloud, aloud1, isWrite, qv, evS, strip, gof, eget, hget, putO, eput, herase, oks, opnds, gS, afin, afin0, binD, arith, D.cells, takeD, fillD, keep, trim, envOf, Fin, aresl, aresv, resD, argOk, pickV, isP, deq, deqs, boundD, slD, lenD, isT, isSl, ptrIds, chunks, mn_min, mx_max, D.cells, splice_one, splice_more, Rbr_at, Rfr_at, frR, frV, frC, flatC, brwR, brwV, brwC, omap, leR, leV, leC, leL, leVL, hq, hz, h4, leL_refl]
        | (refine WCall.pfv (hFo) ?_ rfl ?_ ?_ ?_; (focus (simp [oks, opnds, gS, gof, eget]; done)); (focus (simp [omap, brwV, brwC, evS, eget, strip, hget, leVL, leV, leC, leL, hq, hz, h4, leL_refl]; done)); (focus (simp [noV, noC, flatR, flatV, flatC, evS, eget, strip, hq, hz, h4, leL_refl]; done)))
        | (refine ⟨WCall.pfv (hFo) ?_ rfl ?_ ?_ ?_, ?_⟩; (focus (simp [oks, opnds, gS, gof, eget]; done)); (focus (simp [omap, brwV, brwC, evS, eget, strip, hget, leVL, leV, leC, leL, hq, hz, h4, leL_refl]; done)); (focus (simp [noV, noC, flatR, flatV, flatC, evS, eget, strip, hq, hz, h4, leL_refl]; done)))
        | (with_reducible refine And.intro (And.intro ?_ ?_) ?_)
        | fail)
    | false =>
      repeat' (first
        | simp [AK_at, acode_seq, acode_region, acode_draw, acode_cond, ↓CB_t, ↓CB_f, CB_u, acode_block, acode_loop, acode_exit, acode_scope, acode_ret, acode_skip, seqQ_n, seqQ_e, seqQ_r, blockQ_n, blockQ_e, blockQ_r, TK_at, OK_at, SK_at, aops_nil, aops_cons, asch_done, asch_one, asch_two, asch_top, astep, aop_eq, isLoud, aloud, aloud1, isWrite, qv, evS, strip, gof, eget, hget, putO, eput, herase, oks, opnds, gS, afin, afin0, binD, arith, D.cells, takeD, fillD, keep, trim, envOf, Fin, aresl, aresv, resD, argOk, pickV, isP, deq, deqs, boundD, slD, lenD, isT, isSl, ptrIds, chunks, mn_min, mx_max, D.cells, splice_one, splice_more, Rbr_at, Rfr_at, frR, frV, frC, flatC, brwR, brwV, brwC, omap, leR, leV, leC, leL, leVL, hq, ii, h4, leL_refl]
        | (refine WCall.pfv (hFo) ?_ rfl ?_ ?_ ?_; (focus (simp [oks, opnds, gS, gof, eget]; done)); (focus (simp [omap, brwV, brwC, evS, eget, strip, hget, leVL, leV, leC, leL, hq, ii, h4, leL_refl]; done)); (focus (simp [noV, noC, flatR, flatV, flatC, evS, eget, strip, hq, ii, h4, leL_refl]; done)))
        | (refine ⟨WCall.pfv (hFo) ?_ rfl ?_ ?_ ?_, ?_⟩; (focus (simp [oks, opnds, gS, gof, eget]; done)); (focus (simp [omap, brwV, brwC, evS, eget, strip, hget, leVL, leV, leC, leL, hq, ii, h4, leL_refl]; done)); (focus (simp [noV, noC, flatR, flatV, flatC, evS, eget, strip, hq, ii, h4, leL_refl]; done)))
        | (with_reducible refine And.intro (And.intro ?_ ?_) ?_)
        | fail)
      exact ⟨_, i + 1, (Gh.ren [] (by simp [hB0]) (by simp [hB0] <;> decide) (by simp [eget, rnS, rnR, rnV, rnC, LtS, LtR, LtV, LtC, lget]) (by simp [hget, rnO, rnC, LtO, LtC, lget]) (.inr rfl)), by omega, rfl, by omega, fun j hj h => by
        by_cases hji : j = i
        · subst hji; rw [← ho]; exact hq
        · exact hb j hj (by omega)⟩
  · have hz := idxZ_none q l fun x hx => by
      obtain ⟨j, hj⟩ := List.getElem?_of_mem hx
      obtain ⟨hj2, rfl⟩ := List.getElem?_eq_some_iff.1 hj
      exact hb j hj2 (by omega)
    have hie : i = l.length := by omega
    subst hie
    simp [AK_at, acode_seq, acode_region, acode_draw, acode_cond, ↓CB_t, ↓CB_f, CB_u, acode_block, acode_loop, acode_exit, acode_scope, acode_ret, acode_skip, seqQ_n, seqQ_e, seqQ_r, blockQ_n, blockQ_e, blockQ_r, TK_at, OK_at, SK_at, aops_nil, aops_cons, asch_done, asch_one, asch_two, asch_top, astep, aop_eq, isLoud, aloud, aloud1, isWrite, qv, evS, strip, gof, eget, hget, putO, eput, herase, oks, opnds, gS, afin, afin0, binD, arith, D.cells, takeD, fillD, keep, trim, envOf, Fin, aresl, aresv, resD, argOk, pickV, isP, deq, deqs, boundD, slD, lenD, isT, isSl, ptrIds, chunks, mn_min, mx_max, D.cells, splice_one, splice_more, Rbr_at, Rfr_at, frR, frV, frC, flatC, brwR, brwV, brwC, omap, leR, leV, leC, leL, leVL, hz]
theorem spixf1_pf {α : Type} (E : α → List D) (l : List α) (F : FuncId) (ds : List D) (q : α → Bool) (hl : l.length ≤ 1000000) (hE : Els 2 E l) (hF : ∀ s ∈ l, PF Try.prog F [.agg (E s), .pc ds] (.bool (q s))) : PF Try.prog 56 [.rows 2 (l.map E), .fn F [.pc ds]] (I (idxZ q l)) := by
  refine PF.of follows_ok spixf_code (by simp) (by simp [argOk]) (by simp [noV, noC]) fun B hBN hB0 => acode_sound [0, 1, 4, 5, 7, 8, 9, 16] [] _ _ _ ?_
  simp [AK_at, acode_seq, acode_region, acode_draw, acode_cond, ↓CB_t, ↓CB_f, CB_u, acode_block, acode_loop, acode_exit, acode_scope, acode_ret, acode_skip, seqQ_n, seqQ_e, seqQ_r, blockQ_n, blockQ_e, blockQ_r, TK_at, OK_at, SK_at, aops_nil, aops_cons, asch_done, asch_one, asch_two, asch_top, astep, aop_eq, isLoud, aloud, aloud1, isWrite, qv, evS, strip, gof, eget, hget, putO, eput, herase, oks, opnds, gS, afin, afin0, binD, arith, D.cells, takeD, fillD, keep, trim, envOf, Fin, aresl, aresv, resD, argOk, pickV, isP, deq, deqs, boundD, slD, lenD, isT, isSl, ptrIds, chunks, mn_min, mx_max, D.cells, splice_one, splice_more, Rbr_at, Rfr_at, frR, frV, frC, flatC, brwR, brwV, brwC, omap, leR, leV, leC, leL, leVL]
  refine W.loopS (fun i : Nat => ⟨[(8, I i), (7, I l.length), (4, I 0), (1, .fn F [.pc ds]), (0, D.rows 2 (l.map E))], [], 0⟩)
    (fun n i => n = l.length - i ∧ i ≤ l.length ∧ ∀ j (hj : j < l.length), j < i → q l[j] = false) ?_ ?_
  · exact ⟨_, 0, (Gh.ren [] (by simp [hB0]) (by simp [hB0] <;> decide) (by simp [eget, rnS, rnR, rnV, rnC, LtS, LtR, LtV, LtC, lget]) (by simp [hget, rnO, rnC, LtO, LtC, lget]) (.inr rfl)), rfl, by omega, fun j _ h => by omega⟩
  rintro n i ⟨hn, hi, hb⟩
  refine acode_sound [0, 1, 4, 5, 7, 8, 9, 16] [] _ _ _ ?_
  by_cases hlt : i < l.length
  · have hm : l[i] ∈ l := List.getElem_mem hlt
    have hE0 := hE _ hm
    have hFo := hF _ hm
    obtain ⟨o, ho⟩ : ∃ o, o = l[i] := ⟨_, rfl⟩
    rw [← ho] at hE0 hFo
    obtain ⟨h1, h2⟩ := hE0
    have h3 : (E o).take 2 = E o := List.take_of_length_le (by omega)
    have h4 := fun H n => brw_T H n (E o) h2
    have ii : InR ((i : Int) + 1) := inW (by omega) (by omega)
    simp [AK_at, acode_seq, acode_region, acode_draw, acode_cond, ↓CB_t, ↓CB_f, CB_u, acode_block, acode_loop, acode_exit, acode_scope, acode_ret, acode_skip, seqQ_n, seqQ_e, seqQ_r, blockQ_n, blockQ_e, blockQ_r, TK_at, OK_at, SK_at, aops_nil, aops_cons, asch_done, asch_one, asch_two, asch_top, astep, aop_eq, isLoud, aloud, aloud1, isWrite, qv, evS, strip, gof, eget, hget, putO, eput, herase, oks, opnds, gS, afin, afin0, binD, arith, D.cells, takeD, fillD, keep, trim, envOf, Fin, aresl, aresv, resD, argOk, pickV, isP, deq, deqs, boundD, slD, lenD, isT, isSl, ptrIds, chunks, mn_min, mx_max, D.cells, splice_one, splice_more, Rbr_at, Rfr_at, frR, frV, frC, flatC, brwR, brwV, brwC, omap, leR, leV, leC, leL, leVL, hlt, ← ho, h1, h3]
    cases hq : q o with
    | true =>
      have hz := idxZ_at q l i hlt (fun j hj => hb j (by omega) hj) (by rw [← ho]; exact hq)
      repeat' (first
        | simp [AK_at, acode_seq, acode_region, acode_draw, acode_cond, ↓CB_t, ↓CB_f, CB_u, acode_block, acode_loop, acode_exit, acode_scope, acode_ret, acode_skip, seqQ_n, seqQ_e, seqQ_r, blockQ_n, blockQ_e, blockQ_r, TK_at, OK_at, SK_at, aops_nil, aops_cons, asch_done, asch_one, asch_two, asch_top, astep, aop_eq, isLoud, aloud, aloud1, isWrite, qv, evS, strip, gof, eget, hget, putO, eput, herase, oks, opnds, gS, afin, afin0, binD, arith, D.cells, takeD, fillD, keep, trim, envOf, Fin, aresl, aresv, resD, argOk, pickV, isP, deq, deqs, boundD, slD, lenD, isT, isSl, ptrIds, chunks, mn_min, mx_max, D.cells, splice_one, splice_more, Rbr_at, Rfr_at, frR, frV, frC, flatC, brwR, brwV, brwC, omap, leR, leV, leC, leL, leVL, hq, hz, h4, leL_refl]
        | (refine WCall.pfv (hFo) ?_ rfl ?_ ?_ ?_; (focus (simp [oks, opnds, gS, gof, eget]; done)); (focus (simp [omap, brwV, brwC, evS, eget, strip, hget, leVL, leV, leC, leL, hq, hz, h4, leL_refl]; done)); (focus (simp [noV, noC, flatR, flatV, flatC, evS, eget, strip, hq, hz, h4, leL_refl]; done)))
        | (refine ⟨WCall.pfv (hFo) ?_ rfl ?_ ?_ ?_, ?_⟩; (focus (simp [oks, opnds, gS, gof, eget]; done)); (focus (simp [omap, brwV, brwC, evS, eget, strip, hget, leVL, leV, leC, leL, hq, hz, h4, leL_refl]; done)); (focus (simp [noV, noC, flatR, flatV, flatC, evS, eget, strip, hq, hz, h4, leL_refl]; done)))
        | (with_reducible refine And.intro (And.intro ?_ ?_) ?_)
        | fail)
    | false =>
      repeat' (first
        | simp [AK_at, acode_seq, acode_region, acode_draw, acode_cond, ↓CB_t, ↓CB_f, CB_u, acode_block, acode_loop, acode_exit, acode_scope, acode_ret, acode_skip, seqQ_n, seqQ_e, seqQ_r, blockQ_n, blockQ_e, blockQ_r, TK_at, OK_at, SK_at, aops_nil, aops_cons, asch_done, asch_one, asch_two, asch_top, astep, aop_eq, isLoud, aloud, aloud1, isWrite, qv, evS, strip, gof, eget, hget, putO, eput, herase, oks, opnds, gS, afin, afin0, binD, arith, D.cells, takeD, fillD, keep, trim, envOf, Fin, aresl, aresv, resD, argOk, pickV, isP, deq, deqs, boundD, slD, lenD, isT, isSl, ptrIds, chunks, mn_min, mx_max, D.cells, splice_one, splice_more, Rbr_at, Rfr_at, frR, frV, frC, flatC, brwR, brwV, brwC, omap, leR, leV, leC, leL, leVL, hq, ii, h4, leL_refl]
        | (refine WCall.pfv (hFo) ?_ rfl ?_ ?_ ?_; (focus (simp [oks, opnds, gS, gof, eget]; done)); (focus (simp [omap, brwV, brwC, evS, eget, strip, hget, leVL, leV, leC, leL, hq, ii, h4, leL_refl]; done)); (focus (simp [noV, noC, flatR, flatV, flatC, evS, eget, strip, hq, ii, h4, leL_refl]; done)))
        | (refine ⟨WCall.pfv (hFo) ?_ rfl ?_ ?_ ?_, ?_⟩; (focus (simp [oks, opnds, gS, gof, eget]; done)); (focus (simp [omap, brwV, brwC, evS, eget, strip, hget, leVL, leV, leC, leL, hq, ii, h4, leL_refl]; done)); (focus (simp [noV, noC, flatR, flatV, flatC, evS, eget, strip, hq, ii, h4, leL_refl]; done)))
        | (with_reducible refine And.intro (And.intro ?_ ?_) ?_)
        | fail)
      exact ⟨_, i + 1, (Gh.ren [] (by simp [hB0]) (by simp [hB0] <;> decide) (by simp [eget, rnS, rnR, rnV, rnC, LtS, LtR, LtV, LtC, lget]) (by simp [hget, rnO, rnC, LtO, LtC, lget]) (.inr rfl)), by omega, rfl, by omega, fun j hj h => by
        by_cases hji : j = i
        · subst hji; rw [← ho]; exact hq
        · exact hb j hj (by omega)⟩
  · have hz := idxZ_none q l fun x hx => by
      obtain ⟨j, hj⟩ := List.getElem?_of_mem hx
      obtain ⟨hj2, rfl⟩ := List.getElem?_eq_some_iff.1 hj
      exact hb j hj2 (by omega)
    have hie : i = l.length := by omega
    subst hie
    simp [AK_at, acode_seq, acode_region, acode_draw, acode_cond, ↓CB_t, ↓CB_f, CB_u, acode_block, acode_loop, acode_exit, acode_scope, acode_ret, acode_skip, seqQ_n, seqQ_e, seqQ_r, blockQ_n, blockQ_e, blockQ_r, TK_at, OK_at, SK_at, aops_nil, aops_cons, asch_done, asch_one, asch_two, asch_top, astep, aop_eq, isLoud, aloud, aloud1, isWrite, qv, evS, strip, gof, eget, hget, putO, eput, herase, oks, opnds, gS, afin, afin0, binD, arith, D.cells, takeD, fillD, keep, trim, envOf, Fin, aresl, aresv, resD, argOk, pickV, isP, deq, deqs, boundD, slD, lenD, isT, isSl, ptrIds, chunks, mn_min, mx_max, D.cells, splice_one, splice_more, Rbr_at, Rfr_at, frR, frV, frC, flatC, brwR, brwV, brwC, omap, leR, leV, leC, leL, leVL, hz]
theorem spcln_code : cfun Try.prog [] 33 = some ⟨(.seq (.region 0 [⟨(some 2), (.mov (.k .nil0)), none⟩]) (.seq (.seq (.region 1 [⟨(some 3), (.mov (.t 0)), none⟩, ⟨(some 4), (.isnil false (.t 3)), none⟩]) (.cond 4 (.seq (.region 2 [⟨(some 2), (.mov (.k .nil0)), none⟩]) .ret) .skip)) (.seq (.region 3 [⟨(some 5), (.bslice 2 0 [(.int .i64 0), (.int .i64 0)] []), none⟩, ⟨(some 6), (.mov (.t 0)), none⟩, ⟨(some 7), (.app 2 16 [(.int .i64 0), (.int .i64 0)] (.t 5) (.t 6)), none⟩, ⟨(some 2), (.mov (.t 7)), none⟩]) .ret))), [(.t 2)], 8⟩ := by kernel_rfl
theorem spcln_hf {α : Type} (E : α → List D) (l : List α) (hl : l.length < 1000000) (hE : Els 2 E l) : HF Try.prog 33 [.rows 2 (l.map E)] [] 0 (fun d H' nx' => (d = .nil0 ∧ l = [] ∧ H' = [] ∧ nx' = 0) ∨ (d = .own 1 ∧ H' = [(1, .row 2 (l.map E))] ∧ nx' = 2)) := by
  have h2 : l.length * 16 ≤ 140737488355328 := by omega
  have h3 := hE.rows
  refine HF.of follows_ok spcln_code (by simp) (by simp [argOk]) (by simp [LtV, LtC]) fun B hBN hB0 => acode_sound [0, 2, 4] [] _ _ _ ?_
  simp [AK_at, acode_seq, acode_region, acode_draw, acode_cond, ↓CB_t, ↓CB_f, CB_u, acode_block, acode_loop, acode_exit, acode_scope, acode_ret, acode_skip, seqQ_n, seqQ_e, seqQ_r, blockQ_n, blockQ_e, blockQ_r, TK_at, OK_at, SK_at, aops_nil, aops_cons, asch_done, asch_one, asch_two, asch_top, astep, aop_eq, isLoud, aloud, aloud1, isWrite, qv, evS, strip, gof, eget, hget, putO, eput, herase, oks, opnds, gS, afin, afin0, binD, arith, D.cells, takeD, fillD, keep, trim, envOf, Fin, aresl, aresv, resD, argOk, pickV, isP, deq, deqs, boundD, slD, lenD, isT, isSl, ptrIds, chunks, mn_min, mx_max, D.cells, splice_one, splice_more, Rbr_at, Rfr_at, frR, frV, frC, flatC, brwR, brwV, brwC, omap, leR, leV, leC, leL, leVL, h2]
  exact fun a ha => hE.len ha
theorem spcln_pfn {α : Type} (E : α → List D) (l : List α) (hl : l.length < 1000000) (hE : Els 2 E l) (hfl : ∀ x ∈ l, ∀ d ∈ E x, flatC d = true) : PFn Try.prog 33 [.rows 2 (l.map E)] (.rows 2 (l.map E)) := by
  have h2 : l.length * 16 ≤ 140737488355328 := by omega
  refine PFn.of follows_ok spcln_code (by simp) (by simp [argOk]) (by simp [noV, noC]) fun B hBN hB0 => acode_sound [0, 2, 4] [] _ _ _ ?_
  simp [AK_at, acode_seq, acode_region, acode_draw, acode_cond, ↓CB_t, ↓CB_f, CB_u, acode_block, acode_loop, acode_exit, acode_scope, acode_ret, acode_skip, seqQ_n, seqQ_e, seqQ_r, blockQ_n, blockQ_e, blockQ_r, TK_at, OK_at, SK_at, aops_nil, aops_cons, asch_done, asch_one, asch_two, asch_top, astep, aop_eq, isLoud, aloud, aloud1, isWrite, qv, evS, strip, gof, eget, hget, putO, eput, herase, oks, opnds, gS, afin, afin0, binD, arith, D.cells, takeD, fillD, keep, trim, envOf, Fin, aresl, aresv, resD, argOk, pickV, isP, deq, deqs, boundD, slD, lenD, isT, isSl, ptrIds, chunks, mn_min, mx_max, D.cells, splice_one, splice_more, Rbr_at, Rfr_at, frR, frV, frC, flatC, brwR, brwV, brwC, omap, leR, leV, leC, leL, leVL, h2]
  exact ⟨fun a ha => hE.len ha, fun a ha d hd => hfl a ha d hd⟩
theorem tibsf_code : cfun Try.prog [] 45 = some ⟨(.seq (.region 0 [⟨(some 4), (.box (.t 1)), none⟩, ⟨(some 6), (.mov (.k (.int .i64 0))), none⟩, ⟨(some 7), (.mov (.k (.bool false))), none⟩]) (.seq (.region 1 [⟨(some 12), (.mov (.t 0)), none⟩, ⟨(some 13), (.len (.t 12)), none⟩, ⟨(some 8), (.mov (.t 13)), none⟩]) (.seq (.region 2 [⟨(some 14), (.mov (.t 8)), none⟩, ⟨(some 9), (.mov (.k (.int .i64 0))), none⟩, ⟨(some 10), (.mov (.t 14)), none⟩]) (.seq (.block 0 (.loop (.seq (.seq (.region 3 [⟨(some 15), (.mov (.t 9)), none⟩, ⟨(some 16), (.mov (.t 10)), none⟩, ⟨(some 17), (.bin .lss (.t 15) (.t 16)), none⟩]) (.cond 17 .skip (.exit 0))) (.block 1 (.seq (.region 4 [⟨(some 18), (.mov (.t 9)), none⟩, ⟨(some 19), (.mov (.t 10)), none⟩, ⟨(some 20), (.bin .add (.t 18) (.t 19)), none⟩, ⟨(some 21), (.conv .u64 (.t 20)), none⟩, ⟨(some 22), (.bin .shr (.t 21) (.k (.int .u64 1))), none⟩, ⟨(some 23), (.conv .i64 (.t 22)), none⟩, ⟨(some 11), (.mov (.t 23)), none⟩]) (.seq (.draw 5 (.one true ⟨(some 24), (.mov (.t 2)), none⟩ (.one true ⟨(some 25), (.mov (.t 0)), none⟩ (.one true ⟨(some 26), (.mov (.t 11)), none⟩ (.one true ⟨(some 27), (.iads 2 (.t 25) (.t 26)), none⟩ (.one true ⟨(some 28), (.load true 2 (.t 27)), none⟩ (.one true ⟨(some 29), (.load true 2 (.t 4)), none⟩ (.one false ⟨(some 30), (.callv (.t 24) [(.t 28), (.t 29)]), none⟩ (.one true ⟨(some 31), (.bin .lss (.t 30) (.k (.int .i64 0))), none⟩ .done))))))))) (.cond 31 (.region 6 [⟨(some 32), (.mov (.t 11)), none⟩, ⟨(some 33), (.bin .add (.t 32) (.k (.int .i64 1))), none⟩, ⟨(some 9), (.mov (.t 33)), none⟩]) (.region 7 [⟨(some 34), (.mov (.t 11)), none⟩, ⟨(some 10), (.mov (.t 34)), none⟩])))))))) (.seq (.draw 8 (.one true ⟨(some 35), (.mov (.t 9)), none⟩ (.one true ⟨(some 36), (.mov (.t 9)), none⟩ (.one true ⟨(some 37), (.mov (.t 8)), none⟩ (.one true ⟨(some 38), (.bin .lss (.t 36) (.t 37)), none⟩ (.one true ⟨(some 39), (.mov (.t 38)), none⟩ (.one true ⟨(some 40), (.mov (.t 2)), (some (39, true))⟩ (.one true ⟨(some 41), (.mov (.t 0)), (some (39, true))⟩ (.one true ⟨(some 42), (.mov (.t 9)), (some (39, true))⟩ (.one true ⟨(some 43), (.iads 2 (.t 41) (.t 42)), (some (39, true))⟩ (.one true ⟨(some 44), (.load true 2 (.t 43)), (some (39, true))⟩ (.one true ⟨(some 45), (.load true 2 (.t 4)), (some (39, true))⟩ (.one false ⟨(some 46), (.callv (.t 40) [(.t 44), (.t 45)]), (some (39, true))⟩ (.one true ⟨(some 47), (.bin .eql (.t 46) (.k (.int .i64 0))), (some (39, true))⟩ (.one true ⟨(some 48), (.pick (.t 39) (.t 47) (.k (.bool false))), none⟩ (.one true ⟨(some 6), (.mov (.t 35)), none⟩ (.one true ⟨(some 7), (.mov (.t 48)), none⟩ .done))))))))))))))))) .ret))))), [(.t 6), (.t 7)], 49⟩ := by kernel_rfl
theorem tibsf_pf {α : Type} (E : α → List D) (l : List α) (F : FuncId) (a b : Int) (cf : α → Int) (hl : l.length ≤ 1000000) (hE : Els 2 E l) (hF : ∀ s ∈ l, PF Try.prog F [.agg (E s), .agg [I a, I b]] (I (cf s)))
    (hmono : ∀ i j (hi : i < l.length) (hj : j < l.length), i ≤ j → cf l[j] < 0 → cf l[i] < 0) :
    PF Try.prog 45 [.rows 2 (l.map E), .agg [I a, I b], .fn F []] (.tup [I (lowB (fun x => decide (cf x < 0)) l), .bool (decide (∃ (h : lowB (fun x => decide (cf x < 0)) l < l.length), cf (l[lowB (fun x => decide (cf x < 0)) l]'h) = 0))]) := by
  have hp : (2 : Int) ^ min 1 IntKind.u64.bits = 2 := by decide
  refine PF.of follows_ok tibsf_code (by simp) (by simp [argOk]) (by simp [noV, noC]) fun B hBN hB0 => acode_sound [0, 1, 2, 4, 6, 7, 8, 9, 10, 11, 17, 31] [] _ _ _ ?_
  simp [AK_at, acode_seq, acode_region, acode_draw, acode_cond, ↓CB_t, ↓CB_f, CB_u, acode_block, acode_loop, acode_exit, acode_scope, acode_ret, acode_skip, seqQ_n, seqQ_e, seqQ_r, blockQ_n, blockQ_e, blockQ_r, TK_at, OK_at, SK_at, aops_nil, aops_cons, asch_done, asch_one, asch_two, asch_top, astep, aop_eq, isLoud, aloud, aloud1, isWrite, qv, evS, strip, gof, eget, hget, putO, eput, herase, oks, opnds, gS, afin, afin0, binD, arith, D.cells, takeD, fillD, keep, trim, envOf, Fin, aresl, aresv, resD, argOk, pickV, isP, deq, deqs, boundD, slD, lenD, isT, isSl, ptrIds, chunks, mn_min, mx_max, D.cells, splice_one, splice_more, Rbr_at, Rfr_at, frR, frV, frC, flatC, brwR, brwV, brwC, omap, leR, leV, leC, leL, leVL]
  refine W.loopS (fun y : Nat × Nat => ⟨[(10, I y.2), (9, I y.1), (8, I l.length), (7, .bool false), (6, I 0), (4, .ptr 0 0), (2, .fn F []), (0, D.rows 2 (l.map E))], [(0, .cells [I a, I b])], 1⟩)
    (fun n y => n = y.2 - y.1 ∧ y.1 ≤ y.2 ∧ y.2 ≤ l.length ∧ (∀ j (hj : j < l.length), j < y.1 → cf l[j] < 0) ∧ (∀ j (hj : j < l.length), y.2 ≤ j → 0 ≤ cf l[j])) ?_ ?_
  · exact ⟨_, (0, l.length), (Gh.ren [] (by simp [hB0]) (by simp [hB0] <;> decide) (by simp [eget, rnS, rnR, rnV, rnC, LtS, LtR, LtV, LtC, lget]) (by simp [hget, rnO, rnC, LtO, LtC, lget]) (.inr rfl)), rfl, by simp, by simp, fun j _ h => by simp at h, fun j hj h => by simp at h; omega⟩
  rintro n ⟨i, j⟩ ⟨hn, hij, hjl, hlo, hhi⟩
  simp only at hn hij hjl hlo hhi
  refine acode_sound [0, 1, 2, 4, 6, 7, 8, 9, 10, 11, 17, 31] [] _ _ _ ?_
  by_cases hlt : i < j
  · obtain ⟨h, hh⟩ : ∃ h, h = (i + j) / 2 := ⟨_, rfl⟩
    have hhl : h < l.length := by omega
    have hm : l[h] ∈ l := List.getElem_mem hhl
    have hE0 := hE _ hm
    have hFo := hF _ hm
    obtain ⟨o, ho⟩ : ∃ o, o = l[h] := ⟨_, rfl⟩
    rw [← ho] at hE0 hFo
    obtain ⟨h1, h2⟩ := hE0
    have h3 : (E o).take 2 = E o := List.take_of_length_le (by omega)
    have h4 := fun H n => brw_T H n (E o) h2
    have iij : InR ((i : Int) + j) := inW (by omega) (by omega)
    have hw1 : IntKind.u64.wrap ((i : Int) + j) = (i : Int) + j := by rw [IntKind.wrap_u64]; omega
    have hd : ((i : Int) + j) / 2 = (h : Nat) := by omega
    have ih : InR (h : Int) := inW (by omega) (by omega)
    have ii : InR ((h : Int) + 1) := inW (by omega) (by omega)
    have hol : cf l[h] = cf o := by rw [← ho]
    by_cases hc : cf o < 0
    · skip
      repeat' (first
        | simp [AK_at, acode_seq, acode_region, acode_draw, acode_cond, ↓CB_t, ↓CB_f, CB_u, acode_block, acode_loop, acode_exit, acode_scope, acode_ret, acode_skip, seqQ_n, seqQ_e, seqQ_r, blockQ_n, blockQ_e, blockQ_r, TK_at, OK_at, SK_at, aops_nil, aops_cons, asch_done, asch_one, asch_two, asch_top, astep, aop_eq, isLoud, aloud, aloud1, isWrite, qv, evS, strip, gof, eget, hget, putO, eput, herase, oks, opnds, gS, afin, afin0, binD, arith, D.cells, takeD, fillD, keep, trim, envOf, Fin, aresl, aresv, resD, argOk, pickV, isP, deq, deqs, boundD, slD, lenD, isT, isSl, ptrIds, chunks, mn_min, mx_max, D.cells, splice_one, splice_more, Rbr_at, Rfr_at, frR, frV, frC, flatC, brwR, brwV, brwC, omap, leR, leV, leC, leL, leVL, hlt, iij, hw1, hd, ih, ← ho, h1, h3, h4, hp, hhl, leL_refl, hc, ii]
        | (refine WCall.pfv (hFo) ?_ rfl ?_ ?_ ?_; (focus (simp [oks, opnds, gS, gof, eget]; done)); (focus (simp [omap, brwV, brwC, evS, eget, strip, hget, leVL, leV, leC, leL, hlt, iij, hw1, hd, ih, ← ho, h1, h3, h4, hp, hhl, leL_refl, hc, ii]; done)); (focus (simp [noV, noC, flatR, flatV, flatC, evS, eget, strip, hlt, iij, hw1, hd, ih, ← ho, h1, h3, h4, hp, hhl, leL_refl, hc, ii]; done)))
        | (refine ⟨WCall.pfv (hFo) ?_ rfl ?_ ?_ ?_, ?_⟩; (focus (simp [oks, opnds, gS, gof, eget]; done)); (focus (simp [omap, brwV, brwC, evS, eget, strip, hget, leVL, leV, leC, leL, hlt, iij, hw1, hd, ih, ← ho, h1, h3, h4, hp, hhl, leL_refl, hc, ii]; done)); (focus (simp [noV, noC, flatR, flatV, flatC, evS, eget, strip, hlt, iij, hw1, hd, ih, ← ho, h1, h3, h4, hp, hhl, leL_refl, hc, ii]; done)))
        | (with_reducible refine And.intro (And.intro ?_ ?_) ?_)
        | fail)
      exact ⟨_, (h + 1, j), (Gh.ren [] (by simp [hB0]) (by simp [hB0] <;> decide) (by simp [eget, rnS, rnR, rnV, rnC, LtS, LtR, LtV, LtC, lget]) (by simp [hget, rnO, rnC, LtO, LtC, lget]) (.inr rfl)), by simp only; omega, rfl, by simp only; omega, by simp only; omega, fun k hk hkh => by
        simp only at hkh
        exact hmono k h hk hhl (by omega) (by rw [hol]; exact hc), hhi⟩
    · skip
      repeat' (first
        | simp [AK_at, acode_seq, acode_region, acode_draw, acode_cond, ↓CB_t, ↓CB_f, CB_u, acode_block, acode_loop, acode_exit, acode_scope, acode_ret, acode_skip, seqQ_n, seqQ_e, seqQ_r, blockQ_n, blockQ_e, blockQ_r, TK_at, OK_at, SK_at, aops_nil, aops_cons, asch_done, asch_one, asch_two, asch_top, astep, aop_eq, isLoud, aloud, aloud1, isWrite, qv, evS, strip, gof, eget, hget, putO, eput, herase, oks, opnds, gS, afin, afin0, binD, arith, D.cells, takeD, fillD, keep, trim, envOf, Fin, aresl, aresv, resD, argOk, pickV, isP, deq, deqs, boundD, slD, lenD, isT, isSl, ptrIds, chunks, mn_min, mx_max, D.cells, splice_one, splice_more, Rbr_at, Rfr_at, frR, frV, frC, flatC, brwR, brwV, brwC, omap, leR, leV, leC, leL, leVL, hlt, iij, hw1, hd, ih, ← ho, h1, h3, h4, hp, hhl, leL_refl, hc, ii]
        | (refine WCall.pfv (hFo) ?_ rfl ?_ ?_ ?_; (focus (simp [oks, opnds, gS, gof, eget]; done)); (focus (simp [omap, brwV, brwC, evS, eget, strip, hget, leVL, leV, leC, leL, hlt, iij, hw1, hd, ih, ← ho, h1, h3, h4, hp, hhl, leL_refl, hc, ii]; done)); (focus (simp [noV, noC, flatR, flatV, flatC, evS, eget, strip, hlt, iij, hw1, hd, ih, ← ho, h1, h3, h4, hp, hhl, leL_refl, hc, ii]; done)))
        | (refine ⟨WCall.pfv (hFo) ?_ rfl ?_ ?_ ?_, ?_⟩; (focus (simp [oks, opnds, gS, gof, eget]; done)); (focus (simp [omap, brwV, brwC, evS, eget, strip, hget, leVL, leV, leC, leL, hlt, iij, hw1, hd, ih, ← ho, h1, h3, h4, hp, hhl, leL_refl, hc, ii]; done)); (focus (simp [noV, noC, flatR, flatV, flatC, evS, eget, strip, hlt, iij, hw1, hd, ih, ← ho, h1, h3, h4, hp, hhl, leL_refl, hc, ii]; done)))
        | (with_reducible refine And.intro (And.intro ?_ ?_) ?_)
        | fail)
      exact ⟨_, (i, h), (Gh.ren [] (by simp [hB0]) (by simp [hB0] <;> decide) (by simp [eget, rnS, rnR, rnV, rnC, LtS, LtR, LtV, LtC, lget]) (by simp [hget, rnO, rnC, LtO, LtC, lget]) (.inr rfl)), by simp only; omega, rfl, by simp only; omega, by simp only; omega, hlo, fun k hk hkh => by
        simp only at hkh
        exact Int.not_lt.1 fun hck => hc (by rw [← hol]; exact hmono h k hhl hk hkh hck)⟩
  · obtain rfl : i = j := by omega
    have hlb := lowB_at (fun x => decide (cf x < 0)) l i hjl (fun j hj hji => by simpa using hlo j hj hji) (fun hi => by simpa using hhi i hi (Nat.le_refl _))
    by_cases hil : i < l.length
    · have hm : l[i] ∈ l := List.getElem_mem hil
      have hE0 := hE _ hm
      have hFo := hF _ hm
      obtain ⟨o, ho⟩ : ∃ o, o = l[i] := ⟨_, rfl⟩
      have hol : cf l[i] = cf o := by rw [← ho]
      rw [← ho] at hE0 hFo
      obtain ⟨h1, h2⟩ := hE0
      have h3 : (E o).take 2 = E o := List.take_of_length_le (by omega)
      have h4 := fun H n => brw_T H n (E o) h2
      simp only [hlb]
      repeat' (first
        | simp [AK_at, acode_seq, acode_region, acode_draw, acode_cond, ↓CB_t, ↓CB_f, CB_u, acode_block, acode_loop, acode_exit, acode_scope, acode_ret, acode_skip, seqQ_n, seqQ_e, seqQ_r, blockQ_n, blockQ_e, blockQ_r, TK_at, OK_at, SK_at, aops_nil, aops_cons, asch_done, asch_one, asch_two, asch_top, astep, aop_eq, isLoud, aloud, aloud1, isWrite, qv, evS, strip, gof, eget, hget, putO, eput, herase, oks, opnds, gS, afin, afin0, binD, arith, D.cells, takeD, fillD, keep, trim, envOf, Fin, aresl, aresv, resD, argOk, pickV, isP, deq, deqs, boundD, slD, lenD, isT, isSl, ptrIds, chunks, mn_min, mx_max, D.cells, splice_one, splice_more, Rbr_at, Rfr_at, frR, frV, frC, flatC, brwR, brwV, brwC, omap, leR, leV, leC, leL, leVL, hil, ← ho, h1, h3, h4, leL_refl]
        | (refine WCall.pfv (hFo) ?_ rfl ?_ ?_ ?_; (focus (simp [oks, opnds, gS, gof, eget]; done)); (focus (simp [omap, brwV, brwC, evS, eget, strip, hget, leVL, leV, leC, leL, hil, ← ho, h1, h3, h4, leL_refl]; done)); (focus (simp [noV, noC, flatR, flatV, flatC, evS, eget, strip, hil, ← ho, h1, h3, h4, leL_refl]; done)))
        | (refine ⟨WCall.pfv (hFo) ?_ rfl ?_ ?_ ?_, ?_⟩; (focus (simp [oks, opnds, gS, gof, eget]; done)); (focus (simp [omap, brwV, brwC, evS, eget, strip, hget, leVL, leV, leC, leL, hil, ← ho, h1, h3, h4, leL_refl]; done)); (focus (simp [noV, noC, flatR, flatV, flatC, evS, eget, strip, hil, ← ho, h1, h3, h4, leL_refl]; done)))
        | (with_reducible refine And.intro (And.intro ?_ ?_) ?_)
        | fail)
    · simp only [hlb]
      simp [AK_at, acode_seq, acode_region, acode_draw, acode_cond, ↓CB_t, ↓CB_f, CB_u, acode_block, acode_loop, acode_exit, acode_scope, acode_ret, acode_skip, seqQ_n, seqQ_e, seqQ_r, blockQ_n, blockQ_e, blockQ_r, TK_at, OK_at, SK_at, aops_nil, aops_cons, asch_done, asch_one, asch_two, asch_top, astep, aop_eq, isLoud, aloud, aloud1, isWrite, qv, evS, strip, gof, eget, hget, putO, eput, herase, oks, opnds, gS, afin, afin0, binD, arith, D.cells, takeD, fillD, keep, trim, envOf, Fin, aresl, aresv, resD, argOk, pickV, isP, deq, deqs, boundD, slD, lenD, isT, isSl, ptrIds, chunks, mn_min, mx_max, D.cells, splice_one, splice_more, Rbr_at, Rfr_at, frR, frV, frC, flatC, brwR, brwV, brwC, omap, leR, leV, leC, leL, leVL, hil]
theorem spbsf_code : cfun Try.prog [] 49 = some ⟨(.seq (.region 0 [⟨(some 4), (.box (.t 1)), none⟩, ⟨(some 6), (.mov (.k (.int .i64 0))), none⟩, ⟨(some 7), (.mov (.k (.bool false))), none⟩]) (.seq (.region 1 [⟨(some 12), (.mov (.t 0)), none⟩, ⟨(some 13), (.len (.t 12)), none⟩, ⟨(some 8), (.mov (.t 13)), none⟩]) (.seq (.region 2 [⟨(some 14), (.mov (.t 8)), none⟩, ⟨(some 9), (.mov (.k (.int .i64 0))), none⟩, ⟨(some 10), (.mov (.t 14)), none⟩]) (.seq (.block 0 (.loop (.seq (.seq (.region 3 [⟨(some 15), (.mov (.t 9)), none⟩, ⟨(some 16), (.mov (.t 10)), none⟩, ⟨(some 17), (.bin .lss (.t 15) (.t 16)), none⟩]) (.cond 17 .skip (.exit 0))) (.block 1 (.seq (.region 4 [⟨(some 18), (.mov (.t 9)), none⟩, ⟨(some 19), (.mov (.t 10)), none⟩, ⟨(some 20), (.bin .add (.t 18) (.t 19)), none⟩, ⟨(some 21), (.conv .u64 (.t 20)), none⟩, ⟨(some 22), (.bin .shr (.t 21) (.k (.int .u64 1))), none⟩, ⟨(some 23), (.conv .i64 (.t 22)), none⟩, ⟨(some 11), (.mov (.t 23)), none⟩]) (.seq (.draw 5 (.one true ⟨(some 24), (.mov (.t 2)), none⟩ (.one true ⟨(some 25), (.mov (.t 0)), none⟩ (.one true ⟨(some 26), (.mov (.t 11)), none⟩ (.one true ⟨(some 27), (.iads 2 (.t 25) (.t 26)), none⟩ (.one true ⟨(some 28), (.load true 2 (.t 27)), none⟩ (.one true ⟨(some 29), (.load true 2 (.t 4)), none⟩ (.one false ⟨(some 30), (.callv (.t 24) [(.t 28), (.t 29)]), none⟩ (.one true ⟨(some 31), (.bin .lss (.t 30) (.k (.int .i64 0))), none⟩ .done))))))))) (.cond 31 (.region 6 [⟨(some 32), (.mov (.t 11)), none⟩, ⟨(some 33), (.bin .add (.t 32) (.k (.int .i64 1))), none⟩, ⟨(some 9), (.mov (.t 33)), none⟩]) (.region 7 [⟨(some 34), (.mov (.t 11)), none⟩, ⟨(some 10), (.mov (.t 34)), none⟩])))))))) (.seq (.draw 8 (.one true ⟨(some 35), (.mov (.t 9)), none⟩ (.one true ⟨(some 36), (.mov (.t 9)), none⟩ (.one true ⟨(some 37), (.mov (.t 8)), none⟩ (.one true ⟨(some 38), (.bin .lss (.t 36) (.t 37)), none⟩ (.one true ⟨(some 39), (.mov (.t 38)), none⟩ (.one true ⟨(some 40), (.mov (.t 2)), (some (39, true))⟩ (.one true ⟨(some 41), (.mov (.t 0)), (some (39, true))⟩ (.one true ⟨(some 42), (.mov (.t 9)), (some (39, true))⟩ (.one true ⟨(some 43), (.iads 2 (.t 41) (.t 42)), (some (39, true))⟩ (.one true ⟨(some 44), (.load true 2 (.t 43)), (some (39, true))⟩ (.one true ⟨(some 45), (.load true 2 (.t 4)), (some (39, true))⟩ (.one false ⟨(some 46), (.callv (.t 40) [(.t 44), (.t 45)]), (some (39, true))⟩ (.one true ⟨(some 47), (.bin .eql (.t 46) (.k (.int .i64 0))), (some (39, true))⟩ (.one true ⟨(some 48), (.pick (.t 39) (.t 47) (.k (.bool false))), none⟩ (.one true ⟨(some 6), (.mov (.t 35)), none⟩ (.one true ⟨(some 7), (.mov (.t 48)), none⟩ .done))))))))))))))))) .ret))))), [(.t 6), (.t 7)], 49⟩ := by kernel_rfl
theorem spbsf_pf {α : Type} (E : α → List D) (l : List α) (F : FuncId) (a b : Int) (cf : α → Int) (hl : l.length ≤ 1000000) (hE : Els 2 E l) (hF : ∀ s ∈ l, PF Try.prog F [.agg (E s), .agg [I a, I b]] (I (cf s)))
    (hmono : ∀ i j (hi : i < l.length) (hj : j < l.length), i ≤ j → cf l[j] < 0 → cf l[i] < 0) :
    PF Try.prog 49 [.rows 2 (l.map E), .agg [I a, I b], .fn F []] (.tup [I (lowB (fun x => decide (cf x < 0)) l), .bool (decide (∃ (h : lowB (fun x => decide (cf x < 0)) l < l.length), cf (l[lowB (fun x => decide (cf x < 0)) l]'h) = 0))]) := by
  have hp : (2 : Int) ^ min 1 IntKind.u64.bits = 2 := by decide
  refine PF.of follows_ok spbsf_code (by simp) (by simp [argOk]) (by simp [noV, noC]) fun B hBN hB0 => acode_sound [0, 1, 2, 4, 6, 7, 8, 9, 10, 11, 17, 31] [] _ _ _ ?_
  simp [AK_at, acode_seq, acode_region, acode_draw, acode_cond, ↓CB_t, ↓CB_f, CB_u, acode_block, acode_loop, acode_exit, acode_scope, acode_ret, acode_skip, seqQ_n, seqQ_e, seqQ_r, blockQ_n, blockQ_e, blockQ_r, TK_at, OK_at, SK_at, aops_nil, aops_cons, asch_done, asch_one, asch_two, asch_top, astep, aop_eq, isLoud, aloud, aloud1, isWrite, qv, evS, strip, gof, eget, hget, putO, eput, herase, oks, opnds, gS, afin, afin0, binD, arith, D.cells, takeD, fillD, keep, trim, envOf, Fin, aresl, aresv, resD, argOk, pickV, isP, deq, deqs, boundD, slD, lenD, isT, isSl, ptrIds, chunks, mn_min, mx_max, D.cells, splice_one, splice_more, Rbr_at, Rfr_at, frR, frV, frC, flatC, brwR, brwV, brwC, omap, leR, leV, leC, leL, leVL]
  refine W.loopS (fun y : Nat × Nat => ⟨[(10, I y.2), (9, I y.1), (8, I l.length), (7, .bool false), (6, I 0), (4, .ptr 0 0), (2, .fn F []), (0, D.rows 2 (l.map E))], [(0, .cells [I a, I b])], 1⟩)
    (fun n y => n = y.2 - y.1 ∧ y.1 ≤ y.2 ∧ y.2 ≤ l.length ∧ (∀ j (hj : j < l.length), j < y.1 → cf l[j] < 0) ∧ (∀ j (hj : j < l.length), y.2 ≤ j → 0 ≤ cf l[j])) ?_ ?_
  · exact ⟨_, (0, l.length), (Gh.ren [] (by simp [hB0]) (by simp [hB0] <;> decide) (by simp [eget, rnS, rnR, rnV, rnC, LtS, LtR, LtV, LtC, lget]) (by simp [hget, rnO, rnC, LtO, LtC, lget]) (.inr rfl)), rfl, by simp, by simp, fun j _ h => by simp at h, fun j hj h => by simp at h; omega⟩
  rintro n ⟨i, j⟩ ⟨hn, hij, hjl, hlo, hhi⟩
  simp only at hn hij hjl hlo hhi
  refine acode_sound [0, 1, 2, 4, 6, 7, 8, 9, 10, 11, 17, 31] [] _ _ _ ?_
  by_cases hlt : i < j
  · obtain ⟨h, hh⟩ : ∃ h, h = (i + j) / 2 := ⟨_, rfl⟩
    have hhl : h < l.length := by omega
    have hm : l[h] ∈ l := List.getElem_mem hhl
    have hE0 := hE _ hm
    have hFo := hF _ hm
    obtain ⟨o, ho⟩ : ∃ o, o = l[h] := ⟨_, rfl⟩
    rw [← ho] at hE0 hFo
    obtain ⟨h1, h2⟩ := hE0
    have h3 : (E o).take 2 = E o := List.take_of_length_le (by omega)
    have h4 := fun H n => brw_T H n (E o) h2
    have iij : InR ((i : Int) + j) := inW (by omega) (by omega)
    have hw1 : IntKind.u64.wrap ((i : Int) + j) = (i : Int) + j := by rw [IntKind.wrap_u64]; omega
    have hd : ((i : Int) + j) / 2 = (h : Nat) := by omega
    have ih : InR (h : Int) := inW (by omega) (by omega)
    have ii : InR ((h : Int) + 1) := inW (by omega) (by omega)
    have hol : cf l[h] = cf o := by rw [← ho]
    by_cases hc : cf o < 0
    · skip
      repeat' (first
        | simp [AK_at, acode_seq, acode_region, acode_draw, acode_cond, ↓CB_t, ↓CB_f, CB_u, acode_block, acode_loop, acode_exit, acode_scope, acode_ret, acode_skip, seqQ_n, seqQ_e, seqQ_r, blockQ_n, blockQ_e, blockQ_r, TK_at, OK_at, SK_at, aops_nil, aops_cons, asch_done, asch_one, asch_two, asch_top, astep, aop_eq, isLoud, aloud, aloud1, isWrite, qv, evS, strip, gof, eget, hget, putO, eput, herase, oks, opnds, gS, afin, afin0, binD, arith, D.cells, takeD, fillD, keep, trim, envOf, Fin, aresl, aresv, resD, argOk, pickV, isP, deq, deqs, boundD, slD, lenD, isT, isSl, ptrIds, chunks, mn_min, mx_max, D.cells, splice_one, splice_more, Rbr_at, Rfr_at, frR, frV, frC, flatC, brwR, brwV, brwC, omap, leR, leV, leC, leL, leVL, hlt, iij, hw1, hd, ih, ← ho, h1, h3, h4, hp, hhl, leL_refl, hc, ii]
        | (refine WCall.pfv (hFo) ?_ rfl ?_ ?_ ?_; (focus (simp [oks, opnds, gS, gof, eget]; done)); (focus (simp [omap, brwV, brwC, evS, eget, strip, hget, leVL, leV, leC, leL, hlt, iij, hw1, hd, ih, ← ho, h1, h3, h4, hp, hhl, leL_refl, hc, ii]; done)); (focus (simp [noV, noC, flatR, flatV, flatC, evS, eget, strip, hlt, iij, hw1, hd, ih, ← ho, h1, h3, h4, hp, hhl, leL_refl, hc, ii]; done)))
        | (refine ⟨WCall.pfv (hFo) ?_ rfl ?_ ?_ ?_, ?_⟩; (focus (simp [oks, opnds, gS, gof, eget]; done)); (focus (simp [omap, brwV, brwC, evS, eget, strip, hget, leVL, leV, leC, leL, hlt, iij, hw1, hd, ih, ← ho, h1, h3, h4, hp, hhl, leL_refl, hc, ii]; done)); (focus (simp [noV, noC, flatR, flatV, flatC, evS, eget, strip, hlt, iij, hw1, hd, ih, ← ho, h1, h3, h4, hp, hhl, leL_refl, hc, ii]; done)))
        | (with_reducible refine And.intro (And.intro ?_ ?_) ?_)
        | fail)
      exact ⟨_, (h + 1, j), (Gh.ren [] (by simp [hB0]) (by simp [hB0] <;> decide) (by simp [eget, rnS, rnR, rnV, rnC, LtS, LtR, LtV, LtC, lget]) (by simp [hget, rnO, rnC, LtO, LtC, lget]) (.inr rfl)), by simp only; omega, rfl, by simp only; omega, by simp only; omega, fun k hk hkh => by
        simp only at hkh
        exact hmono k h hk hhl (by omega) (by rw [hol]; exact hc), hhi⟩
    · skip
      repeat' (first
        | simp [AK_at, acode_seq, acode_region, acode_draw, acode_cond, ↓CB_t, ↓CB_f, CB_u, acode_block, acode_loop, acode_exit, acode_scope, acode_ret, acode_skip, seqQ_n, seqQ_e, seqQ_r, blockQ_n, blockQ_e, blockQ_r, TK_at, OK_at, SK_at, aops_nil, aops_cons, asch_done, asch_one, asch_two, asch_top, astep, aop_eq, isLoud, aloud, aloud1, isWrite, qv, evS, strip, gof, eget, hget, putO, eput, herase, oks, opnds, gS, afin, afin0, binD, arith, D.cells, takeD, fillD, keep, trim, envOf, Fin, aresl, aresv, resD, argOk, pickV, isP, deq, deqs, boundD, slD, lenD, isT, isSl, ptrIds, chunks, mn_min, mx_max, D.cells, splice_one, splice_more, Rbr_at, Rfr_at, frR, frV, frC, flatC, brwR, brwV, brwC, omap, leR, leV, leC, leL, leVL, hlt, iij, hw1, hd, ih, ← ho, h1, h3, h4, hp, hhl, leL_refl, hc, ii]
        | (refine WCall.pfv (hFo) ?_ rfl ?_ ?_ ?_; (focus (simp [oks, opnds, gS, gof, eget]; done)); (focus (simp [omap, brwV, brwC, evS, eget, strip, hget, leVL, leV, leC, leL, hlt, iij, hw1, hd, ih, ← ho, h1, h3, h4, hp, hhl, leL_refl, hc, ii]; done)); (focus (simp [noV, noC, flatR, flatV, flatC, evS, eget, strip, hlt, iij, hw1, hd, ih, ← ho, h1, h3, h4, hp, hhl, leL_refl, hc, ii]; done)))
        | (refine ⟨WCall.pfv (hFo) ?_ rfl ?_ ?_ ?_, ?_⟩; (focus (simp [oks, opnds, gS, gof, eget]; done)); (focus (simp [omap, brwV, brwC, evS, eget, strip, hget, leVL, leV, leC, leL, hlt, iij, hw1, hd, ih, ← ho, h1, h3, h4, hp, hhl, leL_refl, hc, ii]; done)); (focus (simp [noV, noC, flatR, flatV, flatC, evS, eget, strip, hlt, iij, hw1, hd, ih, ← ho, h1, h3, h4, hp, hhl, leL_refl, hc, ii]; done)))
        | (with_reducible refine And.intro (And.intro ?_ ?_) ?_)
        | fail)
      exact ⟨_, (i, h), (Gh.ren [] (by simp [hB0]) (by simp [hB0] <;> decide) (by simp [eget, rnS, rnR, rnV, rnC, LtS, LtR, LtV, LtC, lget]) (by simp [hget, rnO, rnC, LtO, LtC, lget]) (.inr rfl)), by simp only; omega, rfl, by simp only; omega, by simp only; omega, hlo, fun k hk hkh => by
        simp only at hkh
        exact Int.not_lt.1 fun hck => hc (by rw [← hol]; exact hmono h k hhl hk hkh hck)⟩
  · obtain rfl : i = j := by omega
    have hlb := lowB_at (fun x => decide (cf x < 0)) l i hjl (fun j hj hji => by simpa using hlo j hj hji) (fun hi => by simpa using hhi i hi (Nat.le_refl _))
    by_cases hil : i < l.length
    · have hm : l[i] ∈ l := List.getElem_mem hil
      have hE0 := hE _ hm
      have hFo := hF _ hm
      obtain ⟨o, ho⟩ : ∃ o, o = l[i] := ⟨_, rfl⟩
      have hol : cf l[i] = cf o := by rw [← ho]
      rw [← ho] at hE0 hFo
      obtain ⟨h1, h2⟩ := hE0
      have h3 : (E o).take 2 = E o := List.take_of_length_le (by omega)
      have h4 := fun H n => brw_T H n (E o) h2
      simp only [hlb]
      repeat' (first
        | simp [AK_at, acode_seq, acode_region, acode_draw, acode_cond, ↓CB_t, ↓CB_f, CB_u, acode_block, acode_loop, acode_exit, acode_scope, acode_ret, acode_skip, seqQ_n, seqQ_e, seqQ_r, blockQ_n, blockQ_e, blockQ_r, TK_at, OK_at, SK_at, aops_nil, aops_cons, asch_done, asch_one, asch_two, asch_top, astep, aop_eq, isLoud, aloud, aloud1, isWrite, qv, evS, strip, gof, eget, hget, putO, eput, herase, oks, opnds, gS, afin, afin0, binD, arith, D.cells, takeD, fillD, keep, trim, envOf, Fin, aresl, aresv, resD, argOk, pickV, isP, deq, deqs, boundD, slD, lenD, isT, isSl, ptrIds, chunks, mn_min, mx_max, D.cells, splice_one, splice_more, Rbr_at, Rfr_at, frR, frV, frC, flatC, brwR, brwV, brwC, omap, leR, leV, leC, leL, leVL, hil, ← ho, h1, h3, h4, leL_refl]
        | (refine WCall.pfv (hFo) ?_ rfl ?_ ?_ ?_; (focus (simp [oks, opnds, gS, gof, eget]; done)); (focus (simp [omap, brwV, brwC, evS, eget, strip, hget, leVL, leV, leC, leL, hil, ← ho, h1, h3, h4, leL_refl]; done)); (focus (simp [noV, noC, flatR, flatV, flatC, evS, eget, strip, hil, ← ho, h1, h3, h4, leL_refl]; done)))
        | (refine ⟨WCall.pfv (hFo) ?_ rfl ?_ ?_ ?_, ?_⟩; (focus (simp [oks, opnds, gS, gof, eget]; done)); (focus (simp [omap, brwV, brwC, evS, eget, strip, hget, leVL, leV, leC, leL, hil, ← ho, h1, h3, h4, leL_refl]; done)); (focus (simp [noV, noC, flatR, flatV, flatC, evS, eget, strip, hil, ← ho, h1, h3, h4, leL_refl]; done)))
        | (with_reducible refine And.intro (And.intro ?_ ?_) ?_)
        | fail)
    · simp only [hlb]
      simp [AK_at, acode_seq, acode_region, acode_draw, acode_cond, ↓CB_t, ↓CB_f, CB_u, acode_block, acode_loop, acode_exit, acode_scope, acode_ret, acode_skip, seqQ_n, seqQ_e, seqQ_r, blockQ_n, blockQ_e, blockQ_r, TK_at, OK_at, SK_at, aops_nil, aops_cons, asch_done, asch_one, asch_two, asch_top, astep, aop_eq, isLoud, aloud, aloud1, isWrite, qv, evS, strip, gof, eget, hget, putO, eput, herase, oks, opnds, gS, afin, afin0, binD, arith, D.cells, takeD, fillD, keep, trim, envOf, Fin, aresl, aresv, resD, argOk, pickV, isP, deq, deqs, boundD, slD, lenD, isT, isSl, ptrIds, chunks, mn_min, mx_max, D.cells, splice_one, splice_more, Rbr_at, Rfr_at, frR, frV, frC, flatC, brwR, brwV, brwC, omap, leR, leV, leC, leL, leVL, hil]
end Go.Proofs.Ytajimebannjofaa

set_option linter.unusedSimpArgs false
set_option linter.unusedVariables false
set_option maxRecDepth 100000
set_option maxHeartbeats 2000000
namespace Go.Proofs.Ytajimebannjofaa
open Go.RowKit
def cmpZ (a b : Int) : Int := if a < b then -1 else if b < a then 1 else 0
def ord2 (a b c d : Int) : Int := if cmpZ a c = 0 then cmpZ b d else cmpZ a c
theorem cmpZ_zero {a b : Int} : cmpZ a b = 0 ↔ a = b := by
  unfold cmpZ
  split
  · constructor
    · intro h; omega
    · intro h; omega
  · split
    · constructor
      · intro h; omega
      · intro h; omega
    · constructor
      · intro h; omega
      · intro h; rfl
theorem cmpZ_neg {a b : Int} : cmpZ a b < 0 ↔ a < b := by
  unfold cmpZ
  split
  · simp; assumption
  · split
    · constructor <;> intro h <;> omega
    · constructor <;> intro h <;> omega
theorem ord2_neg {a b c d : Int} : ord2 a b c d < 0 ↔ a < c ∨ (a = c ∧ b < d) := by
  unfold ord2
  split
  · rename_i h
    rw [cmpZ_zero] at h
    rw [cmpZ_neg]
    omega
  · rename_i h
    rw [cmpZ_zero] at h
    rw [cmpZ_neg]
    omega
theorem ord2_zero {a b c d : Int} : ord2 a b c d = 0 ↔ a = c ∧ b = d := by
  unfold ord2
  split
  · rename_i h
    rw [cmpZ_zero] at h
    rw [cmpZ_zero]
    exact ⟨fun h' => ⟨h, h'⟩, fun h' => h'.2⟩
  · rename_i h
    constructor
    · intro h'; exact absurd h' h
    · rintro ⟨rfl, rfl⟩; exact absurd (cmpZ_zero.2 rfl) h
theorem cnan_code : cfun Try.prog [] 69 = some ⟨(.seq (.region 0 [⟨(some 2), (.mov (.k (.bool false))), none⟩]) (.seq (.region 1 [⟨(some 3), (.mov (.t 0)), none⟩, ⟨(some 4), (.mov (.t 0)), none⟩, ⟨(some 5), (.bin .neq (.t 3) (.t 4)), none⟩, ⟨(some 2), (.mov (.t 5)), none⟩]) .ret)), [(.t 2)], 6⟩ := by kernel_rfl
theorem cnan_pf (a : Int) : PF Try.prog 69 [I a] (.bool false) := by
  refine PF.of follows_ok cnan_code (by simp) (by simp [argOk]) (by simp [noV, noC]) fun B hBN hB0 => acode_sound [0, 2] [] _ _ _ ?_
  simp [AK_at, acode_seq, acode_region, acode_draw, acode_cond, ↓CB_t, ↓CB_f, CB_u, acode_block, acode_loop, acode_exit, acode_scope, acode_ret, acode_skip, seqQ_n, seqQ_e, seqQ_r, blockQ_n, blockQ_e, blockQ_r, TK_at, OK_at, SK_at, aops_nil, aops_cons, asch_done, asch_one, asch_two, asch_top, astep, aop_eq, isLoud, aloud, aloud1, isWrite, qv, evS, strip, gof, eget, hget, putO, eput, herase, oks, opnds, gS, afin, afin0, binD, arith, D.cells, takeD, fillD, keep, trim, envOf, Fin, aresl, aresv, resD, argOk, pickV, isP, deq, deqs, boundD, slD, lenD, isT, isSl, ptrIds, chunks, mn_min, mx_max, D.cells, splice_one, splice_more, Rbr_at, Rfr_at, frR, frV, frC, flatC, brwR, brwV, brwC, omap, leR, leV, leC, leL, leVL]
theorem ccmp_code : cfun Try.prog [] 55 = some ⟨(.seq (.region 0 [⟨(some 4), (.mov (.k (.int .i64 0))), none⟩]) (.seq (.region 1 [⟨(some 7), (.mov (.t 0)), none⟩, ⟨(some 8), (.call 69 [(.t 7)]), none⟩, ⟨(some 5), (.mov (.t 8)), none⟩]) (.seq (.region 2 [⟨(some 9), (.mov (.t 1)), none⟩, ⟨(some 10), (.call 69 [(.t 9)]), none⟩, ⟨(some 6), (.mov (.t 10)), none⟩]) (.seq (.seq (.region 3 [⟨(some 11), (.mov (.t 5)), none⟩]) (.cond 11 (.seq (.seq (.region 4 [⟨(some 12), (.mov (.t 6)), none⟩]) (.cond 12 (.seq (.region 5 [⟨(some 4), (.mov (.k (.int .i64 0))), none⟩]) .ret) .skip)) (.seq (.region 6 [⟨(some 4), (.mov (.k (.int .i64 (-1)))), none⟩]) .ret)) .skip)) (.seq (.seq (.region 7 [⟨(some 13), (.mov (.t 6)), none⟩]) (.cond 13 (.seq (.region 8 [⟨(some 4), (.mov (.k (.int .i64 1))), none⟩]) .ret) .skip)) (.seq (.seq (.region 9 [⟨(some 14), (.mov (.t 0)), none⟩, ⟨(some 15), (.mov (.t 1)), none⟩, ⟨(some 16), (.bin .lss (.t 14) (.t 15)), none⟩]) (.cond 16 (.seq (.region 10 [⟨(some 4), (.mov (.k (.int .i64 (-1)))), none⟩]) .ret) .skip)) (.seq (.seq (.region 11 [⟨(some 17), (.mov (.t 0)), none⟩, ⟨(some 18), (.mov (.t 1)), none⟩, ⟨(some 19), (.bin .gtr (.t 17) (.t 18)), none⟩]) (.cond 19 (.seq (.region 12 [⟨(some 4), (.mov (.k (.int .i64 1))), none⟩]) .ret) .skip)) (.seq (.region 13 [⟨(some 4), (.mov (.k (.int .i64 0))), none⟩]) .ret)))))))), [(.t 4)], 20⟩ := by kernel_rfl
theorem ccmp_pf (a b : Int) : PF Try.prog 55 [I a, I b] (I (cmpZ a b)) := by
  have h1 := cnan_pf a
  have h2 := cnan_pf b
  refine PF.of follows_ok ccmp_code (by simp) (by simp [argOk]) (by simp [noV, noC]) fun B hBN hB0 => acode_sound [0, 1, 4, 5, 6, 11, 12, 13, 16, 19] [] _ _ _ ?_
  by_cases c1 : a < b
  · have c2 : ¬ b < a := by omega
    repeat' (first
      | simp [AK_at, acode_seq, acode_region, acode_draw, acode_cond, ↓CB_t, ↓CB_f, CB_u, acode_block, acode_loop, acode_exit, acode_scope, acode_ret, acode_skip, seqQ_n, seqQ_e, seqQ_r, blockQ_n, blockQ_e, blockQ_r, TK_at, OK_at, SK_at, aops_nil, aops_cons, asch_done, asch_one, asch_two, asch_top, astep, aop_eq, isLoud, aloud, aloud1, isWrite, qv, evS, strip, gof, eget, hget, putO, eput, herase, oks, opnds, gS, afin, afin0, binD, arith, D.cells, takeD, fillD, keep, trim, envOf, Fin, aresl, aresv, resD, argOk, pickV, isP, deq, deqs, boundD, slD, lenD, isT, isSl, ptrIds, chunks, mn_min, mx_max, D.cells, splice_one, splice_more, Rbr_at, Rfr_at, frR, frV, frC, flatC, brwR, brwV, brwC, omap, leR, leV, leC, leL, leVL, c1, c2, cmpZ]
      | (refine WCall.pf (h1) ?_ ?_ ?_ ?_; (focus (simp [oks, opnds, gS, gof, eget]; done)); (focus (simp [omap, brwV, brwC, evS, eget, strip, hget, leVL, leV, leC, leL, c1, c2, cmpZ]; done)); (focus (simp [noV, noC, flatR, flatV, flatC, evS, eget, strip, c1, c2, cmpZ]; done)))
      | (refine ⟨WCall.pf (h1) ?_ ?_ ?_ ?_, ?_⟩; (focus (simp [oks, opnds, gS, gof, eget]; done)); (focus (simp [omap, brwV, brwC, evS, eget, strip, hget, leVL, leV, leC, leL, c1, c2, cmpZ]; done)); (focus (simp [noV, noC, flatR, flatV, flatC, evS, eget, strip, c1, c2, cmpZ]; done)))
      | (refine WCall.pf (h2) ?_ ?_ ?_ ?_; (focus (simp [oks, opnds, gS, gof, eget]; done)); (focus (simp [omap, brwV, brwC, evS, eget, strip, hget, leVL, leV, leC, leL, c1, c2, cmpZ]; done)); (focus (simp [noV, noC, flatR, flatV, flatC, evS, eget, strip, c1, c2, cmpZ]; done)))
      | (refine ⟨WCall.pf (h2) ?_ ?_ ?_ ?_, ?_⟩; (focus (simp [oks, opnds, gS, gof, eget]; done)); (focus (simp [omap, brwV, brwC, evS, eget, strip, hget, leVL, leV, leC, leL, c1, c2, cmpZ]; done)); (focus (simp [noV, noC, flatR, flatV, flatC, evS, eget, strip, c1, c2, cmpZ]; done)))
      | (with_reducible refine And.intro (And.intro ?_ ?_) ?_)
      | fail)
  · by_cases c2 : b < a
    · skip
      repeat' (first
        | simp [AK_at, acode_seq, acode_region, acode_draw, acode_cond, ↓CB_t, ↓CB_f, CB_u, acode_block, acode_loop, acode_exit, acode_scope, acode_ret, acode_skip, seqQ_n, seqQ_e, seqQ_r, blockQ_n, blockQ_e, blockQ_r, TK_at, OK_at, SK_at, aops_nil, aops_cons, asch_done, asch_one, asch_two, asch_top, astep, aop_eq, isLoud, aloud, aloud1, isWrite, qv, evS, strip, gof, eget, hget, putO, eput, herase, oks, opnds, gS, afin, afin0, binD, arith, D.cells, takeD, fillD, keep, trim, envOf, Fin, aresl, aresv, resD, argOk, pickV, isP, deq, deqs, boundD, slD, lenD, isT, isSl, ptrIds, chunks, mn_min, mx_max, D.cells, splice_one, splice_more, Rbr_at, Rfr_at, frR, frV, frC, flatC, brwR, brwV, brwC, omap, leR, leV, leC, leL, leVL, c1, c2, cmpZ]
        | (refine WCall.pf (h1) ?_ ?_ ?_ ?_; (focus (simp [oks, opnds, gS, gof, eget]; done)); (focus (simp [omap, brwV, brwC, evS, eget, strip, hget, leVL, leV, leC, leL, c1, c2, cmpZ]; done)); (focus (simp [noV, noC, flatR, flatV, flatC, evS, eget, strip, c1, c2, cmpZ]; done)))
        | (refine ⟨WCall.pf (h1) ?_ ?_ ?_ ?_, ?_⟩; (focus (simp [oks, opnds, gS, gof, eget]; done)); (focus (simp [omap, brwV, brwC, evS, eget, strip, hget, leVL, leV, leC, leL, c1, c2, cmpZ]; done)); (focus (simp [noV, noC, flatR, flatV, flatC, evS, eget, strip, c1, c2, cmpZ]; done)))
        | (refine WCall.pf (h2) ?_ ?_ ?_ ?_; (focus (simp [oks, opnds, gS, gof, eget]; done)); (focus (simp [omap, brwV, brwC, evS, eget, strip, hget, leVL, leV, leC, leL, c1, c2, cmpZ]; done)); (focus (simp [noV, noC, flatR, flatV, flatC, evS, eget, strip, c1, c2, cmpZ]; done)))
        | (refine ⟨WCall.pf (h2) ?_ ?_ ?_ ?_, ?_⟩; (focus (simp [oks, opnds, gS, gof, eget]; done)); (focus (simp [omap, brwV, brwC, evS, eget, strip, hget, leVL, leV, leC, leL, c1, c2, cmpZ]; done)); (focus (simp [noV, noC, flatR, flatV, flatC, evS, eget, strip, c1, c2, cmpZ]; done)))
        | (with_reducible refine And.intro (And.intro ?_ ?_) ?_)
        | fail)
    · skip
      repeat' (first
        | simp [AK_at, acode_seq, acode_region, acode_draw, acode_cond, ↓CB_t, ↓CB_f, CB_u, acode_block, acode_loop, acode_exit, acode_scope, acode_ret, acode_skip, seqQ_n, seqQ_e, seqQ_r, blockQ_n, blockQ_e, blockQ_r, TK_at, OK_at, SK_at, aops_nil, aops_cons, asch_done, asch_one, asch_two, asch_top, astep, aop_eq, isLoud, aloud, aloud1, isWrite, qv, evS, strip, gof, eget, hget, putO, eput, herase, oks, opnds, gS, afin, afin0, binD, arith, D.cells, takeD, fillD, keep, trim, envOf, Fin, aresl, aresv, resD, argOk, pickV, isP, deq, deqs, boundD, slD, lenD, isT, isSl, ptrIds, chunks, mn_min, mx_max, D.cells, splice_one, splice_more, Rbr_at, Rfr_at, frR, frV, frC, flatC, brwR, brwV, brwC, omap, leR, leV, leC, leL, leVL, c1, c2, cmpZ]
        | (refine WCall.pf (h1) ?_ ?_ ?_ ?_; (focus (simp [oks, opnds, gS, gof, eget]; done)); (focus (simp [omap, brwV, brwC, evS, eget, strip, hget, leVL, leV, leC, leL, c1, c2, cmpZ]; done)); (focus (simp [noV, noC, flatR, flatV, flatC, evS, eget, strip, c1, c2, cmpZ]; done)))
        | (refine ⟨WCall.pf (h1) ?_ ?_ ?_ ?_, ?_⟩; (focus (simp [oks, opnds, gS, gof, eget]; done)); (focus (simp [omap, brwV, brwC, evS, eget, strip, hget, leVL, leV, leC, leL, c1, c2, cmpZ]; done)); (focus (simp [noV, noC, flatR, flatV, flatC, evS, eget, strip, c1, c2, cmpZ]; done)))
        | (refine WCall.pf (h2) ?_ ?_ ?_ ?_; (focus (simp [oks, opnds, gS, gof, eget]; done)); (focus (simp [omap, brwV, brwC, evS, eget, strip, hget, leVL, leV, leC, leL, c1, c2, cmpZ]; done)); (focus (simp [noV, noC, flatR, flatV, flatC, evS, eget, strip, c1, c2, cmpZ]; done)))
        | (refine ⟨WCall.pf (h2) ?_ ?_ ?_ ?_, ?_⟩; (focus (simp [oks, opnds, gS, gof, eget]; done)); (focus (simp [omap, brwV, brwC, evS, eget, strip, hget, leVL, leV, leC, leL, c1, c2, cmpZ]; done)); (focus (simp [noV, noC, flatR, flatV, flatC, evS, eget, strip, c1, c2, cmpZ]; done)))
        | (with_reducible refine And.intro (And.intro ?_ ?_) ?_)
        | fail)
theorem cor_code : cfun Try.prog [] 54 = some ⟨(.seq (.region 0 [⟨(some 2), (.mov (.k (.int .i64 0))), none⟩]) (.seq (.region 1 [⟨(some 3), (.mov (.k (.int .i64 0))), none⟩]) (.seq (.seq (.region 2 [⟨(some 6), (.mov (.t 0)), none⟩, ⟨(some 7), (.len (.t 6)), none⟩, ⟨(some 8), (.mov (.k (.int .i64 0))), none⟩]) (.block 0 (.loop (.seq (.region 3 [⟨(some 9), (.bin .lss (.t 8) (.t 7)), none⟩]) (.seq (.cond 9 .skip (.exit 0)) (.seq (.block 1 (.seq (.region 4 [⟨(some 10), (.iads 1 (.t 6) (.t 8)), none⟩, ⟨(some 11), (.load false 1 (.t 10)), none⟩, ⟨(some 5), (.mov (.t 11)), none⟩]) (.seq (.region 5 [⟨(some 12), (.mov (.t 5)), none⟩, ⟨(some 13), (.mov (.t 3)), none⟩, ⟨(some 14), (.bin .neq (.t 12) (.t 13)), none⟩]) (.cond 14 (.seq (.region 6 [⟨(some 15), (.mov (.t 5)), none⟩, ⟨(some 2), (.mov (.t 15)), none⟩]) .ret) .skip)))) (.region 7 [⟨(some 16), (.bin .add (.t 8) (.k (.int .i64 1))), none⟩, ⟨(some 8), (.mov (.t 16)), none⟩]))))))) (.seq (.region 8 [⟨(some 17), (.mov (.t 3)), none⟩, ⟨(some 2), (.mov (.t 17)), none⟩]) .ret)))), [(.t 2)], 18⟩ := by kernel_rfl
theorem cor_pf (a b : Int) : PF Try.prog 54 [.rows 1 [[I a], [I b]]] (I (if a = 0 then b else a)) := by
  refine PF.of follows_ok cor_code (by simp) (by simp [argOk]) (by simp [noV, noC]) fun B hBN hB0 => acode_sound [0, 2, 3, 5, 6, 7, 8, 9, 14] [] _ _ _ ?_
  simp [AK_at, acode_seq, acode_region, acode_draw, acode_cond, ↓CB_t, ↓CB_f, CB_u, acode_block, acode_loop, acode_exit, acode_scope, acode_ret, acode_skip, seqQ_n, seqQ_e, seqQ_r, blockQ_n, blockQ_e, blockQ_r, TK_at, OK_at, SK_at, aops_nil, aops_cons, asch_done, asch_one, asch_two, asch_top, astep, aop_eq, isLoud, aloud, aloud1, isWrite, qv, evS, strip, gof, eget, hget, putO, eput, herase, oks, opnds, gS, afin, afin0, binD, arith, D.cells, takeD, fillD, keep, trim, envOf, Fin, aresl, aresv, resD, argOk, pickV, isP, deq, deqs, boundD, slD, lenD, isT, isSl, ptrIds, chunks, mn_min, mx_max, D.cells, splice_one, splice_more, Rbr_at, Rfr_at, frR, frV, frC, flatC, brwR, brwV, brwC, omap, leR, leV, leC, leL, leVL]
  refine W.loopS (fun i : Nat => ⟨[(8, I i), (7, I 2), (6, D.rows 1 [[I a], [I b]]), (3, I 0), (2, I 0), (0, D.rows 1 [[I a], [I b]])], [], 0⟩)
    (fun n i => n = 2 - i ∧ i ≤ 2 ∧ (1 ≤ i → a = 0) ∧ (2 ≤ i → b = 0)) ?_ ?_
  · exact ⟨_, 0, (Gh.ren [] (by simp [hB0]) (by simp [hB0] <;> decide) (by simp [eget, rnS, rnR, rnV, rnC, LtS, LtR, LtV, LtC, lget]) (by simp [hget, rnO, rnC, LtO, LtC, lget]) (.inr rfl)), rfl, by omega, fun h => by omega, fun h => by omega⟩
  rintro n i ⟨hn, hi, ha, hb⟩
  refine acode_sound [0, 2, 3, 5, 6, 7, 8, 9, 14] [] _ _ _ ?_
  match i, hi with
  | 0, _ =>
    by_cases h : a = 0
    · have ii : InR 1 := inW (by omega) (by omega)
      simp [AK_at, acode_seq, acode_region, acode_draw, acode_cond, ↓CB_t, ↓CB_f, CB_u, acode_block, acode_loop, acode_exit, acode_scope, acode_ret, acode_skip, seqQ_n, seqQ_e, seqQ_r, blockQ_n, blockQ_e, blockQ_r, TK_at, OK_at, SK_at, aops_nil, aops_cons, asch_done, asch_one, asch_two, asch_top, astep, aop_eq, isLoud, aloud, aloud1, isWrite, qv, evS, strip, gof, eget, hget, putO, eput, herase, oks, opnds, gS, afin, afin0, binD, arith, D.cells, takeD, fillD, keep, trim, envOf, Fin, aresl, aresv, resD, argOk, pickV, isP, deq, deqs, boundD, slD, lenD, isT, isSl, ptrIds, chunks, mn_min, mx_max, D.cells, splice_one, splice_more, Rbr_at, Rfr_at, frR, frV, frC, flatC, brwR, brwV, brwC, omap, leR, leV, leC, leL, leVL, h, ii]
      exact ⟨_, 1, (Gh.ren [] (by simp [hB0]) (by simp [hB0] <;> decide) (by simp [eget, rnS, rnR, rnV, rnC, LtS, LtR, LtV, LtC, lget, h]) (by simp [hget, rnO, rnC, LtO, LtC, lget, h]) (.inr rfl)), by omega, rfl, by omega, fun h => by omega⟩
    · simp [AK_at, acode_seq, acode_region, acode_draw, acode_cond, ↓CB_t, ↓CB_f, CB_u, acode_block, acode_loop, acode_exit, acode_scope, acode_ret, acode_skip, seqQ_n, seqQ_e, seqQ_r, blockQ_n, blockQ_e, blockQ_r, TK_at, OK_at, SK_at, aops_nil, aops_cons, asch_done, asch_one, asch_two, asch_top, astep, aop_eq, isLoud, aloud, aloud1, isWrite, qv, evS, strip, gof, eget, hget, putO, eput, herase, oks, opnds, gS, afin, afin0, binD, arith, D.cells, takeD, fillD, keep, trim, envOf, Fin, aresl, aresv, resD, argOk, pickV, isP, deq, deqs, boundD, slD, lenD, isT, isSl, ptrIds, chunks, mn_min, mx_max, D.cells, splice_one, splice_more, Rbr_at, Rfr_at, frR, frV, frC, flatC, brwR, brwV, brwC, omap, leR, leV, leC, leL, leVL, h]
  | 1, _ =>
    have h := ha (by omega)
    by_cases h2 : b = 0
    · have ii : InR 2 := inW (by omega) (by omega)
      simp [AK_at, acode_seq, acode_region, acode_draw, acode_cond, ↓CB_t, ↓CB_f, CB_u, acode_block, acode_loop, acode_exit, acode_scope, acode_ret, acode_skip, seqQ_n, seqQ_e, seqQ_r, blockQ_n, blockQ_e, blockQ_r, TK_at, OK_at, SK_at, aops_nil, aops_cons, asch_done, asch_one, asch_two, asch_top, astep, aop_eq, isLoud, aloud, aloud1, isWrite, qv, evS, strip, gof, eget, hget, putO, eput, herase, oks, opnds, gS, afin, afin0, binD, arith, D.cells, takeD, fillD, keep, trim, envOf, Fin, aresl, aresv, resD, argOk, pickV, isP, deq, deqs, boundD, slD, lenD, isT, isSl, ptrIds, chunks, mn_min, mx_max, D.cells, splice_one, splice_more, Rbr_at, Rfr_at, frR, frV, frC, flatC, brwR, brwV, brwC, omap, leR, leV, leC, leL, leVL, h, h2, ii]
      exact ⟨_, 2, (Gh.ren [] (by simp [hB0]) (by simp [hB0] <;> decide) (by simp [eget, rnS, rnR, rnV, rnC, LtS, LtR, LtV, LtC, lget, h, h2]) (by simp [hget, rnO, rnC, LtO, LtC, lget, h, h2]) (.inr rfl)), by omega, rfl, by omega⟩
    · simp [AK_at, acode_seq, acode_region, acode_draw, acode_cond, ↓CB_t, ↓CB_f, CB_u, acode_block, acode_loop, acode_exit, acode_scope, acode_ret, acode_skip, seqQ_n, seqQ_e, seqQ_r, blockQ_n, blockQ_e, blockQ_r, TK_at, OK_at, SK_at, aops_nil, aops_cons, asch_done, asch_one, asch_two, asch_top, astep, aop_eq, isLoud, aloud, aloud1, isWrite, qv, evS, strip, gof, eget, hget, putO, eput, herase, oks, opnds, gS, afin, afin0, binD, arith, D.cells, takeD, fillD, keep, trim, envOf, Fin, aresl, aresv, resD, argOk, pickV, isP, deq, deqs, boundD, slD, lenD, isT, isSl, ptrIds, chunks, mn_min, mx_max, D.cells, splice_one, splice_more, Rbr_at, Rfr_at, frR, frV, frC, flatC, brwR, brwV, brwC, omap, leR, leV, leC, leL, leVL, h, h2]
  | 2, _ =>
    have h := ha (by omega)
    have h2 := hb (by omega)
    simp [AK_at, acode_seq, acode_region, acode_draw, acode_cond, ↓CB_t, ↓CB_f, CB_u, acode_block, acode_loop, acode_exit, acode_scope, acode_ret, acode_skip, seqQ_n, seqQ_e, seqQ_r, blockQ_n, blockQ_e, blockQ_r, TK_at, OK_at, SK_at, aops_nil, aops_cons, asch_done, asch_one, asch_two, asch_top, astep, aop_eq, isLoud, aloud, aloud1, isWrite, qv, evS, strip, gof, eget, hget, putO, eput, herase, oks, opnds, gS, afin, afin0, binD, arith, D.cells, takeD, fillD, keep, trim, envOf, Fin, aresl, aresv, resD, argOk, pickV, isP, deq, deqs, boundD, slD, lenD, isT, isSl, ptrIds, chunks, mn_min, mx_max, D.cells, splice_one, splice_more, Rbr_at, Rfr_at, frR, frV, frC, flatC, brwR, brwV, brwC, omap, leR, leV, leC, leL, leVL, h, h2]
theorem word_code : cfun Try.prog [] 41 = some ⟨(.seq (.region 0 [⟨(some 2), (.box (.t 0)), none⟩, ⟨(some 3), (.box (.t 1)), none⟩, ⟨(some 4), (.mov (.k (.int .i64 0))), none⟩]) (.seq (.draw 1 (.one true ⟨(some 5), (.fad 0 (.t 2)), none⟩ (.one true ⟨(some 6), (.load false 1 (.t 5)), none⟩ (.one true ⟨(some 7), (.fad 0 (.t 3)), none⟩ (.one true ⟨(some 8), (.load false 1 (.t 7)), none⟩ (.one true ⟨(some 10), (.fad 1 (.t 2)), none⟩ (.one true ⟨(some 11), (.load false 1 (.t 10)), none⟩ (.one true ⟨(some 12), (.fad 1 (.t 3)), none⟩ (.one true ⟨(some 13), (.load false 1 (.t 12)), none⟩ (.one true ⟨(some 9), (.call 55 [(.t 6), (.t 8)]), none⟩ (.one true ⟨(some 14), (.call 55 [(.t 11), (.t 13)]), none⟩ (.one true ⟨(some 15), (.bslice 1 2 [(.int .i64 0)] [(0, (.t 9)), (1, (.t 14))]), none⟩ (.one true ⟨(some 16), (.call 54 [(.t 15)]), none⟩ (.one true ⟨(some 4), (.mov (.t 16)), none⟩ .done)))))))))))))) .ret)), [(.t 4)], 17⟩ := by kernel_rfl
theorem word_pf (a b c d : Int) : PF Try.prog 41 [.agg [I a, I b], .agg [I c, I d]] (I (ord2 a b c d)) := by
  have h1 := ccmp_pf a c
  have h2 := ccmp_pf b d
  have h3 := cor_pf (cmpZ a c) (cmpZ b d)
  refine PF.of follows_ok word_code (by simp) (by simp [argOk]) (by simp [noV, noC]) fun B hBN hB0 => acode_sound [0, 1, 2, 3, 4] [] _ _ _ ?_
  repeat' (first
    | simp [AK_at, acode_seq, acode_region, acode_draw, acode_cond, ↓CB_t, ↓CB_f, CB_u, acode_block, acode_loop, acode_exit, acode_scope, acode_ret, acode_skip, seqQ_n, seqQ_e, seqQ_r, blockQ_n, blockQ_e, blockQ_r, TK_at, OK_at, SK_at, aops_nil, aops_cons, asch_done, asch_one, asch_two, asch_top, astep, aop_eq, isLoud, aloud, aloud1, isWrite, qv, evS, strip, gof, eget, hget, putO, eput, herase, oks, opnds, gS, afin, afin0, binD, arith, D.cells, takeD, fillD, keep, trim, envOf, Fin, aresl, aresv, resD, argOk, pickV, isP, deq, deqs, boundD, slD, lenD, isT, isSl, ptrIds, chunks, mn_min, mx_max, D.cells, splice_one, splice_more, Rbr_at, Rfr_at, frR, frV, frC, flatC, brwR, brwV, brwC, omap, leR, leV, leC, leL, leVL, ord2]
    | (refine WCall.pf (h1) ?_ ?_ ?_ ?_; (focus (simp [oks, opnds, gS, gof, eget]; done)); (focus (simp [omap, brwV, brwC, evS, eget, strip, hget, leVL, leV, leC, leL, ord2]; done)); (focus (simp [noV, noC, flatR, flatV, flatC, evS, eget, strip, ord2]; done)))
    | (refine ⟨WCall.pf (h1) ?_ ?_ ?_ ?_, ?_⟩; (focus (simp [oks, opnds, gS, gof, eget]; done)); (focus (simp [omap, brwV, brwC, evS, eget, strip, hget, leVL, leV, leC, leL, ord2]; done)); (focus (simp [noV, noC, flatR, flatV, flatC, evS, eget, strip, ord2]; done)))
    | (refine WCall.pf (h2) ?_ ?_ ?_ ?_; (focus (simp [oks, opnds, gS, gof, eget]; done)); (focus (simp [omap, brwV, brwC, evS, eget, strip, hget, leVL, leV, leC, leL, ord2]; done)); (focus (simp [noV, noC, flatR, flatV, flatC, evS, eget, strip, ord2]; done)))
    | (refine ⟨WCall.pf (h2) ?_ ?_ ?_ ?_, ?_⟩; (focus (simp [oks, opnds, gS, gof, eget]; done)); (focus (simp [omap, brwV, brwC, evS, eget, strip, hget, leVL, leV, leC, leL, ord2]; done)); (focus (simp [noV, noC, flatR, flatV, flatC, evS, eget, strip, ord2]; done)))
    | (refine WCall.pf (h3) ?_ ?_ ?_ ?_; (focus (simp [oks, opnds, gS, gof, eget]; done)); (focus (simp [omap, brwV, brwC, evS, eget, strip, hget, leVL, leV, leC, leL, ord2]; done)); (focus (simp [noV, noC, flatR, flatV, flatC, evS, eget, strip, ord2]; done)))
    | (refine ⟨WCall.pf (h3) ?_ ?_ ?_ ?_, ?_⟩; (focus (simp [oks, opnds, gS, gof, eget]; done)); (focus (simp [omap, brwV, brwC, evS, eget, strip, hget, leVL, leV, leC, leL, ord2]; done)); (focus (simp [noV, noC, flatR, flatV, flatC, evS, eget, strip, ord2]; done)))
    | (with_reducible refine And.intro (And.intro ?_ ?_) ?_)
    | fail)
theorem rord_code : cfun Try.prog [] 36 = some ⟨(.seq (.region 0 [⟨(some 2), (.box (.t 0)), none⟩, ⟨(some 3), (.box (.t 1)), none⟩, ⟨(some 4), (.mov (.k (.int .i64 0))), none⟩]) (.seq (.draw 1 (.one true ⟨(some 5), (.fad 0 (.t 2)), none⟩ (.one true ⟨(some 6), (.load false 1 (.t 5)), none⟩ (.one true ⟨(some 7), (.fad 0 (.t 3)), none⟩ (.one true ⟨(some 8), (.load false 1 (.t 7)), none⟩ (.one true ⟨(some 10), (.fad 1 (.t 2)), none⟩ (.one true ⟨(some 11), (.load false 1 (.t 10)), none⟩ (.one true ⟨(some 12), (.fad 1 (.t 3)), none⟩ (.one true ⟨(some 13), (.load false 1 (.t 12)), none⟩ (.one true ⟨(some 9), (.call 55 [(.t 6), (.t 8)]), none⟩ (.one true ⟨(some 14), (.call 55 [(.t 11), (.t 13)]), none⟩ (.one true ⟨(some 15), (.bslice 1 2 [(.int .i64 0)] [(0, (.t 9)), (1, (.t 14))]), none⟩ (.one true ⟨(some 16), (.call 54 [(.t 15)]), none⟩ (.one true ⟨(some 4), (.mov (.t 16)), none⟩ .done)))))))))))))) .ret)), [(.t 4)], 17⟩ := by kernel_rfl
theorem rord_pf (a b c d : Int) : PF Try.prog 36 [.agg [I a, I b], .agg [I c, I d]] (I (ord2 a b c d)) := by
  have h1 := ccmp_pf a c
  have h2 := ccmp_pf b d
  have h3 := cor_pf (cmpZ a c) (cmpZ b d)
  refine PF.of follows_ok rord_code (by simp) (by simp [argOk]) (by simp [noV, noC]) fun B hBN hB0 => acode_sound [0, 1, 2, 3, 4] [] _ _ _ ?_
  repeat' (first
    | simp [AK_at, acode_seq, acode_region, acode_draw, acode_cond, ↓CB_t, ↓CB_f, CB_u, acode_block, acode_loop, acode_exit, acode_scope, acode_ret, acode_skip, seqQ_n, seqQ_e, seqQ_r, blockQ_n, blockQ_e, blockQ_r, TK_at, OK_at, SK_at, aops_nil, aops_cons, asch_done, asch_one, asch_two, asch_top, astep, aop_eq, isLoud, aloud, aloud1, isWrite, qv, evS, strip, gof, eget, hget, putO, eput, herase, oks, opnds, gS, afin, afin0, binD, arith, D.cells, takeD, fillD, keep, trim, envOf, Fin, aresl, aresv, resD, argOk, pickV, isP, deq, deqs, boundD, slD, lenD, isT, isSl, ptrIds, chunks, mn_min, mx_max, D.cells, splice_one, splice_more, Rbr_at, Rfr_at, frR, frV, frC, flatC, brwR, brwV, brwC, omap, leR, leV, leC, leL, leVL, ord2]
    | (refine WCall.pf (h1) ?_ ?_ ?_ ?_; (focus (simp [oks, opnds, gS, gof, eget]; done)); (focus (simp [omap, brwV, brwC, evS, eget, strip, hget, leVL, leV, leC, leL, ord2]; done)); (focus (simp [noV, noC, flatR, flatV, flatC, evS, eget, strip, ord2]; done)))
    | (refine ⟨WCall.pf (h1) ?_ ?_ ?_ ?_, ?_⟩; (focus (simp [oks, opnds, gS, gof, eget]; done)); (focus (simp [omap, brwV, brwC, evS, eget, strip, hget, leVL, leV, leC, leL, ord2]; done)); (focus (simp [noV, noC, flatR, flatV, flatC, evS, eget, strip, ord2]; done)))
    | (refine WCall.pf (h2) ?_ ?_ ?_ ?_; (focus (simp [oks, opnds, gS, gof, eget]; done)); (focus (simp [omap, brwV, brwC, evS, eget, strip, hget, leVL, leV, leC, leL, ord2]; done)); (focus (simp [noV, noC, flatR, flatV, flatC, evS, eget, strip, ord2]; done)))
    | (refine ⟨WCall.pf (h2) ?_ ?_ ?_ ?_, ?_⟩; (focus (simp [oks, opnds, gS, gof, eget]; done)); (focus (simp [omap, brwV, brwC, evS, eget, strip, hget, leVL, leV, leC, leL, ord2]; done)); (focus (simp [noV, noC, flatR, flatV, flatC, evS, eget, strip, ord2]; done)))
    | (refine WCall.pf (h3) ?_ ?_ ?_ ?_; (focus (simp [oks, opnds, gS, gof, eget]; done)); (focus (simp [omap, brwV, brwC, evS, eget, strip, hget, leVL, leV, leC, leL, ord2]; done)); (focus (simp [noV, noC, flatR, flatV, flatC, evS, eget, strip, ord2]; done)))
    | (refine ⟨WCall.pf (h3) ?_ ?_ ?_ ?_, ?_⟩; (focus (simp [oks, opnds, gS, gof, eget]; done)); (focus (simp [omap, brwV, brwC, evS, eget, strip, hget, leVL, leV, leC, leL, ord2]; done)); (focus (simp [noV, noC, flatR, flatV, flatC, evS, eget, strip, ord2]; done)))
    | (with_reducible refine And.intro (And.intro ?_ ?_) ?_)
    | fail)
theorem tisf_code : cfun Try.prog [] 40 = some ⟨(.seq (.region 0 [⟨(some 4), (.mov (.k (.bool false))), none⟩]) (.seq (.seq (.region 1 [⟨(some 6), (.mov (.t 0)), none⟩, ⟨(some 7), (.len (.t 6)), none⟩, ⟨(some 8), (.bin .sub (.t 7) (.k (.int .i64 1))), none⟩, ⟨(some 5), (.mov (.t 8)), none⟩]) (.block 0 (.loop (.seq (.seq (.region 2 [⟨(some 9), (.mov (.t 5)), none⟩, ⟨(some 10), (.bin .gtr (.t 9) (.k (.int .i64 0))), none⟩]) (.cond 10 .skip (.exit 0))) (.seq (.block 1 (.seq (.draw 4 (.one true ⟨(some 13), (.mov (.t 1)), none⟩ (.one true ⟨(some 14), (.mov (.t 0)), none⟩ (.one true ⟨(some 15), (.mov (.t 5)), none⟩ (.one true ⟨(some 16), (.iads 2 (.t 14) (.t 15)), none⟩ (.one true ⟨(some 17), (.load true 2 (.t 16)), none⟩ (.one true ⟨(some 18), (.mov (.t 0)), none⟩ (.one true ⟨(some 19), (.mov (.t 5)), none⟩ (.one true ⟨(some 20), (.bin .sub (.t 19) (.k (.int .i64 1))), none⟩ (.one true ⟨(some 21), (.iads 2 (.t 18) (.t 20)), none⟩ (.one true ⟨(some 22), (.load true 2 (.t 21)), none⟩ (.one false ⟨(some 23), (.callv (.t 13) [(.t 17), (.t 22)]), none⟩ (.one true ⟨(some 24), (.bin .lss (.t 23) (.k (.int .i64 0))), none⟩ .done))))))))))))) (.cond 24 (.seq (.region 5 [⟨(some 4), (.mov (.k (.bool false))), none⟩]) .ret) .skip))) (.region 3 [⟨(some 11), (.mov (.t 5)), none⟩, ⟨(some 12), (.bin .sub (.t 11) (.k (.int .i64 1))), none⟩, ⟨(some 5), (.mov (.t 12)), none⟩])))))) (.seq (.region 6 [⟨(some 4), (.mov (.k (.bool true))), none⟩]) .ret))), [(.t 4)], 25⟩ := by kernel_rfl
theorem tisf_pf {α : Type} (E : α → List D) (l : List α) (F : FuncId) (cf : α → α → Int) (hl : l.length ≤ 1000000) (hE : Els 2 E l) (hF : ∀ s ∈ l, ∀ t ∈ l, PF Try.prog F [.agg (E s), .agg (E t)] (I (cf s t)))
    (hs : ∀ i (hi : i + 1 < l.length), ¬ cf l[i + 1] l[i] < 0) : PF Try.prog 40 [.rows 2 (l.map E), .fn F []] (.bool true) := by
  have i0 : InR ((l.length : Int) - 1) := inW (by omega) (by omega)
  refine PF.of follows_ok tisf_code (by simp) (by simp [argOk]) (by simp [noV, noC]) fun B hBN hB0 => acode_sound [0, 1, 4, 5, 10, 24] [] _ _ _ ?_
  simp [AK_at, acode_seq, acode_region, acode_draw, acode_cond, ↓CB_t, ↓CB_f, CB_u, acode_block, acode_loop, acode_exit, acode_scope, acode_ret, acode_skip, seqQ_n, seqQ_e, seqQ_r, blockQ_n, blockQ_e, blockQ_r, TK_at, OK_at, SK_at, aops_nil, aops_cons, asch_done, asch_one, asch_two, asch_top, astep, aop_eq, isLoud, aloud, aloud1, isWrite, qv, evS, strip, gof, eget, hget, putO, eput, herase, oks, opnds, gS, afin, afin0, binD, arith, D.cells, takeD, fillD, keep, trim, envOf, Fin, aresl, aresv, resD, argOk, pickV, isP, deq, deqs, boundD, slD, lenD, isT, isSl, ptrIds, chunks, mn_min, mx_max, D.cells, splice_one, splice_more, Rbr_at, Rfr_at, frR, frV, frC, flatC, brwR, brwV, brwC, omap, leR, leV, leC, leL, leVL, i0]
  refine W.loopS (fun z : Int => ⟨[(5, I z), (4, .bool false), (1, .fn F []), (0, D.rows 2 (l.map E))], [], 0⟩)
    (fun n z => n = (z + 1).toNat ∧ -1 ≤ z ∧ z < l.length) ?_ ?_
  · exact ⟨_, (l.length : Int) - 1, (Gh.ren [] (by simp [hB0]) (by simp [hB0] <;> decide) (by simp [eget, rnS, rnR, rnV, rnC, LtS, LtR, LtV, LtC, lget]) (by simp [hget, rnO, rnC, LtO, LtC, lget]) (.inr rfl)), rfl, by omega, by omega⟩
  rintro n z ⟨hn, h1, h2⟩
  refine acode_sound [0, 1, 4, 5, 10, 24] [] _ _ _ ?_
  by_cases hz : 0 < z
  · obtain ⟨i, rfl⟩ : ∃ i : Nat, z = (i : Int) + 1 := ⟨(z - 1).toNat, by omega⟩
    have hil : i + 1 < l.length := by omega
    have hil0 : i < l.length := by omega
    have hm1 : l[i + 1] ∈ l := List.getElem_mem hil
    have hm0 : l[i] ∈ l := List.getElem_mem hil0
    have hE1 := hE _ hm1
    have hE0 := hE _ hm0
    have hFo := hF _ hm1 _ hm0
    have hsi := hs i hil
    obtain ⟨o, ho⟩ : ∃ o, o = l[i + 1] := ⟨_, rfl⟩
    obtain ⟨p, hp⟩ : ∃ p, p = l[i] := ⟨_, rfl⟩
    rw [← ho] at hE1 hFo hsi
    rw [← hp] at hE0 hFo hsi
    obtain ⟨a1, a2⟩ := hE1
    obtain ⟨b1, b2⟩ := hE0
    have a3 : (E o).take 2 = E o := List.take_of_length_le (by omega)
    have a4 := fun H n => brw_T H n (E o) a2
    have b3 : (E p).take 2 = E p := List.take_of_length_le (by omega)
    have b4 := fun H n => brw_T H n (E p) b2
    have ii : InR (i : Int) := inW (by omega) (by omega)
    have e1 : (i : Int) + 1 - 1 = i := by omega
    have e2 : ((i : Int) + 1).toNat = i + 1 := by omega
    have p1 : (0 : Int) < (i : Int) + 1 := by omega
    have p2 : (0 : Int) ≤ (i : Int) + 1 := by omega
    have p3 : (i : Int) + 1 < l.length := by omega
    repeat' (first
      | simp [AK_at, acode_seq, acode_region, acode_draw, acode_cond, ↓CB_t, ↓CB_f, CB_u, acode_block, acode_loop, acode_exit, acode_scope, acode_ret, acode_skip, seqQ_n, seqQ_e, seqQ_r, blockQ_n, blockQ_e, blockQ_r, TK_at, OK_at, SK_at, aops_nil, aops_cons, asch_done, asch_one, asch_two, asch_top, astep, aop_eq, isLoud, aloud, aloud1, isWrite, qv, evS, strip, gof, eget, hget, putO, eput, herase, oks, opnds, gS, afin, afin0, binD, arith, D.cells, takeD, fillD, keep, trim, envOf, Fin, aresl, aresv, resD, argOk, pickV, isP, deq, deqs, boundD, slD, lenD, isT, isSl, ptrIds, chunks, mn_min, mx_max, D.cells, splice_one, splice_more, Rbr_at, Rfr_at, frR, frV, frC, flatC, brwR, brwV, brwC, omap, leR, leV, leC, leL, leVL, hil, hil0, ← ho, ← hp, a1, a3, a4, b1, b3, b4, ii, e1, e2, p1, p2, p3, leL_refl, hsi]
      | (refine WCall.pfv (hFo) ?_ rfl ?_ ?_ ?_; (focus (simp [oks, opnds, gS, gof, eget]; done)); (focus (simp [omap, brwV, brwC, evS, eget, strip, hget, leVL, leV, leC, leL, hil, hil0, ← ho, ← hp, a1, a3, a4, b1, b3, b4, ii, e1, e2, p1, p2, p3, leL_refl, hsi]; done)); (focus (simp [noV, noC, flatR, flatV, flatC, evS, eget, strip, hil, hil0, ← ho, ← hp, a1, a3, a4, b1, b3, b4, ii, e1, e2, p1, p2, p3, leL_refl, hsi]; done)))
      | (refine ⟨WCall.pfv (hFo) ?_ rfl ?_ ?_ ?_, ?_⟩; (focus (simp [oks, opnds, gS, gof, eget]; done)); (focus (simp [omap, brwV, brwC, evS, eget, strip, hget, leVL, leV, leC, leL, hil, hil0, ← ho, ← hp, a1, a3, a4, b1, b3, b4, ii, e1, e2, p1, p2, p3, leL_refl, hsi]; done)); (focus (simp [noV, noC, flatR, flatV, flatC, evS, eget, strip, hil, hil0, ← ho, ← hp, a1, a3, a4, b1, b3, b4, ii, e1, e2, p1, p2, p3, leL_refl, hsi]; done)))
      | (with_reducible refine And.intro (And.intro ?_ ?_) ?_)
      | fail)
    exact ⟨_, (i : Int), (Gh.ren [] (by simp [hB0]) (by simp [hB0] <;> decide) (by simp [eget, rnS, rnR, rnV, rnC, LtS, LtR, LtV, LtC, lget]) (by simp [hget, rnO, rnC, LtO, LtC, lget]) (.inr rfl)), by omega, rfl, by omega, by omega⟩
  · simp [AK_at, acode_seq, acode_region, acode_draw, acode_cond, ↓CB_t, ↓CB_f, CB_u, acode_block, acode_loop, acode_exit, acode_scope, acode_ret, acode_skip, seqQ_n, seqQ_e, seqQ_r, blockQ_n, blockQ_e, blockQ_r, TK_at, OK_at, SK_at, aops_nil, aops_cons, asch_done, asch_one, asch_two, asch_top, astep, aop_eq, isLoud, aloud, aloud1, isWrite, qv, evS, strip, gof, eget, hget, putO, eput, herase, oks, opnds, gS, afin, afin0, binD, arith, D.cells, takeD, fillD, keep, trim, envOf, Fin, aresl, aresv, resD, argOk, pickV, isP, deq, deqs, boundD, slD, lenD, isT, isSl, ptrIds, chunks, mn_min, mx_max, D.cells, splice_one, splice_more, Rbr_at, Rfr_at, frR, frV, frC, flatC, brwR, brwV, brwC, omap, leR, leV, leC, leL, leVL, hz]
theorem speq_code : cfun Try.prog [] 47 = some ⟨(.seq (.region 0 [⟨(some 4), (.mov (.k (.bool false))), none⟩]) (.seq (.seq (.region 1 [⟨(some 6), (.mov (.t 0)), none⟩, ⟨(some 7), (.len (.t 6)), none⟩, ⟨(some 8), (.mov (.t 1)), none⟩, ⟨(some 9), (.len (.t 8)), none⟩, ⟨(some 10), (.bin .neq (.t 7) (.t 9)), none⟩]) (.cond 10 (.seq (.region 2 [⟨(some 4), (.mov (.k (.bool false))), none⟩]) .ret) .skip)) (.seq (.seq (.region 3 [⟨(some 11), (.mov (.t 0)), none⟩, ⟨(some 12), (.len (.t 11)), none⟩, ⟨(some 13), (.mov (.k (.int .i64 0))), none⟩]) (.block 0 (.loop (.seq (.region 4 [⟨(some 14), (.bin .lss (.t 13) (.t 12)), none⟩]) (.seq (.cond 14 .skip (.exit 0)) (.seq (.block 1 (.seq (.region 5 [⟨(some 15), (.mov (.t 13)), none⟩, ⟨(some 5), (.mov (.t 15)), none⟩]) (.seq (.draw 6 (.one true ⟨(some 16), (.mov (.t 0)), none⟩ (.one true ⟨(some 17), (.mov (.t 5)), none⟩ (.one true ⟨(some 18), (.iads 2 (.t 16) (.t 17)), none⟩ (.one true ⟨(some 19), (.load true 2 (.t 18)), none⟩ (.one true ⟨(some 20), (.mov (.t 1)), none⟩ (.one true ⟨(some 21), (.mov (.t 5)), none⟩ (.one true ⟨(some 22), (.iads 2 (.t 20) (.t 21)), none⟩ (.one true ⟨(some 23), (.load true 2 (.t 22)), none⟩ (.one true ⟨(some 24), (.eqa true [.i, .i] (.t 19) (.t 23)), none⟩ .done)))))))))) (.cond 24 (.seq (.region 7 [⟨(some 4), (.mov (.k (.bool false))), none⟩]) .ret) .skip)))) (.region 8 [⟨(some 25), (.bin .add (.t 13) (.k (.int .i64 1))), none⟩, ⟨(some 13), (.mov (.t 25)), none⟩]))))))) (.seq (.region 9 [⟨(some 4), (.mov (.k (.bool true))), none⟩]) .ret)))), [(.t 4)], 26⟩ := by kernel_rfl
theorem speq_pf (l : List (Int × Int)) (hl : l.length ≤ 1000000) : PF Try.prog 47 [.rows 2 (l.map fun s => [I s.1, I s.2]), .rows 2 (l.map fun s => [I s.1, I s.2])] (.bool true) := by
  refine PF.of follows_ok speq_code (by simp) (by simp [argOk]) (by simp [noV, noC]) fun B hBN hB0 => acode_sound [0, 1, 4, 5, 10, 12, 13, 14, 24] [] _ _ _ ?_
  simp [AK_at, acode_seq, acode_region, acode_draw, acode_cond, ↓CB_t, ↓CB_f, CB_u, acode_block, acode_loop, acode_exit, acode_scope, acode_ret, acode_skip, seqQ_n, seqQ_e, seqQ_r, blockQ_n, blockQ_e, blockQ_r, TK_at, OK_at, SK_at, aops_nil, aops_cons, asch_done, asch_one, asch_two, asch_top, astep, aop_eq, isLoud, aloud, aloud1, isWrite, qv, evS, strip, gof, eget, hget, putO, eput, herase, oks, opnds, gS, afin, afin0, binD, arith, D.cells, takeD, fillD, keep, trim, envOf, Fin, aresl, aresv, resD, argOk, pickV, isP, deq, deqs, boundD, slD, lenD, isT, isSl, ptrIds, chunks, mn_min, mx_max, D.cells, splice_one, splice_more, Rbr_at, Rfr_at, frR, frV, frC, flatC, brwR, brwV, brwC, omap, leR, leV, leC, leL, leVL]
  refine W.loopS (fun i : Nat => ⟨[(13, I i), (12, I l.length), (4, .bool false), (1, D.rows 2 (l.map fun s => [I s.1, I s.2])), (0, D.rows 2 (l.map fun s => [I s.1, I s.2]))], [], 0⟩)
    (fun n i => n = l.length - i ∧ i ≤ l.length) ?_ ?_
  · exact ⟨_, 0, (Gh.ren [] (by simp [hB0]) (by simp [hB0] <;> decide) (by simp [eget, rnS, rnR, rnV, rnC, LtS, LtR, LtV, LtC, lget]) (by simp [hget, rnO, rnC, LtO, LtC, lget]) (.inr rfl)), rfl, by omega⟩
  rintro n i ⟨hn, hi⟩
  refine acode_sound [0, 1, 4, 5, 10, 12, 13, 14, 24] [] _ _ _ ?_
  by_cases hlt : i < l.length
  · have ii : InR ((i : Int) + 1) := inW (by omega) (by omega)
    simp [AK_at, acode_seq, acode_region, acode_draw, acode_cond, ↓CB_t, ↓CB_f, CB_u, acode_block, acode_loop, acode_exit, acode_scope, acode_ret, acode_skip, seqQ_n, seqQ_e, seqQ_r, blockQ_n, blockQ_e, blockQ_r, TK_at, OK_at, SK_at, aops_nil, aops_cons, asch_done, asch_one, asch_two, asch_top, astep, aop_eq, isLoud, aloud, aloud1, isWrite, qv, evS, strip, gof, eget, hget, putO, eput, herase, oks, opnds, gS, afin, afin0, binD, arith, D.cells, takeD, fillD, keep, trim, envOf, Fin, aresl, aresv, resD, argOk, pickV, isP, deq, deqs, boundD, slD, lenD, isT, isSl, ptrIds, chunks, mn_min, mx_max, D.cells, splice_one, splice_more, Rbr_at, Rfr_at, frR, frV, frC, flatC, brwR, brwV, brwC, omap, leR, leV, leC, leL, leVL, hlt, ii]
    exact ⟨_, i + 1, (Gh.ren [] (by simp [hB0]) (by simp [hB0] <;> decide) (by simp [eget, rnS, rnR, rnV, rnC, LtS, LtR, LtV, LtC, lget]) (by simp [hget, rnO, rnC, LtO, LtC, lget]) (.inr rfl)), by omega, rfl, by omega⟩
  · obtain rfl : i = l.length := by omega
    simp [AK_at, acode_seq, acode_region, acode_draw, acode_cond, ↓CB_t, ↓CB_f, CB_u, acode_block, acode_loop, acode_exit, acode_scope, acode_ret, acode_skip, seqQ_n, seqQ_e, seqQ_r, blockQ_n, blockQ_e, blockQ_r, TK_at, OK_at, SK_at, aops_nil, aops_cons, asch_done, asch_one, asch_two, asch_top, astep, aop_eq, isLoud, aloud, aloud1, isWrite, qv, evS, strip, gof, eget, hget, putO, eput, herase, oks, opnds, gS, afin, afin0, binD, arith, D.cells, takeD, fillD, keep, trim, envOf, Fin, aresl, aresv, resD, argOk, pickV, isP, deq, deqs, boundD, slD, lenD, isT, isSl, ptrIds, chunks, mn_min, mx_max, D.cells, splice_one, splice_more, Rbr_at, Rfr_at, frR, frV, frC, flatC, brwR, brwV, brwC, omap, leR, leV, leC, leL, leVL]
theorem iidx_code : cfun Try.prog [] 50 = some ⟨(.seq (.region 0 [⟨(some 4), (.mov (.k (.int .i64 0))), none⟩]) (.seq (.seq (.region 1 [⟨(some 6), (.mov (.t 0)), none⟩, ⟨(some 7), (.len (.t 6)), none⟩, ⟨(some 8), (.mov (.k (.int .i64 0))), none⟩]) (.block 0 (.loop (.seq (.region 2 [⟨(some 9), (.bin .lss (.t 8) (.t 7)), none⟩]) (.seq (.cond 9 .skip (.exit 0)) (.seq (.block 1 (.seq (.region 3 [⟨(some 10), (.mov (.t 8)), none⟩, ⟨(some 5), (.mov (.t 10)), none⟩]) (.seq (.region 4 [⟨(some 11), (.mov (.t 1)), none⟩, ⟨(some 12), (.mov (.t 0)), none⟩, ⟨(some 13), (.mov (.t 5)), none⟩, ⟨(some 14), (.iads 1 (.t 12) (.t 13)), none⟩, ⟨(some 15), (.load false 1 (.t 14)), none⟩, ⟨(some 16), (.bin .eql (.t 11) (.t 15)), none⟩]) (.cond 16 (.seq (.region 5 [⟨(some 17), (.mov (.t 5)), none⟩, ⟨(some 4), (.mov (.t 17)), none⟩]) .ret) .skip)))) (.region 6 [⟨(some 18), (.bin .add (.t 8) (.k (.int .i64 1))), none⟩, ⟨(some 8), (.mov (.t 18)), none⟩]))))))) (.seq (.region 7 [⟨(some 4), (.mov (.k (.int .i64 (-1)))), none⟩]) .ret))), [(.t 4)], 19⟩ := by kernel_rfl
theorem iidx_pf (l : List Int) (b : Int) (hl : l.length ≤ 1000000) : PF Try.prog 50 [.rows 1 (l.map fun z => [I z]), I b] (I (idxZ (fun z => decide (b = z)) l)) := by
  refine PF.of follows_ok iidx_code (by simp) (by simp [argOk]) (by simp [noV, noC]) fun B hBN hB0 => acode_sound [0, 1, 4, 5, 7, 8, 9, 16] [] _ _ _ ?_
  simp [AK_at, acode_seq, acode_region, acode_draw, acode_cond, ↓CB_t, ↓CB_f, CB_u, acode_block, acode_loop, acode_exit, acode_scope, acode_ret, acode_skip, seqQ_n, seqQ_e, seqQ_r, blockQ_n, blockQ_e, blockQ_r, TK_at, OK_at, SK_at, aops_nil, aops_cons, asch_done, asch_one, asch_two, asch_top, astep, aop_eq, isLoud, aloud, aloud1, isWrite, qv, evS, strip, gof, eget, hget, putO, eput, herase, oks, opnds, gS, afin, afin0, binD, arith, D.cells, takeD, fillD, keep, trim, envOf, Fin, aresl, aresv, resD, argOk, pickV, isP, deq, deqs, boundD, slD, lenD, isT, isSl, ptrIds, chunks, mn_min, mx_max, D.cells, splice_one, splice_more, Rbr_at, Rfr_at, frR, frV, frC, flatC, brwR, brwV, brwC, omap, leR, leV, leC, leL, leVL]
  refine W.loopS (fun i : Nat => ⟨[(8, I i), (7, I l.length), (4, I 0), (1, I b), (0, D.rows 1 (l.map fun z => [I z]))], [], 0⟩)
    (fun n i => n = l.length - i ∧ i ≤ l.length ∧ ∀ j (hj : j < l.length), j < i → ¬ b = l[j]) ?_ ?_
  · exact ⟨_, 0, (Gh.ren [] (by simp [hB0]) (by simp [hB0] <;> decide) (by simp [eget, rnS, rnR, rnV, rnC, LtS, LtR, LtV, LtC, lget]) (by simp [hget, rnO, rnC, LtO, LtC, lget]) (.inr rfl)), rfl, by omega, fun j _ h => by omega⟩
  rintro n i ⟨hn, hi, hb⟩
  refine acode_sound [0, 1, 4, 5, 7, 8, 9, 16] [] _ _ _ ?_
  by_cases hlt : i < l.length
  · have ii : InR ((i : Int) + 1) := inW (by omega) (by omega)
    by_cases hq : b = l[i]
    · have hz := idxZ_at (fun z => decide (b = z)) l i hlt (fun j hj => by simpa using hb j (by omega) hj) (by simpa using hq)
      simp [AK_at, acode_seq, acode_region, acode_draw, acode_cond, ↓CB_t, ↓CB_f, CB_u, acode_block, acode_loop, acode_exit, acode_scope, acode_ret, acode_skip, seqQ_n, seqQ_e, seqQ_r, blockQ_n, blockQ_e, blockQ_r, TK_at, OK_at, SK_at, aops_nil, aops_cons, asch_done, asch_one, asch_two, asch_top, astep, aop_eq, isLoud, aloud, aloud1, isWrite, qv, evS, strip, gof, eget, hget, putO, eput, herase, oks, opnds, gS, afin, afin0, binD, arith, D.cells, takeD, fillD, keep, trim, envOf, Fin, aresl, aresv, resD, argOk, pickV, isP, deq, deqs, boundD, slD, lenD, isT, isSl, ptrIds, chunks, mn_min, mx_max, D.cells, splice_one, splice_more, Rbr_at, Rfr_at, frR, frV, frC, flatC, brwR, brwV, brwC, omap, leR, leV, leC, leL, leVL, hlt, ← hq, hz]
    · simp [AK_at, acode_seq, acode_region, acode_draw, acode_cond, ↓CB_t, ↓CB_f, CB_u, acode_block, acode_loop, acode_exit, acode_scope, acode_ret, acode_skip, seqQ_n, seqQ_e, seqQ_r, blockQ_n, blockQ_e, blockQ_r, TK_at, OK_at, SK_at, aops_nil, aops_cons, asch_done, asch_one, asch_two, asch_top, astep, aop_eq, isLoud, aloud, aloud1, isWrite, qv, evS, strip, gof, eget, hget, putO, eput, herase, oks, opnds, gS, afin, afin0, binD, arith, D.cells, takeD, fillD, keep, trim, envOf, Fin, aresl, aresv, resD, argOk, pickV, isP, deq, deqs, boundD, slD, lenD, isT, isSl, ptrIds, chunks, mn_min, mx_max, D.cells, splice_one, splice_more, Rbr_at, Rfr_at, frR, frV, frC, flatC, brwR, brwV, brwC, omap, leR, leV, leC, leL, leVL, hlt, hq, ii]
      exact ⟨_, i + 1, (Gh.ren [] (by simp [hB0]) (by simp [hB0] <;> decide) (by simp [eget, rnS, rnR, rnV, rnC, LtS, LtR, LtV, LtC, lget]) (by simp [hget, rnO, rnC, LtO, LtC, lget]) (.inr rfl)), by omega, rfl, by omega, fun j hj h => by
        by_cases hji : j = i
        · subst hji; exact hq
        · exact hb j hj (by omega)⟩
  · have hz := idxZ_none (fun z => decide (b = z)) l fun x hx => by
      obtain ⟨j, hj⟩ := List.getElem?_of_mem hx
      obtain ⟨hj2, rfl⟩ := List.getElem?_eq_some_iff.1 hj
      simpa using hb j hj2 (by omega)
    obtain rfl : i = l.length := by omega
    simp [AK_at, acode_seq, acode_region, acode_draw, acode_cond, ↓CB_t, ↓CB_f, CB_u, acode_block, acode_loop, acode_exit, acode_scope, acode_ret, acode_skip, seqQ_n, seqQ_e, seqQ_r, blockQ_n, blockQ_e, blockQ_r, TK_at, OK_at, SK_at, aops_nil, aops_cons, asch_done, asch_one, asch_two, asch_top, astep, aop_eq, isLoud, aloud, aloud1, isWrite, qv, evS, strip, gof, eget, hget, putO, eput, herase, oks, opnds, gS, afin, afin0, binD, arith, D.cells, takeD, fillD, keep, trim, envOf, Fin, aresl, aresv, resD, argOk, pickV, isP, deq, deqs, boundD, slD, lenD, isT, isSl, ptrIds, chunks, mn_min, mx_max, D.cells, splice_one, splice_more, Rbr_at, Rfr_at, frR, frV, frC, flatC, brwR, brwV, brwC, omap, leR, leV, leC, leL, leVL, hz]
theorem idxZ_mem (l : List Int) (b : Int) : 0 ≤ idxZ (fun z => decide (b = z)) l ↔ b ∈ l := by
  constructor
  · intro h
    obtain ⟨h1, h2, _⟩ := idxZ_get _ l h
    have h3 : b = l[(idxZ (fun z => decide (b = z)) l).toNat] := by simpa using h2
    exact h3 ▸ List.getElem_mem h1
  · intro h
    exact idxZ_some _ l ⟨b, h, by simp⟩
theorem icon_code : cfun Try.prog [] 31 = some ⟨(.seq (.region 0 [⟨(some 4), (.mov (.k (.bool false))), none⟩]) (.seq (.region 1 [⟨(some 5), (.mov (.t 0)), none⟩, ⟨(some 6), (.mov (.t 1)), none⟩, ⟨(some 7), (.call 50 [(.t 5), (.t 6)]), none⟩, ⟨(some 8), (.bin .geq (.t 7) (.k (.int .i64 0))), none⟩, ⟨(some 4), (.mov (.t 8)), none⟩]) .ret)), [(.t 4)], 9⟩ := by kernel_rfl
theorem icon_pf (l : List Int) (b : Int) (hl : l.length ≤ 1000000) : PF Try.prog 31 [.rows 1 (l.map fun z => [I z]), I b] (.bool (decide (b ∈ l))) := by
  have h1 := iidx_pf l b hl
  have h2 := idxZ_mem l b
  refine PF.of follows_ok icon_code (by simp) (by simp [argOk]) (by simp [noV, noC]) fun B hBN hB0 => acode_sound [0, 1, 4] [] _ _ _ ?_
  repeat' (first
    | simp [AK_at, acode_seq, acode_region, acode_draw, acode_cond, ↓CB_t, ↓CB_f, CB_u, acode_block, acode_loop, acode_exit, acode_scope, acode_ret, acode_skip, seqQ_n, seqQ_e, seqQ_r, blockQ_n, blockQ_e, blockQ_r, TK_at, OK_at, SK_at, aops_nil, aops_cons, asch_done, asch_one, asch_two, asch_top, astep, aop_eq, isLoud, aloud, aloud1, isWrite, qv, evS, strip, gof, eget, hget, putO, eput, herase, oks, opnds, gS, afin, afin0, binD, arith, D.cells, takeD, fillD, keep, trim, envOf, Fin, aresl, aresv, resD, argOk, pickV, isP, deq, deqs, boundD, slD, lenD, isT, isSl, ptrIds, chunks, mn_min, mx_max, D.cells, splice_one, splice_more, Rbr_at, Rfr_at, frR, frV, frC, flatC, brwR, brwV, brwC, omap, leR, leV, leC, leL, leVL, h2]
    | (refine WCall.pf (h1) ?_ ?_ ?_ ?_; (focus (simp [oks, opnds, gS, gof, eget]; done)); (focus (simp [omap, brwV, brwC, evS, eget, strip, hget, leVL, leV, leC, leL, h2]; done)); (focus (simp [noV, noC, flatR, flatV, flatC, evS, eget, strip, h2]; done)))
    | (refine ⟨WCall.pf (h1) ?_ ?_ ?_ ?_, ?_⟩; (focus (simp [oks, opnds, gS, gof, eget]; done)); (focus (simp [omap, brwV, brwC, evS, eget, strip, hget, leVL, leV, leC, leL, h2]; done)); (focus (simp [noV, noC, flatR, flatV, flatC, evS, eget, strip, h2]; done)))
    | (with_reducible refine And.intro (And.intro ?_ ?_) ?_)
    | fail)
end Go.Proofs.Ytajimebannjofaa

set_option linter.unusedSimpArgs false
set_option linter.unusedVariables false
set_option maxRecDepth 100000
set_option maxHeartbeats 4000000
namespace Go.Proofs.Ytajimebannjofaa
open Go.RowKit Go.Shelf
attribute [local go_sem] Oper.semAt_some

theorem ralong_in (a : Option Addr) (m c : Nat) (z : Int) (n : Nat) (w : World) :
    CallsIn Fence.wide n Try.prog 30 #[.slice a m c, .int .i64 z] w fun e w' => e = .returned (.func (.func 48) #[] #[.pointer (some ⟨w.heap.size, 0, none⟩), .pointer (some ⟨w.heap.size + 1, 0, none⟩)]) ∧
      w' = (w.alloc (.cells #[.slice a m c] 49)).alloc (.cells #[.int .i64 z] 3) := by
  refine callsIn_of_wp Try.func30 rfl trivial ?_ rfl
  simp only [Try.ntmps30, List.size_toArray, List.length_cons, List.length_nil, Nat.reduceAdd, Nat.reduceSub, Array.replicate_succ, Array.replicate_zero, List.push_toArray, List.append_toArray, List.nil_append, List.cons_append]
  gi_wp2
  go_ret
  exact ⟨by simp, rfl⟩

/-- the list from place f on, once round -/
def rotL {α : Type} (xs : List α) (f : Nat) : List α := xs.drop f ++ xs.take f
theorem rotL_len {α : Type} (xs : List α) (f : Nat) (h : f ≤ xs.length) : (rotL xs f).length = xs.length := by simp [rotL]; omega
theorem rotL_get {α : Type} (xs : List α) (f k : Nat) (hf : f ≤ xs.length) (hk : k < xs.length) : (rotL xs f)[k]? = xs[(f + k) % xs.length]? := by
  unfold rotL
  by_cases h : f + k < xs.length
  · rw [List.getElem?_append_left (by simp; omega), List.getElem?_drop, Nat.mod_eq_of_lt h]
  · have e : (f + k) % xs.length = f + k - xs.length := by
      rw [Nat.mod_eq_sub_mod (by omega), Nat.mod_eq_of_lt (by omega)]
    rw [List.getElem?_append_right (by simp; omega), List.length_drop, List.getElem?_take, if_pos (by omega), e]
    congr 1
    omega
theorem rotL_take {α : Type} (xs : List α) (f k : Nat) (x : α) (h : (rotL xs f)[k]? = some x) : (rotL xs f).take (k + 1) = (rotL xs f).take k ++ [x] := by
  rw [List.take_add_one, h]; rfl

/-- cells of blocks below n, but for block bo, are kept -/
def Kc (n bo : Nat) (A B : World) : Prop := ∀ p v, p.block < n → p.block ≠ bo → A.cell? p = some v → B.cell? p = some v
theorem Kc.below {n bo : Nat} {A B : World} (h : Below A.heap.size A B) : Kc n bo A B := fun p v _ _ hv => by
  rw [h.cell (World.block_lt_of_cell? A p hv)]; exact hv
/-- what the iterator reads -/
structure Rd (W : World) (n bo b1 b2 b off cap : Nat) (a : Option Addr) (z : Int) (xs : List (Int × Int)) : Prop where
  l1 : b1 < n ∧ b1 ≠ bo
  l2 : b2 < n ∧ b2 ≠ bo
  l3 : xs ≠ [] → a = some ⟨b, off, none⟩ ∧ b < n ∧ b ≠ bo
  c1 : W.cell? ⟨b1, 0, none⟩ = some (.slice a xs.length cap)
  c2 : W.cell? ⟨b2, 0, none⟩ = some (.int .i64 z)
  c3 : ∀ i x, xs[i]? = some x → W.cell? ⟨b, off + i * 2, none⟩ = some (.int .i64 x.1) ∧ W.cell? ⟨b, off + i * 2 + 1, none⟩ = some (.int .i64 x.2)
theorem Rd.keep {A B : World} {n bo b1 b2 b off cap : Nat} {a : Option Addr} {z : Int} {xs : List (Int × Int)} (h : Rd A n bo b1 b2 b off cap a z xs) (hk : Kc n bo A B) : Rd B n bo b1 b2 b off cap a z xs :=
  ⟨h.l1, h.l2, h.l3, hk _ _ h.l1.1 h.l1.2 h.c1, hk _ _ h.l2.1 h.l2.2 h.c2, fun i x hx => by
    have hne : xs ≠ [] := by rintro rfl; simp at hx
    obtain ⟨_, h1, h2⟩ := h.l3 hne
    exact ⟨hk _ _ h1 h2 (h.c3 i x hx).1, hk _ _ h1 h2 (h.c3 i x hx).2⟩⟩
theorem vt_spots {W : World} {b off cap : Nat} {a : Option Addr} {xs : List (Int × Int)} (hcap : xs.length ≤ cap) (ha : xs ≠ [] → a = some ⟨b, off, none⟩)
    (hc : ∀ i x, xs[i]? = some x → W.cell? ⟨b, off + i * 2, none⟩ = some (.int .i64 x.1) ∧ W.cell? ⟨b, off + i * 2 + 1, none⟩ = some (.int .i64 x.2)) :
    VT (fun b o => W.cell? ⟨b, o, none⟩) (.rows 2 (xs.map fun x : Int × Int => [I x.1, I x.2])) (.slice a xs.length cap) := by
  by_cases h0 : xs = []
  · subst h0; exact VT.rnil _ _ _
  obtain rfl := ha h0
  have := VT.rows (Z := fun b o => W.cell? ⟨b, o, none⟩) 2 (xs.map fun x : Int × Int => [I x.1, I x.2]) b off cap (fun i j => .int .i64 (if j = 0 then (xs.getD i (0, 0)).1 else (xs.getD i (0, 0)).2)) (by simpa using hcap) ?_ ?_
  · simpa using this
  · intro i row j d hi hj
    rw [List.getElem?_map] at hi
    cases hx : xs[i]? with
    | none => rw [hx] at hi; cases hi
    | some x =>
      rw [hx] at hi
      simp only [Option.map_some, Option.some.injEq] at hi
      subst hi
      match j, hj with
      | 0, hj => exact ⟨by omega, by simpa [hx] using (hc i x hx).1⟩
      | 1, hj => exact ⟨by omega, by simpa [hx] using (hc i x hx).2⟩
      | j + 2, hj => simp at hj
  · intro i row j d hi hj
    rw [List.getElem?_map] at hi
    cases hx : xs[i]? with
    | none => rw [hx] at hi; cases hi
    | some x =>
      rw [hx] at hi
      simp only [Option.map_some, Option.some.injEq] at hi
      subst hi
      have hg : xs.getD i (0, 0) = x := by rw [List.getD_eq_getElem?_getD, hx]; rfl
      match j, hj with
      | 0, hj => simp at hj; subst hj; simp only [hg, if_true]; exact VT.int _ _
      | 1, hj => simp at hj; subst hj; simp only [hg, Nat.one_ne_zero, if_false]; exact VT.int _ _
      | j + 2, hj => simp at hj
theorem grown_of_below {A B : World} (h : Below A.heap.size A B) : A.grownBy B none := ⟨h.os, h.tape, h.output, h.size, fun k hk _ => h.block k hk⟩
/-- the place where a walk from z begins -/
def fromM (z : Int) (xs : List (Int × Int)) : Nat := lowB (fun x => decide (ord2 x.1 x.2 z (-1) < 0)) xs
def spV (x : Int × Int) : Array Value := #[.agg #[.int .i64 x.1, .int .i64 x.2]]
theorem bsf_in (a : Option Addr) (cap : Nat) (z : Int) (xs : List (Int × Int)) (n : Nat) (W : World) (hl : xs.length ≤ 1000000)
    (hmono : ∀ i j (hi : i < xs.length) (hj : j < xs.length), i ≤ j → ord2 xs[j].1 xs[j].2 z (-1) < 0 → ord2 xs[i].1 xs[i].2 z (-1) < 0)
    (hV : VT (fun b o => W.cell? ⟨b, o, none⟩) (.rows 2 (xs.map fun x : Int × Int => [I x.1, I x.2])) (.slice a xs.length cap)) :
    CallsIn Fence.wide n Try.prog 49 #[.slice a xs.length cap, .agg #[.int .i64 z, .int .i64 (-1)], .func (.func 36) #[] #[]] W
      fun e w' => (∃ t : Bool, e = .returned (.tuple #[.int .i64 (fromM z xs), .bool t])) ∧ Below W.heap.size W w' := by
  have hpf := spbsf_pf (fun x : Int × Int => [I x.1, I x.2]) xs 36 z (-1) (fun x => ord2 x.1 x.2 z (-1)) hl (fun x _ => ⟨rfl, fun d hd => by simp at hd; rcases hd with rfl | rfl <;> rfl⟩) (fun s _ => rord_pf s.1 s.2 z (-1)) hmono
  refine (hpf.wide (fun b o => W.cell? ⟨b, o, none⟩) W _ (fun _ _ _ h => h) rfl ?_).mono ?_
  · intro j x hx
    match j, hx with
    | 0, hx => simp at hx; subst hx; exact hV
    | 1, hx =>
      simp at hx; subst hx
      refine ⟨_, rfl, rfl, fun k y hy => ?_⟩
      match k, hy with
      | 0, hy => simp at hy; subst hy; exact VT.int _ _
      | 1, hy => simp at hy; subst hy; exact VT.int _ _
      | k + 2, hy => simp at hy
    | 2, hx => simp at hx; subst hx; exact VT.fn _ _ _ rfl (fun j d hd => by simp at hd)
    | j + 3, hx => simp at hx
  · rintro e w' ⟨v, Z', rfl, hr, _, hb⟩
    refine ⟨?_, hb⟩
    obtain ⟨us, rfl, hs, hu⟩ := hr
    have u0 := hu 0 _ rfl
    have u1 := hu 1 _ rfl
    match us, hs, u0, u1 with
    | ⟨[p, q]⟩, _, u0, u1 =>
      have e0 : p = .int .i64 (fromM z xs) := by
        have : VT Z' (I (fromM z xs)) p := u0
        cases this; rfl
      obtain ⟨t, e1⟩ : ∃ t, q = .bool t := by
        have : VT Z' (.bool _) q := u1
        cases this; exact ⟨_, rfl⟩
      exact ⟨t, by rw [e0, e1]⟩

theorem ralong1_in (n : Nat) (hn1 : 1 ≤ n) (l b1 b2 b off cap n0 bo : Nat) (a : Option Addr) (z : Int) (xs : List (Int × Int)) (J Jx : List (Int × Int) → World → Prop) (W : World) (hl : xs.length ≤ 1000000) (hcap : xs.length ≤ cap)
    (hmono : ∀ i j (hi : i < xs.length) (hj : j < xs.length), i ≤ j → ord2 xs[j].1 xs[j].2 z (-1) < 0 → ord2 xs[i].1 xs[i].2 z (-1) < 0)
    (hn : n0 ≤ W.heap.size) (hJ : AbidesFrom W.heap.size J)
    (hY : ∀ pre x W1, J pre W1 → pre.length < xs.length → YieldAt Fence.wide (n - 1) Try.prog l (spV x) W1 fun e W' =>
      (e = .returned (.bool true) ∧ J (pre ++ [x]) W' ∧ Kc n0 bo W1 W') ∨ (e = .returned (.bool false) ∧ Jx (pre ++ [x]) W'))
    (hR : Rd W n0 bo b1 b2 b off cap a z xs) (hJ0 : J [] W) :
    CallsIn Fence.wide n Try.prog 48 (#[.func (.yield l) #[] #[]] ++ #[.pointer (some ⟨b1, 0, none⟩), .pointer (some ⟨b2, 0, none⟩)]) W fun e W' => (∃ v, e = .returned v) ∧
      ((∃ ys, ys = rotL xs (fromM z xs) ∧ J ys W') ∨ (∃ pre, True ∧ Jx pre W')) := by
  have hfle : fromM z xs ≤ xs.length := lowB_le _ _
  obtain ⟨f, hf⟩ : ∃ f, f = fromM z xs := ⟨_, rfl⟩
  have hbsf := fun W' hV => bsf_in a cap z xs (n - 1) W' hl hmono hV
  rw [← hf] at hfle hbsf ⊢
  clear hf
  refine callsIn_of_wp Try.func48 rfl trivial ?_ rfl
  simp only [Try.ntmps48, List.size_toArray, List.length_cons, List.length_nil, Nat.reduceAdd, Nat.reduceSub, Array.replicate_succ, Array.replicate_zero, List.push_toArray, List.append_toArray, List.nil_append, List.cons_append]
  have w1 : Fence.wide.fn 49 := trivial
  have hc1 := hR.c1
  have hc2 := hR.c2
  gi_wp2_with (gi_at_call 49; refine (hbsf _ (vt_spots hcap (fun h => (hR.l3 h).1) hR.c3)).mono ?_; rintro e w' ⟨⟨t, rfl⟩, hb⟩; have hR' : Rd w' n0 bo b1 b2 b off cap a z xs := hR.keep (Kc.below hb); have hd1 := hR'.c1; have hd2 := hR'.c2)
  have hJ1 : J [] w' := hJ [] W w' none hJ0 (grown_of_below hb) (fun r e => by cases e)
  have hJ2 : AbidesFrom w'.heap.size J := fun s A B row hs hg hr => hJ s A B row hs hg fun r e => ⟨Nat.le_trans hb.size (hr r e).1, (hr r e).2⟩
  gi_loopw [16] (fun p wr => ∃ k : Nat, p = .int .i64 k ∧ k ≤ xs.length ∧ J ((rotL xs f).take k) wr ∧ Rd wr n0 bo b1 b2 b off cap a z xs)
    (fun p wr => match p with | .int _ m => xs.length - m.toNat | _ => 0)
  case atStart => exact ⟨0, rfl, Nat.zero_le _, hJ1, hR'⟩
  case round =>
    obtain ⟨k, rfl, hk, hJk, hRk⟩ := hrel
    have e1 := hRk.c1
    by_cases hlt : k < xs.length
    · have hlt' : (k : Int) < xs.length := by omega
      have h0 : 0 < xs.length := by omega
      have ha := (hRk.l3 (by rintro rfl; simp at h0)).1
      subst ha
      obtain ⟨x, hx⟩ : ∃ x, (rotL xs f)[k]? = some x := ⟨_, List.getElem?_eq_getElem (by rw [rotL_len xs f hfle]; exact hlt)⟩
      have hx2 : xs[(f + k) % xs.length]? = some x := by rw [← rotL_get xs f k hfle hlt]; exact hx
      obtain ⟨g1, g2⟩ := hRk.c3 _ x hx2
      gi_wp2
      refine wpIn_region_still_tail 10 (by kernel_rfl) (by kernel_rfl) ?_
      obtain ⟨w2, hw2⟩ : ∃ w2, w2 = ({ wr with drawn := wr.drawn + 1 } : World) := ⟨_, rfl⟩
      have hb2 : Below wr.heap.size wr w2 := by rw [hw2]; exact ⟨rfl, rfl, rfl, Nat.le_refl _, fun _ _ => rfl⟩
      replace hJk : J ((rotL xs f).take k) w2 := hJ2 _ wr w2 none hJk (grown_of_below hb2) (fun r e => by cases e)
      replace hRk : Rd w2 n0 bo b1 b2 b off cap _ z xs := hRk.keep (Kc.below hb2)
      replace e1 := hRk.c1
      replace g1 := (hRk.c3 _ x hx2).1
      replace g2 := (hRk.c3 _ x hx2).2
      rw [← hw2]
      clear hw2 hb2
      simp only [List.take_succ_cons, List.take_zero, List.drop_succ_cons, List.drop_zero]
      repeat still_step
      have hwr : IntKind.i64.wrap ((f : Int) + k) = ((f + k : Nat) : Int) := by rw [wrap_in ⟨by omega, by omega⟩]; omega
      have h0' : ¬ (xs.length : Int) = 0 := by omega
      have htm : Int.tmod ((f + k : Nat) : Int) (xs.length : Int) = (((f + k) % xs.length : Nat) : Int) := by rw [Int.tmod_eq_emod_of_nonneg (by omega)]; rfl
      have hmlt : (f + k) % xs.length < xs.length := Nat.mod_lt _ h0
      have hw3 : IntKind.i64.wrap (((f + k) % xs.length : Nat) : Int) = (((f + k) % xs.length : Nat) : Int) := wrap_in ⟨by omega, by omega⟩
      rw [hwr]
      obtain ⟨q, hq⟩ : ∃ q, q = (f + k) % xs.length := ⟨_, rfl⟩
      rw [← hq] at htm hw3 g1 g2 hmlt
      obtain ⟨p, hp⟩ : ∃ p, p = f + k := ⟨_, rfl⟩
      rw [← hp] at htm ⊢
      clear hwr hq hp
      have hne : ¬ xs = [] := by rintro rfl; simp at h0
      refine wpStill_step fun K hK => ?_
      simp [go_sem, Oper.still, Oper.stillUpon, h0', htm, hw3, hne]
      refine hK _ ?_
      clear hK K
      repeat still_step
      refine wpStill_nil ?_
      obtain ⟨fn, tmps, assign, body, hy, hRd⟩ := hY _ x w2 hJk (by rw [List.length_take, rotL_len xs f hfle]; omega)
      simp only [spV] at hy
      gi_wp2
      refine hRd.mono ?_
      rintro e W3 (⟨rfl, hJ3, hk3⟩ | ⟨rfl, hJx3⟩)
      · gi_wp2
        go_roundw
        case rel => exact ⟨k + 1, by simp, by omega, by rw [rotL_take xs f k x hx]; exact hJ3, hRk.keep hk3⟩
        case measure => simp; omega
      · gi_wp2
        refine bodyPost_ret (results_none rfl _ _ _) rfl ?_
        exact ⟨⟨_, rfl⟩, .inr ⟨_, trivial, hJx3⟩⟩
    · have hkl : k = xs.length := by omega
      subst hkl
      gi_wp2
      go_end0
      exact ⟨⟨_, rfl⟩, .inl ⟨_, rfl, by rw [List.take_of_length_le (by rw [rotL_len xs f hfle]; exact Nat.le_refl _)] at hJk; exact hJk⟩⟩
end Go.Proofs.Ytajimebannjofaa

set_option linter.unusedSimpArgs false
set_option linter.unusedVariables false
set_option maxRecDepth 100000
set_option maxHeartbeats 4000000
namespace Go.Proofs.Ytajimebannjofaa
open Go.RowKit Go.Shelf Go.Lib Go.Sort
shelf_lay_g SlLaysF0.n6 Slsf 6 at Try 35 as sortSp
shelf_lay_g SlLaysC2.n5 Slgc 5 at Try 55 as cmpIn
def orZ (x y : Int) : Int := if x ≠ 0 then x else y
theorem or_calls (b off c : Nat) (x y : Int) (W : World) (hx : W.cell? ⟨b, off, none⟩ = some (.int .i64 x)) (hy : W.cell? ⟨b, off + 1, none⟩ = some (.int .i64 y)) :
    Calls Try.prog 54 #[.slice (some ⟨b, off, none⟩) 2 c] W fun e w' => e = .returned (.int .i64 (orZ x y)) ∧ w' = W := by
  go_enter Try.func54, Try.ntmps54
  go_wp2
  go_loop [5, 8] (fun _ i => ∃ k : Nat, k ≤ 2 ∧ i = .int .i64 k ∧ (0 < k → x = 0) ∧ (1 < k → y = 0)) (fun _ i => match i with | .int _ m => 2 - m.toNat | _ => 0)
  case atStart => exact ⟨0, Nat.zero_le _, rfl, by simp, by simp⟩
  case round =>
    obtain ⟨k, hk, rfl, h1, h2⟩ := hrel
    rcases (show k = 0 ∨ k = 1 ∨ k = 2 by omega) with rfl | rfl | rfl
    · go_wp2
      · go_ret
        refine ⟨?_, rfl⟩
        unfold orZ
        simp_all
      · refine ⟨⟨1, by omega, rfl, fun _ => by simp_all, fun h => by omega⟩, by simp⟩
    · obtain rfl := h1 (by omega)
      go_wp2
      · go_ret
        refine ⟨?_, rfl⟩
        unfold orZ
        simp_all
      · refine ⟨⟨2, by omega, rfl, fun _ => by simp_all, fun _ => by simp_all⟩, by simp⟩
    · obtain rfl := h1 (by omega)
      obtain rfl := h2 (by omega)
      go_wp2
      go_ret
      exact ⟨rfl, rfl⟩
def cfSp (a b : Int × Int) : Int := orZ (Lib.compareInt a.1 b.1) (Lib.compareInt a.2 b.2)
theorem order_calls (a b : Int × Int) (W : World) : Calls Try.prog 36 #[.agg #[.int .i64 a.1, .int .i64 a.2], .agg #[.int .i64 b.1, .int .i64 b.2]] W fun e w' => e = .returned (.int .i64 (cfSp a b)) ∧ ∃ q os', w' = grow (W.drewN q) os' := by
  have hcon := fun x y W' => AnyG.cmp_Compare_int cmpIn x y W'
  change ∀ x y W', Calls Try.prog 55 _ _ _ at hcon
  have hor := or_calls
  obtain ⟨a1, a2⟩ := a
  obtain ⟨b1, b2⟩ := b
  unfold cfSp
  simp only
  go_enter Try.func36, Try.ntmps36
  go_wp2
  obtain ⟨w1, hw1⟩ : ∃ w1, w1 = ((W.alloc (.cells #[.int .i64 a1, .int .i64 a2] 61)).alloc (.cells #[.int .i64 b1, .int .i64 b2] 61)) := ⟨_, rfl⟩
  have hg1 : w1 = grow W #[.cells #[.int .i64 a1, .int .i64 a2] 61, .cells #[.int .i64 b1, .int .i64 b2] 61] := by rw [hw1, alloc_eq_grow, alloc_eq_grow, grow_grow]; rfl
  have c1 : w1.cell? ⟨W.heap.size, 0, none⟩ = some (.int .i64 a1) := by rw [hg1]; simp [World.cell?, grow]
  have c2 : w1.cell? ⟨W.heap.size, 1, none⟩ = some (.int .i64 a2) := by rw [hg1]; simp [World.cell?, grow]
  have c3 : w1.cell? ⟨W.heap.size + 1, 0, none⟩ = some (.int .i64 b1) := by rw [hg1]; simp [World.cell?, grow]
  have c4 : w1.cell? ⟨W.heap.size + 1, 1, none⟩ = some (.int .i64 b2) := by rw [hg1]; simp [World.cell?, grow]
  rw [← hw1]
  clear hw1
  refine wp_region_still_tail 10 (by kernel_rfl) (by kernel_rfl) ?_
  obtain ⟨w2, hw2⟩ : ∃ w2, w2 = ({ w1 with drawn := w1.drawn + 1 } : World) := ⟨_, rfl⟩
  have hg2 : ∃ os', w2 = grow (W.drewN 1) os' := ⟨_, by rw [hw2, hg1]; rfl⟩
  replace c1 : w2.cell? ⟨W.heap.size, 0, none⟩ = some (.int .i64 a1) := by rw [hw2]; exact c1
  replace c2 : w2.cell? ⟨W.heap.size, 1, none⟩ = some (.int .i64 a2) := by rw [hw2]; exact c2
  replace c3 : w2.cell? ⟨W.heap.size + 1, 0, none⟩ = some (.int .i64 b1) := by rw [hw2]; exact c3
  replace c4 : w2.cell? ⟨W.heap.size + 1, 1, none⟩ = some (.int .i64 b2) := by rw [hw2]; exact c4
  rw [← hw2]
  clear hw2 hg1
  simp only [List.take_succ_cons, List.take_zero, List.drop_succ_cons, List.drop_zero]
  repeat still_step
  still_call (hcon _ _ _)
  repeat still_step
  still_call (hcon _ _ _)
  refine wpStill_nil ?_
  have d1 : ∀ l1 l2 : Value, (w2.alloc (.cells #[l1, l2] 3)).cell? ⟨w2.heap.size, 0, none⟩ = some l1 := fun l1 l2 => by rw [alloc_eq_grow]; unfold World.cell? grow; simp only [Array.getElem?_append_right (Nat.le_refl _), Nat.sub_self]; rfl
  have d2 : ∀ l1 l2 : Value, (w2.alloc (.cells #[l1, l2] 3)).cell? ⟨w2.heap.size, 0 + 1, none⟩ = some l2 := fun l1 l2 => by rw [alloc_eq_grow]; unfold World.cell? grow; simp only [Array.getElem?_append_right (Nat.le_refl _), Nat.sub_self]; rfl
  go_wp2_with (go_at_call 54; refine (hor w2.heap.size 0 2 (Lib.compareInt a1 b1) (Lib.compareInt a2 b2) _ (d1 _ _) (d2 _ _)).mono ?_; rintro e w' ⟨rfl, rfl⟩)
  go_ret
  obtain ⟨os', rfl⟩ := hg2
  rw [alloc_eq_grow, grow_grow]
  exact ⟨rfl, 1, _, rfl⟩
def spE (a : Int × Int) : List D := [I a.1, I a.2]
def encSp (a : Int × Int) : List Value := [.int .i64 a.1, .int .i64 a.2]
theorem ltSp (a b : Int × Int) : ltOf cfSp a b = decide (a.1 < b.1 ∨ (a.1 = b.1 ∧ a.2 < b.2)) := by
  unfold ltOf cfSp orZ Lib.compareInt
  obtain ⟨a1, a2⟩ := a
  obtain ⟨b1, b2⟩ := b
  simp only
  by_cases h1 : a1 < b1 <;> by_cases h2 : b1 < a1 <;> by_cases h3 : a2 < b2 <;> by_cases h4 : b2 < a2 <;> simp [h1, h2, h3, h4] <;> omega
theorem swoSp : SWO (ltOf cfSp) where
  irrefl x := by rw [ltSp]; simp
  trans x y z h1 h2 := by rw [ltSp] at *; simp at *; omega
  ntrans x y z h1 h2 := by rw [ltSp] at *; simp at *; omega
theorem totSp (x y : Int × Int) (h1 : ltOf cfSp x y = false) (h2 : ltOf cfSp y x = false) : x = y := by
  rw [ltSp] at *
  simp at *
  exact Prod.ext (by omega) (by omega)
def sortM (l : List (Int × Int)) : List (Int × Int) := l.mergeSort fun x y => !(ltOf cfSp) y x
theorem sortM_len (l : List (Int × Int)) : (sortM l).length = l.length := List.length_mergeSort l
theorem vtInt {Z : Cells} {z : Int} {v : Value} (h : VT Z (I z) v) : v = .int .i64 z := by cases h; rfl
theorem spsort_hf (xs : List (Int × Int)) (h0 : xs ≠ []) (hl : xs.length < 1000000) :
    HF Try.prog 35 [.own 0, .fn 36 []] [(0, .row 2 (xs.map spE))] 1 (fun d H' nx' => d = .tup [] ∧ H' = [(0, .row 2 ((sortM xs).map spE))] ∧ nx' = 1) := by
  refine ⟨by kernel_rfl, fun F s Z w vs hR hlen hv => ?_⟩
  obtain ⟨v0, v1, rfl⟩ : ∃ v0 v1, vs = #[v0, v1] := by
    match vs, hlen with
    | ⟨[v0, v1]⟩, _ => exact ⟨_, _, rfl⟩
  have e0 : v0 = s 0 := (hv 0 _ rfl).1
  have e1 := hv 1 _ rfl
  have hob : RowOk (VT Z) w 2 (xs.map spE) (s 0) := hR.ob 0 _ rfl
  obtain ⟨k1, k2, ⟨h, _⟩ | ⟨g, cap, cur, e, k3, k4, k5, k6, k7, k8⟩⟩ := hob
  · exact absurd (List.map_eq_nil_iff.1 h) h0
  rw [List.length_map] at k3 k5
  have hx0 : 0 < xs.length := List.length_pos_iff.2 h0
  have hgl : g < w.heap.size := Array.getElem?_eq_some_iff.1 k4 |>.1
  have hsz : cur.size = cap * 2 := k7
  have hcl : xs.length * 2 ≤ cur.size := by omega
  have hcell : ∀ i (hi : i < xs.length), cur.getD (i * 2 + 0) undef = .int .i64 xs[i].1 ∧ cur.getD (i * 2 + 1) undef = .int .i64 xs[i].2 := fun i hi =>
    ⟨vtInt <| k8 i (spE xs[i]) 0 (I xs[i].1) (by rw [List.getElem?_map, List.getElem?_eq_getElem hi]; rfl) rfl, vtInt <| k8 i (spE xs[i]) 1 (I xs[i].2) (by rw [List.getElem?_map, List.getElem?_eq_getElem hi]; rfl) rfl⟩
  have hH : HoldsK encSp 2 w g 0 xs.toArray := fun t ht => by
    rw [size_flatK, List.size_toArray] at ht
    have hi : t / 2 < xs.length := by omega
    obtain ⟨c1, c2⟩ := hcell (t / 2) hi
    have hcu : w.cell? ⟨g, 0 + t, none⟩ = some (cur.getD t undef) := by
      unfold World.cell?
      simp only [k4, Nat.zero_add]
      rw [Array.getD_eq_getD_getElem?, Array.getElem?_eq_getElem (by omega)]
      rfl
    have hfz : w.frozen? ⟨g, 0 + t, none⟩ = false := by
      unfold World.frozen?
      simp only [k4]
      rfl
    refine ⟨?_, hfz⟩
    rw [hcu, get_flatK _ _ _ _ (by rw [List.size_toArray]; exact ht)]
    have hx : xs.toArray[t / 2]! = xs[t / 2] := by simp [hi]
    rw [hx]
    rcases (show t % 2 = 0 ∨ t % 2 = 1 by omega) with hm | hm
    · rw [hm, show cur.getD t undef = cur.getD (t / 2 * 2 + 0) undef by rw [show t / 2 * 2 + 0 = t by omega], c1]
      simp [encSp]
    · rw [hm, show cur.getD t undef = cur.getD (t / 2 * 2 + 1) undef by rw [show t / 2 * 2 + 1 = t by omega], c2]
      simp [encSp]
  have eg : ∀ args w, (callFunc 36 args).run Try.prog w = .ok (.enter 36 args) w := enters_of Try.func36 (by kernel_rfl) rfl
  have hcmp : CmpLays Try.prog 36 #[] encSp 2 cfSp g 0 xs.toArray.size w := fun m os dk _ x y => order_calls x y _
  have hcon := AnyQ.slices_SortFunc_total sortSp 2 Try.isAgg61 Try.sizeOf61 encSp (fun _ => rfl) (fun x v hv => by simp [encSp] at hv; rcases hv with rfl | rfl <;> rfl) cfSp swoSp 36 #[] g 0 cap xs.toArray w eg hcmp hH hgl (by simp; omega) totSp
  change Calls Try.prog 35 _ _ _ at hcon
  have e2 : v1 = .func (.func 36) #[] #[] := by
    cases e1 with
    | fn _ _ us h1 _ => obtain rfl : us = #[] := Array.eq_empty_of_size_eq_zero h1; rfl
  rw [e0, e2, k3]
  refine Calls.mono (by simpa using hcon) ?_
  rintro e' w' ⟨rfl, n, os, rfl⟩
  obtain ⟨ys, hys⟩ : ∃ ys, ys = sortM xs := ⟨_, rfl⟩
  have hyl : ys.length = xs.length := by rw [hys]; exact sortM_len xs
  rw [show (xs.mergeSort fun x y => !(ltOf cfSp) y x) = ys from hys.symm, ← hys]
  obtain ⟨w1, hw1⟩ : ∃ w1, w1 = putRowK encSp 2 (Sort.ahead w n) g 0 ys.toArray := ⟨_, rfl⟩
  have hwg : w1.heap[g]? = some (.cells (putCells id 0 (flatK encSp 2 ys.toArray) cur) e (0, 0)) := by
    rw [hw1]
    simp [putRowK, putRow, mapBlock, Sort.ahead, Array.getElem?_modify, k4, onCells]
  have hon : Only g w w1 := by
    rw [hw1]
    refine ⟨rfl, rfl, rfl, by simp [putRowK, putRow, mapBlock, Sort.ahead], fun j hj => ?_⟩
    simp [putRowK, putRow, mapBlock, Sort.ahead, Array.getElem?_modify, Ne.symm hj]
  have hH1 : HoldsK encSp 2 w1 g 0 ys.toArray := by
    rw [hw1]
    exact holdsK_putRowK _ _ _ _ _ xs.toArray _ hH (by simp [hyl])
  have hzs : (putCells id 0 (flatK encSp 2 ys.toArray) cur).size = cap * 2 := by simp [putCells, hsz]
  have hyc : ∀ i (hi : i < ys.length) c, c < 2 → (putCells id 0 (flatK encSp 2 ys.toArray) cur).getD (i * 2 + c) undef = (encSp ys[i])[c]! := fun i hi c hc => by
    have h1 := (HoldsK.cell hH1 (i := i) (c := c) (by simpa using hi) hc).1
    unfold World.cell? at h1
    simp only [hwg, Nat.zero_add] at h1
    have h2 : ys.toArray[i]! = ys[i] := by simp [hi]
    rw [h2] at h1
    have h3 : (putCells id 0 (flatK encSp 2 ys.toArray) cur)[i * 2 + c]? = some (encSp ys[i])[c]! := h1
    rw [Array.getD_eq_getD_getElem?, h3]
    rfl
  have hlast : (eput [(0, Ob.row 2 (xs.map spE))] 0 (Ob.row 2 (ys.map spE))) = [(0, Ob.row 2 (ys.map spE))] := by simp [eput]
  have hrel : RelH ⟨0, F, w, 1, s, Z⟩ s Z [(0, .row 2 (ys.map spE))] 1 w1 := by
    rw [← hlast]
    refine hR.write (id := 0) rfl (k := g) (by rw [k3]; simp [blk]; omega) hon ?_ ?_
    · refine ⟨by omega, fun row hr => ?_, .inr ⟨g, cap, _, e, by rw [k3, List.length_map, hyl], hwg, by rw [List.length_map, hyl]; exact k5, k6, hzs, fun i row j d hi hj => ?_⟩⟩
      · obtain ⟨y, _, rfl⟩ := List.mem_map.1 hr; rfl
      · rw [List.getElem?_map] at hi
        cases hy : ys[i]? with
        | none => rw [hy] at hi; cases hi
        | some y =>
          obtain ⟨hil, rfl⟩ := List.getElem?_eq_some_iff.1 hy
          rw [hy] at hi
          obtain rfl : spE ys[i] = row := Option.some.inj hi
          match j, hj with
          | 0, hj => obtain rfl : I ys[i].1 = d := Option.some.inj hj; rw [hyc i hil 0 (by omega)]; exact .int _ _
          | 1, hj => obtain rfl : I ys[i].2 = d := Option.some.inj hj; rw [hyc i hil 1 (by omega)]; exact .int _ _
          | j + 2, hj => simp [spE] at hj
    · simp [LtO]
  refine ⟨.tuple #[], .tup [], _, 1, s, Z, rfl, ⟨#[], rfl, rfl, fun j x h => by simp at h⟩, by simp [LtR], ?_, rfl, rfl, rfl⟩
  have hb : Below w1.heap.size w1 (sortWorldK encSp 2 w g 0 n ys.toArray os) := by
    have : sortWorldK encSp 2 w g 0 n ys.toArray os = grow w1 os := by rw [hw1]; rfl
    rw [this]
    refine ⟨rfl, rfl, rfl, by simp [grow], fun k hk => by simp [grow, Array.getElem?_append, hk]⟩
  exact hrel.call hb (Zx.refl hrel.zok hb)
theorem spsort0_hf : HF Try.prog 35 [.own 0, .fn 36 []] [(0, .row 2 [])] 1 (fun d H' nx' => d = .tup [] ∧ H' = [(0, .row 2 [])] ∧ nx' = 1) := by
  refine ⟨by kernel_rfl, fun F s Z w vs hR hlen hv => ?_⟩
  obtain ⟨v0, v1, rfl⟩ : ∃ v0 v1, vs = #[v0, v1] := by
    match vs, hlen with
    | ⟨[v0, v1]⟩, _ => exact ⟨_, _, rfl⟩
  have e0 : v0 = s 0 := (hv 0 _ rfl).1
  have hob : RowOk (VT Z) w 2 [] (s 0) := hR.ob 0 _ rfl
  obtain ⟨p, cap, hs⟩ : ∃ p cap, s 0 = .slice p 0 cap := by
    obtain ⟨_, _, ⟨_, a, h⟩ | ⟨g, cap, _, _, h, _⟩⟩ := hob
    · exact ⟨a, 0, h⟩
    · exact ⟨_, cap, h⟩
  have hcon := AnyF.slices_SortFunc_none sortSp p cap v1 w
  change Calls Try.prog 35 _ _ _ at hcon
  rw [e0, hs]
  refine Calls.mono hcon ?_
  rintro e' w' ⟨rfl, hw⟩
  subst hw
  exact ⟨.tuple #[], .tup [], _, 1, s, Z, rfl, ⟨#[], rfl, rfl, fun j x h => by simp at h⟩, by simp [LtR], hR, rfl, rfl, rfl⟩
/-- of whatever spots -/
theorem spsortA_hf (xs : List (Int × Int)) (hl : xs.length < 1000000) :
    HF Try.prog 35 [.own 0, .fn 36 []] [(0, .row 2 (xs.map spE))] 1 (fun d H' nx' => d = .tup [] ∧ H' = [(0, .row 2 ((sortM xs).map spE))] ∧ nx' = 1) := by
  by_cases h : xs = []
  · subst h
    have : sortM [] = [] := by unfold sortM; exact List.mergeSort_nil
    rw [this]
    exact spsort0_hf
  · exact spsort_hf xs h hl
end Go.Proofs.Ytajimebannjofaa

set_option linter.unusedSimpArgs false
set_option linter.unusedVariables false
namespace Go.Proofs.Ytajimebannjofaa
open Go.ChangeShapes Go.WideShapes Go.ChangeAt Go.RowKit

def mixStep (h b : Nat) : Nat := ((h ^^^ b) * 16777619) % 4294967296
def mixN (l : List Nat) (h : Nat) : Nat := l.foldl mixStep h
theorem mixStep_lt (h b : Nat) : mixStep h b < 4294967296 := by unfold mixStep; omega
theorem mixN_lt (l : List Nat) (h : Nat) (hh : h < 4294967296) : mixN l h < 4294967296 := by
  unfold mixN
  induction l generalizing h with
  | nil => simpa using hh
  | cons b l ih => rw [List.foldl_cons]; exact ih _ (mixStep_lt h b)
theorem mixN_snoc (l : List Nat) (h b : Nat) : mixN (l ++ [b]) h = mixStep (mixN l h) b := by unfold mixN; rw [List.foldl_append, List.foldl_cons, List.foldl_nil]
theorem mixStep_int (h b : Nat) (hh : h < 4294967296) (hb : b < 256) : bits .xor .u32 (h : Int) (b : Int) * 16777619 % 4294967296 = (mixStep h b : Int) := by
  rw [u32_xor_nat h b hh (by omega)]
  unfold mixStep
  omega

theorem mixN_nil (h : Nat) : mixN [] h = h := by unfold mixN; rw [List.foldl_nil]
attribute [irreducible] mixStep mixN

theorem mix_any (bs : List Nat) (b off cap : Nat) (w : World) (hlen : bs.length ≤ 100) (hbs : ∀ i, i < bs.length → bs.getD i 0 < 256)
    (hc : ∀ i, i < bs.length → w.cell? ⟨b, off + i, none⟩ = some (.int .u8 ((bs.getD i 0 : Nat) : Int))) :
    Calls Try.prog 32 #[.slice (some ⟨b, off, none⟩) bs.length cap] w fun e w' => e = .returned (.int .i64 (mixN bs 2166136261 : Nat)) ∧ w = w' := by
  have HB := Lib.hid hbs; clear hbs
  have HC := Lib.hid hc; clear hc
  go_enter Try.func32, Try.ntmps32
  go_wp2
  go_loop [3, 8] (fun h i => ∃ k : Nat, k ≤ bs.length ∧ i = .int .i64 k ∧ h = .int .u32 (mixN (bs.take k) 2166136261 : Nat)) (fun _ i => bs.length - (intOf i).toNat)
  case atStart => exact ⟨0, by omega, rfl, by rw [List.take_zero, mixN_nil]; rfl⟩
  case round =>
    obtain ⟨k, hk, rfl, rfl⟩ := hrel
    have hm := mixN_lt (bs.take k) 2166136261 (by omega)
    by_cases hlt : k < bs.length
    · have hb := HB.out k hlt
      have hcell := HC.out k hlt
      have hs : mixN (bs.take (k + 1)) 2166136261 = mixStep (mixN (bs.take k) 2166136261) (bs.getD k 0) := by
        rw [List.take_succ_eq_append_getElem hlt, mixN_snoc, show bs.getD k 0 = bs[k] by simp [hlt]]
      have hst := mixStep_int (mixN (bs.take k) 2166136261) (bs.getD k 0) hm hb
      have HS := Lib.hid hs; clear hs
      have HT := Lib.hid hst; clear hst
      generalize bs.getD k 0 = x at *
      generalize mixN (bs.take k) 2166136261 = h at *
      go_wp2
      go_round
      case rel => exact ⟨k + 1, by omega, by go_num, by rw [HS.out, ← HT.out]⟩
      case measure => simp [intOf]; omega
    · obtain rfl : k = bs.length := by omega
      rw [List.take_length] at *
      go_wp2
      go_ret
      exact ⟨rfl, rfl⟩

/-- the place of a key -/
def keyN (k : Nat) : Nat := mixN [k % 256, k / 256 % 256, k / 65536 % 256, k / 16777216] 2166136261
/-- the place of a spot -/
def spotN (b i : Nat) : Nat := mixN [98, b, i, 115] 2166136261
theorem keyN_lt (k : Nat) : keyN k < 4294967296 := mixN_lt _ _ (by omega)
theorem spotN_lt (b i : Nat) : spotN b i < 4294967296 := mixN_lt _ _ (by omega)

theorem hashKey_ok (k : Nat) (w : World) (hk : k < 4294967296) :
    Calls Try.prog 20 #[.int .i64 k] w fun e w' => e = .returned (.tuple #[.int .i64 (keyN k : Nat), .int .i64 0]) ∧ Below w.heap.size w w' := by
  have E := Lib.hid (show keyN k = mixN [k % 256, k / 256 % 256, k / 65536 % 256, k / 16777216] 2166136261 from rfl)
  go_enter Try.func20, Try.ntmps20
  go_wp2_with fail
  refine (mix_any [k % 256, k / 256 % 256, k / 65536 % 256, k / 16777216] w.heap.size 0 4 _ (by simp) ?_ ?_).mono ?_
  · intro i hi
    have h : i = 0 ∨ i = 1 ∨ i = 2 ∨ i = 3 := by simp at hi; omega
    rcases h with rfl | rfl | rfl | rfl <;> simp <;> omega
  · intro i hi
    have h : i = 0 ∨ i = 1 ∨ i = 2 ∨ i = 3 := by simp at hi; omega
    rcases h with rfl | rfl | rfl | rfl <;> simp [go_sem]
  rintro e w' ⟨rfl, rfl⟩
  rw [← E.out]
  go_wp2
  go_ret2
  exact ⟨rfl, (Below.refl _ _).alloc (Nat.le_refl _) _⟩

theorem hashSpot_ok (b i : Nat) (w : World) (hb : b < 12) (hi : i < 32) :
    Calls Try.prog 51 #[.int .i64 b, .int .i64 i] w fun e w' => e = .returned (.tuple #[.int .i64 (spotN b i : Nat), .int .i64 0]) ∧ Below w.heap.size w w' := by
  have E := Lib.hid (show spotN b i = mixN [98, b, i, 115] 2166136261 from rfl)
  go_enter Try.func51, Try.ntmps51
  go_wp2_with fail
  refine (mix_any [98, b, i, 115] w.heap.size 0 4 _ (by simp) ?_ ?_).mono ?_
  · intro i hi
    have h : i = 0 ∨ i = 1 ∨ i = 2 ∨ i = 3 := by simp at hi; omega
    rcases h with rfl | rfl | rfl | rfl <;> simp <;> omega
  · intro i hi
    have h : i = 0 ∨ i = 1 ∨ i = 2 ∨ i = 3 := by simp at hi; omega
    rcases h with rfl | rfl | rfl | rfl <;> simp [go_sem]
  rintro e w' ⟨rfl, rfl⟩
  rw [← E.out]
  go_wp2
  go_ret2
  exact ⟨rfl, (Below.refl _ _).alloc (Nat.le_refl _) _⟩

theorem hashKey_any (k : Int) (w : World) (h0 : 0 ≤ k) (hk : k < 4294967296) :
    Calls Try.prog 20 #[.int .i64 k] w fun e w' => e = .returned (.tuple #[.int .i64 (keyN k.toNat : Nat), .int .i64 0]) ∧ Below w.heap.size w w' := by
  obtain ⟨k, rfl⟩ := Int.eq_ofNat_of_zero_le h0
  exact hashKey_ok k w (by omega)
theorem hashSpot_any (b i : Int) (w : World) (hb : 0 ≤ b) (hb' : b < 12) (hi : 0 ≤ i) (hi' : i < 32) :
    Calls Try.prog 51 #[.int .i64 b, .int .i64 i] w fun e w' => e = .returned (.tuple #[.int .i64 (spotN b.toNat i.toNat : Nat), .int .i64 0]) ∧ Below w.heap.size w w' := by
  obtain ⟨b, rfl⟩ := Int.eq_ofNat_of_zero_le hb
  obtain ⟨i, rfl⟩ := Int.eq_ofNat_of_zero_le hi
  exact hashSpot_ok b i w (by omega) (by omega)

theorem hashSpot_far (b i : Int) (w : World) (hb : 0 ≤ b) (hb' : b < 12) (hi : 32 ≤ i) :
    Calls Try.prog 51 #[.int .i64 b, .int .i64 i] w fun e w' => e = .returned (.tuple #[.int .i64 0, .int .i64 2]) ∧ w = w' := by
  go_enter Try.func51, Try.ntmps51
  go_wp2
  go_ret2
  exact ⟨rfl, rfl⟩
end Go.Proofs.Ytajimebannjofaa

