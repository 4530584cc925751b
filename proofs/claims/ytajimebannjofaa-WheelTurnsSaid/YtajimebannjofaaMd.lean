/- This text holds, one behind the other, the texts that say what the program computes, step by step, and the rules that they need. They have no condition of their own. -/
import Derived.Test.YtajimebannjofaaMc
import Derived.Test.YtajimebannjofaaMa
set_option linter.unusedSimpArgs false
set_option linter.unusedVariables false
set_option maxRecDepth 100000
set_option maxHeartbeats 2000000
namespace Go.Proofs.Ytajimebannjofaa
open Go.RowKit
theorem ins_a (A : List (List D)) (row : List D) (i m k z : Nat) (hA : A.length = i) (hm : 1 ≤ m) :
    (A ++ List.replicate (m + k) (anyRow z)).take i ++ [row].take m ++ (A ++ List.replicate (m + k) (anyRow z)).drop (i + ([row].take m).length) = A ++ [row] ++ List.replicate (m + k - 1) (anyRow z) := by
  obtain ⟨m, rfl⟩ : ∃ m', m = m' + 1 := ⟨m - 1, by omega⟩
  subst hA
  rw [List.take_left, List.take_of_length_le (by simp), List.drop_append, List.drop_eq_nil_of_le (by simp), List.drop_replicate]
  simp
theorem ins_b (A B : List (List D)) (row : List D) (i r z : Nat) (hA : A.length = i) (hr : B.length ≤ r) :
    (A ++ [row] ++ List.replicate r (anyRow z)).take (i + 1) ++ B ++ (A ++ [row] ++ List.replicate r (anyRow z)).drop (i + 1 + B.length) = A ++ [row] ++ B ++ List.replicate (r - B.length) (anyRow z) := by
  subst hA
  have e : A.length + 1 = (A ++ [row]).length := by simp
  rw [e, List.take_left, List.drop_append, List.drop_eq_nil_of_le (by simp), List.drop_replicate]
  simp only [List.nil_append]
  congr 2; simp
theorem ins_c (xs : List (List D)) (i k z : Nat) (hi : i < xs.length) : (((xs ++ List.replicate (k + 1) (anyRow z)).drop i).take (xs.length + 1 - i)).take (xs.length - i) = xs.drop i := by
  rw [List.take_take, Nat.min_eq_left (by omega), List.drop_append_of_le_length (by omega), List.take_append_of_le_length (by simp), List.take_of_length_le (by simp)]
theorem ins_d (xs : List (List D)) (i k z : Nat) (hi : i < xs.length) :
    (xs ++ List.replicate (k + 1) (anyRow z)).take (i + 1) ++ xs.drop i ++ (xs ++ List.replicate (k + 1) (anyRow z)).drop (i + 1 + (xs.drop i).length) = xs.take (i + 1) ++ xs.drop i ++ List.replicate k (anyRow z) := by
  have h1 : xs.drop (i + 1 + (xs.drop i).length) = [] := List.drop_eq_nil_of_le (by simp; omega)
  rw [List.take_append_of_le_length (by omega), List.drop_append (l₁ := xs), h1, List.drop_replicate]
  simp only [List.nil_append]
  congr 2; simp; omega
theorem ins_e (xs : List (List D)) (row : List D) (i k z m : Nat) (hi : i < xs.length) (hm : 1 ≤ m) :
    (xs.take (i + 1) ++ xs.drop i ++ List.replicate k (anyRow z)).take i ++ [row].take m ++ (xs.take (i + 1) ++ xs.drop i ++ List.replicate k (anyRow z)).drop (i + ([row].take m).length) = xs.take i ++ [row] ++ xs.drop i ++ List.replicate k (anyRow z) := by
  have h1 : (xs.take (i + 1)).length = i + 1 := by simp; omega
  rw [List.take_of_length_le (l := [row]) (by simp; omega), List.append_assoc (xs.take (i + 1)), List.take_append_of_le_length (by omega), List.take_take, Nat.min_eq_left (by omega)]
  have e : i + [row].length = (xs.take (i + 1)).length := by simp; omega
  rw [e, List.drop_left]
  simp
theorem ins_t (xs : List (List D)) (row : List D) (i k z : Nat) (hi : i ≤ xs.length) : (xs.take i ++ [row] ++ xs.drop i ++ List.replicate k (anyRow z)).take (xs.length + 1) = xs.take i ++ [row] ++ xs.drop i := by
  have e : xs.length + 1 = (xs.take i ++ [row] ++ xs.drop i).length := by simp; omega
  rw [e, List.take_left]
theorem ins_mem {xs : List (List D)} {row : List D} {i : Nat} {q : List D → Prop} (h1 : ∀ r ∈ xs, q r) (h2 : q row) : ∀ r ∈ xs.take i ++ [row] ++ xs.drop i, q r := by
  intro r hr
  rcases List.mem_append.1 hr with hr | hr
  · rcases List.mem_append.1 hr with hr | hr
    · exact h1 r (List.mem_of_mem_take hr)
    · rw [List.mem_singleton.1 hr]; exact h2
  · exact h1 r (List.mem_of_mem_drop hr)
theorem tins_code : cfun Try.prog [] 46 = some ⟨(.seq (.region 0 [⟨(some 6), (.mov (.k .nil0)), none⟩]) (.seq (.region 1 [⟨(some 10), (.mov (.t 0)), none⟩, ⟨(some 11), (.mov (.t 1)), none⟩, ⟨(some 12), (.slc 2 (.t 10) (some (.t 11)) none none), none⟩]) (.seq (.region 2 [⟨(some 13), (.mov (.t 2)), none⟩, ⟨(some 14), (.len (.t 13)), none⟩, ⟨(some 7), (.mov (.t 14)), none⟩]) (.seq (.seq (.region 3 [⟨(some 15), (.mov (.t 7)), none⟩, ⟨(some 16), (.bin .eql (.t 15) (.k (.int .i64 0))), none⟩]) (.cond 16 (.seq (.region 4 [⟨(some 17), (.mov (.t 0)), none⟩, ⟨(some 6), (.mov (.t 17)), none⟩]) .ret) .skip)) (.seq (.region 5 [⟨(some 18), (.mov (.t 0)), none⟩, ⟨(some 19), (.len (.t 18)), none⟩, ⟨(some 8), (.mov (.t 19)), none⟩]) (.seq (.seq (.region 6 [⟨(some 20), (.mov (.t 1)), none⟩, ⟨(some 21), (.mov (.t 8)), none⟩, ⟨(some 22), (.bin .eql (.t 20) (.t 21)), none⟩]) (.cond 22 (.seq (.region 7 [⟨(some 23), (.mov (.t 0)), none⟩, ⟨(some 24), (.mov (.t 2)), none⟩, ⟨(some 25), (.app 2 16 [(.int .i64 0), (.int .i64 0)] (.t 23) (.t 24)), none⟩, ⟨(some 6), (.mov (.t 25)), none⟩]) .ret) .skip)) (.seq (.seq (.region 8 [⟨(some 26), (.mov (.t 8)), none⟩, ⟨(some 27), (.mov (.t 7)), none⟩, ⟨(some 28), (.bin .add (.t 26) (.t 27)), none⟩, ⟨(some 29), (.mov (.t 0)), none⟩, ⟨(some 30), (.xop 8 [] [(.t 29)]), none⟩, ⟨(some 31), (.bin .gtr (.t 28) (.t 30)), none⟩]) (.cond 31 (.seq (.region 9 [⟨(some 32), (.mov (.t 0)), none⟩, ⟨(some 33), (.mov (.t 1)), none⟩, ⟨(some 34), (.slc 2 (.t 32) none (some (.t 33)) none), none⟩, ⟨(some 35), (.mov (.t 8)), none⟩, ⟨(some 36), (.mov (.t 7)), none⟩, ⟨(some 37), (.bin .add (.t 35) (.t 36)), none⟩, ⟨(some 38), (.mov (.t 1)), none⟩, ⟨(some 39), (.bin .sub (.t 37) (.t 38)), none⟩, ⟨(some 40), (.xop 11 [2, 16] [(.t 34), (.t 39)]), none⟩, ⟨(some 9), (.mov (.t 40)), none⟩]) (.seq (.region 10 [⟨(some 41), (.mov (.t 9)), none⟩, ⟨(some 42), (.mov (.t 1)), none⟩, ⟨(some 43), (.slc 2 (.t 41) (some (.t 42)) none none), none⟩, ⟨(some 44), (.mov (.t 2)), none⟩, ⟨(some 45), (.xop 9 [2] [(.t 43), (.t 44)]), none⟩]) (.seq (.draw 11 (.one true ⟨(some 46), (.mov (.t 9)), none⟩ (.one true ⟨(some 47), (.mov (.t 1)), none⟩ (.one true ⟨(some 48), (.mov (.t 7)), none⟩ (.one true ⟨(some 49), (.bin .add (.t 47) (.t 48)), none⟩ (.one true ⟨(some 50), (.slc 2 (.t 46) (some (.t 49)) none none), none⟩ (.one true ⟨(some 51), (.mov (.t 0)), none⟩ (.one true ⟨(some 52), (.mov (.t 1)), none⟩ (.one true ⟨(some 53), (.slc 2 (.t 51) (some (.t 52)) none none), none⟩ (.one false ⟨(some 54), (.xop 9 [2] [(.t 50), (.t 53)]), none⟩ .done)))))))))) (.seq (.region 12 [⟨(some 55), (.mov (.t 9)), none⟩, ⟨(some 6), (.mov (.t 55)), none⟩]) .ret)))) .skip)) (.seq (.region 13 [⟨(some 56), (.mov (.t 0)), none⟩, ⟨(some 57), (.mov (.t 8)), none⟩, ⟨(some 58), (.mov (.t 7)), none⟩, ⟨(some 59), (.bin .add (.t 57) (.t 58)), none⟩, ⟨(some 60), (.slc 2 (.t 56) none (some (.t 59)) none), none⟩, ⟨(some 0), (.mov (.t 60)), none⟩]) (.seq (.seq (.region 14 [⟨(some 61), (.mov (.t 2)), none⟩, ⟨(some 62), (.mov (.t 0)), none⟩, ⟨(some 63), (.mov (.t 1)), none⟩, ⟨(some 64), (.mov (.t 7)), none⟩, ⟨(some 65), (.bin .add (.t 63) (.t 64)), none⟩, ⟨(some 66), (.slc 2 (.t 62) (some (.t 65)) none none), none⟩, ⟨(some 67), (.call 57 [(.t 61), (.t 66)]), none⟩, ⟨(some 68), (.not (.t 67)), none⟩]) (.cond 68 (.seq (.draw 15 (.one true ⟨(some 69), (.mov (.t 0)), none⟩ (.one true ⟨(some 70), (.mov (.t 1)), none⟩ (.one true ⟨(some 71), (.mov (.t 7)), none⟩ (.one true ⟨(some 72), (.bin .add (.t 70) (.t 71)), none⟩ (.one true ⟨(some 73), (.slc 2 (.t 69) (some (.t 72)) none none), none⟩ (.one true ⟨(some 74), (.mov (.t 0)), none⟩ (.one true ⟨(some 75), (.mov (.t 1)), none⟩ (.one true ⟨(some 76), (.slc 2 (.t 74) (some (.t 75)) none none), none⟩ (.one false ⟨(some 77), (.xop 9 [2] [(.t 73), (.t 76)]), none⟩ .done)))))))))) (.seq (.region 16 [⟨(some 78), (.mov (.t 0)), none⟩, ⟨(some 79), (.mov (.t 1)), none⟩, ⟨(some 80), (.slc 2 (.t 78) (some (.t 79)) none none), none⟩, ⟨(some 81), (.mov (.t 2)), none⟩, ⟨(some 82), (.xop 9 [2] [(.t 80), (.t 81)]), none⟩]) (.seq (.region 17 [⟨(some 83), (.mov (.t 0)), none⟩, ⟨(some 6), (.mov (.t 83)), none⟩]) .ret))) .skip)) (.seq (.region 18 [⟨(some 84), (.mov (.t 0)), none⟩, ⟨(some 85), (.mov (.t 8)), none⟩, ⟨(some 86), (.slc 2 (.t 84) (some (.t 85)) none none), none⟩, ⟨(some 87), (.mov (.t 2)), none⟩, ⟨(some 88), (.xop 9 [2] [(.t 86), (.t 87)]), none⟩]) (.seq (.region 19 [⟨(some 89), (.mov (.t 0)), none⟩, ⟨(some 90), (.mov (.t 1)), none⟩, ⟨(some 91), (.slc 2 (.t 89) (some (.t 90)) none none), none⟩, ⟨(some 92), (.mov (.t 7)), none⟩, ⟨(some 93), (.call 58 [(.t 91), (.t 92)]), none⟩]) (.seq (.region 20 [⟨(some 94), (.mov (.t 0)), none⟩, ⟨(some 6), (.mov (.t 94)), none⟩]) .ret)))))))))))), [(.t 6)], 95⟩ := by kernel_rfl
theorem tov_ext (args : Array Value) (w : World) : (callFunc 57 args).run Try.prog w = ((Extern.SlicesOverlaps.overlaps #[45, 45] #[4] args).run Try.prog w).andThen fun v w' => .ok (.value v) w' :=
  run_callFunc_extern Try.func57 (by kernel_rfl) (by kernel_rfl) (by kernel_rfl) (e := Extern.SlicesOverlaps.overlaps #[45, 45] #[4]) (by kernel_rfl) args w
theorem tins_hf (xs : List (List D)) (i : Nat) (row : List D) (hi : i ≤ xs.length) (hl : xs.length < 1000000) (hrow : row.length = 2) (hxs : ∀ r ∈ xs, r.length = 2) (hT : ∀ r ∈ xs, ∀ d ∈ r, isT d = true) (hTr : ∀ d ∈ row, isT d = true) :
    HF Try.prog 46 [.own 0, I i, .own 1] [(1, .row 2 [row]), (0, .row 2 xs)] 2 (fun d H' nx' => d = .own 2 ∧ H' = [(2, .row 2 (xs.take i ++ [row] ++ xs.drop i))] ∧ nx' = 3) := by
  refine HF.one (fun _ => rfl) (fun _ => trivial) ?_
  refine HF.of follows_ok tins_code (by simp) (by simp [argOk]) (by simp [LtV, LtC]) fun B hBN hB0 => acode_sound [0, 1, 2, 6, 7, 8, 9, 16, 22, 31, 68] [8, 12, 17] _ _ _ ?_
  by_cases hin : i = xs.length
  · subst hin
    have hcap : (xs.length + 1) * 16 ≤ 140737488355328 := by omega
    simp [AK_at, acode_seq, acode_region, acode_draw, acode_cond, ↓CB_t, ↓CB_f, CB_u, acode_block, acode_loop, acode_exit, acode_scope, acode_ret, acode_skip, seqQ_n, seqQ_e, seqQ_r, blockQ_n, blockQ_e, blockQ_r, TK_at, OK_at, SK_at, aops_nil, aops_cons, asch_done, asch_one, asch_two, asch_top, astep, aop_eq, isLoud, aloud, aloud1, isWrite, qv, evS, strip, gof, eget, hget, putO, eput, herase, oks, opnds, gS, afin, afin0, binD, arith, D.cells, takeD, fillD, keep, trim, envOf, Fin, aresl, aresv, resD, argOk, pickV, isP, deq, deqs, boundD, slD, lenD, isT, isSl, ptrIds, chunks, mn_min, mx_max, D.cells, splice_one, splice_more, hcap, hrow]
  have hz : ¬ ((i : Int) = xs.length) := by omega
  have h0 : xs ≠ [] := by
    rintro rfl
    simp at hi hin; omega
  have hlt : i < xs.length := by omega
  have i1 : InR ((xs.length : Int) + 1) := inW (by omega) (by omega)
  have i2 : InR ((xs.length : Int) + 1 - i) := inW (by omega) (by omega)
  have i3 : InR ((i : Int) + 1) := inW (by omega) (by omega)
  have p1 : (0 : Int) ≤ (xs.length : Int) + 1 := by omega
  have p3 : (0 : Int) ≤ (i : Int) + 1 := by omega
  have hnv : ∀ {d : D}, isT d = true → d ≠ .any := fun h e => by rw [e] at h; cases h
  simp [AK_at, acode_seq, acode_region, acode_draw, acode_cond, ↓CB_t, ↓CB_f, CB_u, acode_block, acode_loop, acode_exit, acode_scope, acode_ret, acode_skip, seqQ_n, seqQ_e, seqQ_r, blockQ_n, blockQ_e, blockQ_r, TK_at, OK_at, SK_at, aops_nil, aops_cons, asch_done, asch_one, asch_two, asch_top, astep, aop_eq, isLoud, aloud, aloud1, isWrite, qv, evS, strip, gof, eget, hget, putO, eput, herase, oks, opnds, gS, afin, afin0, binD, arith, D.cells, takeD, fillD, keep, trim, envOf, Fin, aresl, aresv, resD, argOk, pickV, isP, deq, deqs, boundD, slD, lenD, isT, isSl, ptrIds, chunks, mn_min, mx_max, D.cells, splice_one, splice_more, hin, hz, hi]
  refine W.openR (t := 0) (id := 0) (sz := 2) (xs := xs) (by simp [eget]) (by simp [hget]) h0 fun k => ?_
  simp only [eput]
  refine acode_sound [0, 1, 2, 6, 7, 8, 9, 16, 22, 31, 68] [] _ _ _ ?_
  have hA : (xs.take i).length = i := by simp; omega
  have hB : (xs.drop i).length = xs.length - i := by simp
  cases k with
  | zero =>
    have c0 : (xs.length : Int) < xs.length + 1 := by omega
    obtain ⟨m, hm⟩ : ∃ m, m = xs.length + 1 - i := ⟨_, rfl⟩
    have hmz : (xs.length : Int) + 1 - i = (m : Nat) := by omega
    have him : i + m = xs.length + 1 := by omega
    have hm1 : 1 ≤ m := by omega
    have i2' : InR (m : Int) := by rw [← hmz]; exact i2
    simp [AK_at, acode_seq, acode_region, acode_draw, acode_cond, ↓CB_t, ↓CB_f, CB_u, acode_block, acode_loop, acode_exit, acode_scope, acode_ret, acode_skip, seqQ_n, seqQ_e, seqQ_r, blockQ_n, blockQ_e, blockQ_r, TK_at, OK_at, SK_at, aops_nil, aops_cons, asch_done, asch_one, asch_two, asch_top, astep, aop_eq, isLoud, aloud, aloud1, isWrite, qv, evS, strip, gof, eget, hget, putO, eput, herase, oks, opnds, gS, afin, afin0, binD, arith, D.cells, takeD, fillD, keep, trim, envOf, Fin, aresl, aresv, resD, argOk, pickV, isP, deq, deqs, boundD, slD, lenD, isT, isSl, ptrIds, chunks, mn_min, mx_max, D.cells, splice_one, splice_more, i1]
    refine XCall.cap (id := 0) (sz := 2) (off := 0) (len := xs.length) (cp := xs.length) (by simp [oks, opnds, gS, gof, eget]) (by simp [evS, eget, strip]) ?_
    simp [AK_at, acode_seq, acode_region, acode_draw, acode_cond, ↓CB_t, ↓CB_f, CB_u, acode_block, acode_loop, acode_exit, acode_scope, acode_ret, acode_skip, seqQ_n, seqQ_e, seqQ_r, blockQ_n, blockQ_e, blockQ_r, TK_at, OK_at, SK_at, aops_nil, aops_cons, asch_done, asch_one, asch_two, asch_top, astep, aop_eq, isLoud, aloud, aloud1, isWrite, qv, evS, strip, gof, eget, hget, putO, eput, herase, oks, opnds, gS, afin, afin0, binD, arith, D.cells, takeD, fillD, keep, trim, envOf, Fin, aresl, aresv, resD, argOk, pickV, isP, deq, deqs, boundD, slD, lenD, isT, isSl, ptrIds, chunks, mn_min, mx_max, D.cells, splice_one, splice_more, i1, hmz, i2', c0, hi]
    refine XCall.appmake (id := 0) (off := 0) (len := i) (cp := xs.length) (xs := xs) (n := m) (by simp [oks, opnds, gS, gof, eget]) (by simp [evS, eget, strip]) (by simp [hget]) (by simp [evS, eget, strip]) (by omega) (by omega) (by omega) (by omega) fun k => ?_
    rw [List.drop_zero, him]
    obtain ⟨W1, hW1⟩ : ∃ W1, W1 = xs.take i ++ List.replicate (m + k) (anyRow 2) := ⟨_, rfl⟩
    have hW2 := ins_a (xs.take i) row i m k 2 hA hm1
    rw [← hW1] at hW2 ⊢
    obtain ⟨W2, hW2'⟩ : ∃ W2, W2 = xs.take i ++ [row] ++ List.replicate (m + k - 1) (anyRow 2) := ⟨_, rfl⟩
    rw [← hW2'] at hW2
    have hW3 := ins_b (xs.take i) (xs.drop i) row i (m + k - 1) 2 hA (by omega)
    rw [← hW2'] at hW3
    have hk3 : m + k - 1 - (xs.drop i).length = k := by omega
    rw [hk3] at hW3
    obtain ⟨W3, hW3'⟩ : ∃ W3, W3 = xs.take i ++ [row] ++ xs.drop i ++ List.replicate k (anyRow 2) := ⟨_, rfl⟩
    rw [← hW3'] at hW3
    have l3 : W3.length = xs.length + 1 + k := by rw [hW3']; simp; omega
    have t3 : W3.take (xs.length + 1) = xs.take i ++ [row] ++ xs.drop i := by rw [hW3']; exact ins_t xs row i k 2 hi
    have hle1 : i ≤ xs.length + 1 := by omega
    have hle2 : i + 1 ≤ xs.length + 1 := by omega
    have hle3 : xs.length + 1 ≤ xs.length + 1 + k := by omega
    simp [AK_at, acode_seq, acode_region, acode_draw, acode_cond, ↓CB_t, ↓CB_f, CB_u, acode_block, acode_loop, acode_exit, acode_scope, acode_ret, acode_skip, seqQ_n, seqQ_e, seqQ_r, blockQ_n, blockQ_e, blockQ_r, TK_at, OK_at, SK_at, aops_nil, aops_cons, asch_done, asch_one, asch_two, asch_top, astep, aop_eq, isLoud, aloud, aloud1, isWrite, qv, evS, strip, gof, eget, hget, putO, eput, herase, oks, opnds, gS, afin, afin0, binD, arith, D.cells, takeD, fillD, keep, trim, envOf, Fin, aresl, aresv, resD, argOk, pickV, isP, deq, deqs, boundD, slD, lenD, isT, isSl, ptrIds, chunks, mn_min, mx_max, D.cells, splice_one, splice_more, hle1, hle3]
    refine XCall.copy (id := 2) (off := i) (len := xs.length + 1 - i) (xs := W1) (ys := [row]) (cp := xs.length + 1 + k - i) (by simp [oks, opnds, gS, gof, eget]) rfl (by simp [evS, eget, strip]) (by simp [hget]) (by simp [evS, eget, strip, srcD, slD, hget]) (fun r hr => ?_) (fun r hr d hd => ?_) ?_
    · rw [List.mem_singleton.1 (List.mem_of_mem_take hr)]; exact hrow
    · rw [List.mem_singleton.1 (List.mem_of_mem_take hr)] at hd; exact hnv (hTr d hd)
    rw [← hm, hW2]
    simp [AK_at, acode_seq, acode_region, acode_draw, acode_cond, ↓CB_t, ↓CB_f, CB_u, acode_block, acode_loop, acode_exit, acode_scope, acode_ret, acode_skip, seqQ_n, seqQ_e, seqQ_r, blockQ_n, blockQ_e, blockQ_r, TK_at, OK_at, SK_at, aops_nil, aops_cons, asch_done, asch_one, asch_two, asch_top, astep, aop_eq, isLoud, aloud, aloud1, isWrite, qv, evS, strip, gof, eget, hget, putO, eput, herase, oks, opnds, gS, afin, afin0, binD, arith, D.cells, takeD, fillD, keep, trim, envOf, Fin, aresl, aresv, resD, argOk, pickV, isP, deq, deqs, boundD, slD, lenD, isT, isSl, ptrIds, chunks, mn_min, mx_max, D.cells, splice_one, splice_more, i3, hle2, hle3, hi, p3]
    have hdt0 : (xs.drop i).take (xs.length - i) = xs.drop i := List.take_of_length_le (by simp)
    refine XCall.copy (id := 2) (off := i + 1) (len := xs.length + 1 - (i + 1)) (xs := W2) (ys := xs.drop i) (cp := xs.length + 1 + k - (i + 1)) (by simp [oks, opnds, gS, gof, eget]) rfl (by simp [evS, eget, strip]) (by simp [hget]) (by simp [evS, eget, strip, srcD, hget, hdt0]) (fun r hr => ?_) (fun r hr d hd => ?_) ?_
    · exact hxs r (List.mem_of_mem_drop (List.mem_of_mem_take hr))
    · exact hnv (hT r (List.mem_of_mem_drop (List.mem_of_mem_take hr)) d hd)
    have hdt : (xs.drop i).take (xs.length + 1 - (i + 1)) = xs.drop i := List.take_of_length_le (by simp)
    rw [hdt, hW3]
    simp [AK_at, acode_seq, acode_region, acode_draw, acode_cond, ↓CB_t, ↓CB_f, CB_u, acode_block, acode_loop, acode_exit, acode_scope, acode_ret, acode_skip, seqQ_n, seqQ_e, seqQ_r, blockQ_n, blockQ_e, blockQ_r, TK_at, OK_at, SK_at, aops_nil, aops_cons, asch_done, asch_one, asch_two, asch_top, astep, aop_eq, isLoud, aloud, aloud1, isWrite, qv, evS, strip, gof, eget, hget, putO, eput, herase, oks, opnds, gS, afin, afin0, binD, arith, D.cells, takeD, fillD, keep, trim, envOf, Fin, aresl, aresv, resD, argOk, pickV, isP, deq, deqs, boundD, slD, lenD, isT, isSl, ptrIds, chunks, mn_min, mx_max, D.cells, splice_one, splice_more]
    refine W.gh (Gh.closeR (t := 9) (id := 2) (sz := 2) (len := xs.length + 1) (xs := W3) (by simp [eget, l3]) (by simp [hget]) (by rw [t3]; exact ins_mem hT hTr)) ?_
    rw [t3]
    simp only [eput, herase]
    refine acode_sound [0, 1, 2, 6, 7, 8, 9, 16, 22, 31, 68] [] _ _ _ ?_
    simp [AK_at, acode_seq, acode_region, acode_draw, acode_cond, ↓CB_t, ↓CB_f, CB_u, acode_block, acode_loop, acode_exit, acode_scope, acode_ret, acode_skip, seqQ_n, seqQ_e, seqQ_r, blockQ_n, blockQ_e, blockQ_r, TK_at, OK_at, SK_at, aops_nil, aops_cons, asch_done, asch_one, asch_two, asch_top, astep, aop_eq, isLoud, aloud, aloud1, isWrite, qv, evS, strip, gof, eget, hget, putO, eput, herase, oks, opnds, gS, afin, afin0, binD, arith, D.cells, takeD, fillD, keep, trim, envOf, Fin, aresl, aresv, resD, argOk, pickV, isP, deq, deqs, boundD, slD, lenD, isT, isSl, ptrIds, chunks, mn_min, mx_max, D.cells, splice_one, splice_more]
  | succ k =>
    have c0 : ¬ ((k : Int) + 1 < 1) := by omega
    have c1 : xs.length + 1 ≤ xs.length + (k + 1) := by omega
    have hle1 : i ≤ xs.length + 1 := by omega
    have hle2 : i + 1 ≤ xs.length + 1 := by omega
    simp [AK_at, acode_seq, acode_region, acode_draw, acode_cond, ↓CB_t, ↓CB_f, CB_u, acode_block, acode_loop, acode_exit, acode_scope, acode_ret, acode_skip, seqQ_n, seqQ_e, seqQ_r, blockQ_n, blockQ_e, blockQ_r, TK_at, OK_at, SK_at, aops_nil, aops_cons, asch_done, asch_one, asch_two, asch_top, astep, aop_eq, isLoud, aloud, aloud1, isWrite, qv, evS, strip, gof, eget, hget, putO, eput, herase, oks, opnds, gS, afin, afin0, binD, arith, D.cells, takeD, fillD, keep, trim, envOf, Fin, aresl, aresv, resD, argOk, pickV, isP, deq, deqs, boundD, slD, lenD, isT, isSl, ptrIds, chunks, mn_min, mx_max, D.cells, splice_one, splice_more, i1]
    refine XCall.cap (id := 0) (sz := 2) (off := 0) (len := xs.length) (cp := xs.length + (k + 1)) (by simp [oks, opnds, gS, gof, eget]) (by simp [evS, eget, strip]) ?_
    simp [AK_at, acode_seq, acode_region, acode_draw, acode_cond, ↓CB_t, ↓CB_f, CB_u, acode_block, acode_loop, acode_exit, acode_scope, acode_ret, acode_skip, seqQ_n, seqQ_e, seqQ_r, blockQ_n, blockQ_e, blockQ_r, TK_at, OK_at, SK_at, aops_nil, aops_cons, asch_done, asch_one, asch_two, asch_top, astep, aop_eq, isLoud, aloud, aloud1, isWrite, qv, evS, strip, gof, eget, hget, putO, eput, herase, oks, opnds, gS, afin, afin0, binD, arith, D.cells, takeD, fillD, keep, trim, envOf, Fin, aresl, aresv, resD, argOk, pickV, isP, deq, deqs, boundD, slD, lenD, isT, isSl, ptrIds, chunks, mn_min, mx_max, D.cells, splice_one, splice_more, i1, i3, c0, c1, hle1, hle2, p1, p3]
    obtain ⟨U, hU⟩ : ∃ U, U = xs ++ List.replicate (k + 1) (anyRow 2) := ⟨_, rfl⟩
    have hC := ins_c xs i k 2 hlt
    have hD := ins_d xs i k 2 hlt
    rw [← hU] at hC hD
    obtain ⟨V, hV⟩ : ∃ V, V = xs.take (i + 1) ++ xs.drop i ++ List.replicate k (anyRow 2) := ⟨_, rfl⟩
    have hE := ins_e xs row i k 2 (xs.length + 1 - i) hlt (by omega)
    rw [← hV] at hD hE
    obtain ⟨W3, hW3'⟩ : ∃ W3, W3 = xs.take i ++ [row] ++ xs.drop i ++ List.replicate k (anyRow 2) := ⟨_, rfl⟩
    rw [← hW3'] at hE
    have l3 : W3.length = xs.length + (k + 1) := by rw [hW3']; simp; omega
    have t3 : W3.take (xs.length + 1) = xs.take i ++ [row] ++ xs.drop i := by rw [hW3']; exact ins_t xs row i k 2 hi
    rw [← hU]
    refine WCall.overlaps (sz := 2) (off := i + 1) (len := xs.length + 1 - (i + 1)) (cp := xs.length + (k + 1) - (i + 1)) (id1 := 1) (sz1 := 2) (id := 0) (zs := [row]) (xs := U) (tov_ext) Try.underlying45 (by kernel_rfl) (by simp [oks, opnds, gS, gof, eget]) (by simp [evS, eget, strip]) (by simp [hget]) (by simp) (by simp [evS, eget, strip]) (by simp [hget]) (by omega) ?_
    simp [AK_at, acode_seq, acode_region, acode_draw, acode_cond, ↓CB_t, ↓CB_f, CB_u, acode_block, acode_loop, acode_exit, acode_scope, acode_ret, acode_skip, seqQ_n, seqQ_e, seqQ_r, blockQ_n, blockQ_e, blockQ_r, TK_at, OK_at, SK_at, aops_nil, aops_cons, asch_done, asch_one, asch_two, asch_top, astep, aop_eq, isLoud, aloud, aloud1, isWrite, qv, evS, strip, gof, eget, hget, putO, eput, herase, oks, opnds, gS, afin, afin0, binD, arith, D.cells, takeD, fillD, keep, trim, envOf, Fin, aresl, aresv, resD, argOk, pickV, isP, deq, deqs, boundD, slD, lenD, isT, isSl, ptrIds, chunks, mn_min, mx_max, D.cells, splice_one, splice_more, i3, p3, hle1, hle2]
    refine XCall.copy (id := 0) (off := i + 1) (len := xs.length + 1 - (i + 1)) (xs := U) (ys := (U.drop i).take (xs.length + 1 - i)) (cp := xs.length + (k + 1) - (i + 1)) (by simp [oks, opnds, gS, gof, eget]) rfl (by simp [evS, eget, strip]) (by simp [hget]) (by simp [evS, eget, strip, srcD, hget]) (fun r hr => ?_) (fun r hr d hd => ?_) ?_
    · rw [show xs.length + 1 - (i + 1) = xs.length - i by omega, hC] at hr
      exact hxs r (List.mem_of_mem_drop hr)
    · rw [show xs.length + 1 - (i + 1) = xs.length - i by omega, hC] at hr
      exact hnv (hT r (List.mem_of_mem_drop hr) d hd)
    rw [show xs.length + 1 - (i + 1) = xs.length - i by omega, hC, hD]
    simp [AK_at, acode_seq, acode_region, acode_draw, acode_cond, ↓CB_t, ↓CB_f, CB_u, acode_block, acode_loop, acode_exit, acode_scope, acode_ret, acode_skip, seqQ_n, seqQ_e, seqQ_r, blockQ_n, blockQ_e, blockQ_r, TK_at, OK_at, SK_at, aops_nil, aops_cons, asch_done, asch_one, asch_two, asch_top, astep, aop_eq, isLoud, aloud, aloud1, isWrite, qv, evS, strip, gof, eget, hget, putO, eput, herase, oks, opnds, gS, afin, afin0, binD, arith, D.cells, takeD, fillD, keep, trim, envOf, Fin, aresl, aresv, resD, argOk, pickV, isP, deq, deqs, boundD, slD, lenD, isT, isSl, ptrIds, chunks, mn_min, mx_max, D.cells, splice_one, splice_more, i3, p3, hle1, hle2]
    refine XCall.copy (id := 0) (off := i) (len := xs.length + 1 - i) (xs := V) (ys := [row]) (cp := xs.length + (k + 1) - i) (by simp [oks, opnds, gS, gof, eget]) rfl (by simp [evS, eget, strip]) (by simp [hget]) (by simp [evS, eget, strip, srcD, slD, hget]) (fun r hr => ?_) (fun r hr d hd => ?_) ?_
    · rw [List.mem_singleton.1 (List.mem_of_mem_take hr)]; exact hrow
    · rw [List.mem_singleton.1 (List.mem_of_mem_take hr)] at hd; exact hnv (hTr d hd)
    rw [hE]
    simp [AK_at, acode_seq, acode_region, acode_draw, acode_cond, ↓CB_t, ↓CB_f, CB_u, acode_block, acode_loop, acode_exit, acode_scope, acode_ret, acode_skip, seqQ_n, seqQ_e, seqQ_r, blockQ_n, blockQ_e, blockQ_r, TK_at, OK_at, SK_at, aops_nil, aops_cons, asch_done, asch_one, asch_two, asch_top, astep, aop_eq, isLoud, aloud, aloud1, isWrite, qv, evS, strip, gof, eget, hget, putO, eput, herase, oks, opnds, gS, afin, afin0, binD, arith, D.cells, takeD, fillD, keep, trim, envOf, Fin, aresl, aresv, resD, argOk, pickV, isP, deq, deqs, boundD, slD, lenD, isT, isSl, ptrIds, chunks, mn_min, mx_max, D.cells, splice_one, splice_more]
    refine W.gh (Gh.closeR (t := 0) (id := 0) (sz := 2) (len := xs.length + 1) (xs := W3) (by simp [eget, l3]) (by simp [hget]) (by rw [t3]; exact ins_mem hT hTr)) ?_
    rw [t3]
    simp only [eput, herase]
    refine acode_sound [0, 1, 2, 6, 7, 8, 9, 16, 22, 31, 68] [] _ _ _ ?_
    simp [AK_at, acode_seq, acode_region, acode_draw, acode_cond, ↓CB_t, ↓CB_f, CB_u, acode_block, acode_loop, acode_exit, acode_scope, acode_ret, acode_skip, seqQ_n, seqQ_e, seqQ_r, blockQ_n, blockQ_e, blockQ_r, TK_at, OK_at, SK_at, aops_nil, aops_cons, asch_done, asch_one, asch_two, asch_top, astep, aop_eq, isLoud, aloud, aloud1, isWrite, qv, evS, strip, gof, eget, hget, putO, eput, herase, oks, opnds, gS, afin, afin0, binD, arith, D.cells, takeD, fillD, keep, trim, envOf, Fin, aresl, aresv, resD, argOk, pickV, isP, deq, deqs, boundD, slD, lenD, isT, isSl, ptrIds, chunks, mn_min, mx_max, D.cells, splice_one, splice_more]
end Go.Proofs.Ytajimebannjofaa

set_option linter.unusedSimpArgs false
set_option linter.unusedVariables false
set_option maxRecDepth 100000
set_option maxHeartbeats 2000000
namespace Go.Proofs.Ytajimebannjofaa
open Go.RowKit
theorem del_a (xs : List (List D)) (i k z : Nat) (hi : i < xs.length) : ((xs ++ List.replicate k (anyRow z)).drop (i + 1)).take (xs.length - (i + 1)) = xs.drop (i + 1) := by
  rw [List.drop_append_of_le_length (by omega), List.take_append_of_le_length (by simp), List.take_of_length_le (by simp)]
theorem del_b (xs : List (List D)) (i k z : Nat) (hi : i < xs.length) : ∃ r, r.length = k + 1 ∧
    (xs ++ List.replicate k (anyRow z)).take i ++ xs.drop (i + 1) ++ (xs ++ List.replicate k (anyRow z)).drop (i + (xs.drop (i + 1)).length) = xs.take i ++ xs.drop (i + 1) ++ r := by
  refine ⟨(xs ++ List.replicate k (anyRow z)).drop (i + (xs.drop (i + 1)).length), by simp; omega, ?_⟩
  rw [List.take_append_of_le_length (by omega)]
theorem del_c (A r : List (List D)) (n m z : Nat) (hA : A.length = n) : (A ++ r).take n ++ List.replicate m (anyRow z) ++ (A ++ r).drop (n + (List.replicate m (anyRow z)).length) = A ++ (List.replicate m (anyRow z) ++ r.drop m) := by
  subst hA
  rw [List.take_left, List.drop_append]
  have h : A.drop (A.length + (List.replicate m (anyRow z)).length) = [] := List.drop_eq_nil_of_le (by simp)
  rw [h]
  simp
theorem tdel_code : cfun Try.prog [] 26 = some ⟨(.seq (.region 0 [⟨(some 6), (.mov (.k .nil0)), none⟩]) (.seq (.region 1 [⟨(some 8), (.mov (.t 0)), none⟩, ⟨(some 9), (.mov (.t 1)), none⟩, ⟨(some 10), (.mov (.t 2)), none⟩, ⟨(some 11), (.mov (.t 0)), none⟩, ⟨(some 12), (.len (.t 11)), none⟩, ⟨(some 13), (.slc 2 (.t 8) (some (.t 9)) (some (.t 10)) (some (.t 12))), none⟩]) (.seq (.seq (.region 2 [⟨(some 14), (.mov (.t 1)), none⟩, ⟨(some 15), (.mov (.t 2)), none⟩, ⟨(some 16), (.bin .eql (.t 14) (.t 15)), none⟩]) (.cond 16 (.seq (.region 3 [⟨(some 17), (.mov (.t 0)), none⟩, ⟨(some 6), (.mov (.t 17)), none⟩]) .ret) .skip)) (.seq (.region 4 [⟨(some 18), (.mov (.t 0)), none⟩, ⟨(some 19), (.len (.t 18)), none⟩, ⟨(some 7), (.mov (.t 19)), none⟩]) (.seq (.draw 5 (.one true ⟨(some 20), (.mov (.t 0)), none⟩ (.one true ⟨(some 21), (.mov (.t 1)), none⟩ (.one true ⟨(some 22), (.slc 2 (.t 20) none (some (.t 21)) none), none⟩ (.one true ⟨(some 23), (.mov (.t 0)), none⟩ (.one true ⟨(some 24), (.mov (.t 2)), none⟩ (.one true ⟨(some 25), (.slc 2 (.t 23) (some (.t 24)) none none), none⟩ (.one false ⟨(some 26), (.app 2 16 [(.int .i64 0), (.int .i64 0)] (.t 22) (.t 25)), none⟩ (.one true ⟨(some 0), (.mov (.t 26)), none⟩ .done))))))))) (.seq (.region 6 [⟨(some 27), (.mov (.t 0)), none⟩, ⟨(some 28), (.mov (.t 0)), none⟩, ⟨(some 29), (.len (.t 28)), none⟩, ⟨(some 30), (.mov (.t 7)), none⟩, ⟨(some 31), (.slc 2 (.t 27) (some (.t 29)) (some (.t 30)) none), none⟩, ⟨none, (.xop 10 [2] [(.t 31)]), none⟩]) (.seq (.region 7 [⟨(some 32), (.mov (.t 0)), none⟩, ⟨(some 6), (.mov (.t 32)), none⟩]) .ret))))))), [(.t 6)], 33⟩ := by kernel_rfl
theorem tdel_hf (xs : List (List D)) (i : Nat) (hi : i < xs.length) (hl : xs.length < 1000000) (hxs : ∀ r ∈ xs, r.length = 2) (hT : ∀ r ∈ xs, ∀ d ∈ r, isT d = true) :
    HF Try.prog 26 [.own 0, I i, I ((i : Int) + 1)] [(0, .row 2 xs)] 1 (fun d H' nx' => d = .own 1 ∧ H' = [(1, .row 2 (xs.take i ++ xs.drop (i + 1)))] ∧ nx' = 2) := by
  refine HF.one (fun _ => rfl) (fun _ => trivial) ?_
  refine HF.of follows_ok tdel_code (by simp) (by simp [argOk]) (by simp [LtV, LtC]) fun B hBN hB0 => acode_sound [0, 1, 2, 6, 7, 16] [5, 7] _ _ _ ?_
  have hz : ¬ ((i : Int) = i + 1) := by omega
  have h0 : xs ≠ [] := by
    rintro rfl
    simp at hi
  have p3 : (0 : Int) ≤ (i : Int) + 1 := by omega
  have hle : i + 1 ≤ xs.length := by omega
  have hle0 : i ≤ xs.length := by omega
  have hnv : ∀ {d : D}, isT d = true → d ≠ .any := fun h e => by rw [e] at h; cases h
  simp [AK_at, acode_seq, acode_region, acode_draw, acode_cond, ↓CB_t, ↓CB_f, CB_u, acode_block, acode_loop, acode_exit, acode_scope, acode_ret, acode_skip, seqQ_n, seqQ_e, seqQ_r, blockQ_n, blockQ_e, blockQ_r, TK_at, OK_at, SK_at, aops_nil, aops_cons, asch_done, asch_one, asch_two, asch_top, astep, aop_eq, isLoud, aloud, aloud1, isWrite, qv, evS, strip, gof, eget, hget, putO, eput, herase, oks, opnds, gS, afin, afin0, binD, arith, D.cells, takeD, fillD, keep, trim, envOf, Fin, aresl, aresv, resD, argOk, pickV, isP, deq, deqs, boundD, slD, lenD, isT, isSl, ptrIds, chunks, mn_min, mx_max, D.cells, splice_one, splice_more, hz, hle, p3]
  refine W.openR (t := 0) (id := 0) (sz := 2) (xs := xs) (by simp [eget]) (by simp [hget]) h0 fun k => ?_
  simp only [eput]
  refine acode_sound [0, 1, 2, 6, 7, 16] [] _ _ _ ?_
  obtain ⟨U, hU⟩ : ∃ U, U = xs ++ List.replicate k (anyRow 2) := ⟨_, rfl⟩
  have hA := del_a xs i k 2 hi
  obtain ⟨r, hr, hB⟩ := del_b xs i k 2 hi
  rw [← hU] at hA hB ⊢
  obtain ⟨V, hV⟩ : ∃ V, V = xs.take i ++ xs.drop (i + 1) := ⟨_, rfl⟩
  have hVl : V.length = xs.length - 1 := by rw [hV]; simp; omega
  rw [← hV] at hB ⊢
  have hdl : (xs.drop (i + 1)).length = xs.length - (i + 1) := by simp
  have hle2 : i ≤ xs.length + k := by omega
  simp [AK_at, acode_seq, acode_region, acode_draw, acode_cond, ↓CB_t, ↓CB_f, CB_u, acode_block, acode_loop, acode_exit, acode_scope, acode_ret, acode_skip, seqQ_n, seqQ_e, seqQ_r, blockQ_n, blockQ_e, blockQ_r, TK_at, OK_at, SK_at, aops_nil, aops_cons, asch_done, asch_one, asch_two, asch_top, astep, aop_eq, isLoud, aloud, aloud1, isWrite, qv, evS, strip, gof, eget, hget, putO, eput, herase, oks, opnds, gS, afin, afin0, binD, arith, D.cells, takeD, fillD, keep, trim, envOf, Fin, aresl, aresv, resD, argOk, pickV, isP, deq, deqs, boundD, slD, lenD, isT, isSl, ptrIds, chunks, mn_min, mx_max, D.cells, splice_one, splice_more, p3, hle, hle2, hle0]
  refine WCall.appSl (id := 0) (off := 0) (len := i) (cp := xs.length + k) (xs := U) (ys := (U.drop (i + 1)).take (xs.length - (i + 1))) (by simp [oks, opnds, gS, gof, eget]) rfl (by simp [evS, eget, strip]) (by simp [hget]) (by simp [evS, eget, strip, srcD, hget]) (by rw [hA, hdl]; omega) (fun r hr => ?_) (fun r hr d hd => ?_) ?_
  · rw [hA] at hr
    exact hxs r (List.mem_of_mem_drop hr)
  · rw [hA] at hr
    exact hnv (hT r (List.mem_of_mem_drop hr) d hd)
  rw [hA, Nat.zero_add, hB, hdl, show i + (xs.length - (i + 1)) = xs.length - 1 by omega]
  have c1 : xs.length - 1 ≤ xs.length := by omega
  have c2 : xs.length ≤ xs.length + k := by omega
  simp [AK_at, acode_seq, acode_region, acode_draw, acode_cond, ↓CB_t, ↓CB_f, CB_u, acode_block, acode_loop, acode_exit, acode_scope, acode_ret, acode_skip, seqQ_n, seqQ_e, seqQ_r, blockQ_n, blockQ_e, blockQ_r, TK_at, OK_at, SK_at, aops_nil, aops_cons, asch_done, asch_one, asch_two, asch_top, astep, aop_eq, isLoud, aloud, aloud1, isWrite, qv, evS, strip, gof, eget, hget, putO, eput, herase, oks, opnds, gS, afin, afin0, binD, arith, D.cells, takeD, fillD, keep, trim, envOf, Fin, aresl, aresv, resD, argOk, pickV, isP, deq, deqs, boundD, slD, lenD, isT, isSl, ptrIds, chunks, mn_min, mx_max, D.cells, splice_one, splice_more, c1, c2]
  have hC := del_c V r (xs.length - 1) (xs.length - (xs.length - 1)) 2 hVl
  refine XCall.clear (id := 0) (sz := 2) (off := xs.length - 1) (len := xs.length - (xs.length - 1)) (cp := xs.length + k - (xs.length - 1)) (xs := V ++ r) (by simp [oks, opnds, gS, gof, eget]) rfl (by simp [evS, eget, strip]) (by simp [hget]) ?_
  rw [hC]
  obtain ⟨W3, hW3⟩ : ∃ W3, W3 = V ++ (List.replicate (xs.length - (xs.length - 1)) (anyRow 2) ++ r.drop (xs.length - (xs.length - 1))) := ⟨_, rfl⟩
  have l3 : W3.length = xs.length + k := by rw [hW3]; simp; omega
  have t3 : W3.take (xs.length - 1) = V := by rw [hW3, ← hVl, List.take_left]
  rw [← hW3]
  simp [AK_at, acode_seq, acode_region, acode_draw, acode_cond, ↓CB_t, ↓CB_f, CB_u, acode_block, acode_loop, acode_exit, acode_scope, acode_ret, acode_skip, seqQ_n, seqQ_e, seqQ_r, blockQ_n, blockQ_e, blockQ_r, TK_at, OK_at, SK_at, aops_nil, aops_cons, asch_done, asch_one, asch_two, asch_top, astep, aop_eq, isLoud, aloud, aloud1, isWrite, qv, evS, strip, gof, eget, hget, putO, eput, herase, oks, opnds, gS, afin, afin0, binD, arith, D.cells, takeD, fillD, keep, trim, envOf, Fin, aresl, aresv, resD, argOk, pickV, isP, deq, deqs, boundD, slD, lenD, isT, isSl, ptrIds, chunks, mn_min, mx_max, D.cells, splice_one, splice_more]
  refine W.gh (Gh.closeR (t := 0) (id := 0) (sz := 2) (len := xs.length - 1) (xs := W3) (by simp [eget, l3]) (by simp [hget]) ?_) ?_
  · rw [t3, hV]
    intro r hr
    rcases List.mem_append.1 hr with hr | hr
    · exact hT r (List.mem_of_mem_take hr)
    · exact hT r (List.mem_of_mem_drop hr)
  rw [t3]
  simp only [eput, herase]
  refine acode_sound [0, 1, 2, 6, 7, 16] [] _ _ _ ?_
  simp [AK_at, acode_seq, acode_region, acode_draw, acode_cond, ↓CB_t, ↓CB_f, CB_u, acode_block, acode_loop, acode_exit, acode_scope, acode_ret, acode_skip, seqQ_n, seqQ_e, seqQ_r, blockQ_n, blockQ_e, blockQ_r, TK_at, OK_at, SK_at, aops_nil, aops_cons, asch_done, asch_one, asch_two, asch_top, astep, aop_eq, isLoud, aloud, aloud1, isWrite, qv, evS, strip, gof, eget, hget, putO, eput, herase, oks, opnds, gS, afin, afin0, binD, arith, D.cells, takeD, fillD, keep, trim, envOf, Fin, aresl, aresv, resD, argOk, pickV, isP, deq, deqs, boundD, slD, lenD, isT, isSl, ptrIds, chunks, mn_min, mx_max, D.cells, splice_one, splice_more]
end Go.Proofs.Ytajimebannjofaa

set_option linter.unusedSimpArgs false
set_option linter.unusedVariables false
namespace Go.Proofs.Ytajimebannjofaa
/-- the place of the first that fits, or -1 -/
def idxZ {α : Type} (q : α → Bool) : List α → Int
  | [] => -1
  | x :: l => if q x then 0 else if idxZ q l < 0 then -1 else idxZ q l + 1
theorem idxZ_lo {α : Type} (q : α → Bool) : ∀ l : List α, -1 ≤ idxZ q l ∧ idxZ q l < l.length
  | [] => by simp [idxZ]
  | x :: l => by
    have := idxZ_lo q l
    simp only [idxZ, List.length_cons]
    split
    · omega
    · split <;> omega
theorem idxZ_at {α : Type} (q : α → Bool) : ∀ (l : List α) (i : Nat) (h : i < l.length), (∀ j (hj : j < i), q l[j] = false) → q l[i] = true → idxZ q l = i
  | [], i, h, _, _ => by simp at h
  | x :: l, 0, h, _, hq => by
    simp only [List.getElem_cons_zero] at hq
    simp [idxZ, hq]
  | x :: l, i + 1, h, hb, hq => by
    have h0 := hb 0 (by omega)
    simp only [List.getElem_cons_zero] at h0
    have ih := idxZ_at q l i (by simpa using h) (fun j hj => by simpa using hb (j + 1) (by omega)) (by simpa using hq)
    simp only [idxZ, h0, Bool.false_eq_true, if_false, ih]
    rw [if_neg (by omega)]; omega
theorem idxZ_none {α : Type} (q : α → Bool) : ∀ (l : List α), (∀ x ∈ l, q x = false) → idxZ q l = -1
  | [], _ => rfl
  | x :: l, h => by simp [idxZ, h x (by simp), idxZ_none q l fun y hy => h y (List.mem_cons_of_mem _ hy)]
theorem idxZ_some {α : Type} (q : α → Bool) : ∀ (l : List α), (∃ x ∈ l, q x = true) → 0 ≤ idxZ q l
  | [], h => by simp at h
  | x :: l, h => by
    simp only [idxZ]
    split
    · omega
    · rename_i hx
      have : 0 ≤ idxZ q l := idxZ_some q l (by
        obtain ⟨y, hy, hq⟩ := h
        rcases List.mem_cons.1 hy with rfl | hy
        · exact absurd hq hx
        · exact ⟨y, hy, hq⟩)
      rw [if_neg (by omega)]; omega
theorem idxZ_get {α : Type} (q : α → Bool) : ∀ (l : List α) (h : 0 ≤ idxZ q l), ∃ (h2 : (idxZ q l).toNat < l.length), q l[(idxZ q l).toNat] = true ∧ ∀ j (hj : j < (idxZ q l).toNat), q (l[j]'(by omega)) = false := fun l h => by
  by_cases hx : ∃ x ∈ l, q x = true
  · obtain ⟨i, hi, hq, hb⟩ : ∃ (i : Nat) (hi : i < l.length), q l[i] = true ∧ ∀ j (hj : j < i), q (l[j]'(by omega)) = false := by
      obtain ⟨x, hx, hq⟩ := hx
      have h1 : l.findIdx q < l.length := List.findIdx_lt_length_of_exists ⟨x, hx, hq⟩
      exact ⟨l.findIdx q, h1, List.findIdx_getElem (w := h1), fun j hj => by simpa using List.not_of_lt_findIdx hj⟩
    have e := idxZ_at q l i hi hb hq
    have e2 : (idxZ q l).toNat = i := by omega
    refine ⟨by omega, ?_, fun j hj => hb j (by omega)⟩
    simp only [e2]; exact hq
  · have := idxZ_none q l fun x hm => by
      cases hqx : q x with
      | true => exact absurd ⟨x, hm, hqx⟩ hx
      | false => rfl
    omega
end Go.Proofs.Ytajimebannjofaa

set_option linter.unusedSimpArgs false
set_option linter.unusedVariables false
set_option maxRecDepth 100000
set_option maxHeartbeats 2000000
namespace Go.Proofs.Ytajimebannjofaa
open Go.RowKit
theorem brw_T (H : List (Nat × Ob)) (n : Nat) : ∀ ds : List D, (∀ d ∈ ds, isT d = true) → omap (brwC H n) ds = some ds
  | [], _ => rfl
  | d :: ds, h => by
    have h1 : brwC H n d = some d := by
      have := h d (by simp)
      cases d <;> first | (cases this; done) | (cases n <;> rfl)
    simp only [omap, h1, brw_T H n ds fun x hx => h x (List.mem_cons_of_mem _ hx)]
theorem splice_all (zs es : List D) (h : zs.length = es.length) : splice zs 0 es = es := by
  unfold splice
  rw [List.take_zero, List.nil_append, Nat.zero_add, List.drop_eq_nil_of_le (by omega), List.append_nil]
/-- elements of n cells, none of which is a reference -/
def Els {α : Type} (n : Nat) (E : α → List D) (l : List α) : Prop := ∀ x ∈ l, (E x).length = n ∧ ∀ d ∈ E x, isT d = true
theorem Els.len {α : Type} {n : Nat} {E : α → List D} {l : List α} (h : Els n E l) {x : α} (hx : x ∈ l) : (E x).length = n := (h x hx).1
theorem Els.rows {α : Type} {n : Nat} {E : α → List D} {l : List α} (h : Els n E l) : ∀ r ∈ l.map E, r.length = n := fun r hr => by
  obtain ⟨x, hx, rfl⟩ := List.mem_map.1 hr
  exact (h x hx).1
theorem Els.isT {α : Type} {n : Nat} {E : α → List D} {l : List α} (h : Els n E l) : ∀ r ∈ l.map E, ∀ d ∈ r, Go.Proofs.Ytajimebannjofaa.isT d = true := fun r hr => by
  obtain ⟨x, hx, rfl⟩ := List.mem_map.1 hr
  exact (h x hx).2
/-- how many stand ahead -/
def lowB {α : Type} (p : α → Bool) (l : List α) : Nat := (l.takeWhile p).length
theorem lowB_at {α : Type} (p : α → Bool) : ∀ (l : List α) (i : Nat), i ≤ l.length → (∀ j (hj : j < l.length), j < i → p l[j] = true) → (∀ (hi : i < l.length), p l[i] = false) → lowB p l = i
  | [], i, h, _, _ => by simp at h; subst h; rfl
  | x :: l, 0, _, _, h2 => by
    have := h2 (by simp)
    simp only [List.getElem_cons_zero] at this
    simp [lowB, List.takeWhile_cons, this]
  | x :: l, i + 1, h, h1, h2 => by
    have h0 := h1 0 (by simp) (by omega)
    simp only [List.getElem_cons_zero] at h0
    have ih := lowB_at p l i (by simpa using h) (fun j hj hji => by have := h1 (j + 1) (by simpa using hj) (by omega); rwa [List.getElem_cons_succ] at this) (fun hi => by have := h2 (by simpa using hi); rwa [List.getElem_cons_succ] at this)
    unfold lowB at ih ⊢
    rw [List.takeWhile_cons, if_pos h0, List.length_cons, ih]
theorem lowB_cons {α : Type} (p : α → Bool) (x : α) (l : List α) : lowB p (x :: l) = if p x then lowB p l + 1 else 0 := by
  unfold lowB
  rw [List.takeWhile_cons]
  split <;> simp
theorem lowB_lt {α : Type} (p : α → Bool) : ∀ (l : List α) (j : Nat) (h : j < l.length), j < lowB p l → p l[j] = true
  | [], j, h, _ => by simp at h
  | x :: l, 0, h, hj => by
    rw [lowB_cons] at hj
    split at hj
    · assumption
    · omega
  | x :: l, j + 1, h, hj => by
    rw [lowB_cons] at hj
    split at hj
    · simpa using lowB_lt p l j (by simpa using h) (by omega)
    · omega
theorem lowB_ge {α : Type} (p : α → Bool) : ∀ (l : List α) (h : lowB p l < l.length), p (l[lowB p l]'h) = false
  | [], h => by simp [lowB] at h
  | x :: l, h => by
    cases hp : p x with
    | false =>
      have e : lowB p (x :: l) = 0 := by rw [lowB_cons, hp]; rfl
      simp only [e]
      exact hp
    | true =>
      have e : lowB p (x :: l) = lowB p l + 1 := by rw [lowB_cons, hp]; rfl
      have h' : lowB p l < l.length := by rw [e] at h; simpa using h
      simp only [e]
      exact lowB_ge p l h'
theorem lowB_le {α : Type} (p : α → Bool) (l : List α) : lowB p l ≤ l.length := (List.takeWhile_sublist p).length_le
theorem tiixf_code : cfun Try.prog [] 43 = some ⟨(.seq (.region 0 [⟨(some 4), (.mov (.k (.int .i64 0))), none⟩]) (.seq (.seq (.region 1 [⟨(some 6), (.mov (.t 0)), none⟩, ⟨(some 7), (.len (.t 6)), none⟩, ⟨(some 8), (.mov (.k (.int .i64 0))), none⟩]) (.block 0 (.loop (.seq (.region 2 [⟨(some 9), (.bin .lss (.t 8) (.t 7)), none⟩]) (.seq (.cond 9 .skip (.exit 0)) (.seq (.block 1 (.seq (.region 3 [⟨(some 10), (.mov (.t 8)), none⟩, ⟨(some 5), (.mov (.t 10)), none⟩]) (.seq (.region 4 [⟨(some 11), (.mov (.t 1)), none⟩, ⟨(some 12), (.mov (.t 0)), none⟩, ⟨(some 13), (.mov (.t 5)), none⟩, ⟨(some 14), (.iads 2 (.t 12) (.t 13)), none⟩, ⟨(some 15), (.load true 2 (.t 14)), none⟩, ⟨(some 16), (.callv (.t 11) [(.t 15)]), none⟩]) (.cond 16 (.seq (.region 5 [⟨(some 17), (.mov (.t 5)), none⟩, ⟨(some 4), (.mov (.t 17)), none⟩]) .ret) .skip)))) (.region 6 [⟨(some 18), (.bin .add (.t 8) (.k (.int .i64 1))), none⟩, ⟨(some 8), (.mov (.t 18)), none⟩]))))))) (.seq (.region 7 [⟨(some 4), (.mov (.k (.int .i64 (-1)))), none⟩]) .ret))), [(.t 4)], 19⟩ := by kernel_rfl
theorem tiixf0_pf {α : Type} (E : α → List D) (l : List α) (F : FuncId) (q : α → Bool) (hl : l.length ≤ 1000000) (hE : Els 2 E l) (hF : ∀ s ∈ l, PF Try.prog F [.agg (E s)] (.bool (q s))) : PF Try.prog 43 [.rows 2 (l.map E), .fn F []] (I (idxZ q l)) := by
  refine PF.of follows_ok tiixf_code (by simp) (by simp [argOk]) (by simp [noV, noC]) fun B hBN hB0 => acode_sound [0, 1, 4, 5, 7, 8, 9, 16] [] _ _ _ ?_
  simp [AK_at, acode_seq, acode_region, acode_draw, acode_cond, ↓CB_t, ↓CB_f, CB_u, acode_block, acode_loop, acode_exit, acode_scope, acode_ret, acode_skip, seqQ_n, seqQ_e, seqQ_r, blockQ_n, blockQ_e, blockQ_r, TK_at, OK_at, SK_at, aops_nil, aops_cons, asch_done, asch_one, asch_two, asch_top, astep, aop_eq, isLoud, aloud, aloud1, isWrite, qv, evS, strip, gof, eget, hget, putO, eput, herase, oks, opnds, gS, afin, afin0, binD, arith, D.cells, takeD, fillD, keep, trim, envOf, Fin, aresl, aresv, resD, argOk, pickV, isP, deq, deqs, boundD, slD, lenD, isT, isSl, ptrIds, chunks, mn_min, mx_max, D.cells, splice_one, splice_more, Rbr_at, Rfr_at, frR, frV, frC, flatC, brwR, brwV, brwC, omap, leR, leV, leC, leL, leVL]
  refine W.loopS (fun i : Nat => ⟨[(8, I i), (7, I l.length), (4, I 0), (1, .fn F []), (0, D.rows 2 (l.map E))], [], 0⟩)
    (fun n i => n = l.length - i ∧ i ≤ l.length ∧ ∀ j (hj : j < l.length), j < i → q l[j] = false) ?_ ?_
  · exact ⟨_, 0, (Gh.ren [] (by simp [hB0]) (by simp [hB0] <;> decide) (by simp [eget, rnS, rnR, rnV, rnC, LtS, LtR, LtV, LtC, lget]) (by simp [hget, rnO, rnC, LtO, LtC, lget]) (.inr rfl)), rfl, by omega, fun j _ h => by omega⟩
  rintro n i ⟨hn, hi, hb⟩
  refine acode_sound [0, 1, 4, 5, 7, 8, 9, 16] [] _ _ _ ?_
  by_cases hlt : i < l.length
  · have hm : l[i] ∈ l := List.getElem_mem hlt
    have hE0 := hE _ hm
    have hFo := hF _ hm
    obtain ⟨o, ho⟩ : ∃ o, o = l[i] := ⟨_, rfl⟩
    rw [← ho] at hE0 hFo
    obtain ⟨h1, h2⟩ := hE0
    have h3 : (E o).take 2 = E o := List.take_of_length_le (by omega)
    have h4 := fun H n => brw_T H n (E o) h2
    have ii : InR ((i : Int) + 1) := inW (by omega) (by omega)
    simp [AK_at, acode_seq, acode_region, acode_draw, acode_cond, ↓CB_t, ↓CB_f, CB_u, acode_block, acode_loop, acode_exit, acode_scope, acode_ret, acode_skip, seqQ_n, seqQ_e, seqQ_r, blockQ_n, blockQ_e, blockQ_r, TK_at, OK_at, SK_at, aops_nil, aops_cons, asch_done, asch_one, asch_two, asch_top, astep, aop_eq, isLoud, aloud, aloud1, isWrite, qv, evS, strip, gof, eget, hget, putO, eput, herase, oks, opnds, gS, afin, afin0, binD, arith, D.cells, takeD, fillD, keep, trim, envOf, Fin, aresl, aresv, resD, argOk, pickV, isP, deq, deqs, boundD, slD, lenD, isT, isSl, ptrIds, chunks, mn_min, mx_max, D.cells, splice_one, splice_more, Rbr_at, Rfr_at, frR, frV, frC, flatC, brwR, brwV, brwC, omap, leR, leV, leC, leL, leVL, hlt, ← ho, h1, h3]
    cases hq : q o with
    | true =>
      have hz := idxZ_at q l i hlt (fun j hj => hb j (by omega) hj) (by rw [← ho]; exact hq)
      repeat' (first
        | simp [AK_at, acode_seq, acode_region, acode_draw, acode_cond, ↓CB_t, ↓CB_f, CB_u, acode_block, acode_loop, acode_exit, acode_scope, acode_ret, acode_skip, seqQ_n, seqQ_e, seqQ_r, blockQ_n, blockQ_e, blockQ_r, TK_at, OK_at, SK_at, aops_nil, aops_cons, asch_done, asch_one, asch_two, asch_top, astep, aop_eq, isLoud, aloud, aloud1, isWrite, qv, evS, strip, gof, eget, hget, putO, eput, herase, oks, opnds, gS, afin, afin0, binD, arith, D.cells, takeD, fillD, keep, trim, envOf, Fin, aresl, aresv, resD, argOk, pickV, isP, deq, deqs, boundD, slD, lenD, isT, isSl, ptrIds, chunks, mn_min, mx_max, D.cells, splice_one, splice_more, Rbr_at, Rfr_at, frR, frV, frC, flatC, brwR, brwV, brwC, omap, leR, leV, leC, leL, leVL, hq, hz, h4, leL_refl]
        | (refine WCall.pfv (hFo) ?_ rfl ?_ ?_ ?_; (focus (simp [oks, opnds, gS, gof, eget]; done)); (focus (simp [omap, brwV, brwC, evS, eget, strip, hget, leVL, leV, leC, leL, hq, hz, h4, leL_refl]; done)); (focus (simp [noV, noC, flatR, flatV, flatC, evS, eget, strip, hq, hz, h4, leL_refl]; done)))
        | (refine ⟨WCall.pfv (hFo) ?_ rfl ?_ ?_ ?_, ?_⟩; (focus (simp [oks, opnds, gS, gof, eget]; done)); (focus (simp [omap, brwV, brwC, evS, eget, strip, hget, leVL, leV, leC, leL, hq, hz, h4, leL_refl]; done)); (focus (simp [noV, noC, flatR, flatV, flatC, evS, eget, strip, hq, hz, h4, leL_refl]; done)))
        | (with_reducible refine And.intro (And.intro ?_ ?_) ?_)
        | fail)
    | false =>
      repeat' (first
        | simp [AK_at, acode_seq, acode_region, acode_draw, acode_cond, ↓CB_t, ↓CB_f, CB_u, acode_block, acode_loop, acode_exit, acode_scope, acode_ret, acode_skip, seqQ_n, seqQ_e, seqQ_r, blockQ_n, blockQ_e, blockQ_r, TK_at, OK_at, SK_at, aops_nil, aops_cons, asch_done, asch_one, asch_two, asch_top, astep, aop_eq, isLoud, aloud, aloud1, isWrite, qv, evS, strip, gof, eget, hget, putO, eput, herase, oks, opnds, gS, afin, afin0, binD, arith, D.cells, takeD, fillD, keep, trim, envOf, Fin, aresl, aresv, resD, argOk, pickV, isP, deq, deqs, boundD, slD, lenD, isT, isSl, ptrIds, chunks, mn_min, mx_max, D.cells, splice_one, splice_more, Rbr_at, Rfr_at, frR, frV, frC, flatC, brwR, brwV, brwC, omap, leR, leV, leC, leL, leVL, hq, ii, h4, leL_refl]
        | (refine WCall.pfv (hFo) ?_ rfl ?_ ?_ ?_; (focus (simp [oks, opnds, gS, gof, eget]; done)); (focus (simp [omap, brwV, brwC, evS, eget, strip, hget, leVL, leV, leC, leL, hq, ii, h4, leL_refl]; done)); (focus (simp [noV, noC, flatR, flatV, flatC, evS, eget, strip, hq, ii, h4, leL_refl]; done)))
        | (refine ⟨WCall.pfv (hFo) ?_ rfl ?_ ?_ ?_, ?_⟩; (focus (simp [oks, opnds, gS, gof, eget]; done)); (focus (simp [omap, brwV, brwC, evS, eget, strip, hget, leVL, leV, leC, leL, hq, ii, h4, leL_refl]; done)); (focus (simp [noV, noC, flatR, flatV, flatC, evS, eget, strip, hq, ii, h4, leL_refl]; done)))
        | (with_reducible refine And.intro (And.intro ?_ ?_) ?_)
        | fail)
      exact ⟨_, i + 1, (Gh.ren [] (by simp [hB0]) (by simp [hB0] <;> decide) (by simp [eget, rnS, rnR, rnV, rnC, LtS, LtR, LtV, LtC, lget]) (by simp [hget, rnO, rnC, LtO, LtC, lget]) (.inr rfl)), by omega, rfl, by omega, fun j hj h => by
        by_cases hji : j = i
        · subst hji; rw [← ho]; exact hq
        · exact hb j hj (by omega)⟩
  · have hz := idxZ_none q l fun x hx => by
      obtain ⟨j, hj⟩ := List.getElem?_of_mem hx
      obtain ⟨hj2, rfl⟩ := List.getElem?_eq_some_iff.1 hj
      exact hb j hj2 (by omega)
    have hie : i = l.length := by omega
    subst hie
    simp [AK_at, acode_seq, acode_region, acode_draw, acode_cond, ↓CB_t, ↓CB_f, CB_u, acode_block, acode_loop, acode_exit, acode_scope, acode_ret, acode_skip, seqQ_n, seqQ_e, seqQ_r, blockQ_n, blockQ_e, blockQ_r, TK_at, OK_at, SK_at, aops_nil, aops_cons, asch_done, asch_one, asch_two, asch_top, astep, aop_eq, isLoud, aloud, aloud1, isWrite, qv, evS, strip, gof, eget, hget, putO, eput, herase, oks, opnds, gS, afin, afin0, binD, arith, D.cells, takeD, fillD, keep, trim, envOf, Fin, aresl, aresv, resD, argOk, pickV, isP, deq, deqs, boundD, slD, lenD, isT, isSl, ptrIds, chunks, mn_min, mx_max, D.cells, splice_one, splice_more, Rbr_at, Rfr_at, frR, frV, frC, flatC, brwR, brwV, brwC, omap, leR, leV, leC, leL, leVL, hz]
theorem tiixf1_pf {α : Type} (E : α → List D) (l : List α) (F : FuncId) (ds : List D) (q : α → Bool) (hl : l.length ≤ 1000000) (hE : Els 2 E l) (hF : ∀ s ∈ l, PF Try.prog F [.agg (E s), .pc ds] (.bool (q s))) : PF Try.prog 43 [.rows 2 (l.map E), .fn F [.pc ds]] (I (idxZ q l)) := by
  refine PF.of follows_ok tiixf_code (by simp) (by simp [argOk]) (by simp [noV, noC]) fun B hBN hB0 => acode_sound [0, 1, 4, 5, 7, 8, 9, 16] [] _ _ _ ?_
  simp [AK_at, acode_seq, acode_region, acode_draw, acode_cond, ↓CB_t, ↓CB_f, CB_u, acode_block, acode_loop, acode_exit, acode_scope, acode_ret, acode_skip, seqQ_n, seqQ_e, seqQ_r, blockQ_n, blockQ_e, blockQ_r, TK_at, OK_at, SK_at, aops_nil, aops_cons, asch_done, asch_one, asch_two, asch_top, astep, aop_eq, isLoud, aloud, aloud1, isWrite, qv, evS, strip, gof, eget, hget, putO, eput, herase, oks, opnds, gS, afin, afin0, binD, arith, D.cells, takeD, fillD, keep, trim, envOf, Fin, aresl, aresv, resD, argOk, pickV, isP, deq, deqs, boundD, slD, lenD, isT, isSl, ptrIds, chunks, mn_min, mx_max, D.cells, splice_one, splice_more, Rbr_at, Rfr_at, frR, frV, frC, flatC, brwR, brwV, brwC, omap, leR, leV, leC, leL, leVL]
  refine W.loopS (fun i : Nat => ⟨[(8, I i), (7, I l.length), (4, I 0), (1, .fn F [.pc ds]), (0, D.rows 2 (l.map E))], [], 0⟩)
    (fun n i => n = l.length - i ∧ i ≤ l.length ∧ ∀ j (hj : j < l.length), j < i → q l[j] = false) ?_ ?_
  · exact ⟨_, 0, (Gh.ren [] (by simp [hB0]) (by simp [hB0] <;> decide) (by simp [eget, rnS, rnR, rnV, rnC, LtS, LtR, LtV, LtC, lget]) (by simp [hget, rnO, rnC, LtO, LtC, lget]) (.inr rfl)), rfl, by omega, fun j _ h => by omega⟩
  rintro n i ⟨hn, hi, hb⟩
  refine acode_sound [0, 1, 4, 5, 7, 8, 9, 16] [] _ _ _ ?_
  by_cases hlt : i < l.length
  · have hm : l[i] ∈ l := List.getElem_mem hlt
    have hE0 := hE _ hm
    have hFo := hF _ hm
    obtain ⟨o, ho⟩ : ∃ o, o = l[i] := ⟨_, rfl⟩
    rw [← ho] at hE0 hFo
    obtain ⟨h1, h2⟩ := hE0
    have h3 : (E o).take 2 = E o := List.take_of_length_le (by omega)
    have h4 := fun H n => brw_T H n (E o) h2
    have ii : InR ((i : Int) + 1) := inW (by omega) (by omega)
    simp [AK_at, acode_seq, acode_region, acode_draw, acode_cond, ↓CB_t, ↓CB_f, CB_u, acode_block, acode_loop, acode_exit, acode_scope, acode_ret, acode_skip, seqQ_n, seqQ_e, seqQ_r, blockQ_n, blockQ_e, blockQ_r, TK_at, OK_at, SK_at, aops_nil, aops_cons, asch_done, asch_one, asch_two, asch_top, astep, aop_eq, isLoud, aloud, aloud1, isWrite, qv, evS, strip, gof, eget, hget, putO, eput, herase, oks, opnds, gS, afin, afin0, binD, arith, D.cells, takeD, fillD, keep, trim, envOf, Fin, aresl, aresv, resD, argOk, pickV, isP, deq, deqs, boundD, slD, lenD, isT, isSl, ptrIds, chunks, mn_min, mx_max, D.cells, splice_one, splice_more, Rbr_at, Rfr_at, frR, frV, frC, flatC, brwR, brwV, brwC, omap, leR, leV, leC, leL, leVL, hlt, ← ho, h1, h3]
    cases hq : q o with
    | true =>
      have hz := idxZ_at q l i hlt (fun j hj => hb j (by omega) hj) (by rw [← ho]; exact hq)
      repeat' (first
        | simp [AK_at, acode_seq, acode_region, acode_draw, acode_cond, ↓CB_t, ↓CB_f, CB_u, acode_block, acode_loop, acode_exit, acode_scope, acode_ret, acode_skip, seqQ_n, seqQ_e, seqQ_r, blockQ_n, blockQ_e, blockQ_r, TK_at, OK_at, SK_at, aops_nil, aops_cons, asch_done, asch_one, asch_two, asch_top, astep, aop_eq, isLoud, aloud, aloud1, isWrite, qv, evS, strip, gof, eget, hget, putO, eput, herase, oks, opnds, gS, afin, afin0, binD, arith, D.cells, takeD, fillD, keep, trim, envOf, Fin, aresl, aresv, resD, argOk, pickV, isP, deq, deqs, boundD, slD, lenD, isT, isSl, ptrIds, chunks, mn_min, mx_max, D.cells, splice_one, splice_more, Rbr_at, Rfr_at, frR, frV, frC, flatC, brwR, brwV, brwC, omap, leR, leV, leC, leL, leVL, hq, hz, h4, leL_refl]
        | (refine WCall.pfv (hFo) ?_ rfl ?_ ?_ ?_; (focus (simp [oks, opnds, gS, gof, eget]; done)); (focus (simp [omap, brwV, brwC, evS, eget, strip, hget, leVL, leV, leC, leL, hq, hz, h4, leL_refl]; done)); (focus (simp [noV, noC, flatR, flatV, flatC, evS, eget, strip, hq, hz, h4, leL_refl]; done)))
        | (refine ⟨WCall.pfv (hFo) ?_ rfl ?_ ?_ ?_, ?_⟩; (focus (simp [oks, opnds, gS, gof, eget]; done)); (focus (simp [omap, brwV, brwC, evS, eget, strip, hget, leVL, leV, leC, leL, hq, hz, h4, leL_refl]; done)); (focus (simp [noV, noC, flatR, flatV, flatC, evS, eget, strip, hq, hz, h4, leL_refl]; done)))
        | (with_reducible refine And.intro (And.intro ?_ ?_) ?_)
        | fail)
    | false =>
      repeat' (first
        | simp [AK_at, acode_seq, acode_region, acode_draw, acode_cond, ↓CB_t, ↓CB_f, CB_u, acode_block, acode_loop, acode_exit, acode_scope, acode_ret, acode_skip, seqQ_n, seqQ_e, seqQ_r, blockQ_n, blockQ_e, blockQ_r, TK_at, OK_at, SK_at, aops_nil, aops_cons, asch_done, asch_one, asch_two, asch_top, astep, aop_eq, isLoud, aloud, aloud1, isWrite, qv, evS, strip, gof, eget, hget, putO, eput, herase, oks, opnds, gS, afin, afin0, binD, arith, D.cells, takeD, fillD, keep, trim, envOf, Fin, aresl, aresv, resD, argOk, pickV, isP, deq, deqs, boundD, slD, lenD, isT, isSl, ptrIds, chunks, mn_min, mx_max, D.cells, splice_one, splice_more, Rbr_at, Rfr_at, frR, frV, frC, flatC, brwR, brwV, brwC, omap, leR, leV, leC, leL, leVL, hq, ii, h4, leL_refl]
        | (refine WCall.pfv (hFo) ?_ rfl ?_ ?_ ?_; (focus (simp [oks, opnds, gS, gof, eget]; done)); (focus (simp [omap, brwV, brwC, evS, eget, strip, hget, leVL, leV, leC, leL, hq, ii, h4, leL_refl]; done)); (focus (simp [noV, noC, flatR, flatV, flatC, evS, eget, strip, hq, ii, h4, leL_refl]; done)))
        | (refine ⟨WCall.pfv (hFo) ?_ rfl ?_ ?_ ?_, ?_⟩; (focus (simp [oks, opnds, gS, gof, eget]; done)); (focus (simp [omap, brwV, brwC, evS, eget, strip, hget, leVL, leV, leC, leL, hq, ii, h4, leL_refl]; done)); (focus (simp [noV, noC, flatR, flatV, flatC, evS, eget, strip, hq, ii, h4, leL_refl]; done)))
        | (with_reducible refine And.intro (And.intro ?_ ?_) ?_)
        | fail)
      exact ⟨_, i + 1, (Gh.ren [] (by simp [hB0]) (by simp [hB0] <;> decide) (by simp [eget, rnS, rnR, rnV, rnC, LtS, LtR, LtV, LtC, lget]) (by simp [hget, rnO, rnC, LtO, LtC, lget]) (.inr rfl)), by omega, rfl, by omega, fun j hj h => by
        by_cases hji : j = i
        · subst hji; rw [← ho]; exact hq
        · exact hb j hj (by omega)⟩
  · have hz := idxZ_none q l fun x hx => by
      obtain ⟨j, hj⟩ := List.getElem?_of_mem hx
      obtain ⟨hj2, rfl⟩ := List.getElem?_eq_some_iff.1 hj
      exact hb j hj2 (by omega)
    have hie : i = l.length := by omega
    subst hie
    simp [AK_at, acode_seq, acode_region, acode_draw, acode_cond, ↓CB_t, ↓CB_f, CB_u, acode_block, acode_loop, acode_exit, acode_scope, acode_ret, acode_skip, seqQ_n, seqQ_e, seqQ_r, blockQ_n, blockQ_e, blockQ_r, TK_at, OK_at, SK_at, aops_nil, aops_cons, asch_done, asch_one, asch_two, asch_top, astep, aop_eq, isLoud, aloud, aloud1, isWrite, qv, evS, strip, gof, eget, hget, putO, eput, herase, oks, opnds, gS, afin, afin0, binD, arith, D.cells, takeD, fillD, keep, trim, envOf, Fin, aresl, aresv, resD, argOk, pickV, isP, deq, deqs, boundD, slD, lenD, isT, isSl, ptrIds, chunks, mn_min, mx_max, D.cells, splice_one, splice_more, Rbr_at, Rfr_at, frR, frV, frC, flatC, brwR, brwV, brwC, omap, leR, leV, leC, leL, leVL, hz]
theorem ticln_code : cfun Try.prog [] 42 = some ⟨(.seq (.region 0 [⟨(some 2), (.mov (.k .nil0)), none⟩]) (.seq (.seq (.region 1 [⟨(some 3), (.mov (.t 0)), none⟩, ⟨(some 4), (.isnil false (.t 3)), none⟩]) (.cond 4 (.seq (.region 2 [⟨(some 2), (.mov (.k .nil0)), none⟩]) .ret) .skip)) (.seq (.region 3 [⟨(some 5), (.bslice 2 0 [(.int .i64 0), (.int .i64 0)] []), none⟩, ⟨(some 6), (.mov (.t 0)), none⟩, ⟨(some 7), (.app 2 16 [(.int .i64 0), (.int .i64 0)] (.t 5) (.t 6)), none⟩, ⟨(some 2), (.mov (.t 7)), none⟩]) .ret))), [(.t 2)], 8⟩ := by kernel_rfl
theorem ticln_hf {α : Type} (E : α → List D) (l : List α) (hl : l.length < 1000000) (hE : Els 2 E l) : HF Try.prog 42 [.rows 2 (l.map E)] [] 0 (fun d H' nx' => (d = .nil0 ∧ l = [] ∧ H' = [] ∧ nx' = 0) ∨ (d = .own 1 ∧ H' = [(1, .row 2 (l.map E))] ∧ nx' = 2)) := by
  have h2 : l.length * 16 ≤ 140737488355328 := by omega
  have h3 := hE.rows
  refine HF.of follows_ok ticln_code (by simp) (by simp [argOk]) (by simp [LtV, LtC]) fun B hBN hB0 => acode_sound [0, 2, 4] [] _ _ _ ?_
  simp [AK_at, acode_seq, acode_region, acode_draw, acode_cond, ↓CB_t, ↓CB_f, CB_u, acode_block, acode_loop, acode_exit, acode_scope, acode_ret, acode_skip, seqQ_n, seqQ_e, seqQ_r, blockQ_n, blockQ_e, blockQ_r, TK_at, OK_at, SK_at, aops_nil, aops_cons, asch_done, asch_one, asch_two, asch_top, astep, aop_eq, isLoud, aloud, aloud1, isWrite, qv, evS, strip, gof, eget, hget, putO, eput, herase, oks, opnds, gS, afin, afin0, binD, arith, D.cells, takeD, fillD, keep, trim, envOf, Fin, aresl, aresv, resD, argOk, pickV, isP, deq, deqs, boundD, slD, lenD, isT, isSl, ptrIds, chunks, mn_min, mx_max, D.cells, splice_one, splice_more, Rbr_at, Rfr_at, frR, frV, frC, flatC, brwR, brwV, brwC, omap, leR, leV, leC, leL, leVL, h2]
  exact fun a ha => hE.len ha
theorem ticln_pfn {α : Type} (E : α → List D) (l : List α) (hl : l.length < 1000000) (hE : Els 2 E l) (hfl : ∀ x ∈ l, ∀ d ∈ E x, flatC d = true) : PFn Try.prog 42 [.rows 2 (l.map E)] (.rows 2 (l.map E)) := by
  have h2 : l.length * 16 ≤ 140737488355328 := by omega
  refine PFn.of follows_ok ticln_code (by simp) (by simp [argOk]) (by simp [noV, noC]) fun B hBN hB0 => acode_sound [0, 2, 4] [] _ _ _ ?_
  simp [AK_at, acode_seq, acode_region, acode_draw, acode_cond, ↓CB_t, ↓CB_f, CB_u, acode_block, acode_loop, acode_exit, acode_scope, acode_ret, acode_skip, seqQ_n, seqQ_e, seqQ_r, blockQ_n, blockQ_e, blockQ_r, TK_at, OK_at, SK_at, aops_nil, aops_cons, asch_done, asch_one, asch_two, asch_top, astep, aop_eq, isLoud, aloud, aloud1, isWrite, qv, evS, strip, gof, eget, hget, putO, eput, herase, oks, opnds, gS, afin, afin0, binD, arith, D.cells, takeD, fillD, keep, trim, envOf, Fin, aresl, aresv, resD, argOk, pickV, isP, deq, deqs, boundD, slD, lenD, isT, isSl, ptrIds, chunks, mn_min, mx_max, D.cells, splice_one, splice_more, Rbr_at, Rfr_at, frR, frV, frC, flatC, brwR, brwV, brwC, omap, leR, leV, leC, leL, leVL, h2]
  exact ⟨fun a ha => hE.len ha, fun a ha d hd => hfl a ha d hd⟩
theorem spixf_code : cfun Try.prog [] 56 = some ⟨(.seq (.region 0 [⟨(some 4), (.mov (.k (.int .i64 0))), none⟩]) (.seq (.seq (.region 1 [⟨(some 6), (.mov (.t 0)), none⟩, ⟨(some 7), (.len (.t 6)), none⟩, ⟨(some 8), (.mov (.k (.int .i64 0))), none⟩]) (.block 0 (.loop (.seq (.region 2 [⟨(some 9), (.bin .lss (.t 8) (.t 7)), none⟩]) (.seq (.cond 9 .skip (.exit 0)) (.seq (.block 1 (.seq (.region 3 [⟨(some 10), (.mov (.t 8)), none⟩, ⟨(some 5), (.mov (.t 10)), none⟩]) (.seq (.region 4 [⟨(some 11), (.mov (.t 1)), none⟩, ⟨(some 12), (.mov (.t 0)), none⟩, ⟨(some 13), (.mov (.t 5)), none⟩, ⟨(some 14), (.iads 2 (.t 12) (.t 13)), none⟩, ⟨(some 15), (.load true 2 (.t 14)), none⟩, ⟨(some 16), (.callv (.t 11) [(.t 15)]), none⟩]) (.cond 16 (.seq (.region 5 [⟨(some 17), (.mov (.t 5)), none⟩, ⟨(some 4), (.mov (.t 17)), none⟩]) .ret) .skip)))) (.region 6 [⟨(some 18), (.bin .add (.t 8) (.k (.int .i64 1))), none⟩, ⟨(some 8), (.mov (.t 18)), none⟩]))))))) (.seq (.region 7 [⟨(some 4), (.mov (.k (.int .i64 (-1)))), none⟩]) .ret))), [(.t 4)], 19⟩ := by kernel_rfl
theorem spixf0_pf {α : Type} (E : α → List D) (l : List α) (F : FuncId) (q : α → Bool) (hl : l.length ≤ 1000000) (hE : Els 2 E l) (hF : ∀ s ∈ l, PF Try.prog F [.agg (E s)] (.bool (q s))) : PF Try.prog 56 [.rows 2 (l.map E), .fn F []] (I (idxZ q l)) := by
  refine PF.of follows_ok spixf_code (by simp) (by simp [argOk]) (by simp [noV, noC]) fun B hBN hB0 => acode_sound [0, 1, 4, 5, 7, 8, 9, 16] [] _ _ _ ?_
  simp [AK_at, acode_seq, acode_region, acode_draw, acode_cond, ↓CB_t, ↓CB_f, CB_u, acode_block, acode_loop, acode_exit, acode_scope, acode_ret, acode_skip, seqQ_n, seqQ_e, seqQ_r, blockQ_n, blockQ_e, blockQ_r, TK_at, OK_at, SK_at, aops_nil, aops_cons, asch_done, asch_one, asch_two, asch_top, astep, aop_eq, isLoud, aloud, aloud1, isWrite, qv, evS, strip, gof, eget, hget, putO, eput, herase, oks, opnds, gS, afin, afin0, binD, arith, D.cells, takeD, fillD, keep, trim, envOf, Fin, aresl, aresv, resD, argOk, pickV, isP, deq, deqs, boundD, slD, lenD, isT, isSl, ptrIds, chunks, mn_min, mx_max, D.cells, splice_one, splice_more, Rbr_at, Rfr_at, frR, frV, frC, flatC, brwR, brwV, brwC, omap, leR, leV, leC, leL, leVL]
  refine W.loopS (fun i : Nat => ⟨[(8, I i), (7, I l.length), (4, I 0), (1, .fn F []), (0, D.rows 2 (l.map E))], [], 0⟩)
    (fun n i => n = l.length - i ∧ i ≤ l.length ∧ ∀ j (hj : j < l.length), j < i → q l[j] = false) ?_ ?_
  · exact ⟨_, 0, (Gh.ren [] (by simp [hB0]) (by simp [hB0] <;> decide) (by simp [eget, rnS, rnR, rnV, rnC, LtS, LtR, LtV, LtC, lget]) (by simp [hget, rnO, rnC, LtO, LtC, lget]) (.inr rfl)), rfl, by omega, fun j _ h => by omega⟩
  rintro n i ⟨hn, hi, hb⟩
  refine acode_sound [0, 1, 4, 5, 7, 8, 9, 16] [] _ _ _ ?_
  by_cases hlt : i < l.length
  · have hm : l[i] ∈ l := List.getElem_mem hlt
    have hE0 := hE _ hm
    have hFo := hF _ hm
    obtain ⟨o, ho⟩ : ∃ o, o = l[i] := ⟨_, rfl⟩
    rw [← ho] at hE0 hFo
    obtain ⟨h1, h2⟩ := hE0
    have h3 : (E o).take 2 = E o := List.take_of_length_le (by omega)
    have h4 := fun H n => brw_T H n (E o) h2
    have ii : InR ((i : Int) + 1) := inW (by omega) (by omega)
    simp [AK_at, acode_seq, acode_region, acode_draw, acode_cond, ↓CB_t, ↓CB_f, CB_u, acode_block, acode_loop, acode_exit, acode_scope, acode_ret, acode_skip, seqQ_n, seqQ_e, seqQ_r, blockQ_n, blockQ_e, blockQ_r, TK_at, OK_at, SK_at, aops_nil, aops_cons, asch_done, asch_one, asch_two, asch_top, astep, aop_eq, isLoud, aloud, aloud1, isWrite, qv, evS, strip, gof, eget, hget, putO, eput, herase, oks, opnds, gS, afin, afin0, binD, arith, D.cells, takeD, fillD, keep, trim, envOf, Fin, aresl, aresv, resD, argOk, pickV, isP, deq, deqs, boundD, slD, lenD, isT, isSl, ptrIds, chunks, mn_min, mx_max, D.cells, splice_one, splice_more, Rbr_at, Rfr_at, frR, frV, frC, flatC, brwR, brwV, brwC, omap, leR, leV, leC, leL, leVL, hlt, ← ho, h1, h3]
    cases hq : q o with
    | true =>
      have hz := idxZ_at q l i hlt (fun j hj => hb j (by omega) hj) (by rw [← ho]; exact hq)
      repeat' (first
        | simp [AK_at, acode_seq, acode_region, acode_draw, acode_cond, ↓CB_t, ↓CB_f, CB_u, acode_block, acode_loop, acode_exit, acode_scope, acode_ret, acode_skip, seqQ_n, seqQ_e, seqQ_r, blockQ_n, blockQ_e, blockQ_r, TK_at, OK_at, SK_at, aops_nil, aops_cons, asch_done, asch_one, asch_two, asch_top, astep, aop_eq, isLoud, aloud, aloud1, isWrite, qv, evS, strip, gof, eget, hget, putO, eput, herase, oks, opnds, gS, afin, afin0, binD, arith, D.cells, takeD, fillD, keep, trim, envOf, Fin, aresl, aresv, resD, argOk, pickV, isP, deq, deqs, boundD, slD, lenD, isT, isSl, ptrIds, chunks, mn_min, mx_max, D.cells, splice_one, splice_more, Rbr_at, Rfr_at, frR, frV, frC, flatC, brwR, brwV, brwC, omap, leR, leV, leC, leL, leVL, hq, hz, h4, leL_refl]
        | (refine WCall.pfv (hFo) ?_ rfl ?_ ?_ ?_; (focus (simp [oks, opnds, gS, gof, eget]; done)); (focus (simp [omap, brwV, brwC, evS, eget, strip, hget, leVL, leV, leC, leL, hq, hz, h4, leL_refl]; done)); (focus (simp [noV, noC, flatR, flatV, flatC, evS, eget, strip, hq, hz, h4, leL_refl]; done)))
        | (refine ⟨WCall.pfv (hFo) ?_ rfl ?_ ?_ ?_, ?_⟩; (focus (simp [oks, opnds, gS, gof, eget]; done)); (focus (simp [omap, brwV, brwC, evS, eget, strip, hget, leVL, leV, leC, leL, hq, hz, h4, leL_refl]; done)); (focus (simp [noV, noC, flatR, flatV, flatC, evS, eget, strip, hq, hz, h4, leL_refl]; done)))
        | (with_reducible refine And.intro (And.intro ?_ ?_) ?_)
        | fail)
    | false =>
      repeat' (first
        | simp [AK_at, acode_seq, acode_region, acode_draw, acode_cond, ↓CB_t, ↓CB_f, CB_u, acode_block, acode_loop, acode_exit, acode_scope, acode_ret, acode_skip, seqQ_n, seqQ_e, seqQ_r, blockQ_n, blockQ_e, blockQ_r, TK_at, OK_at, SK_at, aops_nil, aops_cons, asch_done, asch_one, asch_two, asch_top, astep, aop_eq, isLoud, aloud, aloud1, isWrite, qv, evS, strip, gof, eget, hget, putO, eput, herase, oks, opnds, gS, afin, afin0, binD, arith, D.cells, takeD, fillD, keep, trim, envOf, Fin, aresl, aresv, resD, argOk, pickV, isP, deq, deqs, boundD, slD, lenD, isT, isSl, ptrIds, chunks, mn_min, mx_max, D.cells, splice_one, splice_more, Rbr_at, Rfr_at, frR, frV, frC, flatC, brwR, brwV, brwC, omap, leR, leV, leC, leL, leVL, hq, ii, h4, leL_refl]
        | (refine WCall.pfv (hFo) ?_ rfl ?_ ?_ ?_; (focus (simp [oks, opnds, gS, gof, eget]; done)); (focus (simp [omap, brwV, brwC, evS, eget, strip, hget, leVL, leV, leC, leL, hq, ii, h4, leL_refl]; done)); (focus (simp [noV, noC, flatR, flatV, flatC, evS, eget, strip, hq, ii, h4, leL_refl]; done)))
        | (refine ⟨WCall.pfv (hFo) ?_ rfl ?_ ?_ ?_, ?_⟩; (focus (simp [oks, opnds, gS, gof, eget]; done)); (focus (simp [omap, brwV, brwC, evS, eget, strip, hget, leVL, leV, leC, leL, hq, ii, h4, leL_refl]; done)); (focus (simp [noV, noC, flatR, flatV, flatC, evS, eget, strip, hq, ii, h4, leL_refl]; done)))
        | (with_reducible refine And.intro (And.intro ?_ ?_) ?_)
        | fail)
      exact ⟨_, i + 1, (Gh.ren [] (by simp [hB0]) (by simp [hB0] <;> decide) (by simp [eget, rnS, rnR, rnV, rnC, LtS, LtR, LtV, LtC, lget]) (by simp [hget, rnO, rnC, LtO, LtC, lget]) (.inr rfl)), by omega, rfl, by omega, fun j hj h => by
        by_cases hji : j = i
        · subst hji; rw [← ho]; exact hq
        · exact hb j hj (by omega)⟩
  · have hz := idxZ_none q l fun x hx => by
      obtain ⟨j, hj⟩ := List.getElem?_of_mem hx
      obtain ⟨hj2, rfl⟩ := List.getElem?_eq_some_iff.1 hj
      exact hb j hj2 (by omega)
    have hie : i = l.length := by omega
    subst hie
    simp [AK_at, acode_seq, acode_region, acode_draw, acode_cond, ↓CB_t, ↓CB_f, CB_u, acode_block, acode_loop, acode_exit, acode_scope, acode_ret, acode_skip, seqQ_n, seqQ_e, seqQ_r, blockQ_n, blockQ_e, blockQ_r, TK_at, OK_at, SK_at, aops_nil, aops_cons, asch_done, asch_one, asch_two, asch_top, astep, aop_eq, isLoud, aloud, aloud1, isWrite, qv, evS, strip, gof, eget, hget, putO, eput, herase, oks, opnds, gS, afin, afin0, binD, arith, D.cells, takeD, fillD, keep, trim, envOf, Fin, aresl, aresv, resD, argOk, pickV, isP, deq, deqs, boundD, slD, lenD, isT, isSl, ptrIds, chunks, mn_min, mx_max, D.cells, splice_one, splice_more, Rbr_at, Rfr_at, frR, frV, frC, flatC, brwR, brwV, brwC, omap, leR, leV, leC, leL, leVL, hz]
theorem spixf1_pf {α : Type} (E : α → List D) (l : List α) (F : FuncId) (ds : List D) (q : α → Bool) (hl : l.length ≤ 1000000) (hE : Els 2 E l) (hF : ∀ s ∈ l, PF Try.prog F [.agg (E s), .pc ds] (.bool (q s))) : PF Try.prog 56 [.rows 2 (l.map E), .fn F [.pc ds]] (I (idxZ q l)) := by
  refine PF.of follows_ok spixf_code (by simp) (by simp [argOk]) (by simp [noV, noC]) fun B hBN hB0 => acode_sound [0, 1, 4, 5, 7, 8, 9, 16] [] _ _ _ ?_
  simp [AK_at, acode_seq, acode_region, acode_draw, acode_cond, ↓CB_t, ↓CB_f, CB_u, acode_block, acode_loop, acode_exit, acode_scope, acode_ret, acode_skip, seqQ_n, seqQ_e, seqQ_r, blockQ_n, blockQ_e, blockQ_r, TK_at, OK_at, SK_at, aops_nil, aops_cons, asch_done, asch_one, asch_two, asch_top, astep, aop_eq, isLoud, aloud, aloud1, isWrite, qv, evS, strip, gof, eget, hget, putO, eput, herase, oks, opnds, gS, afin, afin0, binD, arith, D.cells, takeD, fillD, keep, trim, envOf, Fin, aresl, aresv, resD, argOk, pickV, isP, deq, deqs, boundD, slD, lenD, isT, isSl, ptrIds, chunks, mn_min, mx_max, D.cells, splice_one, splice_more, Rbr_at, Rfr_at, frR, frV, frC, flatC, brwR, brwV, brwC, omap, leR, leV, leC, leL, leVL]
  refine W.loopS (fun i : Nat => ⟨[(8, I i), (7, I l.length), (4, I 0), (1, .fn F [.pc ds]), (0, D.rows 2 (l.map E))], [], 0⟩)
    (fun n i => n = l.length - i ∧ i ≤ l.length ∧ ∀ j (hj : j < l.length), j < i → q l[j] = false) ?_ ?_
  · exact ⟨_, 0, (Gh.ren [] (by simp [hB0]) (by simp [hB0] <;> decide) (by simp [eget, rnS, rnR, rnV, rnC, LtS, LtR, LtV, LtC, lget]) (by simp [hget, rnO, rnC, LtO, LtC, lget]) (.inr rfl)), rfl, by omega, fun j _ h => by omega⟩
  rintro n i ⟨hn, hi, hb⟩
  refine acode_sound [0, 1, 4, 5, 7, 8, 9, 16] [] _ _ _ ?_
  by_cases hlt : i < l.length
  · have hm : l[i] ∈ l := List.getElem_mem hlt
    have hE0 := hE _ hm
    have hFo := hF _ hm
    obtain ⟨o, ho⟩ : ∃ o, o = l[i] := ⟨_, rfl⟩
    rw [← ho] at hE0 hFo
    obtain ⟨h1, h2⟩ := hE0
    have h3 : (E o).take 2 = E o := List.take_of_length_le (by omega)
    have h4 := fun H n => brw_T H n (E o) h2
    have ii : InR ((i : Int) + 1) := inW (by omega) (by omega)
    simp [AK_at, acode_seq, acode_region, acode_draw, acode_cond, ↓CB_t, ↓CB_f, CB_u, acode_block, acode_loop, acode_exit, acode_scope, acode_ret, acode_skip, seqQ_n, seqQ_e, seqQ_r, blockQ_n, blockQ_e, blockQ_r, TK_at, OK_at, SK_at, aops_nil, aops_cons, asch_done, asch_one, asch_two, asch_top, astep, aop_eq, isLoud, aloud, aloud1, isWrite, qv, evS, strip, gof, eget, hget, putO, eput, herase, oks, opnds, gS, afin, afin0, binD, arith, D.cells, takeD, fillD, keep, trim, envOf, Fin, aresl, aresv, resD, argOk, pickV, isP, deq, deqs, boundD, slD, lenD, isT, isSl, ptrIds, chunks, mn_min, mx_max, D.cells, splice_one, splice_more, Rbr_at, Rfr_at, frR, frV, frC, flatC, brwR, brwV, brwC, omap, leR, leV, leC, leL, leVL, hlt, ← ho, h1, h3]
    cases hq : q o with
    | true =>
      have hz := idxZ_at q l i hlt (fun j hj => hb j (by omega) hj) (by rw [← ho]; exact hq)
      repeat' (first
        | simp [AK_at, acode_seq, acode_region, acode_draw, acode_cond, ↓CB_t, ↓CB_f, CB_u, acode_block, acode_loop, acode_exit, acode_scope, acode_ret, acode_skip, seqQ_n, seqQ_e, seqQ_r, blockQ_n, blockQ_e, blockQ_r, TK_at, OK_at, SK_at, aops_nil, aops_cons, asch_done, asch_one, asch_two, asch_top, astep, aop_eq, isLoud, aloud, aloud1, isWrite, qv, evS, strip, gof, eget, hget, putO, eput, herase, oks, opnds, gS, afin, afin0, binD, arith, D.cells, takeD, fillD, keep, trim, envOf, Fin, aresl, aresv, resD, argOk, pickV, isP, deq, deqs, boundD, slD, lenD, isT, isSl, ptrIds, chunks, mn_min, mx_max, D.cells, splice_one, splice_more, Rbr_at, Rfr_at, frR, frV, frC, flatC, brwR, brwV, brwC, omap, leR, leV, leC, leL, leVL, hq, hz, h4, leL_refl]
        | (refine WCall.pfv (hFo) ?_ rfl ?_ ?_ ?_; (focus (simp [oks, opnds, gS, gof, eget]; done)); (focus (simp [omap, brwV, brwC, evS, eget, strip, hget, leVL, leV, leC, leL, hq, hz, h4, leL_refl]; done)); (focus (simp [noV, noC, flatR, flatV, flatC, evS, eget, strip, hq, hz, h4, leL_refl]; done)))
        | (refine ⟨WCall.pfv (hFo) ?_ rfl ?_ ?_ ?_, ?_⟩; (focus (simp [oks, opnds, gS, gof, eget]; done)); (focus (simp [omap, brwV, brwC, evS, eget, strip, hget, leVL, leV, leC, leL, hq, hz, h4, leL_refl]; done)); (focus (simp [noV, noC, flatR, flatV, flatC, evS, eget, strip, hq, hz, h4, leL_refl]; done)))
        | (with_reducible refine And.intro (And.intro ?_ ?_) ?_)
        | fail)
    | false =>
      repeat' (first
        | simp [AK_at, acode_seq, acode_region, acode_draw, acode_cond, ↓CB_t, ↓CB_f, CB_u, acode_block, acode_loop, acode_exit, acode_scope, acode_ret, acode_skip, seqQ_n, seqQ_e, seqQ_r, blockQ_n, blockQ_e, blockQ_r, TK_at, OK_at, SK_at, aops_nil, aops_cons, asch_done, asch_one, asch_two, asch_top, astep, aop_eq, isLoud, aloud, aloud1, isWrite, qv, evS, strip, gof, eget, hget, putO, eput, herase, oks, opnds, gS, afin, afin0, binD, arith, D.cells, takeD, fillD, keep, trim, envOf, Fin, aresl, aresv, resD, argOk, pickV, isP, deq, deqs, boundD, slD, lenD, isT, isSl, ptrIds, chunks, mn_min, mx_max, D.cells, splice_one, splice_more, Rbr_at, Rfr_at, frR, frV, frC, flatC, brwR, brwV, brwC, omap, leR, leV, leC, leL, leVL, hq, ii, h4, leL_refl]
        | (refine WCall.pfv (hFo) ?_ rfl ?_ ?_ ?_; (focus (simp [oks, opnds, gS, gof, eget]; done)); (focus (simp [omap, brwV, brwC, evS, eget, strip, hget, leVL, leV, leC, leL, hq, ii, h4, leL_refl]; done)); (focus (simp [noV, noC, flatR, flatV, flatC, evS, eget, strip, hq, ii, h4, leL_refl]; done)))
        | (refine ⟨WCall.pfv (hFo) ?_ rfl ?_ ?_ ?_, ?_⟩; (focus (simp [oks, opnds, gS, gof, eget]; done)); (focus (simp [omap, brwV, brwC, evS, eget, strip, hget, leVL, leV, leC, leL, hq, ii, h4, leL_refl]; done)); (focus (simp [noV, noC, flatR, flatV, flatC, evS, eget, strip, hq, ii, h4, leL_refl]; done)))
        | (with_reducible refine And.intro (And.intro ?_ ?_) ?_)
        | fail)
      exact ⟨_, i + 1, (Gh.ren [] (by simp [hB0]) (by simp [hB0] <;> decide) (by simp [eget, rnS, rnR, rnV, rnC, LtS, LtR, LtV, LtC, lget]) (by simp [hget, rnO, rnC, LtO, LtC, lget]) (.inr rfl)), by omega, rfl, by omega, fun j hj h => by
        by_cases hji : j = i
        · subst hji; rw [← ho]; exact hq
        · exact hb j hj (by omega)⟩
  · have hz := idxZ_none q l fun x hx => by
      obtain ⟨j, hj⟩ := List.getElem?_of_mem hx
      obtain ⟨hj2, rfl⟩ := List.getElem?_eq_some_iff.1 hj
      exact hb j hj2 (by omega)
    have hie : i = l.length := by omega
    subst hie
    simp [AK_at, acode_seq, acode_region, acode_draw, acode_cond, ↓CB_t, ↓CB_f, CB_u, acode_block, acode_loop, acode_exit, acode_scope, acode_ret, acode_skip, seqQ_n, seqQ_e, seqQ_r, blockQ_n, blockQ_e, blockQ_r, TK_at, OK_at, SK_at, aops_nil, aops_cons, asch_done, asch_one, asch_two, asch_top, astep, aop_eq, isLoud, aloud, aloud1, isWrite, qv, evS, strip, gof, eget, hget, putO, eput, herase, oks, opnds, gS, afin, afin0, binD, arith, D.cells, takeD, fillD, keep, trim, envOf, Fin, aresl, aresv, resD, argOk, pickV, isP, deq, deqs, boundD, slD, lenD, isT, isSl, ptrIds, chunks, mn_min, mx_max, D.cells, splice_one, splice_more, Rbr_at, Rfr_at, frR, frV, frC, flatC, brwR, brwV, brwC, omap, leR, leV, leC, leL, leVL, hz]
theorem spcln_code : cfun Try.prog [] 33 = some ⟨(.seq (.region 0 [⟨(some 2), (.mov (.k .nil0)), none⟩]) (.seq (.seq (.region 1 [⟨(some 3), (.mov (.t 0)), none⟩, ⟨(some 4), (.isnil false (.t 3)), none⟩]) (.cond 4 (.seq (.region 2 [⟨(some 2), (.mov (.k .nil0)), none⟩]) .ret) .skip)) (.seq (.region 3 [⟨(some 5), (.bslice 2 0 [(.int .i64 0), (.int .i64 0)] []), none⟩, ⟨(some 6), (.mov (.t 0)), none⟩, ⟨(some 7), (.app 2 16 [(.int .i64 0), (.int .i64 0)] (.t 5) (.t 6)), none⟩, ⟨(some 2), (.mov (.t 7)), none⟩]) .ret))), [(.t 2)], 8⟩ := by kernel_rfl
theorem spcln_hf {α : Type} (E : α → List D) (l : List α) (hl : l.length < 1000000) (hE : Els 2 E l) : HF Try.prog 33 [.rows 2 (l.map E)] [] 0 (fun d H' nx' => (d = .nil0 ∧ l = [] ∧ H' = [] ∧ nx' = 0) ∨ (d = .own 1 ∧ H' = [(1, .row 2 (l.map E))] ∧ nx' = 2)) := by
  have h2 : l.length * 16 ≤ 140737488355328 := by omega
  have h3 := hE.rows
  refine HF.of follows_ok spcln_code (by simp) (by simp [argOk]) (by simp [LtV, LtC]) fun B hBN hB0 => acode_sound [0, 2, 4] [] _ _ _ ?_
  simp [AK_at, acode_seq, acode_region, acode_draw, acode_cond, ↓CB_t, ↓CB_f, CB_u, acode_block, acode_loop, acode_exit, acode_scope, acode_ret, acode_skip, seqQ_n, seqQ_e, seqQ_r, blockQ_n, blockQ_e, blockQ_r, TK_at, OK_at, SK_at, aops_nil, aops_cons, asch_done, asch_one, asch_two, asch_top, astep, aop_eq, isLoud, aloud, aloud1, isWrite, qv, evS, strip, gof, eget, hget, putO, eput, herase, oks, opnds, gS, afin, afin0, binD, arith, D.cells, takeD, fillD, keep, trim, envOf, Fin, aresl, aresv, resD, argOk, pickV, isP, deq, deqs, boundD, slD, lenD, isT, isSl, ptrIds, chunks, mn_min, mx_max, D.cells, splice_one, splice_more, Rbr_at, Rfr_at, frR, frV, frC, flatC, brwR, brwV, brwC, omap, leR, leV, leC, leL, leVL, h2]
  exact fun a ha => hE.len ha
theorem spcln_pfn {α : Type} (E : α → List D) (l : List α) (hl : l.length < 1000000) (hE : Els 2 E l) (hfl : ∀ x ∈ l, ∀ d ∈ E x, flatC d = true) : PFn Try.prog 33 [.rows 2 (l.map E)] (.rows 2 (l.map E)) := by
  have h2 : l.length * 16 ≤ 140737488355328 := by omega
  refine PFn.of follows_ok spcln_code (by simp) (by simp [argOk]) (by simp [noV, noC]) fun B hBN hB0 => acode_sound [0, 2, 4] [] _ _ _ ?_
  simp [AK_at, acode_seq, acode_region, acode_draw, acode_cond, ↓CB_t, ↓CB_f, CB_u, acode_block, acode_loop, acode_exit, acode_scope, acode_ret, acode_skip, seqQ_n, seqQ_e, seqQ_r, blockQ_n, blockQ_e, blockQ_r, TK_at, OK_at, SK_at, aops_nil, aops_cons, asch_done, asch_one, asch_two, asch_top, astep, aop_eq, isLoud, aloud, aloud1, isWrite, qv, evS, strip, gof, eget, hget, putO, eput, herase, oks, opnds, gS, afin, afin0, binD, arith, D.cells, takeD, fillD, keep, trim, envOf, Fin, aresl, aresv, resD, argOk, pickV, isP, deq, deqs, boundD, slD, lenD, isT, isSl, ptrIds, chunks, mn_min, mx_max, D.cells, splice_one, splice_more, Rbr_at, Rfr_at, frR, frV, frC, flatC, brwR, brwV, brwC, omap, leR, leV, leC, leL, leVL, h2]
  exact ⟨fun a ha => hE.len ha, fun a ha d hd => hfl a ha d hd⟩
theorem tibsf_code : cfun Try.prog [] 45 = some ⟨(.seq (.region 0 [⟨(some 4), (.box (.t 1)), none⟩, ⟨(some 6), (.mov (.k (.int .i64 0))), none⟩, ⟨(some 7), (.mov (.k (.bool false))), none⟩]) (.seq (.region 1 [⟨(some 12), (.mov (.t 0)), none⟩, ⟨(some 13), (.len (.t 12)), none⟩, ⟨(some 8), (.mov (.t 13)), none⟩]) (.seq (.region 2 [⟨(some 14), (.mov (.t 8)), none⟩, ⟨(some 9), (.mov (.k (.int .i64 0))), none⟩, ⟨(some 10), (.mov (.t 14)), none⟩]) (.seq (.block 0 (.loop (.seq (.seq (.region 3 [⟨(some 15), (.mov (.t 9)), none⟩, ⟨(some 16), (.mov (.t 10)), none⟩, ⟨(some 17), (.bin .lss (.t 15) (.t 16)), none⟩]) (.cond 17 .skip (.exit 0))) (.block 1 (.seq (.region 4 [⟨(some 18), (.mov (.t 9)), none⟩, ⟨(some 19), (.mov (.t 10)), none⟩, ⟨(some 20), (.bin .add (.t 18) (.t 19)), none⟩, ⟨(some 21), (.conv .u64 (.t 20)), none⟩, ⟨(some 22), (.bin .shr (.t 21) (.k (.int .u64 1))), none⟩, ⟨(some 23), (.conv .i64 (.t 22)), none⟩, ⟨(some 11), (.mov (.t 23)), none⟩]) (.seq (.draw 5 (.one true ⟨(some 24), (.mov (.t 2)), none⟩ (.one true ⟨(some 25), (.mov (.t 0)), none⟩ (.one true ⟨(some 26), (.mov (.t 11)), none⟩ (.one true ⟨(some 27), (.iads 2 (.t 25) (.t 26)), none⟩ (.one true ⟨(some 28), (.load true 2 (.t 27)), none⟩ (.one true ⟨(some 29), (.load true 2 (.t 4)), none⟩ (.one false ⟨(some 30), (.callv (.t 24) [(.t 28), (.t 29)]), none⟩ (.one true ⟨(some 31), (.bin .lss (.t 30) (.k (.int .i64 0))), none⟩ .done))))))))) (.cond 31 (.region 6 [⟨(some 32), (.mov (.t 11)), none⟩, ⟨(some 33), (.bin .add (.t 32) (.k (.int .i64 1))), none⟩, ⟨(some 9), (.mov (.t 33)), none⟩]) (.region 7 [⟨(some 34), (.mov (.t 11)), none⟩, ⟨(some 10), (.mov (.t 34)), none⟩])))))))) (.seq (.draw 8 (.one true ⟨(some 35), (.mov (.t 9)), none⟩ (.one true ⟨(some 36), (.mov (.t 9)), none⟩ (.one true ⟨(some 37), (.mov (.t 8)), none⟩ (.one true ⟨(some 38), (.bin .lss (.t 36) (.t 37)), none⟩ (.one true ⟨(some 39), (.mov (.t 38)), none⟩ (.one true ⟨(some 40), (.mov (.t 2)), (some (39, true))⟩ (.one true ⟨(some 41), (.mov (.t 0)), (some (39, true))⟩ (.one true ⟨(some 42), (.mov (.t 9)), (some (39, true))⟩ (.one true ⟨(some 43), (.iads 2 (.t 41) (.t 42)), (some (39, true))⟩ (.one true ⟨(some 44), (.load true 2 (.t 43)), (some (39, true))⟩ (.one true ⟨(some 45), (.load true 2 (.t 4)), (some (39, true))⟩ (.one false ⟨(some 46), (.callv (.t 40) [(.t 44), (.t 45)]), (some (39, true))⟩ (.one true ⟨(some 47), (.bin .eql (.t 46) (.k (.int .i64 0))), (some (39, true))⟩ (.one true ⟨(some 48), (.pick (.t 39) (.t 47) (.k (.bool false))), none⟩ (.one true ⟨(some 6), (.mov (.t 35)), none⟩ (.one true ⟨(some 7), (.mov (.t 48)), none⟩ .done))))))))))))))))) .ret))))), [(.t 6), (.t 7)], 49⟩ := by kernel_rfl
theorem tibsf_pf {α : Type} (E : α → List D) (l : List α) (F : FuncId) (a b : Int) (cf : α → Int) (hl : l.length ≤ 1000000) (hE : Els 2 E l) (hF : ∀ s ∈ l, PF Try.prog F [.agg (E s), .agg [I a, I b]] (I (cf s)))
    (hmono : ∀ i j (hi : i < l.length) (hj : j < l.length), i ≤ j → cf l[j] < 0 → cf l[i] < 0) :
    PF Try.prog 45 [.rows 2 (l.map E), .agg [I a, I b], .fn F []] (.tup [I (lowB (fun x => decide (cf x < 0)) l), .bool (decide (∃ (h : lowB (fun x => decide (cf x < 0)) l < l.length), cf (l[lowB (fun x => decide (cf x < 0)) l]'h) = 0))]) := by
  have hp : (2 : Int) ^ min 1 IntKind.u64.bits = 2 := by decide
  refine PF.of follows_ok tibsf_code (by simp) (by simp [argOk]) (by simp [noV, noC]) fun B hBN hB0 => acode_sound [0, 1, 2, 4, 6, 7, 8, 9, 10, 11, 17, 31] [] _ _ _ ?_
  simp [AK_at, acode_seq, acode_region, acode_draw, acode_cond, ↓CB_t, ↓CB_f, CB_u, acode_block, acode_loop, acode_exit, acode_scope, acode_ret, acode_skip, seqQ_n, seqQ_e, seqQ_r, blockQ_n, blockQ_e, blockQ_r, TK_at, OK_at, SK_at, aops_nil, aops_cons, asch_done, asch_one, asch_two, asch_top, astep, aop_eq, isLoud, aloud, aloud1, isWrite, qv, evS, strip, gof, eget, hget, putO, eput, herase, oks, opnds, gS, afin, afin0, binD, arith, D.cells, takeD, fillD, keep, trim, envOf, Fin, aresl, aresv, resD, argOk, pickV, isP, deq, deqs, boundD, slD, lenD, isT, isSl, ptrIds, chunks, mn_min, mx_max, D.cells, splice_one, splice_more, Rbr_at, Rfr_at, frR, frV, frC, flatC, brwR, brwV, brwC, omap, leR, leV, leC, leL, leVL]
  refine W.loopS (fun y : Nat × Nat => ⟨[(10, I y.2), (9, I y.1), (8, I l.length), (7, .bool false), (6, I 0), (4, .ptr 0 0), (2, .fn F []), (0, D.rows 2 (l.map E))], [(0, .cells [I a, I b])], 1⟩)
    (fun n y => n = y.2 - y.1 ∧ y.1 ≤ y.2 ∧ y.2 ≤ l.length ∧ (∀ j (hj : j < l.length), j < y.1 → cf l[j] < 0) ∧ (∀ j (hj : j < l.length), y.2 ≤ j → 0 ≤ cf l[j])) ?_ ?_
  · exact ⟨_, (0, l.length), (Gh.ren [] (by simp [hB0]) (by simp [hB0] <;> decide) (by simp [eget, rnS, rnR, rnV, rnC, LtS, LtR, LtV, LtC, lget]) (by simp [hget, rnO, rnC, LtO, LtC, lget]) (.inr rfl)), rfl, by simp, by simp, fun j _ h => by simp at h, fun j hj h => by simp at h; omega⟩
  rintro n ⟨i, j⟩ ⟨hn, hij, hjl, hlo, hhi⟩
  simp only at hn hij hjl hlo hhi
  refine acode_sound [0, 1, 2, 4, 6, 7, 8, 9, 10, 11, 17, 31] [] _ _ _ ?_
  by_cases hlt : i < j
  · obtain ⟨h, hh⟩ : ∃ h, h = (i + j) / 2 := ⟨_, rfl⟩
    have hhl : h < l.length := by omega
    have hm : l[h] ∈ l := List.getElem_mem hhl
    have hE0 := hE _ hm
    have hFo := hF _ hm
    obtain ⟨o, ho⟩ : ∃ o, o = l[h] := ⟨_, rfl⟩
    rw [← ho] at hE0 hFo
    obtain ⟨h1, h2⟩ := hE0
    have h3 : (E o).take 2 = E o := List.take_of_length_le (by omega)
    have h4 := fun H n => brw_T H n (E o) h2
    have iij : InR ((i : Int) + j) := inW (by omega) (by omega)
    have hw1 : IntKind.u64.wrap ((i : Int) + j) = (i : Int) + j := by rw [IntKind.wrap_u64]; omega
    have hd : ((i : Int) + j) / 2 = (h : Nat) := by omega
    have ih : InR (h : Int) := inW (by omega) (by omega)
    have ii : InR ((h : Int) + 1) := inW (by omega) (by omega)
    have hol : cf l[h] = cf o := by rw [← ho]
    by_cases hc : cf o < 0
    · skip
      repeat' (first
        | simp [AK_at, acode_seq, acode_region, acode_draw, acode_cond, ↓CB_t, ↓CB_f, CB_u, acode_block, acode_loop, acode_exit, acode_scope, acode_ret, acode_skip, seqQ_n, seqQ_e, seqQ_r, blockQ_n, blockQ_e, blockQ_r, TK_at, OK_at, SK_at, aops_nil, aops_cons, asch_done, asch_one, asch_two, asch_top, astep, aop_eq, isLoud, aloud, aloud1, isWrite, qv, evS, strip, gof, eget, hget, putO, eput, herase, oks, opnds, gS, afin, afin0, binD, arith, D.cells, takeD, fillD, keep, trim, envOf, Fin, aresl, aresv, resD, argOk, pickV, isP, deq, deqs, boundD, slD, lenD, isT, isSl, ptrIds, chunks, mn_min, mx_max, D.cells, splice_one, splice_more, Rbr_at, Rfr_at, frR, frV, frC, flatC, brwR, brwV, brwC, omap, leR, leV, leC, leL, leVL, hlt, iij, hw1, hd, ih, ← ho, h1, h3, h4, hp, hhl, leL_refl, hc, ii]
        | (refine WCall.pfv (hFo) ?_ rfl ?_ ?_ ?_; (focus (simp [oks, opnds, gS, gof, eget]; done)); (focus (simp [omap, brwV, brwC, evS, eget, strip, hget, leVL, leV, leC, leL, hlt, iij, hw1, hd, ih, ← ho, h1, h3, h4, hp, hhl, leL_refl, hc, ii]; done)); (focus (simp [noV, noC, flatR, flatV, flatC, evS, eget, strip, hlt, iij, hw1, hd, ih, ← ho, h1, h3, h4, hp, hhl, leL_refl, hc, ii]; done)))
        | (refine ⟨WCall.pfv (hFo) ?_ rfl ?_ ?_ ?_, ?_⟩; (focus (simp [oks, opnds, gS, gof, eget]; done)); (focus (simp [omap, brwV, brwC, evS, eget, strip, hget, leVL, leV, leC, leL, hlt, iij, hw1, hd, ih, ← ho, h1, h3, h4, hp, hhl, leL_refl, hc, ii]; done)); (focus (simp [noV, noC, flatR, flatV, flatC, evS, eget, strip, hlt, iij, hw1, hd, ih, ← ho, h1, h3, h4, hp, hhl, leL_refl, hc, ii]; done)))
        | (with_reducible refine And.intro (And.intro ?_ ?_) ?_)
        | fail)
      exact ⟨_, (h + 1, j), (Gh.ren [] (by simp [hB0]) (by simp [hB0] <;> decide) (by simp [eget, rnS, rnR, rnV, rnC, LtS, LtR, LtV, LtC, lget]) (by simp [hget, rnO, rnC, LtO, LtC, lget]) (.inr rfl)), by simp only; omega, rfl, by simp only; omega, by simp only; omega, fun k hk hkh => by
        simp only at hkh
        exact hmono k h hk hhl (by omega) (by rw [hol]; exact hc), hhi⟩
    · skip
      repeat' (first
        | simp [AK_at, acode_seq, acode_region, acode_draw, acode_cond, ↓CB_t, ↓CB_f, CB_u, acode_block, acode_loop, acode_exit, acode_scope, acode_ret, acode_skip, seqQ_n, seqQ_e, seqQ_r, blockQ_n, blockQ_e, blockQ_r, TK_at, OK_at, SK_at, aops_nil, aops_cons, asch_done, asch_one, asch_two, asch_top, astep, aop_eq, isLoud, aloud, aloud1, isWrite, qv, evS, strip, gof, eget, hget, putO, eput, herase, oks, opnds, gS, afin, afin0, binD, arith, D.cells, takeD, fillD, keep, trim, envOf, Fin, aresl, aresv, resD, argOk, pickV, isP, deq, deqs, boundD, slD, lenD, isT, isSl, ptrIds, chunks, mn_min, mx_max, D.cells, splice_one, splice_more, Rbr_at, Rfr_at, frR, frV, frC, flatC, brwR, brwV, brwC, omap, leR, leV, leC, leL, leVL, hlt, iij, hw1, hd, ih, ← ho, h1, h3, h4, hp, hhl, leL_refl, hc, ii]
        | (refine WCall.pfv (hFo) ?_ rfl ?_ ?_ ?_; (focus (simp [oks, opnds, gS, gof, eget]; done)); (focus (simp [omap, brwV, brwC, evS, eget, strip, hget, leVL, leV, leC, leL, hlt, iij, hw1, hd, ih, ← ho, h1, h3, h4, hp, hhl, leL_refl, hc, ii]; done)); (focus (simp [noV, noC, flatR, flatV, flatC, evS, eget, strip, hlt, iij, hw1, hd, ih, ← ho, h1, h3, h4, hp, hhl, leL_refl, hc, ii]; done)))
        | (refine ⟨WCall.pfv (hFo) ?_ rfl ?_ ?_ ?_, ?_⟩; (focus (simp [oks, opnds, gS, gof, eget]; done)); (focus (simp [omap, brwV, brwC, evS, eget, strip, hget, leVL, leV, leC, leL, hlt, iij, hw1, hd, ih, ← ho, h1, h3, h4, hp, hhl, leL_refl, hc, ii]; done)); (focus (simp [noV, noC, flatR, flatV, flatC, evS, eget, strip, hlt, iij, hw1, hd, ih, ← ho, h1, h3, h4, hp, hhl, leL_refl, hc, ii]; done)))
        | (with_reducible refine And.intro (And.intro ?_ ?_) ?_)
        | fail)
      exact ⟨_, (i, h), (Gh.ren [] (by simp [hB0]) (by simp [hB0] <;> decide) (by simp [eget, rnS, rnR, rnV, rnC, LtS, LtR, LtV, LtC, lget]) (by simp [hget, rnO, rnC, LtO, LtC, lget]) (.inr rfl)), by simp only; omega, rfl, by simp only; omega, by simp only; omega, hlo, fun k hk hkh => by
        simp only at hkh
        exact Int.not_lt.1 fun hck => hc (by rw [← hol]; exact hmono h k hhl hk hkh hck)⟩
  · obtain rfl : i = j := by omega
    have hlb := lowB_at (fun x => decide (cf x < 0)) l i hjl (fun j hj hji => by simpa using hlo j hj hji) (fun hi => by simpa using hhi i hi (Nat.le_refl _))
    by_cases hil : i < l.length
    · have hm : l[i] ∈ l := List.getElem_mem hil
      have hE0 := hE _ hm
      have hFo := hF _ hm
      obtain ⟨o, ho⟩ : ∃ o, o = l[i] := ⟨_, rfl⟩
      have hol : cf l[i] = cf o := by rw [← ho]
      rw [← ho] at hE0 hFo
      obtain ⟨h1, h2⟩ := hE0
      have h3 : (E o).take 2 = E o := List.take_of_length_le (by omega)
      have h4 := fun H n => brw_T H n (E o) h2
      simp only [hlb]
      repeat' (first
        | simp [AK_at, acode_seq, acode_region, acode_draw, acode_cond, ↓CB_t, ↓CB_f, CB_u, acode_block, acode_loop, acode_exit, acode_scope, acode_ret, acode_skip, seqQ_n, seqQ_e, seqQ_r, blockQ_n, blockQ_e, blockQ_r, TK_at, OK_at, SK_at, aops_nil, aops_cons, asch_done, asch_one, asch_two, asch_top, astep, aop_eq, isLoud, aloud, aloud1, isWrite, qv, evS, strip, gof, eget, hget, putO, eput, herase, oks, opnds, gS, afin, afin0, binD, arith, D.cells, takeD, fillD, keep, trim, envOf, Fin, aresl, aresv, resD, argOk, pickV, isP, deq, deqs, boundD, slD, lenD, isT, isSl, ptrIds, chunks, mn_min, mx_max, D.cells, splice_one, splice_more, Rbr_at, Rfr_at, frR, frV, frC, flatC, brwR, brwV, brwC, omap, leR, leV, leC, leL, leVL, hil, ← ho, h1, h3, h4, leL_refl]
        | (refine WCall.pfv (hFo) ?_ rfl ?_ ?_ ?_; (focus (simp [oks, opnds, gS, gof, eget]; done)); (focus (simp [omap, brwV, brwC, evS, eget, strip, hget, leVL, leV, leC, leL, hil, ← ho, h1, h3, h4, leL_refl]; done)); (focus (simp [noV, noC, flatR, flatV, flatC, evS, eget, strip, hil, ← ho, h1, h3, h4, leL_refl]; done)))
        | (refine ⟨WCall.pfv (hFo) ?_ rfl ?_ ?_ ?_, ?_⟩; (focus (simp [oks, opnds, gS, gof, eget]; done)); (focus (simp [omap, brwV, brwC, evS, eget, strip, hget, leVL, leV, leC, leL, hil, ← ho, h1, h3, h4, leL_refl]; done)); (focus (simp [noV, noC, flatR, flatV, flatC, evS, eget, strip, hil, ← ho, h1, h3, h4, leL_refl]; done)))
        | (with_reducible refine And.intro (And.intro ?_ ?_) ?_)
        | fail)
    · simp only [hlb]
      simp [AK_at, acode_seq, acode_region, acode_draw, acode_cond, ↓CB_t, ↓CB_f, CB_u, acode_block, acode_loop, acode_exit, acode_scope, acode_ret, acode_skip, seqQ_n, seqQ_e, seqQ_r, blockQ_n, blockQ_e, blockQ_r, TK_at, OK_at, SK_at, aops_nil, aops_cons, asch_done, asch_one, asch_two, asch_top, astep, aop_eq, isLoud, aloud, aloud1, isWrite, qv, evS, strip, gof, eget, hget, putO, eput, herase, oks, opnds, gS, afin, afin0, binD, arith, D.cells, takeD, fillD, keep, trim, envOf, Fin, aresl, aresv, resD, argOk, pickV, isP, deq, deqs, boundD, slD, lenD, isT, isSl, ptrIds, chunks, mn_min, mx_max, D.cells, splice_one, splice_more, Rbr_at, Rfr_at, frR, frV, frC, flatC, brwR, brwV, brwC, omap, leR, leV, leC, leL, leVL, hil]
theorem spbsf_code : cfun Try.prog [] 49 = some ⟨(.seq (.region 0 [⟨(some 4), (.box (.t 1)), none⟩, ⟨(some 6), (.mov (.k (.int .i64 0))), none⟩, ⟨(some 7), (.mov (.k (.bool false))), none⟩]) (.seq (.region 1 [⟨(some 12), (.mov (.t 0)), none⟩, ⟨(some 13), (.len (.t 12)), none⟩, ⟨(some 8), (.mov (.t 13)), none⟩]) (.seq (.region 2 [⟨(some 14), (.mov (.t 8)), none⟩, ⟨(some 9), (.mov (.k (.int .i64 0))), none⟩, ⟨(some 10), (.mov (.t 14)), none⟩]) (.seq (.block 0 (.loop (.seq (.seq (.region 3 [⟨(some 15), (.mov (.t 9)), none⟩, ⟨(some 16), (.mov (.t 10)), none⟩, ⟨(some 17), (.bin .lss (.t 15) (.t 16)), none⟩]) (.cond 17 .skip (.exit 0))) (.block 1 (.seq (.region 4 [⟨(some 18), (.mov (.t 9)), none⟩, ⟨(some 19), (.mov (.t 10)), none⟩, ⟨(some 20), (.bin .add (.t 18) (.t 19)), none⟩, ⟨(some 21), (.conv .u64 (.t 20)), none⟩, ⟨(some 22), (.bin .shr (.t 21) (.k (.int .u64 1))), none⟩, ⟨(some 23), (.conv .i64 (.t 22)), none⟩, ⟨(some 11), (.mov (.t 23)), none⟩]) (.seq (.draw 5 (.one true ⟨(some 24), (.mov (.t 2)), none⟩ (.one true ⟨(some 25), (.mov (.t 0)), none⟩ (.one true ⟨(some 26), (.mov (.t 11)), none⟩ (.one true ⟨(some 27), (.iads 2 (.t 25) (.t 26)), none⟩ (.one true ⟨(some 28), (.load true 2 (.t 27)), none⟩ (.one true ⟨(some 29), (.load true 2 (.t 4)), none⟩ (.one false ⟨(some 30), (.callv (.t 24) [(.t 28), (.t 29)]), none⟩ (.one true ⟨(some 31), (.bin .lss (.t 30) (.k (.int .i64 0))), none⟩ .done))))))))) (.cond 31 (.region 6 [⟨(some 32), (.mov (.t 11)), none⟩, ⟨(some 33), (.bin .add (.t 32) (.k (.int .i64 1))), none⟩, ⟨(some 9), (.mov (.t 33)), none⟩]) (.region 7 [⟨(some 34), (.mov (.t 11)), none⟩, ⟨(some 10), (.mov (.t 34)), none⟩])))))))) (.seq (.draw 8 (.one true ⟨(some 35), (.mov (.t 9)), none⟩ (.one true ⟨(some 36), (.mov (.t 9)), none⟩ (.one true ⟨(some 37), (.mov (.t 8)), none⟩ (.one true ⟨(some 38), (.bin .lss (.t 36) (.t 37)), none⟩ (.one true ⟨(some 39), (.mov (.t 38)), none⟩ (.one true ⟨(some 40), (.mov (.t 2)), (some (39, true))⟩ (.one true ⟨(some 41), (.mov (.t 0)), (some (39, true))⟩ (.one true ⟨(some 42), (.mov (.t 9)), (some (39, true))⟩ (.one true ⟨(some 43), (.iads 2 (.t 41) (.t 42)), (some (39, true))⟩ (.one true ⟨(some 44), (.load true 2 (.t 43)), (some (39, true))⟩ (.one true ⟨(some 45), (.load true 2 (.t 4)), (some (39, true))⟩ (.one false ⟨(some 46), (.callv (.t 40) [(.t 44), (.t 45)]), (some (39, true))⟩ (.one true ⟨(some 47), (.bin .eql (.t 46) (.k (.int .i64 0))), (some (39, true))⟩ (.one true ⟨(some 48), (.pick (.t 39) (.t 47) (.k (.bool false))), none⟩ (.one true ⟨(some 6), (.mov (.t 35)), none⟩ (.one true ⟨(some 7), (.mov (.t 48)), none⟩ .done))))))))))))))))) .ret))))), [(.t 6), (.t 7)], 49⟩ := by kernel_rfl
theorem spbsf_pf {α : Type} (E : α → List D) (l : List α) (F : FuncId) (a b : Int) (cf : α → Int) (hl : l.length ≤ 1000000) (hE : Els 2 E l) (hF : ∀ s ∈ l, PF Try.prog F [.agg (E s), .agg [I a, I b]] (I (cf s)))
    (hmono : ∀ i j (hi : i < l.length) (hj : j < l.length), i ≤ j → cf l[j] < 0 → cf l[i] < 0) :
    PF Try.prog 49 [.rows 2 (l.map E), .agg [I a, I b], .fn F []] (.tup [I (lowB (fun x => decide (cf x < 0)) l), .bool (decide (∃ (h : lowB (fun x => decide (cf x < 0)) l < l.length), cf (l[lowB (fun x => decide (cf x < 0)) l]'h) = 0))]) := by
  have hp : (2 : Int) ^ min 1 IntKind.u64.bits = 2 := by decide
  refine PF.of follows_ok spbsf_code (by simp) (by simp [argOk]) (by simp [noV, noC]) fun B hBN hB0 => acode_sound [0, 1, 2, 4, 6, 7, 8, 9, 10, 11, 17, 31] [] _ _ _ ?_
  simp [AK_at, acode_seq, acode_region, acode_draw, acode_cond, ↓CB_t, ↓CB_f, CB_u, acode_block, acode_loop, acode_exit, acode_scope, acode_ret, acode_skip, seqQ_n, seqQ_e, seqQ_r, blockQ_n, blockQ_e, blockQ_r, TK_at, OK_at, SK_at, aops_nil, aops_cons, asch_done, asch_one, asch_two, asch_top, astep, aop_eq, isLoud, aloud, aloud1, isWrite, qv, evS, strip, gof, eget, hget, putO, eput, herase, oks, opnds, gS, afin, afin0, binD, arith, D.cells, takeD, fillD, keep, trim, envOf, Fin, aresl, aresv, resD, argOk, pickV, isP, deq, deqs, boundD, slD, lenD, isT, isSl, ptrIds, chunks, mn_min, mx_max, D.cells, splice_one, splice_more, Rbr_at, Rfr_at, frR, frV, frC, flatC, brwR, brwV, brwC, omap, leR, leV, leC, leL, leVL]
  refine W.loopS (fun y : Nat × Nat => ⟨[(10, I y.2), (9, I y.1), (8, I l.length), (7, .bool false), (6, I 0), (4, .ptr 0 0), (2, .fn F []), (0, D.rows 2 (l.map E))], [(0, .cells [I a, I b])], 1⟩)
    (fun n y => n = y.2 - y.1 ∧ y.1 ≤ y.2 ∧ y.2 ≤ l.length ∧ (∀ j (hj : j < l.length), j < y.1 → cf l[j] < 0) ∧ (∀ j (hj : j < l.length), y.2 ≤ j → 0 ≤ cf l[j])) ?_ ?_
  · exact ⟨_, (0, l.length), (Gh.ren [] (by simp [hB0]) (by simp [hB0] <;> decide) (by simp [eget, rnS, rnR, rnV, rnC, LtS, LtR, LtV, LtC, lget]) (by simp [hget, rnO, rnC, LtO, LtC, lget]) (.inr rfl)), rfl, by simp, by simp, fun j _ h => by simp at h, fun j hj h => by simp at h; omega⟩
  rintro n ⟨i, j⟩ ⟨hn, hij, hjl, hlo, hhi⟩
  simp only at hn hij hjl hlo hhi
  refine acode_sound [0, 1, 2, 4, 6, 7, 8, 9, 10, 11, 17, 31] [] _ _ _ ?_
  by_cases hlt : i < j
  · obtain ⟨h, hh⟩ : ∃ h, h = (i + j) / 2 := ⟨_, rfl⟩
    have hhl : h < l.length := by omega
    have hm : l[h] ∈ l := List.getElem_mem hhl
    have hE0 := hE _ hm
    have hFo := hF _ hm
    obtain ⟨o, ho⟩ : ∃ o, o = l[h] := ⟨_, rfl⟩
    rw [← ho] at hE0 hFo
    obtain ⟨h1, h2⟩ := hE0
    have h3 : (E o).take 2 = E o := List.take_of_length_le (by omega)
    have h4 := fun H n => brw_T H n (E o) h2
    have iij : InR ((i : Int) + j) := inW (by omega) (by omega)
    have hw1 : IntKind.u64.wrap ((i : Int) + j) = (i : Int) + j := by rw [IntKind.wrap_u64]; omega
    have hd : ((i : Int) + j) / 2 = (h : Nat) := by omega
    have ih : InR (h : Int) := inW (by omega) (by omega)
    have ii : InR ((h : Int) + 1) := inW (by omega) (by omega)
    have hol : cf l[h] = cf o := by rw [← ho]
    by_cases hc : cf o < 0
    · skip
      repeat' (first
        | simp [AK_at, acode_seq, acode_region, acode_draw, acode_cond, ↓CB_t, ↓CB_f, CB_u, acode_block, acode_loop, acode_exit, acode_scope, acode_ret, acode_skip, seqQ_n, seqQ_e, seqQ_r, blockQ_n, blockQ_e, blockQ_r, TK_at, OK_at, SK_at, aops_nil, aops_cons, asch_done, asch_one, asch_two, asch_top, astep, aop_eq, isLoud, aloud, aloud1, isWrite, qv, evS, strip, gof, eget, hget, putO, eput, herase, oks, opnds, gS, afin, afin0, binD, arith, D.cells, takeD, fillD, keep, trim, envOf, Fin, aresl, aresv, resD, argOk, pickV, isP, deq, deqs, boundD, slD, lenD, isT, isSl, ptrIds, chunks, mn_min, mx_max, D.cells, splice_one, splice_more, Rbr_at, Rfr_at, frR, frV, frC, flatC, brwR, brwV, brwC, omap, leR, leV, leC, leL, leVL, hlt, iij, hw1, hd, ih, ← ho, h1, h3, h4, hp, hhl, leL_refl, hc, ii]
        | (refine WCall.pfv (hFo) ?_ rfl ?_ ?_ ?_; (focus (simp [oks, opnds, gS, gof, eget]; done)); (focus (simp [omap, brwV, brwC, evS, eget, strip, hget, leVL, leV, leC, leL, hlt, iij, hw1, hd, ih, ← ho, h1, h3, h4, hp, hhl, leL_refl, hc, ii]; done)); (focus (simp [noV, noC, flatR, flatV, flatC, evS, eget, strip, hlt, iij, hw1, hd, ih, ← ho, h1, h3, h4, hp, hhl, leL_refl, hc, ii]; done)))
        | (refine ⟨WCall.pfv (hFo) ?_ rfl ?_ ?_ ?_, ?_⟩; (focus (simp [oks, opnds, gS, gof, eget]; done)); (focus (simp [omap, brwV, brwC, evS, eget, strip, hget, leVL, leV, leC, leL, hlt, iij, hw1, hd, ih, ← ho, h1, h3, h4, hp, hhl, leL_refl, hc, ii]; done)); (focus (simp [noV, noC, flatR, flatV, flatC, evS, eget, strip, hlt, iij, hw1, hd, ih, ← ho, h1, h3, h4, hp, hhl, leL_refl, hc, ii]; done)))
        | (with_reducible refine And.intro (And.intro ?_ ?_) ?_)
        | fail)
      exact ⟨_, (h + 1, j), (Gh.ren [] (by simp [hB0]) (by simp [hB0] <;> decide) (by simp [eget, rnS, rnR, rnV, rnC, LtS, LtR, LtV, LtC, lget]) (by simp [hget, rnO, rnC, LtO, LtC, lget]) (.inr rfl)), by simp only; omega, rfl, by simp only; omega, by simp only; omega, fun k hk hkh => by
        simp only at hkh
        exact hmono k h hk hhl (by omega) (by rw [hol]; exact hc), hhi⟩
    · skip
      repeat' (first
        | simp [AK_at, acode_seq, acode_region, acode_draw, acode_cond, ↓CB_t, ↓CB_f, CB_u, acode_block, acode_loop, acode_exit, acode_scope, acode_ret, acode_skip, seqQ_n, seqQ_e, seqQ_r, blockQ_n, blockQ_e, blockQ_r, TK_at, OK_at, SK_at, aops_nil, aops_cons, asch_done, asch_one, asch_two, asch_top, astep, aop_eq, isLoud, aloud, aloud1, isWrite, qv, evS, strip, gof, eget, hget, putO, eput, herase, oks, opnds, gS, afin, afin0, binD, arith, D.cells, takeD, fillD, keep, trim, envOf, Fin, aresl, aresv, resD, argOk, pickV, isP, deq, deqs, boundD, slD, lenD, isT, isSl, ptrIds, chunks, mn_min, mx_max, D.cells, splice_one, splice_more, Rbr_at, Rfr_at, frR, frV, frC, flatC, brwR, brwV, brwC, omap, leR, leV, leC, leL, leVL, hlt, iij, hw1, hd, ih, ← ho, h1, h3, h4, hp, hhl, leL_refl, hc, ii]
        | (refine WCall.pfv (hFo) ?_ rfl ?_ ?_ ?_; (focus (simp [oks, opnds, gS, gof, eget]; done)); (focus (simp [omap, brwV, brwC, evS, eget, strip, hget, leVL, leV, leC, leL, hlt, iij, hw1, hd, ih, ← ho, h1, h3, h4, hp, hhl, leL_refl, hc, ii]; done)); (focus (simp [noV, noC, flatR, flatV, flatC, evS, eget, strip, hlt, iij, hw1, hd, ih, ← ho, h1, h3, h4, hp, hhl, leL_refl, hc, ii]; done)))
        | (refine ⟨WCall.pfv (hFo) ?_ rfl ?_ ?_ ?_, ?_⟩; (focus (simp [oks, opnds, gS, gof, eget]; done)); (focus (simp [omap, brwV, brwC, evS, eget, strip, hget, leVL, leV, leC, leL, hlt, iij, hw1, hd, ih, ← ho, h1, h3, h4, hp, hhl, leL_refl, hc, ii]; done)); (focus (simp [noV, noC, flatR, flatV, flatC, evS, eget, strip, hlt, iij, hw1, hd, ih, ← ho, h1, h3, h4, hp, hhl, leL_refl, hc, ii]; done)))
        | (with_reducible refine And.intro (And.intro ?_ ?_) ?_)
        | fail)
      exact ⟨_, (i, h), (Gh.ren [] (by simp [hB0]) (by simp [hB0] <;> decide) (by simp [eget, rnS, rnR, rnV, rnC, LtS, LtR, LtV, LtC, lget]) (by simp [hget, rnO, rnC, LtO, LtC, lget]) (.inr rfl)), by simp only; omega, rfl, by simp only; omega, by simp only; omega, hlo, fun k hk hkh => by
        simp only at hkh
        exact Int.not_lt.1 fun hck => hc (by rw [← hol]; exact hmono h k hhl hk hkh hck)⟩
  · obtain rfl : i = j := by omega
    have hlb := lowB_at (fun x => decide (cf x < 0)) l i hjl (fun j hj hji => by simpa using hlo j hj hji) (fun hi => by simpa using hhi i hi (Nat.le_refl _))
    by_cases hil : i < l.length
    · have hm : l[i] ∈ l := List.getElem_mem hil
      have hE0 := hE _ hm
      have hFo := hF _ hm
      obtain ⟨o, ho⟩ : ∃ o, o = l[i] := ⟨_, rfl⟩
      have hol : cf l[i] = cf o := by rw [← ho]
      rw [← ho] at hE0 hFo
      obtain ⟨h1, h2⟩ := hE0
      have h3 : (E o).take 2 = E o := List.take_of_length_le (by omega)
      have h4 := fun H n => brw_T H n (E o) h2
      simp only [hlb]
      repeat' (first
        | simp [AK_at, acode_seq, acode_region, acode_draw, acode_cond, ↓CB_t, ↓CB_f, CB_u, acode_block, acode_loop, acode_exit, acode_scope, acode_ret, acode_skip, seqQ_n, seqQ_e, seqQ_r, blockQ_n, blockQ_e, blockQ_r, TK_at, OK_at, SK_at, aops_nil, aops_cons, asch_done, asch_one, asch_two, asch_top, astep, aop_eq, isLoud, aloud, aloud1, isWrite, qv, evS, strip, gof, eget, hget, putO, eput, herase, oks, opnds, gS, afin, afin0, binD, arith, D.cells, takeD, fillD, keep, trim, envOf, Fin, aresl, aresv, resD, argOk, pickV, isP, deq, deqs, boundD, slD, lenD, isT, isSl, ptrIds, chunks, mn_min, mx_max, D.cells, splice_one, splice_more, Rbr_at, Rfr_at, frR, frV, frC, flatC, brwR, brwV, brwC, omap, leR, leV, leC, leL, leVL, hil, ← ho, h1, h3, h4, leL_refl]
        | (refine WCall.pfv (hFo) ?_ rfl ?_ ?_ ?_; (focus (simp [oks, opnds, gS, gof, eget]; done)); (focus (simp [omap, brwV, brwC, evS, eget, strip, hget, leVL, leV, leC, leL, hil, ← ho, h1, h3, h4, leL_refl]; done)); (focus (simp [noV, noC, flatR, flatV, flatC, evS, eget, strip, hil, ← ho, h1, h3, h4, leL_refl]; done)))
        | (refine ⟨WCall.pfv (hFo) ?_ rfl ?_ ?_ ?_, ?_⟩; (focus (simp [oks, opnds, gS, gof, eget]; done)); (focus (simp [omap, brwV, brwC, evS, eget, strip, hget, leVL, leV, leC, leL, hil, ← ho, h1, h3, h4, leL_refl]; done)); (focus (simp [noV, noC, flatR, flatV, flatC, evS, eget, strip, hil, ← ho, h1, h3, h4, leL_refl]; done)))
        | (with_reducible refine And.intro (And.intro ?_ ?_) ?_)
        | fail)
    · simp only [hlb]
      simp [AK_at, acode_seq, acode_region, acode_draw, acode_cond, ↓CB_t, ↓CB_f, CB_u, acode_block, acode_loop, acode_exit, acode_scope, acode_ret, acode_skip, seqQ_n, seqQ_e, seqQ_r, blockQ_n, blockQ_e, blockQ_r, TK_at, OK_at, SK_at, aops_nil, aops_cons, asch_done, asch_one, asch_two, asch_top, astep, aop_eq, isLoud, aloud, aloud1, isWrite, qv, evS, strip, gof, eget, hget, putO, eput, herase, oks, opnds, gS, afin, afin0, binD, arith, D.cells, takeD, fillD, keep, trim, envOf, Fin, aresl, aresv, resD, argOk, pickV, isP, deq, deqs, boundD, slD, lenD, isT, isSl, ptrIds, chunks, mn_min, mx_max, D.cells, splice_one, splice_more, Rbr_at, Rfr_at, frR, frV, frC, flatC, brwR, brwV, brwC, omap, leR, leV, leC, leL, leVL, hil]
end Go.Proofs.Ytajimebannjofaa

set_option linter.unusedSimpArgs false
set_option linter.unusedVariables false
set_option maxRecDepth 100000
set_option maxHeartbeats 2000000
namespace Go.Proofs.Ytajimebannjofaa
open Go.RowKit
def cmpZ (a b : Int) : Int := if a < b then -1 else if b < a then 1 else 0
def ord2 (a b c d : Int) : Int := if cmpZ a c = 0 then cmpZ b d else cmpZ a c
theorem cmpZ_zero {a b : Int} : cmpZ a b = 0 ↔ a = b := by
  unfold cmpZ
  split
  · constructor
    · intro h; omega
    · intro h; omega
  · split
    · constructor
      · intro h; omega
      · intro h; omega
    · constructor
      · intro h; omega
      · intro h; rfl
theorem cmpZ_neg {a b : Int} : cmpZ a b < 0 ↔ a < b := by
  unfold cmpZ
  split
  · simp; assumption
  · split
    · constructor <;> intro h <;> omega
    · constructor <;> intro h <;> omega
theorem ord2_neg {a b c d : Int} : ord2 a b c d < 0 ↔ a < c ∨ (a = c ∧ b < d) := by
  unfold ord2
  split
  · rename_i h
    rw [cmpZ_zero] at h
    rw [cmpZ_neg]
    omega
  · rename_i h
    rw [cmpZ_zero] at h
    rw [cmpZ_neg]
    omega
theorem ord2_zero {a b c d : Int} : ord2 a b c d = 0 ↔ a = c ∧ b = d := by
  unfold ord2
  split
  · rename_i h
    rw [cmpZ_zero] at h
    rw [cmpZ_zero]
    exact ⟨fun h' => ⟨h, h'⟩, fun h' => h'.2⟩
  · rename_i h
    constructor
    · intro h'; exact absurd h' h
    · rintro ⟨rfl, rfl⟩; exact absurd (cmpZ_zero.2 rfl) h
theorem cnan_code : cfun Try.prog [] 69 = some ⟨(.seq (.region 0 [⟨(some 2), (.mov (.k (.bool false))), none⟩]) (.seq (.region 1 [⟨(some 3), (.mov (.t 0)), none⟩, ⟨(some 4), (.mov (.t 0)), none⟩, ⟨(some 5), (.bin .neq (.t 3) (.t 4)), none⟩, ⟨(some 2), (.mov (.t 5)), none⟩]) .ret)), [(.t 2)], 6⟩ := by kernel_rfl
theorem cnan_pf (a : Int) : PF Try.prog 69 [I a] (.bool false) := by
  refine PF.of follows_ok cnan_code (by simp) (by simp [argOk]) (by simp [noV, noC]) fun B hBN hB0 => acode_sound [0, 2] [] _ _ _ ?_
  simp [AK_at, acode_seq, acode_region, acode_draw, acode_cond, ↓CB_t, ↓CB_f, CB_u, acode_block, acode_loop, acode_exit, acode_scope, acode_ret, acode_skip, seqQ_n, seqQ_e, seqQ_r, blockQ_n, blockQ_e, blockQ_r, TK_at, OK_at, SK_at, aops_nil, aops_cons, asch_done, asch_one, asch_two, asch_top, astep, aop_eq, isLoud, aloud, aloud1, isWrite, qv, evS, strip, gof, eget, hget, putO, eput, herase, oks, opnds, gS, afin, afin0, binD, arith, D.cells, takeD, fillD, keep, trim, envOf, Fin, aresl, aresv, resD, argOk, pickV, isP, deq, deqs, boundD, slD, lenD, isT, isSl, ptrIds, chunks, mn_min, mx_max, D.cells, splice_one, splice_more, Rbr_at, Rfr_at, frR, frV, frC, flatC, brwR, brwV, brwC, omap, leR, leV, leC, leL, leVL]
theorem ccmp_code : cfun Try.prog [] 55 = some ⟨(.seq (.region 0 [⟨(some 4), (.mov (.k (.int .i64 0))), none⟩]) (.seq (.region 1 [⟨(some 7), (.mov (.t 0)), none⟩, ⟨(some 8), (.call 69 [(.t 7)]), none⟩, ⟨(some 5), (.mov (.t 8)), none⟩]) (.seq (.region 2 [⟨(some 9), (.mov (.t 1)), none⟩, ⟨(some 10), (.call 69 [(.t 9)]), none⟩, ⟨(some 6), (.mov (.t 10)), none⟩]) (.seq (.seq (.region 3 [⟨(some 11), (.mov (.t 5)), none⟩]) (.cond 11 (.seq (.seq (.region 4 [⟨(some 12), (.mov (.t 6)), none⟩]) (.cond 12 (.seq (.region 5 [⟨(some 4), (.mov (.k (.int .i64 0))), none⟩]) .ret) .skip)) (.seq (.region 6 [⟨(some 4), (.mov (.k (.int .i64 (-1)))), none⟩]) .ret)) .skip)) (.seq (.seq (.region 7 [⟨(some 13), (.mov (.t 6)), none⟩]) (.cond 13 (.seq (.region 8 [⟨(some 4), (.mov (.k (.int .i64 1))), none⟩]) .ret) .skip)) (.seq (.seq (.region 9 [⟨(some 14), (.mov (.t 0)), none⟩, ⟨(some 15), (.mov (.t 1)), none⟩, ⟨(some 16), (.bin .lss (.t 14) (.t 15)), none⟩]) (.cond 16 (.seq (.region 10 [⟨(some 4), (.mov (.k (.int .i64 (-1)))), none⟩]) .ret) .skip)) (.seq (.seq (.region 11 [⟨(some 17), (.mov (.t 0)), none⟩, ⟨(some 18), (.mov (.t 1)), none⟩, ⟨(some 19), (.bin .gtr (.t 17) (.t 18)), none⟩]) (.cond 19 (.seq (.region 12 [⟨(some 4), (.mov (.k (.int .i64 1))), none⟩]) .ret) .skip)) (.seq (.region 13 [⟨(some 4), (.mov (.k (.int .i64 0))), none⟩]) .ret)))))))), [(.t 4)], 20⟩ := by kernel_rfl
theorem ccmp_pf (a b : Int) : PF Try.prog 55 [I a, I b] (I (cmpZ a b)) := by
  have h1 := cnan_pf a
  have h2 := cnan_pf b
  refine PF.of follows_ok ccmp_code (by simp) (by simp [argOk]) (by simp [noV, noC]) fun B hBN hB0 => acode_sound [0, 1, 4, 5, 6, 11, 12, 13, 16, 19] [] _ _ _ ?_
  by_cases c1 : a < b
  · have c2 : ¬ b < a := by omega
    repeat' (first
      | simp [AK_at, acode_seq, acode_region, acode_draw, acode_cond, ↓CB_t, ↓CB_f, CB_u, acode_block, acode_loop, acode_exit, acode_scope, acode_ret, acode_skip, seqQ_n, seqQ_e, seqQ_r, blockQ_n, blockQ_e, blockQ_r, TK_at, OK_at, SK_at, aops_nil, aops_cons, asch_done, asch_one, asch_two, asch_top, astep, aop_eq, isLoud, aloud, aloud1, isWrite, qv, evS, strip, gof, eget, hget, putO, eput, herase, oks, opnds, gS, afin, afin0, binD, arith, D.cells, takeD, fillD, keep, trim, envOf, Fin, aresl, aresv, resD, argOk, pickV, isP, deq, deqs, boundD, slD, lenD, isT, isSl, ptrIds, chunks, mn_min, mx_max, D.cells, splice_one, splice_more, Rbr_at, Rfr_at, frR, frV, frC, flatC, brwR, brwV, brwC, omap, leR, leV, leC, leL, leVL, c1, c2, cmpZ]
      | (refine WCall.pf (h1) ?_ ?_ ?_ ?_; (focus (simp [oks, opnds, gS, gof, eget]; done)); (focus (simp [omap, brwV, brwC, evS, eget, strip, hget, leVL, leV, leC, leL, c1, c2, cmpZ]; done)); (focus (simp [noV, noC, flatR, flatV, flatC, evS, eget, strip, c1, c2, cmpZ]; done)))
      | (refine ⟨WCall.pf (h1) ?_ ?_ ?_ ?_, ?_⟩; (focus (simp [oks, opnds, gS, gof, eget]; done)); (focus (simp [omap, brwV, brwC, evS, eget, strip, hget, leVL, leV, leC, leL, c1, c2, cmpZ]; done)); (focus (simp [noV, noC, flatR, flatV, flatC, evS, eget, strip, c1, c2, cmpZ]; done)))
      | (refine WCall.pf (h2) ?_ ?_ ?_ ?_; (focus (simp [oks, opnds, gS, gof, eget]; done)); (focus (simp [omap, brwV, brwC, evS, eget, strip, hget, leVL, leV, leC, leL, c1, c2, cmpZ]; done)); (focus (simp [noV, noC, flatR, flatV, flatC, evS, eget, strip, c1, c2, cmpZ]; done)))
      | (refine ⟨WCall.pf (h2) ?_ ?_ ?_ ?_, ?_⟩; (focus (simp [oks, opnds, gS, gof, eget]; done)); (focus (simp [omap, brwV, brwC, evS, eget, strip, hget, leVL, leV, leC, leL, c1, c2, cmpZ]; done)); (focus (simp [noV, noC, flatR, flatV, flatC, evS, eget, strip, c1, c2, cmpZ]; done)))
      | (with_reducible refine And.intro (And.intro ?_ ?_) ?_)
      | fail)
  · by_cases c2 : b < a
    · skip
      repeat' (first
        | simp [AK_at, acode_seq, acode_region, acode_draw, acode_cond, ↓CB_t, ↓CB_f, CB_u, acode_block, acode_loop, acode_exit, acode_scope, acode_ret, acode_skip, seqQ_n, seqQ_e, seqQ_r, blockQ_n, blockQ_e, blockQ_r, TK_at, OK_at, SK_at, aops_nil, aops_cons, asch_done, asch_one, asch_two, asch_top, astep, aop_eq, isLoud, aloud, aloud1, isWrite, qv, evS, strip, gof, eget, hget, putO, eput, herase, oks, opnds, gS, afin, afin0, binD, arith, D.cells, takeD, fillD, keep, trim, envOf, Fin, aresl, aresv, resD, argOk, pickV, isP, deq, deqs, boundD, slD, lenD, isT, isSl, ptrIds, chunks, mn_min, mx_max, D.cells, splice_one, splice_more, Rbr_at, Rfr_at, frR, frV, frC, flatC, brwR, brwV, brwC, omap, leR, leV, leC, leL, leVL, c1, c2, cmpZ]
        | (refine WCall.pf (h1) ?_ ?_ ?_ ?_; (focus (simp [oks, opnds, gS, gof, eget]; done)); (focus (simp [omap, brwV, brwC, evS, eget, strip, hget, leVL, leV, leC, leL, c1, c2, cmpZ]; done)); (focus (simp [noV, noC, flatR, flatV, flatC, evS, eget, strip, c1, c2, cmpZ]; done)))
        | (refine ⟨WCall.pf (h1) ?_ ?_ ?_ ?_, ?_⟩; (focus (simp [oks, opnds, gS, gof, eget]; done)); (focus (simp [omap, brwV, brwC, evS, eget, strip, hget, leVL, leV, leC, leL, c1, c2, cmpZ]; done)); (focus (simp [noV, noC, flatR, flatV, flatC, evS, eget, strip, c1, c2, cmpZ]; done)))
        | (refine WCall.pf (h2) ?_ ?_ ?_ ?_; (focus (simp [oks, opnds, gS, gof, eget]; done)); (focus (simp [omap, brwV, brwC, evS, eget, strip, hget, leVL, leV, leC, leL, c1, c2, cmpZ]; done)); (focus (simp [noV, noC, flatR, flatV, flatC, evS, eget, strip, c1, c2, cmpZ]; done)))
        | (refine ⟨WCall.pf (h2) ?_ ?_ ?_ ?_, ?_⟩; (focus (simp [oks, opnds, gS, gof, eget]; done)); (focus (simp [omap, brwV, brwC, evS, eget, strip, hget, leVL, leV, leC, leL, c1, c2, cmpZ]; done)); (focus (simp [noV, noC, flatR, flatV, flatC, evS, eget, strip, c1, c2, cmpZ]; done)))
        | (with_reducible refine And.intro (And.intro ?_ ?_) ?_)
        | fail)
    · skip
      repeat' (first
        | simp [AK_at, acode_seq, acode_region, acode_draw, acode_cond, ↓CB_t, ↓CB_f, CB_u, acode_block, acode_loop, acode_exit, acode_scope, acode_ret, acode_skip, seqQ_n, seqQ_e, seqQ_r, blockQ_n, blockQ_e, blockQ_r, TK_at, OK_at, SK_at, aops_nil, aops_cons, asch_done, asch_one, asch_two, asch_top, astep, aop_eq, isLoud, aloud, aloud1, isWrite, qv, evS, strip, gof, eget, hget, putO, eput, herase, oks, opnds, gS, afin, afin0, binD, arith, D.cells, takeD, fillD, keep, trim, envOf, Fin, aresl, aresv, resD, argOk, pickV, isP, deq, deqs, boundD, slD, lenD, isT, isSl, ptrIds, chunks, mn_min, mx_max, D.cells, splice_one, splice_more, Rbr_at, Rfr_at, frR, frV, frC, flatC, brwR, brwV, brwC, omap, leR, leV, leC, leL, leVL, c1, c2, cmpZ]
        | (refine WCall.pf (h1) ?_ ?_ ?_ ?_; (focus (simp [oks, opnds, gS, gof, eget]; done)); (focus (simp [omap, brwV, brwC, evS, eget, strip, hget, leVL, leV, leC, leL, c1, c2, cmpZ]; done)); (focus (simp [noV, noC, flatR, flatV, flatC, evS, eget, strip, c1, c2, cmpZ]; done)))
        | (refine ⟨WCall.pf (h1) ?_ ?_ ?_ ?_, ?_⟩; (focus (simp [oks, opnds, gS, gof, eget]; done)); (focus (simp [omap, brwV, brwC, evS, eget, strip, hget, leVL, leV, leC, leL, c1, c2, cmpZ]; done)); (focus (simp [noV, noC, flatR, flatV, flatC, evS, eget, strip, c1, c2, cmpZ]; done)))
        | (refine WCall.pf (h2) ?_ ?_ ?_ ?_; (focus (simp [oks, opnds, gS, gof, eget]; done)); (focus (simp [omap, brwV, brwC, evS, eget, strip, hget, leVL, leV, leC, leL, c1, c2, cmpZ]; done)); (focus (simp [noV, noC, flatR, flatV, flatC, evS, eget, strip, c1, c2, cmpZ]; done)))
        | (refine ⟨WCall.pf (h2) ?_ ?_ ?_ ?_, ?_⟩; (focus (simp [oks, opnds, gS, gof, eget]; done)); (focus (simp [omap, brwV, brwC, evS, eget, strip, hget, leVL, leV, leC, leL, c1, c2, cmpZ]; done)); (focus (simp [noV, noC, flatR, flatV, flatC, evS, eget, strip, c1, c2, cmpZ]; done)))
        | (with_reducible refine And.intro (And.intro ?_ ?_) ?_)
        | fail)
theorem cor_code : cfun Try.prog [] 54 = some ⟨(.seq (.region 0 [⟨(some 2), (.mov (.k (.int .i64 0))), none⟩]) (.seq (.region 1 [⟨(some 3), (.mov (.k (.int .i64 0))), none⟩]) (.seq (.seq (.region 2 [⟨(some 6), (.mov (.t 0)), none⟩, ⟨(some 7), (.len (.t 6)), none⟩, ⟨(some 8), (.mov (.k (.int .i64 0))), none⟩]) (.block 0 (.loop (.seq (.region 3 [⟨(some 9), (.bin .lss (.t 8) (.t 7)), none⟩]) (.seq (.cond 9 .skip (.exit 0)) (.seq (.block 1 (.seq (.region 4 [⟨(some 10), (.iads 1 (.t 6) (.t 8)), none⟩, ⟨(some 11), (.load false 1 (.t 10)), none⟩, ⟨(some 5), (.mov (.t 11)), none⟩]) (.seq (.region 5 [⟨(some 12), (.mov (.t 5)), none⟩, ⟨(some 13), (.mov (.t 3)), none⟩, ⟨(some 14), (.bin .neq (.t 12) (.t 13)), none⟩]) (.cond 14 (.seq (.region 6 [⟨(some 15), (.mov (.t 5)), none⟩, ⟨(some 2), (.mov (.t 15)), none⟩]) .ret) .skip)))) (.region 7 [⟨(some 16), (.bin .add (.t 8) (.k (.int .i64 1))), none⟩, ⟨(some 8), (.mov (.t 16)), none⟩]))))))) (.seq (.region 8 [⟨(some 17), (.mov (.t 3)), none⟩, ⟨(some 2), (.mov (.t 17)), none⟩]) .ret)))), [(.t 2)], 18⟩ := by kernel_rfl
theorem cor_pf (a b : Int) : PF Try.prog 54 [.rows 1 [[I a], [I b]]] (I (if a = 0 then b else a)) := by
  refine PF.of follows_ok cor_code (by simp) (by simp [argOk]) (by simp [noV, noC]) fun B hBN hB0 => acode_sound [0, 2, 3, 5, 6, 7, 8, 9, 14] [] _ _ _ ?_
  simp [AK_at, acode_seq, acode_region, acode_draw, acode_cond, ↓CB_t, ↓CB_f, CB_u, acode_block, acode_loop, acode_exit, acode_scope, acode_ret, acode_skip, seqQ_n, seqQ_e, seqQ_r, blockQ_n, blockQ_e, blockQ_r, TK_at, OK_at, SK_at, aops_nil, aops_cons, asch_done, asch_one, asch_two, asch_top, astep, aop_eq, isLoud, aloud, aloud1, isWrite, qv, evS, strip, gof, eget, hget, putO, eput, herase, oks, opnds, gS, afin, afin0, binD, arith, D.cells, takeD, fillD, keep, trim, envOf, Fin, aresl, aresv, resD, argOk, pickV, isP, deq, deqs, boundD, slD, lenD, isT, isSl, ptrIds, chunks, mn_min, mx_max, D.cells, splice_one, splice_more, Rbr_at, Rfr_at, frR, frV, frC, flatC, brwR, brwV, brwC, omap, leR, leV, leC, leL, leVL]
  refine W.loopS (fun i : Nat => ⟨[(8, I i), (7, I 2), (6, D.rows 1 [[I a], [I b]]), (3, I 0), (2, I 0), (0, D.rows 1 [[I a], [I b]])], [], 0⟩)
    (fun n i => n = 2 - i ∧ i ≤ 2 ∧ (1 ≤ i → a = 0) ∧ (2 ≤ i → b = 0)) ?_ ?_
  · exact ⟨_, 0, (Gh.ren [] (by simp [hB0]) (by simp [hB0] <;> decide) (by simp [eget, rnS, rnR, rnV, rnC, LtS, LtR, LtV, LtC, lget]) (by simp [hget, rnO, rnC, LtO, LtC, lget]) (.inr rfl)), rfl, by omega, fun h => by omega, fun h => by omega⟩
  rintro n i ⟨hn, hi, ha, hb⟩
  refine acode_sound [0, 2, 3, 5, 6, 7, 8, 9, 14] [] _ _ _ ?_
  match i, hi with
  | 0, _ =>
    by_cases h : a = 0
    · have ii : InR 1 := inW (by omega) (by omega)
      simp [AK_at, acode_seq, acode_region, acode_draw, acode_cond, ↓CB_t, ↓CB_f, CB_u, acode_block, acode_loop, acode_exit, acode_scope, acode_ret, acode_skip, seqQ_n, seqQ_e, seqQ_r, blockQ_n, blockQ_e, blockQ_r, TK_at, OK_at, SK_at, aops_nil, aops_cons, asch_done, asch_one, asch_two, asch_top, astep, aop_eq, isLoud, aloud, aloud1, isWrite, qv, evS, strip, gof, eget, hget, putO, eput, herase, oks, opnds, gS, afin, afin0, binD, arith, D.cells, takeD, fillD, keep, trim, envOf, Fin, aresl, aresv, resD, argOk, pickV, isP, deq, deqs, boundD, slD, lenD, isT, isSl, ptrIds, chunks, mn_min, mx_max, D.cells, splice_one, splice_more, Rbr_at, Rfr_at, frR, frV, frC, flatC, brwR, brwV, brwC, omap, leR, leV, leC, leL, leVL, h, ii]
      exact ⟨_, 1, (Gh.ren [] (by simp [hB0]) (by simp [hB0] <;> decide) (by simp [eget, rnS, rnR, rnV, rnC, LtS, LtR, LtV, LtC, lget, h]) (by simp [hget, rnO, rnC, LtO, LtC, lget, h]) (.inr rfl)), by omega, rfl, by omega, fun h => by omega⟩
    · simp [AK_at, acode_seq, acode_region, acode_draw, acode_cond, ↓CB_t, ↓CB_f, CB_u, acode_block, acode_loop, acode_exit, acode_scope, acode_ret, acode_skip, seqQ_n, seqQ_e, seqQ_r, blockQ_n, blockQ_e, blockQ_r, TK_at, OK_at, SK_at, aops_nil, aops_cons, asch_done, asch_one, asch_two, asch_top, astep, aop_eq, isLoud, aloud, aloud1, isWrite, qv, evS, strip, gof, eget, hget, putO, eput, herase, oks, opnds, gS, afin, afin0, binD, arith, D.cells, takeD, fillD, keep, trim, envOf, Fin, aresl, aresv, resD, argOk, pickV, isP, deq, deqs, boundD, slD, lenD, isT, isSl, ptrIds, chunks, mn_min, mx_max, D.cells, splice_one, splice_more, Rbr_at, Rfr_at, frR, frV, frC, flatC, brwR, brwV, brwC, omap, leR, leV, leC, leL, leVL, h]
  | 1, _ =>
    have h := ha (by omega)
    by_cases h2 : b = 0
    · have ii : InR 2 := inW (by omega) (by omega)
      simp [AK_at, acode_seq, acode_region, acode_draw, acode_cond, ↓CB_t, ↓CB_f, CB_u, acode_block, acode_loop, acode_exit, acode_scope, acode_ret, acode_skip, seqQ_n, seqQ_e, seqQ_r, blockQ_n, blockQ_e, blockQ_r, TK_at, OK_at, SK_at, aops_nil, aops_cons, asch_done, asch_one, asch_two, asch_top, astep, aop_eq, isLoud, aloud, aloud1, isWrite, qv, evS, strip, gof, eget, hget, putO, eput, herase, oks, opnds, gS, afin, afin0, binD, arith, D.cells, takeD, fillD, keep, trim, envOf, Fin, aresl, aresv, resD, argOk, pickV, isP, deq, deqs, boundD, slD, lenD, isT, isSl, ptrIds, chunks, mn_min, mx_max, D.cells, splice_one, splice_more, Rbr_at, Rfr_at, frR, frV, frC, flatC, brwR, brwV, brwC, omap, leR, leV, leC, leL, leVL, h, h2, ii]
      exact ⟨_, 2, (Gh.ren [] (by simp [hB0]) (by simp [hB0] <;> decide) (by simp [eget, rnS, rnR, rnV, rnC, LtS, LtR, LtV, LtC, lget, h, h2]) (by simp [hget, rnO, rnC, LtO, LtC, lget, h, h2]) (.inr rfl)), by omega, rfl, by omega⟩
    · simp [AK_at, acode_seq, acode_region, acode_draw, acode_cond, ↓CB_t, ↓CB_f, CB_u, acode_block, acode_loop, acode_exit, acode_scope, acode_ret, acode_skip, seqQ_n, seqQ_e, seqQ_r, blockQ_n, blockQ_e, blockQ_r, TK_at, OK_at, SK_at, aops_nil, aops_cons, asch_done, asch_one, asch_two, asch_top, astep, aop_eq, isLoud, aloud, aloud1, isWrite, qv, evS, strip, gof, eget, hget, putO, eput, herase, oks, opnds, gS, afin, afin0, binD, arith, D.cells, takeD, fillD, keep, trim, envOf, Fin, aresl, aresv, resD, argOk, pickV, isP, deq, deqs, boundD, slD, lenD, isT, isSl, ptrIds, chunks, mn_min, mx_max, D.cells, splice_one, splice_more, Rbr_at, Rfr_at, frR, frV, frC, flatC, brwR, brwV, brwC, omap, leR, leV, leC, leL, leVL, h, h2]
  | 2, _ =>
    have h := ha (by omega)
    have h2 := hb (by omega)
    simp [AK_at, acode_seq, acode_region, acode_draw, acode_cond, ↓CB_t, ↓CB_f, CB_u, acode_block, acode_loop, acode_exit, acode_scope, acode_ret, acode_skip, seqQ_n, seqQ_e, seqQ_r, blockQ_n, blockQ_e, blockQ_r, TK_at, OK_at, SK_at, aops_nil, aops_cons, asch_done, asch_one, asch_two, asch_top, astep, aop_eq, isLoud, aloud, aloud1, isWrite, qv, evS, strip, gof, eget, hget, putO, eput, herase, oks, opnds, gS, afin, afin0, binD, arith, D.cells, takeD, fillD, keep, trim, envOf, Fin, aresl, aresv, resD, argOk, pickV, isP, deq, deqs, boundD, slD, lenD, isT, isSl, ptrIds, chunks, mn_min, mx_max, D.cells, splice_one, splice_more, Rbr_at, Rfr_at, frR, frV, frC, flatC, brwR, brwV, brwC, omap, leR, leV, leC, leL, leVL, h, h2]
theorem word_code : cfun Try.prog [] 41 = some ⟨(.seq (.region 0 [⟨(some 2), (.box (.t 0)), none⟩, ⟨(some 3), (.box (.t 1)), none⟩, ⟨(some 4), (.mov (.k (.int .i64 0))), none⟩]) (.seq (.draw 1 (.one true ⟨(some 5), (.fad 0 (.t 2)), none⟩ (.one true ⟨(some 6), (.load false 1 (.t 5)), none⟩ (.one true ⟨(some 7), (.fad 0 (.t 3)), none⟩ (.one true ⟨(some 8), (.load false 1 (.t 7)), none⟩ (.one true ⟨(some 10), (.fad 1 (.t 2)), none⟩ (.one true ⟨(some 11), (.load false 1 (.t 10)), none⟩ (.one true ⟨(some 12), (.fad 1 (.t 3)), none⟩ (.one true ⟨(some 13), (.load false 1 (.t 12)), none⟩ (.one true ⟨(some 9), (.call 55 [(.t 6), (.t 8)]), none⟩ (.one true ⟨(some 14), (.call 55 [(.t 11), (.t 13)]), none⟩ (.one true ⟨(some 15), (.bslice 1 2 [(.int .i64 0)] [(0, (.t 9)), (1, (.t 14))]), none⟩ (.one true ⟨(some 16), (.call 54 [(.t 15)]), none⟩ (.one true ⟨(some 4), (.mov (.t 16)), none⟩ .done)))))))))))))) .ret)), [(.t 4)], 17⟩ := by kernel_rfl
theorem word_pf (a b c d : Int) : PF Try.prog 41 [.agg [I a, I b], .agg [I c, I d]] (I (ord2 a b c d)) := by
  have h1 := ccmp_pf a c
  have h2 := ccmp_pf b d
  have h3 := cor_pf (cmpZ a c) (cmpZ b d)
  refine PF.of follows_ok word_code (by simp) (by simp [argOk]) (by simp [noV, noC]) fun B hBN hB0 => acode_sound [0, 1, 2, 3, 4] [] _ _ _ ?_
  repeat' (first
    | simp [AK_at, acode_seq, acode_region, acode_draw, acode_cond, ↓CB_t, ↓CB_f, CB_u, acode_block, acode_loop, acode_exit, acode_scope, acode_ret, acode_skip, seqQ_n, seqQ_e, seqQ_r, blockQ_n, blockQ_e, blockQ_r, TK_at, OK_at, SK_at, aops_nil, aops_cons, asch_done, asch_one, asch_two, asch_top, astep, aop_eq, isLoud, aloud, aloud1, isWrite, qv, evS, strip, gof, eget, hget, putO, eput, herase, oks, opnds, gS, afin, afin0, binD, arith, D.cells, takeD, fillD, keep, trim, envOf, Fin, aresl, aresv, resD, argOk, pickV, isP, deq, deqs, boundD, slD, lenD, isT, isSl, ptrIds, chunks, mn_min, mx_max, D.cells, splice_one, splice_more, Rbr_at, Rfr_at, frR, frV, frC, flatC, brwR, brwV, brwC, omap, leR, leV, leC, leL, leVL, ord2]
    | (refine WCall.pf (h1) ?_ ?_ ?_ ?_; (focus (simp [oks, opnds, gS, gof, eget]; done)); (focus (simp [omap, brwV, brwC, evS, eget, strip, hget, leVL, leV, leC, leL, ord2]; done)); (focus (simp [noV, noC, flatR, flatV, flatC, evS, eget, strip, ord2]; done)))
    | (refine ⟨WCall.pf (h1) ?_ ?_ ?_ ?_, ?_⟩; (focus (simp [oks, opnds, gS, gof, eget]; done)); (focus (simp [omap, brwV, brwC, evS, eget, strip, hget, leVL, leV, leC, leL, ord2]; done)); (focus (simp [noV, noC, flatR, flatV, flatC, evS, eget, strip, ord2]; done)))
    | (refine WCall.pf (h2) ?_ ?_ ?_ ?_; (focus (simp [oks, opnds, gS, gof, eget]; done)); (focus (simp [omap, brwV, brwC, evS, eget, strip, hget, leVL, leV, leC, leL, ord2]; done)); (focus (simp [noV, noC, flatR, flatV, flatC, evS, eget, strip, ord2]; done)))
    | (refine ⟨WCall.pf (h2) ?_ ?_ ?_ ?_, ?_⟩; (focus (simp [oks, opnds, gS, gof, eget]; done)); (focus (simp [omap, brwV, brwC, evS, eget, strip, hget, leVL, leV, leC, leL, ord2]; done)); (focus (simp [noV, noC, flatR, flatV, flatC, evS, eget, strip, ord2]; done)))
    | (refine WCall.pf (h3) ?_ ?_ ?_ ?_; (focus (simp [oks, opnds, gS, gof, eget]; done)); (focus (simp [omap, brwV, brwC, evS, eget, strip, hget, leVL, leV, leC, leL, ord2]; done)); (focus (simp [noV, noC, flatR, flatV, flatC, evS, eget, strip, ord2]; done)))
    | (refine ⟨WCall.pf (h3) ?_ ?_ ?_ ?_, ?_⟩; (focus (simp [oks, opnds, gS, gof, eget]; done)); (focus (simp [omap, brwV, brwC, evS, eget, strip, hget, leVL, leV, leC, leL, ord2]; done)); (focus (simp [noV, noC, flatR, flatV, flatC, evS, eget, strip, ord2]; done)))
    | (with_reducible refine And.intro (And.intro ?_ ?_) ?_)
    | fail)
theorem rord_code : cfun Try.prog [] 36 = some ⟨(.seq (.region 0 [⟨(some 2), (.box (.t 0)), none⟩, ⟨(some 3), (.box (.t 1)), none⟩, ⟨(some 4), (.mov (.k (.int .i64 0))), none⟩]) (.seq (.draw 1 (.one true ⟨(some 5), (.fad 0 (.t 2)), none⟩ (.one true ⟨(some 6), (.load false 1 (.t 5)), none⟩ (.one true ⟨(some 7), (.fad 0 (.t 3)), none⟩ (.one true ⟨(some 8), (.load false 1 (.t 7)), none⟩ (.one true ⟨(some 10), (.fad 1 (.t 2)), none⟩ (.one true ⟨(some 11), (.load false 1 (.t 10)), none⟩ (.one true ⟨(some 12), (.fad 1 (.t 3)), none⟩ (.one true ⟨(some 13), (.load false 1 (.t 12)), none⟩ (.one true ⟨(some 9), (.call 55 [(.t 6), (.t 8)]), none⟩ (.one true ⟨(some 14), (.call 55 [(.t 11), (.t 13)]), none⟩ (.one true ⟨(some 15), (.bslice 1 2 [(.int .i64 0)] [(0, (.t 9)), (1, (.t 14))]), none⟩ (.one true ⟨(some 16), (.call 54 [(.t 15)]), none⟩ (.one true ⟨(some 4), (.mov (.t 16)), none⟩ .done)))))))))))))) .ret)), [(.t 4)], 17⟩ := by kernel_rfl
theorem rord_pf (a b c d : Int) : PF Try.prog 36 [.agg [I a, I b], .agg [I c, I d]] (I (ord2 a b c d)) := by
  have h1 := ccmp_pf a c
  have h2 := ccmp_pf b d
  have h3 := cor_pf (cmpZ a c) (cmpZ b d)
  refine PF.of follows_ok rord_code (by simp) (by simp [argOk]) (by simp [noV, noC]) fun B hBN hB0 => acode_sound [0, 1, 2, 3, 4] [] _ _ _ ?_
  repeat' (first
    | simp [AK_at, acode_seq, acode_region, acode_draw, acode_cond, ↓CB_t, ↓CB_f, CB_u, acode_block, acode_loop, acode_exit, acode_scope, acode_ret, acode_skip, seqQ_n, seqQ_e, seqQ_r, blockQ_n, blockQ_e, blockQ_r, TK_at, OK_at, SK_at, aops_nil, aops_cons, asch_done, asch_one, asch_two, asch_top, astep, aop_eq, isLoud, aloud, aloud1, isWrite, qv, evS, strip, gof, eget, hget, putO, eput, herase, oks, opnds, gS, afin, afin0, binD, arith, D.cells, takeD, fillD, keep, trim, envOf, Fin, aresl, aresv, resD, argOk, pickV, isP, deq, deqs, boundD, slD, lenD, isT, isSl, ptrIds, chunks, mn_min, mx_max, D.cells, splice_one, splice_more, Rbr_at, Rfr_at, frR, frV, frC, flatC, brwR, brwV, brwC, omap, leR, leV, leC, leL, leVL, ord2]
    | (refine WCall.pf (h1) ?_ ?_ ?_ ?_; (focus (simp [oks, opnds, gS, gof, eget]; done)); (focus (simp [omap, brwV, brwC, evS, eget, strip, hget, leVL, leV, leC, leL, ord2]; done)); (focus (simp [noV, noC, flatR, flatV, flatC, evS, eget, strip, ord2]; done)))
    | (refine ⟨WCall.pf (h1) ?_ ?_ ?_ ?_, ?_⟩; (focus (simp [oks, opnds, gS, gof, eget]; done)); (focus (simp [omap, brwV, brwC, evS, eget, strip, hget, leVL, leV, leC, leL, ord2]; done)); (focus (simp [noV, noC, flatR, flatV, flatC, evS, eget, strip, ord2]; done)))
    | (refine WCall.pf (h2) ?_ ?_ ?_ ?_; (focus (simp [oks, opnds, gS, gof, eget]; done)); (focus (simp [omap, brwV, brwC, evS, eget, strip, hget, leVL, leV, leC, leL, ord2]; done)); (focus (simp [noV, noC, flatR, flatV, flatC, evS, eget, strip, ord2]; done)))
    | (refine ⟨WCall.pf (h2) ?_ ?_ ?_ ?_, ?_⟩; (focus (simp [oks, opnds, gS, gof, eget]; done)); (focus (simp [omap, brwV, brwC, evS, eget, strip, hget, leVL, leV, leC, leL, ord2]; done)); (focus (simp [noV, noC, flatR, flatV, flatC, evS, eget, strip, ord2]; done)))
    | (refine WCall.pf (h3) ?_ ?_ ?_ ?_; (focus (simp [oks, opnds, gS, gof, eget]; done)); (focus (simp [omap, brwV, brwC, evS, eget, strip, hget, leVL, leV, leC, leL, ord2]; done)); (focus (simp [noV, noC, flatR, flatV, flatC, evS, eget, strip, ord2]; done)))
    | (refine ⟨WCall.pf (h3) ?_ ?_ ?_ ?_, ?_⟩; (focus (simp [oks, opnds, gS, gof, eget]; done)); (focus (simp [omap, brwV, brwC, evS, eget, strip, hget, leVL, leV, leC, leL, ord2]; done)); (focus (simp [noV, noC, flatR, flatV, flatC, evS, eget, strip, ord2]; done)))
    | (with_reducible refine And.intro (And.intro ?_ ?_) ?_)
    | fail)
theorem tisf_code : cfun Try.prog [] 40 = some ⟨(.seq (.region 0 [⟨(some 4), (.mov (.k (.bool false))), none⟩]) (.seq (.seq (.region 1 [⟨(some 6), (.mov (.t 0)), none⟩, ⟨(some 7), (.len (.t 6)), none⟩, ⟨(some 8), (.bin .sub (.t 7) (.k (.int .i64 1))), none⟩, ⟨(some 5), (.mov (.t 8)), none⟩]) (.block 0 (.loop (.seq (.seq (.region 2 [⟨(some 9), (.mov (.t 5)), none⟩, ⟨(some 10), (.bin .gtr (.t 9) (.k (.int .i64 0))), none⟩]) (.cond 10 .skip (.exit 0))) (.seq (.block 1 (.seq (.draw 4 (.one true ⟨(some 13), (.mov (.t 1)), none⟩ (.one true ⟨(some 14), (.mov (.t 0)), none⟩ (.one true ⟨(some 15), (.mov (.t 5)), none⟩ (.one true ⟨(some 16), (.iads 2 (.t 14) (.t 15)), none⟩ (.one true ⟨(some 17), (.load true 2 (.t 16)), none⟩ (.one true ⟨(some 18), (.mov (.t 0)), none⟩ (.one true ⟨(some 19), (.mov (.t 5)), none⟩ (.one true ⟨(some 20), (.bin .sub (.t 19) (.k (.int .i64 1))), none⟩ (.one true ⟨(some 21), (.iads 2 (.t 18) (.t 20)), none⟩ (.one true ⟨(some 22), (.load true 2 (.t 21)), none⟩ (.one false ⟨(some 23), (.callv (.t 13) [(.t 17), (.t 22)]), none⟩ (.one true ⟨(some 24), (.bin .lss (.t 23) (.k (.int .i64 0))), none⟩ .done))))))))))))) (.cond 24 (.seq (.region 5 [⟨(some 4), (.mov (.k (.bool false))), none⟩]) .ret) .skip))) (.region 3 [⟨(some 11), (.mov (.t 5)), none⟩, ⟨(some 12), (.bin .sub (.t 11) (.k (.int .i64 1))), none⟩, ⟨(some 5), (.mov (.t 12)), none⟩])))))) (.seq (.region 6 [⟨(some 4), (.mov (.k (.bool true))), none⟩]) .ret))), [(.t 4)], 25⟩ := by kernel_rfl
theorem tisf_pf {α : Type} (E : α → List D) (l : List α) (F : FuncId) (cf : α → α → Int) (hl : l.length ≤ 1000000) (hE : Els 2 E l) (hF : ∀ s ∈ l, ∀ t ∈ l, PF Try.prog F [.agg (E s), .agg (E t)] (I (cf s t)))
    (hs : ∀ i (hi : i + 1 < l.length), ¬ cf l[i + 1] l[i] < 0) : PF Try.prog 40 [.rows 2 (l.map E), .fn F []] (.bool true) := by
  have i0 : InR ((l.length : Int) - 1) := inW (by omega) (by omega)
  refine PF.of follows_ok tisf_code (by simp) (by simp [argOk]) (by simp [noV, noC]) fun B hBN hB0 => acode_sound [0, 1, 4, 5, 10, 24] [] _ _ _ ?_
  simp [AK_at, acode_seq, acode_region, acode_draw, acode_cond, ↓CB_t, ↓CB_f, CB_u, acode_block, acode_loop, acode_exit, acode_scope, acode_ret, acode_skip, seqQ_n, seqQ_e, seqQ_r, blockQ_n, blockQ_e, blockQ_r, TK_at, OK_at, SK_at, aops_nil, aops_cons, asch_done, asch_one, asch_two, asch_top, astep, aop_eq, isLoud, aloud, aloud1, isWrite, qv, evS, strip, gof, eget, hget, putO, eput, herase, oks, opnds, gS, afin, afin0, binD, arith, D.cells, takeD, fillD, keep, trim, envOf, Fin, aresl, aresv, resD, argOk, pickV, isP, deq, deqs, boundD, slD, lenD, isT, isSl, ptrIds, chunks, mn_min, mx_max, D.cells, splice_one, splice_more, Rbr_at, Rfr_at, frR, frV, frC, flatC, brwR, brwV, brwC, omap, leR, leV, leC, leL, leVL, i0]
  refine W.loopS (fun z : Int => ⟨[(5, I z), (4, .bool false), (1, .fn F []), (0, D.rows 2 (l.map E))], [], 0⟩)
    (fun n z => n = (z + 1).toNat ∧ -1 ≤ z ∧ z < l.length) ?_ ?_
  · exact ⟨_, (l.length : Int) - 1, (Gh.ren [] (by simp [hB0]) (by simp [hB0] <;> decide) (by simp [eget, rnS, rnR, rnV, rnC, LtS, LtR, LtV, LtC, lget]) (by simp [hget, rnO, rnC, LtO, LtC, lget]) (.inr rfl)), rfl, by omega, by omega⟩
  rintro n z ⟨hn, h1, h2⟩
  refine acode_sound [0, 1, 4, 5, 10, 24] [] _ _ _ ?_
  by_cases hz : 0 < z
  · obtain ⟨i, rfl⟩ : ∃ i : Nat, z = (i : Int) + 1 := ⟨(z - 1).toNat, by omega⟩
    have hil : i + 1 < l.length := by omega
    have hil0 : i < l.length := by omega
    have hm1 : l[i + 1] ∈ l := List.getElem_mem hil
    have hm0 : l[i] ∈ l := List.getElem_mem hil0
    have hE1 := hE _ hm1
    have hE0 := hE _ hm0
    have hFo := hF _ hm1 _ hm0
    have hsi := hs i hil
    obtain ⟨o, ho⟩ : ∃ o, o = l[i + 1] := ⟨_, rfl⟩
    obtain ⟨p, hp⟩ : ∃ p, p = l[i] := ⟨_, rfl⟩
    rw [← ho] at hE1 hFo hsi
    rw [← hp] at hE0 hFo hsi
    obtain ⟨a1, a2⟩ := hE1
    obtain ⟨b1, b2⟩ := hE0
    have a3 : (E o).take 2 = E o := List.take_of_length_le (by omega)
    have a4 := fun H n => brw_T H n (E o) a2
    have b3 : (E p).take 2 = E p := List.take_of_length_le (by omega)
    have b4 := fun H n => brw_T H n (E p) b2
    have ii : InR (i : Int) := inW (by omega) (by omega)
    have e1 : (i : Int) + 1 - 1 = i := by omega
    have e2 : ((i : Int) + 1).toNat = i + 1 := by omega
    have p1 : (0 : Int) < (i : Int) + 1 := by omega
    have p2 : (0 : Int) ≤ (i : Int) + 1 := by omega
    have p3 : (i : Int) + 1 < l.length := by omega
    repeat' (first
      | simp [AK_at, acode_seq, acode_region, acode_draw, acode_cond, ↓CB_t, ↓CB_f, CB_u, acode_block, acode_loop, acode_exit, acode_scope, acode_ret, acode_skip, seqQ_n, seqQ_e, seqQ_r, blockQ_n, blockQ_e, blockQ_r, TK_at, OK_at, SK_at, aops_nil, aops_cons, asch_done, asch_one, asch_two, asch_top, astep, aop_eq, isLoud, aloud, aloud1, isWrite, qv, evS, strip, gof, eget, hget, putO, eput, herase, oks, opnds, gS, afin, afin0, binD, arith, D.cells, takeD, fillD, keep, trim, envOf, Fin, aresl, aresv, resD, argOk, pickV, isP, deq, deqs, boundD, slD, lenD, isT, isSl, ptrIds, chunks, mn_min, mx_max, D.cells, splice_one, splice_more, Rbr_at, Rfr_at, frR, frV, frC, flatC, brwR, brwV, brwC, omap, leR, leV, leC, leL, leVL, hil, hil0, ← ho, ← hp, a1, a3, a4, b1, b3, b4, ii, e1, e2, p1, p2, p3, leL_refl, hsi]
      | (refine WCall.pfv (hFo) ?_ rfl ?_ ?_ ?_; (focus (simp [oks, opnds, gS, gof, eget]; done)); (focus (simp [omap, brwV, brwC, evS, eget, strip, hget, leVL, leV, leC, leL, hil, hil0, ← ho, ← hp, a1, a3, a4, b1, b3, b4, ii, e1, e2, p1, p2, p3, leL_refl, hsi]; done)); (focus (simp [noV, noC, flatR, flatV, flatC, evS, eget, strip, hil, hil0, ← ho, ← hp, a1, a3, a4, b1, b3, b4, ii, e1, e2, p1, p2, p3, leL_refl, hsi]; done)))
      | (refine ⟨WCall.pfv (hFo) ?_ rfl ?_ ?_ ?_, ?_⟩; (focus (simp [oks, opnds, gS, gof, eget]; done)); (focus (simp [omap, brwV, brwC, evS, eget, strip, hget, leVL, leV, leC, leL, hil, hil0, ← ho, ← hp, a1, a3, a4, b1, b3, b4, ii, e1, e2, p1, p2, p3, leL_refl, hsi]; done)); (focus (simp [noV, noC, flatR, flatV, flatC, evS, eget, strip, hil, hil0, ← ho, ← hp, a1, a3, a4, b1, b3, b4, ii, e1, e2, p1, p2, p3, leL_refl, hsi]; done)))
      | (with_reducible refine And.intro (And.intro ?_ ?_) ?_)
      | fail)
    exact ⟨_, (i : Int), (Gh.ren [] (by simp [hB0]) (by simp [hB0] <;> decide) (by simp [eget, rnS, rnR, rnV, rnC, LtS, LtR, LtV, LtC, lget]) (by simp [hget, rnO, rnC, LtO, LtC, lget]) (.inr rfl)), by omega, rfl, by omega, by omega⟩
  · simp [AK_at, acode_seq, acode_region, acode_draw, acode_cond, ↓CB_t, ↓CB_f, CB_u, acode_block, acode_loop, acode_exit, acode_scope, acode_ret, acode_skip, seqQ_n, seqQ_e, seqQ_r, blockQ_n, blockQ_e, blockQ_r, TK_at, OK_at, SK_at, aops_nil, aops_cons, asch_done, asch_one, asch_two, asch_top, astep, aop_eq, isLoud, aloud, aloud1, isWrite, qv, evS, strip, gof, eget, hget, putO, eput, herase, oks, opnds, gS, afin, afin0, binD, arith, D.cells, takeD, fillD, keep, trim, envOf, Fin, aresl, aresv, resD, argOk, pickV, isP, deq, deqs, boundD, slD, lenD, isT, isSl, ptrIds, chunks, mn_min, mx_max, D.cells, splice_one, splice_more, Rbr_at, Rfr_at, frR, frV, frC, flatC, brwR, brwV, brwC, omap, leR, leV, leC, leL, leVL, hz]
theorem speq_code : cfun Try.prog [] 47 = some ⟨(.seq (.region 0 [⟨(some 4), (.mov (.k (.bool false))), none⟩]) (.seq (.seq (.region 1 [⟨(some 6), (.mov (.t 0)), none⟩, ⟨(some 7), (.len (.t 6)), none⟩, ⟨(some 8), (.mov (.t 1)), none⟩, ⟨(some 9), (.len (.t 8)), none⟩, ⟨(some 10), (.bin .neq (.t 7) (.t 9)), none⟩]) (.cond 10 (.seq (.region 2 [⟨(some 4), (.mov (.k (.bool false))), none⟩]) .ret) .skip)) (.seq (.seq (.region 3 [⟨(some 11), (.mov (.t 0)), none⟩, ⟨(some 12), (.len (.t 11)), none⟩, ⟨(some 13), (.mov (.k (.int .i64 0))), none⟩]) (.block 0 (.loop (.seq (.region 4 [⟨(some 14), (.bin .lss (.t 13) (.t 12)), none⟩]) (.seq (.cond 14 .skip (.exit 0)) (.seq (.block 1 (.seq (.region 5 [⟨(some 15), (.mov (.t 13)), none⟩, ⟨(some 5), (.mov (.t 15)), none⟩]) (.seq (.draw 6 (.one true ⟨(some 16), (.mov (.t 0)), none⟩ (.one true ⟨(some 17), (.mov (.t 5)), none⟩ (.one true ⟨(some 18), (.iads 2 (.t 16) (.t 17)), none⟩ (.one true ⟨(some 19), (.load true 2 (.t 18)), none⟩ (.one true ⟨(some 20), (.mov (.t 1)), none⟩ (.one true ⟨(some 21), (.mov (.t 5)), none⟩ (.one true ⟨(some 22), (.iads 2 (.t 20) (.t 21)), none⟩ (.one true ⟨(some 23), (.load true 2 (.t 22)), none⟩ (.one true ⟨(some 24), (.eqa true [.i, .i] (.t 19) (.t 23)), none⟩ .done)))))))))) (.cond 24 (.seq (.region 7 [⟨(some 4), (.mov (.k (.bool false))), none⟩]) .ret) .skip)))) (.region 8 [⟨(some 25), (.bin .add (.t 13) (.k (.int .i64 1))), none⟩, ⟨(some 13), (.mov (.t 25)), none⟩]))))))) (.seq (.region 9 [⟨(some 4), (.mov (.k (.bool true))), none⟩]) .ret)))), [(.t 4)], 26⟩ := by kernel_rfl
theorem speq_pf (l : List (Int × Int)) (hl : l.length ≤ 1000000) : PF Try.prog 47 [.rows 2 (l.map fun s => [I s.1, I s.2]), .rows 2 (l.map fun s => [I s.1, I s.2])] (.bool true) := by
  refine PF.of follows_ok speq_code (by simp) (by simp [argOk]) (by simp [noV, noC]) fun B hBN hB0 => acode_sound [0, 1, 4, 5, 10, 12, 13, 14, 24] [] _ _ _ ?_
  simp [AK_at, acode_seq, acode_region, acode_draw, acode_cond, ↓CB_t, ↓CB_f, CB_u, acode_block, acode_loop, acode_exit, acode_scope, acode_ret, acode_skip, seqQ_n, seqQ_e, seqQ_r, blockQ_n, blockQ_e, blockQ_r, TK_at, OK_at, SK_at, aops_nil, aops_cons, asch_done, asch_one, asch_two, asch_top, astep, aop_eq, isLoud, aloud, aloud1, isWrite, qv, evS, strip, gof, eget, hget, putO, eput, herase, oks, opnds, gS, afin, afin0, binD, arith, D.cells, takeD, fillD, keep, trim, envOf, Fin, aresl, aresv, resD, argOk, pickV, isP, deq, deqs, boundD, slD, lenD, isT, isSl, ptrIds, chunks, mn_min, mx_max, D.cells, splice_one, splice_more, Rbr_at, Rfr_at, frR, frV, frC, flatC, brwR, brwV, brwC, omap, leR, leV, leC, leL, leVL]
  refine W.loopS (fun i : Nat => ⟨[(13, I i), (12, I l.length), (4, .bool false), (1, D.rows 2 (l.map fun s => [I s.1, I s.2])), (0, D.rows 2 (l.map fun s => [I s.1, I s.2]))], [], 0⟩)
    (fun n i => n = l.length - i ∧ i ≤ l.length) ?_ ?_
  · exact ⟨_, 0, (Gh.ren [] (by simp [hB0]) (by simp [hB0] <;> decide) (by simp [eget, rnS, rnR, rnV, rnC, LtS, LtR, LtV, LtC, lget]) (by simp [hget, rnO, rnC, LtO, LtC, lget]) (.inr rfl)), rfl, by omega⟩
  rintro n i ⟨hn, hi⟩
  refine acode_sound [0, 1, 4, 5, 10, 12, 13, 14, 24] [] _ _ _ ?_
  by_cases hlt : i < l.length
  · have ii : InR ((i : Int) + 1) := inW (by omega) (by omega)
    simp [AK_at, acode_seq, acode_region, acode_draw, acode_cond, ↓CB_t, ↓CB_f, CB_u, acode_block, acode_loop, acode_exit, acode_scope, acode_ret, acode_skip, seqQ_n, seqQ_e, seqQ_r, blockQ_n, blockQ_e, blockQ_r, TK_at, OK_at, SK_at, aops_nil, aops_cons, asch_done, asch_one, asch_two, asch_top, astep, aop_eq, isLoud, aloud, aloud1, isWrite, qv, evS, strip, gof, eget, hget, putO, eput, herase, oks, opnds, gS, afin, afin0, binD, arith, D.cells, takeD, fillD, keep, trim, envOf, Fin, aresl, aresv, resD, argOk, pickV, isP, deq, deqs, boundD, slD, lenD, isT, isSl, ptrIds, chunks, mn_min, mx_max, D.cells, splice_one, splice_more, Rbr_at, Rfr_at, frR, frV, frC, flatC, brwR, brwV, brwC, omap, leR, leV, leC, leL, leVL, hlt, ii]
    exact ⟨_, i + 1, (Gh.ren [] (by simp [hB0]) (by simp [hB0] <;> decide) (by simp [eget, rnS, rnR, rnV, rnC, LtS, LtR, LtV, LtC, lget]) (by simp [hget, rnO, rnC, LtO, LtC, lget]) (.inr rfl)), by omega, rfl, by omega⟩
  · obtain rfl : i = l.length := by omega
    simp [AK_at, acode_seq, acode_region, acode_draw, acode_cond, ↓CB_t, ↓CB_f, CB_u, acode_block, acode_loop, acode_exit, acode_scope, acode_ret, acode_skip, seqQ_n, seqQ_e, seqQ_r, blockQ_n, blockQ_e, blockQ_r, TK_at, OK_at, SK_at, aops_nil, aops_cons, asch_done, asch_one, asch_two, asch_top, astep, aop_eq, isLoud, aloud, aloud1, isWrite, qv, evS, strip, gof, eget, hget, putO, eput, herase, oks, opnds, gS, afin, afin0, binD, arith, D.cells, takeD, fillD, keep, trim, envOf, Fin, aresl, aresv, resD, argOk, pickV, isP, deq, deqs, boundD, slD, lenD, isT, isSl, ptrIds, chunks, mn_min, mx_max, D.cells, splice_one, splice_more, Rbr_at, Rfr_at, frR, frV, frC, flatC, brwR, brwV, brwC, omap, leR, leV, leC, leL, leVL]
theorem iidx_code : cfun Try.prog [] 50 = some ⟨(.seq (.region 0 [⟨(some 4), (.mov (.k (.int .i64 0))), none⟩]) (.seq (.seq (.region 1 [⟨(some 6), (.mov (.t 0)), none⟩, ⟨(some 7), (.len (.t 6)), none⟩, ⟨(some 8), (.mov (.k (.int .i64 0))), none⟩]) (.block 0 (.loop (.seq (.region 2 [⟨(some 9), (.bin .lss (.t 8) (.t 7)), none⟩]) (.seq (.cond 9 .skip (.exit 0)) (.seq (.block 1 (.seq (.region 3 [⟨(some 10), (.mov (.t 8)), none⟩, ⟨(some 5), (.mov (.t 10)), none⟩]) (.seq (.region 4 [⟨(some 11), (.mov (.t 1)), none⟩, ⟨(some 12), (.mov (.t 0)), none⟩, ⟨(some 13), (.mov (.t 5)), none⟩, ⟨(some 14), (.iads 1 (.t 12) (.t 13)), none⟩, ⟨(some 15), (.load false 1 (.t 14)), none⟩, ⟨(some 16), (.bin .eql (.t 11) (.t 15)), none⟩]) (.cond 16 (.seq (.region 5 [⟨(some 17), (.mov (.t 5)), none⟩, ⟨(some 4), (.mov (.t 17)), none⟩]) .ret) .skip)))) (.region 6 [⟨(some 18), (.bin .add (.t 8) (.k (.int .i64 1))), none⟩, ⟨(some 8), (.mov (.t 18)), none⟩]))))))) (.seq (.region 7 [⟨(some 4), (.mov (.k (.int .i64 (-1)))), none⟩]) .ret))), [(.t 4)], 19⟩ := by kernel_rfl
theorem iidx_pf (l : List Int) (b : Int) (hl : l.length ≤ 1000000) : PF Try.prog 50 [.rows 1 (l.map fun z => [I z]), I b] (I (idxZ (fun z => decide (b = z)) l)) := by
  refine PF.of follows_ok iidx_code (by simp) (by simp [argOk]) (by simp [noV, noC]) fun B hBN hB0 => acode_sound [0, 1, 4, 5, 7, 8, 9, 16] [] _ _ _ ?_
  simp [AK_at, acode_seq, acode_region, acode_draw, acode_cond, ↓CB_t, ↓CB_f, CB_u, acode_block, acode_loop, acode_exit, acode_scope, acode_ret, acode_skip, seqQ_n, seqQ_e, seqQ_r, blockQ_n, blockQ_e, blockQ_r, TK_at, OK_at, SK_at, aops_nil, aops_cons, asch_done, asch_one, asch_two, asch_top, astep, aop_eq, isLoud, aloud, aloud1, isWrite, qv, evS, strip, gof, eget, hget, putO, eput, herase, oks, opnds, gS, afin, afin0, binD, arith, D.cells, takeD, fillD, keep, trim, envOf, Fin, aresl, aresv, resD, argOk, pickV, isP, deq, deqs, boundD, slD, lenD, isT, isSl, ptrIds, chunks, mn_min, mx_max, D.cells, splice_one, splice_more, Rbr_at, Rfr_at, frR, frV, frC, flatC, brwR, brwV, brwC, omap, leR, leV, leC, leL, leVL]
  refine W.loopS (fun i : Nat => ⟨[(8, I i), (7, I l.length), (4, I 0), (1, I b), (0, D.rows 1 (l.map fun z => [I z]))], [], 0⟩)
    (fun n i => n = l.length - i ∧ i ≤ l.length ∧ ∀ j (hj : j < l.length), j < i → ¬ b = l[j]) ?_ ?_
  · exact ⟨_, 0, (Gh.ren [] (by simp [hB0]) (by simp [hB0] <;> decide) (by simp [eget, rnS, rnR, rnV, rnC, LtS, LtR, LtV, LtC, lget]) (by simp [hget, rnO, rnC, LtO, LtC, lget]) (.inr rfl)), rfl, by omega, fun j _ h => by omega⟩
  rintro n i ⟨hn, hi, hb⟩
  refine acode_sound [0, 1, 4, 5, 7, 8, 9, 16] [] _ _ _ ?_
  by_cases hlt : i < l.length
  · have ii : InR ((i : Int) + 1) := inW (by omega) (by omega)
    by_cases hq : b = l[i]
    · have hz := idxZ_at (fun z => decide (b = z)) l i hlt (fun j hj => by simpa using hb j (by omega) hj) (by simpa using hq)
      simp [AK_at, acode_seq, acode_region, acode_draw, acode_cond, ↓CB_t, ↓CB_f, CB_u, acode_block, acode_loop, acode_exit, acode_scope, acode_ret, acode_skip, seqQ_n, seqQ_e, seqQ_r, blockQ_n, blockQ_e, blockQ_r, TK_at, OK_at, SK_at, aops_nil, aops_cons, asch_done, asch_one, asch_two, asch_top, astep, aop_eq, isLoud, aloud, aloud1, isWrite, qv, evS, strip, gof, eget, hget, putO, eput, herase, oks, opnds, gS, afin, afin0, binD, arith, D.cells, takeD, fillD, keep, trim, envOf, Fin, aresl, aresv, resD, argOk, pickV, isP, deq, deqs, boundD, slD, lenD, isT, isSl, ptrIds, chunks, mn_min, mx_max, D.cells, splice_one, splice_more, Rbr_at, Rfr_at, frR, frV, frC, flatC, brwR, brwV, brwC, omap, leR, leV, leC, leL, leVL, hlt, ← hq, hz]
    · simp [AK_at, acode_seq, acode_region, acode_draw, acode_cond, ↓CB_t, ↓CB_f, CB_u, acode_block, acode_loop, acode_exit, acode_scope, acode_ret, acode_skip, seqQ_n, seqQ_e, seqQ_r, blockQ_n, blockQ_e, blockQ_r, TK_at, OK_at, SK_at, aops_nil, aops_cons, asch_done, asch_one, asch_two, asch_top, astep, aop_eq, isLoud, aloud, aloud1, isWrite, qv, evS, strip, gof, eget, hget, putO, eput, herase, oks, opnds, gS, afin, afin0, binD, arith, D.cells, takeD, fillD, keep, trim, envOf, Fin, aresl, aresv, resD, argOk, pickV, isP, deq, deqs, boundD, slD, lenD, isT, isSl, ptrIds, chunks, mn_min, mx_max, D.cells, splice_one, splice_more, Rbr_at, Rfr_at, frR, frV, frC, flatC, brwR, brwV, brwC, omap, leR, leV, leC, leL, leVL, hlt, hq, ii]
      exact ⟨_, i + 1, (Gh.ren [] (by simp [hB0]) (by simp [hB0] <;> decide) (by simp [eget, rnS, rnR, rnV, rnC, LtS, LtR, LtV, LtC, lget]) (by simp [hget, rnO, rnC, LtO, LtC, lget]) (.inr rfl)), by omega, rfl, by omega, fun j hj h => by
        by_cases hji : j = i
        · subst hji; exact hq
        · exact hb j hj (by omega)⟩
  · have hz := idxZ_none (fun z => decide (b = z)) l fun x hx => by
      obtain ⟨j, hj⟩ := List.getElem?_of_mem hx
      obtain ⟨hj2, rfl⟩ := List.getElem?_eq_some_iff.1 hj
      simpa using hb j hj2 (by omega)
    obtain rfl : i = l.length := by omega
    simp [AK_at, acode_seq, acode_region, acode_draw, acode_cond, ↓CB_t, ↓CB_f, CB_u, acode_block, acode_loop, acode_exit, acode_scope, acode_ret, acode_skip, seqQ_n, seqQ_e, seqQ_r, blockQ_n, blockQ_e, blockQ_r, TK_at, OK_at, SK_at, aops_nil, aops_cons, asch_done, asch_one, asch_two, asch_top, astep, aop_eq, isLoud, aloud, aloud1, isWrite, qv, evS, strip, gof, eget, hget, putO, eput, herase, oks, opnds, gS, afin, afin0, binD, arith, D.cells, takeD, fillD, keep, trim, envOf, Fin, aresl, aresv, resD, argOk, pickV, isP, deq, deqs, boundD, slD, lenD, isT, isSl, ptrIds, chunks, mn_min, mx_max, D.cells, splice_one, splice_more, Rbr_at, Rfr_at, frR, frV, frC, flatC, brwR, brwV, brwC, omap, leR, leV, leC, leL, leVL, hz]
theorem idxZ_mem (l : List Int) (b : Int) : 0 ≤ idxZ (fun z => decide (b = z)) l ↔ b ∈ l := by
  constructor
  · intro h
    obtain ⟨h1, h2, _⟩ := idxZ_get _ l h
    have h3 : b = l[(idxZ (fun z => decide (b = z)) l).toNat] := by simpa using h2
    exact h3 ▸ List.getElem_mem h1
  · intro h
    exact idxZ_some _ l ⟨b, h, by simp⟩
theorem icon_code : cfun Try.prog [] 31 = some ⟨(.seq (.region 0 [⟨(some 4), (.mov (.k (.bool false))), none⟩]) (.seq (.region 1 [⟨(some 5), (.mov (.t 0)), none⟩, ⟨(some 6), (.mov (.t 1)), none⟩, ⟨(some 7), (.call 50 [(.t 5), (.t 6)]), none⟩, ⟨(some 8), (.bin .geq (.t 7) (.k (.int .i64 0))), none⟩, ⟨(some 4), (.mov (.t 8)), none⟩]) .ret)), [(.t 4)], 9⟩ := by kernel_rfl
theorem icon_pf (l : List Int) (b : Int) (hl : l.length ≤ 1000000) : PF Try.prog 31 [.rows 1 (l.map fun z => [I z]), I b] (.bool (decide (b ∈ l))) := by
  have h1 := iidx_pf l b hl
  have h2 := idxZ_mem l b
  refine PF.of follows_ok icon_code (by simp) (by simp [argOk]) (by simp [noV, noC]) fun B hBN hB0 => acode_sound [0, 1, 4] [] _ _ _ ?_
  repeat' (first
    | simp [AK_at, acode_seq, acode_region, acode_draw, acode_cond, ↓CB_t, ↓CB_f, CB_u, acode_block, acode_loop, acode_exit, acode_scope, acode_ret, acode_skip, seqQ_n, seqQ_e, seqQ_r, blockQ_n, blockQ_e, blockQ_r, TK_at, OK_at, SK_at, aops_nil, aops_cons, asch_done, asch_one, asch_two, asch_top, astep, aop_eq, isLoud, aloud, aloud1, isWrite, qv, evS, strip, gof, eget, hget, putO, eput, herase, oks, opnds, gS, afin, afin0, binD, arith, D.cells, takeD, fillD, keep, trim, envOf, Fin, aresl, aresv, resD, argOk, pickV, isP, deq, deqs, boundD, slD, lenD, isT, isSl, ptrIds, chunks, mn_min, mx_max, D.cells, splice_one, splice_more, Rbr_at, Rfr_at, frR, frV, frC, flatC, brwR, brwV, brwC, omap, leR, leV, leC, leL, leVL, h2]
    | (refine WCall.pf (h1) ?_ ?_ ?_ ?_; (focus (simp [oks, opnds, gS, gof, eget]; done)); (focus (simp [omap, brwV, brwC, evS, eget, strip, hget, leVL, leV, leC, leL, h2]; done)); (focus (simp [noV, noC, flatR, flatV, flatC, evS, eget, strip, h2]; done)))
    | (refine ⟨WCall.pf (h1) ?_ ?_ ?_ ?_, ?_⟩; (focus (simp [oks, opnds, gS, gof, eget]; done)); (focus (simp [omap, brwV, brwC, evS, eget, strip, hget, leVL, leV, leC, leL, h2]; done)); (focus (simp [noV, noC, flatR, flatV, flatC, evS, eget, strip, h2]; done)))
    | (with_reducible refine And.intro (And.intro ?_ ?_) ?_)
    | fail)
end Go.Proofs.Ytajimebannjofaa

set_option linter.unusedSimpArgs false
set_option linter.unusedVariables false
set_option maxRecDepth 100000
set_option maxHeartbeats 4000000
namespace Go.Proofs.Ytajimebannjofaa
open Go.RowKit
def placeM (z now : Int) : Int := if z / 8 = now / 8 then z % 8 else if z / 64 = now / 64 then 8 + z / 8 % 8 else if z / 512 = now / 512 then 16 + z / 64 % 8 else 24
def szM : Nat → Int
  | 0 => 8
  | 1 => 64
  | 2 => 512
  | _ => 4096
theorem wplace_code : cfun Try.prog [] 39 = some ⟨(.seq (.region 0 [⟨(some 4), (.mov (.k (.int .i64 0))), none⟩]) (.seq (.seq (.region 1 [⟨(some 5), (.mov (.k (.int .i64 0))), none⟩, ⟨(some 6), (.mov (.k (.int .i64 8))), none⟩]) (.block 0 (.loop (.seq (.seq (.region 2 [⟨(some 7), (.mov (.t 5)), none⟩, ⟨(some 8), (.bin .lss (.t 7) (.k (.int .i64 3))), none⟩]) (.cond 8 .skip (.exit 0))) (.seq (.block 1 (.seq (.draw 4 (.one true ⟨(some 13), (.mov (.t 0)), none⟩ (.one true ⟨(some 14), (.mov (.t 6)), none⟩ (.one true ⟨(some 15), (.bin .quo (.t 13) (.t 14)), none⟩ (.one true ⟨(some 16), (.mov (.t 1)), none⟩ (.one true ⟨(some 17), (.mov (.t 6)), none⟩ (.one true ⟨(some 18), (.bin .quo (.t 16) (.t 17)), none⟩ (.one true ⟨(some 19), (.bin .eql (.t 15) (.t 18)), none⟩ .done)))))))) (.cond 19 (.seq (.region 5 [⟨(some 20), (.mov (.t 5)), none⟩, ⟨(some 21), (.bin .mul (.k (.int .i64 8)) (.t 20)), none⟩, ⟨(some 22), (.mov (.t 0)), none⟩, ⟨(some 23), (.mov (.t 6)), none⟩, ⟨(some 24), (.bin .quo (.t 23) (.k (.int .i64 8))), none⟩, ⟨(some 25), (.bin .quo (.t 22) (.t 24)), none⟩, ⟨(some 26), (.bin .rem (.t 25) (.k (.int .i64 8))), none⟩, ⟨(some 27), (.bin .add (.t 21) (.t 26)), none⟩, ⟨(some 4), (.mov (.t 27)), none⟩]) .ret) .skip))) (.region 3 [⟨(some 9), (.mov (.t 5)), none⟩, ⟨(some 10), (.bin .add (.t 9) (.k (.int .i64 1))), none⟩, ⟨(some 11), (.mov (.t 6)), none⟩, ⟨(some 12), (.bin .mul (.t 11) (.k (.int .i64 8))), none⟩, ⟨(some 5), (.mov (.t 10)), none⟩, ⟨(some 6), (.mov (.t 12)), none⟩])))))) (.seq (.region 6 [⟨(some 4), (.mov (.k (.int .i64 24))), none⟩]) .ret))), [(.t 4)], 28⟩ := by kernel_rfl
theorem wplace_pf (z now : Int) (z0 : 0 ≤ z) (z1 : z ≤ 2199023255552) (n0 : 0 ≤ now) (n1 : now ≤ 2199023255552) : PF Try.prog 39 [I z, I now] (I (placeM z now)) := by
  refine PF.of follows_ok wplace_code (by simp) (by simp [argOk]) (by simp [noV, noC]) fun B hBN hB0 => acode_sound [0, 1, 4, 5, 6, 8, 19] [] _ _ _ ?_
  simp [AK_at, acode_seq, acode_region, acode_draw, acode_cond, ↓CB_t, ↓CB_f, CB_u, acode_block, acode_loop, acode_exit, acode_scope, acode_ret, acode_skip, seqQ_n, seqQ_e, seqQ_r, blockQ_n, blockQ_e, blockQ_r, TK_at, OK_at, SK_at, aops_nil, aops_cons, asch_done, asch_one, asch_two, asch_top, astep, aop_eq, isLoud, aloud, aloud1, isWrite, qv, evS, strip, gof, eget, hget, putO, eput, herase, oks, opnds, gS, afin, afin0, binD, arith, D.cells, takeD, fillD, keep, trim, envOf, Fin, aresl, aresv, resD, argOk, pickV, isP, deq, deqs, boundD, slD, lenD, isT, isSl, ptrIds, chunks, mn_min, mx_max, D.cells, splice_one, splice_more, Rbr_at, Rfr_at, frR, frV, frC, flatC, brwR, brwV, brwC, omap, leR, leV, leC, leL, leVL]
  refine W.loopS (fun k : Nat => ⟨[(6, I (szM k)), (5, I k), (4, I 0), (1, I now), (0, I z)], [], 0⟩)
    (fun n k => n = 3 - k ∧ k ≤ 3 ∧ (0 < k → ¬ z / 8 = now / 8) ∧ (1 < k → ¬ z / 64 = now / 64) ∧ (2 < k → ¬ z / 512 = now / 512)) ?_ ?_
  · exact ⟨_, 0, (Gh.ren [] (by simp [hB0]) (by simp [hB0] <;> decide) (by simp [eget, rnS, rnR, rnV, rnC, LtS, LtR, LtV, LtC, lget, szM]) (by simp [hget, rnO, rnC, LtO, LtC, lget, szM]) (.inr rfl)), rfl, by omega, by omega, by omega, by omega⟩
  rintro n k ⟨hn, hk, h1, h2, h3⟩
  refine acode_sound [0, 1, 4, 5, 6, 8, 19] [] _ _ _ ?_
  have i1 : InR (z / 8) := inW (by omega) (by omega)
  have i2 : InR (z / 64) := inW (by omega) (by omega)
  have i3 : InR (z / 512) := inW (by omega) (by omega)
  have j1 : InR (now / 8) := inW (by omega) (by omega)
  have j2 : InR (now / 64) := inW (by omega) (by omega)
  have j3 : InR (now / 512) := inW (by omega) (by omega)
  have m0 : InR (z % 8) := inW (by omega) (by omega)
  have m1 : InR (8 + z / 8 % 8) := inW (by omega) (by omega)
  have m2 : InR (16 + z / 64 % 8) := inW (by omega) (by omega)
  have p1 : 0 ≤ z / 8 := by omega
  have p2 : 0 ≤ z / 64 := by omega
  have r0 : InR 0 := inW (by omega) (by omega)
  have r8 : InR 8 := inW (by omega) (by omega)
  have r16 : InR 16 := inW (by omega) (by omega)
  have rz : InR z := inW (by omega) (by omega)
  have r1 : InR 1 := inW (by omega) (by omega)
  have r2 : InR 2 := inW (by omega) (by omega)
  have r3 : InR 3 := inW (by omega) (by omega)
  have r64 : InR 64 := inW (by omega) (by omega)
  have r512 : InR 512 := inW (by omega) (by omega)
  have r4096 : InR 4096 := inW (by omega) (by omega)
  rcases (show k = 0 ∨ k = 1 ∨ k = 2 ∨ k = 3 by omega) with rfl | rfl | rfl | rfl
  · by_cases c : z / 8 = now / 8
    · simp [AK_at, acode_seq, acode_region, acode_draw, acode_cond, ↓CB_t, ↓CB_f, CB_u, acode_block, acode_loop, acode_exit, acode_scope, acode_ret, acode_skip, seqQ_n, seqQ_e, seqQ_r, blockQ_n, blockQ_e, blockQ_r, TK_at, OK_at, SK_at, aops_nil, aops_cons, asch_done, asch_one, asch_two, asch_top, astep, aop_eq, isLoud, aloud, aloud1, isWrite, qv, evS, strip, gof, eget, hget, putO, eput, herase, oks, opnds, gS, afin, afin0, binD, arith, D.cells, takeD, fillD, keep, trim, envOf, Fin, aresl, aresv, resD, argOk, pickV, isP, deq, deqs, boundD, slD, lenD, isT, isSl, ptrIds, chunks, mn_min, mx_max, D.cells, splice_one, splice_more, Rbr_at, Rfr_at, frR, frV, frC, flatC, brwR, brwV, brwC, omap, leR, leV, leC, leL, leVL, szM, z0, n0, c, i1, j1, m0, placeM, r0, r1, rz, r64]
    · simp [AK_at, acode_seq, acode_region, acode_draw, acode_cond, ↓CB_t, ↓CB_f, CB_u, acode_block, acode_loop, acode_exit, acode_scope, acode_ret, acode_skip, seqQ_n, seqQ_e, seqQ_r, blockQ_n, blockQ_e, blockQ_r, TK_at, OK_at, SK_at, aops_nil, aops_cons, asch_done, asch_one, asch_two, asch_top, astep, aop_eq, isLoud, aloud, aloud1, isWrite, qv, evS, strip, gof, eget, hget, putO, eput, herase, oks, opnds, gS, afin, afin0, binD, arith, D.cells, takeD, fillD, keep, trim, envOf, Fin, aresl, aresv, resD, argOk, pickV, isP, deq, deqs, boundD, slD, lenD, isT, isSl, ptrIds, chunks, mn_min, mx_max, D.cells, splice_one, splice_more, Rbr_at, Rfr_at, frR, frV, frC, flatC, brwR, brwV, brwC, omap, leR, leV, leC, leL, leVL, szM, z0, n0, c, i1, j1, r1, r64]
      refine ⟨_, 1, (Gh.ren [] (by simp [hB0]) (by simp [hB0] <;> decide) (by simp [eget, rnS, rnR, rnV, rnC, LtS, LtR, LtV, LtC, lget, szM]) (by simp [hget, rnO, rnC, LtO, LtC, lget, szM]) (.inr rfl)), by omega, rfl, ?_⟩
      repeat' apply And.intro
      all_goals omega
  · have h1 := h1 (by omega)
    by_cases c : z / 64 = now / 64
    · simp [AK_at, acode_seq, acode_region, acode_draw, acode_cond, ↓CB_t, ↓CB_f, CB_u, acode_block, acode_loop, acode_exit, acode_scope, acode_ret, acode_skip, seqQ_n, seqQ_e, seqQ_r, blockQ_n, blockQ_e, blockQ_r, TK_at, OK_at, SK_at, aops_nil, aops_cons, asch_done, asch_one, asch_two, asch_top, astep, aop_eq, isLoud, aloud, aloud1, isWrite, qv, evS, strip, gof, eget, hget, putO, eput, herase, oks, opnds, gS, afin, afin0, binD, arith, D.cells, takeD, fillD, keep, trim, envOf, Fin, aresl, aresv, resD, argOk, pickV, isP, deq, deqs, boundD, slD, lenD, isT, isSl, ptrIds, chunks, mn_min, mx_max, D.cells, splice_one, splice_more, Rbr_at, Rfr_at, frR, frV, frC, flatC, brwR, brwV, brwC, omap, leR, leV, leC, leL, leVL, szM, z0, n0, h1, c, i1, i2, j2, m1, placeM, p1, r1, r8, r64]
    · simp [AK_at, acode_seq, acode_region, acode_draw, acode_cond, ↓CB_t, ↓CB_f, CB_u, acode_block, acode_loop, acode_exit, acode_scope, acode_ret, acode_skip, seqQ_n, seqQ_e, seqQ_r, blockQ_n, blockQ_e, blockQ_r, TK_at, OK_at, SK_at, aops_nil, aops_cons, asch_done, asch_one, asch_two, asch_top, astep, aop_eq, isLoud, aloud, aloud1, isWrite, qv, evS, strip, gof, eget, hget, putO, eput, herase, oks, opnds, gS, afin, afin0, binD, arith, D.cells, takeD, fillD, keep, trim, envOf, Fin, aresl, aresv, resD, argOk, pickV, isP, deq, deqs, boundD, slD, lenD, isT, isSl, ptrIds, chunks, mn_min, mx_max, D.cells, splice_one, splice_more, Rbr_at, Rfr_at, frR, frV, frC, flatC, brwR, brwV, brwC, omap, leR, leV, leC, leL, leVL, szM, z0, n0, h1, c, i2, j2, r2, r512]
      refine ⟨_, 2, (Gh.ren [] (by simp [hB0]) (by simp [hB0] <;> decide) (by simp [eget, rnS, rnR, rnV, rnC, LtS, LtR, LtV, LtC, lget, szM]) (by simp [hget, rnO, rnC, LtO, LtC, lget, szM]) (.inr rfl)), by omega, rfl, ?_⟩
      repeat' apply And.intro
      all_goals omega
  · have h1 := h1 (by omega)
    have h2 := h2 (by omega)
    by_cases c : z / 512 = now / 512
    · simp [AK_at, acode_seq, acode_region, acode_draw, acode_cond, ↓CB_t, ↓CB_f, CB_u, acode_block, acode_loop, acode_exit, acode_scope, acode_ret, acode_skip, seqQ_n, seqQ_e, seqQ_r, blockQ_n, blockQ_e, blockQ_r, TK_at, OK_at, SK_at, aops_nil, aops_cons, asch_done, asch_one, asch_two, asch_top, astep, aop_eq, isLoud, aloud, aloud1, isWrite, qv, evS, strip, gof, eget, hget, putO, eput, herase, oks, opnds, gS, afin, afin0, binD, arith, D.cells, takeD, fillD, keep, trim, envOf, Fin, aresl, aresv, resD, argOk, pickV, isP, deq, deqs, boundD, slD, lenD, isT, isSl, ptrIds, chunks, mn_min, mx_max, D.cells, splice_one, splice_more, Rbr_at, Rfr_at, frR, frV, frC, flatC, brwR, brwV, brwC, omap, leR, leV, leC, leL, leVL, szM, z0, n0, h1, h2, c, i2, i3, j3, m2, placeM, p2, r2, r16, r512, r64]
    · simp [AK_at, acode_seq, acode_region, acode_draw, acode_cond, ↓CB_t, ↓CB_f, CB_u, acode_block, acode_loop, acode_exit, acode_scope, acode_ret, acode_skip, seqQ_n, seqQ_e, seqQ_r, blockQ_n, blockQ_e, blockQ_r, TK_at, OK_at, SK_at, aops_nil, aops_cons, asch_done, asch_one, asch_two, asch_top, astep, aop_eq, isLoud, aloud, aloud1, isWrite, qv, evS, strip, gof, eget, hget, putO, eput, herase, oks, opnds, gS, afin, afin0, binD, arith, D.cells, takeD, fillD, keep, trim, envOf, Fin, aresl, aresv, resD, argOk, pickV, isP, deq, deqs, boundD, slD, lenD, isT, isSl, ptrIds, chunks, mn_min, mx_max, D.cells, splice_one, splice_more, Rbr_at, Rfr_at, frR, frV, frC, flatC, brwR, brwV, brwC, omap, leR, leV, leC, leL, leVL, szM, z0, n0, h1, h2, c, i3, j3, r3, r4096]
      refine ⟨_, 3, (Gh.ren [] (by simp [hB0]) (by simp [hB0] <;> decide) (by simp [eget, rnS, rnR, rnV, rnC, LtS, LtR, LtV, LtC, lget, szM]) (by simp [hget, rnO, rnC, LtO, LtC, lget, szM]) (.inr rfl)), by omega, rfl, ?_⟩
      repeat' apply And.intro
      all_goals omega
  · have h1 := h1 (by omega)
    have h2 := h2 (by omega)
    have h3 := h3 (by omega)
    simp [AK_at, acode_seq, acode_region, acode_draw, acode_cond, ↓CB_t, ↓CB_f, CB_u, acode_block, acode_loop, acode_exit, acode_scope, acode_ret, acode_skip, seqQ_n, seqQ_e, seqQ_r, blockQ_n, blockQ_e, blockQ_r, TK_at, OK_at, SK_at, aops_nil, aops_cons, asch_done, asch_one, asch_two, asch_top, astep, aop_eq, isLoud, aloud, aloud1, isWrite, qv, evS, strip, gof, eget, hget, putO, eput, herase, oks, opnds, gS, afin, afin0, binD, arith, D.cells, takeD, fillD, keep, trim, envOf, Fin, aresl, aresv, resD, argOk, pickV, isP, deq, deqs, boundD, slD, lenD, isT, isSl, ptrIds, chunks, mn_min, mx_max, D.cells, splice_one, splice_more, Rbr_at, Rfr_at, frR, frV, frC, flatC, brwR, brwV, brwC, omap, leR, leV, leC, leL, leVL, placeM, h1, h2, h3]
def fitsB (z id now : Int) : Bool := decide (now < z ∧ z ≤ now + 500 ∧ z ≤ 1099511627776 ∧ 0 ≤ id ∧ id < 200)
theorem wfits_code : cfun Try.prog [] 27 = some ⟨(.seq (.region 0 [⟨(some 2), (.box (.t 0)), none⟩, ⟨(some 4), (.mov (.k (.bool false))), none⟩]) (.seq (.region 1 [⟨(some 5), (.fad 0 (.t 2)), none⟩, ⟨(some 6), (.load false 1 (.t 5)), none⟩, ⟨(some 7), (.mov (.t 1)), none⟩, ⟨(some 8), (.bin .gtr (.t 6) (.t 7)), none⟩, ⟨(some 9), (.mov (.t 8)), none⟩, ⟨(some 10), (.fad 0 (.t 2)), (some (9, true))⟩, ⟨(some 11), (.load false 1 (.t 10)), (some (9, true))⟩, ⟨(some 12), (.mov (.t 1)), (some (9, true))⟩, ⟨(some 13), (.bin .add (.t 12) (.k (.int .i64 500))), (some (9, true))⟩, ⟨(some 14), (.bin .leq (.t 11) (.t 13)), (some (9, true))⟩, ⟨(some 15), (.pick (.t 9) (.t 14) (.k (.bool false))), none⟩, ⟨(some 16), (.mov (.t 15)), none⟩, ⟨(some 17), (.fad 0 (.t 2)), (some (16, true))⟩, ⟨(some 18), (.load false 1 (.t 17)), (some (16, true))⟩, ⟨(some 19), (.bin .leq (.t 18) (.k (.int .i64 1099511627776))), (some (16, true))⟩, ⟨(some 20), (.pick (.t 16) (.t 19) (.k (.bool false))), none⟩, ⟨(some 21), (.mov (.t 20)), none⟩, ⟨(some 22), (.fad 1 (.t 2)), (some (21, true))⟩, ⟨(some 23), (.load false 1 (.t 22)), (some (21, true))⟩, ⟨(some 24), (.bin .geq (.t 23) (.k (.int .i64 0))), (some (21, true))⟩, ⟨(some 25), (.pick (.t 21) (.t 24) (.k (.bool false))), none⟩, ⟨(some 26), (.mov (.t 25)), none⟩, ⟨(some 27), (.fad 1 (.t 2)), (some (26, true))⟩, ⟨(some 28), (.load false 1 (.t 27)), (some (26, true))⟩, ⟨(some 29), (.bin .lss (.t 28) (.k (.int .i64 200))), (some (26, true))⟩, ⟨(some 30), (.pick (.t 26) (.t 29) (.k (.bool false))), none⟩, ⟨(some 4), (.mov (.t 30)), none⟩]) .ret)), [(.t 4)], 31⟩ := by kernel_rfl
theorem wfits_pf (z id now : Int) (n0 : 0 ≤ now) (n1 : now ≤ 1099511627776) : PF Try.prog 27 [.agg [I z, I id], I now] (.bool (fitsB z id now)) := by
  have i1 : InR (now + 500) := inW (by omega) (by omega)
  refine PF.of follows_ok wfits_code (by simp) (by simp [argOk]) (by simp [noV, noC]) fun B hBN hB0 => acode_sound [0, 1, 2, 4] [] _ _ _ ?_
  simp [AK_at, acode_seq, acode_region, acode_draw, acode_cond, ↓CB_t, ↓CB_f, CB_u, acode_block, acode_loop, acode_exit, acode_scope, acode_ret, acode_skip, seqQ_n, seqQ_e, seqQ_r, blockQ_n, blockQ_e, blockQ_r, TK_at, OK_at, SK_at, aops_nil, aops_cons, asch_done, asch_one, asch_two, asch_top, astep, aop_eq, isLoud, aloud, aloud1, isWrite, qv, evS, strip, gof, eget, hget, putO, eput, herase, oks, opnds, gS, afin, afin0, binD, arith, D.cells, takeD, fillD, keep, trim, envOf, Fin, aresl, aresv, resD, argOk, pickV, isP, deq, deqs, boundD, slD, lenD, isT, isSl, ptrIds, chunks, mn_min, mx_max, D.cells, splice_one, splice_more, Rbr_at, Rfr_at, frR, frV, frC, flatC, brwR, brwV, brwC, omap, leR, leV, leC, leL, leVL, i1, fitsB]
  by_cases h1 : now < z <;> by_cases h2 : z ≤ now + 500 <;> by_cases h3 : z ≤ 1099511627776 <;> by_cases h4 : 0 ≤ id <;> by_cases h5 : id < 200 <;> simp [h1, h2, h3, h4, h5]
end Go.Proofs.Ytajimebannjofaa

set_option linter.unusedSimpArgs false
set_option linter.unusedVariables false
namespace Go.Proofs.Ytajimebannjofaa
open Go.RowKit

def ownR (n : Nat) : List (List D) := (List.range n).map fun i => [.own i]
def nestT (xss : List (List (List D))) : List (Nat × Ob) := (List.range xss.length).map fun p => (p, .row 2 (xss.getD p []))
/-- number 26: a number and a slice, number 25, of the slices 0, 1, .. -/
def nestC (now : Int) (xss : List (List (List D))) : List (Nat × Ob) := (26, .cells [I now, .own 25]) :: (25, .rowd 1 (ownR xss.length)) :: nestT xss
theorem hget_mapR (f : Nat → Ob) (j : Nat) : ∀ l : List Nat, hget (l.map fun p => (p, f p)) j = if j ∈ l then some (f j) else none
  | [] => by simp [hget]
  | p :: t => by
    simp only [List.map_cons, hget, hget_mapR f j t]
    by_cases h : j = p
    · subst h; simp
    · simp [h]
theorem hget_nestT (xss : List (List (List D))) (j : Nat) : hget (nestT xss) j = if j < xss.length then some (.row 2 (xss.getD j [])) else none := by
  unfold nestT
  rw [hget_mapR fun p => .row 2 (xss.getD p [])]
  simp
theorem hget_nest26 (now : Int) (xss : List (List (List D))) : hget (nestC now xss) 26 = some (.cells [I now, .own 25]) := rfl
theorem hget_nest25 (now : Int) (xss : List (List (List D))) : hget (nestC now xss) 25 = some (.rowd 1 (ownR xss.length)) := rfl
theorem hget_nestp (now : Int) (xss : List (List (List D))) (p : Nat) (h : p < xss.length) (h25 : xss.length ≤ 25) : hget (nestC now xss) p = some (.row 2 (xss.getD p [])) := by
  unfold nestC
  simp only [hget]
  rw [if_neg (by omega), if_neg (by omega), hget_nestT, if_pos h]
theorem hget_nestx (now : Int) (xss : List (List (List D))) (j : Nat) (h25 : xss.length ≤ 25) (h : 27 ≤ j) : hget (nestC now xss) j = none := by
  unfold nestC
  simp only [hget]
  rw [if_neg (by omega), if_neg (by omega), hget_nestT, if_neg (by omega)]
theorem nest_mem {now : Int} {xss : List (List (List D))} {p : Nat × Ob} (h : p ∈ nestC now xss) : p = (26, .cells [I now, .own 25]) ∨ p = (25, .rowd 1 (ownR xss.length)) ∨ p.1 < xss.length ∧ p = (p.1, .row 2 (xss.getD p.1 [])) := by
  unfold nestC nestT at h
  rcases List.mem_cons.1 h with h | h
  · exact .inl h
  rcases List.mem_cons.1 h with h | h
  · exact .inr (.inl h)
  obtain ⟨q, hq, rfl⟩ := List.mem_map.1 h
  exact .inr (.inr ⟨List.mem_range.1 hq, rfl⟩)
/-- the same under other numbers -/
structure NestOk (H : List (Nat × Ob)) (x' l' : Nat) (ids : List Nat) (now : Int) (xss : List (List (List D))) : Prop where
  len : ids.length = xss.length
  hx : hget H x' = some (.cells [I now, .own l'])
  hl : hget H l' = some (.rowd 1 (ids.map fun i => [.own i]))
  hn : ∀ p, p < xss.length → hget H (ids.getD p 0) = some (.row 2 (xss.getD p []))
  nd : ids.Nodup
theorem nestOk_self (now : Int) (xss : List (List (List D))) (h25 : xss.length ≤ 25) : NestOk (nestC now xss) 26 25 (List.range xss.length) now xss :=
  ⟨by simp, rfl, rfl, fun p hp => by
    have : (List.range xss.length).getD p 0 = p := by simp [List.getD_eq_getElem?_getD, List.getElem?_range, hp]
    rw [this]; exact hget_nestp now xss p hp h25, List.nodup_range⟩
def canL (ids : List Nat) (l' x' : Nat) (es : List Nat) (j : Nat) : Nat := if j < 25 then ids.getD j 0 else if j = 25 then l' else if j = 26 then x' else es.getD (j - 27) 0

theorem rnC_congr {ρ ρ' : Nat → Nat} {n : Nat} (h : ∀ id, id < n → ρ id = ρ' id) {d : D} (hl : LtC n d) : rnC ρ d = rnC ρ' d := by
  cases d with
  | own id => simp only [rnC, h id hl]
  | ptr id j => simp only [rnC, h id hl]
  | pel id i sz j => simp only [rnC, h id hl]
  | sl id sz off len cap => simp only [rnC, h id hl]
  | clo f ids => simp only [rnC]; congr 1; exact List.map_congr_left fun i hi => h i (hl i hi)
  | _ => rfl
theorem rnV_congr {ρ ρ' : Nat → Nat} {n : Nat} (h : ∀ id, id < n → ρ id = ρ' id) {d : D} (hl : LtV n d) : rnV ρ d = rnV ρ' d := by
  cases d with
  | agg ds => simp only [rnV]; congr 1; exact List.map_congr_left fun x hx => rnC_congr h (hl x hx)
  | own id => exact rnC_congr (d := .own id) h hl
  | ptr id j => exact rnC_congr (d := .ptr id j) h hl
  | pel id i sz j => exact rnC_congr (d := .pel id i sz j) h hl
  | sl id sz off len cap => exact rnC_congr (d := .sl id sz off len cap) h hl
  | clo f ids => exact rnC_congr (d := .clo f ids) h hl
  | _ => rfl
theorem rnR_congr {ρ ρ' : Nat → Nat} {n : Nat} (h : ∀ id, id < n → ρ id = ρ' id) {d : D} (hl : LtR n d) : rnR ρ d = rnR ρ' d := by
  cases d with
  | tup ds => simp only [rnR]; congr 1; exact List.map_congr_left fun x hx => rnV_congr h (hl x hx)
  | agg ds => exact rnV_congr (d := .agg ds) h hl
  | own id => exact rnV_congr (d := .own id) h hl
  | ptr id j => exact rnV_congr (d := .ptr id j) h hl
  | pel id i sz j => exact rnV_congr (d := .pel id i sz j) h hl
  | sl id sz off len cap => exact rnV_congr (d := .sl id sz off len cap) h hl
  | clo f ids => exact rnV_congr (d := .clo f ids) h hl
  | _ => rfl
theorem rnO_congr {ρ ρ' : Nat → Nat} {n : Nat} (h : ∀ id, id < n → ρ id = ρ' id) {ob : Ob} (hl : LtO n ob) : rnO ρ ob = rnO ρ' ob := by
  cases ob with
  | cells ds => simp only [rnO]; congr 1; exact List.map_congr_left fun x hx => rnC_congr h (hl x hx)
  | rowd sz xs => simp only [rnO]; congr 1; exact List.map_congr_left fun r hr => List.map_congr_left fun x hx => rnC_congr h (hl r hr x hx)
  | blk sz xs => simp only [rnO]; congr 1; exact List.map_congr_left fun r hr => List.map_congr_left fun x hx => rnC_congr h (hl r hr x hx)
  | it m _ _ _ => simp only [rnO, h m hl]
  | _ => rfl

section
variable {B : Base} {st : St}
/-- new numbers by a rule -/
theorem Gh.renF (ρ : Nat → Nat) (env1 : List (Nat × D)) (H1 : List (Nat × Ob)) (n1 : Nat) (h0 : B.n0 = 0) (he : ∀ p ∈ env1, eget st.env p.1 = rnR ρ p.2 ∧ LtR n1 p.2 ∧ ∀ g e, p.2 ≠ .opt g e)
    (hh : ∀ p ∈ H1, p.1 < n1 ∧ LtO n1 p.2 ∧ hget st.heap (ρ p.1) = some (rnO ρ p.2)) (hnd : (H1.map fun p => ρ p.1).Nodup) : Gh B st ⟨env1, H1, n1⟩ := by
  have hlg : ∀ id, id < n1 → lget ((List.range n1).map ρ) id = ρ id := fun id hid => by
    simp [lget, List.getD_eq_getElem?_getD, List.getElem?_range, hid]
  refine Gh.ren ((List.range n1).map ρ) (by simp [h0]) (fun id hid => by omega) (fun p hp => ?_) (fun p hp => ?_) (.inl ?_)
  · obtain ⟨h1, h2, h3⟩ := he p hp
    have e1 : rnS (lget ((List.range n1).map ρ)) p.2 = rnR (lget ((List.range n1).map ρ)) p.2 := by
      generalize p.2 = d at *
      cases d <;> first | rfl | exact absurd rfl (h3 _ _)
    have e2 : LtS n1 p.2 := by
      generalize p.2 = d at *
      cases d <;> first | exact h2 | exact absurd rfl (h3 _ _)
    exact ⟨by rw [h1, e1]; exact (rnR_congr hlg h2).symm, e2⟩
  · obtain ⟨h1, h2, h3⟩ := hh p hp
    exact ⟨h1, h2, by rw [hlg _ h1, h3, rnO_congr hlg h2]⟩
  · have : H1.map (fun p => lget ((List.range n1).map ρ) p.1) = H1.map fun p => ρ p.1 := List.map_congr_left fun p hp => hlg _ (hh p hp).1
    show (H1.map fun p => lget ((List.range n1).map ρ) p.1).Nodup
    rw [this]; exact hnd
/-- the usual numbers -/
theorem Gh.canon {env1 : List (Nat × D)} {Hx : List (Nat × Ob)} {x' l' : Nat} {ids es : List Nat} {now : Int} {xss : List (List (List D))} (n1 : Nat) (h0 : B.n0 = 0) (hn : NestOk st.heap x' l' ids now xss) (h25 : xss.length ≤ 25) (h27 : 27 ≤ n1)
    (he : ∀ p ∈ env1, eget st.env p.1 = rnR (canL ids l' x' es) p.2 ∧ LtR n1 p.2 ∧ ∀ g e, p.2 ≠ .opt g e)
    (hx : ∀ p ∈ Hx, 27 ≤ p.1 ∧ p.1 < n1 ∧ LtO n1 p.2 ∧ hget st.heap (canL ids l' x' es p.1) = some (rnO (canL ids l' x' es) p.2))
    (hnx : ∀ p ∈ Hx, canL ids l' x' es p.1 ≠ x' ∧ canL ids l' x' es p.1 ≠ l' ∧ canL ids l' x' es p.1 ∉ ids) (hnd : (Hx.map fun p => canL ids l' x' es p.1).Nodup) : Gh B st ⟨env1, Hx ++ nestC now xss, n1⟩ := by
  have c26 : canL ids l' x' es 26 = x' := rfl
  have c25 : canL ids l' x' es 25 = l' := rfl
  have cp : ∀ p, p < xss.length → canL ids l' x' es p = ids.getD p 0 := fun p hp => by unfold canL; rw [if_pos (by omega)]
  have hmem : ∀ p, p < xss.length → ids.getD p 0 ∈ ids := fun p hp => by
    rw [List.getD_eq_getElem?_getD, List.getElem?_eq_getElem (by rw [hn.len]; exact hp)]
    exact List.getElem_mem _
  have hxl : x' ≠ l' := fun e => by have := hn.hx; rw [e, hn.hl] at this; cases this
  have hxi : x' ∉ ids := fun hm => by
    obtain ⟨i, hi⟩ := List.getElem?_of_mem hm
    have hil := (List.getElem?_eq_some_iff.1 hi).1
    have := hn.hn i (by rw [← hn.len]; exact hil)
    rw [List.getD_eq_getElem?_getD, hi, Option.getD_some, hn.hx] at this
    cases this
  have hli : l' ∉ ids := fun hm => by
    obtain ⟨i, hi⟩ := List.getElem?_of_mem hm
    have hil := (List.getElem?_eq_some_iff.1 hi).1
    have := hn.hn i (by rw [← hn.len]; exact hil)
    rw [List.getD_eq_getElem?_getD, hi, Option.getD_some, hn.hl] at this
    cases this
  have hrow : (ownR xss.length).map (List.map (rnC (canL ids l' x' es))) = ids.map fun i => [.own i] := by
    apply List.ext_getElem?
    intro i
    unfold ownR
    rw [List.getElem?_map, List.getElem?_map, List.getElem?_map]
    by_cases hi : i < xss.length
    · have h1 := cp i hi
      rw [List.getElem?_range hi, List.getElem?_eq_getElem (by rw [hn.len]; exact hi)]
      rw [List.getD_eq_getElem?_getD, List.getElem?_eq_getElem (by rw [hn.len]; exact hi)] at h1
      simp only [Option.map_some, List.map_cons, List.map_nil, rnC]
      rw [h1]; rfl
    · rw [List.getElem?_eq_none (by simp; omega), List.getElem?_eq_none (by rw [hn.len]; omega)]; rfl
  refine Gh.renF (canL ids l' x' es) env1 (Hx ++ nestC now xss) n1 h0 he (fun p hp => ?_) ?_
  · rcases List.mem_append.1 hp with hp | hp
    · exact ⟨(hx p hp).2.1, (hx p hp).2.2⟩
    · rcases nest_mem hp with rfl | rfl | ⟨h1, h2⟩
      · exact ⟨by show 26 < n1; omega, fun d hd => by simp at hd; rcases hd with rfl | rfl <;> (try trivial); show 25 < n1; omega, hn.hx⟩
      · refine ⟨by show 25 < n1; omega, fun r hr d hd => ?_, ?_⟩
        · unfold ownR at hr
          obtain ⟨i, hi, rfl⟩ := List.mem_map.1 hr
          have := List.mem_range.1 hi
          simp at hd
          subst hd
          show i < n1
          omega
        · show hget st.heap l' = some (.rowd 1 _)
          rw [hrow]; exact hn.hl
      · rw [h2]
        refine ⟨by show p.1 < n1; omega, trivial, ?_⟩
        show hget st.heap (canL ids l' x' es p.1) = some (.row 2 _)
        rw [cp _ h1]; exact hn.hn _ h1
  · rw [List.map_append, List.nodup_append]
    have hN : (nestC now xss).map (fun p => canL ids l' x' es p.1) = x' :: l' :: ids := by
      unfold nestC nestT
      simp only [List.map_cons, c26, c25, List.map_map]
      congr 2
      apply List.ext_getElem?
      intro i
      rw [List.getElem?_map]
      by_cases hi : i < xss.length
      · rw [List.getElem?_range hi, List.getElem?_eq_getElem (by rw [hn.len]; exact hi)]
        have h1 := cp i hi
        rw [List.getD_eq_getElem?_getD, List.getElem?_eq_getElem (by rw [hn.len]; exact hi)] at h1
        simpa using h1
      · rw [List.getElem?_eq_none (by simp; omega), List.getElem?_eq_none (by rw [hn.len]; omega)]; rfl
    rw [hN]
    refine ⟨hnd, ?_, fun a ha b hb => ?_⟩
    · refine List.nodup_cons.2 ⟨?_, List.nodup_cons.2 ⟨hli, hn.nd⟩⟩
      intro hm
      rcases List.mem_cons.1 hm with h | h
      · exact hxl h
      · exact hxi h
    · obtain ⟨p, hp, rfl⟩ := List.mem_map.1 ha
      obtain ⟨g1, g2, g3⟩ := hnx p hp
      rcases List.mem_cons.1 hb with rfl | hb
      · exact g1
      rcases List.mem_cons.1 hb with rfl | hb
      · exact g2
      · intro e; rw [e] at g3; exact g3 hb
end
end Go.Proofs.Ytajimebannjofaa

set_option linter.unusedSimpArgs false
set_option linter.unusedVariables false
namespace Go.Proofs.Ytajimebannjofaa
open Go.RowKit

/-- the usual numbers but for the slices in the slice -/
def canK (ids : List Nat) (j : Nat) : Nat := if j < 25 then ids.getD j 0 else j
section
variable {B : Base} {st : St}
theorem Gh.canonK {env1 : List (Nat × D)} {Hx : List (Nat × Ob)} {ids : List Nat} {now : Int} {xss : List (List (List D))} (n1 : Nat) (h0 : B.n0 = 0) (hn : NestOk st.heap 26 25 ids now xss) (h25 : xss.length ≤ 25) (h27 : 27 ≤ n1)
    (he : ∀ p ∈ env1, eget st.env p.1 = rnR (canK ids) p.2 ∧ LtR n1 p.2 ∧ ∀ g e, p.2 ≠ .opt g e)
    (hx : ∀ p ∈ Hx, 27 ≤ p.1 ∧ p.1 < n1 ∧ LtO n1 p.2 ∧ hget st.heap p.1 = some (rnO (canK ids) p.2))
    (hids : ∀ i ∈ ids, i < 25 ∨ n1 ≤ i) (hnd : (Hx.map fun p => p.1).Nodup) : Gh B st ⟨env1, Hx ++ nestC now xss, n1⟩ := by
  have hc : ∀ j, j < n1 → canL ids 25 26 ((List.range (n1 - 27)).map (27 + ·)) j = canK ids j := fun j hj => by
    unfold canL canK
    by_cases h1 : j < 25
    · rw [if_pos h1, if_pos h1]
    · rw [if_neg h1, if_neg h1]
      by_cases h2 : j = 25
      · rw [if_pos h2, h2]
      · rw [if_neg h2]
        by_cases h3 : j = 26
        · rw [if_pos h3, h3]
        · rw [if_neg h3, List.getD_eq_getElem?_getD, List.getElem?_map, List.getElem?_range (by omega)]
          simp; omega
  have hself : ∀ j, 25 ≤ j → canK ids j = j := fun j hj => by unfold canK; rw [if_neg (by omega)]
  refine Gh.canon n1 h0 hn h25 h27 (es := (List.range (n1 - 27)).map (27 + ·)) (fun p hp => ?_) (fun p hp => ?_) (fun p hp => ?_) ?_
  · obtain ⟨h1, h2, h3⟩ := he p hp
    exact ⟨by rw [h1]; exact (rnR_congr hc h2).symm, h2, h3⟩
  · obtain ⟨h1, h2, h3, h4⟩ := hx p hp
    exact ⟨h1, h2, h3, by rw [hc _ h2, hself _ (by omega), h4]; exact congrArg some (rnO_congr hc h3).symm⟩
  · obtain ⟨h1, h2, h3, h4⟩ := hx p hp
    rw [hc _ h2, hself _ (by omega)]
    exact ⟨by omega, by omega, fun hm => by have := hids _ hm; omega⟩
  · have : Hx.map (fun p => canL ids 25 26 ((List.range (n1 - 27)).map (27 + ·)) p.1) = Hx.map fun p => p.1 := List.map_congr_left fun p hp => by
      obtain ⟨h1, h2, h3, h4⟩ := hx p hp
      rw [hc _ h2, hself _ (by omega)]
    rw [this]; exact hnd
/-- rows of data are rows -/
theorem Gh.rowd (id sz : Nat) (xs : List (List D)) (hh : hget st.heap id = some (.row sz xs)) : Gh B st ⟨st.env, eput st.heap id (.rowd sz xs), st.nx⟩ := by
  intro s Z a w hr
  have hob := hr.h.ob _ _ hh
  have hlt := hr.h.lt _ _ hh
  refine ⟨s, Z, hr.env, hr.elt, hr.size, hr.defers, ?_⟩
  have hnew : ObOk s Z w (.rowd sz xs) (s id) := by
    obtain ⟨h1, h2, h3⟩ := hob
    refine ⟨h1, h2, ?_⟩
    rcases h3 with h3 | ⟨g, cap, cur, e, q1, q2, q3, q4, q5, q6⟩
    · exact .inl h3
    · exact .inr ⟨g, cap, cur, e, q1, q2, q3, q4, q5, fun i row j d hi hj => VC.of_vt (q6 i row j d hi hj)⟩
  have hl : LtO st.nx (.rowd sz xs) := by
    intro row hrow d hd
    obtain ⟨h1, h2, h3⟩ := hob
    rcases h3 with ⟨rfl, _⟩ | ⟨g, cap, cur, e, q1, q2, q3, q4, q5, q6⟩
    · cases hrow
    · obtain ⟨i, hi⟩ := List.getElem?_of_mem hrow
      obtain ⟨j, hj⟩ := List.getElem?_of_mem hd
      exact VT.ltN _ (q6 i row j d hi hj)
  have hhe : ∀ i ob, hget (eput st.heap id (.rowd sz xs)) i = some ob → ∃ ob0, hget st.heap i = some ob0 := fun i ob h => by
    rw [hget_eput] at h
    split at h
    · rename_i e; subst e; exact ⟨_, hh⟩
    · exact ⟨_, h⟩
  refine ⟨fun i ob h => ?_, fun i ob h => ?_, fun i i' ob ob' b h h' hne hb => ?_, hr.h.zok, fun i ob b o h hb => ?_, fun i ob b h hb => ?_, hr.h.fr, hr.h.n0, hr.h.bs, hr.h.bz, hr.h.bn⟩
  · have h9 : hget (eput st.heap id (.rowd sz xs)) i = some ob := h
    rw [hget_eput] at h9
    by_cases e : i = id
    · rw [if_pos e] at h9; rw [e, ← Option.some.inj h9]; exact hnew
    · rw [if_neg e] at h9; exact hr.h.ob i ob h9
  · have h9 : hget (eput st.heap id (.rowd sz xs)) i = some ob := h
    rw [hget_eput] at h9
    by_cases e : i = id
    · rw [if_pos e] at h9; rw [e, ← Option.some.inj h9]; exact ⟨hlt.1, hl⟩
    · rw [if_neg e] at h9; exact hr.h.lt i ob h9
  · obtain ⟨o1, h1⟩ := hhe i ob h
    obtain ⟨o2, h2⟩ := hhe i' ob' h'
    exact hr.h.apart i i' o1 o2 b h1 h2 hne hb
  · obtain ⟨o1, h1⟩ := hhe i ob h
    exact hr.h.zap i o1 b o h1 hb
  · obtain ⟨o1, h1⟩ := hhe i ob h
    exact hr.h.mine i o1 b h1 hb
/-- nothing in a cell of rows becomes an own slice of nothing -/
theorem Gh.adoptR (id i sz : Nat) (h0 : 0 < sz) (rows : List (List D)) (hh : hget st.heap id = some (.rowd 1 rows)) (hk : rows[i]? = some [.nil0]) : Gh B st ⟨st.env, eput (eput st.heap st.nx (.row sz [])) id (.rowd 1 (rows.set i [.own st.nx])), st.nx + 1⟩ := by
  intro s Z a w hr
  obtain ⟨hp, hr1, hob⟩ := hr.h.ob _ _ hh
  have hlt := hr.h.lt _ _ hh
  have hil : i < rows.length := (List.getElem?_eq_some_iff.1 hk).1
  rcases hob with ⟨rfl, _⟩ | ⟨g, cap, cur, e, hs0, hg, hn, hm, hsz, hc⟩
  · simp at hil
  have hv := hc i _ 0 _ hk rfl
  have hv : VT Z .nil0 (cur.getD (i * 1 + 0) undef) := hv
  generalize hav : cur.getD (i * 1 + 0) undef = v at hv
  cases hv with
  | nil0 q =>
  have hne : id ≠ st.nx := by omega
  have hH := hr.h.new (w' := w) (v := .slice q 0 0) (ob := .row sz []) (Below.refl _ _) ⟨h0, (fun _ h => by cases h), .inl ⟨rfl, q, rfl⟩⟩ trivial (fun k hk => by cases q <;> simp [blk] at hk)
  have hh' : hget (eput st.heap st.nx (.row sz [])) id = some (.rowd 1 rows) := by rw [hget_eput, if_neg hne]; exact hh
  have hs : upd s st.nx (.slice q 0 0) id = s id := upd_lt _ _ _ _ hlt.1
  have hcap0 : cap ≠ 0 := by omega
  have hH2 : RelH B (upd s st.nx (.slice q 0 0)) Z (eput (eput st.heap st.nx (.row sz [])) id (.rowd 1 (rows.set i [.own st.nx]))) (st.nx + 1) w := by
    refine hH.write (k := g) hh' (by rw [hs, hs0]; simp [blk, hcap0]) ⟨rfl, rfl, rfl, rfl, fun _ _ => rfl⟩ ?_ ?_
    · refine ⟨hp, fun r hr' => ?_, .inr ⟨g, cap, cur, e, by rw [hs, hs0]; simp, hg, by simpa using hn, hm, hsz, fun i' row j x hi hj => ?_⟩⟩
      · rcases List.mem_or_eq_of_mem_set hr' with h | rfl
        · exact hr1 r h
        · rfl
      · rw [List.getElem?_set] at hi
        split at hi
        · rename_i e'
          subst e'
          · simp only [Option.some.injEq] at hi
            subst hi
            match j, hj with
            | 0, hj =>
              simp at hj
              subst hj
              rw [hav]
              exact ⟨(upd_same _ _ _).symm, .inl ⟨q, 0, 0, rfl⟩⟩
            | j + 1, hj => simp at hj
        · exact VC.mono (fun _ _ _ h => h) (upd_lt s st.nx _) (hlt.2 row (List.mem_of_getElem? hi) x (List.mem_of_getElem? hj)) (hc i' row j x hi hj)
    · intro row hrow x hx
      rcases List.mem_or_eq_of_mem_set hrow with h | rfl
      · exact (hlt.2 row h x hx).mono (Nat.le_succ _)
      · simp at hx; subst hx; exact Nat.lt_succ_self _
  exact ⟨_, Z, fun j => (hr.env j).mono (fun _ _ _ h => h) (upd_lt s st.nx _) (hr.elt j), fun j => (hr.elt j).mono (Nat.le_succ _), hr.size, hr.defers, hH2⟩
end
/-- fewer variables -/
theorem Gh.envs {B : Base} {env env1 : List (Nat × D)} {H : List (Nat × Ob)} {nx : Nat} (he : ∀ p ∈ env1, eget env p.1 = p.2) : Gh B ⟨env, H, nx⟩ ⟨env1, H, nx⟩ := by
  intro s Z a w hr
  have hE : ∀ k, eget env1 k = .any ∨ eget env1 k = eget env k := fun k => by
    have : ∀ l : List (Nat × D), eget l k = .any ∨ (k, eget l k) ∈ l := fun l => by
      induction l with
      | nil => exact .inl rfl
      | cons p l ih =>
        obtain ⟨j, d⟩ := p
        simp only [eget]
        split
        · rename_i e; subst e; exact .inr (List.mem_cons_self ..)
        · exact ih.imp id (List.mem_cons_of_mem _)
    rcases this env1 with h | h
    · exact .inl h
    · exact .inr (he _ h).symm
  refine ⟨s, Z, fun k => ?_, fun k => ?_, hr.size, hr.defers, hr.h⟩
  · show VS s Z (eget env1 k) _
    rcases hE k with h | h
    · rw [h]; trivial
    · rw [h]; exact hr.env k
  · show LtS nx (eget env1 k)
    rcases hE k with h | h
    · rw [h]; trivial
    · rw [h]; exact hr.elt k
theorem Gh.envH {B : Base} {env env1 : List (Nat × D)} {H H1 : List (Nat × Ob)} {nx nx1 : Nat} (he : ∀ p ∈ env1, eget env p.1 = p.2) (hH : H1 = H) (hn : nx1 = nx) : Gh B ⟨env, H, nx⟩ ⟨env1, H1, nx1⟩ := by
  subst hH hn; exact Gh.envs he
theorem hputs_fwd {ρ : Nat → Nat} {H : List (Nat × Ob)} {id : Nat} {ob : Ob} : ∀ {L : List (Nat × Ob)}, (∀ p ∈ L, ρ p.1 = ρ id → p.1 = id) → hget L id = some ob → hget (hputs ρ L H) (ρ id) = some (rnO ρ ob)
  | [], _, h => by cases h
  | (k, o) :: L, hi, h => by
    simp only [hputs, hget_eput]
    simp only [hget] at h
    by_cases e : id = k
    · subst e
      rw [if_pos rfl] at h ⊢
      cases h; rfl
    · rw [if_neg e] at h
      rw [if_neg (fun e2 => e (hi _ List.mem_cons_self e2.symm).symm)]
      exact hputs_fwd (fun p hp => hi p (List.mem_cons_of_mem _ hp)) h
theorem hputs_out {ρ : Nat → Nat} {H : List (Nat × Ob)} {k : Nat} : ∀ {L : List (Nat × Ob)}, (∀ p ∈ L, ρ p.1 ≠ k) → hget (hputs ρ L H) k = hget H k
  | [], _ => rfl
  | (j, o) :: L, hi => by
    simp only [hputs, hget_eput]
    rw [if_neg (fun e => hi _ List.mem_cons_self e.symm)]
    exact hputs_out fun p hp => hi p (List.mem_cons_of_mem _ hp)
theorem herases_out {k : Nat} : ∀ (l : List Nat) (H : List (Nat × Ob)), k ∉ l → hget (herases l H) k = hget H k
  | [], _, _ => rfl
  | j :: l, H, h => by
    simp only [herases]
    rw [herases_out l _ (fun hm => h (List.mem_cons_of_mem _ hm)), hget_herase, if_neg (fun e => h (by rw [e]; exact List.mem_cons_self))]
/-- what a function that is handed such a struct leaves -/
def RN (res : D) (now : Int) (xss : List (List (List D))) (d : D) (H' : List (Nat × Ob)) (_ : Nat) : Prop := d = res ∧ ∃ ids, NestOk H' 26 25 ids now xss ∧ ∀ i ∈ ids, i < 25 ∨ 27 ≤ i
/-- what a caller knows then -/
def KN (st : St) (env' : List (Nat × D)) (now : Int) (xss : List (List (List D))) (st' : St) : Prop :=
  st'.env = env' ∧ st.nx ≤ st'.nx ∧ (∃ ids, NestOk st'.heap 26 25 ids now xss ∧ ∀ i ∈ ids, i < 25 ∨ st.nx ≤ i) ∧ ∀ j, 27 ≤ j → j < st.nx → hget st'.heap j = hget st.heap j
theorem WCall.nest {P : Program} {sb : Bool} {B : Base} {st : St} {K : St → Prop} {f : FuncId} {as_ : List Opd} {ds0 : List D} {dst : Option Nat} {now now' : Int} {xss xss' : List (List (List D))} {res : D}
    (hf : HF P f ds0 (nestC now xss) 27 (RN res now' xss')) (h25 : xss.length ≤ 25) (hok : oks st.env (.call f as_) = true) (hsb : sb = false) (hnx : 27 ≤ st.nx) (hds : as_.map (evS st.env) = ds0) (hao : ds0.all argOk = true) (hdl : ∀ d ∈ ds0, LtV 27 d)
    (hH : ∀ j, j < 27 → hget st.heap j = hget (nestC now xss) j) (hres : LtR 0 res) (hK : ∀ st', KN st (putO st.env dst res) now' xss' st' → K st') : WCall P sb B (.call f as_) dst st K := by
  have hlow : ∀ id, id < 27 → rho (List.range 27) 27 st.nx id = id := fun id hid => by
    unfold rho; rw [if_pos hid, List.getD_eq_getElem?_getD, List.getElem?_range hid]; rfl
  have hhigh : ∀ id, ¬ id < 27 → rho (List.range 27) 27 st.nx id = st.nx + (id - 27) := fun id hid => by unfold rho; rw [if_neg hid]
  have hinj : ∀ i j, rho (List.range 27) 27 st.nx i = rho (List.range 27) 27 st.nx j → i = j := fun i j e => by
    by_cases hi : i < 27 <;> by_cases hj : j < 27
    · rw [hlow i hi, hlow j hj] at e; exact e
    · rw [hlow i hi, hhigh j hj] at e; omega
    · rw [hhigh i hi, hlow j hj] at e; omega
    · rw [hhigh i hi, hhigh j hj] at e; omega
  have hself : ∀ id, id < 27 → rho (List.range 27) 27 st.nx id = lget [] id := fun id hid => by rw [hlow id hid]; rfl
  refine WCall.hf (List.range 27) hf hok hsb (by simp) List.nodup_range (fun k hk => by have := List.mem_range.1 hk; omega) ?_ hao hdl ?_ ?_
  · rw [hds]
    refine ((List.map_congr_left fun d hd => ?_).trans (List.map_id ds0)).symm
    rw [rnV_congr hself (hdl d hd), rnV_id]; rfl
  · intro p hp
    have hp27 : p.1 < 27 ∧ LtO 27 p.2 ∧ hget (nestC now xss) p.1 = some p.2 := by
      rcases nest_mem hp with rfl | rfl | ⟨h1, h2⟩
      · exact ⟨by show 26 < 27; omega, fun d hd => by simp at hd; rcases hd with rfl | rfl <;> (try trivial); show 25 < 27; omega, rfl⟩
      · refine ⟨by show 25 < 27; omega, fun r hr d hd => ?_, rfl⟩
        unfold ownR at hr
        obtain ⟨i, hi, rfl⟩ := List.mem_map.1 hr
        have := List.mem_range.1 hi
        simp at hd
        subst hd
        show i < 27
        omega
      · refine ⟨by omega, by rw [h2]; trivial, ?_⟩
        rw [h2]; exact hget_nestp now xss p.1 h1 h25
    obtain ⟨h1, h2, h3⟩ := hp27
    exact ⟨h1, h2, by rw [hlow _ h1, hH _ h1, h3, rnO_congr hself h2, rnO_id]⟩
  · rintro d H' nx' ⟨rfl, ids, hn, hids⟩
    refine hK _ ⟨?_, by show st.nx ≤ st.nx + (nx' - 27); omega, ⟨ids.map (rho (List.range 27) 27 st.nx), ⟨by simp [hn.len], ?_, ?_, fun p hp => ?_, ?_⟩, ?_⟩, fun j h1 h2 => ?_⟩
    · show putO st.env dst (rnR (rho (List.range 27) 27 st.nx) d) = _
      congr 1
      exact (rnR_congr (n := 0) (fun id h => by omega) hres).trans (rnR_id d)
    · have := hputs_fwd (H := herases (List.range 27) st.heap) (fun p hp e => hinj _ _ e) hn.hx
      rw [hlow 26 (by decide)] at this
      rw [this]
      simp [rnO, rnC, hlow 25 (by decide)]
    · have := hputs_fwd (H := herases (List.range 27) st.heap) (fun p hp e => hinj _ _ e) hn.hl
      rw [hlow 25 (by decide)] at this
      rw [this]
      simp [rnO, rnC]
    · have := hputs_fwd (H := herases (List.range 27) st.heap) (fun p hp e => hinj _ _ e) (hn.hn p hp)
      have e : (ids.map (rho (List.range 27) 27 st.nx)).getD p 0 = rho (List.range 27) 27 st.nx (ids.getD p 0) := by
        have hl : p < ids.length := by rw [hn.len]; exact hp
        rw [List.getD_eq_getElem?_getD, List.getElem?_map, List.getElem?_eq_getElem hl, List.getD_eq_getElem?_getD, List.getElem?_eq_getElem hl]; rfl
      rw [e]
      exact this
    · exact List.Pairwise.map _ (fun a b hab e => hab (hinj a b e)) hn.nd
    · intro i hi
      obtain ⟨k, hk, rfl⟩ := List.mem_map.1 hi
      rcases hids k hk with h | h
      · rw [hlow k (by omega)]; exact .inl h
      · rw [hhigh k (by omega)]; exact .inr (by omega)
    · show hget (hputs _ H' (herases (List.range 27) st.heap)) j = _
      rw [hputs_out (fun p hp e => ?_), herases_out _ _ (by simp; omega)]
      by_cases hp27 : p.1 < 27
      · rw [hlow _ hp27] at e; omega
      · rw [hhigh _ hp27] at e; omega
theorem NestOk.up {H : List (Nat × Ob)} {ids : List Nat} {now : Int} {X : List (List (List D))} (k : Nat) (ob : Ob) (hk : 27 ≤ k) (hids : ∀ i ∈ ids, i < 25) (h : NestOk H 26 25 ids now X) : NestOk ((k, ob) :: H) 26 25 ids now X := by
  have hne : ∀ j, j < 27 → hget ((k, ob) :: H) j = hget H j := fun j hj => by simp only [hget]; rw [if_neg (by omega)]
  refine ⟨h.len, by rw [hne 26 (by omega)]; exact h.hx, by rw [hne 25 (by omega)]; exact h.hl, fun p hp => ?_, h.nd⟩
  have : ids.getD p 0 ∈ ids := by
    rw [List.getD_eq_getElem?_getD, List.getElem?_eq_getElem (by rw [h.len]; exact hp)]
    exact List.getElem_mem _
  rw [hne _ (by have := hids _ this; omega)]
  exact h.hn p hp
theorem nestOk_range (now : Int) (X : List (List (List D))) (n : Nat) (hn : X.length = n) (h25 : n ≤ 25) : NestOk (nestC now X) 26 25 (List.range n) now X := by subst hn; exact nestOk_self now X h25
theorem range_lt {n : Nat} (h : n ≤ 25) : ∀ i ∈ List.range n, i < 25 := fun i hi => by have := List.mem_range.1 hi; omega
theorem set_nodup (n p q : Nat) (hq : n ≤ q) : ((List.range n).set p q).Nodup := by
  rw [List.Nodup, List.pairwise_iff_getElem]
  intro i j hi hj hij
  simp only [List.length_set, List.length_range] at hi hj
  rw [List.getElem_set, List.getElem_set, List.getElem_range, List.getElem_range]
  split <;> split <;> omega
theorem nestOk_set {now now' : Int} {X : List (List (List D))} {H' : List (Nat × Ob)} {p q : Nat} {ys : List (List D)} (hX : X.length = 25) (hp : p < 25) (hq : 27 ≤ q) (h26 : hget H' 26 = some (.cells [I now', .own 25]))
    (h25 : hget H' 25 = some (.rowd 1 ((ownR 25).set p [.own q]))) (hq' : hget H' q = some (.row 2 ys)) (hr : ∀ j, j < 25 → j ≠ p → hget H' j = hget (nestC now X) j) : NestOk H' 26 25 ((List.range 25).set p q) now' (X.set p ys) := by
  refine ⟨by simp [hX], h26, ?_, fun j hj => ?_, set_nodup 25 p q (by omega)⟩
  · rw [h25, List.map_set]; rfl
  · rw [List.length_set, hX] at hj
    have hg : ((List.range 25).set p q).getD j 0 = if p = j then q else j := by
      rw [List.getD_eq_getElem?_getD, List.getElem?_set]
      by_cases e : p = j
      · simp [e, hj]
      · simp [e, hj, List.getElem?_range]
    rw [hg]
    by_cases e : p = j
    · subst e
      rw [if_pos rfl, hq']
      simp [List.getD_eq_getElem?_getD, hX, hj]
    · rw [if_neg e, hr j hj (fun h => e h.symm), hget_nestp now X j (by omega) (by omega)]
      simp [List.getD_eq_getElem?_getD, List.getElem?_set, e]
theorem set_ids {p q : Nat} (hq : 27 ≤ q) : ∀ i ∈ (List.range 25).set p q, i < 25 ∨ 27 ≤ i := fun i hi => by
  rcases List.mem_or_eq_of_mem_set hi with h | rfl
  · exact .inl (List.mem_range.1 h)
  · exact .inr hq
theorem eput_nest (now : Int) (xss : List (List (List D))) (k : Nat) (ob : Ob) (h : 27 ≤ k) : eput (nestC now xss) k ob = (k, ob) :: nestC now xss := by
  unfold nestC
  simp only [eput]
  rw [if_pos (by omega)]
theorem brw_own (H : List (Nat × Ob)) (n : Nat) (xss : List (List (List D))) (h : ∀ p, p < xss.length → hget H p = some (.row 2 (xss.getD p []))) : omap (omap (brwC H (n + 1))) (ownR xss.length) = some (xss.map fun xs => [.rows 2 xs]) := by
  suffices hh : ∀ (l : List Nat), (∀ p ∈ l, p < xss.length) → omap (omap (brwC H (n + 1))) (l.map fun i => [D.own i]) = some (l.map fun i => [.rows 2 (xss.getD i [])]) by
    unfold ownR
    rw [hh _ fun p hp => List.mem_range.1 hp]
    congr 1
    apply List.ext_getElem?
    intro i
    rw [List.getElem?_map, List.getElem?_map]
    by_cases hi : i < xss.length
    · rw [List.getElem?_range hi, List.getElem?_eq_getElem hi]
      simp [List.getD_eq_getElem?_getD, hi]
    · rw [List.getElem?_eq_none (by simp; omega), List.getElem?_eq_none (by omega)]; rfl
  intro l
  induction l with
  | nil => intro _; rfl
  | cons p t ih =>
    intro hl
    have h1 := h p (hl p List.mem_cons_self)
    have h2 := ih fun q hq => hl q (List.mem_cons_of_mem _ hq)
    simp only [List.map_cons, omap, brwC, h1, h2]
end Go.Proofs.Ytajimebannjofaa

