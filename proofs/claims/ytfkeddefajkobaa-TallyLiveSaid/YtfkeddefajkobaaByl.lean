/- This text proves what tally's By computes. It has no condition of its own. -/
import Derived.Test.YtfkeddefajkobaaMpk
import Derived.Test.YtfkeddefajkobaaTly
set_option linter.unusedSimpArgs false
set_option linter.unusedVariables false
set_option maxRecDepth 100000
set_option maxHeartbeats 2000000
namespace Go.Proofs.Ytfkeddefajkobaa
open Go.RowKit
def byStep (p : List Ent × Nat) (o : Outp) : List Ent × Nat :=
  if o.kind = 1 ∨ o.kind = 5 then mput p.1 [o.slot, o.gen] [o.backend] p.2 else if o.kind = 6 ∨ o.kind = 7 then (mdel p.1 [o.slot, o.gen], p.2) else p
def byL (l : List Outp) : List Ent × Nat := l.foldl byStep ([], 0)
theorem byL_succ (l : List Outp) (i : Nat) (h : i < l.length) : byL (l.take (i + 1)) = byStep (byL (l.take i)) l[i] := by
  unfold byL
  rw [List.take_succ_eq_append_getElem h, List.foldl_append]; rfl
structure EntOk (ck : Nat) (e : Ent) : Prop where
  key : ∃ s g, e.1 = [s, g] ∧ InR s ∧ InR g
  val : ∃ b, e.2.1 = [b] ∧ 0 ≤ b ∧ b < 12
  born : e.2.2 < ck
structure MInv (p : List Ent × Nat) : Prop where
  ok : ∀ e ∈ p.1, EntOk p.2 e
  keys : (p.1.map (·.1)).Nodup
  borns : (p.1.map (·.2.2)).Nodup
theorem mdel_sub (es : List Ent) (ks : List Int) : (mdel es ks).Sublist es := List.filter_sublist
theorem MInv.del {p : List Ent × Nat} (h : MInv p) (ks : List Int) : MInv (mdel p.1 ks, p.2) :=
  ⟨fun e he => h.ok e ((mdel_sub _ _).subset he), h.keys.sublist ((mdel_sub _ _).map _), h.borns.sublist ((mdel_sub _ _).map _)⟩
theorem map_same {α β : Type} (f : α → β) (g : α → α) (h : ∀ x, f (g x) = f x) (l : List α) : (l.map g).map f = l.map f := by
  rw [List.map_map]
  exact List.map_congr_left fun x _ => h x
theorem MInv.put {p : List Ent × Nat} (h : MInv p) {s g b : Int} (hs : InR s) (hg : InR g) (hb : 0 ≤ b ∧ b < 12) : MInv (mput p.1 [s, g] [b] p.2) := by
  obtain ⟨es, ck⟩ := p
  obtain ⟨h1, h2, h3⟩ := h
  simp only at h1 h2 h3 ⊢
  by_cases hex : ∃ e ∈ es, e.1 = [s, g]
  · have e1 : mput es [s, g] [b] ck = (es.map fun e => if e.1 = [s, g] then ([s, g], [b], e.2.2) else e, ck) := by unfold mput; rw [if_pos hex]
    rw [e1]
    refine ⟨fun e he => ?_, ?_, ?_⟩
    · obtain ⟨e0, he0, rfl⟩ := List.mem_map.1 he
      have := h1 e0 he0
      split
      · exact ⟨⟨s, g, rfl, hs, hg⟩, ⟨b, rfl, hb⟩, this.born⟩
      · exact this
    · show ((es.map fun e => if e.1 = [s, g] then ([s, g], [b], e.2.2) else e).map fun x : Ent => x.1).Nodup
      rw [map_same (fun x : Ent => x.1) _ (fun x => by split <;> simp_all)]
      exact h2
    · show ((es.map fun e => if e.1 = [s, g] then ([s, g], [b], e.2.2) else e).map fun x : Ent => x.2.2).Nodup
      rw [map_same (fun x : Ent => x.2.2) _ (fun x => by split <;> simp_all)]
      exact h3
  · have hne : ∀ e ∈ es, e.1 ≠ [s, g] := fun e he hk => hex ⟨e, he, hk⟩
    rw [mput_new hne]
    refine ⟨fun e he => ?_, ?_, ?_⟩
    · rcases List.mem_append.1 he with he | he
      · have := h1 e he
        exact ⟨this.key, this.val, Nat.lt_succ_of_lt this.born⟩
      · obtain rfl := List.mem_singleton.1 he
        exact ⟨⟨s, g, rfl, hs, hg⟩, ⟨b, rfl, hb⟩, Nat.lt_succ_self _⟩
    · simp only [List.map_append, List.map_cons, List.map_nil]
      rw [List.nodup_append]
      refine ⟨h2, by simp, fun x hx y hy e => ?_⟩
      obtain rfl := List.mem_singleton.1 hy
      subst e
      obtain ⟨e0, he0, he⟩ := List.mem_map.1 hx
      exact hne e0 he0 he
    · simp only [List.map_append, List.map_cons, List.map_nil]
      rw [List.nodup_append]
      refine ⟨h3, by simp, fun x hx y hy e => ?_⟩
      obtain rfl := List.mem_singleton.1 hy
      subst e
      obtain ⟨e0, he0, he⟩ := List.mem_map.1 hx
      have := (h1 e0 he0).born
      omega
structure OutBy (o : Outp) : Prop where
  fits : OutFits o
  slot : InR o.slot
  gen : InR o.gen
  back : 0 ≤ o.backend ∧ o.backend < 12
theorem byL_inv (l : List Outp) (h : ∀ o ∈ l, OutBy o) : ∀ i, i ≤ l.length → MInv (byL (l.take i))
  | 0, _ => ⟨fun e he => by simp [byL] at he, by simp [byL], by simp [byL]⟩
  | i + 1, hi => by
    have ih := byL_inv l h i (by omega)
    rw [byL_succ l i hi]
    have ho := h _ (List.getElem_mem hi)
    unfold byStep
    split
    · exact ih.put ho.slot ho.gen ho.back
    · split
      · exact ih.del _
      · exact ih
/-- how many entries that have been seen stand at a backend -/
def cntE (es : List Ent) (seen : List Nat) (b : Nat) : Int := (es.countP fun e => decide (e.2.2 ∈ seen ∧ e.2.1 = [(b : Int)]) : Nat)
def unE (es : List Ent) (seen : List Nat) : Nat := es.countP fun e => decide (e.2.2 ∉ seen)
def outE (es : List Ent) (seen : List Nat) : List Int := (List.range 12).map (cntE es seen)
theorem countP_more {α : Type} (p q : α → Bool) (l : List α) (x : α) (hx : x ∈ l) (h1 : ∀ y ∈ l, p y = true → q y = true) (h2 : p x = false) (h3 : q x = true) : l.countP p < l.countP q := by
  induction l with
  | nil => cases hx
  | cons y t ih =>
    have hle : t.countP p ≤ t.countP q := List.countP_mono_left fun z hz hp => h1 z (List.mem_cons_of_mem _ hz) hp
    rw [List.countP_cons, List.countP_cons]
    rcases List.mem_cons.1 hx with rfl | hx
    · rw [h2, h3]
      simp; omega
    · have := ih hx fun z hz => h1 z (List.mem_cons_of_mem _ hz)
      have hy := h1 y (by simp)
      cases hp : p y with
      | true => rw [hy hp]; simp; omega
      | false => cases q y <;> simp <;> omega
theorem unE_less {es : List Ent} {seen : List Nat} {e : Ent} (he : e ∈ es) (hs : e.2.2 ∉ seen) : unE es (seen ++ [e.2.2]) < unE es seen :=
  countP_more _ _ es e he (fun y _ h => by simp at h ⊢; exact h.1) (by simp) (by simpa using hs)
theorem cntE_more : ∀ (es : List Ent) (seen : List Nat) (e : Ent) (b : Nat), (es.map (·.2.2)).Nodup → e ∈ es → e.2.2 ∉ seen → cntE es (seen ++ [e.2.2]) b = cntE es seen b + if e.2.1 = [(b : Int)] then 1 else 0
  | [], seen, e, b, _, he, _ => by cases he
  | x :: t, seen, e, b, hnd, he, hs => by
    simp only [List.map_cons, List.nodup_cons] at hnd
    obtain ⟨hx, hnd⟩ := hnd
    have hc : ∀ s : List Nat, cntE (x :: t) s b = cntE t s b + if x.2.2 ∈ s ∧ x.2.1 = [(b : Int)] then 1 else 0 := fun s => by
      unfold cntE
      rw [List.countP_cons]
      by_cases h : x.2.2 ∈ s ∧ x.2.1 = [(b : Int)]
      · simp [h]
      · simp [h]
    rw [hc, hc]
    rcases List.mem_cons.1 he with rfl | he
    · have hsame : cntE t (seen ++ [e.2.2]) b = cntE t seen b := by
        unfold cntE
        congr 1
        refine List.countP_congr fun y hy => ?_
        have hne : y.2.2 ≠ e.2.2 := fun h => hx (h ▸ List.mem_map.2 ⟨y, hy, rfl⟩)
        simp [hne]
      rw [hsame]
      simp [hs]
    · have ih := cntE_more t seen e b hnd he hs
      have hne : x.2.2 ≠ e.2.2 := fun h => hx (h ▸ List.mem_map.2 ⟨e, he, rfl⟩)
      rw [ih]
      simp only [List.mem_append, List.mem_singleton, hne, or_false]
      omega
theorem cntE_bd (es : List Ent) (seen : List Nat) (b : Nat) : 0 ≤ cntE es seen b ∧ cntE es seen b ≤ es.length := by
  unfold cntE
  have := List.countP_le_length (p := fun e : Ent => decide (e.2.2 ∈ seen ∧ e.2.1 = [(b : Int)])) (l := es)
  omega
theorem outE_more {es : List Ent} {seen : List Nat} {e : Ent} {b : Nat} (hnd : (es.map (·.2.2)).Nodup) (he : e ∈ es) (hs : e.2.2 ∉ seen) (hb : e.2.1 = [(b : Int)]) (hb2 : b < 12) : (outE es seen).set b (cntE es seen b + 1) = outE es (seen ++ [e.2.2]) := by
  refine List.ext_getElem (by simp [outE]) fun i h1 h2 => ?_
  have hi : i < 12 := by simpa [outE] using h2
  rw [List.getElem_set]
  simp only [outE, List.getElem_map, List.getElem_range]
  rw [cntE_more es seen e i hnd he hs, hb]
  by_cases hbi : b = i
  · subst hbi; simp
  · rw [if_neg hbi, if_neg (by simp; omega)]; omega
theorem cntE_all {es : List Ent} {seen : List Nat} (h : ∀ e ∈ es, e.2.2 ∈ seen) (b : Nat) : cntE es seen b = (es.countP fun e => decide (e.2.1 = [(b : Int)]) : Nat) := by
  unfold cntE
  congr 1
  exact List.countP_congr fun e he => by simp [h e he]
def byOut (es : List Ent) : List Int := (List.range 12).map fun b : Nat => ((es.countP fun e => decide (e.2.1 = [(b : Int)]) : Nat) : Int)
theorem outE_all {es : List Ent} {seen : List Nat} (h : ∀ e ∈ es, e.2.2 ∈ seen) : outE es seen = byOut es := List.map_congr_left fun b _ => cntE_all h b
theorem byL_len (l : List Outp) : ∀ i, i ≤ l.length → (byL (l.take i)).1.length ≤ i
  | 0, _ => by simp [byL]
  | i + 1, hi => by
    have ih := byL_len l i (by omega)
    rw [byL_succ l i hi]
    unfold byStep
    split
    · unfold mput
      split
      · simp; omega
      · simp; omega
    · split
      · have := (mdel_sub (byL (l.take i)).1 [l[i].slot, l[i].gen]).length_le
        simp only; omega
      · omega
theorem tby_code : cfun Try.prog [] 24 = some ⟨(.seq (.region 0 [⟨(some 2), (.mov (.k .nil0)), none⟩, ⟨(some 3), (.mov (.k (.int .i64 0))), none⟩]) (.seq (.seq (.region 1 [⟨(some 14), (.mov (.t 0)), none⟩, ⟨(some 15), (.call 54 [(.t 14)]), none⟩, ⟨(some 13), (.mov (.t 15)), none⟩, ⟨(some 16), (.ext (.t 13) 0), none⟩, ⟨(some 17), (.ext (.t 13) 1), none⟩, ⟨(some 4), (.alloc [(.int .i64 0), (.int .i64 0), (.int .i64 0), (.int .i64 0), (.int .i64 0), (.int .i64 0), (.int .i64 0), (.int .i64 0), (.int .i64 0), (.int .i64 0), (.int .i64 0), (.int .i64 0), (.int .i64 0), (.int .i64 0), (.int .i64 0), (.int .i64 0), (.int .i64 0)]), none⟩, ⟨none, (.store 17 (.t 4) (.t 16)), none⟩, ⟨(some 5), (.mov (.t 17)), none⟩]) (.seq (.region 2 [⟨(some 18), (.mov (.t 5)), none⟩, ⟨(some 19), (.bin .neq (.t 18) (.k (.int .i64 0))), none⟩]) (.cond 19 (.seq (.region 3 [⟨(some 20), (.mov (.t 5)), none⟩, ⟨(some 2), (.mov (.k .nil0)), none⟩, ⟨(some 3), (.mov (.t 20)), none⟩]) .ret) .skip))) (.seq (.region 4 [⟨(some 21), (.xop 0 [2] []), none⟩, ⟨(some 6), (.mov (.t 21)), none⟩]) (.seq (.seq (.region 5 [⟨(some 22), (.mov (.t 0)), none⟩, ⟨(some 23), (.len (.t 22)), none⟩, ⟨(some 24), (.mov (.k (.int .i64 0))), none⟩]) (.block 0 (.loop (.seq (.region 6 [⟨(some 25), (.bin .lss (.t 24) (.t 23)), none⟩]) (.seq (.cond 25 .skip (.exit 0)) (.seq (.block 1 (.seq (.region 7 [⟨(some 26), (.iads 7 (.t 22) (.t 24)), none⟩, ⟨(some 27), (.load true 7 (.t 26)), none⟩, ⟨(some 8), (.alloc [(.int .i64 0), (.int .i64 0), (.int .i64 0), (.int .i64 0), (.int .i64 0), (.int .i64 0), (.int .i64 0)]), none⟩, ⟨none, (.store 7 (.t 8) (.t 27)), none⟩]) (.seq (.seq (.region 8 [⟨(some 28), (.fad 3 (.t 8)), none⟩, ⟨(some 29), (.load false 1 (.t 28)), none⟩, ⟨(some 30), (.bin .lss (.t 29) (.k (.int .i64 0))), none⟩, ⟨(some 31), (.mov (.t 30)), none⟩, ⟨(some 32), (.fad 3 (.t 8)), (some (31, false))⟩, ⟨(some 33), (.load false 1 (.t 32)), (some (31, false))⟩, ⟨(some 34), (.bin .geq (.t 33) (.k (.int .i64 12))), (some (31, false))⟩, ⟨(some 35), (.pick (.t 31) (.k (.bool true)) (.t 34)), none⟩]) (.cond 35 (.seq (.region 9 [⟨(some 2), (.mov (.k .nil0)), none⟩, ⟨(some 3), (.mov (.k (.int .i64 2))), none⟩]) .ret) .skip)) (.seq (.region 10 [⟨(some 36), (.fad 1 (.t 8)), none⟩, ⟨(some 37), (.load false 1 (.t 36)), none⟩, ⟨(some 38), (.fad 2 (.t 8)), none⟩, ⟨(some 39), (.load false 1 (.t 38)), none⟩, ⟨(some 40), (.build [(.int .i64 0), (.int .i64 0)] [(0, (1, (.t 37))), (1, (1, (.t 39)))]), none⟩, ⟨(some 9), (.alloc [(.int .i64 0), (.int .i64 0)]), none⟩, ⟨none, (.store 2 (.t 9) (.t 40)), none⟩]) (.seq (.region 11 [⟨(some 41), (.fad 0 (.t 8)), none⟩, ⟨(some 42), (.load false 1 (.t 41)), none⟩]) (.block 2 (.seq (.seq (.region 12 [⟨(some 44), (.bin .eql (.t 42) (.k (.int .i64 1))), none⟩, ⟨(some 43), (.mov (.t 44)), none⟩]) (.cond 43 .skip (.region 13 [⟨(some 45), (.bin .eql (.t 42) (.k (.int .i64 5))), none⟩, ⟨(some 43), (.mov (.t 45)), none⟩]))) (.cond 43 (.region 14 [⟨(some 46), (.mov (.t 6)), none⟩, ⟨(some 47), (.load true 2 (.t 9)), none⟩, ⟨(some 48), (.fad 3 (.t 8)), none⟩, ⟨(some 49), (.load false 1 (.t 48)), none⟩, ⟨(some 50), (.build [(.int .i64 0)] [(0, (1, (.t 49)))]), none⟩, ⟨none, (.xop 1 [2] [(.t 46), (.t 47), (.t 50)]), none⟩]) (.seq (.seq (.region 15 [⟨(some 52), (.bin .eql (.t 42) (.k (.int .i64 6))), none⟩, ⟨(some 51), (.mov (.t 52)), none⟩]) (.cond 51 .skip (.region 16 [⟨(some 53), (.bin .eql (.t 42) (.k (.int .i64 7))), none⟩, ⟨(some 51), (.mov (.t 53)), none⟩]))) (.cond 51 (.region 17 [⟨(some 54), (.mov (.t 6)), none⟩, ⟨(some 55), (.load true 2 (.t 9)), none⟩, ⟨none, (.xop 2 [2] [(.t 54), (.t 55)]), none⟩]) .skip)))))))))) (.region 18 [⟨(some 56), (.bin .add (.t 24) (.k (.int .i64 1))), none⟩, ⟨(some 24), (.mov (.t 56)), none⟩]))))))) (.seq (.region 19 [⟨(some 57), (.mks 1 8 [(.int .i64 0)] (.k (.int .i64 12)) (.k (.int .i64 12))), none⟩, ⟨(some 10), (.mov (.t 57)), none⟩]) (.seq (.seq (.region 20 [⟨(some 58), (.mov (.t 6)), none⟩, ⟨(some 59), (.xop 4 [2] [(.t 58)]), none⟩]) (.block 3 (.loop (.seq (.region 21 [⟨(some 60), (.xop 5 [] [(.t 59)]), none⟩, ⟨(some 61), (.ext (.t 60) 0), none⟩]) (.seq (.cond 61 .skip (.exit 3)) (.block 4 (.seq (.region 22 [⟨(some 62), (.xop 6 [] [(.t 59)]), none⟩, ⟨(some 63), (.ext (.t 62) 1), none⟩, ⟨(some 12), (.alloc [(.int .i64 0)]), none⟩, ⟨none, (.store 1 (.t 12) (.t 63)), none⟩]) (.region 23 [⟨(some 64), (.mov (.t 10)), none⟩, ⟨(some 65), (.fad 0 (.t 12)), none⟩, ⟨(some 66), (.load false 1 (.t 65)), none⟩, ⟨(some 67), (.iads 1 (.t 64) (.t 66)), none⟩, ⟨(some 68), (.load false 1 (.t 67)), none⟩, ⟨(some 69), (.bin .add (.t 68) (.k (.int .i64 1))), none⟩, ⟨(some 70), (.iads 1 (.t 64) (.t 66)), none⟩, ⟨none, (.store 1 (.t 70) (.t 69)), none⟩])))))))) (.seq (.region 24 [⟨(some 71), (.mov (.t 10)), none⟩, ⟨(some 2), (.mov (.t 71)), none⟩, ⟨(some 3), (.mov (.k (.int .i64 0))), none⟩]) .ret))))))), [(.t 2), (.t 3)], 72⟩ := by kernel_rfl
theorem tby_pfn (l : List Outp) (hl : l.length ≤ 1000000) (h : ∀ o ∈ l, OutBy o) : PFn Try.prog 24 [.rows 7 (l.map Outp.D)] (.tup [.rows 1 ((byOut (byL l).1).map fun z => [I z]), I 0]) := by
  have hof := tof_pf l hl fun o ho => (h o ho).fits
  refine PFn.of follows_ok tby_code (by simp) (by simp [argOk]) (by simp [noV, noC]) fun B hBN hB0 => acode_sound [0, 2, 3, 5, 6, 8, 9, 10, 12, 19, 22, 23, 24, 25, 35, 42, 43, 51, 59, 61] [] _ _ _ ?_
  repeat' (first
    | simp [AK_at, acode_seq, acode_region, acode_draw, acode_cond, ↓CB_t, ↓CB_f, CB_u, acode_block, acode_loop, acode_exit, acode_scope, acode_ret, acode_skip, seqQ_n, seqQ_e, seqQ_r, blockQ_n, blockQ_e, blockQ_r, TK_at, OK_at, SK_at, aops_nil, aops_cons, asch_done, asch_one, asch_two, asch_top, astep, aop_eq, isLoud, aloud, aloud1, isWrite, qv, evS, strip, gof, eget, hget, putO, eput, herase, oks, opnds, gS, afin, afin0, binD, arith, D.cells, takeD, fillD, keep, trim, envOf, Fin, aresl, aresv, resD, argOk, pickV, isP, deq, deqs, boundD, slD, lenD, isT, chunks, mn_min, mx_max, D.cells, splice_one, splice_more, Rbr_at, Rfr_at, frR, frV, frC, flatC, brwR, brwV, brwC, omap, leR, leV, leC, leL, leVL, tallyL_len]
    | (refine WCall.pf (hof) ?_ ?_ ?_ ?_; (focus (simp [oks, opnds, gS, gof, eget]; done)); (focus (simp [omap, brwV, brwC, evS, eget, strip, hget, leVL, leV, leC, leL, tallyL_len]; done)); (focus (simp [noV, noC, flatR, flatV, flatC, evS, eget, strip, tallyL_len]; done)))
    | (refine ⟨WCall.pf (hof) ?_ ?_ ?_ ?_, ?_⟩; (focus (simp [oks, opnds, gS, gof, eget]; done)); (focus (simp [omap, brwV, brwC, evS, eget, strip, hget, leVL, leV, leC, leL, tallyL_len]; done)); (focus (simp [noV, noC, flatR, flatV, flatC, evS, eget, strip, tallyL_len]; done)))
    | (with_reducible refine And.intro (And.intro ?_ ?_) ?_)
    | fail)
  refine XCall.mk ?_
  simp [AK_at, acode_seq, acode_region, acode_draw, acode_cond, ↓CB_t, ↓CB_f, CB_u, acode_block, acode_loop, acode_exit, acode_scope, acode_ret, acode_skip, seqQ_n, seqQ_e, seqQ_r, blockQ_n, blockQ_e, blockQ_r, TK_at, OK_at, SK_at, aops_nil, aops_cons, asch_done, asch_one, asch_two, asch_top, astep, aop_eq, isLoud, aloud, aloud1, isWrite, qv, evS, strip, gof, eget, hget, putO, eput, herase, oks, opnds, gS, afin, afin0, binD, arith, D.cells, takeD, fillD, keep, trim, envOf, Fin, aresl, aresv, resD, argOk, pickV, isP, deq, deqs, boundD, slD, lenD, isT, chunks, mn_min, mx_max, D.cells, splice_one, splice_more, Rbr_at, Rfr_at, frR, frV, frC, flatC, brwR, brwV, brwC, omap, leR, leV, leC, leL, leVL]
  refine W.loopS (fun i : Nat => ⟨[(24, I i), (23, I l.length), (22, D.rows 7 (l.map Outp.D)), (6, .own 0)], [(0, .mp false (byL (l.take i)).1 (byL (l.take i)).2)], 1⟩)
    (fun n i => n = l.length - i ∧ i ≤ l.length) ?_ ?_
  · exact ⟨_, 0, (Gh.ren [1] (by simp [hB0]) (by simp [hB0] <;> decide) (by simp [eget, rnS, rnR, rnV, rnC, LtS, LtR, LtV, LtC, lget, byL]) (by simp [hget, rnO, rnC, LtO, LtC, lget, byL]) (.inl (by simp [lget, byL]))), rfl, by omega⟩
  rintro n i ⟨hn, hi⟩
  refine acode_sound [0, 2, 3, 5, 6, 8, 9, 10, 12, 19, 22, 23, 24, 25, 35, 42, 43, 51, 59, 61] [] _ _ _ ?_
  have hinv := byL_inv l h i hi
  by_cases hlt : i < l.length
  · have hst := byL_succ l i hlt
    obtain ⟨o, ho⟩ : ∃ o, o = l[i] := ⟨_, rfl⟩
    have hoo : OutBy o := ho ▸ h _ (List.getElem_mem hlt)
    obtain ⟨hf, hs, hg, hb0, hb1⟩ := hoo
    rw [← ho] at hst
    obtain ⟨p, hp⟩ : ∃ p, p = byL (l.take i) := ⟨_, rfl⟩
    rw [← hp] at hst hinv
    have hes : ∀ e ∈ p.1, goodK 2 e.1 := fun e he => by
      obtain ⟨s, g, hk, h1, h2⟩ := (hinv.ok e he).key
      rw [hk]
      exact ⟨rfl, by simp [h1, h2]⟩
    have hgk : goodK 2 [o.slot, o.gen] := ⟨rfl, by simp [hs, hg]⟩
    have ii : InR ((i : Int) + 1) := inT (by omega) (by omega)
    have c1 : ¬ o.backend < 0 := by omega
    have c2 : ¬ 12 ≤ o.backend := by omega
    by_cases hput : o.kind = 1 ∨ o.kind = 5
    · have hst : byL (l.take (i + 1)) = mput p.1 [o.slot, o.gen] [o.backend] p.2 := by rw [hst]; unfold byStep; rw [if_pos hput]
      rcases hput with hk | hk
      all_goals
        simp [AK_at, acode_seq, acode_region, acode_draw, acode_cond, ↓CB_t, ↓CB_f, CB_u, acode_block, acode_loop, acode_exit, acode_scope, acode_ret, acode_skip, seqQ_n, seqQ_e, seqQ_r, blockQ_n, blockQ_e, blockQ_r, TK_at, OK_at, SK_at, aops_nil, aops_cons, asch_done, asch_one, asch_two, asch_top, astep, aop_eq, isLoud, aloud, aloud1, isWrite, qv, evS, strip, gof, eget, hget, putO, eput, herase, oks, opnds, gS, afin, afin0, binD, arith, D.cells, takeD, fillD, keep, trim, envOf, Fin, aresl, aresv, resD, argOk, pickV, isP, deq, deqs, boundD, slD, lenD, isT, chunks, mn_min, mx_max, D.cells, splice_one, splice_more, Rbr_at, Rfr_at, frR, frV, frC, flatC, brwR, brwV, brwC, omap, leR, leV, leC, leL, leVL, hlt, ← ho, Outp.D, c1, c2, hk, ← hp]
        refine XCall.upd key2 (id := 0) (es := p.1) (ck := p.2) (ks := [o.slot, o.gen]) (vs := [o.backend]) (by simp [oks, opnds, gS, gof, eget]) rfl (by simp [evS, eget, strip]) (by simp [hget]) (by simp [evS, eget, strip, keyD]) (by simp [evS, eget, strip]) hgk hes hinv.keys ?_
        simp [AK_at, acode_seq, acode_region, acode_draw, acode_cond, ↓CB_t, ↓CB_f, CB_u, acode_block, acode_loop, acode_exit, acode_scope, acode_ret, acode_skip, seqQ_n, seqQ_e, seqQ_r, blockQ_n, blockQ_e, blockQ_r, TK_at, OK_at, SK_at, aops_nil, aops_cons, asch_done, asch_one, asch_two, asch_top, astep, aop_eq, isLoud, aloud, aloud1, isWrite, qv, evS, strip, gof, eget, hget, putO, eput, herase, oks, opnds, gS, afin, afin0, binD, arith, D.cells, takeD, fillD, keep, trim, envOf, Fin, aresl, aresv, resD, argOk, pickV, isP, deq, deqs, boundD, slD, lenD, isT, chunks, mn_min, mx_max, D.cells, splice_one, splice_more, Rbr_at, Rfr_at, frR, frV, frC, flatC, brwR, brwV, brwC, omap, leR, leV, leC, leL, leVL, ii]
        exact ⟨_, i + 1, (Gh.ren [0] (by simp [hB0]) (by simp [hB0] <;> decide) (by simp [eget, rnS, rnR, rnV, rnC, LtS, LtR, LtV, LtC, lget, hst]) (by simp [hget, rnO, rnC, LtO, LtC, lget, hst]) (.inl (by simp [lget, hst]))), by omega, rfl, by omega⟩
    · by_cases hdel : o.kind = 6 ∨ o.kind = 7
      · have hst : byL (l.take (i + 1)) = (mdel p.1 [o.slot, o.gen], p.2) := by rw [hst]; unfold byStep; rw [if_neg hput, if_pos hdel]
        rcases hdel with hk | hk
        all_goals
          simp [AK_at, acode_seq, acode_region, acode_draw, acode_cond, ↓CB_t, ↓CB_f, CB_u, acode_block, acode_loop, acode_exit, acode_scope, acode_ret, acode_skip, seqQ_n, seqQ_e, seqQ_r, blockQ_n, blockQ_e, blockQ_r, TK_at, OK_at, SK_at, aops_nil, aops_cons, asch_done, asch_one, asch_two, asch_top, astep, aop_eq, isLoud, aloud, aloud1, isWrite, qv, evS, strip, gof, eget, hget, putO, eput, herase, oks, opnds, gS, afin, afin0, binD, arith, D.cells, takeD, fillD, keep, trim, envOf, Fin, aresl, aresv, resD, argOk, pickV, isP, deq, deqs, boundD, slD, lenD, isT, chunks, mn_min, mx_max, D.cells, splice_one, splice_more, Rbr_at, Rfr_at, frR, frV, frC, flatC, brwR, brwV, brwC, omap, leR, leV, leC, leL, leVL, hlt, ← ho, Outp.D, c1, c2, hk, ← hp]
          refine XCall.del key2 (id := 0) (es := p.1) (ck := p.2) (ks := [o.slot, o.gen]) (by simp [oks, opnds, gS, gof, eget]) rfl (by simp [evS, eget, strip]) (by simp [hget]) (by simp [evS, eget, strip, keyD]) hgk hes hinv.keys ?_
          simp [AK_at, acode_seq, acode_region, acode_draw, acode_cond, ↓CB_t, ↓CB_f, CB_u, acode_block, acode_loop, acode_exit, acode_scope, acode_ret, acode_skip, seqQ_n, seqQ_e, seqQ_r, blockQ_n, blockQ_e, blockQ_r, TK_at, OK_at, SK_at, aops_nil, aops_cons, asch_done, asch_one, asch_two, asch_top, astep, aop_eq, isLoud, aloud, aloud1, isWrite, qv, evS, strip, gof, eget, hget, putO, eput, herase, oks, opnds, gS, afin, afin0, binD, arith, D.cells, takeD, fillD, keep, trim, envOf, Fin, aresl, aresv, resD, argOk, pickV, isP, deq, deqs, boundD, slD, lenD, isT, chunks, mn_min, mx_max, D.cells, splice_one, splice_more, Rbr_at, Rfr_at, frR, frV, frC, flatC, brwR, brwV, brwC, omap, leR, leV, leC, leL, leVL, ii]
          exact ⟨_, i + 1, (Gh.ren [0] (by simp [hB0]) (by simp [hB0] <;> decide) (by simp [eget, rnS, rnR, rnV, rnC, LtS, LtR, LtV, LtC, lget, hst]) (by simp [hget, rnO, rnC, LtO, LtC, lget, hst]) (.inl (by simp [lget, hst]))), by omega, rfl, by omega⟩
      · have hst : byL (l.take (i + 1)) = p := by rw [hst]; unfold byStep; rw [if_neg hput, if_neg hdel]
        have k1 : ¬ o.kind = 1 := fun h => hput (.inl h)
        have k5 : ¬ o.kind = 5 := fun h => hput (.inr h)
        have k6 : ¬ o.kind = 6 := fun h => hdel (.inl h)
        have k7 : ¬ o.kind = 7 := fun h => hdel (.inr h)
        simp [AK_at, acode_seq, acode_region, acode_draw, acode_cond, ↓CB_t, ↓CB_f, CB_u, acode_block, acode_loop, acode_exit, acode_scope, acode_ret, acode_skip, seqQ_n, seqQ_e, seqQ_r, blockQ_n, blockQ_e, blockQ_r, TK_at, OK_at, SK_at, aops_nil, aops_cons, asch_done, asch_one, asch_two, asch_top, astep, aop_eq, isLoud, aloud, aloud1, isWrite, qv, evS, strip, gof, eget, hget, putO, eput, herase, oks, opnds, gS, afin, afin0, binD, arith, D.cells, takeD, fillD, keep, trim, envOf, Fin, aresl, aresv, resD, argOk, pickV, isP, deq, deqs, boundD, slD, lenD, isT, chunks, mn_min, mx_max, D.cells, splice_one, splice_more, Rbr_at, Rfr_at, frR, frV, frC, flatC, brwR, brwV, brwC, omap, leR, leV, leC, leL, leVL, hlt, ← ho, Outp.D, c1, c2, k1, k5, k6, k7, ← hp, ii]
        exact ⟨_, i + 1, (Gh.ren [0] (by simp [hB0]) (by simp [hB0] <;> decide) (by simp [eget, rnS, rnR, rnV, rnC, LtS, LtR, LtV, LtC, lget, hst, ← hp]) (by simp [hget, rnO, rnC, LtO, LtC, lget, hst, ← hp]) (.inl (by simp [lget, hst, ← hp]))), by omega, rfl, by omega⟩
  · have hie : i = l.length := by omega
    subst hie
    have hlen := byL_len l l.length (Nat.le_refl _)
    rw [List.take_length] at hinv hlen
    simp only [List.take_length]
    generalize byL l = p at hinv hlen ⊢
    obtain ⟨es, ck⟩ := p
    have hlen : es.length ≤ l.length := hlen
    simp [AK_at, acode_seq, acode_region, acode_draw, acode_cond, ↓CB_t, ↓CB_f, CB_u, acode_block, acode_loop, acode_exit, acode_scope, acode_ret, acode_skip, seqQ_n, seqQ_e, seqQ_r, blockQ_n, blockQ_e, blockQ_r, TK_at, OK_at, SK_at, aops_nil, aops_cons, asch_done, asch_one, asch_two, asch_top, astep, aop_eq, isLoud, aloud, aloud1, isWrite, qv, evS, strip, gof, eget, hget, putO, eput, herase, oks, opnds, gS, afin, afin0, binD, arith, D.cells, takeD, fillD, keep, trim, envOf, Fin, aresl, aresv, resD, argOk, pickV, isP, deq, deqs, boundD, slD, lenD, isT, chunks, mn_min, mx_max, D.cells, splice_one, splice_more, Rbr_at, Rfr_at, frR, frV, frC, flatC, brwR, brwV, brwC, omap, leR, leV, leC, leL, leVL]
    refine XCall.range (id := 0) (bare := false) (es := es) (ck := ck) (by simp [oks, opnds, gS, gof, eget]) (by simp [evS, eget, strip]) (by simp [hget]) ?_
    simp [AK_at, acode_seq, acode_region, acode_draw, acode_cond, ↓CB_t, ↓CB_f, CB_u, acode_block, acode_loop, acode_exit, acode_scope, acode_ret, acode_skip, seqQ_n, seqQ_e, seqQ_r, blockQ_n, blockQ_e, blockQ_r, TK_at, OK_at, SK_at, aops_nil, aops_cons, asch_done, asch_one, asch_two, asch_top, astep, aop_eq, isLoud, aloud, aloud1, isWrite, qv, evS, strip, gof, eget, hget, putO, eput, herase, oks, opnds, gS, afin, afin0, binD, arith, D.cells, takeD, fillD, keep, trim, envOf, Fin, aresl, aresv, resD, argOk, pickV, isP, deq, deqs, boundD, slD, lenD, isT, chunks, mn_min, mx_max, D.cells, splice_one, splice_more, Rbr_at, Rfr_at, frR, frV, frC, flatC, brwR, brwV, brwC, omap, leR, leV, leC, leL, leVL]
    refine W.loopS (fun seen : List Nat => ⟨[(59, .ptr 2 0), (10, .own 1)], [(2, .it 0 ck seen ck), (1, .row 1 ((outE es seen).map fun z => [I z])), (0, .mp false es ck)], 3⟩)
      (fun n seen => n = unE es seen) ?_ ?_
    · exact ⟨_, [], (Gh.ren [0, 1, 2] (by simp [hB0]) (by simp [hB0] <;> decide) (by simp [eget, rnS, rnR, rnV, rnC, LtS, LtR, LtV, LtC, lget, outE, cntE, List.range_succ]) (by simp [hget, rnO, rnC, LtO, LtC, lget, outE, cntE, List.range_succ]) (.inl (by simp [lget, outE, cntE, List.range_succ]))), rfl⟩
    rintro n seen hn
    refine acode_sound [0, 2, 3, 5, 6, 8, 9, 10, 12, 19, 22, 23, 24, 25, 35, 42, 43, 51, 59, 61] [] _ _ _ ?_
    simp [AK_at, acode_seq, acode_region, acode_draw, acode_cond, ↓CB_t, ↓CB_f, CB_u, acode_block, acode_loop, acode_exit, acode_scope, acode_ret, acode_skip, seqQ_n, seqQ_e, seqQ_r, blockQ_n, blockQ_e, blockQ_r, TK_at, OK_at, SK_at, aops_nil, aops_cons, asch_done, asch_one, asch_two, asch_top, astep, aop_eq, isLoud, aloud, aloud1, isWrite, qv, evS, strip, gof, eget, hget, putO, eput, herase, oks, opnds, gS, afin, afin0, binD, arith, D.cells, takeD, fillD, keep, trim, envOf, Fin, aresl, aresv, resD, argOk, pickV, isP, deq, deqs, boundD, slD, lenD, isT, chunks, mn_min, mx_max, D.cells, splice_one, splice_more, Rbr_at, Rfr_at, frR, frV, frC, flatC, brwR, brwV, brwC, omap, leR, leV, leC, leL, leVL]
    refine XCall.next (id := 0) (it := 2) (since := ck) (seen := seen) (last := ck) (n := 2) (es := es) (ck := ck) (by simp [oks, opnds, gS, gof, eget]) (by simp [evS, eget, strip]) (by simp [hget]) (by simp [hget]) rfl (fun e he => (hinv.ok e he).born) (Nat.le_refl _) (fun hall => ?_) (fun e he hns => ?_)
    · have ho := outE_all hall
      simp [AK_at, acode_seq, acode_region, acode_draw, acode_cond, ↓CB_t, ↓CB_f, CB_u, acode_block, acode_loop, acode_exit, acode_scope, acode_ret, acode_skip, seqQ_n, seqQ_e, seqQ_r, blockQ_n, blockQ_e, blockQ_r, TK_at, OK_at, SK_at, aops_nil, aops_cons, asch_done, asch_one, asch_two, asch_top, astep, aop_eq, isLoud, aloud, aloud1, isWrite, qv, evS, strip, gof, eget, hget, putO, eput, herase, oks, opnds, gS, afin, afin0, binD, arith, D.cells, takeD, fillD, keep, trim, envOf, Fin, aresl, aresv, resD, argOk, pickV, isP, deq, deqs, boundD, slD, lenD, isT, chunks, mn_min, mx_max, D.cells, splice_one, splice_more, Rbr_at, Rfr_at, frR, frV, frC, flatC, brwR, brwV, brwC, omap, leR, leV, leC, leL, leVL, ho]
    · obtain ⟨b', hb, b0, b12⟩ := (hinv.ok e he).val
      obtain ⟨b, rfl⟩ : ∃ b : Nat, b' = b := ⟨b'.toNat, by omega⟩
      have hmore := outE_more hinv.borns he hns hb (by omega)
      have hbd := cntE_bd es seen b
      have ii : InR (cntE es seen b + 1) := inT (by omega) (by omega)
      have hlo : (outE es seen).length = 12 := by simp [outE]
      have hat : (outE es seen)[b]? = some (cntE es seen b) := by simp [outE, List.getElem?_range, show b < 12 by omega]
      simp [AK_at, acode_seq, acode_region, acode_draw, acode_cond, ↓CB_t, ↓CB_f, CB_u, acode_block, acode_loop, acode_exit, acode_scope, acode_ret, acode_skip, seqQ_n, seqQ_e, seqQ_r, blockQ_n, blockQ_e, blockQ_r, TK_at, OK_at, SK_at, aops_nil, aops_cons, asch_done, asch_one, asch_two, asch_top, astep, aop_eq, isLoud, aloud, aloud1, isWrite, qv, evS, strip, gof, eget, hget, putO, eput, herase, oks, opnds, gS, afin, afin0, binD, arith, D.cells, takeD, fillD, keep, trim, envOf, Fin, aresl, aresv, resD, argOk, pickV, isP, deq, deqs, boundD, slD, lenD, isT, chunks, mn_min, mx_max, D.cells, splice_one, splice_more, Rbr_at, Rfr_at, frR, frV, frC, flatC, brwR, brwV, brwC, omap, leR, leV, leC, leL, leVL]
      refine XCall.entry (id := 0) (it := 2) (since := ck) (seen := seen) (n := 2) (es := es) (ck := ck) (e := e) (by simp [oks, opnds, gS, gof, eget]) (by simp [evS, eget, strip]) (by simp [hget]) (by simp [hget]) he hinv.borns ?_
      simp [AK_at, acode_seq, acode_region, acode_draw, acode_cond, ↓CB_t, ↓CB_f, CB_u, acode_block, acode_loop, acode_exit, acode_scope, acode_ret, acode_skip, seqQ_n, seqQ_e, seqQ_r, blockQ_n, blockQ_e, blockQ_r, TK_at, OK_at, SK_at, aops_nil, aops_cons, asch_done, asch_one, asch_two, asch_top, astep, aop_eq, isLoud, aloud, aloud1, isWrite, qv, evS, strip, gof, eget, hget, putO, eput, herase, oks, opnds, gS, afin, afin0, binD, arith, D.cells, takeD, fillD, keep, trim, envOf, Fin, aresl, aresv, resD, argOk, pickV, isP, deq, deqs, boundD, slD, lenD, isT, chunks, mn_min, mx_max, D.cells, splice_one, splice_more, Rbr_at, Rfr_at, frR, frV, frC, flatC, brwR, brwV, brwC, omap, leR, leV, leC, leL, leVL, hb, hlo, hat, ii]
      exact ⟨by omega, by omega, by omega, by omega, _, seen ++ [e.2.2], (Gh.ren [0, 1, 2] (by simp [hB0]) (by simp [hB0] <;> decide) (by simp [eget, rnS, rnR, rnV, rnC, LtS, LtR, LtV, LtC, lget, ← hmore, List.map_set]) (by simp [hget, rnO, rnC, LtO, LtC, lget, ← hmore, List.map_set]) (.inl (by simp [lget, ← hmore, List.map_set]))), hn ▸ unE_less he hns, rfl⟩
theorem tby_pf (l : List Outp) (hl : l.length ≤ 1000000) (h : ∀ o ∈ l, OutBy o) : PF Try.prog 24 [.rows 7 (l.map Outp.D)] (.tup [.rows 1 ((byOut (byL l).1).map fun z => [I z]), I 0]) := (tby_pfn l hl h).pf
end Go.Proofs.Ytfkeddefajkobaa
