/- This text proves one rule for a statement whose order Go leaves open: operations that read only may be taken first, in an order of one's choice, though other operations make new memory or end in a store. It has no condition of its own. -/
import Derived.Test.YtfkeddefajkobaaMem
import Derived.OrdersHeld
import Derived.Deep.RegionHeld
set_option linter.unusedSimpArgs false
set_option linter.unusedVariables false
namespace Go.Proofs.Ytfkeddefajkobaa
open Go.RowKit

/-- an operation that calls no function of the program -/
def plainOp : Op → Bool
  | .call { callee := .builtin .len, .. } | .call { callee := .builtin .cap, .. } | .call { callee := .builtin .min, .. } | .call { callee := .builtin .max, .. } => true
  | .call _ | .go _ | .defer _ | .send .. | .recv .. | .select .. | .store .. | .ready _ | .mapUpdate .. | .insert .. | .entryStore .. => false
  | _ => true

theorem value_run {P : Program} {w w' : World} (s : Sem Value) {n : Next} (h : (do pure (Next.value (← s)) : Sem Next).run P w = .ok n w') : ∃ u, n = .value u := by
  rw [Sem.run_bind] at h
  cases hs : s.run P w with
  | ok a w1 => rw [hs] at h; simp only [Result.andThen_ok, Sem.run_pure] at h; injection h with h1 h2; exact ⟨a, h1.symm⟩
  | halt x w1 => rw [hs] at h; cases h
theorem plain_value {P : Program} {ρ : Operand → Value} {o : Oper} {w w' : World} {n : Next} (hp : plainOp o.op = true) (h : (execOp ρ o).run P w = .ok n w') : ∃ u, n = .value u := by
  unfold execOp at h
  cases ho : o.op with
  | call c =>
    obtain ⟨cal, ars, ts⟩ := c
    rw [ho] at h hp
    cases cal with
    | value x => simp [plainOp] at hp
    | invoke x m => simp [plainOp] at hp
    | builtin b =>
      simp only [resolve, invoke, Sem.run_bind, Sem.run_pure, Result.andThen_ok] at h
      cases b <;> first | (simp [plainOp] at hp; done) | (simp only [builtin] at h; exact value_run _ h)
  | go c => simp [plainOp, ho] at hp
  | defer c => simp [plainOp, ho] at hp
  | send a b => simp [plainOp, ho] at hp
  | recv a b c => simp [plainOp, ho] at hp
  | select a b => simp [plainOp, ho] at hp
  | store a b c => simp [plainOp, ho] at hp
  | ready a => simp [plainOp, ho] at hp
  | mapUpdate a b c d => simp [plainOp, ho] at hp
  | insert a b c d => simp [plainOp, ho] at hp
  | entryStore a b c d => simp [plainOp, ho] at hp
  | nilCheck x =>
    simp only [ho] at h
    split at h
    case h_5 => rw [Sem.run_pure] at h; cases h; exact ⟨_, rfl⟩
    case h_4 =>
      split at h
      · simp [runtimePanic, Sem.run_bind] at h
      · rename_i t u _
        rw [Sem.run_bind, show Sem.run P program w = .ok P w from rfl, Result.andThen_ok, Sem.run_bind] at h
        cases hs : (nilAhead (P.types.size + Made.depth) t u ‹String›).run P w with
        | halt y w1 => rw [hs] at h; cases h
        | ok y w1 =>
          rw [hs, Result.andThen_ok] at h
          split at h
          · simp [unsupported] at h
          · rw [Sem.run_pure] at h; cases h; exact ⟨_, rfl⟩
      · rw [Sem.run_pure] at h; cases h; exact ⟨_, rfl⟩
    all_goals simp [runtimePanic, Sem.run_bind] at h
  | move x => simp only [ho, Sem.run_pure] at h; cases h; exact ⟨_, rfl⟩
  | assign x => simp only [ho, Sem.run_pure] at h; cases h; exact ⟨_, rfl⟩
  | pick c a b =>
    simp only [ho, Sem.run_bind] at h
    cases hs : (asBool (ρ c)).run P w with
    | ok a w1 => rw [hs] at h; simp only [Result.andThen_ok, Sem.run_pure] at h; cases h; exact ⟨_, rfl⟩
    | halt x w1 => rw [hs] at h; cases h
  | _ => simp only [ho] at h; exact value_run _ h

section
variable {P : Program} {ops : Array Oper} {Q : Exit → Act → World → Prop} {md : Region.Mode} {late : Nat → Bool} {w0 : World}

/-- as long as no late operation has come up, all that was there is as it was -/
def Kept (late : Nat → Bool) (w0 : World) (listed : Array Bool) (w : World) : Prop :=
  Below w0.heap.size w0 w ∨ ∃ t, late t = true ∧ listed.getD t false = true
/-- what has come up, came behind what it waits for -/
def Closed (md : Region.Mode) (ops : Array Oper) (listed : Array Bool) : Prop :=
  ∀ j oj, ops[j]? = some oj → listed.getD j false = true → ∀ e ∈ oj.after, Region.binds md e = true → listed.getD e.on false = true
/-- whatever order is picked from here on -/
def AnyK (P : Program) (md : Region.Mode) (ops : Array Oper) (Q : Exit → Act → World → Prop) (late : Nat → Bool) (w0 : World) : Nat → Array Bool → Act → World → Prop
  | 0, listed, a, w => Region.ready md ops listed = [] ∧ Q .normal a w
  | fuel + 1, listed, a, w =>
    (Region.ready md ops listed = [] → Q .normal a w) ∧
    ∀ i ∈ Region.ready md ops listed, wpOp P ops Q i (fun a' w' => Kept late w0 (listed.setIfInBounds i true) w' ∧ AnyK P md ops Q late w0 fuel (listed.setIfInBounds i true) a' w') a w

theorem any_of_K : ∀ (fuel : Nat) (listed : Array Bool) (a : Act) (w : World), AnyK P md ops Q late w0 fuel listed a w → wpAny P md ops Q fuel listed a w
  | 0, _, _, _, h => h
  | fuel + 1, _, _, _, h => ⟨h.1, fun i hi => wpOp_mono (fun a' w' h' => any_of_K fuel _ a' w' h'.2) (h.2 i hi)⟩

theorem Closed.set {i : Nat} {listed : Array Bool} (h : Closed md ops listed) (hi : i ∈ Region.ready md ops listed) : Closed md ops (listed.setIfInBounds i true) := by
  obtain ⟨_, oi, hoi, hall⟩ := mem_ready.1 hi
  intro j oj hj hl e he hb
  by_cases hij : i = j
  · subst hij
    obtain rfl : oj = oi := Option.some.inj (hj.symm.trans hoi)
    exact getD_set_true (hall e he hb)
  · rw [getD_set_ne false hij] at hl
    exact getD_set_true (h j oj hj hl e he hb)

/-- no late operation has come up if number i, which is ahead of each, has not -/
theorem Kept.below {i : Nat} {listed : Array Bool} {w : World} (hk : Kept late w0 listed w) (hun : listed.getD i true = false)
    (hl : ∀ t, late t = true → listed.getD t false = true → listed.getD i false = true) : Below w0.heap.size w0 w := by
  rcases hk with h | ⟨t, h1, h2⟩
  · exact h
  · have h3 := hl t h1 h2
    rcases Nat.lt_or_ge i listed.size with h' | h'
    · simp [h'] at hun h3; rw [hun] at h3; cases h3
    · simp [Array.getElem?_eq_none h'] at h3

theorem Kept.more {i : Nat} {listed : Array Bool} {w : World} (hk : Kept late w0 listed w) : Kept late w0 (listed.setIfInBounds i true) w := by
  rcases hk with h | ⟨t, h1, h2⟩
  · exact .inl h
  · exact .inr ⟨t, h1, getD_set_true h2⟩

/-- **An operation that only reads may be taken first.** -/
theorem anyK_first {i : Nat} {oi : Oper} {v : Value} (hi : ops[i]? = some oi) (hsel : ∀ (j : Nat) (o : Oper) cs b, ops[j]? = some o → o.op ≠ .select cs b)
    (hQ : ∀ c a w, Q (.panic c) (a.put oi.dst v) w → Q (.panic c) a w)
    (S : World → Prop) (hl : ∀ listed w, Closed md ops listed → listed.getD i true = false → Kept late w0 listed w → S w) (hli : late i = false) :
    ∀ (fuel : Nat) (listed : Array Bool) (a : Act) (w : World), Closed md ops listed →
      (∀ j oj, ops[j]? = some oj → j ≠ i → listed.getD j true = false → (∀ e ∈ oj.after, Region.binds md e = true → e.on ≠ i) → oi.apart ops oj = true) →
      i ∈ Region.ready md ops listed → YieldsIf P ops S oi v a → Kept late w0 listed w →
      AnyK P md ops Q late w0 fuel (listed.setIfInBounds i true) (a.put oi.dst v) w → AnyK P md ops Q late w0 (fuel + 1) listed a w := by
  intro fuel
  induction fuel with
  | zero =>
    intro listed a w hcl _ hr hy hS H
    have hun := (mem_ready.1 hr).1
    refine ⟨fun h => (by rw [h] at hr; cases hr), fun j hj => ?_⟩
    by_cases hji : j = i
    · subst hji
      exact hy.wpOp hi (hl _ _ hcl hun hS) ⟨hS.more, H⟩
    · have := ready_mono hj hji
      rw [H.1] at this
      cases this
  | succ fuel ih =>
    intro listed a w hcl hfree hr hy hS H
    have hun := (mem_ready.1 hr).1
    refine ⟨fun h => (by rw [h] at hr; cases hr), fun j hj => ?_⟩
    by_cases hji : j = i
    · subst hji; exact hy.wpOp hi (hl _ _ hcl hun hS) ⟨hS.more, H⟩
    · have h1 := H.2 j (ready_mono hj hji)
      obtain ⟨hjun, oj, hoj, hall⟩ := mem_ready.1 hj
      have hnot : ∀ e ∈ oj.after, Region.binds md e = true → e.on ≠ i := fun e he hb' heq => by
        have h1 := hall e he hb'
        rw [heq] at h1
        rcases Nat.lt_or_ge i listed.size with h' | h'
        · simp [h'] at hun h1; rw [hun] at h1; cases h1
        · simp [Array.getElem?_eq_none h'] at h1
      have h2 := wpOp_putIf hoj (hfree j oj hoj hji hjun hnot) (fun cs b => hsel i oi cs b hi) (fun cs b => hsel j oj cs b hoj) hQ hy h1
      have hfree' : ∀ k ok, ops[k]? = some ok → k ≠ i → (listed.setIfInBounds j true).getD k true = false →
          (∀ e ∈ ok.after, Region.binds md e = true → e.on ≠ i) → oi.apart ops ok = true := fun k ok hk hki hun hno => by
        refine hfree k ok hk hki ?_ hno
        by_cases hjk : j = k
        · subst hjk; exact hjun
        · rw [getD_set_ne true hjk] at hun; exact hun
      have hcl' := hcl.set hj
      have hki : ∀ w', Kept late w0 ((listed.setIfInBounds i true).setIfInBounds j true) w' → Kept late w0 (listed.setIfInBounds j true) w' := fun w' hk => by
        rcases hk with hk | ⟨t, ht, hlt⟩
        · exact .inl hk
        · refine .inr ⟨t, ht, ?_⟩
          have hti : i ≠ t := fun h => by rw [← h, hli] at ht; cases ht
          rw [Array.setIfInBounds_comm _ _ (Ne.symm hji), getD_set_ne false hti] at hlt
          exact hlt
      refine wpOp_mono (fun a' w' h3 => ⟨hki w' h3.2.1, ih (listed.setIfInBounds j true) a' w' hcl' hfree' (ready_mono hr (Ne.symm hji)) h3.1 (hki w' h3.2.1) ?_⟩) h2
      rw [Array.setIfInBounds_comm _ _ hji]
      exact h3.2.2

theorem anyK_base {late' : Nat → Bool} {w1 : World} (hk : ∀ listed w, Kept late' w1 listed w → Kept late w0 listed w) : ∀ {fuel : Nat} {listed : Array Bool} {a : Act} {w : World}, AnyK P md ops Q late' w1 fuel listed a w → AnyK P md ops Q late w0 fuel listed a w
  | 0, _, _, _, h => h
  | _ + 1, _, _, _, h => ⟨h.1, fun i hi => wpOp_mono (fun _ _ h' => ⟨hk _ _ h'.1, anyK_base hk h'.2⟩) (h.2 i hi)⟩

theorem anyK_late {late' : Nat → Bool} {w1 : World} : ∀ {fuel : Nat} {listed : Array Bool} {a : Act} {w : World}, (∃ t, late t = true ∧ listed.getD t false = true) → AnyK P md ops Q late' w1 fuel listed a w → AnyK P md ops Q late w0 fuel listed a w
  | 0, _, _, _, _, h => h
  | _ + 1, _, _, _, ⟨t, ht, hl⟩, h => ⟨h.1, fun i hi => wpOp_mono (fun _ _ h' => ⟨.inr ⟨t, ht, getD_set_true hl⟩, anyK_late ⟨t, ht, getD_set_true hl⟩ h'.2⟩) (h.2 i hi)⟩

/-- it hands back the same in every world -/
def freeOp : Op → Bool
  | .move _ | .assign _ | .extract .. => true
  | _ => false
theorem free_run {ρ : Operand → Value} {o : Oper} {w w' : World} {v : Value} (hf : freeOp o.op = true) (h : (execOp ρ o).run P w = .ok (.value v) w) : (execOp ρ o).run P w' = .ok (.value v) w' := by
  unfold execOp at *
  cases ho : o.op with
  | move x => simp only [ho, Sem.run_pure] at *; cases h; rfl
  | assign x => simp only [ho, Sem.run_pure] at *; cases h; rfl
  | extract t ix =>
    simp only [ho, Sem.run_bind] at *
    unfold Instr.extract at *
    split at h
    · split at h
      · simp only [Sem.run_pure, Result.andThen_ok] at *; cases h; rfl
      · simp [stuck] at h
    · simp [stuck] at h
  | _ => simp [freeOp, ho] at hf

/-- number y waits for number x -/
def waitsB (ops : Array Oper) (y x : Nat) : Bool :=
  match ops[y]? with
  | some o => o.after.any fun e => Region.binds .any e && e.on == x
  | none => false
/-- what is ahead of the numbers in U, below x -/
def aheadL (ops : Array Oper) : Nat → List Nat → List Nat
  | 0, U => U
  | x + 1, U => aheadL ops x (if U.any fun y => waitsB ops y x then x :: U else U)
theorem aheadL_listed {ops : Array Oper} {listed : Array Bool} (hc : Closed .any ops listed) : ∀ (x : Nat) (U : List Nat), (∀ y ∈ U, listed.getD y false = true) → ∀ y ∈ aheadL ops x U, listed.getD y false = true
  | 0, _, h => h
  | x + 1, U, h => by
    refine aheadL_listed hc x _ ?_
    split
    · rename_i hU
      intro y hy
      rcases List.mem_cons.1 hy with rfl | hy
      · obtain ⟨z, hz, hw⟩ := List.any_eq_true.1 hU
        unfold waitsB at hw
        cases ho : ops[z]? with
        | none => rw [ho] at hw; cases hw
        | some o =>
          rw [ho] at hw
          obtain ⟨e, he, hb⟩ := Array.any_eq_true'.1 hw
          simp only [Bool.and_eq_true, beq_iff_eq] at hb
          have := hc z o ho (h z hz) e he hb.1
          rw [hb.2] at this
          exact this
      · exact h y hy
    · exact h
/-- each of A is ahead of each late operation -/
def aheadB (ops : Array Oper) (ls A : List Nat) : Bool := ls.all fun t => let U := aheadL ops t [t]; A.all fun i => U.contains i
/-- number i may be taken first -/
def takeB (ops : Array Oper) (ls A : List Nat) (i : Nat) (listed : Array Bool) : Bool :=
  (Region.ready .any ops listed).contains i && Region.free .any ops listed i && !ls.contains i &&
    match ops[i]? with
    | some o => plainOp o.op && (freeOp o.op || ls.isEmpty || A.contains i)
    | none => false
def closedB (ops : Array Oper) (listed : Array Bool) : Bool :=
  (List.range ops.size).all fun j => !listed.getD j false || match ops[j]? with
    | some o => o.after.all fun e => !Region.binds .any e || listed.getD e.on false
    | none => true
theorem closed_of {ops : Array Oper} {listed : Array Bool} (h : closedB ops listed = true) : Closed .any ops listed := by
  intro j oj hj hl e he hb
  have hlt : j < ops.size := (Array.getElem?_eq_some_iff.1 hj).1
  have h1 := List.all_eq_true.1 h j (List.mem_range.2 hlt)
  rw [hl, hj] at h1
  simp only [Bool.not_true, Bool.false_or] at h1
  have h2 := Array.all_eq_true_iff_forall_mem.1 h1 e he
  rw [hb] at h2
  simpa using h2
def takesB (ops : Array Oper) (ls A : List Nat) : Nat → Nat → Array Bool → Bool
  | 0, _, _ => true
  | k + 1, i, listed => takeB ops ls A i listed && takesB ops ls A k (i + 1) (listed.setIfInBounds i true)
def setN : Nat → Nat → Array Bool → Array Bool
  | 0, _, listed => listed
  | k + 1, i, listed => setN k (i + 1) (listed.setIfInBounds i true)

/-- whatever order is picked from here on; ls: the operations that may change what was there -/
def AnyN (P : Program) (ops : Array Oper) (Q : Exit → Act → World → Prop) (ls : List Nat) (fuel : Nat) (listed : Array Bool) (a : Act) (w : World) : Prop :=
  Closed .any ops listed → Region.noSelect ops = true → AnyK P .any ops Q (ls.contains ·) w fuel listed a w

theorem anyN_quiet {l : List Oper} {ls : List Nat} (A : List Nat) {fuel : Nat} {w : World} (hA : aheadB l.toArray ls A = true) (hQ : ∀ c a d v w, Q (.panic c) (Act.put a d v) w → Q (.panic c) a w) :
    ∀ (k i : Nat) (listed : Array Bool) (a : Act), takesB l.toArray ls A k i listed = true →
      wpQuiet P l.toArray (fun w' => ∃ x : In w, w' = x.w) (fun a' => AnyN P l.toArray Q ls fuel (setN k i listed) a' w) ((l.drop i).take k) a → AnyN P l.toArray Q ls (fuel + k) listed a w
  | 0, i, listed, a, _, h => by simpa [wpQuiet, setN] using h
  | k + 1, i, listed, a, hB, h => by
    intro hcl hns
    simp only [takesB, Bool.and_eq_true] at hB
    obtain ⟨h1, h2⟩ := hB
    unfold takeB at h1
    cases ho : l[i]? with
    | none => simp [ho] at h1
    | some o =>
      simp only [List.getElem?_toArray, ho, Bool.and_eq_true, Bool.or_eq_true] at h1
      obtain ⟨⟨⟨hr, hf⟩, hli⟩, hp, hfw⟩ := h1
      have hlt : i < l.length := (List.getElem?_eq_some_iff.1 ho).1
      have hd : (l.drop i).take (k + 1) = o :: (l.drop (i + 1)).take k := by
        rw [List.drop_eq_getElem_cons hlt, List.take_succ_cons]
        have := (List.getElem?_eq_some_iff.1 ho).2
        rw [this]
      rw [hd] at h
      have ho' : l.toArray[i]? = some o := by rw [List.getElem?_toArray]; exact ho
      have hr' : i ∈ Region.ready .any l.toArray listed := by simpa using hr
      have hst : qOp P l.toArray (fun w' => ∃ x : In w, w' = x.w) i (wpQuiet P l.toArray (fun w' => ∃ x : In w, w' = x.w) (fun a' => AnyN P l.toArray Q ls fuel (setN (k + 1) i listed) a' w) ((l.drop (i + 1)).take k)) a := by
        unfold qOp; simp only [ho']; exact h
      obtain ⟨v, hy, hK⟩ := yieldsIn_of_qOp ho' hst
      have key : ∀ w', (∃ x : In w, w' = x.w) → Region.wanted o (yielded l.toArray a.tmps) = true → (execOp a.eval o).run P w' = .ok (.value v) w' := fun w' hw' hwant => by
        rcases hy with ⟨_, hy⟩ | ⟨hn, _⟩
        · have hq := hy w' hw'
          unfold Oper.quietAt at hq
          cases hrun : (execOp a.eval o).run P w' with
          | ok n w2 =>
            rw [hrun] at hq
            obtain ⟨u, rfl⟩ := plain_value hp hrun
            simp only [Oper.quietUpon] at hq
            rw [hq.1, hq.2]
          | halt x w2 => rw [hrun] at hq; simp [Oper.quietUpon] at hq
        · rw [hn] at hwant; cases hwant
      have next := anyN_quiet (ls := ls) A (fuel := fuel) hA hQ k (i + 1) (listed.setIfInBounds i true) (a.put o.dst v) h2 hK (hcl.set hr') hns
      have base : ∃ x : In w, w = x.w := ⟨⟨w, Below.refl _ _⟩, rfl⟩
      have hkept : Kept (ls.contains ·) w listed w := .inl (Below.refl _ _)
      have hli' : ls.contains i = false := by simpa using hli
      rcases hfw with (hfr | hle) | hwt
      · refine anyK_first ho' (Region.noSelect_spec hns) (fun c a w h => hQ c a _ _ w h) (fun _ => True) (fun _ _ _ _ _ => trivial) hli' (fuel + k) listed a w hcl (Region.free_spec ho' hf) hr' ?_ hkept next
        by_cases hwant : Region.wanted o (yielded l.toArray a.tmps) = true
        · exact .inl ⟨hwant, fun w' _ => free_run hfr (key w base hwant)⟩
        · refine .inr ⟨by simpa using hwant, ?_⟩
          rcases hy with ⟨h, _⟩ | ⟨_, h⟩
          · exact absurd h hwant
          · exact h
      · refine anyK_first ho' (Region.noSelect_spec hns) (fun c a w h => hQ c a _ _ w h) (fun w' => Below w.heap.size w w') (fun listed' w' hc hun hk => hk.below hun fun t ht _ => ?_) hli' (fuel + k) listed a w hcl (Region.free_spec ho' hf) hr' ?_ hkept next
        · have : ls = [] := by simpa using hle
          rw [this] at ht
          cases ht
        · by_cases hwant : Region.wanted o (yielded l.toArray a.tmps) = true
          · exact .inl ⟨hwant, fun w' hw' => key w' ⟨⟨w', hw'⟩, rfl⟩ hwant⟩
          · refine .inr ⟨by simpa using hwant, ?_⟩
            rcases hy with ⟨h, _⟩ | ⟨_, h⟩
            · exact absurd h hwant
            · exact h
      · refine anyK_first ho' (Region.noSelect_spec hns) (fun c a w h => hQ c a _ _ w h) (fun w' => Below w.heap.size w w') (fun listed' w' hc hun hk => hk.below hun fun t ht hlt => ?_) hli' (fuel + k) listed a w hcl (Region.free_spec ho' hf) hr' ?_ hkept next
        · have h3 := List.all_eq_true.1 hA t (by simpa using ht)
          have h4 := List.all_eq_true.1 h3 i (by simpa using hwt)
          exact aheadL_listed hc t [t] (fun y hy => by rw [List.mem_singleton.1 hy]; exact hlt) i (by simpa using h4)
        · by_cases hwant : Region.wanted o (yielded l.toArray a.tmps) = true
          · exact .inl ⟨hwant, fun w' hw' => key w' ⟨⟨w', hw'⟩, rfl⟩ hwant⟩
          · refine .inr ⟨by simpa using hwant, ?_⟩
            rcases hy with ⟨h, _⟩ | ⟨_, h⟩
            · exact absurd h hwant
            · exact h

theorem lets_then {K : Act → World → Prop} {Q : Exit → Act → World → Prop} (h : LetsOut (Exit.then K Q)) : LetsOut Q := by
  obtain ⟨a, w, h⟩ := h
  exact ⟨a, w, h⟩

theorem wpOp_of_list {P : Program} {l : List Oper} {Q : Exit → Act → World → Prop} {K : Act → World → Prop} {i : Nat} {o : Oper} {a : Act} {w : World} (ho : l.toArray[i]? = some o)
    (h : wpList P l.toArray (Exit.then K Q) [o] a w) : wpOp P l.toArray Q i K a w := by
  unfold wpOp
  simp only [ho]
  unfold wpList at h
  split
  · rename_i hw
    simp only [hw, if_true] at h
    rcases h with h | ⟨h1, h2⟩
    · refine .inl ?_
      unfold Oper.wp at *
      generalize (execOp a.eval o).run P w = r at *
      cases r with
      | ok n w' =>
        cases n <;> simp only [Oper.upon] at h ⊢ <;> first
          | exact h
          | (refine Calls.mono h fun e w'' he => ?_; cases e <;> first | exact he | exact lets_then he)
      | halt x w' => cases x <;> simp only [Oper.upon] at h ⊢ <;> exact h
    · exact .inr ⟨h1, lets_then h2⟩
  · rename_i hw
    simp only [hw] at h
    exact h

/-- the only operation that may come up now: it leaves all that was there as it is -/
theorem anyN_loud {P : Program} {l : List Oper} {Q : Exit → Act → World → Prop} {ls : List Nat} {fuel : Nat} {listed : Array Bool} {a : Act} {w : World} (i : Nat) (hr : Region.ready .any l.toArray listed = [i])
    (h : ∀ K : Act → World → Prop, Shut (∀ a' w', Below w.heap.size w w' → AnyN P l.toArray Q ls fuel (listed.setIfInBounds i true) a' w' → K a' w') → wpList P l.toArray (Exit.then K Q) ((l.drop i).take 1) a w) :
    AnyN P l.toArray Q ls (fuel + 1) listed a w := by
  intro hcl hns
  refine ⟨fun h0 => absurd (hr ▸ h0) (by simp), fun j hj => ?_⟩
  have hji : j = i := by rw [hr] at hj; simpa using hj
  subst hji
  obtain ⟨_, o, ho, _⟩ := mem_ready.1 hj
  have hol : l[j]? = some o := by rw [List.getElem?_toArray] at ho; exact ho
  have hlt : j < l.length := (List.getElem?_eq_some_iff.1 hol).1
  have hd : (l.drop j).take 1 = [o] := by
    rw [List.drop_eq_getElem_cons hlt, List.take_succ_cons, List.take_zero]
    have := (List.getElem?_eq_some_iff.1 hol).2
    rw [this]
  refine wpOp_of_list ho ?_
  rw [← hd]
  refine h _ fun a' w' hb hn => ⟨.inl hb, ?_⟩
  have h1 := hn (hcl.set hj) hns
  exact anyK_base (fun listed' w2 hk => hk.imp (fun h2 => hb.trans (h2.mono hb.size)) id) h1

/-- the only operation that may come up now: from here on nothing more is read of what was there -/
theorem anyN_late {P : Program} {l : List Oper} {Q : Exit → Act → World → Prop} {ls : List Nat} {fuel : Nat} {listed : Array Bool} {a : Act} {w : World} (i : Nat) (hr : Region.ready .any l.toArray listed = [i]) (hi : ls.contains i = true) (hsz : i < listed.size)
    (h : ∀ K : Act → World → Prop, Shut (∀ a' w', AnyN P l.toArray Q [] fuel (listed.setIfInBounds i true) a' w' → K a' w') → wpList P l.toArray (Exit.then K Q) ((l.drop i).take 1) a w) :
    AnyN P l.toArray Q ls (fuel + 1) listed a w := by
  intro hcl hns
  refine ⟨fun h0 => absurd (hr ▸ h0) (by simp), fun j hj => ?_⟩
  have hji : j = i := by rw [hr] at hj; simpa using hj
  subst hji
  obtain ⟨_, o, ho, _⟩ := mem_ready.1 hj
  have hol : l[j]? = some o := by rw [List.getElem?_toArray] at ho; exact ho
  have hlt : j < l.length := (List.getElem?_eq_some_iff.1 hol).1
  have hd : (l.drop j).take 1 = [o] := by
    rw [List.drop_eq_getElem_cons hlt, List.take_succ_cons, List.take_zero]
    have := (List.getElem?_eq_some_iff.1 hol).2
    rw [this]
  refine wpOp_of_list ho ?_
  rw [← hd]
  have hset : (listed.setIfInBounds j true).getD j false = true := by simp [hsz]
  refine h _ fun a' w' hn => ⟨.inr ⟨j, hi, hset⟩, ?_⟩
  have h1 := hn (hcl.set hj) hns
  exact anyK_late ⟨j, hi, hset⟩ h1

theorem anyN_done {P : Program} {l : List Oper} {Q : Exit → Act → World → Prop} {ls : List Nat} {listed : Array Bool} {a : Act} {w : World} (hr : Region.ready .any l.toArray listed = []) (h : Q .normal a w) :
    AnyN P l.toArray Q ls 0 listed a w := fun _ _ => ⟨hr, h⟩

/-- the beginning -/
theorem wp_region_stage {P : Program} {id : Nat} {Q : Exit → Act → World → Prop} {a : Act} {w : World} {l : List Oper} (ls : List Nat) (n : Nat) (hm : P.follows .mixedOrders = true) (hn : l.length = n) (hs : Region.noSelect l.toArray = true)
    (h0 : ∀ w1, Below w.heap.size w w1 → AnyN P l.toArray Q ls n (Array.replicate n false) a w1) : (Code.region id l.toArray true).wp P Q a w := by
  have h := h0 w.drew (Below.refl _ _).drew
  subst hn
  refine wp_region_any hm ?_
  have h1 := h (fun j oj _ hl => by
    exfalso
    rcases Nat.lt_or_ge j l.length with h' | h'
    · simp [h'] at hl
    · simp [h'] at hl) hs
  have h2 := any_of_K _ _ _ _ h1
  simpa using h2
end
end Go.Proofs.Ytfkeddefajkobaa
