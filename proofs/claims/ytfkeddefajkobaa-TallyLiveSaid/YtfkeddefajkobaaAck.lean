/- This text gives the small machine's codes and proves that a function does what its code says ('PF.of', 'HF.of'). It has no condition of its own. -/
import Derived.Test.YtfkeddefajkobaaAcj
import Derived.Scope
import Derived.KernelRfl
set_option linter.unusedSimpArgs false
set_option linter.unusedVariables false
namespace Go.Proofs.Ytfkeddefajkobaa
open Go.RowKit

inductive AC where
  | skip
  | region (id : Nat) (ops : List AO)
  | draw (id : Nat) (t : ASch)
  | seq (a b : AC)
  | cond (c : Nat) (a b : AC)
  | block (id : Nat) (a : AC)
  | loop (a : AC)
  | exit (id : Nat)
  | scope (a : AC)
  | ret
def cco (P : Program) (N : Nat) (hw : List FuncId) : Code → Option AC
  | .skip => some .skip
  | .label _ => some .skip
  | .region id ops false => (copers P N ops ops.toList).map fun r => .region id r
  | .region id ops true => if Region.noSelect ops then (planS P N ops ops.size (Array.replicate ops.size false) (lates hw ops)).map fun t => .draw id t else none
  | .seq a b => match cco P N hw a, cco P N hw b with
    | some x, some y => some (.seq x y)
    | _, _ => none
  | .cond (.tmp t) a b => match cco P N hw a, cco P N hw b with
    | some x, some y => some (.cond t x y)
    | _, _ => none
  | .block id a => (cco P N hw a).map (.block id)
  | .loop a => (cco P N hw a).map .loop
  | .exit id => some (.exit id)
  | .scope a => (cco P N hw a).map .scope
  | .ret => some .ret
  | _ => none
inductive AR where
  | t (n : Nat)
  | c (p : Nat) (ag : Bool) (n : Nat)
def cres (P : Program) : List ResultVar → Option (List AR)
  | [] => some []
  | .tmp t :: r => (cres P r).map (.t t :: ·)
  | .cell p ty :: r => match agT P ty, szT P ty, cres P r with
    | some a, some n, some l => some (.c p a n :: l)
    | _, _, _ => none
structure AF where
  code : AC
  res : List AR
  n : Nat
def cfun (P : Program) (hw : List FuncId) (f : FuncId) : Option AF :=
  match P.funcs[f]? with
  | some fn => if fn.name == "runtime.NumGoroutine" then none else match fn.body with
    | some c => match cco P fn.ntmps hw c, cres P fn.results.toList with
      | some c, some r => some ⟨c, r, fn.ntmps⟩
      | _, _ => none
    | none => none
  | none => none

/-! ### Codes -/
inductive Ex where
  | normal
  | exit (id : Nat)
  | ret
def Lift (B : Base) (Q : Ex → St → Prop) : Exit → Act → World → Prop
  | .normal, a, w => ∃ st s Z, Q .normal st ∧ Rel B s Z st a w
  | .exit id, a, w => ∃ st s Z, Q (.exit id) st ∧ Rel B s Z st a w
  | .ret, a, w => ∃ st s Z, Q .ret st ∧ Rel B s Z st a w
  | _, _, _ => False
/-- this code, begun so, ends as Q says -/
def W (P : Program) (B : Base) (hw : List FuncId) (c : AC) (Q : Ex → St → Prop) (st : St) : Prop :=
  P.follows .mixedOrders = true → ∀ code, cco P B.N hw code = some c → ∀ s Z a w, Rel B s Z st a w → code.wp P (Lift B Q) a w
/-- what is known may be put otherwise -/
def Gh (B : Base) (st st1 : St) : Prop := ∀ s Z a w, Rel B s Z st a w → ∃ s' Z', Rel B s' Z' st1 a w

def keep (ks : List Nat) : List (Nat × D) → List (Nat × D)
  | [] => []
  | (k, d) :: l => if ks.contains k then (k, d) :: keep ks l else keep ks l
def trim (ks : List Nat) (st : St) : St := ⟨keep ks st.env, st.heap, st.nx⟩
theorem eget_keep (ks : List Nat) (k : Nat) : ∀ (l : List (Nat × D)), eget (keep ks l) k = eget l k ∨ eget (keep ks l) k = .any
  | [] => .inr rfl
  | (j, d) :: l => by
    simp only [keep]
    split
    · simp only [eget]
      split
      · exact .inl rfl
      · exact eget_keep ks k l
    · rename_i hj
      by_cases h : k = j
      · subst h
        right
        have : ∀ l : List (Nat × D), eget (keep ks l) k = .any := fun l => by
          induction l with
          | nil => rfl
          | cons p l ih =>
            obtain ⟨i, e⟩ := p
            simp only [keep]
            split
            · rename_i hi
              have : k ≠ i := by rintro rfl; exact hj hi
              simp only [eget, if_neg this, ih]
            · exact ih
        exact this l
      · simp only [eget, if_neg h]; exact eget_keep ks k l
section
variable {P : Program} {B : Base} {hw : List FuncId} {Q Q' : Ex → St → Prop} {st st1 : St} {s : Nat → Value} {Z : Cells} {a : Act} {w : World}
theorem Rel.trim (h : Rel B s Z st a w) (ks : List Nat) : Rel B s Z (Go.Proofs.Ytfkeddefajkobaa.trim ks st) a w where
  env k := by
    rcases eget_keep ks k st.env with h1 | h1
    · simp only [Go.Proofs.Ytfkeddefajkobaa.trim, h1]; exact h.env k
    · simp only [Go.Proofs.Ytfkeddefajkobaa.trim, h1]; trivial
  elt k := by
    rcases eget_keep ks k st.env with h1 | h1
    · simp only [Go.Proofs.Ytfkeddefajkobaa.trim, h1]; exact h.elt k
    · simp only [Go.Proofs.Ytfkeddefajkobaa.trim, h1]; trivial
  size := h.size
  defers := h.defers
  h := h.h
theorem Gh.refl (st : St) : Gh B st st := fun s Z _ _ h => ⟨s, Z, h⟩
theorem Gh.trans {st2 : St} (h : Gh B st st1) (g : Gh B st1 st2) : Gh B st st2 := fun s Z a w hr => by
  obtain ⟨s', Z', h'⟩ := h s Z a w hr
  exact g s' Z' a w h'
theorem Gh.trim (ks : List Nat) : Gh B st (trim ks st) := fun s Z _ _ h => ⟨s, Z, h.trim ks⟩
theorem Lift.mono (hq : ∀ e st, Q e st → Q' e st) {e : Exit} {a : Act} {w : World} (h : Lift B Q e a w) : Lift B Q' e a w := by
  cases e <;> first | exact h.elim | (obtain ⟨st, s, Z, h1, h2⟩ := h; exact ⟨st, s, Z, hq _ _ h1, h2⟩)
theorem W.mono {c : AC} (h : W P B hw c Q st) (hq : ∀ e st, Q e st → Q' e st) : W P B hw c Q' st := fun hm code hc s Z a w hr => wp_mono (h hm code hc s Z a w hr) fun _ _ _ => Lift.mono hq
theorem W.gh {c : AC} (hg : Gh B st st1) (h : W P B hw c Q st1) : W P B hw c Q st := fun hm code hc s Z a w hr => by
  obtain ⟨s', Z', hr'⟩ := hg s Z a w hr
  exact h hm code hc s' Z' a w hr'

def seqQ (next : St → Prop) (Q : Ex → St → Prop) : Ex → St → Prop
  | .normal, st => next st
  | e, st => Q e st
def blockQ (id : Nat) (Q : Ex → St → Prop) : Ex → St → Prop
  | .exit id', st => if id' = id then Q .normal st else Q (.exit id') st
  | e, st => Q e st

theorem W.skip (h : Q .normal st) : W P B hw .skip Q st := fun _ code hc s Z a w hr => by
  cases code with
  | skip => exact wp_skip ⟨st, s, Z, h, hr⟩
  | label l => exact wp_label ⟨st, s, Z, h, hr⟩
  | region id ops d => cases d <;> simp only [cco] at hc <;> (try split at hc) <;> simp at hc
  | seq x y => simp only [cco] at hc; split at hc <;> simp at hc
  | cond c x y => cases c <;> simp only [cco] at hc <;> (try split at hc) <;> simp at hc
  | block id x => simp [cco] at hc
  | loop x => simp [cco] at hc
  | scope x => simp [cco] at hc
  | _ => simp [cco] at hc
theorem W.ret (h : Q .ret st) : W P B hw .ret Q st := fun _ code hc s Z a w hr => by
  cases code with
  | ret => exact wp_ret ⟨st, s, Z, h, hr⟩
  | region id ops d => cases d <;> simp only [cco] at hc <;> (try split at hc) <;> simp at hc
  | seq x y => simp only [cco] at hc; split at hc <;> simp at hc
  | cond c x y => cases c <;> simp only [cco] at hc <;> (try split at hc) <;> simp at hc
  | _ => simp [cco] at hc
theorem W.exit {id : Nat} (h : Q (.exit id) st) : W P B hw (.exit id) Q st := fun _ code hc s Z a w hr => by
  cases code with
  | exit i => simp only [cco, Option.some.injEq, AC.exit.injEq] at hc; subst hc; exact wp_exit ⟨st, s, Z, h, hr⟩
  | region id ops d => cases d <;> simp only [cco] at hc <;> (try split at hc) <;> simp at hc
  | seq x y => simp only [cco] at hc; split at hc <;> simp at hc
  | cond c x y => cases c <;> simp only [cco] at hc <;> (try split at hc) <;> simp at hc
  | _ => simp [cco] at hc
theorem W.seq {x y : AC} (h : W P B hw x (seqQ (W P B hw y Q) Q) st) : W P B hw (.seq x y) Q st := fun hm code hc s Z a w hr => by
  cases code with
  | seq c d =>
    simp only [cco] at hc
    split at hc <;> simp only [Option.some.injEq, reduceCtorEq, AC.seq.injEq] at hc
    rename_i hx hy
    obtain ⟨rfl, rfl⟩ := hc
    refine wp_seq (wp_mono (h hm c hx s Z a w hr) fun e a' w' hl => ?_)
    cases e with
    | normal => obtain ⟨st', s', Z', h1, h2⟩ := hl; exact h1 hm d hy s' Z' a' w' h2
    | _ => exact hl
  | region id ops d => cases d <;> simp only [cco] at hc <;> (try split at hc) <;> simp at hc
  | cond c x y => cases c <;> simp only [cco] at hc <;> (try split at hc) <;> simp at hc
  | _ => simp [cco] at hc
theorem W.cond {c : Nat} {t : Bool} {x y : AC} (ht : eget st.env c = .bool t) (h1 : t = true → W P B hw x Q st) (h2 : t = false → W P B hw y Q st) : W P B hw (.cond c x y) Q st := fun hm code hc s Z a w hr => by
  cases code with
  | cond o p q =>
    cases o with
    | tmp k =>
      simp only [cco] at hc
      split at hc <;> simp only [Option.some.injEq, reduceCtorEq, AC.cond.injEq] at hc
      rename_i hx hy
      obtain ⟨rfl, rfl, rfl⟩ := hc
      have hv := hr.env k
      rw [ht] at hv
      have hb : a.eval (.tmp k) = .bool t := VR.bool_inv (s := s) (Z := Z) hv
      exact wp_cond_split hb (fun e => h1 e hm p hx s Z a w hr) (fun e => h2 e hm q hy s Z a w hr)
    | _ => simp [cco] at hc
  | region id ops d => cases d <;> simp only [cco] at hc <;> (try split at hc) <;> simp at hc
  | seq x y => simp only [cco] at hc; split at hc <;> simp at hc
  | _ => simp [cco] at hc
theorem W.block {id : Nat} {x : AC} (h : W P B hw x (blockQ id Q) st) : W P B hw (.block id x) Q st := fun hm code hc s Z a w hr => by
  cases code with
  | block i c =>
    simp only [cco, Option.map_eq_some_iff, AC.block.injEq] at hc
    obtain ⟨x', hx, rfl, rfl⟩ := hc
    refine wp_block (wp_mono (h hm c hx s Z a w hr) fun e a' w' hl => ?_)
    cases e with
    | exit j =>
      obtain ⟨st', s', Z', h1, h2⟩ := hl
      simp only [blockQ] at h1
      simp only [Exit.inBlock]
      split at h1
      · rename_i e; rw [if_pos e]; exact ⟨st', s', Z', h1, h2⟩
      · rename_i e; rw [if_neg e]; exact ⟨st', s', Z', h1, h2⟩
    | _ => exact hl
  | region id ops d => cases d <;> simp only [cco] at hc <;> (try split at hc) <;> simp at hc
  | seq x y => simp only [cco] at hc; split at hc <;> simp at hc
  | cond c x y => cases c <;> simp only [cco] at hc <;> (try split at hc) <;> simp at hc
  | _ => simp [cco] at hc
theorem W.scope {x : AC} (h : W P B hw x Q st) : W P B hw (.scope x) Q st := fun hm code hc s Z a w hr => by
  cases code with
  | scope c =>
    simp only [cco, Option.map_eq_some_iff, AC.scope.injEq] at hc
    obtain ⟨x', hx, rfl⟩ := hc
    refine wp_scope_straight (wp_mono (h hm c hx s Z a w hr) fun e a' w' hl => ?_)
    cases e <;> first | exact hl | exact hl.elim
  | region id ops d => cases d <;> simp only [cco] at hc <;> (try split at hc) <;> simp at hc
  | seq x y => simp only [cco] at hc; split at hc <;> simp at hc
  | cond c x y => cases c <;> simp only [cco] at hc <;> (try split at hc) <;> simp at hc
  | _ => simp [cco] at hc
theorem W.region {id : Nat} {ops : List AO} {K : St → Prop} (h : aops P B ops st K) (hK : ∀ st', K st' → ∃ st1, Gh B st' st1 ∧ Q .normal st1) : W P B hw (.region id ops) Q st := fun hm code hc s Z a w hr => by
  have fin : ∀ st' s' Z' a' w', K st' → Rel B s' Z' st' a' w' → Lift B Q .normal a' w' := fun st' s' Z' a' w' h1 h2 => by
    obtain ⟨st1, hg, hq⟩ := hK st' h1
    obtain ⟨s1, Z1, hr1⟩ := hg s' Z' a' w' h2
    exact ⟨st1, s1, Z1, hq, hr1⟩
  cases code with
  | region i os d =>
    cases d with
    | false =>
      simp only [cco, Option.map_eq_some_iff, AC.region.injEq] at hc
      obtain ⟨r, hr', rfl, rfl⟩ := hc
      exact wp_region_list (aops_sound os.toList r st s Z a w hr' hr h fin)
    | true => simp only [cco] at hc; split at hc <;> simp at hc
  | seq x y => simp only [cco] at hc; split at hc <;> simp at hc
  | cond c x y => cases c <;> simp only [cco] at hc <;> (try split at hc) <;> simp at hc
  | _ => simp [cco] at hc
theorem W.draw {id : Nat} {t : ASch} {K : St → Prop} (h : asch P B t st K) (hK : ∀ st', K st' → ∃ st1, Gh B st' st1 ∧ Q .normal st1) : W P B hw (.draw id t) Q st := fun hm code hc s Z a w hr => by
  have fin : ∀ st' s' Z' a' w', K st' → Rel B s' Z' st' a' w' → Lift B Q .normal a' w' := fun st' s' Z' a' w' h1 h2 => by
    obtain ⟨st1, hg, hq⟩ := hK st' h1
    obtain ⟨s1, Z1, hr1⟩ := hg s' Z' a' w' h2
    exact ⟨st1, s1, Z1, hq, hr1⟩
  cases code with
  | region i os d =>
    cases d with
    | false => simp [cco] at hc
    | true =>
      simp only [cco] at hc
      split at hc
      case isFalse => cases hc
      rename_i hns
      simp only [Option.map_eq_some_iff, AC.draw.injEq] at hc
      obtain ⟨r, hr', rfl, rfl⟩ := hc
      exact draw_sound hm hns hr' (fun c a d v w h => h.elim) fin hr h
  | seq x y => simp only [cco] at hc; split at hc <;> simp at hc
  | cond c x y => cases c <;> simp only [cco] at hc <;> (try split at hc) <;> simp at hc
  | _ => simp [cco] at hc
theorem least {p : Nat → Prop} (h : ∃ n, p n) : ∃ n, p n ∧ ∀ m, p m → n ≤ m := by
  obtain ⟨n, hn⟩ := h
  induction n using Nat.strongRecOn with
  | _ n ih =>
    by_cases h : ∃ m, m < n ∧ p m
    · obtain ⟨m, h1, h2⟩ := h; exact ih m h1 h2
    · exact ⟨n, hn, fun m hm => Nat.le_of_not_lt fun hl => h ⟨m, hl, hm⟩⟩
/-- a loop: I n: n rounds at most are to come -/
theorem W.loop {x : AC} (I : Nat → St → Prop) (h0 : ∃ n st1, Gh B st st1 ∧ I n st1) (hround : ∀ n st, I n st → W P B hw x (seqQ (fun st' => ∃ m st1, Gh B st' st1 ∧ m < n ∧ I m st1) Q) st) : W P B hw (.loop x) Q st := fun hm code hc s Z a w hr => by
  cases code with
  | loop c =>
    simp only [cco, Option.map_eq_some_iff, AC.loop.injEq] at hc
    obtain ⟨x', hx, rfl⟩ := hc
    classical
    let J : Nat → Act → World → Prop := fun n a w => ∃ st s Z, I n st ∧ Rel B s Z st a w
    let mu : Act → World → Nat := fun a w => if h : ∃ n, J n a w then Classical.choose (least h) else 0
    have hmu : ∀ a w (_ : ∃ n, J n a w), J (mu a w) a w ∧ ∀ n, J n a w → mu a w ≤ n := fun a w h => by
      have e : mu a w = Classical.choose (least h) := dif_pos h
      rw [e]
      exact Classical.choose_spec (least h)
    refine wp_loop (fun a w => ∃ n, J n a w) mu ?_ ?_
    · obtain ⟨n, st1, hg, hI⟩ := h0
      obtain ⟨s', Z', hr'⟩ := hg s Z a w hr
      exact ⟨n, st1, s', Z', hI, hr'⟩
    · intro a w hJ
      obtain ⟨⟨st1, s1, Z1, hI, hR1⟩, _⟩ := hmu a w hJ
      refine wp_mono (hround _ st1 hI hm c hx s1 Z1 a w hR1) fun e a' w' hl => ?_
      cases e with
      | normal =>
        obtain ⟨st', s', Z', ⟨m, st2, hg, hlt, hI2⟩, h2⟩ := hl
        obtain ⟨s2, Z2, hr2⟩ := hg s' Z' a' w' h2
        have hJ' : ∃ n, J n a' w' := ⟨m, st2, s2, Z2, hI2, hr2⟩
        exact ⟨hJ', Nat.lt_of_le_of_lt ((hmu a' w' hJ').2 m ⟨st2, s2, Z2, hI2, hr2⟩) hlt⟩
      | _ => exact hl
  | region id ops d => cases d <;> simp only [cco] at hc <;> (try split at hc) <;> simp at hc
  | seq x y => simp only [cco] at hc; split at hc <;> simp at hc
  | cond c x y => cases c <;> simp only [cco] at hc <;> (try split at hc) <;> simp at hc
  | _ => simp [cco] at hc

/-- the whole of a code at once; loops, and the regions with a number in 'stops', are left; ks: the slots that are kept behind a region -/
def acode (P : Program) (B : Base) (hw : List FuncId) (ks stops : List Nat) : AC → (Ex → St → Prop) → St → Prop
  | .skip, Q, st => Q .normal st
  | .region id ops, Q, st => if stops.contains id then W P B hw (.region id ops) Q st else aops P B ops st (fun st' => Q .normal (trim ks st'))
  | .draw id t, Q, st => if stops.contains id then W P B hw (.draw id t) Q st else asch P B t st (fun st' => Q .normal (trim ks st'))
  | .seq a b, Q, st => acode P B hw ks stops a (seqQ (acode P B hw ks stops b Q) Q) st
  | .cond c a b, Q, st => match eget st.env c with
    | .bool t => (t = true → acode P B hw ks stops a Q st) ∧ (t = false → acode P B hw ks stops b Q st)
    | _ => False
  | .block id a, Q, st => acode P B hw ks stops a (blockQ id Q) st
  | .loop a, Q, st => W P B hw (.loop a) Q st
  | .exit id, Q, st => Q (.exit id) st
  | .scope a, Q, st => acode P B hw ks stops a Q st
  | .ret, Q, st => Q .ret st
def TK (ks : List Nat) (Q : Ex → St → Prop) (st : St) : Prop := Q .normal (trim ks st)
theorem TK_at (ks : List Nat) (Q : Ex → St → Prop) (env : List (Nat × D)) (H : List (Nat × Ob)) (nx : Nat) : TK ks Q ⟨env, H, nx⟩ = Q .normal (trim ks ⟨env, H, nx⟩) := rfl
def OK (P : Program) (B : Base) (os : List AO) (K : St → Prop) (st : St) : Prop := aops P B os st K
theorem OK_at (os : List AO) (K : St → Prop) (env : List (Nat × D)) (H : List (Nat × Ob)) (nx : Nat) : OK P B os K ⟨env, H, nx⟩ = aops P B os ⟨env, H, nx⟩ K := rfl
theorem aops_nil (st : St) (K : St → Prop) : aops P B [] st K = K st := rfl
theorem aops_cons (o : AO) (os : List AO) (st : St) (K : St → Prop) : aops P B (o :: os) st K = astep P false B o st (OK P B os K) := rfl
def SK (P : Program) (B : Base) (r : ASch) (K : St → Prop) (st : St) : Prop := asch P B r st K
theorem SK_at (r : ASch) (K : St → Prop) (env : List (Nat × D)) (H : List (Nat × Ob)) (nx : Nat) : SK P B r K ⟨env, H, nx⟩ = asch P B r ⟨env, H, nx⟩ K := rfl
theorem asch_done (st : St) (K : St → Prop) : asch P B .done st K = K st := rfl
theorem asch_one (sb : Bool) (o : AO) (r : ASch) (st : St) (K : St → Prop) : asch P B (.one sb o r) st K = astep P sb B o st (SK P B r K) := rfl
theorem asch_two (l r : ASch) (st : St) (K : St → Prop) : asch P B (.two l r) st K = (asch P B l st K ∧ asch P B r st K) := rfl
theorem asch_top (st : St) (K : St → Prop) : asch P B .top st K = True := rfl
/-- the same, to be looked into when its state is known -/
def AK (P : Program) (B : Base) (hw : List FuncId) (ks stops : List Nat) (c : AC) (Q : Ex → St → Prop) (st : St) : Prop := acode P B hw ks stops c Q st
theorem AK_at (c : AC) (Q : Ex → St → Prop) (ks stops : List Nat) (env : List (Nat × D)) (H : List (Nat × Ob)) (nx : Nat) : AK P B hw ks stops c Q ⟨env, H, nx⟩ = acode P B hw ks stops c Q ⟨env, H, nx⟩ := rfl
theorem acode_seq (a b : AC) (Q : Ex → St → Prop) (ks stops : List Nat) (st : St) : acode P B hw ks stops (.seq a b) Q st = acode P B hw ks stops a (seqQ (AK P B hw ks stops b Q) Q) st := rfl
theorem acode_region (id : Nat) (ops : List AO) (Q : Ex → St → Prop) (ks stops : List Nat) (st : St) : acode P B hw ks stops (.region id ops) Q st = if stops.contains id then W P B hw (.region id ops) Q st else aops P B ops st (TK ks Q) := rfl
theorem acode_draw (id : Nat) (t : ASch) (Q : Ex → St → Prop) (ks stops : List Nat) (st : St) : acode P B hw ks stops (.draw id t) Q st = if stops.contains id then W P B hw (.draw id t) Q st else asch P B t st (TK ks Q) := rfl
/-- one of two, decided ahead of both -/
def CB (t : Bool) (a b : Prop) : Prop := (t = true → a) ∧ (t = false → b)
theorem CB_t (a b : Prop) : CB true a b = a := by simp [CB]
theorem CB_f (a b : Prop) : CB false a b = b := by simp [CB]
theorem CB_u (t : Bool) (a b : Prop) : CB t a b = ((t = true → a) ∧ (t = false → b)) := rfl
theorem acode_cond (c : Nat) (a b : AC) (Q : Ex → St → Prop) (ks stops : List Nat) (st : St) : acode P B hw ks stops (.cond c a b) Q st = match eget st.env c with
    | .bool t => CB t (acode P B hw ks stops a Q st) (acode P B hw ks stops b Q st)
    | _ => False := rfl
theorem aop_eq (sb : Bool) (g : Option Bool) (dst : Option Nat) (op : AOp) (st : St) (K : St → Prop) : aop P sb B g dst op st K =
  if isLoud op then
    match g with
    | none => aloud P sb B dst op st K
    | some c => CB c (aloud P sb B dst op st K) (K ⟨putO st.env dst (.opt false .any), st.heap, st.nx⟩)
  else
    match op with
    | .pick c x y => match evS st.env c with
      | .bool b => match pickV b (evS st.env x) (evS st.env y) with
        | some (p, d) => afin g dst ((gS st.env c = true ∧ (b = true → gS st.env x = true) ∧ (b = false → gS st.env y = true)) ∧ p) d st K
        | none => afin0 g dst st K
      | _ => afin0 g dst st K
    | .isnil ne x => match lenD st.heap (evS st.env x) with
      | some n => ∀ b : Bool, (0 < n → b = ne) → afin g dst (gS st.env x = true) (.bool b) st K
      | none => afin0 g dst st K
    | op => match qv (evS st.env) st.heap op with
      | some (p, d) => afin g dst (oks st.env op = true ∧ p) d st K
      | none => afin0 g dst st K := by cases g <;> cases op <;> rfl
theorem acode_block (id : Nat) (a : AC) (Q : Ex → St → Prop) (ks stops : List Nat) (st : St) : acode P B hw ks stops (.block id a) Q st = acode P B hw ks stops a (blockQ id Q) st := rfl
theorem acode_loop (a : AC) (Q : Ex → St → Prop) (ks stops : List Nat) (st : St) : acode P B hw ks stops (.loop a) Q st = W P B hw (.loop a) Q st := rfl
theorem acode_exit (id : Nat) (Q : Ex → St → Prop) (ks stops : List Nat) (st : St) : acode P B hw ks stops (.exit id) Q st = Q (.exit id) st := rfl
theorem acode_scope (a : AC) (Q : Ex → St → Prop) (ks stops : List Nat) (st : St) : acode P B hw ks stops (.scope a) Q st = acode P B hw ks stops a Q st := rfl
theorem acode_ret (Q : Ex → St → Prop) (ks stops : List Nat) (st : St) : acode P B hw ks stops .ret Q st = Q .ret st := rfl
theorem acode_skip (Q : Ex → St → Prop) (ks stops : List Nat) (st : St) : acode P B hw ks stops .skip Q st = Q .normal st := rfl
theorem seqQ_n (next : St → Prop) (Q : Ex → St → Prop) (st : St) : seqQ next Q .normal st = next st := rfl
theorem seqQ_e (next : St → Prop) (Q : Ex → St → Prop) (i : Nat) (st : St) : seqQ next Q (.exit i) st = Q (.exit i) st := rfl
theorem seqQ_r (next : St → Prop) (Q : Ex → St → Prop) (st : St) : seqQ next Q .ret st = Q .ret st := rfl
theorem blockQ_n (id : Nat) (Q : Ex → St → Prop) (st : St) : blockQ id Q .normal st = Q .normal st := rfl
theorem blockQ_e (id i : Nat) (Q : Ex → St → Prop) (st : St) : blockQ id Q (.exit i) st = if i = id then Q .normal st else Q (.exit i) st := rfl
theorem blockQ_r (id : Nat) (Q : Ex → St → Prop) (st : St) : blockQ id Q .ret st = Q .ret st := rfl
theorem acode_sound (ks stops : List Nat) : ∀ (c : AC) (Q : Ex → St → Prop) (st : St), acode P B hw ks stops c Q st → W P B hw c Q st
  | .skip, Q, st, h => W.skip h
  | .region id ops, Q, st, h => by
    simp only [acode] at h
    split at h
    · exact h
    · exact W.region h fun st' h => ⟨_, Gh.trim ks, h⟩
  | .draw id t, Q, st, h => by
    simp only [acode] at h
    split at h
    · exact h
    · exact W.draw h fun st' h => ⟨_, Gh.trim ks, h⟩
  | .seq a b, Q, st, h => W.seq ((acode_sound ks stops a _ st h).mono fun e st' h' => by
      cases e with
      | normal => exact acode_sound ks stops b Q st' h'
      | _ => exact h')
  | .cond c a b, Q, st, h => by
    simp only [acode] at h
    split at h
    · rename_i t ht
      exact W.cond ht (fun e => acode_sound ks stops a Q st (h.1 e)) (fun e => acode_sound ks stops b Q st (h.2 e))
    · exact h.elim
  | .block id a, Q, st, h => W.block (acode_sound ks stops a _ st h)
  | .loop a, Q, st, h => h
  | .exit id, Q, st, h => W.exit h
  | .scope a, Q, st, h => W.scope (acode_sound ks stops a Q st h)
  | .ret, Q, st, h => W.ret h

/-! ### Functions -/
def aresv (env : List (Nat × D)) (H : List (Nat × Ob)) : AR → Option (Prop × D)
  | .t n => some (gof (eget env n) = true, strip (eget env n))
  | .c p ag n => match qv (evS env) H (.load ag n (.t p)) with
    | some (q, d) => some (gof (eget env p) = true ∧ q, d)
    | none => none
def aresl (env : List (Nat × D)) (H : List (Nat × Ob)) : List AR → Option (Prop × List D)
  | [] => some (True, [])
  | r :: rs => match aresv env H r, aresl env H rs with
    | some (p, d), some (q, ds) => some (p ∧ q, d :: ds)
    | _, _ => none
def resD : List D → D
  | [d] => d
  | ds => .tup ds
/-- the end of a function: what it hands back -/
def Fin (res : List AR) (R : D → List (Nat × Ob) → Nat → Prop) : Ex → St → Prop
  | .exit _, _ => False
  | _, st => match aresl st.env st.heap res with
    | some (p, ds) => (p ∧ ds.all argOk = true) ∧ R (resD ds) st.heap st.nx
    | none => False
def envOf : Nat → List D → List (Nat × D)
  | _, [] => []
  | i, d :: ds => eput (envOf (i + 1) ds) i d
theorem eget_envOf : ∀ (ds : List D) (i k : Nat), eget (envOf i ds) k = if i ≤ k then ds.getD (k - i) .any else .any
  | [], i, k => by simp [envOf, eget]
  | d :: ds, i, k => by
    simp only [envOf, eget_eput, eget_envOf ds (i + 1) k]
    by_cases h : k = i
    · subst h; simp
    · rw [if_neg h]
      by_cases h1 : i + 1 ≤ k
      · rw [if_pos h1, if_pos (by omega)]
        have : k - i = (k - (i + 1)) + 1 := by omega
        rw [this, List.getD_cons_succ]
      · rw [if_neg h1, if_neg (by omega)]

theorem load_var {ty : TypeId} {q : Addr} {w : World} : (do loadVar ty (← asAddr (.pointer (some q))) : Sem Value).run P w = (Instr.loadAt ty (.pointer (some q))).run P w := by
  simp [Instr.loadAt, Instr.sureAddr, asAddr]
theorem res_run (h : Rel B s Z st a w) : ∀ (rs : List ResultVar) (ars : List AR) (p : Prop) (ds : List D), cres P rs = some ars → aresl st.env st.heap ars = some (p, ds) → p →
    ∃ vs : List Value, vs.length = ds.length ∧ (∀ j x, ds[j]? = some x → VR s Z x (vs.getD j undef)) ∧ (∀ d ∈ ds, LtR st.nx d) ∧
      (rs.mapM (m := Sem) fun | .tmp t => pure (a.tmps.getD t undef) | .cell q t => do loadVar t (← asAddr (a.tmps.getD q undef))).run P w = .ok vs w
  | [], ars, p, ds, hc, hr, hp => by
    simp only [cres, Option.some.injEq] at hc
    subst hc
    simp only [aresl, Option.some.injEq, Prod.mk.injEq] at hr
    obtain ⟨_, rfl⟩ := hr
    exact ⟨[], rfl, (fun j x hx => by simp at hx), (fun d hd => by simp at hd), by simp⟩
  | r :: rs, ars, p, ds, hc, hr, hp => by
    have key : ∃ ar ars', ars = ar :: ars' ∧ cres P rs = some ars' ∧ ∀ q d, aresv st.env st.heap ar = some (q, d) → q → ∃ v, VR s Z d v ∧ LtR st.nx d ∧ ((match r with | .tmp t => pure (a.tmps.getD t undef) | .cell q t => do loadVar t (← asAddr (a.tmps.getD q undef)) : Sem Value)).run P w = .ok v w := by
      cases r with
      | tmp t =>
        simp only [cres, Option.map_eq_some_iff] at hc
        obtain ⟨l, hl, rfl⟩ := hc
        refine ⟨_, _, rfl, hl, fun q d hq hqp => ?_⟩
        simp only [aresv, Option.some.injEq, Prod.mk.injEq] at hq
        obtain ⟨rfl, rfl⟩ := hq
        have := h.vr (x := .tmp t) (y := .t t) rfl hqp
        exact ⟨_, this, h.lr (x := .tmp t) (y := .t t) rfl hqp, by simp [Act.eval]⟩
      | cell t ty =>
        simp only [cres] at hc
        split at hc <;> simp only [Option.some.injEq, reduceCtorEq] at hc
        rename_i ag n l h1 h2 h3
        subst hc
        refine ⟨_, _, rfl, h3, fun q d hq hqp => ?_⟩
        simp only [aresv] at hq
        split at hq <;> simp only [Option.some.injEq, Prod.mk.injEq, reduceCtorEq] at hq
        rename_i q' d' hqv
        obtain ⟨rfl, rfl⟩ := hq
        have hv := h.vr (x := .tmp t) (y := .t t) rfl hqp.1
        obtain ⟨es, p', hr, ht, hp'⟩ := reads_of (ev := evS st.env) h.h.know hv rfl hqv hqp.2
        obtain ⟨u, hu, hrun⟩ := load_sound h1 h2 hr ht hp'
        obtain ⟨b, o, he, _⟩ := hr
        refine ⟨u, hu, ?_, ?_⟩
        · exact qv_lt (P := P) (s := s) (Z := Z) (o := .load ty (.tmp t)) (ao := .load ag n (.t t)) h.h.know (fun id ob hh => (h.h.lt id ob hh).2) (by simp [cop, h1, h2, opdC]) (fun x hx => by simp [opnds] at hx; subst hx; exact h.lr (x := .tmp t) rfl hqp.1) (fun x hx => by simp [opnds] at hx; subst hx; exact ⟨_, hv⟩) hqv hqp.2
        · have := hrun w (More.refl w)
          have he' : a.tmps.getD t undef = .pointer (some ⟨b, o, none⟩) := he
          simp only [he']
          rw [← this, he]
          exact load_var
    obtain ⟨ar, ars', rfl, hcr, hkey⟩ := key
    simp only [aresl] at hr
    cases h1 : aresv st.env st.heap ar with
    | none => rw [h1] at hr; simp at hr
    | some qd =>
      obtain ⟨q, d⟩ := qd
      rw [h1] at hr
      cases h2 : aresl st.env st.heap ars' with
      | none => rw [h2] at hr; simp at hr
      | some qds =>
        obtain ⟨q', ds'⟩ := qds
        rw [h2] at hr
        simp only [Option.some.injEq, Prod.mk.injEq] at hr
        obtain ⟨rfl, rfl⟩ := hr
        obtain ⟨v, hv, hlt, hrun⟩ := hkey q d h1 hp.1
        obtain ⟨vs, g1, g2, g3, g4⟩ := res_run h rs ars' q' ds' hcr h2 hp.2
        refine ⟨v :: vs, by simp [g1], fun j x hx => ?_, fun x hx => ?_, ?_⟩
        · cases j with
          | zero => simp at hx; subst hx; exact hv
          | succ j => simpa using g2 j x (by simpa using hx)
        · rcases List.mem_cons.1 hx with rfl | hx
          · exact hlt
          · exact g3 x hx
        · rw [List.mapM_cons]
          simp only [Sem.run_bind]
          cases r <;> simp only [hrun, Result.andThen_ok, g4, Sem.run_pure]
end
end Go.Proofs.Ytfkeddefajkobaa
