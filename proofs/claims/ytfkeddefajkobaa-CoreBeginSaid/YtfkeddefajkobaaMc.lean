/- This text holds, one behind the other, the texts that say what the program computes, step by step, and the rules that they need. They have no condition of their own. -/
import Derived.Test.YtfkeddefajkobaaMb
import Derived.Scope
import Derived.KernelRfl
import Derived.Test.YtfkeddefajkobaaMa
import Derived.Deep.AppendLies
import Derived.Deep.OwnShut
import Derived.Deep.Slices
import Derived.Deep.Onto
import Derived.Laws.AppendOwnNone
import Derived.Test.YtfkeddefajkobaaProg
import Derived.Maps.Keyed
import Derived.Maps.RangeRun
import Derived.MapKept
import Derived.Lib.AppendZerosOnto
import Derived.Laws.CopyRow
import Derived.Laws.IdiomCopy
import Derived.Lib.Overlaps
set_option linter.unusedSimpArgs false
set_option linter.unusedVariables false
namespace Go.Proofs.Ytfkeddefajkobaa
open Go.RowKit

inductive AC where
  | skip
  | region (id : Nat) (ops : List AO)
  | draw (id : Nat) (t : ASch)
  | seq (a b : AC)
  | cond (c : Nat) (a b : AC)
  | block (id : Nat) (a : AC)
  | loop (a : AC)
  | exit (id : Nat)
  | scope (a : AC)
  | ret
def cco (P : Program) (N : Nat) (hw : List FuncId) : Code → Option AC
  | .skip => some .skip
  | .label _ => some .skip
  | .region id ops false => (copers P N ops ops.toList).map fun r => .region id r
  | .region id ops true => if Region.noSelect ops then (planS P N ops ops.size (Array.replicate ops.size false) (lates hw ops)).map fun t => .draw id t else none
  | .seq a b => match cco P N hw a, cco P N hw b with
    | some x, some y => some (.seq x y)
    | _, _ => none
  | .cond (.tmp t) a b => match cco P N hw a, cco P N hw b with
    | some x, some y => some (.cond t x y)
    | _, _ => none
  | .block id a => (cco P N hw a).map (.block id)
  | .loop a => (cco P N hw a).map .loop
  | .exit id => some (.exit id)
  | .scope a => (cco P N hw a).map .scope
  | .ret => some .ret
  | _ => none
inductive AR where
  | t (n : Nat)
  | c (p : Nat) (ag : Bool) (n : Nat)
def cres (P : Program) : List ResultVar → Option (List AR)
  | [] => some []
  | .tmp t :: r => (cres P r).map (.t t :: ·)
  | .cell p ty :: r => match agT P ty, szT P ty, cres P r with
    | some a, some n, some l => some (.c p a n :: l)
    | _, _, _ => none
structure AF where
  code : AC
  res : List AR
  n : Nat
def cfun (P : Program) (hw : List FuncId) (f : FuncId) : Option AF :=
  match P.funcs[f]? with
  | some fn => if fn.name == "runtime.NumGoroutine" then none else match fn.body with
    | some c => match cco P fn.ntmps hw c, cres P fn.results.toList with
      | some c, some r => some ⟨c, r, fn.ntmps⟩
      | _, _ => none
    | none => none
  | none => none

/-! ### Codes -/
inductive Ex where
  | normal
  | exit (id : Nat)
  | ret
def Lift (B : Base) (Q : Ex → St → Prop) : Exit → Act → World → Prop
  | .normal, a, w => ∃ st s Z, Q .normal st ∧ Rel B s Z st a w
  | .exit id, a, w => ∃ st s Z, Q (.exit id) st ∧ Rel B s Z st a w
  | .ret, a, w => ∃ st s Z, Q .ret st ∧ Rel B s Z st a w
  | _, _, _ => False
/-- this code, begun so, ends as Q says -/
def W (P : Program) (B : Base) (hw : List FuncId) (c : AC) (Q : Ex → St → Prop) (st : St) : Prop :=
  P.follows .mixedOrders = true → ∀ code, cco P B.N hw code = some c → ∀ s Z a w, Rel B s Z st a w → code.wp P (Lift B Q) a w
/-- what is known may be put otherwise -/
def Gh (B : Base) (st st1 : St) : Prop := ∀ s Z a w, Rel B s Z st a w → ∃ s' Z', Rel B s' Z' st1 a w

def keep (ks : List Nat) : List (Nat × D) → List (Nat × D)
  | [] => []
  | (k, d) :: l => if ks.contains k then (k, d) :: keep ks l else keep ks l
def trim (ks : List Nat) (st : St) : St := ⟨keep ks st.env, st.heap, st.nx⟩
theorem eget_keep (ks : List Nat) (k : Nat) : ∀ (l : List (Nat × D)), eget (keep ks l) k = eget l k ∨ eget (keep ks l) k = .any
  | [] => .inr rfl
  | (j, d) :: l => by
    simp only [keep]
    split
    · simp only [eget]
      split
      · exact .inl rfl
      · exact eget_keep ks k l
    · rename_i hj
      by_cases h : k = j
      · subst h
        right
        have : ∀ l : List (Nat × D), eget (keep ks l) k = .any := fun l => by
          induction l with
          | nil => rfl
          | cons p l ih =>
            obtain ⟨i, e⟩ := p
            simp only [keep]
            split
            · rename_i hi
              have : k ≠ i := by rintro rfl; exact hj hi
              simp only [eget, if_neg this, ih]
            · exact ih
        exact this l
      · simp only [eget, if_neg h]; exact eget_keep ks k l
section
variable {P : Program} {B : Base} {hw : List FuncId} {Q Q' : Ex → St → Prop} {st st1 : St} {s : Nat → Value} {Z : Cells} {a : Act} {w : World}
theorem Rel.trim (h : Rel B s Z st a w) (ks : List Nat) : Rel B s Z (Go.Proofs.Ytfkeddefajkobaa.trim ks st) a w where
  env k := by
    rcases eget_keep ks k st.env with h1 | h1
    · simp only [Go.Proofs.Ytfkeddefajkobaa.trim, h1]; exact h.env k
    · simp only [Go.Proofs.Ytfkeddefajkobaa.trim, h1]; trivial
  elt k := by
    rcases eget_keep ks k st.env with h1 | h1
    · simp only [Go.Proofs.Ytfkeddefajkobaa.trim, h1]; exact h.elt k
    · simp only [Go.Proofs.Ytfkeddefajkobaa.trim, h1]; trivial
  size := h.size
  defers := h.defers
  h := h.h
theorem Gh.refl (st : St) : Gh B st st := fun s Z _ _ h => ⟨s, Z, h⟩
theorem Gh.trans {st2 : St} (h : Gh B st st1) (g : Gh B st1 st2) : Gh B st st2 := fun s Z a w hr => by
  obtain ⟨s', Z', h'⟩ := h s Z a w hr
  exact g s' Z' a w h'
theorem Gh.trim (ks : List Nat) : Gh B st (trim ks st) := fun s Z _ _ h => ⟨s, Z, h.trim ks⟩
theorem Lift.mono (hq : ∀ e st, Q e st → Q' e st) {e : Exit} {a : Act} {w : World} (h : Lift B Q e a w) : Lift B Q' e a w := by
  cases e <;> first | exact h.elim | (obtain ⟨st, s, Z, h1, h2⟩ := h; exact ⟨st, s, Z, hq _ _ h1, h2⟩)
theorem W.mono {c : AC} (h : W P B hw c Q st) (hq : ∀ e st, Q e st → Q' e st) : W P B hw c Q' st := fun hm code hc s Z a w hr => wp_mono (h hm code hc s Z a w hr) fun _ _ _ => Lift.mono hq
theorem W.gh {c : AC} (hg : Gh B st st1) (h : W P B hw c Q st1) : W P B hw c Q st := fun hm code hc s Z a w hr => by
  obtain ⟨s', Z', hr'⟩ := hg s Z a w hr
  exact h hm code hc s' Z' a w hr'

def seqQ (next : St → Prop) (Q : Ex → St → Prop) : Ex → St → Prop
  | .normal, st => next st
  | e, st => Q e st
def blockQ (id : Nat) (Q : Ex → St → Prop) : Ex → St → Prop
  | .exit id', st => if id' = id then Q .normal st else Q (.exit id') st
  | e, st => Q e st

theorem W.skip (h : Q .normal st) : W P B hw .skip Q st := fun _ code hc s Z a w hr => by
  cases code with
  | skip => exact wp_skip ⟨st, s, Z, h, hr⟩
  | label l => exact wp_label ⟨st, s, Z, h, hr⟩
  | region id ops d => cases d <;> simp only [cco] at hc <;> (try split at hc) <;> simp at hc
  | seq x y => simp only [cco] at hc; split at hc <;> simp at hc
  | cond c x y => cases c <;> simp only [cco] at hc <;> (try split at hc) <;> simp at hc
  | block id x => simp [cco] at hc
  | loop x => simp [cco] at hc
  | scope x => simp [cco] at hc
  | _ => simp [cco] at hc
theorem W.ret (h : Q .ret st) : W P B hw .ret Q st := fun _ code hc s Z a w hr => by
  cases code with
  | ret => exact wp_ret ⟨st, s, Z, h, hr⟩
  | region id ops d => cases d <;> simp only [cco] at hc <;> (try split at hc) <;> simp at hc
  | seq x y => simp only [cco] at hc; split at hc <;> simp at hc
  | cond c x y => cases c <;> simp only [cco] at hc <;> (try split at hc) <;> simp at hc
  | _ => simp [cco] at hc
theorem W.exit {id : Nat} (h : Q (.exit id) st) : W P B hw (.exit id) Q st := fun _ code hc s Z a w hr => by
  cases code with
  | exit i => simp only [cco, Option.some.injEq, AC.exit.injEq] at hc; subst hc; exact wp_exit ⟨st, s, Z, h, hr⟩
  | region id ops d => cases d <;> simp only [cco] at hc <;> (try split at hc) <;> simp at hc
  | seq x y => simp only [cco] at hc; split at hc <;> simp at hc
  | cond c x y => cases c <;> simp only [cco] at hc <;> (try split at hc) <;> simp at hc
  | _ => simp [cco] at hc
theorem W.seq {x y : AC} (h : W P B hw x (seqQ (W P B hw y Q) Q) st) : W P B hw (.seq x y) Q st := fun hm code hc s Z a w hr => by
  cases code with
  | seq c d =>
    simp only [cco] at hc
    split at hc <;> simp only [Option.some.injEq, reduceCtorEq, AC.seq.injEq] at hc
    rename_i hx hy
    obtain ⟨rfl, rfl⟩ := hc
    refine wp_seq (wp_mono (h hm c hx s Z a w hr) fun e a' w' hl => ?_)
    cases e with
    | normal => obtain ⟨st', s', Z', h1, h2⟩ := hl; exact h1 hm d hy s' Z' a' w' h2
    | _ => exact hl
  | region id ops d => cases d <;> simp only [cco] at hc <;> (try split at hc) <;> simp at hc
  | cond c x y => cases c <;> simp only [cco] at hc <;> (try split at hc) <;> simp at hc
  | _ => simp [cco] at hc
theorem W.cond {c : Nat} {t : Bool} {x y : AC} (ht : eget st.env c = .bool t) (h1 : t = true → W P B hw x Q st) (h2 : t = false → W P B hw y Q st) : W P B hw (.cond c x y) Q st := fun hm code hc s Z a w hr => by
  cases code with
  | cond o p q =>
    cases o with
    | tmp k =>
      simp only [cco] at hc
      split at hc <;> simp only [Option.some.injEq, reduceCtorEq, AC.cond.injEq] at hc
      rename_i hx hy
      obtain ⟨rfl, rfl, rfl⟩ := hc
      have hv := hr.env k
      rw [ht] at hv
      have hb : a.eval (.tmp k) = .bool t := VR.bool_inv (s := s) (Z := Z) hv
      exact wp_cond_split hb (fun e => h1 e hm p hx s Z a w hr) (fun e => h2 e hm q hy s Z a w hr)
    | _ => simp [cco] at hc
  | region id ops d => cases d <;> simp only [cco] at hc <;> (try split at hc) <;> simp at hc
  | seq x y => simp only [cco] at hc; split at hc <;> simp at hc
  | _ => simp [cco] at hc
theorem W.block {id : Nat} {x : AC} (h : W P B hw x (blockQ id Q) st) : W P B hw (.block id x) Q st := fun hm code hc s Z a w hr => by
  cases code with
  | block i c =>
    simp only [cco, Option.map_eq_some_iff, AC.block.injEq] at hc
    obtain ⟨x', hx, rfl, rfl⟩ := hc
    refine wp_block (wp_mono (h hm c hx s Z a w hr) fun e a' w' hl => ?_)
    cases e with
    | exit j =>
      obtain ⟨st', s', Z', h1, h2⟩ := hl
      simp only [blockQ] at h1
      simp only [Exit.inBlock]
      split at h1
      · rename_i e; rw [if_pos e]; exact ⟨st', s', Z', h1, h2⟩
      · rename_i e; rw [if_neg e]; exact ⟨st', s', Z', h1, h2⟩
    | _ => exact hl
  | region id ops d => cases d <;> simp only [cco] at hc <;> (try split at hc) <;> simp at hc
  | seq x y => simp only [cco] at hc; split at hc <;> simp at hc
  | cond c x y => cases c <;> simp only [cco] at hc <;> (try split at hc) <;> simp at hc
  | _ => simp [cco] at hc
theorem W.scope {x : AC} (h : W P B hw x Q st) : W P B hw (.scope x) Q st := fun hm code hc s Z a w hr => by
  cases code with
  | scope c =>
    simp only [cco, Option.map_eq_some_iff, AC.scope.injEq] at hc
    obtain ⟨x', hx, rfl⟩ := hc
    refine wp_scope_straight (wp_mono (h hm c hx s Z a w hr) fun e a' w' hl => ?_)
    cases e <;> first | exact hl | exact hl.elim
  | region id ops d => cases d <;> simp only [cco] at hc <;> (try split at hc) <;> simp at hc
  | seq x y => simp only [cco] at hc; split at hc <;> simp at hc
  | cond c x y => cases c <;> simp only [cco] at hc <;> (try split at hc) <;> simp at hc
  | _ => simp [cco] at hc
theorem W.region {id : Nat} {ops : List AO} {K : St → Prop} (h : aops P B ops st K) (hK : ∀ st', K st' → ∃ st1, Gh B st' st1 ∧ Q .normal st1) : W P B hw (.region id ops) Q st := fun hm code hc s Z a w hr => by
  have fin : ∀ st' s' Z' a' w', K st' → Rel B s' Z' st' a' w' → Lift B Q .normal a' w' := fun st' s' Z' a' w' h1 h2 => by
    obtain ⟨st1, hg, hq⟩ := hK st' h1
    obtain ⟨s1, Z1, hr1⟩ := hg s' Z' a' w' h2
    exact ⟨st1, s1, Z1, hq, hr1⟩
  cases code with
  | region i os d =>
    cases d with
    | false =>
      simp only [cco, Option.map_eq_some_iff, AC.region.injEq] at hc
      obtain ⟨r, hr', rfl, rfl⟩ := hc
      exact wp_region_list (aops_sound os.toList r st s Z a w hr' hr h fin)
    | true => simp only [cco] at hc; split at hc <;> simp at hc
  | seq x y => simp only [cco] at hc; split at hc <;> simp at hc
  | cond c x y => cases c <;> simp only [cco] at hc <;> (try split at hc) <;> simp at hc
  | _ => simp [cco] at hc
theorem W.draw {id : Nat} {t : ASch} {K : St → Prop} (h : asch P B t st K) (hK : ∀ st', K st' → ∃ st1, Gh B st' st1 ∧ Q .normal st1) : W P B hw (.draw id t) Q st := fun hm code hc s Z a w hr => by
  have fin : ∀ st' s' Z' a' w', K st' → Rel B s' Z' st' a' w' → Lift B Q .normal a' w' := fun st' s' Z' a' w' h1 h2 => by
    obtain ⟨st1, hg, hq⟩ := hK st' h1
    obtain ⟨s1, Z1, hr1⟩ := hg s' Z' a' w' h2
    exact ⟨st1, s1, Z1, hq, hr1⟩
  cases code with
  | region i os d =>
    cases d with
    | false => simp [cco] at hc
    | true =>
      simp only [cco] at hc
      split at hc
      case isFalse => cases hc
      rename_i hns
      simp only [Option.map_eq_some_iff, AC.draw.injEq] at hc
      obtain ⟨r, hr', rfl, rfl⟩ := hc
      exact draw_sound hm hns hr' (fun c a d v w h => h.elim) fin hr h
  | seq x y => simp only [cco] at hc; split at hc <;> simp at hc
  | cond c x y => cases c <;> simp only [cco] at hc <;> (try split at hc) <;> simp at hc
  | _ => simp [cco] at hc
theorem least {p : Nat → Prop} (h : ∃ n, p n) : ∃ n, p n ∧ ∀ m, p m → n ≤ m := by
  obtain ⟨n, hn⟩ := h
  induction n using Nat.strongRecOn with
  | _ n ih =>
    by_cases h : ∃ m, m < n ∧ p m
    · obtain ⟨m, h1, h2⟩ := h; exact ih m h1 h2
    · exact ⟨n, hn, fun m hm => Nat.le_of_not_lt fun hl => h ⟨m, hl, hm⟩⟩
/-- a loop: I n: n rounds at most are to come -/
theorem W.loop {x : AC} (I : Nat → St → Prop) (h0 : ∃ n st1, Gh B st st1 ∧ I n st1) (hround : ∀ n st, I n st → W P B hw x (seqQ (fun st' => ∃ m st1, Gh B st' st1 ∧ m < n ∧ I m st1) Q) st) : W P B hw (.loop x) Q st := fun hm code hc s Z a w hr => by
  cases code with
  | loop c =>
    simp only [cco, Option.map_eq_some_iff, AC.loop.injEq] at hc
    obtain ⟨x', hx, rfl⟩ := hc
    classical
    let J : Nat → Act → World → Prop := fun n a w => ∃ st s Z, I n st ∧ Rel B s Z st a w
    let mu : Act → World → Nat := fun a w => if h : ∃ n, J n a w then Classical.choose (least h) else 0
    have hmu : ∀ a w (_ : ∃ n, J n a w), J (mu a w) a w ∧ ∀ n, J n a w → mu a w ≤ n := fun a w h => by
      have e : mu a w = Classical.choose (least h) := dif_pos h
      rw [e]
      exact Classical.choose_spec (least h)
    refine wp_loop (fun a w => ∃ n, J n a w) mu ?_ ?_
    · obtain ⟨n, st1, hg, hI⟩ := h0
      obtain ⟨s', Z', hr'⟩ := hg s Z a w hr
      exact ⟨n, st1, s', Z', hI, hr'⟩
    · intro a w hJ
      obtain ⟨⟨st1, s1, Z1, hI, hR1⟩, _⟩ := hmu a w hJ
      refine wp_mono (hround _ st1 hI hm c hx s1 Z1 a w hR1) fun e a' w' hl => ?_
      cases e with
      | normal =>
        obtain ⟨st', s', Z', ⟨m, st2, hg, hlt, hI2⟩, h2⟩ := hl
        obtain ⟨s2, Z2, hr2⟩ := hg s' Z' a' w' h2
        have hJ' : ∃ n, J n a' w' := ⟨m, st2, s2, Z2, hI2, hr2⟩
        exact ⟨hJ', Nat.lt_of_le_of_lt ((hmu a' w' hJ').2 m ⟨st2, s2, Z2, hI2, hr2⟩) hlt⟩
      | _ => exact hl
  | region id ops d => cases d <;> simp only [cco] at hc <;> (try split at hc) <;> simp at hc
  | seq x y => simp only [cco] at hc; split at hc <;> simp at hc
  | cond c x y => cases c <;> simp only [cco] at hc <;> (try split at hc) <;> simp at hc
  | _ => simp [cco] at hc

/-- the whole of a code at once; loops, and the regions with a number in 'stops', are left; ks: the slots that are kept behind a region -/
def acode (P : Program) (B : Base) (hw : List FuncId) (ks stops : List Nat) : AC → (Ex → St → Prop) → St → Prop
  | .skip, Q, st => Q .normal st
  | .region id ops, Q, st => if stops.contains id then W P B hw (.region id ops) Q st else aops P B ops st (fun st' => Q .normal (trim ks st'))
  | .draw id t, Q, st => if stops.contains id then W P B hw (.draw id t) Q st else asch P B t st (fun st' => Q .normal (trim ks st'))
  | .seq a b, Q, st => acode P B hw ks stops a (seqQ (acode P B hw ks stops b Q) Q) st
  | .cond c a b, Q, st => match eget st.env c with
    | .bool t => (t = true → acode P B hw ks stops a Q st) ∧ (t = false → acode P B hw ks stops b Q st)
    | _ => False
  | .block id a, Q, st => acode P B hw ks stops a (blockQ id Q) st
  | .loop a, Q, st => W P B hw (.loop a) Q st
  | .exit id, Q, st => Q (.exit id) st
  | .scope a, Q, st => acode P B hw ks stops a Q st
  | .ret, Q, st => Q .ret st
def TK (ks : List Nat) (Q : Ex → St → Prop) (st : St) : Prop := Q .normal (trim ks st)
theorem TK_at (ks : List Nat) (Q : Ex → St → Prop) (env : List (Nat × D)) (H : List (Nat × Ob)) (nx : Nat) : TK ks Q ⟨env, H, nx⟩ = Q .normal (trim ks ⟨env, H, nx⟩) := rfl
def OK (P : Program) (B : Base) (os : List AO) (K : St → Prop) (st : St) : Prop := aops P B os st K
theorem OK_at (os : List AO) (K : St → Prop) (env : List (Nat × D)) (H : List (Nat × Ob)) (nx : Nat) : OK P B os K ⟨env, H, nx⟩ = aops P B os ⟨env, H, nx⟩ K := rfl
theorem aops_nil (st : St) (K : St → Prop) : aops P B [] st K = K st := rfl
theorem aops_cons (o : AO) (os : List AO) (st : St) (K : St → Prop) : aops P B (o :: os) st K = astep P false B o st (OK P B os K) := rfl
def SK (P : Program) (B : Base) (r : ASch) (K : St → Prop) (st : St) : Prop := asch P B r st K
theorem SK_at (r : ASch) (K : St → Prop) (env : List (Nat × D)) (H : List (Nat × Ob)) (nx : Nat) : SK P B r K ⟨env, H, nx⟩ = asch P B r ⟨env, H, nx⟩ K := rfl
theorem asch_done (st : St) (K : St → Prop) : asch P B .done st K = K st := rfl
theorem asch_one (sb : Bool) (o : AO) (r : ASch) (st : St) (K : St → Prop) : asch P B (.one sb o r) st K = astep P sb B o st (SK P B r K) := rfl
theorem asch_two (l r : ASch) (st : St) (K : St → Prop) : asch P B (.two l r) st K = (asch P B l st K ∧ asch P B r st K) := rfl
theorem asch_top (st : St) (K : St → Prop) : asch P B .top st K = True := rfl
/-- the same, to be looked into when its state is known -/
def AK (P : Program) (B : Base) (hw : List FuncId) (ks stops : List Nat) (c : AC) (Q : Ex → St → Prop) (st : St) : Prop := acode P B hw ks stops c Q st
theorem AK_at (c : AC) (Q : Ex → St → Prop) (ks stops : List Nat) (env : List (Nat × D)) (H : List (Nat × Ob)) (nx : Nat) : AK P B hw ks stops c Q ⟨env, H, nx⟩ = acode P B hw ks stops c Q ⟨env, H, nx⟩ := rfl
theorem acode_seq (a b : AC) (Q : Ex → St → Prop) (ks stops : List Nat) (st : St) : acode P B hw ks stops (.seq a b) Q st = acode P B hw ks stops a (seqQ (AK P B hw ks stops b Q) Q) st := rfl
theorem acode_region (id : Nat) (ops : List AO) (Q : Ex → St → Prop) (ks stops : List Nat) (st : St) : acode P B hw ks stops (.region id ops) Q st = if stops.contains id then W P B hw (.region id ops) Q st else aops P B ops st (TK ks Q) := rfl
theorem acode_draw (id : Nat) (t : ASch) (Q : Ex → St → Prop) (ks stops : List Nat) (st : St) : acode P B hw ks stops (.draw id t) Q st = if stops.contains id then W P B hw (.draw id t) Q st else asch P B t st (TK ks Q) := rfl
/-- one of two, decided ahead of both -/
def CB (t : Bool) (a b : Prop) : Prop := (t = true → a) ∧ (t = false → b)
theorem CB_t (a b : Prop) : CB true a b = a := by simp [CB]
theorem CB_f (a b : Prop) : CB false a b = b := by simp [CB]
theorem CB_u (t : Bool) (a b : Prop) : CB t a b = ((t = true → a) ∧ (t = false → b)) := rfl
theorem acode_cond (c : Nat) (a b : AC) (Q : Ex → St → Prop) (ks stops : List Nat) (st : St) : acode P B hw ks stops (.cond c a b) Q st = match eget st.env c with
    | .bool t => CB t (acode P B hw ks stops a Q st) (acode P B hw ks stops b Q st)
    | _ => False := rfl
theorem aop_eq (sb : Bool) (g : Option Bool) (dst : Option Nat) (op : AOp) (st : St) (K : St → Prop) : aop P sb B g dst op st K =
  if isLoud op then
    match g with
    | none => aloud P sb B dst op st K
    | some c => CB c (aloud P sb B dst op st K) (K ⟨putO st.env dst (.opt false .any), st.heap, st.nx⟩)
  else
    match op with
    | .pick c x y => match evS st.env c with
      | .bool b => match pickV b (evS st.env x) (evS st.env y) with
        | some (p, d) => afin g dst ((gS st.env c = true ∧ (b = true → gS st.env x = true) ∧ (b = false → gS st.env y = true)) ∧ p) d st K
        | none => afin0 g dst st K
      | _ => afin0 g dst st K
    | .isnil ne x => match lenD st.heap (evS st.env x) with
      | some n => ∀ b : Bool, (0 < n → b = ne) → afin g dst (gS st.env x = true) (.bool b) st K
      | none => afin0 g dst st K
    | op => match qv (evS st.env) st.heap op with
      | some (p, d) => afin g dst (oks st.env op = true ∧ p) d st K
      | none => afin0 g dst st K := by cases g <;> cases op <;> rfl
theorem acode_block (id : Nat) (a : AC) (Q : Ex → St → Prop) (ks stops : List Nat) (st : St) : acode P B hw ks stops (.block id a) Q st = acode P B hw ks stops a (blockQ id Q) st := rfl
theorem acode_loop (a : AC) (Q : Ex → St → Prop) (ks stops : List Nat) (st : St) : acode P B hw ks stops (.loop a) Q st = W P B hw (.loop a) Q st := rfl
theorem acode_exit (id : Nat) (Q : Ex → St → Prop) (ks stops : List Nat) (st : St) : acode P B hw ks stops (.exit id) Q st = Q (.exit id) st := rfl
theorem acode_scope (a : AC) (Q : Ex → St → Prop) (ks stops : List Nat) (st : St) : acode P B hw ks stops (.scope a) Q st = acode P B hw ks stops a Q st := rfl
theorem acode_ret (Q : Ex → St → Prop) (ks stops : List Nat) (st : St) : acode P B hw ks stops .ret Q st = Q .ret st := rfl
theorem acode_skip (Q : Ex → St → Prop) (ks stops : List Nat) (st : St) : acode P B hw ks stops .skip Q st = Q .normal st := rfl
theorem seqQ_n (next : St → Prop) (Q : Ex → St → Prop) (st : St) : seqQ next Q .normal st = next st := rfl
theorem seqQ_e (next : St → Prop) (Q : Ex → St → Prop) (i : Nat) (st : St) : seqQ next Q (.exit i) st = Q (.exit i) st := rfl
theorem seqQ_r (next : St → Prop) (Q : Ex → St → Prop) (st : St) : seqQ next Q .ret st = Q .ret st := rfl
theorem blockQ_n (id : Nat) (Q : Ex → St → Prop) (st : St) : blockQ id Q .normal st = Q .normal st := rfl
theorem blockQ_e (id i : Nat) (Q : Ex → St → Prop) (st : St) : blockQ id Q (.exit i) st = if i = id then Q .normal st else Q (.exit i) st := rfl
theorem blockQ_r (id : Nat) (Q : Ex → St → Prop) (st : St) : blockQ id Q .ret st = Q .ret st := rfl
theorem acode_sound (ks stops : List Nat) : ∀ (c : AC) (Q : Ex → St → Prop) (st : St), acode P B hw ks stops c Q st → W P B hw c Q st
  | .skip, Q, st, h => W.skip h
  | .region id ops, Q, st, h => by
    simp only [acode] at h
    split at h
    · exact h
    · exact W.region h fun st' h => ⟨_, Gh.trim ks, h⟩
  | .draw id t, Q, st, h => by
    simp only [acode] at h
    split at h
    · exact h
    · exact W.draw h fun st' h => ⟨_, Gh.trim ks, h⟩
  | .seq a b, Q, st, h => W.seq ((acode_sound ks stops a _ st h).mono fun e st' h' => by
      cases e with
      | normal => exact acode_sound ks stops b Q st' h'
      | _ => exact h')
  | .cond c a b, Q, st, h => by
    simp only [acode] at h
    split at h
    · rename_i t ht
      exact W.cond ht (fun e => acode_sound ks stops a Q st (h.1 e)) (fun e => acode_sound ks stops b Q st (h.2 e))
    · exact h.elim
  | .block id a, Q, st, h => W.block (acode_sound ks stops a _ st h)
  | .loop a, Q, st, h => h
  | .exit id, Q, st, h => W.exit h
  | .scope a, Q, st, h => W.scope (acode_sound ks stops a Q st h)
  | .ret, Q, st, h => W.ret h

/-! ### Functions -/
def aresv (env : List (Nat × D)) (H : List (Nat × Ob)) : AR → Option (Prop × D)
  | .t n => some (gof (eget env n) = true, strip (eget env n))
  | .c p ag n => match qv (evS env) H (.load ag n (.t p)) with
    | some (q, d) => some (gof (eget env p) = true ∧ q, d)
    | none => none
def aresl (env : List (Nat × D)) (H : List (Nat × Ob)) : List AR → Option (Prop × List D)
  | [] => some (True, [])
  | r :: rs => match aresv env H r, aresl env H rs with
    | some (p, d), some (q, ds) => some (p ∧ q, d :: ds)
    | _, _ => none
def resD : List D → D
  | [d] => d
  | ds => .tup ds
/-- the end of a function: what it hands back -/
def Fin (res : List AR) (R : D → List (Nat × Ob) → Nat → Prop) : Ex → St → Prop
  | .exit _, _ => False
  | _, st => match aresl st.env st.heap res with
    | some (p, ds) => (p ∧ ds.all argOk = true) ∧ R (resD ds) st.heap st.nx
    | none => False
def envOf : Nat → List D → List (Nat × D)
  | _, [] => []
  | i, d :: ds => eput (envOf (i + 1) ds) i d
theorem eget_envOf : ∀ (ds : List D) (i k : Nat), eget (envOf i ds) k = if i ≤ k then ds.getD (k - i) .any else .any
  | [], i, k => by simp [envOf, eget]
  | d :: ds, i, k => by
    simp only [envOf, eget_eput, eget_envOf ds (i + 1) k]
    by_cases h : k = i
    · subst h; simp
    · rw [if_neg h]
      by_cases h1 : i + 1 ≤ k
      · rw [if_pos h1, if_pos (by omega)]
        have : k - i = (k - (i + 1)) + 1 := by omega
        rw [this, List.getD_cons_succ]
      · rw [if_neg h1, if_neg (by omega)]

theorem load_var {ty : TypeId} {q : Addr} {w : World} : (do loadVar ty (← asAddr (.pointer (some q))) : Sem Value).run P w = (Instr.loadAt ty (.pointer (some q))).run P w := by
  simp [Instr.loadAt, Instr.sureAddr, asAddr]
theorem res_run (h : Rel B s Z st a w) : ∀ (rs : List ResultVar) (ars : List AR) (p : Prop) (ds : List D), cres P rs = some ars → aresl st.env st.heap ars = some (p, ds) → p →
    ∃ vs : List Value, vs.length = ds.length ∧ (∀ j x, ds[j]? = some x → VR s Z x (vs.getD j undef)) ∧ (∀ d ∈ ds, LtR st.nx d) ∧
      (rs.mapM (m := Sem) fun | .tmp t => pure (a.tmps.getD t undef) | .cell q t => do loadVar t (← asAddr (a.tmps.getD q undef))).run P w = .ok vs w
  | [], ars, p, ds, hc, hr, hp => by
    simp only [cres, Option.some.injEq] at hc
    subst hc
    simp only [aresl, Option.some.injEq, Prod.mk.injEq] at hr
    obtain ⟨_, rfl⟩ := hr
    exact ⟨[], rfl, (fun j x hx => by simp at hx), (fun d hd => by simp at hd), by simp⟩
  | r :: rs, ars, p, ds, hc, hr, hp => by
    have key : ∃ ar ars', ars = ar :: ars' ∧ cres P rs = some ars' ∧ ∀ q d, aresv st.env st.heap ar = some (q, d) → q → ∃ v, VR s Z d v ∧ LtR st.nx d ∧ ((match r with | .tmp t => pure (a.tmps.getD t undef) | .cell q t => do loadVar t (← asAddr (a.tmps.getD q undef)) : Sem Value)).run P w = .ok v w := by
      cases r with
      | tmp t =>
        simp only [cres, Option.map_eq_some_iff] at hc
        obtain ⟨l, hl, rfl⟩ := hc
        refine ⟨_, _, rfl, hl, fun q d hq hqp => ?_⟩
        simp only [aresv, Option.some.injEq, Prod.mk.injEq] at hq
        obtain ⟨rfl, rfl⟩ := hq
        have := h.vr (x := .tmp t) (y := .t t) rfl hqp
        exact ⟨_, this, h.lr (x := .tmp t) (y := .t t) rfl hqp, by simp [Act.eval]⟩
      | cell t ty =>
        simp only [cres] at hc
        split at hc <;> simp only [Option.some.injEq, reduceCtorEq] at hc
        rename_i ag n l h1 h2 h3
        subst hc
        refine ⟨_, _, rfl, h3, fun q d hq hqp => ?_⟩
        simp only [aresv] at hq
        split at hq <;> simp only [Option.some.injEq, Prod.mk.injEq, reduceCtorEq] at hq
        rename_i q' d' hqv
        obtain ⟨rfl, rfl⟩ := hq
        have hv := h.vr (x := .tmp t) (y := .t t) rfl hqp.1
        obtain ⟨es, p', hr, ht, hp'⟩ := reads_of (ev := evS st.env) h.h.know hv rfl hqv hqp.2
        obtain ⟨u, hu, hrun⟩ := load_sound h1 h2 hr ht hp'
        obtain ⟨b, o, he, _⟩ := hr
        refine ⟨u, hu, ?_, ?_⟩
        · exact qv_lt (P := P) (s := s) (Z := Z) (o := .load ty (.tmp t)) (ao := .load ag n (.t t)) h.h.know (fun id ob hh => (h.h.lt id ob hh).2) (by simp [cop, h1, h2, opdC]) (fun x hx => by simp [opnds] at hx; subst hx; exact h.lr (x := .tmp t) rfl hqp.1) (fun x hx => by simp [opnds] at hx; subst hx; exact ⟨_, hv⟩) hqv hqp.2
        · have := hrun w (More.refl w)
          have he' : a.tmps.getD t undef = .pointer (some ⟨b, o, none⟩) := he
          simp only [he']
          rw [← this, he]
          exact load_var
    obtain ⟨ar, ars', rfl, hcr, hkey⟩ := key
    simp only [aresl] at hr
    cases h1 : aresv st.env st.heap ar with
    | none => rw [h1] at hr; simp at hr
    | some qd =>
      obtain ⟨q, d⟩ := qd
      rw [h1] at hr
      cases h2 : aresl st.env st.heap ars' with
      | none => rw [h2] at hr; simp at hr
      | some qds =>
        obtain ⟨q', ds'⟩ := qds
        rw [h2] at hr
        simp only [Option.some.injEq, Prod.mk.injEq] at hr
        obtain ⟨rfl, rfl⟩ := hr
        obtain ⟨v, hv, hlt, hrun⟩ := hkey q d h1 hp.1
        obtain ⟨vs, g1, g2, g3, g4⟩ := res_run h rs ars' q' ds' hcr h2 hp.2
        refine ⟨v :: vs, by simp [g1], fun j x hx => ?_, fun x hx => ?_, ?_⟩
        · cases j with
          | zero => simp at hx; subst hx; exact hv
          | succ j => simpa using g2 j x (by simpa using hx)
        · rcases List.mem_cons.1 hx with rfl | hx
          · exact hlt
          · exact g3 x hx
        · rw [List.mapM_cons]
          simp only [Sem.run_bind]
          cases r <;> simp only [hrun, Result.andThen_ok, g4, Sem.run_pure]
end
end Go.Proofs.Ytfkeddefajkobaa

set_option linter.unusedSimpArgs false
set_option linter.unusedVariables false
namespace Go.Proofs.Ytfkeddefajkobaa
open Go.RowKit

section
variable {P : Program} {hw : List FuncId} {f : FuncId} {code : AC} {res : List AR} {n : Nat} {ds : List D} {H : List (Nat × Ob)} {nx : Nat} {R : D → List (Nat × Ob) → Nat → Prop}

theorem RelH.toN {F : Nat → Prop} {w0 : World} {n0 : Nat} {sb : Nat → Value} {Zb : Cells} {n : Nat} (m : Nat) {s : Nat → Value} {Z : Cells} {w : World} (h : RelH ⟨n, F, w0, n0, sb, Zb⟩ s Z H nx w) : RelH ⟨m, F, w0, n0, sb, Zb⟩ s Z H nx w :=
  ⟨h.ob, h.lt, h.apart, h.zok, h.zap, h.mine, h.fr, h.n0, h.bs, h.bz, h.bn⟩

theorem cfun_some (hc : cfun P hw f = some ⟨code, res, n⟩) : ∃ fn c, P.funcs[f]? = some fn ∧ fn.body = some c ∧ cco P n hw c = some code ∧ cres P fn.results.toList = some res ∧ fn.ntmps = n ∧ callable P f = true := by
  unfold cfun at hc
  split at hc
  case h_2 => cases hc
  rename_i fn hf
  split at hc
  · cases hc
  rename_i hnm
  split at hc
  case h_2 => cases hc
  rename_i c hb
  split at hc
  case h_2 => cases hc
  rename_i c' r' h1 h2
  simp only [Option.some.injEq, AF.mk.injEq] at hc
  obtain ⟨rfl, rfl, rfl⟩ := hc
  refine ⟨fn, c, hf, hb, h1, h2, rfl, ?_⟩
  unfold callable
  rw [hf]
  simp only [hb, Option.isSome_some, Bool.true_and]
  simpa using hnm

theorem body_sound {B : Base} {s : Nat → Value} {Z : Cells} {w : World} {vs : Array Value} (hm : P.follows .mixedOrders = true) (hc : cfun P hw f = some ⟨code, res, n⟩) (hBN : B.N = n) (hlen : ds.length ≤ n) (hno : ds.all argOk = true)
    (hlt : ∀ d ∈ ds, LtV nx d) (h : W P B hw code (Fin res R) ⟨envOf 0 ds, H, nx⟩) (hR : RelH B s Z H nx w) (hl : vs.size = ds.length) (hv : ∀ j x, ds[j]? = some x → VV s Z x (vs.getD j undef)) :
    Calls P f vs w fun e w' => ∃ v d H' nx' s' Z', e = .returned v ∧ VR s' Z' d v ∧ LtR nx' d ∧ RelH B s' Z' H' nx' w' ∧ R d H' nx' := by
  obtain ⟨fn, c, hf, hb, h1, h2, h3, hcal⟩ := cfun_some hc
  refine calls_of_wp hf hb ?_
  have rel : Rel B s Z ⟨envOf 0 ds, H, nx⟩ { tmps := vs ++ Array.replicate (fn.ntmps - vs.size) undef, defers := [] } w := by
    refine ⟨fun k => ?_, fun k => ?_, ?_, rfl, hR⟩
    · simp only [eget_envOf, Nat.zero_le, if_true, Nat.sub_zero]
      by_cases hk : k < ds.length
      · have hx : ds[k]? = some (ds.getD k .any) := by rw [List.getD_eq_getElem?_getD, List.getElem?_eq_getElem hk]; rfl
        have := hv k _ hx
        rw [Array.getD_eq_getD_getElem?, Array.getElem?_append_left (by omega), ← Array.getD_eq_getD_getElem?]
        exact VS.of_vr (VR.of_vv this)
      · rw [List.getD_eq_getElem?_getD, List.getElem?_eq_none (by omega)]; trivial
    · simp only [eget_envOf, Nat.zero_le, if_true, Nat.sub_zero]
      by_cases hk : k < ds.length
      · have hx : ds[k]? = some (ds.getD k .any) := by rw [List.getD_eq_getElem?_getD, List.getElem?_eq_getElem hk]; rfl
        have hmem := List.mem_of_getElem? hx
        have h4 := hlt _ hmem
        have h5 := List.all_eq_true.1 hno _ hmem
        generalize ds.getD k .any = d at *
        cases d <;> first | exact h4 | cases h5
      · rw [List.getD_eq_getElem?_getD, List.getElem?_eq_none (by omega)]; trivial
    · simp only [Array.size_append, Array.size_replicate]; omega
  have hbody := h hm c (by rw [hBN]; exact h1) s Z _ w rel
  have key : ∀ (e : Ex) (st : St) (s' : Nat → Value) (Z' : Cells) (a : Act) (w' : World), (e = .ret ∨ e = .normal) → Fin res R e st → Rel B s' Z' st a w' → a.defers = [] ∧ ∃ v, (results fn a.tmps).run P w' = .ok v w' ∧ ∃ v' d H' nx' s' Z', (.returned v : Ending) = .returned v' ∧ VR s' Z' d v' ∧ LtR nx' d ∧ RelH B s' Z' H' nx' w' ∧ R d H' nx' := by
    intro e st s' Z' a w' he hfin hr
    have hfin : match aresl st.env st.heap res with
        | some (p, ds) => (p ∧ ds.all argOk = true) ∧ R (resD ds) st.heap st.nx
        | none => False := by rcases he with rfl | rfl <;> exact hfin
    refine ⟨hr.defers, ?_⟩
    split at hfin
    case h_2 => exact hfin.elim
    rename_i p es hes
    obtain ⟨⟨hp, hall⟩, hRd⟩ := hfin
    obtain ⟨us, g1, g2, g3, g4⟩ := res_run hr _ _ p es h2 hes hp
    have hrun : (fn.results.mapM (m := Sem) fun | .tmp t => pure (a.tmps.getD t undef) | .cell q t => do loadVar t (← asAddr (a.tmps.getD q undef))).run P w' = .ok us.toArray w' := by
      rw [Array.mapM_eq_mapM_toList, Sem.run_map]
      exact congrArg (fun r => Result.andThen r _) g4
    have hres : (results fn a.tmps).run P w' = (do let vs ← (fn.results.mapM (m := Sem) fun | .tmp t => pure (a.tmps.getD t undef) | .cell q t => do loadVar t (← asAddr (a.tmps.getD q undef))); pure (if h : vs.size = 1 then vs[0] else .tuple vs) : Sem Value).run P w' := rfl
    have hV : ∀ j x, es[j]? = some x → VV s' Z' x (us.getD j undef) := fun j x hx => by
      have q1 := g2 j x hx
      have q2 := List.all_eq_true.1 hall x (List.mem_of_getElem? hx)
      cases x <;> first | exact q1 | cases q2
    have hLV : ∀ d ∈ es, LtV st.nx d := fun d hd => by
      have q1 := g3 d hd
      have q2 := List.all_eq_true.1 hall d hd
      cases d <;> first | exact q1 | cases q2
    match es, us, g1, hV, hLV, hRd, hrun with
    | [d], [u], _, hV, hLV, hRd, hrun =>
      refine ⟨u, ?_, u, d, st.heap, st.nx, s', Z', rfl, VR.of_vv (hV 0 d rfl), ?_, hr.h, hRd⟩
      · rw [hres, Sem.run_bind, hrun]
        simp
      · have := hLV d (by simp)
        cases d <;> first | exact this | (have q := hV 0 _ rfl; cases q; done)
    | [], [], _, hV, hLV, hRd, hrun =>
      refine ⟨.tuple #[], ?_, .tuple #[], .tup [], st.heap, st.nx, s', Z', rfl, ⟨#[], rfl, rfl, fun j x hx => by simp at hx⟩, fun d hd => by simp at hd, hr.h, hRd⟩
      rw [hres, Sem.run_bind, hrun]
      simp
    | d :: d' :: es, u :: u' :: us, g1, hV, hLV, hRd, hrun =>
      refine ⟨.tuple (u :: u' :: us).toArray, ?_, _, .tup (d :: d' :: es), st.heap, st.nx, s', Z', rfl, ⟨_, rfl, by simpa using g1, fun j x hx => ?_⟩, hLV, hr.h, hRd⟩
      · rw [hres, Sem.run_bind, hrun]
        simp
      · simpa [Array.getD_eq_getD_getElem?, List.getD_eq_getElem?_getD] using hV j x hx
  refine wp_mono hbody fun e a w' hl => ?_
  cases e with
  | normal => obtain ⟨st, s', Z', q1, q2⟩ := hl; exact key .normal st s' Z' a w' (.inr rfl) q1 q2
  | ret => obtain ⟨st, s', Z', q1, q2⟩ := hl; exact key .ret st s' Z' a w' (.inl rfl) q1 q2
  | exit id => obtain ⟨st, s', Z', q1, q2⟩ := hl; exact q1.elim
  | _ => exact hl.elim

theorem HF.of (hm : P.follows .mixedOrders = true) (hc : cfun P hw f = some ⟨code, res, n⟩) (hlen : ds.length ≤ n) (hno : ds.all argOk = true) (hlt : ∀ d ∈ ds, LtV nx d) (h : ∀ B : Base, B.N = n → B.n0 = nx → W P B hw code (Fin res R) ⟨envOf 0 ds, H, nx⟩) : HF P f ds H nx R := by
  obtain ⟨fn, c, hf, hb, h1, h2, h3, hcal⟩ := cfun_some hc
  refine ⟨hcal, fun F s Z w vs hR hl hv => ?_⟩
  refine (body_sound (B := ⟨n, F, w, nx, s, Z⟩) hm hc rfl hlen hno hlt (h _ rfl rfl) (hR.toN n) hl hv).mono ?_
  rintro e w' ⟨v, d, H', nx', s', Z', he, q1, q2, q3, q4⟩
  exact ⟨v, d, H', nx', s', Z', he, q1, q2, q3.toN 0, q4⟩

theorem noV_lt {d : D} (h : noV d = true) : LtV 0 d := by
  cases d with
  | agg ds => exact fun x hx => by have := List.all_eq_true.1 h x hx; cases x <;> first | trivial | cases this
  | own _ => cases h
  | ptr _ _ => cases h
  | pel _ _ _ _ => cases h
  | sl _ _ _ _ _ => cases h
  | clo _ _ => cases h
  | _ => trivial
theorem empty_rel (n : Nat) (Z : Cells) (w : World) (hz : ∀ b o v, Z b o = some v → w.cell? ⟨b, o, none⟩ = some v) : RelH ⟨n, fun _ => False, w, 0, s0, Z⟩ s0 Z [] 0 w :=
  ⟨(fun _ _ h => by cases h), (fun _ _ h => by cases h), (fun _ _ _ _ _ h => by cases h), hz, (fun _ _ _ _ h => by cases h), (fun _ _ _ h => by cases h), Fr.refl _ _, Nat.le_refl _, fun _ _ => rfl, fun _ _ _ h => h, fun _ _ _ h => .inl h⟩
/-- cells that are known, and cells of blocks of one's own -/
noncomputable def Zown (Z : Cells) (H : List (Nat × Ob)) (s : Nat → Value) (w : World) : Cells := open Classical in fun b o => if ∃ id ob, hget H id = some ob ∧ blk (s id) = some b then w.cell? ⟨b, o, none⟩ else Z b o

/-- what is handed back, read as data -/
def Rbr (e : D) (d : D) (H : List (Nat × Ob)) (_ : Nat) : Prop := match brwR H d with | some e' => leR e' e | none => False
theorem Rbr_at (e d : D) (H : List (Nat × Ob)) (nx : Nat) : Rbr e d H nx = (match brwR H d with | some e' => leR e' e | none => False) := rfl
theorem PF.of {e : D} (hm : P.follows .mixedOrders = true) (hc : cfun P hw f = some ⟨code, res, n⟩) (hlen : ds.length ≤ n) (hno : ds.all argOk = true) (hnv : ds.all noV = true)
    (h : ∀ B : Base, B.N = n → B.n0 = 0 → W P B hw code (Fin res (Rbr e)) ⟨envOf 0 ds, [], 0⟩) : PF P f ds e := by
  obtain ⟨fn, c, hf, hb, h1, h2, h3, hcal⟩ := cfun_some hc
  refine ⟨hcal, fun Z w vs hz hl hv => ?_⟩
  refine (body_sound (B := ⟨n, fun _ => False, w, 0, s0, Z⟩) hm hc rfl hlen hno (fun d hd => noV_lt (List.all_eq_true.1 hnv d hd)) (h _ rfl rfl) (empty_rel n Z w hz) hl hv).mono ?_
  rintro x w' ⟨v, d, H', nx', s', Z', he, q1, q2, q3, q4⟩
  have hbel : Below w.heap.size w w' := ⟨q3.fr.os, q3.fr.tape, q3.fr.output, q3.fr.size, fun k hk => q3.fr.block k hk (fun h => h)⟩
  unfold Rbr at q4
  split at q4
  case h_2 => exact q4.elim
  rename_i e' he'
  refine ⟨v, Zown Z' H' s' w', he, leR_sound q4 (brwR_sound q3.know (fun b o u hu => ?_) (fun id ob b hid hb o u hu => ?_) he' q1), ⟨fun b o u hu => ?_, fun b o u hu => ?_, fun b o u hu => ?_⟩, hbel⟩
  · unfold Zown
    split
    · exact q3.zok b o u hu
    · exact hu
  · unfold Zown
    rw [if_pos ⟨id, ob, hid, hb⟩]
    exact hu
  · unfold Zown
    split
    · exact q3.zok b o u (q3.bz b o u hu)
    · exact q3.bz b o u hu
  · unfold Zown at hu
    split at hu
    · rename_i hx
      obtain ⟨id, ob, hid, hb⟩ := hx
      rcases q3.mine id ob b hid hb with h5 | h5
      · exact .inr h5
      · exact h5.elim
    · rcases q3.bn b o u hu with h5 | h5 | h5
      · exact .inl h5
      · exact .inr h5
      · exact h5.elim
  · unfold Zown at hu
    split at hu
    · exact hu
    · exact q3.zok b o u hu

/-! ### Results in new memory alone -/
def frC (H : List (Nat × Ob)) : Nat → D → Prop
  | n, .own id => match n with
    | 0 => False
    | n + 1 => match hget H id with
      | some (.row _ xs) => ∀ row ∈ xs, ∀ d ∈ row, flatC d = true
      | some (.rowd _ xs) => ∀ row ∈ xs, ∀ d ∈ row, frC H n d
      | _ => False
  | n, .ptr id _ => match n with
    | 0 => False
    | n + 1 => match hget H id with
      | some (.cells ds) => ∀ d ∈ ds, frC H n d
      | _ => False
  | _, .nil0 => True
  | _, d => flatC d = true
def frV (H : List (Nat × Ob)) : D → Prop
  | .agg ds => ∀ d ∈ ds, frC H 4 d
  | d => frC H 4 d
def frR (H : List (Nat × Ob)) : D → Prop
  | .tup ds => ∀ d ∈ ds, frV H d
  | d => frV H d
section
variable {B : Base} {s : Nat → Value} {Z Zn : Cells} {w : World}
theorem flatC_VT {d : D} {v : Value} (h : VC s Z d v) (hf : flatC d = true) : VT Zn d v := by
  cases d <;> first | (cases hf; done) | (cases h; constructor)
theorem frC_sound (hk : Know s Z H w) (hp : ∀ id ob b, hget H id = some ob → blk (s id) = some b → ∀ o v, w.cell? ⟨b, o, none⟩ = some v → Zn b o = some v) :
    ∀ (n : Nat) (d e : D) (v : Value), brwC H n d = some e → frC H n d → VC s Z d v → VT Zn e v := by
  have rowv : ∀ (R : D → Value → Prop) (id sz : Nat) (xs ys : List (List D)) ob, hget H id = some ob → RowOk R w sz xs (s id) → ys.length = xs.length → (∀ (i : Nat) (row : List D) (j : Nat) (e : D), ys[i]? = some row → row[j]? = some e → j < sz ∧ ∃ row' d, xs[i]? = some row' ∧ row'[j]? = some d ∧ ∀ v, R d v → VT Zn e v) → VT Zn (.rows sz ys) (s id) := by
    intro R id sz xs ys ob hh ho hl hc
    obtain ⟨h0, hrow, ho⟩ := ho
    rcases ho with ⟨rfl, a, hv⟩ | ⟨g, cap, cur, e, hv, hg, hcap, hm, hcs, hcc⟩
    · have : ys = [] := List.eq_nil_of_length_eq_zero (by simpa using hl)
      subst this
      rw [hv]
      exact VT.rnil sz a 0
    · rw [hv, ← hl]
      refine VT.rows sz ys g 0 cap (fun i j => cur.getD (i * sz + j) undef) (by omega) (fun i row j d hi hj => ?_) (fun i row j d hi hj => ?_)
      · obtain ⟨hj', row', x, hx, hxj, _⟩ := hc i row j d hi hj
        refine ⟨hj', ?_⟩
        have hil : i < xs.length := (List.getElem?_eq_some_iff.1 hx).1
        have hlt : i * sz + j < cur.size := by
          rw [hcs]
          have : (i + 1) * sz ≤ cap * sz := Nat.mul_le_mul_right _ (by omega)
          rw [Nat.add_mul] at this; omega
        have hcap0 : cap ≠ 0 := by omega
        refine hp id ob g hh (by rw [hv]; simp [blk, hcap0]) _ _ ?_
        rw [Nat.zero_add, cell_of_row w g _ cur e (0, 0) hg]
        simp [hlt]
      · obtain ⟨hj', row', x, hx, hxj, hR⟩ := hc i row j d hi hj
        exact hR _ (hcc i row' j x hx hxj)
  have leaf : ∀ (d e : D) (v : Value), e = d → (flatC d = true ∨ d = .nil0) → VC s Z d v → VT Zn e v := fun d e v he hf hv => by
    subst he
    rcases hf with hf | rfl
    · exact flatC_VT hv hf
    · cases hv; exact VT.nil0 _
  intro n
  induction n with
  | zero =>
    intro d e v h hf hv
    cases d <;> simp only [brwC, Option.some.injEq, reduceCtorEq] at h <;> simp only [frC] at hf <;> first | exact leaf _ _ _ h.symm (.inl hf) hv | exact leaf _ _ _ h.symm (.inr rfl) hv
  | succ n ih =>
    intro d e v h hf hv
    cases d with
    | own id =>
      simp only [brwC] at h
      simp only [frC] at hf
      obtain ⟨rfl, _⟩ := hv
      split at h
      · rename_i sz xs hh
        simp only [Option.some.injEq] at h
        subst h
        simp only [hh] at hf
        have ho := hk.ob _ _ hh
        refine rowv _ id sz xs xs _ hh ho rfl fun i row j e hi hj => ⟨?_, row, e, hi, hj, fun v h => flatC_VT (s := s) (VC.of_vt h) (hf row (List.mem_of_getElem? hi) e (List.mem_of_getElem? hj))⟩
        have := (List.getElem?_eq_some_iff.1 hj).1
        rwa [ho.2.1 _ (List.mem_of_getElem? hi)] at this
      · rename_i sz xs hh
        simp only [hh] at hf
        cases hm : omap (omap (brwC H n)) xs with
        | none => rw [hm] at h; cases h
        | some ys =>
          rw [hm] at h
          simp only [Option.map_some, Option.some.injEq] at h
          subst h
          obtain ⟨g1, g2⟩ := omap_some hm
          have ho := hk.ob _ _ hh
          refine rowv _ id sz xs ys _ hh ho g1 fun i row j e hi hj => ?_
          obtain ⟨row', hx, hr⟩ := g2 i row hi
          obtain ⟨f1, f2⟩ := omap_some hr
          obtain ⟨d, hd, hb⟩ := f2 j e hj
          have : j < row'.length := (List.getElem?_eq_some_iff.1 hd).1
          rw [ho.2.1 _ (List.mem_of_getElem? hx)] at this
          exact ⟨this, row', d, hx, hd, fun v h => ih d e v hb (hf row' (List.mem_of_getElem? hx) d (List.mem_of_getElem? hd)) h⟩
      · cases h
    | ptr id j =>
      simp only [brwC] at h
      simp only [frC] at hf
      split at h
      · rename_i ds hh
        simp only [hh] at hf
        cases hm : omap (brwC H n) (ds.drop j) with
        | none => rw [hm] at h; cases h
        | some es =>
          rw [hm] at h
          simp only [Option.map_some, Option.some.injEq] at h
          subst h
          obtain ⟨g1, g2⟩ := omap_some hm
          obtain ⟨b, hs, rfl⟩ := hv
          obtain ⟨b', T, cs, hs', hg, hsz, hc⟩ := hk.ob _ _ hh
          rw [hs] at hs'
          injection hs' with e; injection e with e; injection e with e _; subst e
          refine VT.pc es b j (fun k => cs.getD (j + k) undef) (fun k e he => ?_) (fun k e he => ?_)
          · obtain ⟨d, hd, _⟩ := g2 k e he
            rw [List.getElem?_drop] at hd
            have hlt : j + k < cs.size := by rw [hsz]; exact (List.getElem?_eq_some_iff.1 hd).1
            refine hp id _ b hh (by rw [hs]; rfl) _ _ ?_
            rw [cell_of_row w b _ cs T (0, 0) hg]
            simp [hlt]
          · obtain ⟨d, hd, hb⟩ := g2 k e he
            have hd' := hd
            rw [List.getElem?_drop] at hd
            exact ih d e _ hb (hf d (List.mem_of_mem_drop (List.mem_of_getElem? hd'))) (hc _ d hd)
      · cases h
    | pel _ _ _ _ => simp [brwC] at h
    | sl _ _ _ _ _ => simp [brwC] at h
    | clo f ids => simp [frC, flatC] at hf
    | agg _ => simp [brwC] at h
    | tup _ => simp [brwC] at h
    | opt _ _ => simp [brwC] at h
    | nil0 => simp only [brwC, Option.some.injEq] at h; exact leaf _ _ _ h.symm (.inr rfl) hv
    | _ => simp only [brwC, Option.some.injEq] at h; simp only [frC] at hf; exact leaf _ _ _ h.symm (.inl hf) hv
theorem frV_sound (hk : Know s Z H w) (hp : ∀ id ob b, hget H id = some ob → blk (s id) = some b → ∀ o v, w.cell? ⟨b, o, none⟩ = some v → Zn b o = some v) {d e : D} {v : Value} (h : brwV H d = some e) (hf : frV H d) (hv : VV s Z d v) : VV s0 Zn e v := by
  have one : brwC H 4 d = some e → frC H 4 d → VC s Z d v → VV s0 Zn e v := fun h1 h2 h3 => VV.of_vc (VC.of_vt (frC_sound hk hp 4 d e v h1 h2 h3))
  cases d with
  | agg ds =>
    simp only [brwV] at h
    cases hm : omap (brwC H 4) ds with
    | none => rw [hm] at h; cases h
    | some es =>
      rw [hm] at h
      simp only [Option.map_some, Option.some.injEq] at h
      subst h
      obtain ⟨vs, rfl, hl, hc⟩ := hv
      obtain ⟨g1, g2⟩ := omap_some hm
      refine ⟨vs, rfl, by omega, fun j x hx => ?_⟩
      obtain ⟨y, hy, hb⟩ := g2 j x hx
      exact VC.of_vt (frC_sound hk hp 4 y x _ hb (hf y (List.mem_of_getElem? hy)) (hc j y hy))
  | any => simp only [brwV, reduceCtorEq] at h
  | _ => exact one h hf hv
theorem frR_sound (hk : Know s Z H w) (hp : ∀ id ob b, hget H id = some ob → blk (s id) = some b → ∀ o v, w.cell? ⟨b, o, none⟩ = some v → Zn b o = some v) {d e : D} {v : Value} (h : brwR H d = some e) (hf : frR H d) (hv : VR s Z d v) : VR s0 Zn e v := by
  cases d with
  | tup ds =>
    simp only [brwR] at h
    cases hm : omap (brwV H) ds with
    | none => rw [hm] at h; cases h
    | some es =>
      rw [hm] at h
      simp only [Option.map_some, Option.some.injEq] at h
      subst h
      obtain ⟨vs, rfl, hl, hc⟩ := hv
      obtain ⟨g1, g2⟩ := omap_some hm
      refine ⟨vs, rfl, by omega, fun j x hx => ?_⟩
      obtain ⟨y, hy, hb⟩ := g2 j x hx
      exact frV_sound hk hp hb (hf y (List.mem_of_getElem? hy)) (hc j y hy)
  | any => simp only [brwR, brwV, reduceCtorEq] at h
  | _ => simp only [brwR] at h; simp only [VR] at hv; exact VR.of_vv (frV_sound hk hp h hf hv)
end
def Rfr (e : D) (d : D) (H : List (Nat × Ob)) (_ : Nat) : Prop := (match brwR H d with | some e' => leR e' e | none => False) ∧ frR H d
theorem Rfr_at (e d : D) (H : List (Nat × Ob)) (nx : Nat) : Rfr e d H nx = ((match brwR H d with | some e' => leR e' e | none => False) ∧ frR H d) := rfl
theorem PFn.of {e : D} (hm : P.follows .mixedOrders = true) (hc : cfun P hw f = some ⟨code, res, n⟩) (hlen : ds.length ≤ n) (hno : ds.all argOk = true) (hnv : ds.all noV = true)
    (h : ∀ B : Base, B.N = n → B.n0 = 0 → W P B hw code (Fin res (Rfr e)) ⟨envOf 0 ds, [], 0⟩) : PFn P f ds e := by
  obtain ⟨fn, c, hf, hb, h1, h2, h3, hcal⟩ := cfun_some hc
  refine ⟨hcal, fun Z w vs hz hl hv => ?_⟩
  refine (body_sound (B := ⟨n, fun _ => False, w, 0, s0, Z⟩) hm hc rfl hlen hno (fun d hd => noV_lt (List.all_eq_true.1 hnv d hd)) (h _ rfl rfl) (empty_rel n Z w hz) hl hv).mono ?_
  rintro x w' ⟨v, d, H', nx', s', Z', he, q1, q2, q3, q4, q5⟩
  have hbel : Below w.heap.size w w' := ⟨q3.fr.os, q3.fr.tape, q3.fr.output, q3.fr.size, fun k hk => q3.fr.block k hk (fun h => h)⟩
  split at q4
  case h_2 => exact q4.elim
  rename_i e' he'
  refine ⟨v, Zown (fun _ _ => none) H' s' w', he, leR_sound q4 (frR_sound q3.know (fun id ob b hid hb o u hu => ?_) he' q5 q1), fun b o u hu => ?_, hbel⟩
  · unfold Zown
    rw [if_pos ⟨id, ob, hid, hb⟩]
    exact hu
  · unfold Zown at hu
    split at hu
    · rename_i hx
      obtain ⟨id, ob, hid, hb⟩ := hx
      rcases q3.mine id ob b hid hb with h5 | h5
      · exact ⟨h5, hu⟩
      · exact h5.elim
    · cases hu
end
end Go.Proofs.Ytfkeddefajkobaa

set_option linter.unusedSimpArgs false
set_option linter.unusedVariables false
namespace Go.Proofs.Ytfkeddefajkobaa
open Go.RowKit

def rnS (ρ : Nat → Nat) : D → D
  | .opt g d => .opt g (rnR ρ d)
  | d => rnR ρ d
theorem VS.rn {s s' : Nat → Value} {Z : Cells} {ρ : Nat → Nat} {n : Nat} (hs : ∀ id, id < n → s' (ρ id) = s id) {d : D} {v : Value} (hl : LtS n d) : VS s' Z (rnS ρ d) v ↔ VS s Z d v := by
  cases d with
  | opt g d => exact ⟨fun h => ⟨fun hg => (VR.rn hs (hl hg)).1 (h.1 hg), h.2⟩, fun h => ⟨fun hg => (VR.rn hs (hl hg)).2 (h.1 hg), h.2⟩⟩
  | tup ds => exact VR.rn (Z := Z) (d := .tup ds) hs hl
  | agg ds => exact VR.rn (Z := Z) (d := .agg ds) hs hl
  | own id => exact VR.rn (Z := Z) (d := .own id) hs hl
  | ptr id j => exact VR.rn (Z := Z) (d := .ptr id j) hs hl
  | pel id i sz j => exact VR.rn (Z := Z) (d := .pel id i sz j) hs hl
  | sl id sz off len cap => exact VR.rn (Z := Z) (d := .sl id sz off len cap) hs hl
  | clo f ids => exact VR.rn (Z := Z) (d := .clo f ids) hs hl
  | _ => exact Iff.rfl
/-- number id of what is known anew is this number of what was known -/
def lget (l : List Nat) (id : Nat) : Nat := l.getD id id
section
variable {P : Program} {B : Base} {hw : List FuncId} {Q Q' : Ex → St → Prop} {st st1 : St} {sb : Bool} {K : St → Prop}
theorem Gh.ren (l : List Nat) (h0 : B.n0 ≤ st1.nx) (hl : ∀ id, id < B.n0 → lget l id = id) (he : ∀ p ∈ st1.env, eget st.env p.1 = rnS (lget l) p.2 ∧ LtS st1.nx p.2)
    (hh : ∀ p ∈ st1.heap, p.1 < st1.nx ∧ LtO st1.nx p.2 ∧ hget st.heap (lget l p.1) = some (rnO (lget l) p.2)) (hnd : (st1.heap.map fun p => lget l p.1).Nodup ∨ l = []) : Gh B st st1 := by
  intro s Z a w hr
  have hE : ∀ k, eget st1.env k = .any ∨ (k, eget st1.env k) ∈ st1.env := fun k => by
    have : ∀ l : List (Nat × D), eget l k = .any ∨ (k, eget l k) ∈ l := fun l => by
      induction l with
      | nil => exact .inl rfl
      | cons p l ih =>
        obtain ⟨j, d⟩ := p
        simp only [eget]
        split
        · rename_i e; subst e; exact .inr (List.mem_cons_self ..)
        · exact ih.imp id (List.mem_cons_of_mem _)
    exact this _
  refine ⟨fun id => s (lget l id), Z, ⟨fun k => ?_, fun k => ?_, hr.size, hr.defers, ?_⟩⟩
  · rcases hE k with h | h
    · rw [h]; trivial
    · obtain ⟨h1, h2⟩ := he _ h
      exact (VS.rn (s' := s) (fun _ _ => rfl) h2).1 (by rw [← h1]; exact hr.env k)
  · rcases hE k with h | h
    · rw [h]; trivial
    · exact (he _ h).2
  · have hH : ∀ id ob, hget st1.heap id = some ob → id < st1.nx ∧ LtO st1.nx ob ∧ hget st.heap (lget l id) = some (rnO (lget l) ob) := fun id ob h => hh _ (hget_mem h)
    have inj : ∀ id id' ob ob', hget st1.heap id = some ob → hget st1.heap id' = some ob' → id ≠ id' → lget l id ≠ lget l id' := fun id id' ob ob' h1 h2 hne e => by
      rcases hnd with hnd | rfl
      · have m1 := hget_mem h1
        have m2 := hget_mem h2
        obtain ⟨i, hi⟩ := List.getElem?_of_mem m1
        obtain ⟨j, hj⟩ := List.getElem?_of_mem m2
        have g1 : (st1.heap.map fun p => lget l p.1)[i]? = some (lget l id) := by rw [List.getElem?_map, hi]; rfl
        have g2 : (st1.heap.map fun p => lget l p.1)[j]? = some (lget l id') := by rw [List.getElem?_map, hj]; rfl
        obtain ⟨l1, e1⟩ := List.getElem?_eq_some_iff.1 g1
        obtain ⟨l2, e2⟩ := List.getElem?_eq_some_iff.1 g2
        have : i = j := (List.getElem_inj hnd).1 (by rw [e1, e2]; exact e)
        subst this
        rw [hi] at hj
        cases hj
        exact hne rfl
      · exact hne (by simpa [lget] using e)
    refine ⟨fun id ob h => ?_, fun id ob h => ?_, fun id id' ob ob' b h h' hne hb => ?_, hr.h.zok, fun id ob b o h hb => ?_, fun id ob b h hb => ?_, hr.h.fr, h0, fun id hid => ?_, hr.h.bz, hr.h.bn⟩
    · obtain ⟨h1, h2, h3⟩ := hH id ob h
      exact (ObOk.rn (s' := s) (fun _ _ => rfl) h2).1 (hr.h.ob _ _ h3)
    · obtain ⟨h1, h2, h3⟩ := hH id ob h
      exact ⟨h1, h2⟩
    · exact hr.h.apart _ _ _ _ b (hH id ob h).2.2 (hH id' ob' h').2.2 (inj id id' ob ob' h h' hne) hb
    · exact hr.h.zap _ _ b o (hH id ob h).2.2 hb
    · exact hr.h.mine _ _ b (hH id ob h).2.2 hb
    · rw [hl id hid]; exact hr.h.bs id hid

theorem Gh.of_eq (h : st = st1) : Gh B st st1 := h ▸ Gh.refl st
/-- the end of a round -/
def LK {α : Type} (B : Base) (S : α → St) (I : Nat → α → Prop) (n : Nat) (st : St) : Prop := ∃ m y', Gh B st (S y') ∧ m < n ∧ I m y'
theorem W.loopS {α : Type} {x : AC} (S : α → St) (I : Nat → α → Prop) (h0 : ∃ n y, Gh B st (S y) ∧ I n y)
    (hround : ∀ n y, I n y → W P B hw x (seqQ (LK B S I n) Q) (S y)) : W P B hw (.loop x) Q st := by
  refine W.loop (fun n st => ∃ y, st = S y ∧ I n y) ?_ ?_
  · obtain ⟨n, y, h1, h2⟩ := h0
    exact ⟨n, S y, h1, y, rfl, h2⟩
  · rintro n _ ⟨y, rfl, h⟩
    refine (hround n y h).mono fun e st' h' => ?_
    cases e with
    | normal => obtain ⟨m, y', h1, h2, h3⟩ := h'; exact ⟨m, S y', h1, h2, y', rfl, h3⟩
    | _ => exact h'

theorem WCall.pf {f : FuncId} {as_ : List Opd} {es : List D} {d : D} {dst : Option Nat} (hpf : PF P f es d) (hok : oks st.env (.call f as_) = true) (hes : match omap (brwV st.heap) (as_.map (evS st.env)) with | some e => leVL e es | none => False) (hno : ((as_.map (evS st.env)).all noV || flatR d) = true)
    (hK : K ⟨putO st.env dst d, st.heap, st.nx⟩) : WCall P sb B (.call f as_) dst st K := WCall.of hok (CallOk.pf hpf hes hno hK)
theorem WCall.pfn {f : FuncId} {as_ : List Opd} {es : List D} {d : D} {dst : Option Nat} (hpf : PFn P f es d) (hok : oks st.env (.call f as_) = true) (hes : match omap (brwV st.heap) (as_.map (evS st.env)) with | some e => leVL e es | none => False)
    (hK : K ⟨putO st.env dst d, st.heap, st.nx⟩) : WCall P sb B (.call f as_) dst st K := WCall.of hok (CallOk.pfn hpf hes hK)
theorem WCall.gh {ao : AOp} {dst : Option Nat} (hg : Gh B st st1) (h : WCall P sb B ao dst st1 K) : WCall P sb B ao dst st K := fun o s Z a w K' Q hc hd hdst hr hG => by
  obtain ⟨s', Z', hr'⟩ := hg s Z a w hr
  exact h o s' Z' a w K' Q hc hd hdst hr' hG
end

/-! ### Ghost steps -/
section
variable {B : Base} {st : St}
/-- nothing becomes an own slice of nothing -/
theorem Gh.adopt (k sz : Nat) (h0 : 0 < sz) (hk : eget st.env k = .nil0) : Gh B st ⟨eput st.env k (.own st.nx), eput st.heap st.nx (.row sz []), st.nx + 1⟩ := by
  intro s Z a w hr
  have hv := hr.env k
  rw [hk] at hv
  have hv : VT Z .nil0 (a.tmps.getD k undef) := hv
  generalize hav : a.tmps.getD k undef = v at hv
  cases hv with
  | nil0 q =>
  have hH := hr.h.new (w' := w) (v := .slice q 0 0) (ob := .row sz []) (Below.refl _ _) ⟨h0, (fun _ h => by cases h), .inl ⟨rfl, q, rfl⟩⟩ trivial (fun k hk => by cases q <;> simp [blk] at hk)
  refine ⟨_, Z, fun j => ?_, fun j => ?_, hr.size, hr.defers, hH⟩
  · rw [eget_eput]
    split
    · rename_i e; subst e; rw [hav]; exact ⟨(upd_same _ _ _).symm, .inl ⟨q, 0, 0, rfl⟩⟩
    · exact (hr.env j).mono (fun _ _ _ h => h) (upd_lt s st.nx _) (hr.elt j)
  · rw [eget_eput]
    split
    · exact Nat.lt_succ_self _
    · exact (hr.elt j).mono (Nat.le_succ _)
/-- the same for a cell of a variable -/
theorem Gh.adoptC (id j sz : Nat) (h0 : 0 < sz) (ds : List D) (hh : hget st.heap id = some (.cells ds)) (hk : ds[j]? = some .nil0) : Gh B st ⟨st.env, eput (eput st.heap st.nx (.row sz [])) id (.cells (ds.set j (.own st.nx))), st.nx + 1⟩ := by
  intro s Z a w hr
  obtain ⟨b, T, cs, hb, hg, hsz, hc⟩ := hr.h.ob _ _ hh
  have hv := hc j _ hk
  have hv : VT Z .nil0 (cs.getD j undef) := hv
  generalize hav : cs.getD j undef = v at hv
  cases hv with
  | nil0 q =>
  have hlt := hr.h.lt _ _ hh
  have hne : id ≠ st.nx := by omega
  have hH := hr.h.new (w' := w) (v := .slice q 0 0) (ob := .row sz []) (Below.refl _ _) ⟨h0, (fun _ h => by cases h), .inl ⟨rfl, q, rfl⟩⟩ trivial (fun k hk => by cases q <;> simp [blk] at hk)
  have hh' : hget (eput st.heap st.nx (.row sz [])) id = some (.cells ds) := by rw [hget_eput, if_neg hne]; exact hh
  have hs : upd s st.nx (.slice q 0 0) id = s id := upd_lt _ _ _ _ hlt.1
  have hH2 : RelH B (upd s st.nx (.slice q 0 0)) Z (eput (eput st.heap st.nx (.row sz [])) id (.cells (ds.set j (.own st.nx)))) (st.nx + 1) w := by
    refine hH.write (k := b) hh' (by rw [hs, hb]; rfl) ⟨rfl, rfl, rfl, rfl, fun _ _ => rfl⟩ ?_ ?_
    · refine ⟨b, T, cs, by rw [hs]; exact hb, hg, by simpa using hsz, fun i x hx => ?_⟩
      rw [List.getElem?_set] at hx
      split at hx
      · rename_i e
        subst e
        split at hx
        · simp only [Option.some.injEq] at hx; subst hx; rw [hav]; exact ⟨(upd_same _ _ _).symm, .inl ⟨q, 0, 0, rfl⟩⟩
        · cases hx
      · exact VC.mono (fun _ _ _ h => h) (upd_lt s st.nx _) (hlt.2 x (List.mem_of_getElem? hx)) (hc i x hx)
    · intro x hx
      rcases List.mem_or_eq_of_mem_set hx with hx | rfl
      · exact (hlt.2 x hx).mono (Nat.le_succ _)
      · exact Nat.lt_succ_self _
  exact ⟨_, Z, fun j => (hr.env j).mono (fun _ _ _ h => h) (upd_lt s st.nx _) (hr.elt j), fun j => (hr.elt j).mono (Nat.le_succ _), hr.size, hr.defers, hH2⟩
end

/-! ### Symbolic rows -/
theorem mn_min (a b : Int) : (if b < a then b else a) = min a b := by split <;> omega
theorem mx_max (a b : Int) : (if a < b then b else a) = max a b := by split <;> omega
abbrev I (z : Int) : D := .int .i64 z
theorem splice_one (l : List D) (j : Nat) (v : D) (h : j < l.length) : splice l j [v] = l.set j v := by
  unfold splice
  rw [List.set_eq_take_append_cons_drop, if_pos h]
  simp
theorem splice_more (l : List D) (j : Nat) (x y : D) (es : List D) : splice l j (x :: y :: es) = l.take j ++ (x :: y :: es) ++ l.drop (j + (es.length + 1 + 1)) := rfl
theorem splice_map {α : Type} (f : α → D) (l : List α) (j : Nat) (v : α) (h : j < l.length) : splice (l.map f) j [f v] = (l.set j v).map f := by
  rw [splice_one _ _ _ (by simpa using h), List.map_set]
theorem headD_drop {α : Type} (l : List α) (j : Nat) (d : α) : (l.drop j).headD d = l.getD j d := by
  simp [List.headD_eq_head?_getD, List.head?_drop, List.getD_eq_getElem?_getD]
theorem getD_map {α β : Type} (f : α → β) (l : List α) (j : Nat) (d : β) (e : α) (h : j < l.length) : (l.map f).getD j d = f (l.getD j e) := by
  simp [List.getD_eq_getElem?_getD, h]
end Go.Proofs.Ytfkeddefajkobaa

set_option linter.unusedSimpArgs false
set_option linter.unusedVariables false
namespace Go.Proofs.Ytfkeddefajkobaa
open Go.RowKit

/-- the slice v reads as the list xs; each element lies in sz cells, as E says -/
def Sl {α : Type} (w : World) (sz : Nat) (E : α → List Value) (v : Value) (xs : List α) : Prop :=
  ∃ a cap, v = .slice a xs.length cap ∧ xs.length ≤ cap ∧ (a = none → cap = 0) ∧ (xs ≠ [] → ∃ b off, a = some ⟨b, off, none⟩ ∧ b < w.heap.size ∧
    ∀ i x j u, xs[i]? = some x → (E x)[j]? = some u → w.cell? ⟨b, off + i * sz + j, none⟩ = some u)

theorem Sl.nil {α : Type} (w : World) (sz : Nat) (E : α → List Value) : Sl w sz E (.slice none 0 0) [] := ⟨none, 0, rfl, Nat.le_refl _, fun _ => rfl, fun h => absurd rfl h⟩
theorem Sl.below {α : Type} {B : Nat} {w w' : World} {sz : Nat} {E : α → List Value} {v : Value} {xs : List α} (h : Sl w sz E v xs) (hB : w.heap.size ≤ B) (hb : Below B w w') : Sl w' sz E v xs := by
  obtain ⟨a, cap, h1, h2, h0, h3⟩ := h
  refine ⟨a, cap, h1, h2, h0, fun hne => ?_⟩
  obtain ⟨b, off, h4, h5, h6⟩ := h3 hne
  refine ⟨b, off, h4, Nat.lt_of_lt_of_le h5 hb.size, fun i x j u hx hu => ?_⟩
  rw [hb.cell (p := ⟨b, off + i * sz + j, none⟩) (Nat.lt_of_lt_of_le h5 hB)]
  exact h6 i x j u hx hu
theorem Sl.call {α : Type} {w w' : World} {sz : Nat} {E : α → List Value} {v : Value} {xs : List α} (h : Sl w sz E v xs) (hb : Below w.heap.size w w') : Sl w' sz E v xs := h.below (Nat.le_refl _) hb

theorem length_flatMap {α : Type} (E : α → List Value) (sz : Nat) (hE : ∀ x, (E x).length = sz) (ys : List α) : (ys.flatMap E).length = ys.length * sz := by
  induction ys with
  | nil => simp
  | cons y ys ih => rw [List.flatMap_cons, List.length_append, hE, ih, List.length_cons, Nat.add_mul]; omega
theorem getElem?_flatMap {α : Type} (E : α → List Value) (sz : Nat) (hE : ∀ x, (E x).length = sz) (xs : List α) (i : Nat) (x : α) (hx : xs[i]? = some x) (j : Nat) (hj : j < sz) :
    (xs.flatMap E)[i * sz + j]? = (E x)[j]? := by
  induction xs generalizing i with
  | nil => simp at hx
  | cons y ys ih =>
    rw [List.flatMap_cons]
    cases i with
    | zero =>
      simp at hx
      subst hx
      rw [List.getElem?_append_left (by rw [hE]; omega)]
      simp
    | succ i =>
      rw [List.getElem?_append_right (by rw [hE, Nat.add_mul]; omega), hE, show (i + 1) * sz + j - sz = i * sz + j by rw [Nat.add_mul]; omega]
      exact ih i (by simpa using hx)

theorem Sl.of_owns {α : Type} {w : World} {base : Nat} {e : TypeId} {sz : Nat} {E : α → List Value} {v : Value} {xs : List α} (hE : ∀ x, (E x).length = sz)
    (h : w.ownsRow base e sz v xs.length (xs.flatMap E)) : Sl w sz E v xs := by
  have h0 := h
  obtain ⟨_, h2⟩ := h
  rcases h2 with ⟨h1, h2⟩ | ⟨g, cap, cur, rfl, hg, hh, hn, hcap, hsz, htake⟩
  · have hx : xs = [] := List.length_eq_zero_iff.1 h2
    subst hx
    exact h1 ▸ Sl.nil w sz E
  · refine ⟨_, cap, rfl, hn, fun h => (by cases h), fun _ => ⟨g, 0, rfl, ?_, fun i x j u hx hu => ?_⟩⟩
    · rcases Nat.lt_or_ge g w.heap.size with h1 | h1
      · exact h1
      · rw [Array.getElem?_eq_none h1] at hh; cases hh
    · have hj : j < sz := by
        have := (List.getElem?_eq_some_iff.1 hu).1
        rw [hE] at this; exact this
      have hi : i < xs.length := (List.getElem?_eq_some_iff.1 hx).1
      have hij : i * sz + j < xs.length * sz := by
        have : (i + 1) * sz ≤ xs.length * sz := Nat.mul_le_mul_right _ hi
        rw [Nat.add_mul] at this; omega
      rw [Nat.zero_add, h0.cellAt _ hij, getElem?_flatMap E sz hE xs i x hx j hj, hu]

theorem owns_call {w w' : World} {base : Nat} {e : TypeId} {sz n : Nat} {v : Value} {xs : List Value} (h : w.ownsRow base e sz v n xs) (hb : Below w.heap.size w w') : w'.ownsRow base e sz v n xs := by
  obtain ⟨h1, h2⟩ := h
  refine ⟨h1, ?_⟩
  rcases h2 with h2 | ⟨g, cap, cur, hv, hg, hh, r⟩
  · exact Or.inl h2
  · refine Or.inr ⟨g, cap, cur, hv, hg, ?_, r⟩
    rw [hb.block g ?_]
    · exact hh
    · rcases Nat.lt_or_ge g w.heap.size with h1 | h1
      · exact h1
      · rw [Array.getElem?_eq_none h1] at hh; cases hh

/-- append to a slice of one's own, of whatever slice that reads as a list -/
theorem wpList_append_Sl {α : Type} {P : Program} {w : World} {ops : Array Oper} {rest : List Oper} {o : Oper} {a : Act} {Q : Exit → Act → World → Prop} (hgd : o.guard = none) (s x : Operand) (t : TypeId)
    (ho : o.op = .call { callee := .builtin .append, args := #[s, x], argTypes := #[t, t] })
    (base : Nat) (e : TypeId) (i : TypeInfo) (z : Value) (size bytes : Nat) (ht : P.underlying t = some (.slice e)) (hi : P.info? e = some i) (hz : i.zero = some z)
    (hsize : i.size = size) (hby : i.bytes = bytes) (hzs : z.cells.size = size) (hsz : 0 < size)
    (v : Value) (n : Nat) (xs : List Value) (hs : a.eval s = v) (hown : w.ownsRow base e size v n xs)
    (E : α → List Value) (hE : ∀ y, (E y).length = size) (h1 : ∀ y, ∀ u ∈ E y, u.oneCell' = true) (v2 : Value) (ys : List α) (hx : a.eval x = v2) (hv2 : Sl w size E v2 ys)
    (h63 : n + ys.length ≤ maxLen) (hbytes : (n + ys.length) * bytes ≤ 140737488355328) (hbase : base ≤ w.heap.size)
    (h : ∀ v' w', w'.ownsRow base e size v' (n + ys.length) (xs ++ ys.flatMap E) → w.grownBy w' v.ownBlock → wpList P ops Q rest (a.put o.dst v') w') : wpList P ops Q (o :: rest) a w := by
  obtain ⟨ad, cap, hv, hcap, h0, hc⟩ := hv2
  by_cases hne : ys = []
  · subst hne
    cases ad with
    | none =>
      rw [h0 rfl] at hv
      rw [hv] at hx
      refine wpList_append_own_none hgd s x t ho base e i size ht hi v n xs hs hown hx ?_
      exact h v w (by simpa using hown) ⟨rfl, rfl, rfl, Nat.le_refl _, fun _ _ _ => rfl⟩
    | some ad =>
      rw [hv] at hx
      exact wpList_append_own w hgd s x t ho base e i z size bytes ht hi hz hsize hby hzs hsz v n xs hs hown ad 0 cap [] hx (by simp) (fun j u hu => by simp at hu) (fun u hu => by cases hu) h63 hbytes hbase (fun v' w' h2 h3 _ => h v' w' h2 h3)
  · obtain ⟨b, off, rfl, hb, hcells⟩ := hc hne
    rw [hv] at hx
    have hlen := length_flatMap E size hE ys
    refine wpList_append_own w hgd s x t ho base e i z size bytes ht hi hz hsize hby hzs hsz v n xs hs hown ⟨b, off, none⟩ ys.length cap (ys.flatMap E) hx hlen ?_ ?_ h63 hbytes hbase (fun v' w' h2 h3 _ => h v' w' h2 h3)
    · intro j u hu
      have hj : j < ys.length * size := by rw [← hlen]; exact (List.getElem?_eq_some_iff.1 hu).1
      have hi' : j / size < ys.length := Nat.div_lt_of_lt_mul (by rw [Nat.mul_comm]; exact hj)
      have hm : j % size < size := Nat.mod_lt _ hsz
      have hd := Nat.div_add_mod j size
      have hy : ys[j / size]? = some ys[j / size] := List.getElem?_eq_getElem hi'
      have h2 := getElem?_flatMap E size hE ys (j / size) _ hy (j % size) hm
      rw [show j / size * size + j % size = j by rw [Nat.mul_comm]; exact hd, hu] at h2
      rw [Addr.add_mid]
      have := hcells (j / size) _ (j % size) u hy h2.symm
      rwa [show off + j / size * size + j % size = off + j by rw [Nat.add_assoc, show j / size * size + j % size = j by rw [Nat.mul_comm]; exact hd]] at this
    · intro u hu
      obtain ⟨y, _, hy⟩ := List.mem_flatMap.1 hu
      exact h1 y u hy
end Go.Proofs.Ytfkeddefajkobaa

set_option linter.unusedSimpArgs false
set_option linter.unusedVariables false
namespace Go.Proofs.Ytfkeddefajkobaa
open Go.RowKit
theorem follows_ok : Try.prog.follows .mixedOrders = true := by kernel_rfl
theorem picked_code : cfun Try.prog [] 25 = some ⟨(.seq (.region 0 [⟨(some 4), (.mov (.k (.int .i64 0))), none⟩]) (.seq (.seq (.region 1 [⟨(some 5), (.mov (.t 0)), none⟩, ⟨(some 6), (.bin .lss (.t 5) (.k (.int .i64 0))), none⟩]) (.cond 6 (.region 2 [⟨(some 7), (.mov (.t 0)), none⟩, ⟨(some 8), (.bin .add (.t 7) (.k (.int .i64 1))), none⟩, ⟨(some 9), (.neg (.t 8)), none⟩, ⟨(some 0), (.mov (.t 9)), none⟩]) .skip)) (.seq (.region 3 [⟨(some 10), (.mov (.t 0)), none⟩, ⟨(some 11), (.mov (.t 1)), none⟩, ⟨(some 12), (.bin .rem (.t 10) (.t 11)), none⟩, ⟨(some 4), (.mov (.t 12)), none⟩]) .ret))), [(.t 4)], 13⟩ := by kernel_rfl
theorem picked_pf (n m : Int) (hn : InR n) (hm : 1 ≤ m) : PF Try.prog 25 [.int .i64 n, .int .i64 m] (.int .i64 (pickedZ n m)) := by
  refine PF.of follows_ok picked_code (by simp) (by simp [argOk]) (by simp [noV, noC]) fun B _ _ => acode_sound [0, 1, 4, 6] [] _ _ _ ?_
  simp [AK_at, acode_seq, acode_region, acode_draw, acode_cond, ↓CB_t, ↓CB_f, CB_u, acode_block, acode_loop, acode_exit, acode_scope, acode_ret, acode_skip, seqQ_n, seqQ_e, seqQ_r, blockQ_n, blockQ_e, blockQ_r, TK_at, OK_at, SK_at, aops_nil, aops_cons, asch_done, asch_one, asch_two, asch_top, astep, aop_eq, isLoud, aloud, aloud1, isWrite, qv, evS, strip, gof, eget, hget, putO, eput, herase, oks, opnds, gS, afin, afin0, binD, arith, D.cells, takeD, fillD, keep, trim, envOf, Fin, aresl, aresv, resD, argOk, pickV, isP, deq, deqs, boundD, slD, lenD, isT, isSl, chunks, mn_min, mx_max, D.cells, splice_one, splice_more, Rbr_at, brwR, brwV, brwC, leR, leV, leC]
  refine ⟨fun h => ⟨?_, ?_, by omega, ?_⟩, fun h => ⟨by omega, ?_⟩⟩
  · unfold InR at *; omega
  · unfold InR at *; omega
  · have h2 : ¬ 0 < n + 1 := by omega
    simp [pickedZ, h, h2]
  · have : ¬ n < 0 := by omega
    simp [pickedZ, this]
/-- a contract over data, used by a law's frame -/
theorem law_of_pf {f : FuncId} {ds : List D} (h : PF Try.prog f ds (.bool true)) (W : World) (vs : Array Value) (hl : vs.size = ds.length) (hv : ∀ j x, ds[j]? = some x → VV s0 (allZ W) x (vs.getD j undef)) :
    Calls Try.prog f vs W fun e W' => e = .returned (.bool true) ∧ Below W.heap.size W W' :=
  (h.2 (allZ W) W vs (fun b o v h => h) hl hv).mono fun e w' ⟨v, Z', he, hr, _, hb⟩ => ⟨by rw [he, hr.bool_inv], hb⟩
theorem args_nil {Z : Cells} : ∀ (j : Nat) (x : D), ([] : List D)[j]? = some x → VV s0 Z x ((#[] : Array Value).getD j undef) := fun j x h => by simp at h
theorem args_cons {Z : Cells} {d : D} {ds : List D} {v : Value} {vs : List Value} (h : VV s0 Z d v) (ht : ∀ j x, ds[j]? = some x → VV s0 Z x (vs.toArray.getD j undef)) : ∀ (j : Nat) (x : D), (d :: ds)[j]? = some x → VV s0 Z x ((v :: vs).toArray.getD j undef) := fun j x hx => by
  cases j with
  | zero => simp at hx; subst hx; exact h
  | succ j => simpa using ht j x (by simpa using hx)
theorem Sl.rows {α : Type} {W : World} {sz : Nat} {E : α → List Value} {F : α → List D} {v : Value} {xs : List α} (h : Sl W sz E v xs) (hF : ∀ x ∈ xs, (E x).length = sz ∧ (F x).length = sz ∧ ∀ (j : Nat) (d : D), (F x)[j]? = some d → ∃ u, (E x)[j]? = some u ∧ ∀ Z, VT Z d u) : VT (allZ W) (.rows sz (xs.map F)) v := by
  obtain ⟨a, cap, rfl, hcap, h0, h3⟩ := h
  cases xs with
  | nil =>
    exact VT.rnil _ _ _
  | cons x0 xs =>
    obtain ⟨b, off, rfl, hb, hc⟩ := h3 (by simp)
    have key : ∀ (i : Nat) (row : List D) (j : Nat) (d : D), ((x0 :: xs).map F)[i]? = some row → row[j]? = some d → ∃ x u, (x0 :: xs)[i]? = some x ∧ (E x)[j]? = some u ∧ j < sz ∧ ∀ Z, VT Z d u := fun i row j d hi hj => by
      obtain ⟨x, hx, rfl⟩ := (map_get _ _ _ _).1 hi
      obtain ⟨g1, g2, g3⟩ := hF x (List.mem_of_getElem? hx)
      obtain ⟨u, hu, hv⟩ := g3 j d hj
      exact ⟨x, u, hx, hu, by rw [← g2]; exact (List.getElem?_eq_some_iff.1 hj).1, hv⟩
    have hlen : (x0 :: xs).length = ((x0 :: xs).map F).length := by simp
    rw [hlen]
    refine VT.rows sz _ b off cap (fun i j => ((x0 :: xs)[i]?.bind fun x => (E x)[j]?).getD undef) (by rw [← hlen]; exact hcap) (fun i row j d hi hj => ?_) (fun i row j d hi hj => ?_)
    · obtain ⟨x, u, hx, hu, hjs, hv⟩ := key i row j d hi hj
      refine ⟨hjs, ?_⟩
      simp only [hx, Option.bind_some, hu, Option.getD_some]
      exact hc i x j u hx hu
    · obtain ⟨x, u, hx, hu, hjs, hv⟩ := key i row j d hi hj
      simp only [hx, Option.bind_some, hu, Option.getD_some]
      exact hv _
end Go.Proofs.Ytfkeddefajkobaa

set_option linter.unusedSimpArgs false
set_option linter.unusedVariables false
namespace Go.Proofs.Ytfkeddefajkobaa
open Go.RowKit

def hkeep (ids : List Nat) : List (Nat × Ob) → List (Nat × Ob)
  | [] => []
  | (k, o) :: t => if ids.contains k then (k, o) :: hkeep ids t else hkeep ids t
def hdrop (ids : List Nat) : List (Nat × Ob) → List (Nat × Ob)
  | [] => []
  | (k, o) :: t => if ids.contains k then hdrop ids t else (k, o) :: hdrop ids t
theorem hget_hkeep (ids : List Nat) (id : Nat) : ∀ H, hget (hkeep ids H) id = if ids.contains id then hget H id else none
  | [] => by simp [hkeep, hget]
  | (k, o) :: t => by
    simp only [hkeep]
    split
    · rename_i hk
      simp only [hget, hget_hkeep ids id t]
      by_cases h : id = k
      · subst h; rw [if_pos rfl, if_pos hk, if_pos rfl]
      · rw [if_neg h, if_neg h]
    · rename_i hk
      rw [hget_hkeep ids id t]
      by_cases h : id = k
      · subst h; rw [if_neg hk, if_neg hk]
      · simp only [hget, if_neg h]
theorem hget_hdrop (ids : List Nat) (id : Nat) : ∀ H, hget (hdrop ids H) id = if ids.contains id then none else hget H id
  | [] => by simp [hdrop, hget]
  | (k, o) :: t => by
    simp only [hdrop]
    split
    · rename_i hk
      rw [hget_hdrop ids id t]
      by_cases h : id = k
      · subst h; rw [if_pos hk, if_pos hk]
      · simp only [hget, if_neg h]
    · rename_i hk
      simp only [hget, hget_hdrop ids id t]
      by_cases h : id = k
      · subst h; rw [if_pos rfl, if_neg hk, if_pos rfl]
      · rw [if_neg h, if_neg h]
def fzC (H : List (Nat × Ob)) (d : D) : D := match brwC H 4 d with | some e => e | none => d
def fzV (H : List (Nat × Ob)) : D → D
  | .agg ds => .agg (ds.map (fzC H))
  | d => fzC H d
def fzR (H : List (Nat × Ob)) : D → D
  | .tup ds => .tup (ds.map (fzV H))
  | .any => .any
  | d => fzV H d
def fzS (H : List (Nat × Ob)) : D → D
  | .opt g d => .opt g (fzR H d)
  | d => fzR H d
def fzO (H : List (Nat × Ob)) : Ob → Ob
  | .cells ds => .cells (ds.map (fzC H))
  | .rowd sz xs => .rowd sz (xs.map (List.map (fzC H)))
  | o => o
def freeze (ids : List Nat) (st : St) : St :=
  ⟨st.env.map fun p => (p.1, fzS (hkeep ids st.heap) p.2), (hdrop ids st.heap).map fun p => (p.1, fzO (hkeep ids st.heap) p.2), st.nx⟩
theorem eget_map (f : D → D) (hf : f .any = .any) (k : Nat) : ∀ (l : List (Nat × D)), eget (l.map fun p => (p.1, f p.2)) k = f (eget l k)
  | [] => by simp [eget, hf]
  | (j, d) :: t => by
    simp only [List.map_cons, eget]
    split
    · rfl
    · exact eget_map f hf k t
theorem hget_map (f : Ob → Ob) (k : Nat) : ∀ (l : List (Nat × Ob)), hget (l.map fun p => (p.1, f p.2)) k = (hget l k).map f
  | [] => rfl
  | (j, d) :: t => by
    simp only [List.map_cons, hget]
    split
    · rfl
    · exact hget_map f k t
theorem VT.ltN {Z : Cells} {d : D} {v : Value} (n : Nat) (h : VT Z d v) : LtC n d := by cases h <;> trivial
theorem VC.vt_agg {s : Nat → Value} {Z : Cells} {ds : List D} {v : Value} (h : VC s Z (.agg ds) v) : False := by cases h
theorem VC.vt_tup {s : Nat → Value} {Z : Cells} {ds : List D} {v : Value} (h : VC s Z (.tup ds) v) : False := by cases h
theorem VC.vt_opt {s : Nat → Value} {Z : Cells} {g : Bool} {d : D} {v : Value} (h : VC s Z (.opt g d) v) : False := by cases h
theorem RowOk.map {R R' : D → Value → Prop} {w : World} {sz : Nat} {xs : List (List D)} {v : Value} (f : D → D) (h : RowOk R w sz xs v) (hR : ∀ row ∈ xs, ∀ d ∈ row, ∀ u, R d u → R' (f d) u) : RowOk R' w sz (xs.map (List.map f)) v := by
  obtain ⟨h1, h2, h3⟩ := h
  refine ⟨h1, fun row hr => ?_, ?_⟩
  · obtain ⟨r, hr', rfl⟩ := List.mem_map.1 hr
    simpa using h2 r hr'
  · rcases h3 with ⟨rfl, a, h4⟩ | ⟨g, cap, cur, e, h3, h4, h5, h6, h7, h8⟩
    · exact .inl ⟨rfl, a, h4⟩
    · refine .inr ⟨g, cap, cur, e, by simpa using h3, h4, by simpa using h5, h6, h7, fun i row j d hi hj => ?_⟩
      obtain ⟨r, hr', rfl⟩ := (map_get _ _ _ _).1 hi
      obtain ⟨x, hx, rfl⟩ := (map_get _ _ _ _).1 hj
      exact hR r (List.mem_of_getElem? hr') x (List.mem_of_getElem? hx) _ (h8 i r j x hr' hx)
section
variable {B : Base} {st : St}
theorem Gh.freeze (ids : List Nat) : Gh B st (freeze ids st) := by
  intro s Z a w hr
  obtain ⟨Hf, hHf⟩ : ∃ Hf, Hf = hkeep ids st.heap := ⟨_, rfl⟩
  have hsub : ∀ id ob, hget Hf id = some ob → hget st.heap id = some ob ∧ ids.contains id = true := fun id ob h => by
    rw [hHf, hget_hkeep] at h
    split at h
    · rename_i hc; exact ⟨h, hc⟩
    · cases h
  have hknow : Know s Z Hf w := ⟨fun id ob h => hr.h.ob id ob (hsub id ob h).1, hr.h.zok⟩
  classical
  let Zp : Cells := fun b o => if ∃ id ob, hget Hf id = some ob ∧ blk (s id) = some b then w.cell? ⟨b, o, none⟩ else Z b o
  have hz : ∀ b o v, Z b o = some v → Zp b o = some v := fun b o v hv => by
    show (if _ then _ else _) = _
    split
    · rename_i h
      obtain ⟨id, ob, h1, h2⟩ := h
      have := hr.h.zap id ob b o (hsub id ob h1).1 h2
      rw [this] at hv; cases hv
    · exact hv
  have hp : ∀ id ob b, hget Hf id = some ob → blk (s id) = some b → ∀ o v, w.cell? ⟨b, o, none⟩ = some v → Zp b o = some v := fun id ob b h1 h2 o v hv => by
    show (if _ then _ else _) = _
    rw [if_pos ⟨id, ob, h1, h2⟩]; exact hv
  have kC : ∀ d v, LtC st.nx d → VC s Z d v → VC s Zp (fzC Hf d) v ∧ LtC st.nx (fzC Hf d) := fun d v hl hv => by
    unfold fzC
    cases hb : brwC Hf 4 d with
    | some e =>
      have := brwC_sound hknow hz hp 4 d e v hb hv
      exact ⟨VC.of_vt this, VT.ltN _ this⟩
    | none => exact ⟨VC.mono hz (fun _ _ => rfl) hl hv, hl⟩
  have toV : ∀ e v, VC s Zp e v → LtC st.nx e → VV s Zp e v ∧ LtV st.nx e := fun e v h1 h2 => by
    refine ⟨VV.of_vc h1, ?_⟩
    cases e <;> first | exact h2 | exact (VC.vt_agg (s := s) (Z := Zp) h1).elim
  have kV : ∀ d v, LtV st.nx d → VV s Z d v → VV s Zp (fzV Hf d) v ∧ LtV st.nx (fzV Hf d) := fun d v hl hv => by
    have one : LtC st.nx d → VC s Z d v → VV s Zp (fzC Hf d) v ∧ LtV st.nx (fzC Hf d) := fun h1 h2 => by
      obtain ⟨g1, g2⟩ := kC d v h1 h2
      exact toV _ _ g1 g2
    cases d with
    | agg ds =>
      obtain ⟨vs, rfl, h1, h2⟩ := hv
      refine ⟨⟨vs, rfl, by simpa using h1, fun j x hx => ?_⟩, fun x hx => ?_⟩
      · obtain ⟨y, hy, rfl⟩ := (map_get _ _ _ _).1 hx
        exact (kC y _ (hl y (List.mem_of_getElem? hy)) (h2 j y hy)).1
      · obtain ⟨y, hy, rfl⟩ := List.mem_map.1 hx
        obtain ⟨j, hj⟩ := List.getElem?_of_mem hy
        exact (kC y _ (hl y hy) (h2 j y hj)).2
    | _ => exact one hl hv
  have toR : ∀ e v, VV s Zp e v → LtV st.nx e → VR s Zp e v ∧ LtR st.nx e := fun e v h1 h2 => by
    refine ⟨VR.of_vv h1, ?_⟩
    cases e <;> first | exact h2 | exact (VC.vt_tup (s := s) (Z := Zp) h1).elim
  have kR : ∀ d v, LtR st.nx d → VR s Z d v → VR s Zp (fzR Hf d) v ∧ LtR st.nx (fzR Hf d) := fun d v hl hv => by
    have one : LtV st.nx d → VV s Z d v → VR s Zp (fzV Hf d) v ∧ LtR st.nx (fzV Hf d) := fun h1 h2 => by
      obtain ⟨g1, g2⟩ := kV d v h1 h2
      exact toR _ _ g1 g2
    cases d with
    | tup ds =>
      obtain ⟨vs, rfl, h1, h2⟩ := hv
      refine ⟨⟨vs, rfl, by simpa using h1, fun j x hx => ?_⟩, fun x hx => ?_⟩
      · obtain ⟨y, hy, rfl⟩ := (map_get _ _ _ _).1 hx
        exact (kV y _ (hl y (List.mem_of_getElem? hy)) (h2 j y hy)).1
      · obtain ⟨y, hy, rfl⟩ := List.mem_map.1 hx
        obtain ⟨j, hj⟩ := List.getElem?_of_mem hy
        exact (kV y _ (hl y hy) (h2 j y hj)).2
    | any => exact ⟨trivial, trivial⟩
    | _ => exact one hl hv
  have kS : ∀ d v, LtS st.nx d → VS s Z d v → VS s Zp (fzS Hf d) v ∧ LtS st.nx (fzS Hf d) := fun d v hl hv => by
    have one : LtR st.nx d → VR s Z d v → VS s Zp (fzR Hf d) v ∧ LtS st.nx (fzR Hf d) := fun h1 h2 => by
      obtain ⟨g1, g2⟩ := kR d v h1 h2
      exact ⟨VS.of_vr g1, LtS.of_r g2 (VR.no_opt g1)⟩
    cases d with
    | opt g d => exact ⟨⟨fun hg => (kR d v (hl hg) (hv.1 hg)).1, hv.2⟩, fun hg => (kR d v (hl hg) (hv.1 hg)).2⟩
    | _ => exact one hl hv
  have hgo : ∀ id ob, hget (Go.Proofs.Ytfkeddefajkobaa.freeze ids st).heap id = some ob → ∃ ob0, hget st.heap id = some ob0 ∧ ids.contains id = false ∧ ob = fzO Hf ob0 := fun id ob h => by
    have h : hget ((hdrop ids st.heap).map fun p => (p.1, fzO (hkeep ids st.heap) p.2)) id = some ob := h
    rw [hget_map, hget_hdrop, ← hHf] at h
    cases hc : ids.contains id with
    | true => rw [if_pos hc] at h; cases h
    | false =>
      rw [if_neg (by rw [hc]; exact Bool.false_ne_true)] at h
      cases hq : hget st.heap id with
      | none => rw [hq] at h; cases h
      | some ob0 =>
        rw [hq] at h
        simp only [Option.map_some, Option.some.injEq] at h
        exact ⟨ob0, rfl, rfl, h.symm⟩
  refine ⟨s, Zp, ⟨fun k => ?_, fun k => ?_, hr.size, hr.defers, ?_⟩⟩
  · show VS s Zp (eget (st.env.map fun p => (p.1, fzS (hkeep ids st.heap) p.2)) k) _
    rw [eget_map _ rfl, ← hHf]
    exact (kS _ _ (hr.elt k) (hr.env k)).1
  · show LtS st.nx (eget (st.env.map fun p => (p.1, fzS (hkeep ids st.heap) p.2)) k)
    rw [eget_map _ rfl, ← hHf]
    exact (kS _ _ (hr.elt k) (hr.env k)).2
  · constructor
    · intro id ob h
      obtain ⟨ob0, h1, h2, rfl⟩ := hgo id ob h
      have h3 := hr.h.ob id ob0 h1
      have h4 := (hr.h.lt id ob0 h1).2
      cases ob0 with
      | cells ds =>
        obtain ⟨b, T, cs, g1, g2, g3, g4⟩ := h3
        refine ⟨b, T, cs, g1, g2, by simpa using g3, fun j x hx => ?_⟩
        obtain ⟨y, hy, rfl⟩ := (map_get _ _ _ _).1 hx
        exact (kC y _ (h4 y (List.mem_of_getElem? hy)) (g4 j y hy)).1
      | row sz xs => exact RowOk.mono h3 (fun _ _ => rfl) (fun _ _ _ _ _ h => VT.mono hz h)
      | rowd sz xs => exact RowOk.map _ h3 fun row hrow d hd u hu => (kC d u (h4 row hrow d hd) hu).1
      | blk sz xs => exact BlkOk.mono h3 (fun _ _ => rfl) (fun row hrow d hd u hu => VC.mono hz (fun _ _ => rfl) (h4 row hrow d hd) hu)
      | mp bare es ck => exact h3
      | it m since seen last => exact h3
    · intro id ob h
      obtain ⟨ob0, h1, h2, rfl⟩ := hgo id ob h
      have h3 := hr.h.ob id ob0 h1
      have h4 := hr.h.lt id ob0 h1
      refine ⟨h4.1, ?_⟩
      cases ob0 with
      | cells ds =>
        obtain ⟨b, T, cs, g1, g2, g3, g5⟩ := h3
        intro x hx
        obtain ⟨y, hy, rfl⟩ := List.mem_map.1 hx
        obtain ⟨j, hj⟩ := List.getElem?_of_mem hy
        exact (kC y _ (h4.2 y hy) (g5 j y hj)).2
      | row sz xs => trivial
      | rowd sz xs =>
        intro row hrow x hx
        obtain ⟨r, hr', rfl⟩ := List.mem_map.1 hrow
        obtain ⟨y, hy, rfl⟩ := List.mem_map.1 hx
        rcases h3.2.2 with ⟨rfl, _⟩ | ⟨g, cap, cur, e, _, _, _, _, _, h8⟩
        · cases hr'
        · obtain ⟨i, hi⟩ := List.getElem?_of_mem hr'
          obtain ⟨j, hj⟩ := List.getElem?_of_mem hy
          exact (kC y _ (h4.2 r hr' y hy) (h8 i r j y hi hj)).2
      | blk sz xs => exact h4.2
      | mp bare es ck => trivial
      | it m since seen last => exact h4.2
    · intro id id' ob ob' b h h' hne hb
      obtain ⟨o1, h1, _, _⟩ := hgo id ob h
      obtain ⟨o2, h2, _, _⟩ := hgo id' ob' h'
      exact hr.h.apart id id' o1 o2 b h1 h2 hne hb
    · intro b o v hv
      have hv : (if ∃ id ob, hget Hf id = some ob ∧ blk (s id) = some b then w.cell? ⟨b, o, none⟩ else Z b o) = some v := hv
      split at hv
      · exact hv
      · exact hr.h.zok b o v hv
    · intro id ob b o h hb
      obtain ⟨o1, h1, h2, _⟩ := hgo id ob h
      show (if _ then _ else _) = _
      rw [if_neg, hr.h.zap id o1 b o h1 hb]
      rintro ⟨id', ob', h3, h4⟩
      obtain ⟨h5, h6⟩ := hsub id' ob' h3
      refine hr.h.apart id id' o1 ob' b h1 h5 ?_ hb h4
      rintro rfl
      rw [h2] at h6; cases h6
    · intro id ob b h hb
      obtain ⟨o1, h1, _, _⟩ := hgo id ob h
      exact hr.h.mine id o1 b h1 hb
    · exact hr.h.fr
    · exact hr.h.n0
    · exact hr.h.bs
    · exact fun b o v hv => hz b o v (hr.h.bz b o v hv)
    · intro b o v hv
      have hv : (if ∃ id ob, hget Hf id = some ob ∧ blk (s id) = some b then w.cell? ⟨b, o, none⟩ else Z b o) = some v := hv
      split at hv
      · rename_i h
        obtain ⟨id, ob, h1, h2⟩ := h
        exact .inr (hr.h.mine id ob b (hsub id ob h1).1 h2)
      · exact hr.h.bn b o v hv
/-- a state in which some numbers are data: what simp makes of it -/
theorem W.freeze {P : Program} {hw : List FuncId} {c : AC} {Q : Ex → St → Prop} (ids : List Nat) (h : W P B hw c Q (Go.Proofs.Ytfkeddefajkobaa.freeze ids st)) : W P B hw c Q st := W.gh (Gh.freeze ids) h
end
end Go.Proofs.Ytfkeddefajkobaa

set_option linter.unusedSimpArgs false
set_option linter.unusedVariables false
namespace Go.Proofs.Ytfkeddefajkobaa
open Go.RowKit
theorem rho_0 (nx id : Nat) : rho [] 0 nx id = nx + id := by simp [rho]
theorem WCall.hf0 {P : Program} {sb : Bool} {B : Base} {st : St} {K : St → Prop} {f : FuncId} {as_ : List Opd} {ds0 : List D} {dst : Option Nat} {R : D → List (Nat × Ob) → Nat → Prop} (hf : HF P f ds0 [] 0 R) (hok : oks st.env (.call f as_) = true)
    (hds : as_.map (evS st.env) = ds0) (hao : ds0.all argOk = true) (hno : ds0.all noV = true)
    (hK : ∀ d H' nx', R d H' nx' → K ⟨putO st.env dst (rnR (rho [] 0 st.nx) d), hputs (rho [] 0 st.nx) H' st.heap, st.nx + nx'⟩) : WCall P sb B (.call f as_) dst st K := by
  have hlt : ∀ d ∈ ds0, LtV 0 d := fun d hd => noV_lt (List.all_eq_true.1 hno d hd)
  have hid : ∀ d ∈ ds0, rnV (rho [] 0 st.nx) d = d := fun d hd => by
    have h := List.all_eq_true.1 hno d hd
    have hc : ∀ x, noC x = true → rnC (rho [] 0 st.nx) x = x := fun x hx => by cases x <;> first | rfl | cases hx
    cases d with
    | agg ds =>
      simp only [rnV]
      congr 1
      refine (List.map_congr_left fun x hx => ?_).trans (List.map_id ds)
      exact hc x (List.all_eq_true.1 h x hx)
    | _ => first | rfl | cases h
  refine WCall.of hok (CallOk.hf hf (fun _ => rfl) [] rfl List.nodup_nil (fun k hk => by cases hk) ?_ hao hlt (fun p hp => by cases hp) fun d H' nx' _ hR => hK d H' nx' hR)
  rw [hds]
  conv => lhs; rw [← List.map_id ds0]
  exact List.map_congr_left fun d hd => (hid d hd).symm
/-- a cell that holds no slice at all holds rows of nothing -/
theorem Gh.nilC {B : Base} {st : St} (id j sz : Nat) (ds : List D) (hh : hget st.heap id = some (.cells ds)) (hk : ds[j]? = some .nil0) : Gh B st ⟨st.env, eput st.heap id (.cells (ds.set j (.rows sz []))), st.nx⟩ := by
  intro s Z a w hr
  obtain ⟨b, T, cs, hb, hg, hsz, hc⟩ := hr.h.ob _ _ hh
  have hv : VT Z .nil0 (cs.getD j undef) := hc j _ hk
  refine ⟨s, Z, hr.env, hr.elt, hr.size, hr.defers, ?_⟩
  refine hr.h.write (k := b) hh (by rw [hb]; rfl) ⟨rfl, rfl, rfl, rfl, fun _ _ => rfl⟩ ?_ ?_
  · refine ⟨b, T, cs, hb, hg, by simpa using hsz, fun i x hx => ?_⟩
    rw [List.getElem?_set] at hx
    split at hx
    · rename_i e
      subst e
      split at hx
      · simp only [Option.some.injEq] at hx
        subst hx
        generalize cs.getD j undef = v at hv
        cases hv
        exact VT.rnil _ _ _
      · cases hx
    · exact hc i x hx
  · intro x hx
    rcases List.mem_or_eq_of_mem_set hx with hx | rfl
    · exact (hr.h.lt _ _ hh).2 x hx
    · trivial
end Go.Proofs.Ytfkeddefajkobaa

set_option linter.unusedSimpArgs false
set_option linter.unusedVariables false
namespace Go.Proofs.Ytfkeddefajkobaa
open Go.RowKit
abbrev Ent := List Int × List Int × Nat
def goodK (n : Nat) (ks : List Int) : Prop := ks.length = (if n = 0 then 1 else n) ∧ ∀ z ∈ ks, InR z
def keyD (n : Nat) (ks : List Int) : D := if n = 0 then .int .i64 (ks.headD 0) else .agg (ks.map (.int .i64))
def MapsOk (P : Program) (n : Nat) : Prop := ∀ t kt e, P.underlying t = some (.map kt e) → mapK P kt = some n → Maps.Keyed P kt ∧ ∀ ks, goodK n ks → ∃ l, keyOf P kt (vInts (n == 0) ks) = some l
/-- an entry is laid, or its value is set -/
def mput (es : List Ent) (ks vs : List Int) (ck : Nat) : List Ent × Nat :=
  if ∃ e ∈ es, e.1 = ks then (es.map fun e => if e.1 = ks then (ks, vs, e.2.2) else e, ck) else (es ++ [(ks, vs, ck)], ck + 1)
def mdel (es : List Ent) (ks : List Int) : List Ent := es.filter fun e => decide (e.1 ≠ ks)

theorem aggI_inv {s : Nat → Value} {Z : Cells} {ks : List Int} {v : Value} (h : VR s Z (.agg (ks.map (.int .i64))) v) : v = vInts false ks := by
  obtain ⟨vs, rfl, hl, hc⟩ := h.agg_inv
  obtain ⟨vs⟩ := vs
  simp only [vInts, Bool.false_eq_true, if_false]
  congr 2
  refine List.ext_getElem? fun j => ?_
  have hl2 : vs.length = ks.length := by simpa using hl
  by_cases hj : j < ks.length
  · have h1 := hc j (.int .i64 ks[j]) (by simp [List.getElem?_eq_getElem hj])
    have hj2 : j < vs.length := by omega
    have h2 : vs[j] = .int .i64 ks[j] := by
      have h1 : VT Z (.int .i64 ks[j]) (vs.toArray.getD j undef) := h1
      simp only [Array.getD_eq_getD_getElem?, List.getElem?_toArray, List.getElem?_eq_getElem hj2, Option.getD_some] at h1
      generalize vs[j] = q at h1
      cases h1; rfl
    rw [List.getElem?_eq_getElem hj2, h2]
    simp [List.getElem?_eq_getElem hj]
  · rw [List.getElem?_eq_none (by omega), List.getElem?_eq_none (by simpa using hj)]
theorem keyD_inv {s : Nat → Value} {Z : Cells} {n : Nat} {ks : List Int} {v : Value} (h : VR s Z (keyD n ks) v) : v = vInts (n == 0) ks := by
  unfold keyD at h
  split at h
  · subst_vars
    have := h.int_inv
    rw [this]; rfl
  · rename_i hn
    have : (n == 0) = false := by simpa using hn
    rw [this]
    exact aggI_inv h
theorem aggI_mk (s : Nat → Value) (Z : Cells) (ks : List Int) : VV s Z (.agg (ks.map (.int .i64))) (vInts false ks) := by
  refine ⟨_, rfl, by simp, fun j x hx => ?_⟩
  obtain ⟨z, hz, rfl⟩ := (map_get _ _ _ _).1 hx
  have : ((ks.map (Value.int .i64)).toArray).getD j undef = .int .i64 z := by
    simp [Array.getD_eq_getD_getElem?, List.getElem?_map, hz]
  show VT Z _ _
  rw [this]
  exact VT.int .i64 z
theorem keyD_mk (s : Nat → Value) (Z : Cells) (n : Nat) (ks : List Int) : VV s Z (keyD n ks) (vInts (n == 0) ks) := by
  unfold keyD
  split
  · subst_vars
    exact VT.int .i64 _
  · rename_i hn
    have : (n == 0) = false := by simpa using hn
    rw [this]
    exact aggI_mk s Z ks
theorem keyD_lt (n m : Nat) (ks : List Int) : LtV m (keyD n ks) := by
  unfold keyD
  split
  · trivial
  · intro d hd
    obtain ⟨z, _, rfl⟩ := List.mem_map.1 hd
    trivial
theorem aggI_lt (m : Nat) (ks : List Int) : LtV m (.agg (ks.map (.int .i64))) := by
  intro d hd
  obtain ⟨z, _, rfl⟩ := List.mem_map.1 hd
  trivial
theorem vInts_inj {n : Nat} {a b : List Int} (ha : goodK n a) (hb : goodK n b) (h : vInts (n == 0) a = vInts (n == 0) b) : a = b := by
  obtain ⟨ha, _⟩ := ha
  obtain ⟨hb, _⟩ := hb
  by_cases hn : n = 0
  · subst hn
    simp only [if_true] at ha hb
    match a, b, ha, hb with
    | [x], [y], _, _ => simpa [vInts] using h
  · have : (n == 0) = false := by simpa using hn
    rw [this] at h
    simp only [vInts, Bool.false_eq_true, if_false, Value.agg.injEq] at h
    have h' : a.map (Value.int .i64) = b.map (Value.int .i64) := by simpa using congrArg Array.toList h
    exact (List.map_inj_right fun x y hxy => by simpa using hxy).1 h'

theorem opdsC_one : ∀ {l : List Operand} {a : Opd}, opdsC l = some [a] → ∃ x, l = [x] ∧ opdC x = some a
  | [], a, h => by simp [opdsC] at h
  | x :: l, a, h => by
    simp only [opdsC] at h
    split at h <;> simp at h
    rename_i y ys h1 h2
    obtain ⟨rfl, rfl⟩ := h
    match l, h2 with
    | [], _ => exact ⟨x, rfl, h1⟩
    | z :: l, h2 =>
      simp only [opdsC] at h2
      split at h2 <;> simp at h2
theorem opdsC_two : ∀ {l : List Operand} {a b : Opd}, opdsC l = some [a, b] → ∃ x y, l = [x, y] ∧ opdC x = some a ∧ opdC y = some b
  | [], a, b, h => by simp [opdsC] at h
  | x :: l, a, b, h => by
    simp only [opdsC] at h
    split at h <;> simp at h
    rename_i y ys h1 h2
    obtain ⟨rfl, rfl⟩ := h
    obtain ⟨z, rfl, h3⟩ := opdsC_one h2
    exact ⟨x, z, rfl, h1, h3⟩
section
variable {P : Program}
theorem xcop_0 {o : Op} {n : Nat} {xs : List Opd} (h : xcop P o = some (.xop 0 [n] xs)) : ∃ t kt e, o = .makeMap t none ∧ P.underlying t = some (.map kt e) ∧ mapK P kt = some n := by
  unfold xcop at h
  split at h
  · split at h
    · rename_i kt e he
      simp at h
      obtain ⟨_, h1, rfl, _⟩ := h
      exact ⟨_, kt, e, rfl, he, h1⟩
    · simp at h
  all_goals (repeat' split at h) <;> simp at h
theorem xcop_1 {o : Op} {n : Nat} {xs : List Opd} (h : xcop P o = some (.xop 1 [n] xs)) : ∃ t m k v kt e xm xk xv, o = .mapUpdate t m k v ∧ P.underlying t = some (.map kt e) ∧ opdC m = some xm ∧ opdC k = some xk ∧ opdC v = some xv ∧ mapK P kt = some n ∧ xs = [xm, xk, xv] := by
  unfold xcop at h
  split at h
  · split at h <;> simp at h
  · split at h
    · rename_i kt e xm xk xv he hm hk hv
      simp at h
      obtain ⟨_, h1, rfl, h2⟩ := h
      exact ⟨_, _, _, _, kt, e, xm, xk, xv, rfl, he, hm, hk, hv, h1, h2.symm⟩
    · simp at h
  all_goals (repeat' split at h) <;> simp at h
theorem xcop_2 {o : Op} {n : Nat} {xs : List Opd} (h : xcop P o = some (.xop 2 [n] xs)) : ∃ c t t2 kt e m k xm xk, o = .call c ∧ c.callee = .builtin .delete ∧ c.args.toList = [m, k] ∧ c.argTypes.toList = [t, t2] ∧ P.underlying t = some (.map kt e) ∧ opdC m = some xm ∧ opdC k = some xk ∧ mapK P kt = some n ∧ xs = [xm, xk] := by
  unfold xcop at h
  split at h
  · split at h <;> simp at h
  · split at h <;> simp at h
  · split at h <;> simp at h
  · split at h
    · split at h <;> simp at h
    · simp at h
  · simp at h
  · simp at h
  · rename_i c
    split at h
    · rename_i hcal
      split at h
      · rename_i xm xk t t2 hargs hat
        split at h
        · rename_i kt e he
          simp at h
          have hl := opdsC_two hargs
          obtain ⟨m, k, h1, h2, h3⟩ := hl
          obtain ⟨_, g1, rfl, g2⟩ := h
          exact ⟨c, t, t2, kt, e, m, k, xm, xk, rfl, hcal, h1, hat, he, h2, h3, g1, g2.symm⟩
        · simp at h
      · simp at h
    all_goals ((repeat' split at h) <;> simp at h)
  · simp at h
theorem xcop_3 {o : Op} {n : Nat} {xs : List Opd} (h : xcop P o = some (.xop 3 [n] xs)) : ∃ c t kt e m xm, o = .call c ∧ c.callee = .builtin .len ∧ c.args.toList = [m] ∧ c.argTypes.toList = [t] ∧ P.underlying t = some (.map kt e) ∧ opdC m = some xm ∧ mapK P kt = some n ∧ xs = [xm] := by
  unfold xcop at h
  split at h
  · split at h <;> simp at h
  · split at h <;> simp at h
  · split at h <;> simp at h
  · split at h
    · split at h <;> simp at h
    · simp at h
  · simp at h
  · simp at h
  · rename_i c
    split at h
    · (repeat' split at h) <;> simp at h
    · rename_i hcal
      split at h
      · rename_i xm t hargs hat
        split at h
        · rename_i kt e he
          simp at h
          obtain ⟨m, h1, h2⟩ := opdsC_one hargs
          obtain ⟨_, g1, rfl, g2⟩ := h
          exact ⟨c, t, kt, e, m, xm, rfl, hcal, h1, hat, he, h2, g1, g2.symm⟩
        · simp at h
      · simp at h
    all_goals ((repeat' split at h) <;> simp at h)
  · simp at h
theorem xcop_4 {o : Op} {n : Nat} {xs : List Opd} (h : xcop P o = some (.xop 4 [n] xs)) : ∃ t kt e m xm, o = .range t m ∧ P.underlying t = some (.map kt e) ∧ opdC m = some xm ∧ mapK P kt = some n ∧ xs = [xm] := by
  unfold xcop at h
  split at h
  · split at h <;> simp at h
  · split at h <;> simp at h
  · split at h
    · rename_i kt e xm he hm
      simp at h
      obtain ⟨_, h1, rfl, h2⟩ := h
      exact ⟨_, kt, e, _, xm, rfl, he, hm, h1, h2.symm⟩
    · simp at h
  · split at h
    · split at h <;> simp at h
    · simp at h
  · simp at h
  · simp at h
  · (repeat' split at h) <;> simp at h
  · simp at h
theorem xcop_5 {o : Op} {xs : List Opd} (h : xcop P o = some (.xop 5 [] xs)) : ∃ m xm, o = .next m false ∧ opdC m = some xm ∧ xs = [xm] := by
  unfold xcop at h
  split at h
  · split at h <;> simp at h
  · split at h <;> simp at h
  · split at h <;> simp at h
  · split at h
    · split at h <;> simp at h
    · simp at h
  · simp at h
    obtain ⟨xm, h1, h2⟩ := h
    exact ⟨_, xm, rfl, h1, h2.symm⟩
  · simp at h
  · (repeat' split at h) <;> simp at h
  · simp at h
theorem xcop_6 {o : Op} {xs : List Opd} (h : xcop P o = some (.xop 6 [] xs)) : ∃ m xm, o = .entry m ∧ opdC m = some xm ∧ xs = [xm] := by
  unfold xcop at h
  split at h
  · split at h <;> simp at h
  · split at h <;> simp at h
  · split at h <;> simp at h
  · split at h
    · split at h <;> simp at h
    · simp at h
  · simp at h
  · simp at h
    obtain ⟨xm, h1, h2⟩ := h
    exact ⟨_, xm, rfl, h1, h2.symm⟩
  · (repeat' split at h) <;> simp at h
  · simp at h
theorem xcop_7 {o : Op} {xs : List Opd} (h : xcop P o = some (.xop 7 [] xs)) : ∃ u t e m xm, o = .convert u t m ∧ P.underlying u = some (.slice e) ∧ P.underlying t = some .string ∧ P.underlying e = some (.int .u8) ∧ opdC m = some xm ∧ xs = [xm] := by
  unfold xcop at h
  split at h
  · split at h <;> simp at h
  · split at h <;> simp at h
  · split at h <;> simp at h
  · split at h
    · rename_i e hu ht
      split at h
      · rename_i he
        simp at h
        obtain ⟨xm, h1, h2⟩ := h
        exact ⟨_, _, e, _, xm, rfl, hu, ht, he, h1, h2.symm⟩
      · simp at h
    · simp at h
  · simp at h
  · simp at h
  · (repeat' split at h) <;> simp at h
  · simp at h
end

/-! ### The laws on lists of entries -/
theorem mput_new {es : List Ent} {ks vs : List Int} {ck : Nat} (h : ∀ e ∈ es, e.1 ≠ ks) : mput es ks vs ck = (es ++ [(ks, vs, ck)], ck + 1) := by
  unfold mput
  rw [if_neg]
  rintro ⟨e, he, rfl⟩
  exact h e he rfl
theorem mput_old {es : List Ent} {ks vs : List Int} {ck j : Nat} {e : Ent} (hj : es[j]? = some e) (he : e.1 = ks) (hnd : (es.map (·.1)).Nodup) : mput es ks vs ck = (es.set j (ks, vs, e.2.2), ck) := by
  unfold mput
  rw [if_pos ⟨e, List.mem_of_getElem? hj, he⟩]
  congr 1
  obtain ⟨hjl, hje⟩ := List.getElem?_eq_some_iff.1 hj
  refine List.ext_getElem (by simp) fun i h1 h2 => ?_
  rw [List.getElem_map, List.getElem_set]
  have hil : i < es.length := by simpa using h1
  by_cases hij : j = i
  · subst hij
    rw [if_pos rfl, hje, if_pos he]
  · rw [if_neg hij, if_neg]
    intro hk
    have : (es.map (·.1))[j]'(by simpa using hjl) = (es.map (·.1))[i]'(by simpa using hil) := by simp [hje, he, hk]
    exact hij ((List.getElem_inj hnd).1 this)
theorem mdel_old {es : List Ent} {ks : List Int} {j : Nat} {e : Ent} (hj : es[j]? = some e) (he : e.1 = ks) (hnd : (es.map (·.1)).Nodup) : mdel es ks = es.eraseIdx j := by
  obtain ⟨hjl, hje⟩ := List.getElem?_eq_some_iff.1 hj
  have hsp : es = es.take j ++ e :: es.drop (j + 1) := by
    have := List.drop_eq_getElem_cons hjl
    rw [← hje, ← this, List.take_append_drop]
  have hne : ∀ i (hi : i < es.length), i ≠ j → es[i].1 ≠ ks := fun i hi hij hk => by
    have : (es.map (·.1))[i]'(by simpa using hi) = (es.map (·.1))[j]'(by simpa using hjl) := by simp [hje, he, hk]
    exact hij ((List.getElem_inj hnd).1 this)
  rw [List.eraseIdx_eq_take_drop_succ]
  unfold mdel
  conv => lhs; rw [hsp]
  rw [List.filter_append, List.filter_cons_of_neg (by simp [he])]
  congr 1
  · refine List.filter_eq_self.2 fun x hx => ?_
    obtain ⟨i, hi, rfl⟩ := List.mem_iff_getElem.1 hx
    simp only [List.length_take] at hi
    simp only [List.getElem_take]
    exact decide_eq_true (hne i (by omega) (by omega))
  · refine List.filter_eq_self.2 fun x hx => ?_
    obtain ⟨i, hi, rfl⟩ := List.mem_iff_getElem.1 hx
    simp only [List.length_drop] at hi
    simp only [List.getElem_drop]
    exact decide_eq_true (hne _ (by omega) (by omega))
theorem mdel_none {es : List Ent} {ks : List Int} (h : ∀ e ∈ es, e.1 ≠ ks) : mdel es ks = es := List.filter_eq_self.2 fun e he => decide_eq_true (h e he)

theorem only_set (w : World) (b : Nat) (o : Obj) : Only b w (ChangeMaps.setBlock w b o) := ⟨rfl, rfl, rfl, by simp [ChangeMaps.setBlock], fun k hk => by simp [ChangeMaps.setBlock, Ne.symm hk]⟩
end Go.Proofs.Ytfkeddefajkobaa

set_option linter.unusedSimpArgs false
set_option linter.unusedVariables false
namespace Go.Proofs.Ytfkeddefajkobaa
open Go.RowKit
section
variable {P : Program} {sb : Bool} {B : Base} {st : St} {K : St → Prop} {dst : Option Nat} {n : Nat} {id : Nat} {es : List Ent} {ck : Nat} {ks vs : List Int} {xm xk xv : Opd}
theorem XCall.mk (h : K ⟨putO st.env dst (.own st.nx), eput st.heap st.nx (.mp (n == 0) [] 0), st.nx + 1⟩) : XCall P sb B (.xop 0 [n] []) dst st K := by
  intro o s Z a w K' Q hx hd hdst hr hG
  subst hd
  obtain ⟨t, kt, e, ho, ht, hm⟩ := xcop_0 hx
  refine wp_value (v := .map (some w.heap.size)) (w' := w.alloc (.map #[] 0)) ?_ ?_
  · unfold execOp; rw [ho]
    simp [Instr.makeMap, newObj, Sem.run, Result.andThen]
  · have hbel : Below w.heap.size w (w.alloc (.map #[] 0)) := (Below.refl _ _).alloc (Nat.le_refl _) _
    refine hG _ _ _ _ _ (fun _ => hbel) h (hr.step hdst (upd_lt s st.nx _) (fun _ _ _ h => h) (by omega) (v := .map (some w.heap.size)) ?_ ?_ (hr.h.new hbel (v := .map (some w.heap.size)) ⟨w.heap.size, rfl, ?_⟩ trivial (fun k hk => ?_)))
    · exact ⟨(upd_same _ _ _).symm, .inr ⟨_, rfl⟩⟩
    · exact Nat.lt_succ_self _
    · exact (MapKept.heap_alloc w _).1
    · cases hk; exact Nat.le_refl _
theorem map_at {s : Nat → Value} {Z : Cells} {a : Act} {w : World} (hr : Rel B s Z st a w) {m : Operand} (hop : opdC m = some xm) (hg : gS st.env xm = true) (hm : evS st.env xm = .own id) {bare : Bool} (hh : hget st.heap id = some (.mp bare es ck)) :
    ∃ b, a.eval m = .map (some b) ∧ s id = .map (some b) ∧ w.heap[b]? = some (.map (es.map (mEnt bare)).toArray ck) := by
  have h1 := hr.vr hop hg
  rw [hm] at h1
  obtain ⟨h1, _⟩ := h1
  obtain ⟨b, h2, h3⟩ := hr.h.ob id _ hh
  exact ⟨b, h1.trans h2, h2, h3⟩
theorem keys_ok (hM : MapsOk P n) {t kt e : TypeId} (ht : P.underlying t = some (.map kt e)) (hkt : mapK P kt = some n) (hes : ∀ e ∈ es, goodK n e.1) : ∀ x ∈ (es.map (mEnt (n == 0))), ∃ l, keyOf P kt x.key = some l := fun x hx => by
  obtain ⟨e, he, rfl⟩ := List.mem_map.1 hx
  exact (hM t kt _ ht hkt).2 e.1 (hes e he)
theorem XCall.upd (hM : MapsOk P n) (hok : oks st.env (.xop 1 [n] [xm, xk, xv]) = true) (hsb : sb = false) (hm : evS st.env xm = .own id) (hh : hget st.heap id = some (.mp (n == 0) es ck))
    (hk : evS st.env xk = keyD n ks) (hv : evS st.env xv = .agg (vs.map (.int .i64))) (hgk : goodK n ks) (hes : ∀ e ∈ es, goodK n e.1) (hnd : (es.map (·.1)).Nodup)
    (h : K ⟨putO st.env dst .any, eput st.heap id (.mp (n == 0) (mput es ks vs ck).1 (mput es ks vs ck).2), st.nx⟩) : XCall P sb B (.xop 1 [n] [xm, xk, xv]) dst st K := by
  intro o s Z a w K' Q hx hd hdst hr hG
  subst hd
  obtain ⟨t, m, k, v, kt, e, xm', xk', xv', ho, ht, h1, h2, h3, hkt, hxs⟩ := xcop_1 hx
  simp only [List.cons.injEq, and_true] at hxs
  obtain ⟨rfl, rfl, rfl⟩ := hxs
  have hg : ∀ x ∈ [xm, xk, xv], gS st.env x = true := fun x hx => oks_mem hok hx
  obtain ⟨b, hb1, hb2, hb3⟩ := map_at hr h1 (hg _ (by simp)) hm hh
  have hkv := hr.vr h2 (hg _ (by simp))
  rw [hk] at hkv
  have hkv := keyD_inv hkv
  have hvv := hr.vr h3 (hg _ (by simp))
  rw [hv] at hvv
  have hvv := aggI_inv hvv
  obtain ⟨KK, hK2⟩ := hM t kt e ht hkt
  obtain ⟨kl, hkl⟩ := hK2 ks hgk
  have hrun : (Instr.mapUpdate t (.map (some b)) (vInts (n == 0) ks) (vInts false vs)).run P w = .ok () (ChangeMaps.setBlock w b (.map ((mput es ks vs ck).1.map (mEnt (n == 0))).toArray (mput es ks vs ck).2)) := by
    rcases KK.find w hkl _ (keys_ok hM ht hkt hes) with ⟨g1, g2⟩ | ⟨j, e0, g1, g2, g3⟩
    · have hne : ∀ e ∈ es, e.1 ≠ ks := fun e he hk => g2 (mEnt (n == 0) e) (List.mem_map.2 ⟨e, he, rfl⟩) (by rw [← hk]; rfl)
      rw [mput_new hne]
      simp [Instr.mapUpdate, run_underlying ht, MapKept.run_getObj_map hb3, KK.check w false hkl, g1, MapKept.run_setObj_map _ hb3, Result.andThen, ChangeMaps.setBlock, mEnt]
    · obtain ⟨e1, he1, rfl⟩ := (map_get _ _ _ _).1 g2
      have hek : e1.1 = ks := vInts_inj (hes e1 (List.mem_of_getElem? he1)) hgk g3
      rw [mput_old he1 hek hnd]
      have g3' : vInts (n == 0) e1.1 = vInts (n == 0) ks := by rw [hek]
      have hmod : (List.map (mEnt (n == 0)) es).modify j (fun e => { key := vInts (n == 0) ks, val := vInts false vs, born := e.born }) = (List.map (mEnt (n == 0)) es).set j { key := vInts (n == 0) ks, val := vInts false vs, born := e1.2.2 } := by
        refine List.ext_getElem? fun i => ?_
        rw [List.getElem?_modify, List.getElem?_set, List.getElem?_map]
        have hl := (List.getElem?_eq_some_iff.1 he1).1
        by_cases hij : j = i
        · subst hij
          simp only [he1, Option.map_some, if_true, List.length_map, hl, Option.map_eq_map, mEnt]
        · simp [hij]
      simp [Instr.mapUpdate, run_underlying ht, MapKept.run_getObj_map hb3, KK.check w false hkl, g1, he1, mEnt, g3', KK.stays w hkl, MapKept.run_setObj_map _ hb3, Result.andThen, ChangeMaps.setBlock, hmod]
  refine wp_skp (w' := ChangeMaps.setBlock w b (.map ((mput es ks vs ck).1.map (mEnt (n == 0))).toArray (mput es ks vs ck).2)) ?_ ?_
  · unfold execOp; rw [ho]
    simp only [hb1, hkv, hvv, Sem.run_bind, hrun, Result.andThen_ok, Sem.run_pure]
  · refine hG _ _ _ _ _ (fun hs => by rw [hsb] at hs; cases hs) h (hr.step hdst (fun _ _ => rfl) (fun _ _ _ h => h) (Nat.le_refl _) (v := undef) (d := .any) trivial trivial ?_)
    refine hr.h.write hh (k := b) (by rw [hb2]; rfl) (only_set w b _) ⟨b, hb2, ?_⟩ trivial
    exact (MapKept.heap_set hb3).1
theorem XCall.del (hM : MapsOk P n) (hok : oks st.env (.xop 2 [n] [xm, xk]) = true) (hsb : sb = false) (hm : evS st.env xm = .own id) (hh : hget st.heap id = some (.mp (n == 0) es ck))
    (hk : evS st.env xk = keyD n ks) (hgk : goodK n ks) (hes : ∀ e ∈ es, goodK n e.1) (hnd : (es.map (·.1)).Nodup)
    (h : K ⟨putO st.env dst .any, eput st.heap id (.mp (n == 0) (mdel es ks) ck), st.nx⟩) : XCall P sb B (.xop 2 [n] [xm, xk]) dst st K := by
  intro o s Z a w K' Q hx hd hdst hr hG
  subst hd
  obtain ⟨c, t, t2, kt, e, m, k, xm', xk', ho, hcal, hargs, hat, ht, h1, h2, hkt, hxs⟩ := xcop_2 hx
  simp only [List.cons.injEq, and_true] at hxs
  obtain ⟨rfl, rfl⟩ := hxs
  have hg : ∀ x ∈ [xm, xk], gS st.env x = true := fun x hx => oks_mem hok hx
  obtain ⟨b, hb1, hb2, hb3⟩ := map_at hr h1 (hg _ (by simp)) hm hh
  have hkv := hr.vr h2 (hg _ (by simp))
  rw [hk] at hkv
  have hkv := keyD_inv hkv
  obtain ⟨KK, hK2⟩ := hM t kt e ht hkt
  obtain ⟨kl, hkl⟩ := hK2 ks hgk
  have hrun : ∀ ty, (Builtin.delete_ #[t, t2] ty #[.map (some b), vInts (n == 0) ks]).run P w = .ok (.tuple #[]) (ChangeMaps.setBlock w b (.map ((mdel es ks).map (mEnt (n == 0))).toArray ck)) := fun ty => by
    rcases KK.find w hkl _ (keys_ok hM ht hkt hes) with ⟨g1, g2⟩ | ⟨j, e0, g1, g2, g3⟩
    · have hne : ∀ e ∈ es, e.1 ≠ ks := fun e he hk => g2 (mEnt (n == 0) e) (List.mem_map.2 ⟨e, he, rfl⟩) (by rw [← hk]; rfl)
      rw [mdel_none hne]
      simp [Builtin.delete_, run_underlying ht, MapKept.run_getObj_map hb3, KK.check w _ hkl, g1, MapKept.run_setObj_map _ hb3, Result.andThen, ChangeMaps.setBlock]
    · obtain ⟨e1, he1, rfl⟩ := (map_get _ _ _ _).1 g2
      have hek : e1.1 = ks := vInts_inj (hes e1 (List.mem_of_getElem? he1)) hgk g3
      rw [mdel_old he1 hek hnd]
      have hl := (List.getElem?_eq_some_iff.1 he1).1
      have hsub : (es.map (mEnt (n == 0))).toArray.eraseIdxIfInBounds j = ((es.eraseIdx j).map (mEnt (n == 0))).toArray := by
        unfold Array.eraseIdxIfInBounds
        rw [dif_pos (by simpa using hl)]
        apply Array.ext'
        simp [ChangeMaps.map_eraseIdx]
      simp [Builtin.delete_, run_underlying ht, MapKept.run_getObj_map hb3, KK.check w _ hkl, g1, MapKept.run_setObj_map _ hb3, Result.andThen, ChangeMaps.setBlock, hsub, ChangeMaps.map_eraseIdx]
  refine wp_value (v := .tuple #[]) (w' := ChangeMaps.setBlock w b (.map ((mdel es ks).map (mEnt (n == 0))).toArray ck)) ?_ ?_
  · obtain ⟨cal, ars, ats⟩ := c
    obtain ⟨ars⟩ := ars
    obtain ⟨ats⟩ := ats
    simp only at hargs hat hcal
    subst hargs hat hcal
    unfold execOp; rw [ho]
    simp only [resolve, invoke, builtin, Sem.run_bind, Sem.run_pure, Result.andThen_ok, List.map_toArray, List.map_cons, List.map_nil, hb1, hkv, hrun]
  · refine hG _ _ _ _ _ (fun hs => by rw [hsb] at hs; cases hs) h (hr.step hdst (fun _ _ => rfl) (fun _ _ _ h => h) (Nat.le_refl _) (v := .tuple #[]) (d := .any) trivial trivial ?_)
    refine hr.h.write hh (k := b) (by rw [hb2]; rfl) (only_set w b _) ⟨b, hb2, ?_⟩ trivial
    exact (MapKept.heap_set hb3).1
theorem XCall.len (hok : oks st.env (.xop 3 [n] [xm]) = true) (hm : evS st.env xm = .own id) {bare : Bool} (hh : hget st.heap id = some (.mp bare es ck))
    (h : K ⟨putO st.env dst (.int .i64 es.length), st.heap, st.nx⟩) : XCall P sb B (.xop 3 [n] [xm]) dst st K := by
  intro o s Z a w K' Q hx hd hdst hr hG
  subst hd
  obtain ⟨c, t, kt, e, m, xm', ho, hcal, hargs, hat, ht, h1, hkt, hxs⟩ := xcop_3 hx
  simp only [List.cons.injEq, and_true] at hxs
  subst hxs
  obtain ⟨b, hb1, hb2, hb3⟩ := map_at hr h1 (oks_mem hok (by simp [opnds])) hm hh
  refine wp_value (v := .int .i64 es.length) (w' := w) ?_ ?_
  · obtain ⟨cal, ars, ats⟩ := c
    obtain ⟨ars⟩ := ars
    obtain ⟨ats⟩ := ats
    simp only at hargs hat hcal
    subst hargs hat hcal
    unfold execOp; rw [ho]
    simp [resolve, invoke, builtin, Builtin.len_, run_underlying ht, goInt, hb1, MapKept.run_getObj_map hb3, Result.andThen]
  · exact hG _ _ _ _ _ (fun _ => Below.refl _ _) h (hr.put hdst (VT.int .i64 _) trivial)
theorem XCall.range (hok : oks st.env (.xop 4 [n] [xm]) = true) (hm : evS st.env xm = .own id) {bare : Bool} (hh : hget st.heap id = some (.mp bare es ck))
    (h : K ⟨putO st.env dst (.ptr st.nx 0), eput st.heap st.nx (.it id ck [] ck), st.nx + 1⟩) : XCall P sb B (.xop 4 [n] [xm]) dst st K := by
  intro o s Z a w K' Q hx hd hdst hr hG
  subst hd
  obtain ⟨t, kt, e, m, xm', ho, ht, h1, hkt, hxs⟩ := xcop_4 hx
  simp only [List.cons.injEq, and_true] at hxs
  subst hxs
  obtain ⟨b, hb1, hb2, hb3⟩ := map_at hr h1 (oks_mem hok (by simp [opnds])) hm hh
  refine wp_value (v := .pointer (some ⟨w.heap.size, 0, none⟩)) (w' := w.alloc (.mapIter (some b) ck #[] ck)) ?_ ?_
  · unfold execOp; rw [ho]
    simp [Instr.range, run_underlying ht, hb1, MapKept.run_getObj_map hb3, newObj, Sem.run, Result.andThen]
  · have hbel : Below w.heap.size w (w.alloc (.mapIter (some b) ck #[] ck)) := (Below.refl _ _).alloc (Nat.le_refl _) _
    have hidn := (hr.h.lt id _ hh).1
    refine hG _ _ _ _ _ (fun _ => hbel) h (hr.step hdst (upd_lt s st.nx _) (fun _ _ _ h => h) (by omega) (v := .pointer (some ⟨w.heap.size, 0, none⟩)) ?_ ?_ (hr.h.new hbel (v := .pointer (some ⟨w.heap.size, 0, none⟩)) ⟨w.heap.size, b, rfl, ?_, ?_⟩ ?_ (fun k hk => ?_)))
    · exact VC.new s Z st.nx w.heap.size
    · exact Nat.lt_succ_self _
    · rw [upd_lt _ _ _ _ hidn]; exact hb2
    · exact (MapKept.heap_alloc w _).1
    · show id < st.nx + 1
      omega
    · cases hk; exact Nat.le_refl _
theorem it_at {s : Nat → Value} {Z : Cells} {a : Act} {w : World} (hr : Rel B s Z st a w) {m : Operand} (hop : opdC m = some xm) (hg : gS st.env xm = true) {it since last : Nat} {seen : List Nat} (hm : evS st.env xm = .ptr it 0) (hh : hget st.heap it = some (.it id since seen last)) :
    ∃ r b, a.eval m = .pointer (some ⟨r, 0, none⟩) ∧ s it = .pointer (some ⟨r, 0, none⟩) ∧ s id = .map (some b) ∧ w.heap[r]? = some (.mapIter (some b) since seen.toArray last) := by
  have h1 := hr.vr hop hg
  rw [hm] at h1
  obtain ⟨c, h1, h2⟩ := h1
  obtain ⟨r, b, h3, h4, h5⟩ := hr.h.ob it _ hh
  rw [h3] at h1
  cases h1
  exact ⟨_, b, h2, h3, h4, h5⟩
theorem XCall.next {it since last : Nat} {seen : List Nat} (hok : oks st.env (.xop 5 [] [xm]) = true) (hm : evS st.env xm = .ptr it 0) (hi : hget st.heap it = some (.it id since seen last)) (hh : hget st.heap id = some (.mp (n == 0) es ck))
    (hsb : sb = false) (hb : ∀ e ∈ es, e.2.2 < since) (hsl : since ≤ last)
    (h0 : (∀ e ∈ es, e.2.2 ∈ seen) → K ⟨putO st.env dst (.tup [.bool false]), st.heap, st.nx⟩)
    (h1 : ∀ e ∈ es, e.2.2 ∉ seen → K ⟨putO st.env dst (.tup [.bool true, keyD n e.1, .agg (e.2.1.map (.int .i64))]), eput st.heap it (.it id since (seen ++ [e.2.2]) ck), st.nx⟩) : XCall P sb B (.xop 5 [] [xm]) dst st K := by
  intro o s Z a w K' Q hx hd hdst hr hG
  subst hd
  obtain ⟨m, xm', ho, hopd, hxs⟩ := xcop_5 hx
  simp only [List.cons.injEq, and_true] at hxs
  subst hxs
  obtain ⟨r, b, hr1, hr2, hr3, hr4⟩ := it_at hr hopd (oks_mem hok (by simp [opnds])) hm hi
  obtain ⟨b', hb2, hb3⟩ := hr.h.ob id _ hh
  have hbb : b' = b := by rw [hr3] at hb2; cases hb2; rfl
  subst hbb
  rcases run_next_at (P := P) w o.type r b' since last seen.toArray _ ck hr4 hb3 (fun x hx => by
      obtain ⟨e, he, rfl⟩ := List.mem_map.1 hx
      exact hb e he) hsl with ⟨g1, g2⟩ | ⟨e, he, w1, hw1, g2⟩
  · refine wp_value (v := .tuple #[.bool false]) (w' := w) ?_ ?_
    · unfold execOp; rw [ho]
      simp only [hr1, Sem.run_bind, g2, Result.andThen_ok, Sem.run_pure]
    · refine hG _ _ _ _ _ (fun _ => Below.refl _ _) (h0 fun e he => ?_) (hr.put hdst ⟨_, rfl, rfl, fun j x hx => ?_⟩ (fun d hd => ?_))
      · have hsz : leftOf ((es.map (mEnt (n == 0))).toArray) seen.toArray = #[] := Array.eq_empty_of_size_eq_zero g1
        refine Classical.byContradiction fun hn => ?_
        have : mEnt (n == 0) e ∈ leftOf ((es.map (mEnt (n == 0))).toArray) seen.toArray := by
          unfold leftOf
          rw [Array.mem_filter]
          refine ⟨by simp only [List.mem_toArray]; exact List.mem_map.2 ⟨e, he, rfl⟩, ?_⟩
          simpa [mEnt] using hn
        rw [hsz] at this
        simp at this
      · match j, hx with
        | 0, hx => obtain rfl := Option.some.inj hx; exact VT.bool false
        | j + 1, hx => cases (show (none : Option D) = some x from hx)
      · simp at hd; subst hd; trivial
  · have hmem : ∃ e0 ∈ es, e = mEnt (n == 0) e0 ∧ e0.2.2 ∉ seen := by
      have he : e ∈ leftOf ((es.map (mEnt (n == 0))).toArray) seen.toArray := by simpa using he
      unfold leftOf at he
      rw [Array.mem_filter] at he
      obtain ⟨p1, p2⟩ := he
      have p1 : e ∈ es.map (mEnt (n == 0)) := by simpa using p1
      obtain ⟨e0, h1, rfl⟩ := List.mem_map.1 p1
      exact ⟨e0, h1, rfl, by simpa [mEnt] using p2⟩
    obtain ⟨e0, he0, rfl, hns⟩ := hmem
    have hw : Only r w (ChangeMaps.setBlock w1 r (.mapIter (some b') since (seen.toArray.push (mEnt (n == 0) e0).born) ck)) := by
      rcases hw1 with rfl | rfl
      · exact only_set _ _ _
      · exact ⟨rfl, rfl, rfl, (by show (w.heap.setIfInBounds r _).size = w.heap.size; simp), fun k hk => (by show (w.heap.setIfInBounds r _)[k]? = w.heap[k]?; simp [Ne.symm hk])⟩
    have hw4 : (ChangeMaps.setBlock w1 r (.mapIter (some b') since (seen.toArray.push (mEnt (n == 0) e0).born) ck)).heap[r]? = some (.mapIter (some b') since (seen.toArray.push (mEnt (n == 0) e0).born) ck) := by
      rcases hw1 with rfl | rfl
      · exact (MapKept.heap_set hr4).1
      · exact (MapKept.heap_set (w := w.drew) hr4).1
    refine wp_value (v := .tuple #[.bool true, (mEnt (n == 0) e0).key, (mEnt (n == 0) e0).val]) (w' := ChangeMaps.setBlock w1 r (.mapIter (some b') since (seen.toArray.push (mEnt (n == 0) e0).born) ck)) ?_ ?_
    · unfold execOp; rw [ho]
      simp only [hr1, Sem.run_bind, g2, Result.andThen_ok, Sem.run_pure]
    · have hidl := (hr.h.lt it _ hi).2
      refine hG _ _ _ _ _ (fun hs => by rw [hsb] at hs; cases hs) (h1 e0 he0 hns) (hr.step hdst (fun _ _ => rfl) (fun _ _ _ h => h) (Nat.le_refl _) ⟨_, rfl, rfl, fun j x hx => ?_⟩ (fun d hd => ?_) ?_)
      · match j, hx with
        | 0, hx => obtain rfl := Option.some.inj hx; exact VT.bool true
        | 1, hx => obtain rfl := Option.some.inj hx; exact keyD_mk s Z n e0.1
        | 2, hx => obtain rfl := Option.some.inj hx; exact aggI_mk s Z e0.2.1
        | j + 3, hx => cases (show (none : Option D) = some x from hx)
      · simp at hd
        rcases hd with rfl | rfl | rfl
        · trivial
        · exact keyD_lt n _ _
        · exact aggI_lt _ _
      · refine hr.h.write hi (k := r) (by rw [hr2]; rfl) hw ⟨r, b', hr2, hr3, ?_⟩ hidl
        rw [hw4]
        simp [mEnt]
theorem XCall.entry {it since : Nat} {seen : List Nat} {e : Ent} (hok : oks st.env (.xop 6 [] [xm]) = true) (hm : evS st.env xm = .ptr it 0) (hi : hget st.heap it = some (.it id since (seen ++ [e.2.2]) ck)) (hh : hget st.heap id = some (.mp (n == 0) es ck))
    (he : e ∈ es) (hnd : (es.map (·.2.2)).Nodup)
    (h : K ⟨putO st.env dst (.tup [keyD n e.1, .agg (e.2.1.map (.int .i64))]), st.heap, st.nx⟩) : XCall P sb B (.xop 6 [] [xm]) dst st K := by
  intro o s Z a w K' Q hx hd hdst hr hG
  subst hd
  obtain ⟨m, xm', ho, hopd, hxs⟩ := xcop_6 hx
  simp only [List.cons.injEq, and_true] at hxs
  subst hxs
  obtain ⟨r, b, hr1, hr2, hr3, hr4⟩ := it_at hr hopd (oks_mem hok (by simp [opnds])) hm hi
  obtain ⟨b', hb2, hb3⟩ := hr.h.ob id _ hh
  have hbb : b' = b := by rw [hr3] at hb2; cases hb2; rfl
  subst hbb
  have hrun := run_entry_at (P := P) w r b' since seen.toArray _ ck (mEnt (n == 0) e) (by rw [hr4]; simp [mEnt]) hb3 (List.mem_map.2 ⟨e, he, rfl⟩) (by simpa [Function.comp_def, mEnt] using hnd)
  refine wp_value (v := .tuple #[(mEnt (n == 0) e).key, (mEnt (n == 0) e).val]) (w' := w) ?_ ?_
  · unfold execOp; rw [ho]
    simp only [hr1, Sem.run_bind, hrun, Result.andThen_ok, Sem.run_pure]
  · refine hG _ _ _ _ _ (fun _ => Below.refl _ _) h (hr.put hdst ⟨_, rfl, rfl, fun j x hx => ?_⟩ (fun d hd => ?_))
    · match j, hx with
      | 0, hx => obtain rfl := Option.some.inj hx; exact keyD_mk s Z n e.1
      | 1, hx => obtain rfl := Option.some.inj hx; exact aggI_mk s Z e.2.1
      | j + 2, hx => cases (show (none : Option D) = some x from hx)
    · simp at hd
      rcases hd with rfl | rfl
      · exact keyD_lt n _ _
      · exact aggI_lt _ _
end
end Go.Proofs.Ytfkeddefajkobaa

set_option linter.unusedSimpArgs false
set_option linter.unusedVariables false
namespace Go.Proofs.Ytfkeddefajkobaa
open Go.RowKit
section
variable {P : Program}
theorem xcop_call {o : Op} {k : Nat} {ns : List Nat} {xs : List Opd} (hk : 8 ≤ k) (h : xcop P o = some (.xop k ns xs)) : ∃ c, o = .call c := by
  unfold xcop at h
  split at h
  case h_8 => cases h
  case h_7 => exact ⟨_, rfl⟩
  all_goals
    exfalso
    (repeat' split at h) <;> simp at h <;> omega
theorem xcop_8 {o : Op} {xs : List Opd} (h : xcop P o = some (.xop 8 [] xs)) : ∃ c t e x X, o = .call c ∧ c.callee = .builtin .cap ∧ c.args.toList = [x] ∧ c.argTypes.toList = [t] ∧ sliceT P t = some e ∧ opdC x = some X ∧ xs = [X] := by
  obtain ⟨c, rfl⟩ := xcop_call (by omega) h
  simp only [xcop] at h
  split at h
  case h_3 =>
    rename_i hcal
    split at h
    · rename_i X t hargs hat
      simp at h
      obtain ⟨x, h1, h2⟩ := opdsC_one hargs
      obtain ⟨⟨e, he⟩, h3⟩ := h
      exact ⟨c, t, e, x, X, rfl, hcal, h1, hat, he, h2, h3.symm⟩
    · simp at h
  all_goals
    exfalso
    (repeat' split at h) <;> simp at h
theorem xcop_9 {o : Op} {n : Nat} {xs : List Opd} (h : xcop P o = some (.xop 9 [n] xs)) : ∃ c t t' e x y X Y, o = .call c ∧ c.callee = .builtin .copy ∧ c.args.toList = [x, y] ∧ c.argTypes.toList = [t, t'] ∧ sliceT P t = some e ∧ szT P e = some n ∧ opdC x = some X ∧ opdC y = some Y ∧ xs = [X, Y] := by
  obtain ⟨c, rfl⟩ := xcop_call (by omega) h
  simp only [xcop] at h
  split at h
  case h_4 =>
    rename_i hcal
    split at h
    · rename_i X Y t t' hargs hat
      split at h
      · rename_i e he
        simp at h
        obtain ⟨x, y, h1, h2, h3⟩ := opdsC_two hargs
        obtain ⟨_, g1, rfl, g2⟩ := h
        exact ⟨c, t, t', e, x, y, X, Y, rfl, hcal, h1, hat, he, g1, h2, h3, g2.symm⟩
      · simp at h
    · simp at h
  all_goals
    exfalso
    (repeat' split at h) <;> simp at h
theorem xcop_10 {o : Op} {n : Nat} {xs : List Opd} (h : xcop P o = some (.xop 10 [n] xs)) : ∃ c t e z x X, o = .call c ∧ c.callee = .builtin .clear ∧ c.args.toList = [x] ∧ c.argTypes.toList = [t] ∧ sliceT P t = some e ∧ szT P e = some n ∧ zeroT P e = some z ∧ opdC x = some X ∧ xs = [X] := by
  obtain ⟨c, rfl⟩ := xcop_call (by omega) h
  simp only [xcop] at h
  split at h
  case h_5 =>
    rename_i hcal
    split at h
    · rename_i X t hargs hat
      split at h
      · rename_i e he
        split at h
        · rename_i n' z hn hz
          simp at h
          obtain ⟨x, h1, h2⟩ := opdsC_one hargs
          obtain ⟨rfl, g2⟩ := h
          exact ⟨c, t, e, z, x, X, rfl, hcal, h1, hat, he, hn, hz, h2, g2.symm⟩
        · simp at h
      · simp at h
    · simp at h
  all_goals
    exfalso
    (repeat' split at h) <;> simp at h
theorem xcop_11 {o : Op} {n m : Nat} {xs : List Opd} (h : xcop P o = some (.xop 11 [n, m] xs)) : ∃ c t t' e i z x y X Y, o = .call c ∧ c.callee = .builtin .append ∧ c.args.toList = [x, y] ∧ c.argTypes.toList = [t, t'] ∧ P.underlying t' = some (.int .i64) ∧ sliceT P t = some e ∧ P.info? e = some i ∧ i.size = n ∧ i.bytes = m ∧ zeroT P e = some z ∧ opdC x = some X ∧ opdC y = some Y ∧ xs = [X, Y] := by
  obtain ⟨c, rfl⟩ := xcop_call (by omega) h
  simp only [xcop] at h
  split at h
  case h_6 =>
    rename_i hcal
    split at h
    · rename_i X Y t t' hargs hat
      split at h
      · rename_i e ht' he
        split at h
        · rename_i i z hi hz
          simp at h
          obtain ⟨x, y, h1, h2, h3⟩ := opdsC_two hargs
          obtain ⟨⟨rfl, rfl⟩, g2⟩ := h
          exact ⟨c, t, t', e, i, z, x, y, X, Y, rfl, hcal, h1, hat, ht', he, hi, rfl, rfl, hz, h2, h3, g2.symm⟩
        · simp at h
      · simp at h
    · simp at h
  all_goals
    exfalso
    (repeat' split at h) <;> simp at h
end
end Go.Proofs.Ytfkeddefajkobaa

set_option linter.unusedSimpArgs false
set_option linter.unusedVariables false
namespace Go.Proofs.Ytfkeddefajkobaa
open Go.RowKit
def srcD (H : List (Nat × Ob)) (d : D) : Option (Nat × List (List D)) :=
  match d with
  | .sl id sz off len _ => match hget H id with
    | some (.blk sz' xs) => if sz = sz' then some (sz, (xs.drop off).take len) else none
    | _ => none
  | d => (slD H d).map fun t => (t.2.1, t.2.2)
/-- the rows of a slice lie there; nothing is said of cells 'any' -/
def SrcAt (s : Nat → Value) (Z : Cells) (nx : Nat) (w : World) (sz : Nat) (ys : List (List D)) (v : Value) : Prop :=
  (∀ row ∈ ys, ∀ d ∈ row, LtC nx d) ∧ ∃ a cap, v = .slice a ys.length cap ∧ (0 < ys.length → ∃ b off, a = some ⟨b, off, none⟩ ∧ ∀ i row j d, ys[i]? = some row → row[j]? = some d → d ≠ .any → ∃ u, w.cell? ⟨b, off + i * sz + j, none⟩ = some u ∧ VC s Z d u)
section
variable {P : Program} {B : Base} {s : Nat → Value} {Z : Cells} {H : List (Nat × Ob)} {nx : Nat} {w : World}
theorem SlAt.src {R : D → Value → Prop} {sz : Nat} {ys : List (List D)} {v : Value} (h : SlAt R w sz ys v) (hR : ∀ d u, R d u → VC s Z d u) (hl : ∀ row ∈ ys, ∀ d ∈ row, LtC nx d) : SrcAt s Z nx w sz ys v := by
  obtain ⟨a, cap, h1, h2, h3⟩ := h
  refine ⟨hl, a, cap, h1, fun h0 => ?_⟩
  obtain ⟨b, off, h4, h5⟩ := h3 h0
  exact ⟨b, off, h4, fun i row j d hi hj _ => by
    obtain ⟨u, g1, g2⟩ := h5 i row j d hi hj
    exact ⟨u, g1, hR d u g2⟩⟩
theorem blk_at {id sz : Nat} {xs : List (List D)} (h : RelH B s Z H nx w) (hh : hget H id = some (.blk sz xs)) {off len cap : Nat} {sz' : Nat} {v : Value} (hv : VC s Z (.sl id sz' off len cap) v) :
    ∃ g n cur e o, s id = .slice (some ⟨g, 0, none⟩) n xs.length ∧ blk (s id) = some g ∧ w.heap[g]? = some (.cells cur e (0, 0)) ∧ cur.size = xs.length * sz ∧ v = .slice (some ⟨g, o, none⟩) len cap ∧ (0 < cap → o = off * sz') ∧ len ≤ cap ∧ off + cap ≤ xs.length ∧ BlkOk (VC s Z) w sz xs (s id) := by
  have ho := h.ob _ _ hh
  obtain ⟨b, n', c', o, h1, h2, h3, h4, h5⟩ := hv
  obtain ⟨g1, g2, g, n, cur, e, g3, g4, g5, g6, g7, g8⟩ := (show BlkOk (VC s Z) w sz xs (s id) from ho)
  rw [h1] at g3
  simp only [Value.slice.injEq, Option.some.injEq, Addr.mk.injEq, and_true] at g3
  obtain ⟨rfl, rfl, rfl⟩ := g3
  exact ⟨b, n', cur, e, o, h1, by rw [h1]; simp only [blk]; rw [if_neg (by omega)], g4, g7, h2, h3, h4, h5, ho⟩
theorem srcD_at (h : RelH B s Z H nx w) {d : D} {v : Value} (hv : VR s Z d v) {sz : Nat} {ys : List (List D)} (hs : srcD H d = some (sz, ys)) : SrcAt s Z nx w sz ys v := by
  cases d with
  | sl id sz' off len cap =>
    simp only [srcD] at hs
    split at hs
    · rename_i sz'' xs hh
      split at hs
      · rename_i e
        subst e
        simp only [Option.some.injEq, Prod.mk.injEq] at hs
        obtain ⟨rfl, rfl⟩ := hs
        obtain ⟨g, n, cur, e, o, h1, h2, h3, h4, h5, h6, h7, h8, h9⟩ := blk_at h hh hv
        obtain ⟨b1, b2, g', n', cur', e', b3, b4, b5, b6, b7, b8⟩ := h9
        rw [h1] at b3
        simp only [Value.slice.injEq, Option.some.injEq, Addr.mk.injEq, and_true] at b3
        obtain ⟨rfl, rfl⟩ := b3
        rw [h3] at b4
        simp only [Option.some.injEq, Obj.cells.injEq, and_true] at b4
        obtain ⟨rfl, rfl⟩ := b4
        have hlen : ((xs.drop off).take len).length = len := by rw [List.length_take, List.length_drop]; omega
        refine ⟨fun row hr x hx => (h.lt _ _ hh).2 row (List.mem_of_mem_drop (List.mem_of_mem_take hr)) x hx, _, cap, by rw [hlen]; exact h5, fun h0 => ⟨g, o, rfl, fun i row j d hi hj hd => ?_⟩⟩
        rw [hlen] at h0
        have ho := h6 (by omega)
        rw [List.getElem?_take] at hi
        split at hi
        · rename_i hil
          rw [List.getElem?_drop] at hi
          have hjl : j < sz' := by
            have := (List.getElem?_eq_some_iff.1 hj).1
            rwa [b2 _ (List.mem_of_getElem? hi)] at this
          have hlt : (off + i) * sz' + j < cur.size := by
            rw [h4]
            have : (off + i + 1) * sz' ≤ xs.length * sz' := Nat.mul_le_mul_right _ (by omega)
            rw [Nat.add_mul, Nat.one_mul] at this; omega
          refine ⟨cur.getD ((off + i) * sz' + j) undef, ?_, b8 _ row j d hi hj hd⟩
          rw [ho, show off * sz' + i * sz' + j = (off + i) * sz' + j by rw [Nat.add_mul], cell_of_row w g _ cur e (0, 0) h3]
          simp [hlt]
        · cases hi
      · cases hs
    · cases hs
  | rows sz' xs =>
    simp only [srcD, slD, Option.map_some, Option.some.injEq, Prod.mk.injEq] at hs
    obtain ⟨rfl, rfl⟩ := hs
    have := slD_at h.know hv (t := true) (sz := sz') (xs := xs) rfl
    refine SlAt.src this (fun d u h => VC.of_vt h) fun row hr x hx => ?_
    cases hv with
    | rnil _ a cap => cases hr
    | rows _ _ b off cap c hcap h1 h2 =>
      obtain ⟨i, hi⟩ := List.getElem?_of_mem hr
      obtain ⟨j, hj⟩ := List.getElem?_of_mem hx
      exact VT.ltN _ (h2 i row j x hi hj)
  | own id =>
    simp only [srcD, Option.map_eq_some_iff] at hs
    obtain ⟨⟨t, sz', xs⟩, hs, e⟩ := hs
    simp only [Prod.mk.injEq] at e
    obtain ⟨rfl, rfl⟩ := e
    have h1 := slD_at h.know hv hs
    simp only [slD] at hs
    split at hs
    · rename_i sz'' xs' hh
      simp only [Option.some.injEq, Prod.mk.injEq] at hs
      obtain ⟨rfl, rfl, rfl⟩ := hs
      refine SlAt.src h1 (fun d u h => VC.of_vt h) fun row hr x hx => ?_
      have ho := h.ob _ _ hh
      rcases ho.2.2 with ⟨rfl, _⟩ | ⟨g, cap, cur, e, _, _, _, _, _, h8⟩
      · cases hr
      · obtain ⟨i, hi⟩ := List.getElem?_of_mem hr
        obtain ⟨j, hj⟩ := List.getElem?_of_mem hx
        exact VT.ltN _ (h8 i row j x hi hj)
    · rename_i sz'' xs' hh
      simp only [Option.some.injEq, Prod.mk.injEq] at hs
      obtain ⟨rfl, rfl, rfl⟩ := hs
      exact SlAt.src h1 (fun d u h => h) (h.lt _ _ hh).2
    · cases hs
  | nil0 =>
    simp only [srcD, slD, Option.map_some, Option.some.injEq, Prod.mk.injEq] at hs
    obtain ⟨rfl, rfl⟩ := hs
    cases hv with
    | nil0 a => exact ⟨(fun _ h => by cases h), a, 0, rfl, fun h => by simp at h⟩
  | _ => simp [srcD, slD] at hs
/-- the cells that are read -/
theorem SrcAt.news {sz : Nat} {ys : List (List D)} {v : Value} (h : SrcAt s Z nx w sz ys v) (n : Nat) (hrow : ∀ row ∈ ys.take n, row.length = sz) (hany : ∀ row ∈ ys.take n, ∀ d ∈ row, d ≠ .any) :
    ∃ a cap, ∃ news : List Value, v = .slice a ys.length cap ∧ news.length = (ys.take n).length * sz ∧ (Builtin.firstCells sz (ys.take n).length v).run P w = .ok news.toArray w ∧ (∀ u ∈ news, u.oneCell' = true) ∧
      ∀ i row j d, (ys.take n)[i]? = some row → row[j]? = some d → VC s Z d (news.getD (i * sz + j) undef) := by
  obtain ⟨hl, a, cap, rfl, h3⟩ := h
  by_cases h0 : 0 < (ys.take n).length
  · obtain ⟨b, off, rfl, h4⟩ := h3 (by rw [List.length_take] at h0; omega)
    obtain ⟨news, g1, g2, g3⟩ := SlAt.news (w := w) (R := VC s Z) (b := b) (off := off) hrow (fun i row j d hi hj => by
      have hi' : ys[i]? = some row := by
        rw [List.getElem?_take] at hi
        split at hi
        · exact hi
        · cases hi
      exact h4 i row j d hi' hj (hany row (List.mem_of_getElem? hi) d (List.mem_of_getElem? hj)))
    refine ⟨_, cap, news, rfl, g1, run_firstCells_some w sz _ ⟨b, off, none⟩ _ cap news g1 (fun j u hu => by rw [add_mid']; exact g2 j u hu), fun u hu => ?_, g3⟩
    obtain ⟨k, hk⟩ := List.getElem?_of_mem hu
    have hkl : k < (ys.take n).length * sz := by rw [← g1]; exact (List.getElem?_eq_some_iff.1 hk).1
    have hsz : 0 < sz := by
      rcases Nat.eq_zero_or_pos sz with h0 | h0
      · rw [h0] at hkl; simp at hkl
      · exact h0
    have hi' : k / sz < (ys.take n).length := Nat.div_lt_of_lt_mul (by rwa [Nat.mul_comm] at hkl)
    have hx : (ys.take n)[k / sz]? = some (ys.take n)[k / sz] := List.getElem?_eq_getElem hi'
    have hj' : k % sz < (ys.take n)[k / sz].length := by rw [hrow _ (List.getElem_mem hi')]; exact Nat.mod_lt _ hsz
    have := g3 _ _ _ _ hx (List.getElem?_eq_getElem hj')
    have hdm := Nat.div_add_mod k sz
    rw [show k / sz * sz + k % sz = k by rw [Nat.mul_comm]; omega, List.getD_eq_getElem?_getD, hk, Option.getD_some] at this
    exact VC.one this
  · have e : ys.take n = [] := List.eq_nil_of_length_eq_zero (by omega)
    rw [e]
    refine ⟨a, cap, [], rfl, by simp, ?_, (fun u hu => by cases hu), fun i row j d hi => by simp at hi⟩
    cases a with
    | none => exact run_firstCells_none w sz _ _ cap
    | some ad => exact run_firstCells_some w sz _ ad _ cap [] (by simp) (fun j v hv => by simp at hv)
/-- rows are put down in a block -/
theorem BlkOk.paste {sz : Nat} {xs : List (List D)} {v : Value} (h : BlkOk (VC s Z) w sz xs v) {g : Nat} (hg : Go.Proofs.Ytfkeddefajkobaa.blk v = some g) {off : Nat} {ys : List (List D)} {news : List Value} (hl : news.length = ys.length * sz) (hfit : off + ys.length ≤ xs.length)
    (hrow : ∀ row ∈ ys, row.length = sz) (hn : ∀ i row j d, ys[i]? = some row → row[j]? = some d → d ≠ .any → VC s Z d (news.getD (i * sz + j) undef)) :
    BlkOk (VC s Z) (w.setCells g (off * sz) news) sz (xs.take off ++ ys ++ xs.drop (off + ys.length)) v := by
  obtain ⟨h1, h2, g', n, cur, e, rfl, h4, h5, h6, h7, h8⟩ := h
  have hgg : g' = g := by simp only [Go.Proofs.Ytfkeddefajkobaa.blk] at hg; rw [if_neg (by omega)] at hg; exact Option.some.inj hg
  subst hgg
  have hfit' : off * sz + news.length ≤ cur.size := by rw [hl, h7, ← Nat.add_mul]; exact Nat.mul_le_mul_right _ hfit
  obtain ⟨cs', g1, g2, g3⟩ := heap_setCells g' e news (off * sz) w cur h4 hfit'
  have hlen : (xs.take off ++ ys ++ xs.drop (off + ys.length)).length = xs.length := by simp; omega
  refine ⟨h1, fun row hr => ?_, g', n, cs', e, by rw [hlen], g1, by rw [hlen]; exact h5, by rw [hlen]; exact h6, by rw [g2, hlen, h7], fun i row j d hi hj hd => ?_⟩
  · rcases List.mem_append.1 hr with hr | hr
    · rcases List.mem_append.1 hr with hr | hr
      · exact h2 row (List.mem_of_mem_take hr)
      · exact hrow row hr
    · exact h2 row (List.mem_of_mem_drop hr)
  · rw [g3]
    rw [List.append_assoc] at hi
    by_cases c1 : i < off
    · rw [List.getElem?_append_left (by simp; omega), List.getElem?_take, if_pos c1] at hi
      have hjl : j < sz := by
        have := (List.getElem?_eq_some_iff.1 hj).1
        rwa [h2 _ (List.mem_of_getElem? hi)] at this
      have : (i + 1) * sz ≤ off * sz := Nat.mul_le_mul_right _ c1
      rw [Nat.add_mul, Nat.one_mul] at this
      rw [if_neg (by omega)]
      exact h8 i row j d hi hj hd
    · rw [List.getElem?_append_right (by simp; omega), List.length_take, Nat.min_eq_left (by omega)] at hi
      by_cases c2 : i < off + ys.length
      · rw [List.getElem?_append_left (by omega)] at hi
        have hjl : j < sz := by
          have := (List.getElem?_eq_some_iff.1 hj).1
          rwa [hrow _ (List.mem_of_getElem? hi)] at this
        have e1 : i * sz = off * sz + (i - off) * sz := by rw [← Nat.add_mul]; congr 1; omega
        have : (i - off + 1) * sz ≤ ys.length * sz := Nat.mul_le_mul_right _ (by omega)
        rw [Nat.add_mul, Nat.one_mul] at this
        rw [if_pos (by rw [hl]; omega)]
        have := hn _ row j d hi hj hd
        rwa [show i * sz + j - off * sz = (i - off) * sz + j by omega]
      · rw [List.getElem?_append_right (by omega), List.getElem?_drop] at hi
        have e2 : off + ys.length + (i - off - ys.length) = i := by omega
        rw [e2] at hi
        have : (off + ys.length) * sz ≤ i * sz := Nat.mul_le_mul_right _ (by omega)
        rw [Nat.add_mul] at this
        rw [if_neg (by rw [hl]; omega)]
        exact h8 i row j d hi hj hd
theorem paste_lt {sz off : Nat} {xs ys : List (List D)} (h1 : ∀ row ∈ xs, ∀ d ∈ row, LtC nx d) (h2 : ∀ row ∈ ys, ∀ d ∈ row, LtC nx d) : LtO nx (.blk sz (xs.take off ++ ys ++ xs.drop (off + ys.length))) := by
  intro row hr d hd
  rcases List.mem_append.1 hr with hr | hr
  · rcases List.mem_append.1 hr with hr | hr
    · exact h1 row (List.mem_of_mem_take hr) d hd
    · exact h2 row hr d hd
  · exact h1 row (List.mem_of_mem_drop hr) d hd
end
section
variable {P : Program} {sb : Bool} {B : Base} {st : St} {K : St → Prop} {dst : Option Nat} {X Y : Opd} {id sz off len cp : Nat}
theorem XCall.cap (hok : oks st.env (.xop 8 [] [X]) = true) (hx : evS st.env X = .sl id sz off len cp) (h : K ⟨putO st.env dst (.int .i64 cp), st.heap, st.nx⟩) : XCall P sb B (.xop 8 [] [X]) dst st K := by
  intro o s Z a w K' Q hxc hd hdst hr hG
  subst hd
  obtain ⟨c, t, e, x, X', ho, hcal, hargs, hat, ht, h1, hxs⟩ := xcop_8 hxc
  simp only [List.cons.injEq, and_true] at hxs
  subst hxs
  have hv := hr.vr h1 (oks_mem hok (by simp [opnds]))
  rw [hx] at hv
  obtain ⟨b, n', c', q, _, h2, _⟩ := hv
  refine wp_value (v := .int .i64 cp) (w' := w) ?_ ?_
  · unfold execOp; rw [ho]
    obtain ⟨cal, ars, ats⟩ := c
    obtain ⟨ars⟩ := ars
    obtain ⟨ats⟩ := ats
    simp only at hargs hat hcal
    subst hargs hat hcal
    simp [resolve, invoke, builtin, Builtin.cap_, run_underlying (sliceT_some ht), goInt, h2]
  · exact hG _ _ _ _ _ (fun _ => Below.refl _ _) h (hr.put hdst (VT.int .i64 _) trivial)
theorem store_run {b o : Nat} {vs : List Value} {w : World} {cur : Array Value} {e : TypeId} (hb : w.heap[b]? = some (.cells cur e (0, 0))) (hl : vs ≠ [] → o + vs.length ≤ cur.size) (h1 : ∀ u ∈ vs, u.oneCell' = true) :
    (storeCells ⟨b, o, none⟩ vs 0).run P w = .ok () (w.setCells b o vs) := by
  by_cases hv : vs = []
  · subst hv; rfl
  · have hl := hl hv
    have := run_storeCells_cells (P := P) b o vs 0 w (fun j hj => by
      rw [cell_of_row w b _ cur e (0, 0) hb]; simp; omega) (fun j hj => frozen_of_row w b _ cur e hb) h1
    simpa using this
theorem XCall.copy {xs ys : List (List D)} (hok : oks st.env (.xop 9 [sz] [X, Y]) = true) (hsb : sb = false) (hx : evS st.env X = .sl id sz off len cp) (hh : hget st.heap id = some (.blk sz xs)) (hy : srcD st.heap (evS st.env Y) = some (sz, ys))
    (hrow : ∀ row ∈ ys.take len, row.length = sz) (hany : ∀ row ∈ ys.take len, ∀ d ∈ row, d ≠ .any)
    (h : K ⟨putO st.env dst (.int .i64 ((ys.take len).length : Nat)), eput st.heap id (.blk sz (xs.take off ++ ys.take len ++ xs.drop (off + (ys.take len).length))), st.nx⟩) : XCall P sb B (.xop 9 [sz] [X, Y]) dst st K := by
  intro o s Z a w K' Q hxc hd hdst hr hG
  subst hd
  obtain ⟨c, t, t', e, x, y, X', Y', ho, hcal, hargs, hat, ht, hn, h1, h2, hxs⟩ := xcop_9 hxc
  simp only [List.cons.injEq, and_true] at hxs
  obtain ⟨rfl, rfl⟩ := hxs
  have hg : ∀ x ∈ [X, Y], gS st.env x = true := fun x hx => oks_mem hok hx
  have hv := hr.vr h1 (hg _ (by simp))
  rw [hx] at hv
  obtain ⟨g, n', cur, e', q, k1, k2, k3, k4, k5, k6, k7, k8, k9⟩ := blk_at hr.h hh hv
  have hsrc := srcD_at hr.h (hr.vr h2 (hg _ (by simp))) hy
  obtain ⟨sa, scap, news, m1, m2, m3, m4, m5⟩ := hsrc.news (P := P) len hrow hany
  have hlen : (ys.take len).length = Nat.min ys.length len := by rw [List.length_take]; exact Nat.min_comm _ _
  have hcap0 : news ≠ [] → q = off * sz := fun hne => k6 (by
    rcases Nat.eq_zero_or_pos cp with h0 | h0
    · exfalso
      have : ys.take len = [] := by rw [show len = 0 by omega]; rfl
      rw [this] at m2
      exact hne (List.eq_nil_of_length_eq_zero (by simpa using m2))
    · exact h0)
  have hset : w.setCells g q news = w.setCells g (off * sz) news := by
    by_cases hne : news = []
    · subst hne; rfl
    · rw [hcap0 hne]
  have hfit : off + (ys.take len).length ≤ xs.length := by rw [List.length_take]; omega
  have hst : (storeCells ⟨g, q, none⟩ news 0).run P w = .ok () (w.setCells g q news) := store_run k3 (fun hne => by
    rw [hcap0 hne, m2, k4, ← Nat.add_mul]; exact Nat.mul_le_mul_right _ hfit) m4
  refine wp_value (v := .int .i64 ((ys.take len).length : Nat)) (w' := w.setCells g (off * sz) news) ?_ ?_
  · unfold execOp; rw [ho]
    obtain ⟨cal, ars, ats⟩ := c
    obtain ⟨ars⟩ := ars
    obtain ⟨ats⟩ := ats
    simp only at hargs hat hcal
    subst hargs hat hcal
    rw [← hset]
    have hn' := hn
    unfold szT at hn'
    obtain ⟨i, hi, hi2⟩ := Option.map_eq_some_iff.1 hn'
    rw [hlen] at m3 ⊢
    rw [m1] at m3
    simp only [resolve, List.map_cons, List.map_nil, List.map_toArray, invoke, builtin, Builtin.copy_, Sem.run_bind, Sem.run_pure, Result.andThen_ok, k5, m1]
    simp [run_underlying (sliceT_some ht), Builtin.lenOf, sizeOf, typeInfo, hi, hi2, m3, hst, goInt]
  · refine hG _ _ _ _ _ (fun hs => by rw [hsb] at hs; cases hs) h (hr.step hdst (fun _ _ => rfl) (fun _ _ _ h => h) (Nat.le_refl _) (v := .int .i64 ((ys.take len).length : Nat)) (VT.int .i64 _) trivial ?_)
    exact hr.h.write hh k2 (Only.setCells g news (off * sz) w) (k9.paste k2 m2 hfit hrow fun i row j d hi hj _ => m5 i row j d hi hj) (paste_lt (hr.h.lt _ _ hh).2 fun row hr' d hd => hsrc.1 row (List.mem_of_mem_take hr') d hd)
end
end Go.Proofs.Ytfkeddefajkobaa

set_option linter.unusedSimpArgs false
set_option linter.unusedVariables false
namespace Go.Proofs.Ytfkeddefajkobaa
open Go.RowKit
def anyRow (sz : Nat) : List D := List.replicate sz .any
theorem zero_one {P : Program} {e : TypeId} {z : List D} (h : zeroT P e = some z) : ∃ i v, P.info? e = some i ∧ i.zero = some v ∧ i.size = z.length ∧ v.cells.size = z.length ∧ ∀ u ∈ v.cells.toList, u.oneCell' = true := by
  obtain ⟨i, v, h1, h2, h3, h4, h5⟩ := zeroT_sound (s := s0) (Z := fun _ _ => none) h
  refine ⟨i, v, h1, h2, h3, h4, fun u hu => ?_⟩
  obtain ⟨j, hj⟩ := List.getElem?_of_mem hu
  have hjl : j < z.length := by
    have := (List.getElem?_eq_some_iff.1 hj).1
    rw [← h4]; simpa using this
  have := h5 j z[j] (List.getElem?_eq_getElem hjl)
  have e1 : v.cells.getD j undef = u := by
    rw [Array.getD_eq_getD_getElem?, ← Array.getElem?_toList, hj]; rfl
  rw [e1] at this
  exact VC.one this
theorem zeroCells_one {z : Array Value} {n : Nat} (h : ∀ u ∈ z.toList, u.oneCell' = true) : ∀ u ∈ (Builtin.zeroCells z n).toList, u.oneCell' = true := by
  intro u hu
  simp only [Builtin.zeroCells, Array.toList_map, Array.toList_range, List.mem_map, List.mem_range] at hu
  obtain ⟨i, hi, rfl⟩ := hu
  have h0 : 0 < z.size := by
    rcases Nat.eq_zero_or_pos z.size with h0 | h0
    · rw [h0] at hi; simp at hi
    · exact h0
  have : i % z.size < z.size := Nat.mod_lt _ h0
  rw [getElem!_pos z _ this]
  exact h _ (by simp)
theorem anyRow_ne {sz n : Nat} {i j : Nat} {row : List D} {d : D} (hi : (List.replicate n (anyRow sz))[i]? = some row) (hj : row[j]? = some d) : d = .any := by
  have h1 := List.eq_of_mem_replicate (List.mem_of_getElem? hi)
  subst h1
  exact List.eq_of_mem_replicate (List.mem_of_getElem? hj)
theorem anyRow_lt {sz n nx : Nat} : ∀ row ∈ List.replicate n (anyRow sz), ∀ d ∈ row, LtC nx d := by
  intro row hr d hd
  have h1 := List.eq_of_mem_replicate hr
  subst h1
  have h2 := List.eq_of_mem_replicate hd
  subst h2
  trivial
theorem cop_app {P : Program} {o : Op} {sz bytes : Nat} {z : List D} {X Y : Opd} (hc : cop P o = some (.app sz bytes z X Y)) : ∃ c t e i x y, o = .call c ∧ c.callee = .builtin .append ∧ c.args.toList = [x, y] ∧ c.argTypes.toList = [t, t] ∧ sliceT P t = some e ∧ P.info? e = some i ∧ i.size = sz ∧ i.bytes = bytes ∧ 0 < sz ∧ zeroT P e = some z ∧ opdC x = some X ∧ opdC y = some Y := by
  by_cases hl : opLoud o
  · cases o with
    | call c =>
      refine ⟨c, ?_⟩
      simp only [cop] at hc
      split at hc
      · split at hc <;> simp at hc
      · rename_i b hb
        split at hc
        · split at hc
          · simp at hc
          · simp at hc
          · split at hc <;> (try split at hc) <;> simp at hc
          · simp at hc
        · simp at hc
        · simp at hc
        · rename_i X' Y' t t' hargs hat
          split at hc
          · rename_i htt
            subst htt
            split at hc
            · rename_i e he
              split at hc
              · rename_i i z' hi hz
                split at hc
                · rename_i h0
                  simp at hc
                  obtain ⟨rfl, rfl, rfl, rfl, rfl⟩ := hc
                  obtain ⟨x, y, h1, h2, h3⟩ := opdsC_two hargs
                  exact ⟨t, e, i, x, y, rfl, hb, h1, hat, he, hi, rfl, rfl, h0, hz, h2, h3⟩
                · simp at hc
              · simp at hc
            · simp at hc
          · simp at hc
        · simp at hc
      · simp at hc
    | _ => first | exact hl.elim | (simp only [cop] at hc; (repeat' split at hc) <;> simp at hc)
  · have := cop_quiet hl hc
    cases this
section
variable {P : Program} {sb : Bool} {B : Base} {st : St} {K : St → Prop} {dst : Option Nat} {X Y : Opd} {id sz off len cp : Nat}
theorem XCall.clear {xs : List (List D)} (hok : oks st.env (.xop 10 [sz] [X]) = true) (hsb : sb = false) (hx : evS st.env X = .sl id sz off len cp) (hh : hget st.heap id = some (.blk sz xs))
    (h : K ⟨putO st.env dst .any, eput st.heap id (.blk sz (xs.take off ++ List.replicate len (anyRow sz) ++ xs.drop (off + (List.replicate len (anyRow sz)).length))), st.nx⟩) : XCall P sb B (.xop 10 [sz] [X]) dst st K := by
  intro o s Z a w K' Q hxc hd hdst hr hG
  subst hd
  obtain ⟨c, t, e, z, x, X', ho, hcal, hargs, hat, ht, hn, hz, h1, hxs⟩ := xcop_10 hxc
  simp only [List.cons.injEq, and_true] at hxs
  subst hxs
  have hv := hr.vr h1 (oks_mem hok (by simp [opnds]))
  rw [hx] at hv
  obtain ⟨g, n', cur, e', q, k1, k2, k3, k4, k5, k6, k7, k8, k9⟩ := blk_at hr.h hh hv
  obtain ⟨i, zv, hi, hz1, hz2, hz3, hz4⟩ := zero_one hz
  have hsz : z.length = sz := by
    unfold szT at hn
    rw [hi] at hn
    simp only [Option.map_some, Option.some.injEq] at hn
    omega
  obtain ⟨news, hnews⟩ : ∃ news, news = (Builtin.zeroCells zv.cells len).toList := ⟨_, rfl⟩
  have hnl : news.length = (List.replicate len (anyRow sz)).length * sz := by rw [hnews]; simp [size_zeroCells, hz3, hsz]
  have hone : ∀ u ∈ news, u.oneCell' = true := by rw [hnews]; exact zeroCells_one hz4
  have hcap0 : news ≠ [] → q = off * sz := fun hne => k6 (by
    rcases Nat.eq_zero_or_pos cp with h0 | h0
    · exfalso
      have hl0 : len = 0 := by omega
      subst hl0
      exact hne (List.eq_nil_of_length_eq_zero (by simpa using hnl))
    · exact h0)
  have hset : w.setCells g q news = w.setCells g (off * sz) news := by
    by_cases hne : news = []
    · rw [hne]; rfl
    · rw [hcap0 hne]
  have hfit : off + (List.replicate len (anyRow sz)).length ≤ xs.length := by rw [List.length_replicate]; omega
  have hst : (storeCells ⟨g, q, none⟩ news 0).run P w = .ok () (w.setCells g q news) := store_run k3 (fun hne => by
    rw [hcap0 hne, hnl, k4, ← Nat.add_mul]; exact Nat.mul_le_mul_right _ hfit) hone
  refine wp_value (v := .tuple #[]) (w' := w.setCells g (off * sz) news) ?_ ?_
  · unfold execOp; rw [ho]
    obtain ⟨cal, ars, ats⟩ := c
    obtain ⟨ars⟩ := ars
    obtain ⟨ats⟩ := ats
    simp only at hargs hat hcal
    subst hargs hat hcal
    rw [← hset]
    rcases Nat.eq_zero_or_pos len with h0 | h0
    · subst h0
      have hn0 : news = [] := List.eq_nil_of_length_eq_zero (by simpa using hnl)
      rw [hn0]
      simp [resolve, invoke, builtin, Builtin.clear_, run_underlying (sliceT_some ht), k5]
      rfl
    · obtain ⟨m, rfl⟩ : ∃ m, len = m + 1 := ⟨len - 1, by omega⟩
      rw [hnews] at hst ⊢
      simp [resolve, invoke, builtin, Builtin.clear_, run_underlying (sliceT_some ht), k5, zeroValue, typeInfo, hi, hz1, hst]
  · refine hG _ _ _ _ _ (fun hs => by rw [hsb] at hs; cases hs) h (hr.step hdst (fun _ _ => rfl) (fun _ _ _ h => h) (Nat.le_refl _) (v := .tuple #[]) (d := .any) trivial trivial ?_)
    exact hr.h.write hh k2 (Only.setCells g news (off * sz) w) (k9.paste k2 hnl hfit (fun row hr' => by rw [List.eq_of_mem_replicate hr']; simp [anyRow]) fun i row j d hi hj hd => absurd (anyRow_ne hi hj) hd) (paste_lt (hr.h.lt _ _ hh).2 anyRow_lt)
theorem WCall.appSl {xs ys : List (List D)} {bytes : Nat} {z : List D} (hok : oks st.env (.app sz bytes z X Y) = true) (hsb : sb = false) (hx : evS st.env X = .sl id sz off len cp) (hh : hget st.heap id = some (.blk sz xs)) (hy : srcD st.heap (evS st.env Y) = some (sz, ys))
    (hroom : len + ys.length ≤ cp) (hrow : ∀ row ∈ ys, row.length = sz) (hany : ∀ row ∈ ys, ∀ d ∈ row, d ≠ .any)
    (h : K ⟨putO st.env dst (.sl id sz off (len + ys.length) cp), eput st.heap id (.blk sz (xs.take (off + len) ++ ys ++ xs.drop (off + len + ys.length))), st.nx⟩) : WCall P sb B (.app sz bytes z X Y) dst st K := by
  intro o s Z a w K' Q hxc hd hdst hr hG
  subst hd
  obtain ⟨c, t, e, i, x, y, ho, hcal, hargs, hat, ht, hi, hi2, _, h0, hz, h1, h2⟩ := cop_app hxc
  have hg : ∀ x ∈ [X, Y], gS st.env x = true := fun x hx => oks_mem hok hx
  have hv := hr.vr h1 (hg _ (by simp))
  rw [hx] at hv
  obtain ⟨g, n', cur, e', q, k1, k2, k3, k4, k5, k6, k7, k8, k9⟩ := blk_at hr.h hh hv
  have hsrc := srcD_at hr.h (hr.vr h2 (hg _ (by simp))) hy
  have htk : ys.take ys.length = ys := List.take_length
  obtain ⟨sa, scap, news, m1, m2, m3, m4, m5⟩ := hsrc.news (P := P) ys.length (by rw [htk]; exact hrow) (by rw [htk]; exact hany)
  rw [htk] at m2 m3 m5
  have hcap0 : news ≠ [] → q = off * sz := fun hne => k6 (by
    rcases Nat.eq_zero_or_pos cp with h0 | h0
    · exfalso
      have : ys = [] := List.eq_nil_of_length_eq_zero (by omega)
      rw [this] at m2
      exact hne (List.eq_nil_of_length_eq_zero (by simpa using m2))
    · exact h0)
  have hset : w.setCells g (q + len * sz) news = w.setCells g ((off + len) * sz) news := by
    by_cases hne : news = []
    · rw [hne]; rfl
    · rw [hcap0 hne, Nat.add_mul]
  have hfit : off + len + ys.length ≤ xs.length := by omega
  have hst : (storeCells ⟨g, q + len * sz, none⟩ news 0).run P w = .ok () (w.setCells g (q + len * sz) news) := store_run k3 (fun hne => by
    rw [hcap0 hne, m2, k4, ← Nat.add_mul, ← Nat.add_mul]; exact Nat.mul_le_mul_right _ hfit) m4
  refine wp_value (v := .slice (some ⟨g, q, none⟩) (len + ys.length) cp) (w' := w.setCells g ((off + len) * sz) news) ?_ ?_
  · unfold execOp; rw [ho]
    obtain ⟨cal, ars, ats⟩ := c
    obtain ⟨ars⟩ := ars
    obtain ⟨ats⟩ := ats
    simp only at hargs hat hcal
    subst hargs hat hcal
    rw [← hset]
    rw [m1] at m3
    simp only [resolve, List.map_cons, List.map_nil, List.map_toArray, invoke, builtin, Sem.run_bind, Sem.run_pure, Result.andThen_ok, k5, m1]
    simp [Builtin.append_, run_underlying (sliceT_some ht), Builtin.lenOf, sizeOf, typeInfo, hi, hi2, hroom, m3, Addr.add_lit, hst]
  · refine hG _ _ _ _ _ (fun hs => by rw [hsb] at hs; cases hs) h (hr.step hdst (fun _ _ => rfl) (fun _ _ _ h => h) (Nat.le_refl _) (v := .slice (some ⟨g, q, none⟩) (len + ys.length) cp) (d := .sl id sz off (len + ys.length) cp) ?_ ?_ ?_)
    · exact ⟨g, n', xs.length, q, k1, rfl, k6, hroom, k8⟩
    · exact (hr.h.lt _ _ hh).1
    · exact hr.h.write hh k2 (Only.setCells g news ((off + len) * sz) w) (k9.paste k2 m2 hfit hrow fun i row j d hi hj _ => m5 i row j d hi hj) (paste_lt (hr.h.lt _ _ hh).2 hsrc.1)
end
end Go.Proofs.Ytfkeddefajkobaa

set_option linter.unusedSimpArgs false
set_option linter.unusedVariables false
namespace Go.Proofs.Ytfkeddefajkobaa
open Go.RowKit
section
variable {P : Program} {sb : Bool} {B : Base} {st : St} {K : St → Prop} {dst : Option Nat} {X Y : Opd} {id sz off len cp : Nat}
theorem XCall.appmake {xs : List (List D)} {bytes n : Nat} (hok : oks st.env (.xop 11 [sz, bytes] [X, Y]) = true) (hx : evS st.env X = .sl id sz off len cp) (hh : hget st.heap id = some (.blk sz xs)) (hy : evS st.env Y = .int .i64 (n : Nat))
    (hgrow : cp < len + n) (h0 : 0 < sz) (hby : 0 < bytes) (hbig : (len + n) * bytes ≤ 140737488355328)
    (h : ∀ k, K ⟨putO st.env dst (.sl st.nx sz 0 (len + n) (len + n + k)), eput st.heap st.nx (.blk sz ((xs.drop off).take len ++ List.replicate (n + k) (anyRow sz))), st.nx + 1⟩) : XCall P sb B (.xop 11 [sz, bytes] [X, Y]) dst st K := by
  intro o s Z a w K' Q hxc hd hdst hr hG
  subst hd
  obtain ⟨c, t, t', e, i, z, x, y, X', Y', ho, hcal, hargs, hat, ht', ht, hi, hi2, hi3, hz, h1, h2, hxs⟩ := xcop_11 hxc
  simp only [List.cons.injEq, and_true] at hxs
  obtain ⟨rfl, rfl⟩ := hxs
  have hg : ∀ x ∈ [X, Y], gS st.env x = true := fun x hx => oks_mem hok hx
  have hv := hr.vr h1 (hg _ (by simp))
  rw [hx] at hv
  have hvn := hr.vr h2 (hg _ (by simp))
  rw [hy] at hvn
  have hvn := hvn.int_inv
  obtain ⟨g, n', cur, e', q, k1, k2, k3, k4, k5, k6, k7, k8, k9⟩ := blk_at hr.h hh hv
  obtain ⟨i', zv, hi', hz1, hz2, hz3, hz4⟩ := zero_one hz
  rw [hi] at hi'
  simp only [Option.some.injEq] at hi'
  subst hi'
  obtain ⟨b1, b2, g', m', cur', e2, b3, b4, b5, b6, b7, b8⟩ := k9
  rw [k1] at b3
  simp only [Value.slice.injEq, Option.some.injEq, Addr.mk.injEq, and_true] at b3
  obtain ⟨rfl, rfl⟩ := b3
  rw [k3] at b4
  simp only [Option.some.injEq, Obj.cells.injEq, and_true] at b4
  obtain ⟨rfl, rfl⟩ := b4
  have hqo : 0 < len → q = off * sz := fun hl => k6 (by omega)
  obtain ⟨olds, holds⟩ : ∃ olds, olds = (cur.toList.drop (off * sz)).take (len * sz) := ⟨_, rfl⟩
  have hfit : off * sz + len * sz ≤ cur.size := by rw [k4, ← Nat.add_mul]; exact Nat.mul_le_mul_right _ (by omega)
  have hol : olds.length = len * sz := by rw [holds]; simp; omega
  have hold : (Builtin.firstCells sz len (.slice (some ⟨g, q, none⟩) len cp)).run P w.drew = .ok olds.toArray w.drew := by
    refine run_firstCells_some w.drew sz len ⟨g, q, none⟩ len cp olds hol (fun j v hj => ?_)
    have hjl : j < len * sz := by rw [← hol]; exact (List.getElem?_eq_some_iff.1 hj).1
    have hq := hqo (by
      rcases Nat.eq_zero_or_pos len with h0 | h0
      · rw [h0, Nat.zero_mul] at hjl; omega
      · exact h0)
    rw [add_mid', World.cell?_drew, cell_of_row w g _ cur e' (0, 0) k3]
    rw [holds, List.getElem?_take, if_pos hjl, List.getElem?_drop] at hj
    rw [hq]
    simpa using hj
  have hr0 := Lib.run_append_grow_zeros (P := P) w t t' o.type e i zv .i64 .i64 (sliceT_some ht) ht' hi hz1 (some ⟨g, q, none⟩) len cp olds (by rw [hi2]; exact hold) n (by omega) (by omega) hgrow (by
      have : (len + n) * 1 ≤ (len + n) * bytes := Nat.mul_le_mul_left _ hby
      omega) (by rw [hi3]; rw [Nat.add_mul] at hbig; omega) (by rw [hi3]; exact growslice_fits hgrow hbig)
  obtain ⟨gc, hgc⟩ : ∃ gc, gc = grownCap w (len + n) cp e := ⟨_, rfl⟩
  have hgc1 : len + n ≤ gc := by rw [hgc]; exact grownCap_ge ..
  have hgc2 : gc ≤ maxLen := by
    rw [hgc]; refine grownCap_le_maxLen _ _ _ _ ?_
    have : (len + n) * 1 ≤ (len + n) * bytes := Nat.mul_le_mul_left _ hby
    unfold maxLen; omega
  rw [← hgc] at hr0
  obtain ⟨k, rfl⟩ : ∃ k, gc = len + n + k := ⟨gc - (len + n), by omega⟩
  refine wp_value (v := .slice (some ⟨w.heap.size, 0, none⟩) (len + n) (len + n + k)) (w' := w.drew.alloc (.cells (olds.toArray ++ Builtin.zeroCells zv.cells n ++ Builtin.zeroCells zv.cells (len + n + k - (len + n))) e)) ?_ ?_
  · unfold execOp; rw [ho]
    obtain ⟨cal, ars, ats⟩ := c
    obtain ⟨ars⟩ := ars
    obtain ⟨ats⟩ := ats
    simp only at hargs hat hcal
    subst hargs hat hcal
    simp only [resolve, List.map_cons, List.map_nil, List.map_toArray, invoke, builtin, Sem.run_bind, Sem.run_pure, Result.andThen_ok, k5, hvn]
    simp [hr0]
  · have hbel : Below w.heap.size w (w.drew.alloc (.cells (olds.toArray ++ Builtin.zeroCells zv.cells n ++ Builtin.zeroCells zv.cells (len + n + k - (len + n))) e)) := ((Below.refl _ _).drew).alloc (Nat.le_refl _) _
    have hwlen : ((xs.drop off).take len).length = len := by rw [List.length_take, List.length_drop]; omega
    have hxl : ((xs.drop off).take len ++ List.replicate (n + k) (anyRow sz)).length = len + n + k := by rw [List.length_append, hwlen, List.length_replicate]; omega
    refine hG _ _ _ _ _ (fun _ => hbel) (h k) (hr.step hdst (upd_lt s st.nx _) (fun _ _ _ h => h) (by omega) (v := .slice (some ⟨w.heap.size, 0, none⟩) (len + n) (len + n + k)) ?_ ?_ (hr.h.new hbel (v := .slice (some ⟨w.heap.size, 0, none⟩) (len + n) (len + n + k)) ?_ ?_ (fun k' hk => ?_)))
    · exact ⟨w.heap.size, len + n, len + n + k, 0, upd_same _ _ _, rfl, fun _ => by simp, by omega, by omega⟩
    · exact Nat.lt_succ_self _
    · refine ⟨h0, fun row hr' => ?_, w.heap.size, len + n, _, e, by rw [hxl], heap_alloc_new w.drew _, by omega, by rw [hxl]; exact hgc2, ?_, fun i' row j d hi' hj hd => ?_⟩
      · rcases List.mem_append.1 hr' with hr' | hr'
        · exact b2 row (List.mem_of_mem_drop (List.mem_of_mem_take hr'))
        · rw [List.eq_of_mem_replicate hr']; simp [anyRow]
      · rw [hxl]
        simp only [Array.size_append, List.size_toArray, size_zeroCells, hz3, hol]
        rw [← hz2, hi2, ← Nat.add_mul, ← Nat.add_mul]; congr 1; omega
      · by_cases c1 : i' < len
        · rw [List.getElem?_append_left (by omega), List.getElem?_take, if_pos c1, List.getElem?_drop] at hi'
          have hjl : j < sz := by
            have := (List.getElem?_eq_some_iff.1 hj).1
            rwa [b2 _ (List.mem_of_getElem? hi')] at this
          have hlt : i' * sz + j < len * sz := by
            have : (i' + 1) * sz ≤ len * sz := Nat.mul_le_mul_right _ c1
            rw [Nat.add_mul, Nat.one_mul] at this; omega
          have h8 := b8 _ row j d hi' hj hd
          have e3 : (olds.toArray ++ Builtin.zeroCells zv.cells n ++ Builtin.zeroCells zv.cells (len + n + k - (len + n))).getD (i' * sz + j) undef = cur.getD ((off + i') * sz + j) undef := by
            rw [Array.getD_eq_getD_getElem?, Array.append_assoc, Array.getElem?_append_left (by simpa [hol] using hlt), Array.getD_eq_getD_getElem?]
            congr 1
            rw [List.getElem?_toArray, holds, List.getElem?_take, if_pos hlt, List.getElem?_drop, show off * sz + (i' * sz + j) = (off + i') * sz + j by rw [Nat.add_mul]; omega]
            simp
          rw [e3]
          exact VC.mono (fun _ _ _ h => h) (upd_lt s st.nx _) ((hr.h.lt _ _ hh).2 row (List.mem_of_getElem? hi') d (List.mem_of_getElem? hj)) h8
        · rw [List.getElem?_append_right (by omega)] at hi'
          exact absurd (anyRow_ne hi' hj) hd
    · intro row hr' d hd
      rcases List.mem_append.1 hr' with hr' | hr'
      · exact ((hr.h.lt _ _ hh).2 row (List.mem_of_mem_drop (List.mem_of_mem_take hr')) d hd).mono (Nat.le_succ _)
      · exact anyRow_lt row hr' d hd
    · simp only [blk] at hk
      split at hk
      · cases hk
      · cases hk; exact Nat.le_refl _
theorem WCall.overlaps {f : FuncId} {tS tR e : TypeId} {id1 sz1 : Nat} {zs xs : List (List D)} (hE : ∀ args w, (callFunc f args).run P w = ((Extern.SlicesOverlaps.overlaps #[tS, tS] #[tR] args).run P w).andThen fun v w' => .ok (.value v) w')
    (ht : P.underlying tS = some (.slice e)) (hsz : szT P e = some sz) (hok : oks st.env (.call f [X, Y]) = true) (hx : evS st.env X = .own id1) (hh1 : hget st.heap id1 = some (.row sz1 zs)) (hz0 : zs ≠ []) (hy : evS st.env Y = .sl id sz off len cp) (hh : hget st.heap id = some (.blk sz xs)) (hne : id1 ≠ id)
    (h : K ⟨putO st.env dst (.bool false), st.heap, st.nx⟩) : WCall P sb B (.call f [X, Y]) dst st K := by
  intro o s Z a w K' Q hcop hd hdst hr hG
  subst hd
  obtain ⟨⟨cal, ars, ats⟩, ho, hcl, hys⟩ := cop_call hcop
  obtain ⟨ars⟩ := ars
  simp only at hcl hys
  subst hcl
  obtain ⟨x, y, rfl, h1, h2⟩ := opdsC_two hys
  have hg : ∀ x ∈ [X, Y], gS st.env x = true := fun x hx => oks_mem hok hx
  have hvx := hr.vr h1 (hg _ (by simp))
  rw [hx] at hvx
  have hvy := hr.vr h2 (hg _ (by simp))
  rw [hy] at hvy
  obtain ⟨g, n', cur, e', q, k1, k2, k3, k4, k5, k6, k7, k8, k9⟩ := blk_at hr.h hh hvy
  have ho1 := hr.h.ob _ _ hh1
  obtain ⟨p1, p2, p3⟩ := (show RowOk (VT Z) w sz1 zs (s id1) from ho1)
  rcases p3 with ⟨rfl, _⟩ | ⟨g1, cap1, cur1, e1, p4, p5, p6, p7, p8, p9⟩
  · exact absurd rfl hz0
  have hzl : 0 < zs.length := List.length_pos_iff.2 hz0
  have hb1 : blk (s id1) = some g1 := by rw [p4]; simp only [blk]; rw [if_neg (by omega)]
  have hgg : g1 ≠ g := fun hh' => hr.h.apart id1 id _ _ g1 hh1 hh hne hb1 (by rw [k2, hh'])
  have hkB : cur.size ≠ 0 := by
    have hx0 : 0 < xs.length := k9.2.2.choose_spec.choose_spec.choose_spec.choose_spec.2.2.1
    have := Nat.mul_pos hx0 k9.1
    omega
  have hrun := Lib.run_overlaps_apart (P := P) w tS tR e ht sz (fun w => run_sizeOf' hsz w) ⟨g1, 0, none⟩ ⟨g, q, none⟩ zs.length cap1 len cp hgg e1 e' cur1.size cur.size (by simp [World.shape?, p5]) (by simp [World.shape?, k3]) hkB (frozen_of_row w g1 _ cur1 e1 p5) (frozen_of_row w g1 _ cur1 e1 p5)
  refine wp_value (v := .bool false) (w' := w) ?_ ?_
  · unfold execOp; rw [ho]
    have hE' := hE #[.slice (some ⟨g1, 0, none⟩) zs.length cap1, .slice (some ⟨g, q, none⟩) len cp] w
    rw [hrun] at hE'
    have hxv : a.eval x = .slice (some ⟨g1, 0, none⟩) zs.length cap1 := hvx.1.trans p4
    have hcf : a.eval (.func f) = .func (.func f) #[] #[] := rfl
    simpa [resolve, invoke, hcf, Deferred.ofValue, hxv, k5] using hE'
  · exact hG _ _ _ _ _ (fun _ => Below.refl _ _) h (hr.put hdst (VT.bool _) trivial)
end
section
variable {P : Program} {B : Base} {hw : List FuncId} {c : AC} {Q : Ex → St → Prop} {st : St}
/-- a slice of one's own is looked at as a window into its block -/
theorem W.openR {t id sz : Nat} {xs : List (List D)} (ht : eget st.env t = .own id) (hh : hget st.heap id = some (.row sz xs)) (h0 : xs ≠ [])
    (h : ∀ k, W P B hw c Q ⟨eput st.env t (.sl id sz 0 xs.length (xs.length + k)), eput st.heap id (.blk sz (xs ++ List.replicate k (anyRow sz))), st.nx⟩) : W P B hw c Q st := by
  intro hm code hc s Z a w hr
  have hv := hr.env t
  rw [ht] at hv
  obtain ⟨hv1, _⟩ := hv
  obtain ⟨p1, p2, p3⟩ := (show RowOk (VT Z) w sz xs (s id) from hr.h.ob _ _ hh)
  rcases p3 with ⟨rfl, _⟩ | ⟨g, cap, cur, e, p4, p5, p6, p7, p8, p9⟩
  · exact absurd rfl h0
  have hxl : 0 < xs.length := List.length_pos_iff.2 h0
  obtain ⟨k, rfl⟩ : ∃ k, cap = xs.length + k := ⟨cap - xs.length, by omega⟩
  have hb : blk (s id) = some g := by rw [p4]; simp only [blk]; rw [if_neg (by omega)]
  have hlen : (xs ++ List.replicate k (anyRow sz)).length = xs.length + k := by simp
  refine h k hm code hc s Z a w ⟨fun j => ?_, fun j => ?_, hr.size, hr.defers, ?_⟩
  · rw [eget_eput]
    split
    · rename_i ej
      subst ej
      rw [hv1]
      exact ⟨g, xs.length, xs.length + k, 0, p4, p4, fun _ => by simp, by omega, by omega⟩
    · exact hr.env j
  · rw [eget_eput]
    split
    · exact (hr.h.lt _ _ hh).1
    · exact hr.elt j
  · refine hr.h.write hh hb ⟨rfl, rfl, rfl, rfl, fun _ _ => rfl⟩ ?_ ?_
    · refine ⟨p1, fun row hr' => ?_, g, xs.length, cur, e, by rw [hlen]; exact p4, p5, by omega, by rw [hlen]; exact p7, by rw [hlen]; exact p8, fun i row j d hi hj hd => ?_⟩
      · rcases List.mem_append.1 hr' with hr' | hr'
        · exact p2 row hr'
        · rw [List.eq_of_mem_replicate hr']; simp [anyRow]
      · by_cases c1 : i < xs.length
        · rw [List.getElem?_append_left c1] at hi
          exact VC.of_vt (p9 i row j d hi hj)
        · rw [List.getElem?_append_right (by omega)] at hi
          exact absurd (anyRow_ne hi hj) hd
    · intro row hr' d hd
      rcases List.mem_append.1 hr' with hr' | hr'
      · obtain ⟨i, hi⟩ := List.getElem?_of_mem hr'
        obtain ⟨j, hj⟩ := List.getElem?_of_mem hd
        exact VT.ltN _ (p9 i row j d hi hj)
      · exact anyRow_lt row hr' d hd
/-- and a window on the head of a block as a slice of one's own again -/
theorem Gh.closeR {t id sz len : Nat} {xs : List (List D)} (ht : eget st.env t = .sl id sz 0 len xs.length) (hh : hget st.heap id = some (.blk sz xs)) (hT : ∀ row ∈ xs.take len, ∀ d ∈ row, isT d = true) :
    Gh B st ⟨eput st.env t (.own st.nx), eput (herase st.heap id) st.nx (.row sz (xs.take len)), st.nx + 1⟩ := by
  intro s Z a w hr
  have hv := hr.env t
  rw [ht] at hv
  obtain ⟨g, n', cur, e', q, k1, k2, k3, k4, k5, k6, k7, k8, k9⟩ := blk_at hr.h hh hv
  have hx0 : 0 < xs.length := k9.2.2.choose_spec.choose_spec.choose_spec.choose_spec.2.2.1
  have hq : q = 0 := by rw [k6 hx0]; simp
  subst hq
  obtain ⟨b1, b2, g', m', cur', e2, b3, b4, b5, b6, b7, b8⟩ := k9
  rw [k1] at b3
  simp only [Value.slice.injEq, Option.some.injEq, Addr.mk.injEq, and_true] at b3
  obtain ⟨rfl, rfl⟩ := b3
  rw [k3] at b4
  simp only [Option.some.injEq, Obj.cells.injEq, and_true] at b4
  obtain ⟨rfl, rfl⟩ := b4
  have hlen : (xs.take len).length = len := by rw [List.length_take]; omega
  have hH := hr.h.move (w' := w) (v := .slice (some ⟨g, 0, none⟩) len xs.length) (ob' := .row sz (xs.take len)) hh ⟨rfl, rfl, rfl, Nat.le_refl _, fun _ _ _ => rfl⟩ (by
    refine ⟨b1, fun row hr' => b2 row (List.mem_of_mem_take hr'), .inr ⟨g, xs.length, cur, e', by rw [hlen], k3, by rw [hlen]; exact k7, b6, b7, fun i row j d hi hj => ?_⟩⟩
    have hi' : xs[i]? = some row := by
      rw [List.getElem?_take] at hi
      split at hi
      · exact hi
      · cases hi
    have hd := hT row (List.mem_of_getElem? hi) d (List.mem_of_getElem? hj)
    exact VC.vt (b8 i row j d hi' hj (fun e => by rw [e] at hd; cases hd)) hd) trivial (fun k' hk => .inr (by
      simp only [blk] at hk
      rw [if_neg (by omega)] at hk
      rw [k2, ← hk]))
  refine ⟨_, Z, fun j => ?_, fun j => ?_, hr.size, hr.defers, hH⟩
  · rw [eget_eput]
    split
    · rename_i ej; subst ej; rw [k5]; exact ⟨(upd_same _ _ _).symm, .inl ⟨_, _, _, rfl⟩⟩
    · exact (hr.env j).mono (fun _ _ _ h => h) (upd_lt s st.nx _) (hr.elt j)
  · rw [eget_eput]
    split
    · exact Nat.lt_succ_self _
    · exact (hr.elt j).mono (Nat.le_succ _)
end
end Go.Proofs.Ytfkeddefajkobaa

