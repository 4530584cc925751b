/- This text proves, kind by kind, that an operation which changes nothing computes what the small machine of the text 'Abs' says. It has no condition of its own. -/
import Derived.Test.YtfkeddefajkobaaAbq
set_option linter.unusedSimpArgs false
set_option linter.unusedVariables false
namespace Go.Proofs.Ytfkeddefajkobaa
open Go.RowKit

/-- it reads memory -/
def isLd : Op → Bool
  | .load .. => true
  | _ => false
/-- a world in which an operation hands back the same -/
def Ok4 (w : World) (o : Oper) (w' : World) : Prop := More w w' ∨ isLd o.op = false
/-- one operation that changes nothing computes d -/
def Does (P : Program) (s : Nat → Value) (Z : Cells) (w : World) (ρ : Operand → Value) (o : Oper) (d : D) : Prop :=
  ∃ u, VR s Z d u ∧ ∀ w', Ok4 w o w' → (execOp ρ o).run P w' = .ok (.value u) w'
section
variable {P : Program} {s : Nat → Value} {Z : Cells} {H : List (Nat × Ob)} {w : World} {ρ : Operand → Value} {ev : Opd → D} {o : Oper}

theorem VR.int_inv {k : IntKind} {z : Int} {v : Value} (h : VR s Z (.int k z) v) : v = .int k z := by cases h; rfl
theorem VR.bool_inv {b : Bool} {v : Value} (h : VR s Z (.bool b) v) : v = .bool b := by cases h; rfl
theorem VR.str_inv {b : ByteArray} {v : Value} (h : VR s Z (.str b) v) : v = .string b := by cases h; rfl
theorem VR.agg_inv {ds : List D} {v : Value} (h : VR s Z (.agg ds) v) : ∃ vs : Array Value, v = .agg vs ∧ vs.size = ds.length ∧ ∀ j x, ds[j]? = some x → VC s Z x (vs.getD j undef) := h
theorem VR.tup_inv {ds : List D} {v : Value} (h : VR s Z (.tup ds) v) : ∃ vs : Array Value, v = .tuple vs ∧ vs.size = ds.length ∧ ∀ j x, ds[j]? = some x → VV s Z x (vs.getD j undef) := h
theorem VR.int_mk (k : IntKind) (z : Int) : VR s Z (.int k z) (.int k z) := VT.int k z
theorem VR.bool_mk (b : Bool) : VR s Z (.bool b) (.bool b) := VT.bool b
theorem does_of {d : D} (u : Value) (h : VR s Z d u) (hr : ∀ w', Ok4 w o w' → (execOp ρ o).run P w' = .ok (.value u) w') : Does P s Z w ρ o d := ⟨u, h, hr⟩

theorem does_mov {x : Operand} (ho : o.op = .move x ∨ o.op = .assign x) {d : D} (h : VR s Z d (ρ x)) : Does P s Z w ρ o d :=
  ⟨_, h, fun w' _ => by unfold execOp; rcases ho with ho | ho <;> rw [ho] <;> rfl⟩

theorem does_load {t : TypeId} {x : Operand} (ho : o.op = .load t x) {ag : Bool} {n : Nat} {y : Opd} (h1 : agT P t = some ag) (h2 : szT P t = some n) (hk : Know s Z H w) (hx : VR s Z (ev y) (ρ x)) {p : Prop} {d : D}
    (hq : qv ev H (.load ag n y) = some (p, d)) (hp : p) : Does P s Z w ρ o d := by
  obtain ⟨ds, p', hr, ht, hp'⟩ := reads_of hk hx rfl hq hp
  obtain ⟨u, hu, hrun⟩ := load_sound h1 h2 hr ht hp'
  exact ⟨u, hu, fun w' hm => by
    have hm : More w w' := hm.elim id (fun h => by rw [ho] at h; cases h)
    unfold execOp; rw [ho]; simp only [Sem.run_bind, hrun w' hm, Result.andThen_ok, Sem.run_pure]⟩

theorem does_nchk {x : Operand} (ho : o.op = .nilCheck x) {y : Opd} (hx : VR s Z (ev y) (ρ x)) {p : Prop} {d : D} (hq : qv ev H (.nchk y) = some (p, d)) : Does P s Z w ρ o d := by
  simp only [qv] at hq
  generalize ev y = e at *
  generalize hρ : ρ x = v at *
  cases e <;> simp only [Option.some.injEq, Prod.mk.injEq, reduceCtorEq] at hq
  all_goals
    obtain ⟨_, rfl⟩ := hq
    refine ⟨v, hx, fun w' _ => ?_⟩
    unfold execOp; rw [ho]
  · cases hx with | pc _ b off c _ _ => simp only [hρ, Sem.run_pure]
  · cases hx with | fn _ _ vs _ _ => simp only [hρ, Sem.run_pure]
  · obtain ⟨b, _, rfl⟩ := hx; simp only [hρ, Sem.run_pure]
  · obtain ⟨b, _, _, _, rfl⟩ := hx; simp only [hρ, Sem.run_pure]

theorem wrap_in {z : Int} (h : InR z) : IntKind.i64.wrap z = z := IntWalk.i64_in _ h
theorem arith_run {k : IntKind} {z : Int} {p : Prop} {d : D} (h : arith k z = some (p, d)) (hp : p) : VR s Z d (.int k (k.wrap z)) := by
  unfold arith at h
  split at h <;> (simp only [Option.some.injEq, Prod.mk.injEq] at h; obtain ⟨rfl, rfl⟩ := h)
  · rw [wrap_in hp]; exact VR.int_mk _ _
  · exact VR.int_mk _ _

theorem does_bin {op : BinOp} {t t' : TypeId} {x y : Operand} (ho : o.op = .binOp op t x y t') {X Y : Opd} (hx : VR s Z (ev X) (ρ x)) (hy : VR s Z (ev Y) (ρ y)) {p : Prop} {d : D}
    (hq : qv ev H (.bin op X Y) = some (p, d)) (hp : p) : Does P s Z w ρ o d := by
  simp only [qv] at hq
  generalize ev X = e at *
  generalize ev Y = f at *
  cases e with
  | int k a =>
    cases f with
    | int k' b =>
      have hx := hx.int_inv
      have hy := hy.int_inv
      have hg : ∀ w', (eqGuard op t x y (.int k a) (.int k' b)).run P w' = .ok () w' := fun w' => by cases op <;> simp [eqGuard]
      have key : ∀ u, (∀ w', (binOp op t (.int k a) (.int k' b)).run P w' = .ok u w') → VR s Z d u → Does P s Z w ρ o d := fun u hu hv => ⟨u, hv, fun w' _ => by
        unfold execOp; rw [ho]; simp only [Sem.run_bind, hx, hy, hg w', Result.andThen_ok, hu w', Sem.run_pure]⟩
      simp only [binD] at hq
      cases op <;> simp only at hq
      case shl =>
        split at hq <;> simp only [Option.some.injEq, Prod.mk.injEq, reduceCtorEq] at hq
        rename_i q e he
        obtain ⟨rfl, rfl⟩ := hq
        refine key _ (fun w' => ?_) (arith_run he hp.2)
        have : ¬ b < 0 := by omega
        simp [binOp, Op.shift, this]
      case shr =>
        simp only [Option.some.injEq, Prod.mk.injEq] at hq
        obtain ⟨rfl, rfl⟩ := hq
        refine key _ (fun w' => ?_) (VR.int_mk k _)
        have : ¬ b < 0 := by omega
        simp [binOp, Op.shift, this]
        exact Int.fdiv_eq_ediv_of_nonneg _ (by exact_mod_cast Nat.zero_le _)
      all_goals
        split at hq
        case isFalse => cases hq
        rename_i hkk
        subst hkk
        try simp only [Option.some.injEq, Prod.mk.injEq, reduceCtorEq] at hq
      case int.int.add.isTrue => exact key _ (fun w' => by simp [binOp, Op.intArith]) (arith_run hq hp)
      case int.int.sub.isTrue => exact key _ (fun w' => by simp [binOp, Op.intArith]) (arith_run hq hp)
      case int.int.mul.isTrue => exact key _ (fun w' => by simp [binOp, Op.intArith]) (arith_run hq hp)
      case int.int.quo.isTrue =>
        split at hq <;> simp only [Option.some.injEq, Prod.mk.injEq, reduceCtorEq] at hq
        rename_i q e he
        obtain ⟨rfl, rfl⟩ := hq
        refine key _ (fun w' => ?_) (arith_run he hp.2)
        have : ¬ b = 0 := by omega
        simp [binOp, Op.intDiv, this]
        rw [Int.tdiv_eq_ediv_of_nonneg (by omega)]
      case int.int.rem.isTrue =>
        obtain ⟨rfl, rfl⟩ := hq
        refine key _ (fun w' => ?_) (VR.int_mk k _)
        have hb0 : ¬ b = 0 := by omega
        have hm : Int.tmod a b = if 0 ≤ a then a % b else -(-a % b) := by
          by_cases h0 : 0 ≤ a
          · rw [if_pos h0, Int.tmod_eq_emod_of_nonneg h0]
          · rw [if_neg h0, ← Int.tmod_eq_emod_of_nonneg (show 0 ≤ -a by omega), Int.neg_tmod, Int.neg_neg]
        simp [binOp, Op.intDiv, hb0]
        rw [hm]
      case int.int.and.isTrue => obtain ⟨rfl, rfl⟩ := hq; exact key _ (fun w' => by simp only [binOp, ne_eq, not_true_eq_false, if_false, Op.intBits]; rfl) (VR.int_mk k _)
      case int.int.or.isTrue => obtain ⟨rfl, rfl⟩ := hq; exact key _ (fun w' => by simp only [binOp, ne_eq, not_true_eq_false, if_false, Op.intBits]; rfl) (VR.int_mk k _)
      case int.int.xor.isTrue => obtain ⟨rfl, rfl⟩ := hq; exact key _ (fun w' => by simp only [binOp, ne_eq, not_true_eq_false, if_false, Op.intBits]; rfl) (VR.int_mk k _)
      case int.int.eql.isTrue => obtain ⟨rfl, rfl⟩ := hq; exact key _ (fun w' => by simp [binOp, Op.intCmp]; rfl) (VR.bool_mk _)
      case int.int.neq.isTrue => obtain ⟨rfl, rfl⟩ := hq; exact key _ (fun w' => by simp [binOp, Op.intCmp]; rfl) (VR.bool_mk _)
      case int.int.lss.isTrue => obtain ⟨rfl, rfl⟩ := hq; exact key _ (fun w' => by simp [binOp, Op.intCmp]) (VR.bool_mk _)
      case int.int.leq.isTrue => obtain ⟨rfl, rfl⟩ := hq; exact key _ (fun w' => by simp [binOp, Op.intCmp]) (VR.bool_mk _)
      case int.int.gtr.isTrue => obtain ⟨rfl, rfl⟩ := hq; exact key _ (fun w' => by simp [binOp, Op.intCmp]) (VR.bool_mk _)
      case int.int.geq.isTrue => obtain ⟨rfl, rfl⟩ := hq; exact key _ (fun w' => by simp [binOp, Op.intCmp]) (VR.bool_mk _)
    | _ => cases hq
  | str a =>
    cases f with
    | str b =>
      have hx := hx.str_inv
      have hy := hy.str_inv
      have hg : ∀ w', (eqGuard op t x y (.string a) (.string b)).run P w' = .ok () w' := fun w' => by cases op <;> simp [eqGuard]
      have key : ∀ u, (∀ w', (binOp op t (.string a) (.string b)).run P w' = .ok u w') → VR s Z d u → Does P s Z w ρ o d := fun u hu hv => ⟨u, hv, fun w' _ => by
        unfold execOp; rw [ho]; simp only [Sem.run_bind, hx, hy, hg w', Result.andThen_ok, hu w', Sem.run_pure]⟩
      simp only [binD] at hq
      cases op <;> simp only [Option.some.injEq, Prod.mk.injEq, reduceCtorEq] at hq
      case eql => obtain ⟨rfl, rfl⟩ := hq; exact key _ (fun w' => by simp only [binOp, Op.stringOp, Sem.run_pure]) (VR.bool_mk _)
      case neq => obtain ⟨rfl, rfl⟩ := hq; exact key _ (fun w' => by simp only [binOp, Op.stringOp, Sem.run_pure]) (VR.bool_mk _)
    | _ => cases hq
  | _ => cases hq

theorem does_eqb {t t' : TypeId} {x y : Operand} (ne : Bool) (ho : o.op = .binOp (if ne then .neq else .eql) t x y t') (ht : P.underlying t = some .bool) {X Y : Opd} (hx : VR s Z (ev X) (ρ x)) (hy : VR s Z (ev Y) (ρ y)) {p : Prop} {d : D}
    (hq : qv ev H (.eqb ne X Y) = some (p, d)) : Does P s Z w ρ o d := by
  simp only [qv] at hq
  generalize ev X = e at *
  generalize ev Y = f at *
  cases e with
  | bool a =>
    cases f with
    | bool b =>
      have hx := hx.bool_inv
      have hy := hy.bool_inv
      simp only [Option.some.injEq, Prod.mk.injEq] at hq
      obtain ⟨_, rfl⟩ := hq
      refine ⟨_, VR.bool_mk _, fun w' _ => ?_⟩
      unfold execOp; rw [ho]
      cases ne
      · simp [eqGuard, hx, hy, binOp, Op.equal, Op.maxDepth, run_equalIn_bool w' _ t a b ht]; rfl
      · simp [eqGuard, hx, hy, binOp, Op.equal, Op.maxDepth, run_equalIn_bool w' _ t a b ht]; rfl
    | _ => cases hq
  | _ => cases hq

theorem isP_inv {d : D} {b : Bool} {v : Value} (h : isP d = some b) (hv : VR s Z d v) : (b = true → v = .pointer none) ∧ (b = false → ∃ a, v = .pointer (some a)) := by
  cases d <;> simp only [isP, Option.some.injEq, reduceCtorEq] at h <;> subst h
  · cases hv; exact ⟨fun _ => rfl, fun h => by cases h⟩
  · cases hv; exact ⟨fun h => (by cases h), fun _ => ⟨_, rfl⟩⟩
  · obtain ⟨b, _, rfl⟩ := hv; exact ⟨fun h => (by cases h), fun _ => ⟨_, rfl⟩⟩
  · obtain ⟨b, _, _, _, rfl⟩ := hv; exact ⟨fun h => (by cases h), fun _ => ⟨_, rfl⟩⟩

theorem run_equalIn_nil {t e : TypeId} (ht : P.underlying t = some (.pointer e)) (n : Nat) (a b : Option Addr) (h : a = none ∨ b = none) (w : World) :
    (Op.equalIn (n + 1) t (.pointer a) (.pointer b)).run P w = .ok (a.isNone && b.isNone) w := by
  rcases h with rfl | rfl
  · simp [Op.equalIn, run_underlying ht]
  · cases a <;> simp [Op.equalIn, run_underlying ht]

theorem does_eqp {t t' e : TypeId} {x y : Operand} (ne : Bool) (ho : o.op = .binOp (if ne then .neq else .eql) t x y t') (ht : P.underlying t = some (.pointer e)) {X Y : Opd} (hx : VR s Z (ev X) (ρ x)) (hy : VR s Z (ev Y) (ρ y)) {p : Prop} {d : D}
    (hq : qv ev H (.eqp ne X Y) = some (p, d)) (hp : p) : Does P s Z w ρ o d := by
  simp only [qv] at hq
  split at hq <;> simp only [Option.some.injEq, Prod.mk.injEq, reduceCtorEq] at hq
  rename_i a b ha hb
  obtain ⟨rfl, rfl⟩ := hq
  obtain ⟨h1, h2⟩ := isP_inv ha hx
  obtain ⟨h3, h4⟩ := isP_inv hb hy
  have hvx : ∃ q : Option Addr, ρ x = .pointer q ∧ (a = q.isNone) := by
    cases a
    · obtain ⟨q, hq⟩ := h2 rfl; exact ⟨some q, hq, rfl⟩
    · exact ⟨none, h1 rfl, rfl⟩
  have hvy : ∃ q : Option Addr, ρ y = .pointer q ∧ (b = q.isNone) := by
    cases b
    · obtain ⟨q, hq⟩ := h4 rfl; exact ⟨some q, hq, rfl⟩
    · exact ⟨none, h3 rfl, rfl⟩
  obtain ⟨q, hqx, rfl⟩ := hvx
  obtain ⟨r, hry, rfl⟩ := hvy
  have hn : q = none ∨ r = none := by
    cases q <;> cases r <;> simp at hp ⊢
  refine ⟨_, VR.bool_mk _, fun w' _ => ?_⟩
  unfold execOp; rw [ho]
  have he := run_equalIn_nil (P := P) ht 9999 q r hn w'
  cases ne
  · simp [eqGuard, hqx, hry, binOp, Op.equal, Op.maxDepth, he]
  · simp [eqGuard, hqx, hry, binOp, Op.equal, Op.maxDepth, he]

theorem does_not {t : TypeId} {x : Operand} (ho : o.op = .unOp .not t x) {X : Opd} (hx : VR s Z (ev X) (ρ x)) {p : Prop} {d : D} (hq : qv ev H (.not X) = some (p, d)) : Does P s Z w ρ o d := by
  simp only [qv] at hq
  generalize ev X = e at *
  cases e <;> simp only [Option.some.injEq, Prod.mk.injEq, reduceCtorEq] at hq
  obtain ⟨_, rfl⟩ := hq
  refine ⟨_, VR.bool_mk _, fun w' _ => ?_⟩
  unfold execOp; rw [ho]; simp [hx.bool_inv, Op.unary]
theorem does_neg {t : TypeId} {x : Operand} (ho : o.op = .unOp .neg t x) {X : Opd} (hx : VR s Z (ev X) (ρ x)) {p : Prop} {d : D} (hq : qv ev H (.neg X) = some (p, d)) (hp : p) : Does P s Z w ρ o d := by
  simp only [qv] at hq
  generalize ev X = e at *
  cases e <;> simp only [reduceCtorEq] at hq
  rename_i k z
  refine ⟨_, arith_run hq hp, fun w' _ => ?_⟩
  unfold execOp; rw [ho]; simp [hx.int_inv, Op.unary, Op.intArith]
theorem does_conv {t t' : TypeId} {x : Operand} {k : IntKind} (ho : o.op = .convert t' t x) (ht : P.underlying t = some (.int k)) {X : Opd} (hx : VR s Z (ev X) (ρ x)) {p : Prop} {d : D}
    (hs : (P.underlying t').isSome = true) (hq : qv ev H (.conv k X) = some (p, d)) (hp : p) : Does P s Z w ρ o d := by
  simp only [qv] at hq
  generalize ev X = e at *
  cases e <;> simp only [reduceCtorEq] at hq
  rename_i k' z
  obtain ⟨td, htd⟩ := Option.isSome_iff_exists.1 hs
  refine ⟨_, arith_run hq hp, fun w' _ => ?_⟩
  unfold execOp; rw [ho]
  simp only [convert, Sem.run_bind, run_underlying ht, run_underlying htd, Result.andThen_ok, hx.int_inv, Conv.intToInt, Sem.run_pure]
theorem does_ext {x : Operand} {i : Nat} (ho : o.op = .extract x i) {X : Opd} (hx : VR s Z (ev X) (ρ x)) {p : Prop} {d : D} (hq : qv ev H (.ext X i) = some (p, d)) (hp : p) : Does P s Z w ρ o d := by
  simp only [qv] at hq
  generalize ev X = e at *
  cases e <;> simp only [Option.some.injEq, Prod.mk.injEq, reduceCtorEq] at hq
  rename_i ds
  obtain ⟨rfl, rfl⟩ := hq
  obtain ⟨vs, hv, hl, hc⟩ := hx.tup_inv
  have hi : i < vs.size := by omega
  refine ⟨vs.getD i undef, ?_, fun w' _ => ?_⟩
  · have : ds[i]? = some (ds.getD i .any) := by rw [List.getD_eq_getElem?_getD, List.getElem?_eq_getElem hp]; rfl
    exact VR.of_vv (hc i _ this)
  · unfold execOp; rw [ho]
    simp only [Sem.run_bind, Instr.extract, hv, Array.getElem?_eq_getElem hi, Sem.run_pure, Result.andThen_ok]
    simp [Array.getD, hi]
end
end Go.Proofs.Ytfkeddefajkobaa
