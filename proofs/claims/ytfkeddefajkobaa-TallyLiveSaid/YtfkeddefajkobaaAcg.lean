/- This text proves that a list of operations in the order of the text does what the small machine says ('aops_sound'). It has no condition of its own. -/
import Derived.Test.YtfkeddefajkobaaAcf
set_option linter.unusedSimpArgs false
set_option linter.unusedVariables false
namespace Go.Proofs.Ytfkeddefajkobaa
open Go.RowKit

section
variable {P : Program} {sb : Bool} {B : Base} {w w' : World} {s : Nat → Value} {Z : Cells} {st : St} {a : Act} {o : Oper} {K : St → Prop} {K' : Act → World → Prop} {Q : Exit → Act → World → Prop}

theorem opdsC_mem : ∀ (xs : List Operand) (ys : List Opd), opdsC xs = some ys → ∀ y ∈ ys, ∃ x, opdC x = some y
  | [], ys, h, y, hy => by simp only [opdsC, Option.some.injEq] at h; subst h; cases hy
  | x :: xs, ys, h, y, hy => by
    simp only [opdsC] at h
    split at h <;> simp only [Option.some.injEq, reduceCtorEq] at h
    rename_i z zs h1 h2
    subst h
    rcases List.mem_cons.1 hy with rfl | hy
    · exact ⟨x, h1⟩
    · exact opdsC_mem xs zs h2 y hy
theorem partsC_mem {t : TypeId} : ∀ (ps : List (Nat × Operand)) (qs : List (Nat × Nat × Opd)), partsC P t ps = some qs → ∀ q ∈ qs, ∃ x, opdC x = some q.2.2
  | [], qs, h, q, hq => by simp only [partsC, Option.some.injEq] at h; subst h; cases hq
  | (i, x) :: ps, qs, h, q, hq => by
    simp only [partsC] at h
    split at h <;> simp only [Option.some.injEq, reduceCtorEq] at h
    rename_i o n z zs h1 h2 h3
    subst h
    rcases List.mem_cons.1 hq with rfl | hq
    · exact ⟨x, h2⟩
    · exact partsC_mem ps zs h3 q hq
theorem optC_mem {x : Option Operand} {X : Option Opd} (h : optC x = some X) : ∀ y ∈ X.toList, ∃ z, opdC z = some y := by
  cases x with
  | none => simp only [optC, Option.some.injEq] at h; subst h; intro y hy; cases hy
  | some x =>
    simp only [optC] at h
    cases hx : opdC x with
    | none => rw [hx] at h; cases h
    | some Y => rw [hx] at h; simp only [Option.map_some, Option.some.injEq] at h; subst h; intro y hy; simp at hy; subst hy; exact ⟨x, hx⟩
theorem mem1 {x y : Opd} {X : Operand} (h : opdC X = some x) (hy : y ∈ [x]) : ∃ z, opdC z = some y := by simp at hy; subst hy; exact ⟨X, h⟩
theorem mem2 {x x' y : Opd} {X X' : Operand} (h : opdC X = some x) (h' : opdC X' = some x') (hy : y ∈ [x, x']) : ∃ z, opdC z = some y := by
  simp at hy
  rcases hy with rfl | rfl
  · exact ⟨X, h⟩
  · exact ⟨X', h'⟩
theorem cop_opnds {o : Op} {ao : AOp} (hc : cop P o = some ao) (hq : isLoud ao = false) : ∀ y ∈ opnds ao, ∃ x, opdC x = some y := by
  intro y hy
  cases o with
  | move x => simp only [cop] at hc; simp at hc; obtain ⟨z, hz, rfl⟩ := hc; exact mem1 hz hy
  | assign x => simp only [cop] at hc; simp at hc; obtain ⟨z, hz, rfl⟩ := hc; exact mem1 hz hy
  | pick c a b =>
    simp only [cop] at hc
    split at hc <;> simp at hc
    subst hc; cases hy
  | alloc t => simp only [cop] at hc; simp at hc; obtain ⟨z, hz, rfl⟩ := hc; cases hq
  | box t x => simp only [cop] at hc; simp at hc; obtain ⟨z, hz, rfl⟩ := hc; cases hq
  | build t ps =>
    simp only [cop] at hc
    split at hc
    case h_2 => cases hc
    rename_i z qs hz hqs
    split at hc <;> simp at hc
    subst hc
    obtain ⟨q, hq', rfl⟩ := List.mem_map.1 hy
    exact partsC_mem _ _ hqs q hq'
  | buildSlice t n ps =>
    simp only [cop] at hc
    split at hc
    · split at hc
      · split at hc <;> simp at hc
        subst hc; cases hq
      · cases hc
    · cases hc
  | load t x =>
    simp only [cop] at hc
    split at hc <;> simp at hc
    rename_i h3
    subst hc; exact mem1 h3 hy
  | store t x y =>
    simp only [cop] at hc
    split at hc <;> simp at hc
    subst hc; cases hq
  | nilCheck x => simp only [cop] at hc; simp at hc; obtain ⟨z, hz, rfl⟩ := hc; exact mem1 hz hy
  | binOp op t x z t' =>
    simp only [cop] at hc
    split at hc
    case h_2 => cases hc
    rename_i X Y hX hY
    have he : ∀ ne, eqC P t ne X Y = some ao → ∃ x, opdC x = some y := fun ne h => by
      unfold eqC at h
      split at h <;> (try split at h) <;> simp at h <;> first | (subst h; exact mem2 hX hY hy) | (subst h; exact mem1 hX hy) | (obtain ⟨_, _, rfl⟩ := h; exact mem2 hX hY hy)
    cases op <;> simp only [Option.some.injEq] at hc <;> first | exact he _ hc | (subst hc; exact mem2 hX hY hy)
  | unOp op t x =>
    simp only [cop] at hc
    cases op <;> simp at hc <;> (obtain ⟨z, hz, rfl⟩ := hc; exact mem1 hz hy)
  | convert u t x =>
    simp only [cop] at hc
    split at hc
    · simp at hc; obtain ⟨z, hz, rfl⟩ := hc; exact mem1 hz hy
    · cases hc
  | makeFunc fn l cs =>
    simp only [cop] at hc
    cases fn <;> simp only [reduceCtorEq] at hc
    split at hc <;> simp at hc
    obtain ⟨z, hz, rfl⟩ := hc; exact opdsC_mem _ _ hz y hy
  | makeSlice t l c =>
    simp only [cop] at hc
    split at hc
    · split at hc
      · split at hc <;> simp at hc
        subst hc; cases hq
      · cases hc
    · cases hc
  | slice t x lo hi mx =>
    simp only [cop] at hc
    split at hc
    case h_2 => cases hc
    split at hc
    case h_2 => cases hc
    rename_i n X LO HI MX hn hX hLO hHI hMX
    split at hc <;> simp at hc
    subst hc
    rcases List.mem_cons.1 hy with rfl | hy
    · exact ⟨x, hX⟩
    · rcases List.mem_append.1 hy with hy | hy
      · exact optC_mem hLO y hy
      · rcases List.mem_append.1 hy with hy | hy
        · exact optC_mem hHI y hy
        · exact optC_mem hMX y hy
  | fieldAddr t x i =>
    simp only [cop] at hc
    split at hc
    case h_2 => cases hc
    split at hc
    case h_2 => cases hc
    split at hc
    case h_2 => cases hc
    rename_i hX
    split at hc <;> simp at hc
    subst hc; exact mem1 hX hy
  | field t x i =>
    simp only [cop] at hc
    split at hc
    case h_2 => cases hc
    split at hc
    case h_2 => cases hc
    split at hc
    case h_2 => cases hc
    rename_i hX
    simp at hc
    subst hc; exact mem1 hX hy
  | indexAddr t x i =>
    simp only [cop] at hc
    split at hc
    · rename_i hX hI
      simp at hc; obtain ⟨_, _, rfl⟩ := hc; exact mem2 hX hI hy
    · rename_i hX hI
      simp at hc; obtain ⟨_, _, rfl⟩ := hc; exact mem2 hX hI hy
    · cases hc
  | index t x i =>
    simp only [cop] at hc
    split at hc
    case h_2 => cases hc
    rename_i hX hI
    split at hc <;> simp at hc
    subst hc; exact mem2 hX hI hy
  | extract x i => simp only [cop] at hc; simp at hc; obtain ⟨z, hz, rfl⟩ := hc; exact mem1 hz hy
  | call c =>
    simp only [cop] at hc
    split at hc
    · split at hc <;> simp at hc <;> (subst hc; cases hq)
    · split at hc
      · rename_i hx hat
        have hm := opdsC_mem c.args.toList _ (by assumption)
        split at hc
        · simp at hc; subst hc; exact hm y hy
        · simp at hc; subst hc; cases hy
        · split at hc <;> simp at hc
          subst hc; cases hy
        · cases hc
      · rename_i hx
        simp at hc; subst hc; exact opdsC_mem c.args.toList _ (by assumption) y hy
      · rename_i hx
        simp at hc; subst hc; exact opdsC_mem c.args.toList _ (by assumption) y hy
      · split at hc
        · split at hc
          · split at hc
            · split at hc <;> simp at hc
              subst hc; cases hq
            · cases hc
          · cases hc
        · cases hc
      · cases hc
    · cases hc
  | _ => cases hc
theorem Goes.skip (h : Rel B s Z st a w) (hdst : ∀ d, o.dst = some d → d < B.N) (hG : Goes sb B w K K') (hK : K ⟨putO st.env o.dst (.opt false .any), st.heap, st.nx⟩) : K' (a.put o.dst undef) w :=
  hG _ _ _ _ _ (fun _ => Below.refl _ _) hK (h.put hdst ⟨(fun h => by cases h), fun _ => rfl⟩ (fun h => by cases h))

/-- a truth value picked -/
theorem does_pick {c x y : Operand} (ho : o.op = .pick c x y) {X Y : D} {b : Bool} (hc : a.eval c = .bool b) {p : Prop} {d : D} (hp : pickV b X Y = some (p, d)) (hpp : p) (hx : b = true → VR s Z X (a.eval x)) (hy : b = false → VR s Z Y (a.eval y)) : ∃ u, VR s Z d u ∧ LtR 0 d ∧ ∀ w, (execOp a.eval o).run P w = .ok (.value u) w := by
  have fin : ∀ q : Bool, (a.eval (if b then x else y)) = .bool q → ∃ u, VR s Z (.bool q) u ∧ LtR 0 (.bool q) ∧ ∀ w, (execOp a.eval o).run P w = .ok (.value u) w := fun q hq => by
    refine ⟨_, VR.bool_mk _, trivial, fun w => ?_⟩
    unfold execOp; rw [ho]
    simp only [Sem.run_bind, hc, asBool, Sem.run_pure, Result.andThen_ok]
    cases b
    · simp only [Bool.false_eq_true, if_false] at hq ⊢; rw [hq]
    · simp only [if_true] at hq ⊢; rw [hq]
  unfold pickV at hp
  split at hp
  · simp only [Option.some.injEq, Prod.mk.injEq] at hp
    obtain ⟨_, rfl⟩ := hp
    cases b
    · exact fin _ (hy rfl).bool_inv
    · exact fin _ (hx rfl).bool_inv
  · simp only [Option.some.injEq, Prod.mk.injEq] at hp
    obtain ⟨rfl, rfl⟩ := hp
    subst hpp
    exact fin _ (hx rfl).bool_inv
  · simp only [Option.some.injEq, Prod.mk.injEq] at hp
    obtain ⟨rfl, rfl⟩ := hp
    subst hpp
    exact fin _ (hy rfl).bool_inv
  · cases hp

/-- what an operation that changes nothing leaves in its slot -/
theorem quiet_val (h : Rel B s Z st a w) {ao : AOp} (hc : cop P o.op = some ao) {p : Prop} {d : D} (hq : qv (evS st.env) st.heap ao = some (p, d)) (hok : oks st.env ao = true) (hp : p) :
    ∃ u, VR s Z d u ∧ LtR st.nx d ∧ ∀ w', Ok4 w o w' → (execOp a.eval o).run P w' = .ok (.value u) w' := by
  have hcg : qv (evE st.env) st.heap ao = some (p, d) := by rw [← hq]; exact qv_congr fun x hx => evE_ok (oks_mem hok hx)
  obtain ⟨u, hu, hr⟩ := qv_sound (P := P) (o := o) h.h.know h.evE hc hcg hp
  have hnl : isLoud ao = false := by cases ao <;> first | rfl | cases hq
  refine ⟨u, hu, ?_, hr⟩
  refine qv_lt (P := P) (s := s) (Z := Z) h.h.know (fun id ob hh => (h.h.lt id ob hh).2) hc (fun x hx => ?_) (fun x hx => ?_) hcg hp
  · obtain ⟨y, hy⟩ := cop_opnds hc hnl x hx
    rw [evE_ok (oks_mem hok hx)]
    exact h.lr hy (oks_mem hok hx)
  · obtain ⟨y, hy⟩ := cop_opnds hc hnl x hx
    exact ⟨_, h.evE y x hy⟩

theorem eqC_no_pick {t : TypeId} {ne : Bool} {x y c d e : Opd} (h : eqC P t ne x y = some (.pick c d e)) : False := by
  unfold eqC at h
  split at h <;> (try split at h) <;> simp at h
theorem cop_no_pick {o : Op} {c x y : Opd} (hn : ∀ C X Y, o ≠ .pick C X Y) (hc : cop P o = some (.pick c x y)) : False := by
  cases o with
  | pick C X Y => exact hn C X Y rfl
  | binOp op t x y t' =>
    simp only [cop] at hc
    split at hc
    · cases op <;> simp only [Option.some.injEq, reduceCtorEq] at hc <;> exact eqC_no_pick hc
    · cases hc
  | makeFunc fn l cs =>
    simp only [cop] at hc
    cases fn <;> simp only [reduceCtorEq] at hc
    split at hc <;> simp at hc
  | unOp op t x =>
    simp only [cop] at hc
    cases op <;> simp at hc
  | call c =>
    simp only [cop] at hc
    split at hc
    · split at hc <;> simp at hc
    · split at hc
      · split at hc
        · simp at hc
        · simp at hc
        · split at hc <;> simp at hc
        · cases hc
      · simp at hc
      · simp at hc
      · split at hc
        · split at hc
          · split at hc
            · split at hc <;> simp at hc
            · cases hc
          · cases hc
        · cases hc
      · cases hc
    · cases hc
  | buildSlice t n qs =>
    simp only [cop] at hc
    split at hc
    · split at hc
      · split at hc <;> simp at hc
      · cases hc
    · cases hc
  | slice t x lo hi mx =>
    simp only [cop] at hc
    split at hc
    · split at hc
      · split at hc <;> simp at hc
      · cases hc
    · cases hc
  | fieldAddr t x i =>
    simp only [cop] at hc
    split at hc
    · split at hc
      · split at hc
        · split at hc <;> simp at hc
        · cases hc
      · cases hc
    · cases hc
  | _ => simp only [cop] at hc; first | (cases hc; done) | (simp at hc; done) | (split at hc <;> first | (simp at hc; done) | (split at hc <;> first | (simp at hc; done) | (split at hc <;> first | (simp at hc; done) | (split at hc <;> simp at hc))))
theorem loud_case (h : Rel B s Z st a w) (hdst : ∀ d, o.dst = some d → d < B.N) {ao : AOp} (hc : cop P o.op = some ao) (hl : isLoud ao = true) {g : Option Bool} (hs : aop P sb B g o.dst ao st K) (hG : Goes sb B w K K') :
    ((g = none ∨ g = some true) → o.wp P a w K' Q) ∧ (g = some false → K' (a.put o.dst undef) w) := by
  unfold aop at hs
  rw [if_pos hl] at hs
  cases g with
  | none => exact ⟨fun _ => aloud_sound h hdst hc hs hG, (fun h => by cases h)⟩
  | some c =>
    refine ⟨fun hg => ?_, fun hg => ?_⟩
    · rcases hg with hg | hg
      · cases hg
      · cases hg; exact aloud_sound h hdst hc (hs.1 rfl) hG
    · cases hg
      exact Goes.skip h hdst hG (hs.2 rfl)

theorem eqC_isnil {t : TypeId} {ne ne' : Bool} {x y c : Opd} (h : eqC P t ne x y = some (.isnil ne' c)) : (∃ e, P.underlying t = some (.slice e)) ∧ ne' = ne ∧ c = x ∧ y = .k .nil0 := by
  unfold eqC at h
  split at h
  · simp at h
  · simp at h
  · simp at h
  · split at h <;> simp at h
  · rename_i e he
    split at h <;> simp at h
    obtain ⟨rfl, rfl⟩ := h
    exact ⟨⟨e, he⟩, rfl, rfl, rfl⟩
  · split at h <;> simp at h
  · cases h
theorem cop_isnil {o : Op} {ne : Bool} {x : Opd} (hc : cop P o = some (.isnil ne x)) : ∃ t X Y t' e, o = .binOp (if ne then .neq else .eql) t X Y t' ∧ P.underlying t = some (.slice e) ∧ opdC X = some x ∧ opdC Y = some (.k .nil0) := by
  cases o with
  | binOp op t X Y t' =>
    simp only [cop] at hc
    split at hc
    case h_2 => cases hc
    rename_i x' y' hX hY
    cases op <;> simp only [Option.some.injEq, reduceCtorEq] at hc
    · obtain ⟨⟨e, he⟩, rfl, rfl, rfl⟩ := eqC_isnil hc
      exact ⟨t, X, Y, t', e, rfl, he, hX, hY⟩
    · obtain ⟨⟨e, he⟩, rfl, rfl, rfl⟩ := eqC_isnil hc
      exact ⟨t, X, Y, t', e, rfl, he, hX, hY⟩
  | makeFunc fn l cs =>
    simp only [cop] at hc
    cases fn <;> simp only [reduceCtorEq] at hc
    split at hc <;> simp at hc
  | unOp op t x =>
    simp only [cop] at hc
    cases op <;> simp at hc
  | call c =>
    simp only [cop] at hc
    split at hc
    · split at hc <;> simp at hc
    · split at hc
      · split at hc
        · simp at hc
        · simp at hc
        · split at hc <;> simp at hc
        · cases hc
      · simp at hc
      · simp at hc
      · split at hc
        · split at hc
          · split at hc
            · split at hc <;> simp at hc
            · cases hc
          · cases hc
        · cases hc
      · cases hc
    · cases hc
  | buildSlice t n qs =>
    simp only [cop] at hc
    split at hc
    · split at hc
      · split at hc <;> simp at hc
      · cases hc
    · cases hc
  | slice t x lo hi mx =>
    simp only [cop] at hc
    split at hc
    · split at hc
      · split at hc <;> simp at hc
      · cases hc
    · cases hc
  | fieldAddr t x i =>
    simp only [cop] at hc
    split at hc
    · split at hc
      · split at hc
        · split at hc <;> simp at hc
        · cases hc
      · cases hc
    · cases hc
  | _ => simp only [cop] at hc; first | (cases hc; done) | (simp at hc; done) | (split at hc <;> first | (simp at hc; done) | (split at hc <;> first | (simp at hc; done) | (split at hc <;> first | (simp at hc; done) | (split at hc <;> simp at hc))))
theorem valD_nil0 {v : Value} (h : valD v = some .nil0) : v = .slice none 0 0 := by
  unfold valD at h
  split at h
  · simp at h
  · unfold cellD at h
    split at h <;> (try split at h) <;> simp at h
    rfl
theorem run_equalIn_slice {t e : TypeId} (ht : P.underlying t = some (.slice e)) (k : Nat) (a' : Option Addr) (n c : Nat) (w : World) : (Op.equalIn (k + 1) t (.slice a' n c) (.slice none 0 0)).run P w = .ok a'.isNone w := by
  cases a' <;> simp [Op.equalIn, run_underlying ht]
theorem run_isnil (ne : Bool) {t t' : TypeId} {e : TypeId} {X Y : Operand} (ho : o.op = .binOp (if ne then .neq else .eql) t X Y t') (ht : P.underlying t = some (.slice e)) {a' : Option Addr} {n c : Nat} (hx : a.eval X = .slice a' n c) (hy : a.eval Y = .slice none 0 0) (w : World) :
    (execOp a.eval o).run P w = .ok (.value (.bool (if ne then !a'.isNone else a'.isNone))) w := by
  have he := run_equalIn_slice (P := P) ht 9999 a' n c w
  unfold execOp; rw [ho]
  cases ne
  · simp [eqGuard, hx, hy, binOp, Op.equal, Op.maxDepth, he]
  · simp [eqGuard, hx, hy, binOp, Op.equal, Op.maxDepth, he]
theorem len_inv {H : List (Nat × Ob)} (hk : Know s Z H w) {d : D} {n : Nat} (hl : lenD H d = some n) {v : Value} (h : VR s Z d v) : ∃ a' m c, v = .slice a' m c ∧ (0 < n → a'.isNone = false) := by
  unfold lenD at hl
  split at hl
  · simp only [Option.some.injEq] at hl; subst hl
    cases h with | nil0 a' => exact ⟨a', 0, 0, rfl, fun h => by omega⟩
  · rename_i xs
    simp only [Option.some.injEq] at hl; subst hl
    obtain ⟨a', cap, h1, _, h3⟩ := h.rows_inv
    refine ⟨a', _, cap, h1, fun hn => ?_⟩
    obtain ⟨b, off, rfl, _⟩ := h3 0 hn
    rfl
  · rename_i id
    obtain ⟨rfl, _⟩ := h
    split at hl <;> simp only [Option.some.injEq, reduceCtorEq] at hl
    · rename_i xs hh
      subst hl
      obtain ⟨a', cap, h1, _, h3⟩ := RowOk.slice (hk.ob _ _ hh)
      exact ⟨a', _, cap, h1, fun hn => by obtain ⟨b, rfl⟩ := h3 hn; rfl⟩
    · rename_i xs hh
      subst hl
      obtain ⟨a', cap, h1, _, h3⟩ := RowOk.slice (hk.ob _ _ hh)
      exact ⟨a', _, cap, h1, fun hn => by obtain ⟨b, rfl⟩ := h3 hn; rfl⟩
  · cases hl
/-- what an operation that changes nothing leaves; g: whether it is carried out -/
theorem quiet_eff (h : Rel B s Z st a w) (hdst : ∀ d, o.dst = some d → d < B.N) {ao : AOp} (hc : cop P o.op = some ao) (hl : isLoud ao = false) {g : Option Bool} (hs : aop P sb B g o.dst ao st K) :
    ((g = none ∨ g = some true) → ∃ u st', K st' ∧ Rel B s Z st' (a.put o.dst u) w ∧ ∀ w', Ok4 w o w' → (execOp a.eval o).run P w' = .ok (.value u) w') ∧ (g = some false → ∃ st', K st' ∧ Rel B s Z st' (a.put o.dst undef) w) := by
  -- a value that is known where the operation is carried out
  have fin : ∀ (d : D) (p : Prop), (p → ∃ u, VR s Z d u ∧ LtR st.nx d ∧ ∀ w', Ok4 w o w' → (execOp a.eval o).run P w' = .ok (.value u) w') → afin g o.dst p d st K →
      ((g = none ∨ g = some true) → ∃ u st', K st' ∧ Rel B s Z st' (a.put o.dst u) w ∧ ∀ w', Ok4 w o w' → (execOp a.eval o).run P w' = .ok (.value u) w') ∧ (g = some false → ∃ st', K st' ∧ Rel B s Z st' (a.put o.dst undef) w) := fun d p hd hK => by
    cases g with
    | none =>
      obtain ⟨hp, hK⟩ := hK
      refine ⟨fun _ => ?_, (fun h => by cases h)⟩
      obtain ⟨u, hu, hlt, hr⟩ := hd hp
      exact ⟨u, _, hK, h.put hdst (VS.of_vr hu) (LtS.of_r hlt hu.no_opt), hr⟩
    | some c =>
      obtain ⟨hp, hK⟩ := hK
      refine ⟨fun hg => ?_, fun hg => ?_⟩
      · obtain rfl : c = true := by rcases hg with hg | hg <;> cases hg; rfl
        obtain ⟨u, hu, hlt, hr⟩ := hd (hp rfl)
        exact ⟨u, _, hK, h.put hdst ⟨fun _ => hu, (fun h => by cases h)⟩ (fun _ => hlt), hr⟩
      · cases hg
        exact ⟨_, hK, h.put hdst ⟨(fun h => by cases h), fun _ => rfl⟩ (fun h => by cases h)⟩
  have fin0 : afin0 g o.dst st K → ((g = none ∨ g = some true) → ∃ u st', K st' ∧ Rel B s Z st' (a.put o.dst u) w ∧ ∀ w', Ok4 w o w' → (execOp a.eval o).run P w' = .ok (.value u) w') ∧ (g = some false → ∃ st', K st' ∧ Rel B s Z st' (a.put o.dst undef) w) := fun hK => by
    cases g with
    | none => exact hK.elim
    | some c =>
      obtain ⟨rfl, hK⟩ := hK
      exact ⟨(fun h => by rcases h with h | h <;> cases h), fun _ => ⟨_, hK, h.put hdst ⟨(fun h => by cases h), fun _ => rfl⟩ (fun h => by cases h)⟩⟩
  unfold aop at hs
  rw [if_neg (by rw [hl]; simp)] at hs
  by_cases hpk : ∃ c x y, ao = .pick c x y
  · obtain ⟨c, x, y, rfl⟩ := hpk
    simp only at hs
    cases ho : o.op with
    | pick C X Y =>
      rw [ho] at hc
      simp only [cop] at hc
      split at hc <;> simp at hc
      rename_i c' x' y' hC hX hY
      obtain ⟨h1, h2, h3⟩ := hc
      rw [h1] at hC; rw [h2] at hX; rw [h3] at hY
      split at hs
      case h_2 => exact fin0 hs
      rename_i b hb
      split at hs
      case h_2 => exact fin0 hs
      rename_i p d hd
      refine fin d _ (fun ⟨⟨h1, h2, h3⟩, hp⟩ => ?_) hs
      have hcv := h.vr hC h1
      rw [hb] at hcv
      obtain ⟨u, hu, hlt, hr⟩ := does_pick (P := P) (s := s) (Z := Z) ho hcv.bool_inv hd hp (fun e => h.vr hX (h2 e)) (fun e => h.vr hY (h3 e))
      exact ⟨u, hu, hlt.mono (Nat.zero_le _), fun w' _ => hr w'⟩
    | _ => exact (cop_no_pick (fun C X Y e => by rw [ho] at e; cases e) hc).elim
  by_cases hpn : ∃ ne x, ao = .isnil ne x
  · obtain ⟨ne, x, rfl⟩ := hpn
    simp only at hs
    split at hs
    case h_2 => exact fin0 hs
    rename_i n hn
    obtain ⟨t, X, Y, t', e, ho, ht, hX, hY⟩ := cop_isnil hc
    have hy : a.eval Y = .slice none 0 0 := by
      cases Y with
      | tmp k => simp [opdC] at hY
      | func f => simp [opdC] at hY
      | global g => simp [opdC] at hY
      | const v =>
        simp only [opdC, Option.map_eq_some_iff, Opd.k.injEq] at hY
        obtain ⟨d, hd, rfl⟩ := hY
        exact valD_nil0 hd
    by_cases hg : gS st.env x = true
    · obtain ⟨a', m, c, hx, hne⟩ := len_inv (s := s) (Z := Z) h.h.know hn (h.vr hX hg)
      refine fin _ _ (fun _ => ?_) (hs (if ne then !a'.isNone else a'.isNone) (fun h0 => by rw [hne h0]; cases ne <;> rfl))
      exact ⟨_, VR.bool_mk _, trivial, fun w' _ => run_isnil ne ho ht hx hy w'⟩
    · exact fin _ _ (fun h => absurd h hg) (hs ne (fun _ => rfl))
  · have hs : match qv (evS st.env) st.heap ao with
        | some (p, d) => afin g o.dst (oks st.env ao = true ∧ p) d st K
        | none => afin0 g o.dst st K := by
      cases ao <;> first | exact absurd ⟨_, _, _, rfl⟩ hpk | exact absurd ⟨_, _, rfl⟩ hpn | exact hs | cases hl
    split at hs
    case h_2 => exact fin0 hs
    rename_i p d hq
    refine fin d _ (fun ⟨h1, h2⟩ => ?_) hs
    obtain ⟨u, hu, hlt, hr⟩ := quiet_val (P := P) h hc hq h1 h2
    exact ⟨u, hu, hlt, hr⟩
theorem quiet_case (h : Rel B s Z st a w) (hdst : ∀ d, o.dst = some d → d < B.N) {ao : AOp} (hc : cop P o.op = some ao) (hl : isLoud ao = false) {g : Option Bool} (hs : aop P sb B g o.dst ao st K) (hG : Goes sb B w K K') :
    ((g = none ∨ g = some true) → o.wp P a w K' Q) ∧ (g = some false → K' (a.put o.dst undef) w) := by
  obtain ⟨h1, h2⟩ := quiet_eff h hdst hc hl hs
  refine ⟨fun hg => ?_, fun hg => ?_⟩
  · obtain ⟨u, st', hK, hr, hrun⟩ := h1 hg
    exact wp_value (hrun w (.inl (More.refl w))) (hG _ _ _ _ _ (fun _ => Below.refl _ _) hK hr)
  · obtain ⟨st', hK, hr⟩ := h2 hg
    exact hG _ _ _ _ _ (fun _ => Below.refl _ _) hK hr

/-- what a guard says of the operation -/
theorem astep_cases {ops : Array Oper} (h : Rel B s Z st a w) {ao : AO} (hao : coper P B.N ops o = some ao) (hs : astep P sb B ao st K) :
    (∀ d, o.dst = some d → d < B.N) ∧ ∃ op, copX P o.op = some op ∧ ∃ g, aop P sb B g o.dst op st K ∧ ((Region.wanted o (yielded ops a.tmps) = true ∧ (g = none ∨ g = some true)) ∨ (Region.wanted o (yielded ops a.tmps) = false ∧ g = some false)) := by
  unfold coper at hao
  split at hao
  case isFalse => cases hao
  rename_i hd
  split at hao
  case h_2 => cases hao
  rename_i op hop
  refine ⟨fun d hdd => by rw [hdd] at hd; simpa [dstOk] using hd, op, hop, ?_⟩
  split at hao
  · rename_i hgd
    simp only [Option.some.injEq] at hao
    subst hao
    simp only [astep] at hs
    exact ⟨none, hs, .inl ⟨by simp only [Region.wanted, hgd], .inl rfl⟩⟩
  · rename_i j want hgd
    split at hao
    case h_2 => cases hao
    rename_i t ht
    simp only [Option.some.injEq] at hao
    subst hao
    have hslot : ∀ d, d ≠ undef → a.tmps.getD t undef = d → a.tmps[t]? = some d := fun d hne hd => by
      rw [Array.getD_eq_getD_getElem?] at hd
      cases hq : a.tmps[t]? with
      | none => rw [hq] at hd; exact absurd hd.symm hne
      | some v => rw [hq] at hd; simp only [Option.getD_some] at hd; rw [hd]
    have hw : ∀ c, a.tmps.getD t undef = .bool c → Region.wanted o (yielded ops a.tmps) = (if want then c else !c) := fun c hc => by
      have := hslot (.bool c) (by intro e; cases e) hc
      simp only [Region.wanted, hgd, yielded, ht, Option.bind_some, this]
      cases c <;> cases want <;> rfl
    have hwF : a.tmps.getD t undef = undef → Region.wanted o (yielded ops a.tmps) = false := fun hc => by
      simp only [Region.wanted, hgd, yielded, ht, Option.bind_some]
      rw [Array.getD_eq_getD_getElem?] at hc
      cases hq : a.tmps[t]? with
      | none => rfl
      | some v => rw [hq] at hc; simp only [Option.getD_some] at hc; rw [hc]; rfl
    simp only [astep] at hs
    have he := h.env t
    split at hs
    · rename_i c hc
      rw [hc] at he
      have hb : a.tmps.getD t undef = .bool c := VR.bool_inv (s := s) (Z := Z) he
      refine ⟨_, hs, ?_⟩
      rw [hw c hb]
      generalize (if want then c else !c) = g at *
      cases g with
      | true => exact .inl ⟨rfl, .inr rfl⟩
      | false => exact .inr ⟨rfl, rfl⟩
    · rename_i g c hc
      rw [hc] at he
      refine ⟨_, hs, ?_⟩
      cases g with
      | false =>
        rw [hwF (he.2 rfl)]
        exact .inr ⟨rfl, by simp⟩
      | true =>
        have hb : a.tmps.getD t undef = .bool c := VR.bool_inv (s := s) (Z := Z) (he.1 rfl)
        rw [hw c hb]
        simp only [Bool.true_and]
        generalize (if want then c else !c) = g at *
        cases g with
        | true => exact .inl ⟨rfl, .inr rfl⟩
        | false => exact .inr ⟨rfl, rfl⟩
    · rename_i g d _ hc
      rw [hc] at he
      obtain ⟨rfl, hs⟩ := hs
      refine ⟨_, hs, ?_⟩
      rw [hwF (he.2 rfl)]
      exact .inr ⟨rfl, rfl⟩
    · exact hs.elim
theorem xcop_loud {o : Op} {ao : AOp} (h : xcop P o = some ao) : isLoud ao = true ∧ ∃ k ns xs, ao = .xop k ns xs := by
  have key : (∃ k ns xs, ao = .xop k ns xs) := by
    unfold xcop at h
    split at h
    · split at h <;> simp at h; obtain ⟨_, _, rfl⟩ := h; exact ⟨_, _, _, rfl⟩
    · split at h <;> simp at h; obtain ⟨_, _, rfl⟩ := h; exact ⟨_, _, _, rfl⟩
    · split at h <;> simp at h; obtain ⟨_, _, rfl⟩ := h; exact ⟨_, _, _, rfl⟩
    · split at h
      · split at h <;> simp at h; obtain ⟨_, _, rfl⟩ := h; exact ⟨_, _, _, rfl⟩
      · cases h
    · simp at h; obtain ⟨_, _, rfl⟩ := h; exact ⟨_, _, _, rfl⟩
    · simp at h; obtain ⟨_, _, rfl⟩ := h; exact ⟨_, _, _, rfl⟩
    · split at h
      · split at h
        · split at h <;> simp at h; obtain ⟨_, _, rfl⟩ := h; exact ⟨_, _, _, rfl⟩
        · cases h
      · split at h
        · split at h <;> simp at h; obtain ⟨_, _, rfl⟩ := h; exact ⟨_, _, _, rfl⟩
        · cases h
      · cases h
    · cases h
  obtain ⟨k, ns, xs, rfl⟩ := key
  exact ⟨rfl, k, ns, xs, rfl⟩
theorem copX_quiet {o : Op} {ao : AOp} (h : copX P o = some ao) (hl : isLoud ao = false) : cop P o = some ao := by
  unfold copX at h
  split at h
  · rename_i x hx
    simp only [Option.some.injEq] at h
    subst h
    rw [(xcop_loud hx).1] at hl; cases hl
  · exact h
theorem xop_case (hdst : ∀ d, o.dst = some d → d < B.N) (h : Rel B s Z st a w) {ao : AOp} (hx : xcop P o.op = some ao) {g : Option Bool} (hs : aop P sb B g o.dst ao st K) (hG : Goes sb B w K K') :
    ((g = none ∨ g = some true) → o.wp P a w K' Q) ∧ (g = some false → K' (a.put o.dst undef) w) := by
  obtain ⟨hl, k, ns, xs, rfl⟩ := xcop_loud hx
  unfold aop at hs
  rw [if_pos hl] at hs
  cases g with
  | none => exact ⟨fun _ => hs o s Z a w K' Q hx rfl hdst h hG, (fun h => by cases h)⟩
  | some c =>
    refine ⟨fun hg => ?_, fun hg => ?_⟩
    · rcases hg with hg | hg
      · cases hg
      · cases hg; exact (hs.1 rfl) o s Z a w K' Q hx rfl hdst h hG
    · cases hg
      exact Goes.skip h hdst hG (hs.2 rfl)
/-- one operation, carried out here and now -/
theorem astep_sound {ops : Array Oper} (h : Rel B s Z st a w) {ao : AO} (hao : coper P B.N ops o = some ao) (hs : astep P sb B ao st K) (hG : Goes sb B w K K') :
    (Region.wanted o (yielded ops a.tmps) = true → o.wp P a w K' Q) ∧ (Region.wanted o (yielded ops a.tmps) = false → K' (a.put o.dst undef) w) := by
  obtain ⟨hdst, op, hop, g, hg, hcase⟩ := astep_cases h hao hs
  have key : ((g = none ∨ g = some true) → o.wp P a w K' Q) ∧ (g = some false → K' (a.put o.dst undef) w) := by
    cases hx : xcop P o.op with
    | some x =>
      have hop' := hop
      unfold copX at hop'
      rw [hx] at hop'
      simp only [Option.some.injEq] at hop'
      subst hop'
      exact xop_case hdst h hx hg hG
    | none =>
      have hop : cop P o.op = some op := by unfold copX at hop; rw [hx] at hop; exact hop
      cases hl : isLoud op with
      | true => exact loud_case h hdst hop hl hg hG
      | false => exact quiet_case h hdst hop hl hg hG
  rcases hcase with ⟨h1, h2⟩ | ⟨h1, h2⟩
  · exact ⟨fun _ => key.1 h2, fun h => by rw [h1] at h; cases h⟩
  · exact ⟨(fun h => by rw [h1] at h; cases h), fun _ => key.2 h2⟩

/-- operations in the order of the text -/
theorem aops_sound {ops : Array Oper} : ∀ (os : List Oper) (aos : List AO) (st : St) (s : Nat → Value) (Z : Cells) (a : Act) (w : World), copers P B.N ops os = some aos → Rel B s Z st a w → aops P B aos st K →
    (∀ st' s' Z' a' w', K st' → Rel B s' Z' st' a' w' → Q .normal a' w') → wpList P ops Q os a w
  | [], aos, st, s, Z, a, w, hc, h, hs, hG => by
    simp only [copers, Option.some.injEq] at hc
    subst hc
    exact hG st s Z a w hs h
  | o :: os, aos, st, s, Z, a, w, hc, h, hs, hG => by
    simp only [copers] at hc
    split at hc <;> simp only [Option.some.injEq, reduceCtorEq] at hc
    rename_i ao r hao hr
    subst hc
    simp only [aops] at hs
    refine wpList_step fun K' hK' => ?_
    have hG' : Goes false B w (fun st' => aops P B r st' K) K' := fun st' s' Z' a' w' _ h1 h2 => hK' a' w' (aops_sound os r st' s' Z' a' w' hr h2 h1 hG)
    obtain ⟨k1, k2⟩ := astep_sound (Q := Q) h hao hs hG'
    cases hw : Region.wanted o (yielded ops a.tmps) with
    | true => simp only [if_true]; exact k1 hw
    | false => simp only [Bool.false_eq_true, if_false]; exact k2 hw
end
end Go.Proofs.Ytfkeddefajkobaa
