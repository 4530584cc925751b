/- This text proves that a statement whose order Go leaves open does, in each order, what the small machine does in an order of its own choice ('asch_sound'). It has no condition of its own. -/
import Derived.Test.YtfkeddefajkobaaAci
import Derived.Test.YtfkeddefajkobaaStage
set_option linter.unusedSimpArgs false
set_option linter.unusedVariables false
namespace Go.Proofs.Ytfkeddefajkobaa
open Go.RowKit

/-- orders in which operations may be taken: one and the rest; or each of two -/
inductive ASch where
  | done
  | one (sb : Bool) (o : AO) (r : ASch)
  | two (l r : ASch)
  | top
def asch (P : Program) (B : Base) : ASch → St → (St → Prop) → Prop
  | .done, st, K => K st
  | .one sb o r, st, K => astep P sb B o st fun st' => asch P B r st' K
  | .two l r, st, K => asch P B l st K ∧ asch P B r st K
  | .top, _, _ => True

/-- it may write what was there; hw: functions that do -/
def lateOp (hw : List FuncId) : Op → Bool
  | .store .. => true
  | .call c => match c.callee with
    | .value (.func f) => hw.contains f
    | .value _ => true
    | .builtin .append => true
    | .builtin _ => false
    | _ => true
  | _ => false
def lates (hw : List FuncId) (ops : Array Oper) : List Nat := (List.range ops.size).filter fun i => ((ops[i]?).map fun o => lateOp hw o.op).getD false
/-- number i may be taken first -/
def takeQ (P : Program) (N : Nat) (ops : Array Oper) (listed : Array Bool) (ls : List Nat) (i : Nat) : Bool :=
  match ops[i]? with
  | some o => match coper P N ops o with
    | some a => !isLoud a.op && !ls.contains i && Region.free .any ops listed i && (!isLd o.op || ls.all fun t => (aheadL ops t [t]).contains i)
    | none => false
  | none => false
def stepS (P : Program) (N : Nat) (ops : Array Oper) (sb : Bool) (i : Nat) (r : Option ASch) : Option ASch :=
  match ops[i]? with
  | some o => match coper P N ops o, r with
    | some a, some t => some (.one sb a t)
    | _, _ => none
  | none => none
def foldS : List (Option ASch) → Option ASch
  | [] => some .top
  | x :: l => match x, foldS l with
    | some t, some u => some (.two t u)
    | _, _ => none
def planS (P : Program) (N : Nat) (ops : Array Oper) : Nat → Array Bool → List Nat → Option ASch
  | 0, listed, _ => if (Region.ready .any ops listed).isEmpty then some .done else none
  | fuel + 1, listed, ls =>
    let rs := Region.ready .any ops listed
    if rs.isEmpty then some .done else
    match rs.find? (takeQ P N ops listed ls) with
    | some i => stepS P N ops true i (planS P N ops fuel (listed.setIfInBounds i true) ls)
    | none => match rs with
      | [i] => stepS P N ops (!ls.contains i) i (planS P N ops fuel (listed.setIfInBounds i true) (ls.filter (· != i)))
      | rs => foldS (rs.map fun i => stepS P N ops (!ls.contains i) i (planS P N ops fuel (listed.setIfInBounds i true) (ls.filter (· != i))))

section
variable {P : Program} {B : Base} {ops : Array Oper} {Q : Exit → Act → World → Prop} {K : St → Prop}

theorem foldS_mem : ∀ {l : List (Option ASch)} {t : ASch}, foldS l = some t → ∀ x ∈ l, ∃ t', x = some t' ∧ ∀ st K, asch P B t st K → asch P B t' st K
  | [], t, h, x, hx => by cases hx
  | y :: l, t, h, x, hx => by
    cases y with
    | none => simp [foldS] at h
    | some t1 =>
      cases hl : foldS l with
      | none => simp [foldS, hl] at h
      | some t2 =>
        simp only [foldS, hl, Option.some.injEq] at h
        subst h
        rcases List.mem_cons.1 hx with rfl | hx
        · exact ⟨t1, rfl, fun _ _ h => h.1⟩
        · obtain ⟨t', h1, h2⟩ := foldS_mem hl x hx
          exact ⟨t', h1, fun st K h => h2 st K h.2⟩
theorem stepS_some {N : Nat} {sb : Bool} {i : Nat} {r : Option ASch} {t : ASch} (h : stepS P N ops sb i r = some t) : ∃ o ao t', ops[i]? = some o ∧ coper P N ops o = some ao ∧ r = some t' ∧ t = .one sb ao t' := by
  unfold stepS at h
  cases ho : ops[i]? with
  | none => rw [ho] at h; cases h
  | some o =>
    rw [ho] at h
    simp only at h
    cases hao : coper P N ops o with
    | none => rw [hao] at h; simp at h
    | some ao =>
      rw [hao] at h
      cases r with
      | none => simp at h
      | some t' =>
        simp only [Option.some.injEq] at h
        exact ⟨o, ao, t', rfl, hao, rfl, h.symm⟩

/-- one operation carried out in its turn -/
theorem step_sound {hw : List Nat} {w : World} {fuel : Nat} {listed : Array Bool} {i : Nat} {r : Option ASch} {t : ASch} {st : St} {s : Nat → Value} {Z : Cells} {a : Act} (hsz : listed.size = ops.size)
    (h : stepS P B.N ops (!hw.contains i) i r = some t) (hR : Rel B s Z st a w) (hs : asch P B t st K)
    (next : ∀ t', r = some t' → ∀ (st' : St) (s' : Nat → Value) (Z' : Cells) (a' : Act) (w' : World), Rel B s' Z' st' a' w' → asch P B t' st' K → AnyK P .any ops Q ((hw.filter (· != i)).contains ·) w' fuel (listed.setIfInBounds i true) a' w') :
    wpOp P ops Q i (fun a' w' => Kept (hw.contains ·) w (listed.setIfInBounds i true) w' ∧ AnyK P .any ops Q (hw.contains ·) w fuel (listed.setIfInBounds i true) a' w') a w := by
  obtain ⟨o, ao, t', ho, hao, rfl, rfl⟩ := stepS_some h
  have hlt : i < listed.size := by rw [hsz]; exact (Array.getElem?_eq_some_iff.1 ho).1
  have hset : (listed.setIfInBounds i true).getD i false = true := by simp [hlt]
  simp only [asch] at hs
  have hG : Goes (!hw.contains i) B w (fun st' => asch P B t' st' K) (fun a' w' => Kept (hw.contains ·) w (listed.setIfInBounds i true) w' ∧ AnyK P .any ops Q (hw.contains ·) w fuel (listed.setIfInBounds i true) a' w') := fun st' s' Z' a' w' hb hK hR' => by
    have hn := next t' rfl st' s' Z' a' w' hR' hK
    cases hl : hw.contains i with
    | true => exact ⟨.inr ⟨i, hl, hset⟩, anyK_late ⟨i, hl, hset⟩ hn⟩
    | false =>
      have hb := hb (by rw [hl]; rfl)
      refine ⟨.inl hb, ?_⟩
      have hf : hw.filter (· != i) = hw := List.filter_eq_self.2 fun x hx => by
        have : x ≠ i := by rintro rfl; rw [List.contains_iff_mem.2 hx] at hl; cases hl
        simpa using this
      rw [hf] at hn
      exact anyK_base (fun listed' w2 hk => hk.imp (fun h2 => hb.trans (h2.mono hb.size)) id) hn
  obtain ⟨k1, k2⟩ := astep_sound (Q := Q) hR hao hs hG
  unfold wpOp
  simp only [ho]
  cases hw' : Region.wanted o (yielded ops a.tmps) with
  | true => simp only [if_true]; exact .inl (k1 hw')
  | false => simp only [Bool.false_eq_true, if_false]; exact k2 hw'

theorem planS_sound (hns : Region.noSelect ops = true) (hQ : ∀ c a d v w, Q (.panic c) (Act.put a d v) w → Q (.panic c) a w) (hfin : ∀ st' s' Z' a' w', K st' → Rel B s' Z' st' a' w' → Q .normal a' w') :
    ∀ (fuel : Nat) (listed : Array Bool) (hw : List Nat) (t : ASch) (st : St) (s : Nat → Value) (Z : Cells) (a : Act) (w : World), planS P B.N ops fuel listed hw = some t → listed.size = ops.size → Closed .any ops listed → Rel B s Z st a w → asch P B t st K →
      AnyK P .any ops Q (hw.contains ·) w fuel listed a w
  | 0, listed, hw, t, st, s, Z, a, w, h, hsz, hcl, hR, hs => by
    simp only [planS] at h
    split at h
    case isFalse => cases h
    rename_i he
    simp only [Option.some.injEq] at h
    subst h
    exact ⟨List.isEmpty_iff.1 he, hfin _ _ _ _ _ hs hR⟩
  | fuel + 1, listed, hw, t, st, s, Z, a, w, h, hsz, hcl, hR, hs => by
    simp only [planS] at h
    split at h
    · rename_i he
      simp only [Option.some.injEq] at h
      subst h
      have he := List.isEmpty_iff.1 he
      exact ⟨fun _ => hfin _ _ _ _ _ hs hR, fun i hi => by rw [he] at hi; cases hi⟩
    rename_i hne
    have hne : Region.ready .any ops listed ≠ [] := fun e => hne (by rw [e]; rfl)
    have hszs : ∀ i, (listed.setIfInBounds i true).size = ops.size := fun i => by simpa using hsz
    split at h
    · -- one that may be taken first
      rename_i i hfind
      have hir := List.mem_of_find?_eq_some hfind
      have htk := List.find?_some hfind
      obtain ⟨o, ao, t', ho, hao, hr, rfl⟩ := stepS_some h
      unfold takeQ at htk
      simp only [ho, hao, Bool.and_eq_true, Bool.not_eq_true', Bool.or_eq_true] at htk
      obtain ⟨⟨⟨hq, hli⟩, hfree⟩, hld⟩ := htk
      simp only [asch] at hs
      obtain ⟨hdst, op, hop, g, hg, hcase⟩ := astep_cases hR hao hs
      have hqo : isLoud op = false := by
        unfold coper at hao
        split at hao
        case isFalse => cases hao
        rw [hop] at hao
        simp only at hao
        split at hao
        · simp only [Option.some.injEq] at hao; subst hao; exact hq
        · split at hao
          · simp only [Option.some.injEq] at hao; subst hao; exact hq
          · cases hao
      obtain ⟨e1, e2⟩ := quiet_eff hR hdst (copX_quiet hop hqo) hqo hg
      have hun := (mem_ready.1 hir).1
      have hkept : Kept (hw.contains ·) w listed w := .inl (Below.refl _ _)
      obtain ⟨v, st', hK', hR', hy⟩ : ∃ v st', asch P B t' st' K ∧ Rel B s Z st' (a.put o.dst v) w ∧ YieldsIf P ops (fun w' => Ok4 w o w') o v a := by
        rcases hcase with ⟨h1, h2⟩ | ⟨h1, h2⟩
        · obtain ⟨u, st', k1, k2, k3⟩ := e1 h2
          exact ⟨u, st', k1, k2, .inl ⟨h1, k3⟩⟩
        · obtain ⟨st', k1, k2⟩ := e2 h2
          exact ⟨undef, st', k1, k2, .inr ⟨h1, rfl⟩⟩
      have next := planS_sound hns hQ hfin fuel (listed.setIfInBounds i true) hw t' st' s Z (a.put o.dst v) w hr (hszs i) (hcl.set hir) hR' hK'
      refine anyK_first ho (Region.noSelect_spec hns) (fun c a w h => hQ c a _ _ w h) (fun w' => Ok4 w o w') (fun listed' w' hc hu hk => ?_) (by simpa using hli) fuel listed a w hcl (Region.free_spec ho hfree) hir hy hkept next
      rcases hld with hld | hld
      · exact .inr hld
      · refine .inl (More.below (hk.below hu fun t ht hlt => ?_))
        have h3 := List.all_eq_true.1 hld t (by simpa using ht)
        exact aheadL_listed hc t [t] (fun y hy => by rw [List.mem_singleton.1 hy]; exact hlt) i (by simpa using h3)
    · split at h
      · -- the only one
        rename_i i hri
        refine ⟨fun e => absurd e hne, fun j hj => ?_⟩
        have hji : j = i := by rw [hri] at hj; simpa using hj
        subst hji
        exact step_sound hsz h hR hs fun t' ht' st' s' Z' a' w' hR' hs' => planS_sound hns hQ hfin fuel _ _ t' st' s' Z' a' w' ht' (hszs j) (hcl.set hj) hR' hs'
      · refine ⟨fun e => absurd e hne, fun j hj => ?_⟩
        obtain ⟨t', ht', himp⟩ := foldS_mem (P := P) (B := B) h _ (List.mem_map.2 ⟨j, hj, rfl⟩)
        exact step_sound hsz ht' hR (himp _ _ hs) fun t' ht' st' s' Z' a' w' hR' hs' => planS_sound hns hQ hfin fuel _ _ t' st' s' Z' a' w' ht' (hszs j) (hcl.set hj) hR' hs'

/-- a region that draws its order -/
theorem draw_sound {id : Nat} {hw : List FuncId} {t : ASch} {st : St} {s : Nat → Value} {Z : Cells} {a : Act} {w : World} (hm : P.follows .mixedOrders = true) (hns : Region.noSelect ops = true) (hp : planS P B.N ops ops.size (Array.replicate ops.size false) (lates hw ops) = some t)
    (hQ : ∀ c a d v w, Q (.panic c) (Act.put a d v) w → Q (.panic c) a w) (hfin : ∀ st' s' Z' a' w', K st' → Rel B s' Z' st' a' w' → Q .normal a' w') (hR : Rel B s Z st a w) (hs : asch P B t st K) : (Code.region id ops true).wp P Q a w := by
  have hR' : Rel B s Z st a w.drew := ⟨hR.env, hR.elt, hR.size, hR.defers, hR.h.call (Below.refl _ _).drew (Zx.refl hR.h.zok (Below.refl _ _).drew)⟩
  refine wp_region_any hm ?_
  refine any_of_K _ _ _ _ (planS_sound hns hQ hfin _ _ _ t st s Z a w.drew hp (by simp) (fun j oj _ hl => ?_) hR' hs)
  exfalso
  rcases Nat.lt_or_ge j ops.size with h' | h'
  · simp [h'] at hl
  · simp [h'] at hl
end
end Go.Proofs.Ytfkeddefajkobaa
