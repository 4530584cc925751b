/- This text proves that a function does what its code in the small machine says ('PF.of', 'PFn.of', 'HF.of'). It has no condition of its own. -/
import Derived.Test.YtfkeddefajkobaaAck
set_option linter.unusedSimpArgs false
set_option linter.unusedVariables false
namespace Go.Proofs.Ytfkeddefajkobaa
open Go.RowKit

section
variable {P : Program} {hw : List FuncId} {f : FuncId} {code : AC} {res : List AR} {n : Nat} {ds : List D} {H : List (Nat × Ob)} {nx : Nat} {R : D → List (Nat × Ob) → Nat → Prop}

theorem RelH.toN {F : Nat → Prop} {w0 : World} {n0 : Nat} {sb : Nat → Value} {Zb : Cells} {n : Nat} (m : Nat) {s : Nat → Value} {Z : Cells} {w : World} (h : RelH ⟨n, F, w0, n0, sb, Zb⟩ s Z H nx w) : RelH ⟨m, F, w0, n0, sb, Zb⟩ s Z H nx w :=
  ⟨h.ob, h.lt, h.apart, h.zok, h.zap, h.mine, h.fr, h.n0, h.bs, h.bz, h.bn⟩

theorem cfun_some (hc : cfun P hw f = some ⟨code, res, n⟩) : ∃ fn c, P.funcs[f]? = some fn ∧ fn.body = some c ∧ cco P n hw c = some code ∧ cres P fn.results.toList = some res ∧ fn.ntmps = n ∧ callable P f = true := by
  unfold cfun at hc
  split at hc
  case h_2 => cases hc
  rename_i fn hf
  split at hc
  · cases hc
  rename_i hnm
  split at hc
  case h_2 => cases hc
  rename_i c hb
  split at hc
  case h_2 => cases hc
  rename_i c' r' h1 h2
  simp only [Option.some.injEq, AF.mk.injEq] at hc
  obtain ⟨rfl, rfl, rfl⟩ := hc
  refine ⟨fn, c, hf, hb, h1, h2, rfl, ?_⟩
  unfold callable
  rw [hf]
  simp only [hb, Option.isSome_some, Bool.true_and]
  simpa using hnm

theorem body_sound {B : Base} {s : Nat → Value} {Z : Cells} {w : World} {vs : Array Value} (hm : P.follows .mixedOrders = true) (hc : cfun P hw f = some ⟨code, res, n⟩) (hBN : B.N = n) (hlen : ds.length ≤ n) (hno : ds.all argOk = true)
    (hlt : ∀ d ∈ ds, LtV nx d) (h : W P B hw code (Fin res R) ⟨envOf 0 ds, H, nx⟩) (hR : RelH B s Z H nx w) (hl : vs.size = ds.length) (hv : ∀ j x, ds[j]? = some x → VV s Z x (vs.getD j undef)) :
    Calls P f vs w fun e w' => ∃ v d H' nx' s' Z', e = .returned v ∧ VR s' Z' d v ∧ LtR nx' d ∧ RelH B s' Z' H' nx' w' ∧ R d H' nx' := by
  obtain ⟨fn, c, hf, hb, h1, h2, h3, hcal⟩ := cfun_some hc
  refine calls_of_wp hf hb ?_
  have rel : Rel B s Z ⟨envOf 0 ds, H, nx⟩ { tmps := vs ++ Array.replicate (fn.ntmps - vs.size) undef, defers := [] } w := by
    refine ⟨fun k => ?_, fun k => ?_, ?_, rfl, hR⟩
    · simp only [eget_envOf, Nat.zero_le, if_true, Nat.sub_zero]
      by_cases hk : k < ds.length
      · have hx : ds[k]? = some (ds.getD k .any) := by rw [List.getD_eq_getElem?_getD, List.getElem?_eq_getElem hk]; rfl
        have := hv k _ hx
        rw [Array.getD_eq_getD_getElem?, Array.getElem?_append_left (by omega), ← Array.getD_eq_getD_getElem?]
        exact VS.of_vr (VR.of_vv this)
      · rw [List.getD_eq_getElem?_getD, List.getElem?_eq_none (by omega)]; trivial
    · simp only [eget_envOf, Nat.zero_le, if_true, Nat.sub_zero]
      by_cases hk : k < ds.length
      · have hx : ds[k]? = some (ds.getD k .any) := by rw [List.getD_eq_getElem?_getD, List.getElem?_eq_getElem hk]; rfl
        have hmem := List.mem_of_getElem? hx
        have h4 := hlt _ hmem
        have h5 := List.all_eq_true.1 hno _ hmem
        generalize ds.getD k .any = d at *
        cases d <;> first | exact h4 | cases h5
      · rw [List.getD_eq_getElem?_getD, List.getElem?_eq_none (by omega)]; trivial
    · simp only [Array.size_append, Array.size_replicate]; omega
  have hbody := h hm c (by rw [hBN]; exact h1) s Z _ w rel
  have key : ∀ (e : Ex) (st : St) (s' : Nat → Value) (Z' : Cells) (a : Act) (w' : World), (e = .ret ∨ e = .normal) → Fin res R e st → Rel B s' Z' st a w' → a.defers = [] ∧ ∃ v, (results fn a.tmps).run P w' = .ok v w' ∧ ∃ v' d H' nx' s' Z', (.returned v : Ending) = .returned v' ∧ VR s' Z' d v' ∧ LtR nx' d ∧ RelH B s' Z' H' nx' w' ∧ R d H' nx' := by
    intro e st s' Z' a w' he hfin hr
    have hfin : match aresl st.env st.heap res with
        | some (p, ds) => (p ∧ ds.all argOk = true) ∧ R (resD ds) st.heap st.nx
        | none => False := by rcases he with rfl | rfl <;> exact hfin
    refine ⟨hr.defers, ?_⟩
    split at hfin
    case h_2 => exact hfin.elim
    rename_i p es hes
    obtain ⟨⟨hp, hall⟩, hRd⟩ := hfin
    obtain ⟨us, g1, g2, g3, g4⟩ := res_run hr _ _ p es h2 hes hp
    have hrun : (fn.results.mapM (m := Sem) fun | .tmp t => pure (a.tmps.getD t undef) | .cell q t => do loadVar t (← asAddr (a.tmps.getD q undef))).run P w' = .ok us.toArray w' := by
      rw [Array.mapM_eq_mapM_toList, Sem.run_map]
      exact congrArg (fun r => Result.andThen r _) g4
    have hres : (results fn a.tmps).run P w' = (do let vs ← (fn.results.mapM (m := Sem) fun | .tmp t => pure (a.tmps.getD t undef) | .cell q t => do loadVar t (← asAddr (a.tmps.getD q undef))); pure (if h : vs.size = 1 then vs[0] else .tuple vs) : Sem Value).run P w' := rfl
    have hV : ∀ j x, es[j]? = some x → VV s' Z' x (us.getD j undef) := fun j x hx => by
      have q1 := g2 j x hx
      have q2 := List.all_eq_true.1 hall x (List.mem_of_getElem? hx)
      cases x <;> first | exact q1 | cases q2
    have hLV : ∀ d ∈ es, LtV st.nx d := fun d hd => by
      have q1 := g3 d hd
      have q2 := List.all_eq_true.1 hall d hd
      cases d <;> first | exact q1 | cases q2
    match es, us, g1, hV, hLV, hRd, hrun with
    | [d], [u], _, hV, hLV, hRd, hrun =>
      refine ⟨u, ?_, u, d, st.heap, st.nx, s', Z', rfl, VR.of_vv (hV 0 d rfl), ?_, hr.h, hRd⟩
      · rw [hres, Sem.run_bind, hrun]
        simp
      · have := hLV d (by simp)
        cases d <;> first | exact this | (have q := hV 0 _ rfl; cases q; done)
    | [], [], _, hV, hLV, hRd, hrun =>
      refine ⟨.tuple #[], ?_, .tuple #[], .tup [], st.heap, st.nx, s', Z', rfl, ⟨#[], rfl, rfl, fun j x hx => by simp at hx⟩, fun d hd => by simp at hd, hr.h, hRd⟩
      rw [hres, Sem.run_bind, hrun]
      simp
    | d :: d' :: es, u :: u' :: us, g1, hV, hLV, hRd, hrun =>
      refine ⟨.tuple (u :: u' :: us).toArray, ?_, _, .tup (d :: d' :: es), st.heap, st.nx, s', Z', rfl, ⟨_, rfl, by simpa using g1, fun j x hx => ?_⟩, hLV, hr.h, hRd⟩
      · rw [hres, Sem.run_bind, hrun]
        simp
      · simpa [Array.getD_eq_getD_getElem?, List.getD_eq_getElem?_getD] using hV j x hx
  refine wp_mono hbody fun e a w' hl => ?_
  cases e with
  | normal => obtain ⟨st, s', Z', q1, q2⟩ := hl; exact key .normal st s' Z' a w' (.inr rfl) q1 q2
  | ret => obtain ⟨st, s', Z', q1, q2⟩ := hl; exact key .ret st s' Z' a w' (.inl rfl) q1 q2
  | exit id => obtain ⟨st, s', Z', q1, q2⟩ := hl; exact q1.elim
  | _ => exact hl.elim

theorem HF.of (hm : P.follows .mixedOrders = true) (hc : cfun P hw f = some ⟨code, res, n⟩) (hlen : ds.length ≤ n) (hno : ds.all argOk = true) (hlt : ∀ d ∈ ds, LtV nx d) (h : ∀ B : Base, B.N = n → B.n0 = nx → W P B hw code (Fin res R) ⟨envOf 0 ds, H, nx⟩) : HF P f ds H nx R := by
  obtain ⟨fn, c, hf, hb, h1, h2, h3, hcal⟩ := cfun_some hc
  refine ⟨hcal, fun F s Z w vs hR hl hv => ?_⟩
  refine (body_sound (B := ⟨n, F, w, nx, s, Z⟩) hm hc rfl hlen hno hlt (h _ rfl rfl) (hR.toN n) hl hv).mono ?_
  rintro e w' ⟨v, d, H', nx', s', Z', he, q1, q2, q3, q4⟩
  exact ⟨v, d, H', nx', s', Z', he, q1, q2, q3.toN 0, q4⟩

theorem noV_lt {d : D} (h : noV d = true) : LtV 0 d := by
  cases d with
  | agg ds => exact fun x hx => by have := List.all_eq_true.1 h x hx; cases x <;> first | trivial | cases this
  | own _ => cases h
  | ptr _ _ => cases h
  | pel _ _ _ _ => cases h
  | _ => trivial
theorem empty_rel (n : Nat) (Z : Cells) (w : World) (hz : ∀ b o v, Z b o = some v → w.cell? ⟨b, o, none⟩ = some v) : RelH ⟨n, fun _ => False, w, 0, s0, Z⟩ s0 Z [] 0 w :=
  ⟨(fun _ _ h => by cases h), (fun _ _ h => by cases h), (fun _ _ _ _ _ h => by cases h), hz, (fun _ _ _ _ h => by cases h), (fun _ _ _ h => by cases h), Fr.refl _ _, Nat.le_refl _, fun _ _ => rfl, fun _ _ _ h => h, fun _ _ _ h => .inl h⟩
/-- cells that are known, and cells of blocks of one's own -/
noncomputable def Zown (Z : Cells) (H : List (Nat × Ob)) (s : Nat → Value) (w : World) : Cells := open Classical in fun b o => if ∃ id ob, hget H id = some ob ∧ blk (s id) = some b then w.cell? ⟨b, o, none⟩ else Z b o

/-- what is handed back, read as data -/
def Rbr (e : D) (d : D) (H : List (Nat × Ob)) (_ : Nat) : Prop := match brwR H d with | some e' => leR e' e | none => False
theorem Rbr_at (e d : D) (H : List (Nat × Ob)) (nx : Nat) : Rbr e d H nx = (match brwR H d with | some e' => leR e' e | none => False) := rfl
theorem PF.of {e : D} (hm : P.follows .mixedOrders = true) (hc : cfun P hw f = some ⟨code, res, n⟩) (hlen : ds.length ≤ n) (hno : ds.all argOk = true) (hnv : ds.all noV = true)
    (h : ∀ B : Base, B.N = n → B.n0 = 0 → W P B hw code (Fin res (Rbr e)) ⟨envOf 0 ds, [], 0⟩) : PF P f ds e := by
  obtain ⟨fn, c, hf, hb, h1, h2, h3, hcal⟩ := cfun_some hc
  refine ⟨hcal, fun Z w vs hz hl hv => ?_⟩
  refine (body_sound (B := ⟨n, fun _ => False, w, 0, s0, Z⟩) hm hc rfl hlen hno (fun d hd => noV_lt (List.all_eq_true.1 hnv d hd)) (h _ rfl rfl) (empty_rel n Z w hz) hl hv).mono ?_
  rintro x w' ⟨v, d, H', nx', s', Z', he, q1, q2, q3, q4⟩
  have hbel : Below w.heap.size w w' := ⟨q3.fr.os, q3.fr.tape, q3.fr.output, q3.fr.size, fun k hk => q3.fr.block k hk (fun h => h)⟩
  unfold Rbr at q4
  split at q4
  case h_2 => exact q4.elim
  rename_i e' he'
  refine ⟨v, Zown Z' H' s' w', he, leR_sound q4 (brwR_sound q3.know (fun b o u hu => ?_) (fun id ob b hid hb o u hu => ?_) he' q1), ⟨fun b o u hu => ?_, fun b o u hu => ?_, fun b o u hu => ?_⟩, hbel⟩
  · unfold Zown
    split
    · exact q3.zok b o u hu
    · exact hu
  · unfold Zown
    rw [if_pos ⟨id, ob, hid, hb⟩]
    exact hu
  · unfold Zown
    split
    · exact q3.zok b o u (q3.bz b o u hu)
    · exact q3.bz b o u hu
  · unfold Zown at hu
    split at hu
    · rename_i hx
      obtain ⟨id, ob, hid, hb⟩ := hx
      rcases q3.mine id ob b hid hb with h5 | h5
      · exact .inr h5
      · exact h5.elim
    · rcases q3.bn b o u hu with h5 | h5 | h5
      · exact .inl h5
      · exact .inr h5
      · exact h5.elim
  · unfold Zown at hu
    split at hu
    · exact hu
    · exact q3.zok b o u hu

/-! ### Results in new memory alone -/
def frC (H : List (Nat × Ob)) : Nat → D → Prop
  | n, .own id => match n with
    | 0 => False
    | n + 1 => match hget H id with
      | some (.row _ xs) => ∀ row ∈ xs, ∀ d ∈ row, flatC d = true
      | some (.rowd _ xs) => ∀ row ∈ xs, ∀ d ∈ row, frC H n d
      | _ => False
  | n, .ptr id _ => match n with
    | 0 => False
    | n + 1 => match hget H id with
      | some (.cells ds) => ∀ d ∈ ds, frC H n d
      | _ => False
  | _, .nil0 => True
  | _, d => flatC d = true
def frV (H : List (Nat × Ob)) : D → Prop
  | .agg ds => ∀ d ∈ ds, frC H 4 d
  | d => frC H 4 d
def frR (H : List (Nat × Ob)) : D → Prop
  | .tup ds => ∀ d ∈ ds, frV H d
  | d => frV H d
section
variable {B : Base} {s : Nat → Value} {Z Zn : Cells} {w : World}
theorem flatC_VT {d : D} {v : Value} (h : VC s Z d v) (hf : flatC d = true) : VT Zn d v := by
  cases d <;> first | (cases hf; done) | (cases h; constructor)
theorem frC_sound (hk : Know s Z H w) (hp : ∀ id ob b, hget H id = some ob → blk (s id) = some b → ∀ o v, w.cell? ⟨b, o, none⟩ = some v → Zn b o = some v) :
    ∀ (n : Nat) (d e : D) (v : Value), brwC H n d = some e → frC H n d → VC s Z d v → VT Zn e v := by
  have rowv : ∀ (R : D → Value → Prop) (id sz : Nat) (xs ys : List (List D)) ob, hget H id = some ob → RowOk R w sz xs (s id) → ys.length = xs.length → (∀ (i : Nat) (row : List D) (j : Nat) (e : D), ys[i]? = some row → row[j]? = some e → j < sz ∧ ∃ row' d, xs[i]? = some row' ∧ row'[j]? = some d ∧ ∀ v, R d v → VT Zn e v) → VT Zn (.rows sz ys) (s id) := by
    intro R id sz xs ys ob hh ho hl hc
    obtain ⟨h0, hrow, ho⟩ := ho
    rcases ho with ⟨rfl, a, hv⟩ | ⟨g, cap, cur, e, hv, hg, hcap, hm, hcs, hcc⟩
    · have : ys = [] := List.eq_nil_of_length_eq_zero (by simpa using hl)
      subst this
      rw [hv]
      exact VT.rnil sz a 0
    · rw [hv, ← hl]
      refine VT.rows sz ys g 0 cap (fun i j => cur.getD (i * sz + j) undef) (by omega) (fun i row j d hi hj => ?_) (fun i row j d hi hj => ?_)
      · obtain ⟨hj', row', x, hx, hxj, _⟩ := hc i row j d hi hj
        refine ⟨hj', ?_⟩
        have hil : i < xs.length := (List.getElem?_eq_some_iff.1 hx).1
        have hlt : i * sz + j < cur.size := by
          rw [hcs]
          have : (i + 1) * sz ≤ cap * sz := Nat.mul_le_mul_right _ (by omega)
          rw [Nat.add_mul] at this; omega
        have hcap0 : cap ≠ 0 := by omega
        refine hp id ob g hh (by rw [hv]; simp [blk, hcap0]) _ _ ?_
        rw [Nat.zero_add, cell_of_row w g _ cur e (0, 0) hg]
        simp [hlt]
      · obtain ⟨hj', row', x, hx, hxj, hR⟩ := hc i row j d hi hj
        exact hR _ (hcc i row' j x hx hxj)
  have leaf : ∀ (d e : D) (v : Value), e = d → (flatC d = true ∨ d = .nil0) → VC s Z d v → VT Zn e v := fun d e v he hf hv => by
    subst he
    rcases hf with hf | rfl
    · exact flatC_VT hv hf
    · cases hv; exact VT.nil0 _
  intro n
  induction n with
  | zero =>
    intro d e v h hf hv
    cases d <;> simp only [brwC, Option.some.injEq, reduceCtorEq] at h <;> simp only [frC] at hf <;> first | exact leaf _ _ _ h.symm (.inl hf) hv | exact leaf _ _ _ h.symm (.inr rfl) hv
  | succ n ih =>
    intro d e v h hf hv
    cases d with
    | own id =>
      simp only [brwC] at h
      simp only [frC] at hf
      obtain ⟨rfl, _⟩ := hv
      split at h
      · rename_i sz xs hh
        simp only [Option.some.injEq] at h
        subst h
        simp only [hh] at hf
        have ho := hk.ob _ _ hh
        refine rowv _ id sz xs xs _ hh ho rfl fun i row j e hi hj => ⟨?_, row, e, hi, hj, fun v h => flatC_VT (s := s) (VC.of_vt h) (hf row (List.mem_of_getElem? hi) e (List.mem_of_getElem? hj))⟩
        have := (List.getElem?_eq_some_iff.1 hj).1
        rwa [ho.2.1 _ (List.mem_of_getElem? hi)] at this
      · rename_i sz xs hh
        simp only [hh] at hf
        cases hm : omap (omap (brwC H n)) xs with
        | none => rw [hm] at h; cases h
        | some ys =>
          rw [hm] at h
          simp only [Option.map_some, Option.some.injEq] at h
          subst h
          obtain ⟨g1, g2⟩ := omap_some hm
          have ho := hk.ob _ _ hh
          refine rowv _ id sz xs ys _ hh ho g1 fun i row j e hi hj => ?_
          obtain ⟨row', hx, hr⟩ := g2 i row hi
          obtain ⟨f1, f2⟩ := omap_some hr
          obtain ⟨d, hd, hb⟩ := f2 j e hj
          have : j < row'.length := (List.getElem?_eq_some_iff.1 hd).1
          rw [ho.2.1 _ (List.mem_of_getElem? hx)] at this
          exact ⟨this, row', d, hx, hd, fun v h => ih d e v hb (hf row' (List.mem_of_getElem? hx) d (List.mem_of_getElem? hd)) h⟩
      · cases h
    | ptr id j =>
      simp only [brwC] at h
      simp only [frC] at hf
      split at h
      · rename_i ds hh
        simp only [hh] at hf
        cases hm : omap (brwC H n) (ds.drop j) with
        | none => rw [hm] at h; cases h
        | some es =>
          rw [hm] at h
          simp only [Option.map_some, Option.some.injEq] at h
          subst h
          obtain ⟨g1, g2⟩ := omap_some hm
          obtain ⟨b, hs, rfl⟩ := hv
          obtain ⟨b', T, cs, hs', hg, hsz, hc⟩ := hk.ob _ _ hh
          rw [hs] at hs'
          injection hs' with e; injection e with e; injection e with e _; subst e
          refine VT.pc es b j (fun k => cs.getD (j + k) undef) (fun k e he => ?_) (fun k e he => ?_)
          · obtain ⟨d, hd, _⟩ := g2 k e he
            rw [List.getElem?_drop] at hd
            have hlt : j + k < cs.size := by rw [hsz]; exact (List.getElem?_eq_some_iff.1 hd).1
            refine hp id _ b hh (by rw [hs]; rfl) _ _ ?_
            rw [cell_of_row w b _ cs T (0, 0) hg]
            simp [hlt]
          · obtain ⟨d, hd, hb⟩ := g2 k e he
            have hd' := hd
            rw [List.getElem?_drop] at hd
            exact ih d e _ hb (hf d (List.mem_of_mem_drop (List.mem_of_getElem? hd'))) (hc _ d hd)
      · cases h
    | pel _ _ _ _ => simp [brwC] at h
    | agg _ => simp [brwC] at h
    | tup _ => simp [brwC] at h
    | opt _ _ => simp [brwC] at h
    | nil0 => simp only [brwC, Option.some.injEq] at h; exact leaf _ _ _ h.symm (.inr rfl) hv
    | _ => simp only [brwC, Option.some.injEq] at h; simp only [frC] at hf; exact leaf _ _ _ h.symm (.inl hf) hv
theorem frV_sound (hk : Know s Z H w) (hp : ∀ id ob b, hget H id = some ob → blk (s id) = some b → ∀ o v, w.cell? ⟨b, o, none⟩ = some v → Zn b o = some v) {d e : D} {v : Value} (h : brwV H d = some e) (hf : frV H d) (hv : VV s Z d v) : VV s0 Zn e v := by
  have one : brwC H 4 d = some e → frC H 4 d → VC s Z d v → VV s0 Zn e v := fun h1 h2 h3 => VV.of_vc (VC.of_vt (frC_sound hk hp 4 d e v h1 h2 h3))
  cases d with
  | agg ds =>
    simp only [brwV] at h
    cases hm : omap (brwC H 4) ds with
    | none => rw [hm] at h; cases h
    | some es =>
      rw [hm] at h
      simp only [Option.map_some, Option.some.injEq] at h
      subst h
      obtain ⟨vs, rfl, hl, hc⟩ := hv
      obtain ⟨g1, g2⟩ := omap_some hm
      refine ⟨vs, rfl, by omega, fun j x hx => ?_⟩
      obtain ⟨y, hy, hb⟩ := g2 j x hx
      exact VC.of_vt (frC_sound hk hp 4 y x _ hb (hf y (List.mem_of_getElem? hy)) (hc j y hy))
  | any => simp only [brwV, reduceCtorEq] at h
  | _ => exact one h hf hv
theorem frR_sound (hk : Know s Z H w) (hp : ∀ id ob b, hget H id = some ob → blk (s id) = some b → ∀ o v, w.cell? ⟨b, o, none⟩ = some v → Zn b o = some v) {d e : D} {v : Value} (h : brwR H d = some e) (hf : frR H d) (hv : VR s Z d v) : VR s0 Zn e v := by
  cases d with
  | tup ds =>
    simp only [brwR] at h
    cases hm : omap (brwV H) ds with
    | none => rw [hm] at h; cases h
    | some es =>
      rw [hm] at h
      simp only [Option.map_some, Option.some.injEq] at h
      subst h
      obtain ⟨vs, rfl, hl, hc⟩ := hv
      obtain ⟨g1, g2⟩ := omap_some hm
      refine ⟨vs, rfl, by omega, fun j x hx => ?_⟩
      obtain ⟨y, hy, hb⟩ := g2 j x hx
      exact frV_sound hk hp hb (hf y (List.mem_of_getElem? hy)) (hc j y hy)
  | any => simp only [brwR, brwV, reduceCtorEq] at h
  | _ => simp only [brwR] at h; simp only [VR] at hv; exact VR.of_vv (frV_sound hk hp h hf hv)
end
def Rfr (e : D) (d : D) (H : List (Nat × Ob)) (_ : Nat) : Prop := (match brwR H d with | some e' => leR e' e | none => False) ∧ frR H d
theorem Rfr_at (e d : D) (H : List (Nat × Ob)) (nx : Nat) : Rfr e d H nx = ((match brwR H d with | some e' => leR e' e | none => False) ∧ frR H d) := rfl
theorem PFn.of {e : D} (hm : P.follows .mixedOrders = true) (hc : cfun P hw f = some ⟨code, res, n⟩) (hlen : ds.length ≤ n) (hno : ds.all argOk = true) (hnv : ds.all noV = true)
    (h : ∀ B : Base, B.N = n → B.n0 = 0 → W P B hw code (Fin res (Rfr e)) ⟨envOf 0 ds, [], 0⟩) : PFn P f ds e := by
  obtain ⟨fn, c, hf, hb, h1, h2, h3, hcal⟩ := cfun_some hc
  refine ⟨hcal, fun Z w vs hz hl hv => ?_⟩
  refine (body_sound (B := ⟨n, fun _ => False, w, 0, s0, Z⟩) hm hc rfl hlen hno (fun d hd => noV_lt (List.all_eq_true.1 hnv d hd)) (h _ rfl rfl) (empty_rel n Z w hz) hl hv).mono ?_
  rintro x w' ⟨v, d, H', nx', s', Z', he, q1, q2, q3, q4, q5⟩
  have hbel : Below w.heap.size w w' := ⟨q3.fr.os, q3.fr.tape, q3.fr.output, q3.fr.size, fun k hk => q3.fr.block k hk (fun h => h)⟩
  split at q4
  case h_2 => exact q4.elim
  rename_i e' he'
  refine ⟨v, Zown (fun _ _ => none) H' s' w', he, leR_sound q4 (frR_sound q3.know (fun id ob b hid hb o u hu => ?_) he' q5 q1), fun b o u hu => ?_, hbel⟩
  · unfold Zown
    rw [if_pos ⟨id, ob, hid, hb⟩]
    exact hu
  · unfold Zown at hu
    split at hu
    · rename_i hx
      obtain ⟨id, ob, hid, hb⟩ := hx
      rcases q3.mine id ob b hid hb with h5 | h5
      · exact ⟨h5, hu⟩
      · exact h5.elim
    · cases hu
end
end Go.Proofs.Ytfkeddefajkobaa
