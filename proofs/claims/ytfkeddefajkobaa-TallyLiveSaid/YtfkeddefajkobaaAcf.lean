/- This text proves that operations which make or write memory do what the small machine says. It has no condition of its own. -/
import Derived.Test.YtfkeddefajkobaaAce
set_option linter.unusedSimpArgs false
set_option linter.unusedVariables false
namespace Go.Proofs.Ytfkeddefajkobaa
open Go.RowKit

section
variable {P : Program} {sb : Bool} {B : Base} {w w' : World} {s : Nat → Value} {Z : Cells} {st : St} {a : Act} {o : Oper} {K : St → Prop} {K' : Act → World → Prop} {Q : Exit → Act → World → Prop}

theorem wp_value {v : Value} (hr : (execOp a.eval o).run P w = .ok (.value v) w') (h : K' (a.put o.dst v) w') : o.wp P a w K' Q := by
  unfold Oper.wp; rw [hr]; exact h
theorem wp_skp (hr : (execOp a.eval o).run P w = .ok .skip w') (h : K' (a.put o.dst undef) w') : o.wp P a w K' Q := by
  unfold Oper.wp; rw [hr]; exact h
theorem wp_enter {f : FuncId} {vs : Array Value} (hr : (execOp a.eval o).run P w = .ok (.enter f vs) w) (h : Calls P f vs w fun e w' => ∃ v, e = .returned v ∧ K' (a.put o.dst v) w') : o.wp P a w K' Q := by
  unfold Oper.wp; rw [hr, Oper.upon_enter]
  refine h.mono fun e w' ⟨v, he, hk⟩ => ?_
  subst he; exact hk

theorem Rel.evE (h : Rel B s Z st a w) : ∀ x y, opdC x = some y → VR s Z (Go.Proofs.Ytfkeddefajkobaa.evE st.env y) (a.eval x) := evE_sound h.env
theorem Rel.vr (h : Rel B s Z st a w) {x : Operand} {y : Opd} (hx : opdC x = some y) (hg : gS st.env y = true) : VR s Z (evS st.env y) (a.eval x) := by
  have := h.evE x y hx
  rwa [evE_ok hg] at this
theorem Rel.lr (h : Rel B s Z st a w) {x : Operand} {y : Opd} (hx : opdC x = some y) (hg : gS st.env y = true) : LtR st.nx (evS st.env y) := evS_lt h.elt hx hg
theorem VR.vv {d : D} {v : Value} (h : VR s Z d v) (hn : d ≠ .any) (ht : ∀ ds, d ≠ .tup ds) : VV s Z d v := by
  cases d <;> first | exact h | exact absurd rfl hn | exact absurd rfl (ht _)

/-- a new variable -/
theorem new_cells (h : Rel B s Z st a w) (hdst : ∀ d, o.dst = some d → d < B.N) {cs : Array Value} {T : TypeId} {ds : List D} (hl : cs.size = ds.length) (hc : ∀ j x, ds[j]? = some x → VC s Z x (cs.getD j undef)) (hn : ∀ d ∈ ds, LtC st.nx d)
    (hG : Goes sb B w K K') (hK : K ⟨putO st.env o.dst (.ptr st.nx 0), eput st.heap st.nx (.cells ds), st.nx + 1⟩) : K' (a.put o.dst (.pointer (some ⟨w.heap.size, 0, none⟩))) (w.alloc (.cells cs T)) := by
  refine hG _ _ _ _ _ (fun _ => (Below.refl _ _).alloc (Nat.le_refl _) _) hK (h.step hdst (upd_lt s st.nx _) (fun _ _ _ h => h) (by omega) ?_ ?_ (h.h.cells cs T ds hl hc hn))
  · exact VC.new s Z st.nx w.heap.size
  · exact Nat.lt_succ_self _

theorem oks_mem {env : List (Nat × D)} {ao : AOp} (h : oks env ao = true) {x : Opd} (hx : x ∈ opnds ao) : gS env x = true := List.all_eq_true.1 h x hx
theorem isT_lt {d : D} (h : isT d = true) : LtC 0 d := by cases d <;> first | trivial | cases h
theorem all_one {R : D → Value → Prop} (hR : ∀ d v, R d v → VC s Z d v) : ∀ d v, R d v → v.oneCell' = true := fun d v h => (hR d v h).one

/-- a new slice of one's own, or one that has grown -/
theorem new_own (h : Rel B s Z st a w) (hdst : ∀ d, o.dst = some d → d < B.N) {v : Value} (hv : ∃ b n c, v = .slice b n c) {H' : List (Nat × Ob)} (hH : RelH B (upd s st.nx v) Z H' (st.nx + 1) w')
    (hG : Goes sb B w K K') (hbl : sb = true → Below w.heap.size w w') (hK : K ⟨putO st.env o.dst (.own st.nx), H', st.nx + 1⟩) : K' (a.put o.dst v) w' := by
  refine hG _ _ _ _ _ hbl hK (h.step hdst (upd_lt s st.nx _) (fun _ _ _ h => h) (by omega) ?_ ?_ hH)
  · exact ⟨(upd_same _ _ _).symm, .inl hv⟩
  · exact Nat.lt_succ_self _


theorem args_sound (h : Rel B s Z st a w) {xs : List Operand} {ys : List Opd} (hc : opdsC xs = some ys) (hg : ∀ y ∈ ys, gS st.env y = true) :
    ys.length = xs.length ∧ ∀ (j : Nat) (d : D), (ys.map (evS st.env))[j]? = some d → VR s Z d (((xs.map a.eval)[j]?).getD undef) := by
  obtain ⟨g1, g2⟩ := opdsC_sound h.evE xs ys hc
  refine ⟨g1, fun j d hd => ?_⟩
  rw [List.getElem?_map] at hd
  cases hy : ys[j]? with
  | none => rw [hy] at hd; cases hd
  | some y =>
    rw [hy] at hd
    simp only [Option.map_some, Option.some.injEq] at hd
    subst hd
    obtain ⟨x, hx, hv⟩ := g2 j y hy
    rw [evE_ok (hg y (List.mem_of_getElem? hy))] at hv
    rw [List.getElem?_map, hx]
    exact hv

theorem goes_call (h : Rel B s Z st a w) (hdst : ∀ d, o.dst = some d → d < B.N) {v : Value} (hb : sb = true → Below w.heap.size w w') (hL : Left B K st.env o.dst st s Z v w') (hG : Goes sb B w K K') : K' (a.put o.dst v) w' := by
  obtain ⟨d, H', nx', s', Z', hr, hlt, hH, hn, hs, hz, hK⟩ := hL
  exact hG _ _ _ _ _ hb hK (h.step hdst hs hz hn (VS.of_vr hr) (LtS.of_r hlt hr.no_opt) hH)

theorem bpartsC_opd : ∀ (ps : List (Nat × Operand)) (qs : List (Nat × Opd)), bpartsC ps = some qs → ps.length = qs.length ∧ ∀ q ∈ qs, ∃ x, opdC x = some q.2
  | [], qs, h => by simp only [bpartsC, Option.some.injEq] at h; subst h; exact ⟨rfl, fun q hq => by cases hq⟩
  | (i, x) :: ps, qs, h => by
    simp only [bpartsC] at h
    split at h <;> simp only [Option.some.injEq, reduceCtorEq] at h
    rename_i y ys h1 h2
    subst h
    obtain ⟨g1, g2⟩ := bpartsC_opd ps ys h2
    refine ⟨by simp [g1], fun q hq => ?_⟩
    rcases List.mem_cons.1 hq with rfl | hq
    · exact ⟨x, h1⟩
    · exact g2 q hq
theorem fillD_length : ∀ (ps : List (Nat × Nat × D)) (z ds : List D), fillD z ps = some ds → ds.length = z.length
  | [], z, ds, h => by simp only [fillD, Option.some.injEq] at h; subst h; rfl
  | (off, n, x) :: ps, z, ds, h => by
    simp only [fillD] at h
    split at h
    case isFalse => cases h
    rename_i hc
    rw [fillD_length ps _ ds h]
    simp [List.length_take]
    omega
/-- which operations may be loud -/
def opLoud : Op → Prop
  | .alloc _ => True
  | .box .. => True
  | .buildSlice .. => True
  | .makeSlice .. => True
  | .store .. => True
  | .call _ => True
  | _ => False
theorem eqC_quiet {t : TypeId} {ne : Bool} {x y : Opd} {ao : AOp} (h : eqC P t ne x y = some ao) : isLoud ao = false := by
  unfold eqC at h
  split at h <;> (try split at h) <;> simp at h <;> first | (subst h; rfl) | (obtain ⟨_, _, rfl⟩ := h; rfl)
theorem cop_quiet {o : Op} {ao : AOp} (hn : ¬ opLoud o) (hc : cop P o = some ao) : isLoud ao = false := by
  cases o with
  | alloc _ => exact absurd trivial hn
  | box _ _ => exact absurd trivial hn
  | buildSlice _ _ _ => exact absurd trivial hn
  | makeSlice _ _ _ => exact absurd trivial hn
  | store _ _ _ => exact absurd trivial hn
  | call _ => exact absurd trivial hn
  | binOp op t x y t' =>
    simp only [cop] at hc
    split at hc
    · cases op <;> simp only [Option.some.injEq] at hc <;> first | exact eqC_quiet hc | (subst hc; rfl)
    · cases hc
  | makeFunc fn l cs =>
    simp only [cop] at hc
    cases fn <;> simp only [reduceCtorEq] at hc
    split at hc <;> simp at hc
    obtain ⟨_, _, rfl⟩ := hc; rfl
  | unOp op t x =>
    simp only [cop] at hc
    cases op <;> simp at hc <;> (obtain ⟨_, _, rfl⟩ := hc; rfl)
  | slice t x lo hi mx =>
    simp only [cop] at hc
    split at hc
    · split at hc
      · split at hc <;> simp at hc
        subst hc; rfl
      · cases hc
    · cases hc
  | fieldAddr t x i =>
    simp only [cop] at hc
    split at hc
    · split at hc
      · split at hc
        · split at hc <;> simp at hc
          subst hc; rfl
        · cases hc
      · cases hc
    · cases hc
  | field t x i =>
    simp only [cop] at hc
    split at hc
    · split at hc
      · split at hc <;> simp at hc
        subst hc; rfl
      · cases hc
    · cases hc
  | build t ps =>
    simp only [cop] at hc
    split at hc
    · split at hc <;> simp at hc
      subst hc; rfl
    · cases hc
  | index t x i =>
    simp only [cop] at hc
    split at hc
    · split at hc <;> simp at hc
      subst hc; rfl
    · cases hc
  | indexAddr t x i =>
    simp only [cop] at hc
    split at hc
    · simp at hc; obtain ⟨_, _, rfl⟩ := hc; rfl
    · simp at hc; obtain ⟨_, _, rfl⟩ := hc; rfl
    · cases hc
  | convert u t x =>
    simp only [cop] at hc
    split at hc
    · simp at hc; obtain ⟨_, _, rfl⟩ := hc; rfl
    · cases hc
  | load t x =>
    simp only [cop] at hc
    split at hc <;> simp at hc
    subst hc; rfl
  | pick c x y =>
    simp only [cop] at hc
    split at hc <;> simp at hc
    subst hc; rfl
  | _ => simp only [cop] at hc; first | (cases hc; done) | (simp at hc; obtain ⟨_, _, rfl⟩ := hc; rfl)
theorem blk0 {v' : Value} {q : Option Addr} {n : Nat} (h : ∀ k, blk v' = some k → n ≤ k ∨ blk (.slice q 0 0) = some k) : ∀ k, blk v' = some k → n ≤ k := fun k hk => by
  rcases h k hk with h1 | h1
  · exact h1
  · cases q <;> simp [blk] at h1
theorem cop_no_xop {o : Op} {k : Nat} {ns : List Nat} {xs : List Opd} (hc : cop P o = some (.xop k ns xs)) : False := by
  by_cases hl : opLoud o
  · cases o with
    | call c =>
      simp only [cop] at hc
      split at hc
      · split at hc <;> simp at hc
      · split at hc
        · split at hc <;> (try split at hc) <;> simp at hc
        · simp at hc
        · simp at hc
        · split at hc
          · split at hc
            · split at hc
              · split at hc <;> simp at hc
              · cases hc
            · cases hc
          · cases hc
        · cases hc
      · cases hc
    | alloc t => simp [cop] at hc
    | box t x => simp [cop] at hc
    | store t x y => simp only [cop] at hc; split at hc <;> simp at hc
    | buildSlice t n qs =>
      simp only [cop] at hc
      split at hc
      · split at hc
        · split at hc <;> simp at hc
        · cases hc
      · cases hc
    | makeSlice t l c =>
      simp only [cop] at hc
      split at hc
      · split at hc
        · split at hc <;> simp at hc
        · cases hc
      · cases hc
    | _ => exact hl.elim
  · have := cop_quiet hl hc
    cases this
theorem aloud_sound (h : Rel B s Z st a w) (hdst : ∀ d, o.dst = some d → d < B.N) {ao : AOp} (hc : cop P o.op = some ao) (hs : aloud P sb B o.dst ao st K) (hG : Goes sb B w K K') : o.wp P a w K' Q := by
  by_cases hcl : (∃ f as_, ao = .call f as_) ∨ ∃ x as_, ao = .callv x as_
  · rcases hcl with ⟨f, as_, rfl⟩ | ⟨x, as_, rfl⟩
    · exact hs o s Z a w K' Q hc rfl hdst h hG
    · exact hs o s Z a w K' Q hc rfl hdst h hG
  have hs : ((sb && isWrite ao) = false ∧ oks st.env ao = true) ∧ aloud1 o.dst ao st K := by
    cases ao <;> first | exact absurd (.inl ⟨_, _, rfl⟩) hcl | exact absurd (.inr ⟨_, _, rfl⟩) hcl | exact (cop_no_xop hc).elim | exact hs
  obtain ⟨⟨hsb, hok⟩, hs⟩ := hs
  cases ho : o.op with
  | alloc t =>
    rw [ho] at hc
    simp only [cop] at hc
    cases hz : zeroT P t with
    | none => rw [hz] at hc; cases hc
    | some z =>
      rw [hz] at hc; simp only [Option.map_some, Option.some.injEq] at hc; subst hc
      obtain ⟨i, v, hi, hv, _, hvc, hcc⟩ := zeroT_sound (s := s) (Z := Z) hz
      refine wp_value (v := .pointer (some ⟨w.heap.size, 0, none⟩)) (w' := w.alloc (.cells v.cells t)) ?_ (new_cells h hdst hvc hcc (fun d hd => (zeroT_lt hz d hd).mono (Nat.zero_le _)) hG hs)
      · unfold execOp; rw [ho]
        simp only [Sem.run_bind, run_alloc hi hv, Result.andThen_ok, Sem.run_pure]
  | box t x =>
    rw [ho] at hc
    simp only [cop] at hc
    cases hx : opdC x with
    | none => rw [hx] at hc; cases hc
    | some y =>
      rw [hx] at hc; simp only [Option.map_some, Option.some.injEq] at hc; subst hc
      obtain ⟨h0, hs⟩ := hs
      have hv := h.vr hx (oks_mem hok (by simp [opnds]))
      obtain ⟨hc1, hc2⟩ := hv.cells h0
      refine wp_value (v := .pointer (some ⟨w.heap.size, 0, none⟩)) (w' := w.alloc (.cells (a.eval x).cells t)) ?_ (new_cells h hdst hc1 hc2 (LtR.cells (h.lr hx (oks_mem hok (by simp [opnds])))) hG hs)
      · unfold execOp; rw [ho]
        simp only [Sem.run_bind, run_box, Result.andThen_ok, Sem.run_pure]
  | buildSlice t len ps =>
    rw [ho] at hc
    simp only [cop] at hc
    split at hc
    case h_2 => cases hc
    rename_i e he
    split at hc
    case h_2 => cases hc
    rename_i n z qs hn hz hqs
    split at hc
    case isFalse => cases hc
    rename_i hb
    simp only [Option.some.injEq] at hc
    subst hc
    simp only [aloud1] at hs
    split at hs
    case h_2 => exact hs.elim
    rename_i ds hds
    have hev : ∀ q ∈ qs, evS st.env q.2 = evE st.env q.2 := fun q hq => (evE_ok (oks_mem hok (List.mem_map.2 ⟨q, hq, rfl⟩))).symm
    have hmap : qs.map (fun q => (q.1 * n, n, evS st.env q.2)) = qs.map (fun q => (q.1 * n, n, evE st.env q.2)) := List.map_congr_left fun q hq => by rw [hev q hq]
    rw [hmap] at hds
    obtain ⟨cs, hrun, hcl, hcv⟩ := bslice_run (P := P) (w := w) he hn hb.1 hb.2 h.evE hz hqs hds
    have hlt : ∀ d ∈ ds, LtC st.nx d := fun d hd => by
      rcases fillD_mem _ _ _ hds d hd with h1 | ⟨q, hq, h1⟩
      · obtain ⟨l, hl, hd'⟩ := List.mem_flatten.1 h1
        rw [List.eq_of_mem_replicate hl] at hd'
        exact (zeroT_lt hz d hd').mono (Nat.zero_le _)
      · obtain ⟨r, hr, rfl⟩ := List.mem_map.1 hq
        simp only at h1
        rw [← hev r hr] at h1
        obtain ⟨y, hy⟩ : ∃ x, opdC x = some r.2 := by
          obtain ⟨g1, g2⟩ := bpartsC_opd ps.toList qs hqs
          exact g2 r hr
        exact LtR.cells (h.lr hy (oks_mem hok (List.mem_map.2 ⟨r, hr, rfl⟩))) d h1
    have hdl : ds.length = len * n := by
      have h1 := fillD_length _ _ _ hds
      obtain ⟨i, v, hi, _, hsz, _⟩ := zeroT_sound (s := s) (Z := Z) hz
      have : i.size = n := by unfold szT at hn; rw [hi] at hn; simpa using hn
      rw [h1, List.length_flatten, List.map_replicate, List.sum_replicate_nat]
      rw [← hsz, this]
    have hm : len ≤ maxLen := by
      have : len * 1 ≤ len * n := Nat.mul_le_mul_left _ hb.1
      unfold maxLen; omega
    have hbel : Below w.heap.size w (w.alloc (.cells cs e)) := (Below.refl _ _).alloc (Nat.le_refl _) _
    refine wp_value (v := .slice (some ⟨w.heap.size, 0, none⟩) len len) (w' := w.alloc (.cells cs e)) ?_ (new_own h hdst ⟨_, _, _, rfl⟩ (H' := eput st.heap st.nx (if ds.all isT then .row n (chunks n len ds) else .rowd n (chunks n len ds))) ?_ hG (fun _ => hbel) hs)
    · unfold execOp; rw [ho]
      simp only [Sem.run_bind, hrun, Result.andThen_ok, Sem.run_pure]
    · refine h.h.new hbel ?_ ?_ (fun k hk => ?_)
      · split
        · rename_i hall
          exact rowOk_of_cells hb.1 (heap_alloc_new w _) hcl hdl hm (fun j x hx => VC.vt (hcv j x hx) (List.all_eq_true.1 hall x (List.mem_of_getElem? hx)))
        · exact rowOk_of_cells hb.1 (heap_alloc_new w _) hcl hdl hm (fun j x hx => VC.mono (fun _ _ _ h => h) (upd_lt s st.nx _) (hlt x (List.mem_of_getElem? hx)) (hcv j x hx))
      · split
        · trivial
        · intro row hr d hd
          obtain ⟨i, hi⟩ := List.getElem?_of_mem hr
          obtain ⟨rfl, _⟩ := chunks_get n len ds i row hi
          exact (hlt d (List.mem_of_mem_drop (List.mem_of_mem_take hd))).mono (by omega)
      · simp only [blk] at hk
        split at hk
        · cases hk
        · cases hk; exact Nat.le_refl _
  | makeSlice t l c =>
    rw [ho] at hc
    simp only [cop] at hc
    split at hc
    case h_2 => cases hc
    rename_i e he
    split at hc
    case h_2 => cases hc
    rename_i i z L C hi hz hL hC
    split at hc
    case isFalse => cases hc
    rename_i h0
    simp only [Option.some.injEq] at hc
    subst hc
    simp only [aloud1] at hs
    split at hs
    case h_2 => exact hs.elim
    rename_i kl x kc y hx hy
    obtain ⟨⟨q1, q2, q3, q4⟩, hs⟩ := hs
    have hvl := h.vr hL (oks_mem hok (by simp [opnds]))
    have hvc := h.vr hC (oks_mem hok (by simp [opnds]))
    rw [hx] at hvl
    rw [hy] at hvc
    obtain ⟨cs, hrun, hzl, hrow⟩ := make_run (P := P) (w := w) (Z := Z) he hi hz h0 (kl := kl) (kc := kc) q1 q2 q3 q4
    refine wp_value (v := .slice (some ⟨w.heap.size, 0, none⟩) x.toNat y.toNat) (w' := w.alloc (.cells cs e)) ?_ (new_own h hdst ⟨_, _, _, rfl⟩ (H' := eput st.heap st.nx (.row i.size (List.replicate x.toNat z))) ?_ hG (fun _ => (Below.refl _ _).alloc (Nat.le_refl _) _) hs)
    · unfold execOp; rw [ho]
      simp only [Sem.run_bind, hvl.int_inv, hvc.int_inv, hrun, Result.andThen_ok, Sem.run_pure]
    · refine h.h.new ((Below.refl _ _).alloc (Nat.le_refl _) _) (hrow _ (heap_alloc_new w _)) trivial (fun k hk => ?_)
      simp only [blk] at hk
      split at hk
      · cases hk
      · cases hk; exact Nat.le_refl _
  | store t x y =>
    rw [ho] at hc
    simp only [cop] at hc
    split at hc <;> simp only [Option.some.injEq, reduceCtorEq] at hc
    rename_i n X Y hn hX hY
    subst hc
    simp only [aloud1] at hs
    obtain ⟨⟨hlen, h0⟩, hs⟩ := hs
    have hvx := h.vr hX (oks_mem hok (by simp [opnds]))
    have hvy := h.vr hY (oks_mem hok (by simp [opnds]))
    have hly := h.lr hY (oks_mem hok (by simp [opnds]))
    have hno : sb = true → False := fun h => by rw [h] at hsb; cases hsb
    have fin : ∀ {w' : World} {H' : List (Nat × Ob)}, (Instr.storeAt t (a.eval x) (a.eval y)).run P w = .ok () w' → RelH B s Z H' st.nx w' → K ⟨putO st.env o.dst .any, H', st.nx⟩ → o.wp P a w K' Q := fun hrun hH hK => by
      refine wp_skp (by unfold execOp; rw [ho]; simp only [Sem.run_bind, hrun, Result.andThen_ok, Sem.run_pure]) (hG _ _ _ _ _ (fun h => (hno h).elim) hK (h.step hdst (fun _ _ => rfl) (fun _ _ _ h => h) (Nat.le_refl _) ?_ ?_ hH))
      · trivial
      · trivial
    generalize evS st.env Y = dy at *
    cases hX' : evS st.env X with
    | ptr id j =>
      rw [hX'] at hs hvx
      simp only [aloud1] at hs
      split at hs
      · rename_i ds hh
        obtain ⟨hj, hK⟩ := hs
        obtain ⟨w', hrun, hH⟩ := store_cells (P := P) h.h hn hvx hh hvy hly hlen h0 hj
        exact fin hrun hH hK
      · exact hs.elim
    | pel id i sz j =>
      rw [hX'] at hs hvx
      simp only [aloud1] at hs
      have hmem : ∀ {xs : List (List D)}, i < xs.length → ∀ row ∈ xs.set i (splice (xs.getD i []) j dy.cells), ∀ d ∈ row, (∃ row' ∈ xs, d ∈ row') ∨ d ∈ dy.cells := fun {xs} hi row hr d hd => by
        rcases List.mem_or_eq_of_mem_set hr with hr | rfl
        · exact .inl ⟨row, hr, hd⟩
        · rcases splice_mem hd with hd | hd
          · refine .inl ⟨xs.getD i [], ?_, hd⟩
            rw [List.getD_eq_getElem?_getD, List.getElem?_eq_getElem hi]; exact List.getElem_mem hi
          · exact .inr hd
      split at hs
      · rename_i sz' xs hh
        obtain ⟨⟨rfl, hi, hj, hall⟩, hK⟩ := hs
        obtain ⟨w', hrun, hH⟩ := store_row (P := P) (R := VT Z) (Ob.row sz) (fun _ _ _ => rfl) h.h hn hvx hh hvy (fun q hq u hu => VC.vt hu (List.all_eq_true.1 hall q hq)) hlen h0 hi hj trivial
        exact fin hrun hH hK
      · rename_i sz' xs hh
        obtain ⟨⟨rfl, hi, hj⟩, hK⟩ := hs
        obtain ⟨w', hrun, hH⟩ := store_row (P := P) (R := VC s Z) (Ob.rowd sz) (fun _ _ _ => rfl) h.h hn hvx hh hvy (fun q hq u hu => hu) hlen h0 hi hj (fun row hr d hd => by
          rcases hmem hi row hr d hd with ⟨row', hr', hd'⟩ | hd'
          · exact (h.h.lt _ _ hh).2 row' hr' d hd'
          · exact LtR.cells hly d hd')
        exact fin hrun hH hK
      · exact hs.elim
    | _ => rw [hX'] at hs; exact hs.elim
  | call c =>
    obtain ⟨cal, ars, ats⟩ := c
    obtain ⟨ars⟩ := ars
    obtain ⟨ats⟩ := ats
    rw [ho] at hc
    simp only [cop] at hc
    cases cal with
    | invoke _ _ => cases hc
    | value f =>
      simp only at hc
      split at hc <;> simp only [Option.some.injEq, reduceCtorEq] at hc
      · rename_i f' ys hys
        subst hc
        exact hs.elim
      · rename_i t ys hys
        subst hc
        exact hs.elim
    | builtin b =>
      simp only at hc
      cases hys : opdsC ars with
      | none => rw [hys] at hc; cases b <;> simp at hc
      | some ys =>
        rw [hys] at hc
        have no : isLoud ao = false → o.wp P a w K' Q := fun hn => by cases ao <;> first | exact hs.elim | cases hn
        split at hc
        · rename_i X t hb1 hb2 hb3
          split at hc
          · simp only [Option.some.injEq] at hc; subst hc; exact no rfl
          · simp only [Option.some.injEq] at hc; subst hc; exact no rfl
          · split at hc <;> simp only [Option.some.injEq, reduceCtorEq] at hc; subst hc; exact no rfl
          · cases hc
        · simp only [Option.some.injEq] at hc; subst hc; exact no rfl
        · simp only [Option.some.injEq] at hc; subst hc; exact no rfl
        · rename_i X Y t t' hb2
          split at hc
          case isFalse => cases hc
          rename_i htt
          subst htt
          split at hc
          case h_2 => cases hc
          rename_i e he
          split at hc
          case h_2 => cases hc
          rename_i i z hi hz
          split at hc
          case isFalse => cases hc
          rename_i h0
          simp only [Option.some.injEq] at hc
          subst hc
          simp only [Option.some.injEq] at hb2
          subst hb2
          obtain ⟨x, y, rfl⟩ : ∃ x y, ars = [x, y] := list_two (by have := (opdsC_sound h.evE ars _ hys).1; simpa using this.symm)
          simp only [opdsC] at hys
          have hX : opdC x = some X ∧ opdC y = some Y := by
            cases hx : opdC x <;> cases hy : opdC y <;> rw [hx, hy] at hys <;> simp at hys ⊢
            exact hys
          obtain ⟨hX, hY⟩ := hX
          have hvx := h.vr hX (oks_mem hok (by simp [opnds]))
          have hvy := h.vr hY (oks_mem hok (by simp [opnds]))
          have hlx := h.lr hX (oks_mem hok (by simp [opnds]))
          simp only [aloud1] at hs
          obtain ⟨hby, hs⟩ := hs
          have hno : sb = true → False := fun h => by rw [h] at hsb; cases hsb
          split at hs
          case h_2 => exact hs.elim
          rename_i ty sy ys hsl
          obtain ⟨⟨hsy, hrow⟩, hs⟩ := hs
          obtain ⟨i', v, hi', hv, hsz, hvc, _⟩ := zeroT_sound (s := s) (Z := Z) hz
          obtain rfl : i' = i := Option.some.inj (hi'.symm.trans hi)
          have hu := sliceT_some he
          have hat : SlAt (if ty then VT Z else VC s Z) w i'.size ys (a.eval y) := by
            have := slD_at h.h.know hvy hsl
            rcases hsy with rfl | rfl
            · exact this
            · obtain ⟨q, cap, h1, h2, _⟩ := this
              exact ⟨q, cap, h1, h2, fun h => by simp at h⟩
          have hlty : ty = false → ∀ row ∈ ys, ∀ d ∈ row, LtC st.nx d := fun hty row hr d hd => by
            subst hty
            unfold slD at hsl
            split at hsl <;> (try simp only [Option.some.injEq, Prod.mk.injEq, reduceCtorEq] at hsl)
            · exact absurd hsl.1 (by simp)
            · exact absurd hsl.1 (by simp)
            · split at hsl <;> simp only [Option.some.injEq, Prod.mk.injEq, reduceCtorEq] at hsl
              · exact absurd hsl.1 (by simp)
              · rename_i hh
                obtain ⟨_, rfl, rfl⟩ := hsl
                exact (h.h.lt _ _ hh).2 row hr d hd
          have hexec : ∀ {v' : Value} {w' : World}, (Builtin.append_ #[t, t] o.type #[a.eval x, a.eval y]).run P w = .ok v' w' → (execOp a.eval o).run P w = .ok (.value v') w' := fun hrun => by
            unfold execOp; rw [ho]
            simp only [resolve, invoke, builtin, Sem.run_bind, Sem.run_pure, Result.andThen_ok, List.map_toArray, List.map_cons, List.map_nil, hrun]
          have one : ∀ d q, VC s Z d q → q.oneCell' = true := fun d q hq => hq.one
          have oneT : ∀ d q, VT Z d q → q.oneCell' = true := fun d q hq => hq.one
          cases hX' : evS st.env X with
          | nil0 =>
            rw [hX'] at hs hvx
            simp only [aloud1] at hs
            obtain ⟨hlen, hK⟩ := hs
            generalize hax : a.eval x = vx at *
            cases hvx with
            | nil0 q =>
            cases ty with
            | true =>
              obtain ⟨v', w', hrun, hg, hr, hbl, hsv⟩ := append_run (P := P) (w := w) (R := VT Z) (R1 := VT Z) (R2 := VT Z) (ty := o.type) hu hi hv (by omega) h0 hby (fun _ _ h => h) (fun _ _ h => h) oneT (xs := []) (.inl ⟨rfl, q, rfl⟩) hat hrow (by simpa using hlen)
              refine wp_value (hexec hrun) (new_own h hdst hsv (H' := eput st.heap st.nx (.row i'.size ys)) ?_ hG (fun h => (hno h).elim) hK)
              have hb : Below w.heap.size w w' := ⟨hg.os, hg.tape, hg.output, hg.size, fun k hk => hg.block k hk (by cases q <;> simp [blk])⟩
              exact h.h.new hb hr trivial (blk0 hbl)
            | false =>
              obtain ⟨v', w', hrun, hg, hr, hbl, hsv⟩ := append_run (P := P) (w := w) (R := VC s Z) (R1 := VC s Z) (R2 := VC s Z) (ty := o.type) hu hi hv (by omega) h0 hby (fun _ _ h => h) (fun _ _ h => h) one (xs := []) (.inl ⟨rfl, q, rfl⟩) hat hrow (by simpa using hlen)
              refine wp_value (hexec hrun) (new_own h hdst hsv (H' := eput st.heap st.nx (.rowd i'.size ys)) ?_ hG (fun h => (hno h).elim) hK)
              have hb : Below w.heap.size w w' := ⟨hg.os, hg.tape, hg.output, hg.size, fun k hk => hg.block k hk (by cases q <;> simp [blk])⟩
              have hl := hlty rfl
              refine h.h.new hb (RowOk.mono hr (fun _ _ => rfl) fun row hr d hd u hu => VC.mono (fun _ _ _ h => h) (upd_lt s st.nx _) (hl row (by simpa using hr) d hd) hu) (fun row hr d hd => (hl row hr d hd).mono (by omega)) (blk0 hbl)
          | own id =>
            rw [hX'] at hs hvx hlx
            simp only [aloud1] at hs
            obtain ⟨hvx1, _⟩ := hvx
            have fin : ∀ (R : D → Value → Prop) (ob : Ob) (xs : List (List D)) (v' : Value) (w' : World), hget st.heap id = some ob → (Builtin.append_ #[t, t] o.type #[a.eval x, a.eval y]).run P w = .ok v' w' → w.grownBy w' (blk (a.eval x)) → (∀ k, blk v' = some k → w.heap.size ≤ k ∨ blk (a.eval x) = some k) → (∃ q n c, v' = .slice q n c) →
                ∀ ob', ObOk (upd s st.nx v') Z w' ob' v' → LtO (st.nx + 1) ob' → K ⟨putO st.env o.dst (.own st.nx), eput (herase st.heap id) st.nx ob', st.nx + 1⟩ → o.wp P a w K' Q := fun R ob xs v' w' hh hrun hg hbl hsv ob' hob hlt hK => by
              rw [hvx1] at hg hbl
              exact wp_value (hexec hrun) (new_own h hdst hsv (h.h.move hh hg hob hlt hbl) hG (fun h => (hno h).elim) hK)
            split at hs
            · rename_i sx xs hh
              obtain ⟨⟨rfl, hlen⟩, hK⟩ := hs
              have hro : RowOk (VT Z) w i'.size xs (a.eval x) := by rw [hvx1]; exact h.h.ob _ _ hh
              cases ty with
              | true =>
                obtain ⟨v', w', hrun, hg, hr, hbl, hsv⟩ := append_run (P := P) (w := w) (R := VT Z) (R1 := VT Z) (R2 := VT Z) (ty := o.type) hu hi hv (by omega) h0 hby (fun _ _ h => h) (fun _ _ h => h) oneT (.inr hro) hat hrow hlen
                exact fin (VT Z) _ xs v' w' hh hrun hg hbl hsv (.row i'.size (xs ++ ys)) hr trivial hK
              | false =>
                obtain ⟨v', w', hrun, hg, hr, hbl, hsv⟩ := append_run (P := P) (w := w) (R := VC s Z) (R1 := VT Z) (R2 := VC s Z) (ty := o.type) hu hi hv (by omega) h0 hby (fun _ _ h => VC.of_vt h) (fun _ _ h => h) one (.inr hro) hat hrow hlen
                have hl := hlty rfl
                have hxl : ∀ row ∈ xs, ∀ d ∈ row, LtC st.nx d := fun row hr d hd => by
                  obtain ⟨i, hi⟩ := List.getElem?_of_mem hr
                  obtain ⟨j, hj⟩ := List.getElem?_of_mem hd
                  obtain ⟨q, cap, h1, h2, h3⟩ := hro.at
                  obtain ⟨b, off, rfl, hc⟩ := h3 (by have := (List.getElem?_eq_some_iff.1 hi).1; omega)
                  obtain ⟨u, _, hu⟩ := hc i row j d hi hj
                  exact hu.lt.1.mono (Nat.zero_le _)
                have hboth : ∀ row ∈ xs ++ ys, ∀ d ∈ row, LtC st.nx d := fun row hr => by
                  rcases List.mem_append.1 hr with h1 | h1
                  · exact hxl row h1
                  · exact hl row h1
                exact fin (VC s Z) _ xs v' w' hh hrun hg hbl hsv (.rowd i'.size (xs ++ ys)) (RowOk.mono (R' := VC (upd s st.nx v') Z) hr (fun _ _ => rfl) fun row hr d hd u hu => VC.mono (fun _ _ _ h => h) (upd_lt s st.nx _) (hboth row hr d hd) hu) (fun row hr d hd => (hboth row hr d hd).mono (by omega)) hK
            · rename_i sx xs hh
              obtain ⟨⟨rfl, hlen⟩, hK⟩ := hs
              have hro : RowOk (VC s Z) w i'.size xs (a.eval x) := by rw [hvx1]; exact h.h.ob _ _ hh
              have hat' : SlAt (VC s Z) w i'.size ys (a.eval y) := by
                cases ty with
                | true =>
                  obtain ⟨q, cap, h1, h2, h3⟩ := hat
                  exact ⟨q, cap, h1, h2, fun h => by obtain ⟨b, off, h4, h5⟩ := h3 h; exact ⟨b, off, h4, fun i row j d hi hj => by obtain ⟨u, h6, h7⟩ := h5 i row j d hi hj; exact ⟨u, h6, VC.of_vt h7⟩⟩⟩
                | false => exact hat
              obtain ⟨v', w', hrun, hg, hr, hbl, hsv⟩ := append_run (P := P) (w := w) (R := VC s Z) (R1 := VC s Z) (R2 := VC s Z) (ty := o.type) hu hi hv (by omega) h0 hby (fun _ _ h => h) (fun _ _ h => h) one (.inr hro) hat' hrow hlen
              have hyl : ∀ row ∈ ys, ∀ d ∈ row, LtC st.nx d := fun row hr d hd => by
                cases ty with
                | false => exact hlty rfl row hr d hd
                | true =>
                  obtain ⟨i, hi⟩ := List.getElem?_of_mem hr
                  obtain ⟨j, hj⟩ := List.getElem?_of_mem hd
                  obtain ⟨q, cap, h1, h2, h3⟩ := hat
                  obtain ⟨b, off, rfl, hc⟩ := h3 (by have := (List.getElem?_eq_some_iff.1 hi).1; omega)
                  obtain ⟨u, _, hu⟩ := hc i row j d hi hj
                  exact (VT.lt (Z := Z) hu).1.mono (Nat.zero_le _)
              have hboth : ∀ row ∈ xs ++ ys, ∀ d ∈ row, LtC st.nx d := fun row hr => by
                rcases List.mem_append.1 hr with h1 | h1
                · exact fun d hd => (h.h.lt _ _ hh).2 row h1 d hd
                · exact hyl row h1
              exact fin (VC s Z) _ xs v' w' hh hrun hg hbl hsv (.rowd i'.size (xs ++ ys)) (RowOk.mono (R' := VC (upd s st.nx v') Z) hr (fun _ _ => rfl) fun row hr d hd u hu => VC.mono (fun _ _ _ h => h) (upd_lt s st.nx _) (hboth row hr d hd) hu) (fun row hr d hd => (hboth row hr d hd).mono (by omega)) hK
            · exact hs.elim
          | _ => rw [hX'] at hs; exact hs.elim
        · cases hc
  | _ =>
    have hn := cop_quiet (P := P) (o := o.op) (by rw [ho]; exact fun h => h) (by rw [ho]; rw [ho] at hc; exact hc)
    cases ao <;> first | exact hs.elim | cases hn
end
end Go.Proofs.Ytfkeddefajkobaa
