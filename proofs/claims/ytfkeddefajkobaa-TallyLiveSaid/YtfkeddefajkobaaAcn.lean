/- This text proves that memory of one's own that is written no more may be read as data ('Gh.freeze'). It has no condition of its own. -/
import Derived.Test.YtfkeddefajkobaaAcm
set_option linter.unusedSimpArgs false
set_option linter.unusedVariables false
namespace Go.Proofs.Ytfkeddefajkobaa
open Go.RowKit

def hkeep (ids : List Nat) : List (Nat × Ob) → List (Nat × Ob)
  | [] => []
  | (k, o) :: t => if ids.contains k then (k, o) :: hkeep ids t else hkeep ids t
def hdrop (ids : List Nat) : List (Nat × Ob) → List (Nat × Ob)
  | [] => []
  | (k, o) :: t => if ids.contains k then hdrop ids t else (k, o) :: hdrop ids t
theorem hget_hkeep (ids : List Nat) (id : Nat) : ∀ H, hget (hkeep ids H) id = if ids.contains id then hget H id else none
  | [] => by simp [hkeep, hget]
  | (k, o) :: t => by
    simp only [hkeep]
    split
    · rename_i hk
      simp only [hget, hget_hkeep ids id t]
      by_cases h : id = k
      · subst h; rw [if_pos rfl, if_pos hk, if_pos rfl]
      · rw [if_neg h, if_neg h]
    · rename_i hk
      rw [hget_hkeep ids id t]
      by_cases h : id = k
      · subst h; rw [if_neg hk, if_neg hk]
      · simp only [hget, if_neg h]
theorem hget_hdrop (ids : List Nat) (id : Nat) : ∀ H, hget (hdrop ids H) id = if ids.contains id then none else hget H id
  | [] => by simp [hdrop, hget]
  | (k, o) :: t => by
    simp only [hdrop]
    split
    · rename_i hk
      rw [hget_hdrop ids id t]
      by_cases h : id = k
      · subst h; rw [if_pos hk, if_pos hk]
      · simp only [hget, if_neg h]
    · rename_i hk
      simp only [hget, hget_hdrop ids id t]
      by_cases h : id = k
      · subst h; rw [if_pos rfl, if_neg hk, if_pos rfl]
      · rw [if_neg h, if_neg h]
def fzC (H : List (Nat × Ob)) (d : D) : D := match brwC H 4 d with | some e => e | none => d
def fzV (H : List (Nat × Ob)) : D → D
  | .agg ds => .agg (ds.map (fzC H))
  | d => fzC H d
def fzR (H : List (Nat × Ob)) : D → D
  | .tup ds => .tup (ds.map (fzV H))
  | .any => .any
  | d => fzV H d
def fzS (H : List (Nat × Ob)) : D → D
  | .opt g d => .opt g (fzR H d)
  | d => fzR H d
def fzO (H : List (Nat × Ob)) : Ob → Ob
  | .cells ds => .cells (ds.map (fzC H))
  | .rowd sz xs => .rowd sz (xs.map (List.map (fzC H)))
  | o => o
def freeze (ids : List Nat) (st : St) : St :=
  ⟨st.env.map fun p => (p.1, fzS (hkeep ids st.heap) p.2), (hdrop ids st.heap).map fun p => (p.1, fzO (hkeep ids st.heap) p.2), st.nx⟩
theorem eget_map (f : D → D) (hf : f .any = .any) (k : Nat) : ∀ (l : List (Nat × D)), eget (l.map fun p => (p.1, f p.2)) k = f (eget l k)
  | [] => by simp [eget, hf]
  | (j, d) :: t => by
    simp only [List.map_cons, eget]
    split
    · rfl
    · exact eget_map f hf k t
theorem hget_map (f : Ob → Ob) (k : Nat) : ∀ (l : List (Nat × Ob)), hget (l.map fun p => (p.1, f p.2)) k = (hget l k).map f
  | [] => rfl
  | (j, d) :: t => by
    simp only [List.map_cons, hget]
    split
    · rfl
    · exact hget_map f k t
theorem VT.ltN {Z : Cells} {d : D} {v : Value} (n : Nat) (h : VT Z d v) : LtC n d := by cases h <;> trivial
theorem VC.vt_agg {s : Nat → Value} {Z : Cells} {ds : List D} {v : Value} (h : VC s Z (.agg ds) v) : False := by cases h
theorem VC.vt_tup {s : Nat → Value} {Z : Cells} {ds : List D} {v : Value} (h : VC s Z (.tup ds) v) : False := by cases h
theorem VC.vt_opt {s : Nat → Value} {Z : Cells} {g : Bool} {d : D} {v : Value} (h : VC s Z (.opt g d) v) : False := by cases h
theorem RowOk.map {R R' : D → Value → Prop} {w : World} {sz : Nat} {xs : List (List D)} {v : Value} (f : D → D) (h : RowOk R w sz xs v) (hR : ∀ row ∈ xs, ∀ d ∈ row, ∀ u, R d u → R' (f d) u) : RowOk R' w sz (xs.map (List.map f)) v := by
  obtain ⟨h1, h2, h3⟩ := h
  refine ⟨h1, fun row hr => ?_, ?_⟩
  · obtain ⟨r, hr', rfl⟩ := List.mem_map.1 hr
    simpa using h2 r hr'
  · rcases h3 with ⟨rfl, a, h4⟩ | ⟨g, cap, cur, e, h3, h4, h5, h6, h7, h8⟩
    · exact .inl ⟨rfl, a, h4⟩
    · refine .inr ⟨g, cap, cur, e, by simpa using h3, h4, by simpa using h5, h6, h7, fun i row j d hi hj => ?_⟩
      obtain ⟨r, hr', rfl⟩ := (map_get _ _ _ _).1 hi
      obtain ⟨x, hx, rfl⟩ := (map_get _ _ _ _).1 hj
      exact hR r (List.mem_of_getElem? hr') x (List.mem_of_getElem? hx) _ (h8 i r j x hr' hx)
section
variable {B : Base} {st : St}
theorem Gh.freeze (ids : List Nat) : Gh B st (freeze ids st) := by
  intro s Z a w hr
  obtain ⟨Hf, hHf⟩ : ∃ Hf, Hf = hkeep ids st.heap := ⟨_, rfl⟩
  have hsub : ∀ id ob, hget Hf id = some ob → hget st.heap id = some ob ∧ ids.contains id = true := fun id ob h => by
    rw [hHf, hget_hkeep] at h
    split at h
    · rename_i hc; exact ⟨h, hc⟩
    · cases h
  have hknow : Know s Z Hf w := ⟨fun id ob h => hr.h.ob id ob (hsub id ob h).1, hr.h.zok⟩
  classical
  let Zp : Cells := fun b o => if ∃ id ob, hget Hf id = some ob ∧ blk (s id) = some b then w.cell? ⟨b, o, none⟩ else Z b o
  have hz : ∀ b o v, Z b o = some v → Zp b o = some v := fun b o v hv => by
    show (if _ then _ else _) = _
    split
    · rename_i h
      obtain ⟨id, ob, h1, h2⟩ := h
      have := hr.h.zap id ob b o (hsub id ob h1).1 h2
      rw [this] at hv; cases hv
    · exact hv
  have hp : ∀ id ob b, hget Hf id = some ob → blk (s id) = some b → ∀ o v, w.cell? ⟨b, o, none⟩ = some v → Zp b o = some v := fun id ob b h1 h2 o v hv => by
    show (if _ then _ else _) = _
    rw [if_pos ⟨id, ob, h1, h2⟩]; exact hv
  have kC : ∀ d v, LtC st.nx d → VC s Z d v → VC s Zp (fzC Hf d) v ∧ LtC st.nx (fzC Hf d) := fun d v hl hv => by
    unfold fzC
    cases hb : brwC Hf 4 d with
    | some e =>
      have := brwC_sound hknow hz hp 4 d e v hb hv
      exact ⟨VC.of_vt this, VT.ltN _ this⟩
    | none => exact ⟨VC.mono hz (fun _ _ => rfl) hl hv, hl⟩
  have toV : ∀ e v, VC s Zp e v → LtC st.nx e → VV s Zp e v ∧ LtV st.nx e := fun e v h1 h2 => by
    refine ⟨VV.of_vc h1, ?_⟩
    cases e <;> first | exact h2 | exact (VC.vt_agg (s := s) (Z := Zp) h1).elim
  have kV : ∀ d v, LtV st.nx d → VV s Z d v → VV s Zp (fzV Hf d) v ∧ LtV st.nx (fzV Hf d) := fun d v hl hv => by
    have one : LtC st.nx d → VC s Z d v → VV s Zp (fzC Hf d) v ∧ LtV st.nx (fzC Hf d) := fun h1 h2 => by
      obtain ⟨g1, g2⟩ := kC d v h1 h2
      exact toV _ _ g1 g2
    cases d with
    | agg ds =>
      obtain ⟨vs, rfl, h1, h2⟩ := hv
      refine ⟨⟨vs, rfl, by simpa using h1, fun j x hx => ?_⟩, fun x hx => ?_⟩
      · obtain ⟨y, hy, rfl⟩ := (map_get _ _ _ _).1 hx
        exact (kC y _ (hl y (List.mem_of_getElem? hy)) (h2 j y hy)).1
      · obtain ⟨y, hy, rfl⟩ := List.mem_map.1 hx
        obtain ⟨j, hj⟩ := List.getElem?_of_mem hy
        exact (kC y _ (hl y hy) (h2 j y hj)).2
    | _ => exact one hl hv
  have toR : ∀ e v, VV s Zp e v → LtV st.nx e → VR s Zp e v ∧ LtR st.nx e := fun e v h1 h2 => by
    refine ⟨VR.of_vv h1, ?_⟩
    cases e <;> first | exact h2 | exact (VC.vt_tup (s := s) (Z := Zp) h1).elim
  have kR : ∀ d v, LtR st.nx d → VR s Z d v → VR s Zp (fzR Hf d) v ∧ LtR st.nx (fzR Hf d) := fun d v hl hv => by
    have one : LtV st.nx d → VV s Z d v → VR s Zp (fzV Hf d) v ∧ LtR st.nx (fzV Hf d) := fun h1 h2 => by
      obtain ⟨g1, g2⟩ := kV d v h1 h2
      exact toR _ _ g1 g2
    cases d with
    | tup ds =>
      obtain ⟨vs, rfl, h1, h2⟩ := hv
      refine ⟨⟨vs, rfl, by simpa using h1, fun j x hx => ?_⟩, fun x hx => ?_⟩
      · obtain ⟨y, hy, rfl⟩ := (map_get _ _ _ _).1 hx
        exact (kV y _ (hl y (List.mem_of_getElem? hy)) (h2 j y hy)).1
      · obtain ⟨y, hy, rfl⟩ := List.mem_map.1 hx
        obtain ⟨j, hj⟩ := List.getElem?_of_mem hy
        exact (kV y _ (hl y hy) (h2 j y hj)).2
    | any => exact ⟨trivial, trivial⟩
    | _ => exact one hl hv
  have kS : ∀ d v, LtS st.nx d → VS s Z d v → VS s Zp (fzS Hf d) v ∧ LtS st.nx (fzS Hf d) := fun d v hl hv => by
    have one : LtR st.nx d → VR s Z d v → VS s Zp (fzR Hf d) v ∧ LtS st.nx (fzR Hf d) := fun h1 h2 => by
      obtain ⟨g1, g2⟩ := kR d v h1 h2
      exact ⟨VS.of_vr g1, LtS.of_r g2 (VR.no_opt g1)⟩
    cases d with
    | opt g d => exact ⟨⟨fun hg => (kR d v (hl hg) (hv.1 hg)).1, hv.2⟩, fun hg => (kR d v (hl hg) (hv.1 hg)).2⟩
    | _ => exact one hl hv
  have hgo : ∀ id ob, hget (Go.Proofs.Ytfkeddefajkobaa.freeze ids st).heap id = some ob → ∃ ob0, hget st.heap id = some ob0 ∧ ids.contains id = false ∧ ob = fzO Hf ob0 := fun id ob h => by
    have h : hget ((hdrop ids st.heap).map fun p => (p.1, fzO (hkeep ids st.heap) p.2)) id = some ob := h
    rw [hget_map, hget_hdrop, ← hHf] at h
    cases hc : ids.contains id with
    | true => rw [if_pos hc] at h; cases h
    | false =>
      rw [if_neg (by rw [hc]; exact Bool.false_ne_true)] at h
      cases hq : hget st.heap id with
      | none => rw [hq] at h; cases h
      | some ob0 =>
        rw [hq] at h
        simp only [Option.map_some, Option.some.injEq] at h
        exact ⟨ob0, rfl, rfl, h.symm⟩
  refine ⟨s, Zp, ⟨fun k => ?_, fun k => ?_, hr.size, hr.defers, ?_⟩⟩
  · show VS s Zp (eget (st.env.map fun p => (p.1, fzS (hkeep ids st.heap) p.2)) k) _
    rw [eget_map _ rfl, ← hHf]
    exact (kS _ _ (hr.elt k) (hr.env k)).1
  · show LtS st.nx (eget (st.env.map fun p => (p.1, fzS (hkeep ids st.heap) p.2)) k)
    rw [eget_map _ rfl, ← hHf]
    exact (kS _ _ (hr.elt k) (hr.env k)).2
  · constructor
    · intro id ob h
      obtain ⟨ob0, h1, h2, rfl⟩ := hgo id ob h
      have h3 := hr.h.ob id ob0 h1
      have h4 := (hr.h.lt id ob0 h1).2
      cases ob0 with
      | cells ds =>
        obtain ⟨b, T, cs, g1, g2, g3, g4⟩ := h3
        refine ⟨b, T, cs, g1, g2, by simpa using g3, fun j x hx => ?_⟩
        obtain ⟨y, hy, rfl⟩ := (map_get _ _ _ _).1 hx
        exact (kC y _ (h4 y (List.mem_of_getElem? hy)) (g4 j y hy)).1
      | row sz xs => exact RowOk.mono h3 (fun _ _ => rfl) (fun _ _ _ _ _ h => VT.mono hz h)
      | rowd sz xs => exact RowOk.map _ h3 fun row hrow d hd u hu => (kC d u (h4 row hrow d hd) hu).1
      | mp bare es ck => exact h3
      | it m since seen last => exact h3
    · intro id ob h
      obtain ⟨ob0, h1, h2, rfl⟩ := hgo id ob h
      have h3 := hr.h.ob id ob0 h1
      have h4 := hr.h.lt id ob0 h1
      refine ⟨h4.1, ?_⟩
      cases ob0 with
      | cells ds =>
        obtain ⟨b, T, cs, g1, g2, g3, g5⟩ := h3
        intro x hx
        obtain ⟨y, hy, rfl⟩ := List.mem_map.1 hx
        obtain ⟨j, hj⟩ := List.getElem?_of_mem hy
        exact (kC y _ (h4.2 y hy) (g5 j y hj)).2
      | row sz xs => trivial
      | rowd sz xs =>
        intro row hrow x hx
        obtain ⟨r, hr', rfl⟩ := List.mem_map.1 hrow
        obtain ⟨y, hy, rfl⟩ := List.mem_map.1 hx
        rcases h3.2.2 with ⟨rfl, _⟩ | ⟨g, cap, cur, e, _, _, _, _, _, h8⟩
        · cases hr'
        · obtain ⟨i, hi⟩ := List.getElem?_of_mem hr'
          obtain ⟨j, hj⟩ := List.getElem?_of_mem hy
          exact (kC y _ (h4.2 r hr' y hy) (h8 i r j y hi hj)).2
      | mp bare es ck => trivial
      | it m since seen last => exact h4.2
    · intro id id' ob ob' b h h' hne hb
      obtain ⟨o1, h1, _, _⟩ := hgo id ob h
      obtain ⟨o2, h2, _, _⟩ := hgo id' ob' h'
      exact hr.h.apart id id' o1 o2 b h1 h2 hne hb
    · intro b o v hv
      have hv : (if ∃ id ob, hget Hf id = some ob ∧ blk (s id) = some b then w.cell? ⟨b, o, none⟩ else Z b o) = some v := hv
      split at hv
      · exact hv
      · exact hr.h.zok b o v hv
    · intro id ob b o h hb
      obtain ⟨o1, h1, h2, _⟩ := hgo id ob h
      show (if _ then _ else _) = _
      rw [if_neg, hr.h.zap id o1 b o h1 hb]
      rintro ⟨id', ob', h3, h4⟩
      obtain ⟨h5, h6⟩ := hsub id' ob' h3
      refine hr.h.apart id id' o1 ob' b h1 h5 ?_ hb h4
      rintro rfl
      rw [h2] at h6; cases h6
    · intro id ob b h hb
      obtain ⟨o1, h1, _, _⟩ := hgo id ob h
      exact hr.h.mine id o1 b h1 hb
    · exact hr.h.fr
    · exact hr.h.n0
    · exact hr.h.bs
    · exact fun b o v hv => hz b o v (hr.h.bz b o v hv)
    · intro b o v hv
      have hv : (if ∃ id ob, hget Hf id = some ob ∧ blk (s id) = some b then w.cell? ⟨b, o, none⟩ else Z b o) = some v := hv
      split at hv
      · rename_i h
        obtain ⟨id, ob, h1, h2⟩ := h
        exact .inr (hr.h.mine id ob b (hsub id ob h1).1 h2)
      · exact hr.h.bn b o v hv
/-- a state in which some numbers are data: what simp makes of it -/
theorem W.freeze {P : Program} {hw : List FuncId} {c : AC} {Q : Ex → St → Prop} (ids : List Nat) (h : W P B hw c Q (Go.Proofs.Ytfkeddefajkobaa.freeze ids st)) : W P B hw c Q st := W.gh (Gh.freeze ids) h
end
end Go.Proofs.Ytfkeddefajkobaa
