/- What the program computes, step by step, and the rules for it. No condition of its own. -/
import Derived.Test.YtbhcfldafpndbaaDoorLac
import Derived.WalkKit
import Derived.ProofKit
import Derived.Handy
import Derived.WalkLawsBesides
import Derived.Lib.Hide
import Derived.Deep.RegionHeld3
import Derived.Deep.QuietTactic
import Derived.BigQuiet
import Derived.Deep.LoopGhost
import Derived.Outline
import Derived.Scope
import Derived.KernelRfl
import Derived.Deep.AppendLies
import Derived.Deep.OwnShut
import Derived.Deep.Slices
import Derived.Deep.Onto
import Derived.Laws.AppendOwnNone
import Derived.Lib.Split
import Derived.Lib.AtoiAll
import Derived.Lib.ItoaNum
import Derived.Lib.ItoaLen
set_option linter.unusedSimpArgs false
set_option linter.unusedVariables false
set_option maxRecDepth 100000
set_option maxHeartbeats 8000000
namespace Go.Proofs.YtbhcfldafpndbaaDoor
open Go.ChangeShapes Go.WideShapes Go.ChangeAt Go.RowKit
def pickedZ (n many : Int) : Int := (if n < 0 then -(n+1) else n) % many
theorem pickedZ_range (n many : Int) (h : 1 ≤ many) : 0 ≤ pickedZ n many ∧ pickedZ n many < many := by
 unfold pickedZ
 exact ⟨Int.emod_nonneg _ (by omega),Int.emod_lt_of_pos _ (by omega)⟩
end Go.Proofs.YtbhcfldafpndbaaDoor
namespace Go.Proofs.YtbhcfldafpndbaaDoor
open Go.RowKit
section
variable {P : Program} {B : Base} {hw : List FuncId} {Q Q' : Ex → St → Prop} {st st1 : St} {s : Nat → Value} {Z : Cells} {a : Act} {w : World}
theorem Gh.refl (st : St) : Gh B st st := fun s Z _ _ h => ⟨s,Z,h⟩
theorem Gh.trans {st2 : St} (h : Gh B st st1) (g : Gh B st1 st2) : Gh B st st2 := fun s Z a w hr => by
 obtain ⟨s',Z',h'⟩ := h s Z a w hr
 exact g s' Z' a w h'
theorem W.gh {c : AC} (hg : Gh B st st1) (h : W P B hw c Q st1) : W P B hw c Q st := fun hm code hc s Z a w hr => by
 obtain ⟨s',Z',hr'⟩ := hg s Z a w hr
 exact h hm code hc s' Z' a w hr'
end
section
variable {P : Program} {B : Base} {hw : List FuncId} {Q Q' : Ex → St → Prop} {st st1 : St} {sb : Bool} {K : St → Prop}
theorem Gh.of_eq (h : st = st1) : Gh B st st1 := h ▸ Gh.refl st
end
section
variable {B : Base} {st : St}
theorem Gh.adopt (k sz : Nat) (h0 : 0 < sz) (hk : eget st.env k = .nil0) : Gh B st ⟨eput st.env k (.own st.nx),eput st.heap st.nx (.row sz []),st.nx + 1⟩ := by
 intro s Z a w hr
 have hv := hr.env k
 rw [hk] at hv
 have hv : VT Z .nil0 (a.tmps.getD k undef) := hv
 generalize hav : a.tmps.getD k undef = v at hv
 cases hv with
 | nil0 q =>
 have hH := hr.h.new (w' := w) (v := .slice q 0 0) (ob := .row sz []) (Below.refl _ _) ⟨h0,(fun _ h => by cases h),.inl ⟨rfl,q,rfl⟩⟩ trivial (fun k hk => by cases q <;> simp [blk] at hk)
 refine ⟨_,Z,fun j => ?_,fun j => ?_,hr.size,hr.defers,hH⟩
 ·rw [eget_eput]
  split
  ·rename_i e;subst e;rw [hav];exact ⟨(upd_same _ _ _).symm,.inl ⟨q,0,0,rfl⟩⟩
  ·exact (hr.env j).mono (fun _ _ _ h => h) (upd_lt s st.nx _) (hr.elt j)
 ·rw [eget_eput]
  split
  ·exact Nat.lt_succ_self _
  ·exact (hr.elt j).mono (Nat.le_succ _)
end
def hkeep (ids : List Nat) : List (Nat × Ob) → List (Nat × Ob)
 | [] => []
 | (k,o) :: t => if ids.contains k then (k,o) :: hkeep ids t else hkeep ids t
def hdrop (ids : List Nat) : List (Nat × Ob) → List (Nat × Ob)
 | [] => []
 | (k,o) :: t => if ids.contains k then hdrop ids t else (k,o) :: hdrop ids t
theorem hget_hkeep (ids : List Nat) (id : Nat) : ∀ H,hget (hkeep ids H) id = if ids.contains id then hget H id else none
 | [] => by simp [hkeep,hget]
 | (k,o) :: t => by
  simp only [hkeep]
  split
  ·rename_i hk
   simp only [hget,hget_hkeep ids id t]
   by_cases h : id = k
   ·subst h;rw [if_pos rfl,if_pos hk,if_pos rfl]
   ·rw [if_neg h,if_neg h]
  ·rename_i hk
   rw [hget_hkeep ids id t]
   by_cases h : id = k
   ·subst h;rw [if_neg hk,if_neg hk]
   ·simp only [hget,if_neg h]
theorem hget_hdrop (ids : List Nat) (id : Nat) : ∀ H,hget (hdrop ids H) id = if ids.contains id then none else hget H id
 | [] => by simp [hdrop,hget]
 | (k,o) :: t => by
  simp only [hdrop]
  split
  ·rename_i hk
   rw [hget_hdrop ids id t]
   by_cases h : id = k
   ·subst h;rw [if_pos hk,if_pos hk]
   ·simp only [hget,if_neg h]
  ·rename_i hk
   simp only [hget,hget_hdrop ids id t]
   by_cases h : id = k
   ·subst h;rw [if_pos rfl,if_neg hk,if_pos rfl]
   ·rw [if_neg h,if_neg h]
def fzC (H : List (Nat × Ob)) (d : D) : D := match brwC H 4 d with | some e => e | none => d
def fzV (H : List (Nat × Ob)) : D → D
 | .agg ds => .agg (ds.map (fzC H))
 | d => fzC H d
def fzR (H : List (Nat × Ob)) : D → D
 | .tup ds => .tup (ds.map (fzV H))
 | .any => .any
 | d => fzV H d
def fzS (H : List (Nat × Ob)) : D → D
 | .opt g d => .opt g (fzR H d)
 | d => fzR H d
def fzO (H : List (Nat × Ob)) : Ob → Ob
 | .cells ds => .cells (ds.map (fzC H))
 | .rowd sz xs => .rowd sz (xs.map (List.map (fzC H)))
 | o => o
def freeze (ids : List Nat) (st : St) : St :=
 ⟨st.env.map fun p => (p.1,fzS (hkeep ids st.heap) p.2),(hdrop ids st.heap).map fun p => (p.1,fzO (hkeep ids st.heap) p.2),st.nx⟩
theorem eget_map (f : D → D) (hf : f .any = .any) (k : Nat) : ∀ (l : List (Nat × D)),eget (l.map fun p => (p.1,f p.2)) k = f (eget l k)
 | [] => by simp [eget,hf]
 | (j,d) :: t => by
  simp only [List.map_cons,eget]
  split
  ·rfl
  ·exact eget_map f hf k t
theorem hget_map (f : Ob → Ob) (k : Nat) : ∀ (l : List (Nat × Ob)),hget (l.map fun p => (p.1,f p.2)) k = (hget l k).map f
 | [] => rfl
 | (j,d) :: t => by
  simp only [List.map_cons,hget]
  split
  ·rfl
  ·exact hget_map f k t
theorem VT.ltN {Z : Cells} {d : D} {v : Value} (n : Nat) (h : VT Z d v) : LtC n d := by cases h <;> trivial
theorem VC.vt_agg {s : Nat → Value} {Z : Cells} {ds : List D} {v : Value} (h : VC s Z (.agg ds) v) : False := by cases h
theorem VC.vt_tup {s : Nat → Value} {Z : Cells} {ds : List D} {v : Value} (h : VC s Z (.tup ds) v) : False := by cases h
theorem RowOk.map {R R' : D → Value → Prop} {w : World} {sz : Nat} {xs : List (List D)} {v : Value} (f : D → D) (h : RowOk R w sz xs v) (hR : ∀ row ∈ xs,∀ d ∈ row,∀ u,R d u → R' (f d) u) : RowOk R' w sz (xs.map (List.map f)) v := by
 obtain ⟨h1,h2,h3⟩ := h
 refine ⟨h1,fun row hr => ?_,?_⟩
 ·obtain ⟨r,hr',rfl⟩ := List.mem_map.1 hr
  simpa using h2 r hr'
 ·rcases h3 with ⟨rfl,a,h4⟩ | ⟨g,cap,cur,e,h3,h4,h5,h6,h7,h8⟩
  ·exact .inl ⟨rfl,a,h4⟩
  ·refine .inr ⟨g,cap,cur,e,by simpa using h3,h4,by simpa using h5,h6,h7,fun i row j d hi hj => ?_⟩
   obtain ⟨r,hr',rfl⟩ := (map_get _ _ _ _).1 hi
   obtain ⟨x,hx,rfl⟩ := (map_get _ _ _ _).1 hj
   exact hR r (zD hr') x (zD hx) _ (h8 i r j x hr' hx)
section
variable {B : Base} {st : St}
theorem Gh.freeze (ids : List Nat) : Gh B st (freeze ids st) := by
 intro s Z a w hr
 obtain ⟨Hf,hHf⟩ : ∃ Hf,Hf = hkeep ids st.heap := ⟨_,rfl⟩
 have hsub : ∀ id ob,hget Hf id = some ob → hget st.heap id = some ob ∧ ids.contains id = true := fun id ob h => by
  rw [hHf,hget_hkeep] at h
  split at h
  ·rename_i hc;exact ⟨h,hc⟩
  ·cases h
 have hknow : Know s Z Hf w := ⟨fun id ob h => hr.h.ob id ob (hsub id ob h).1,hr.h.zok⟩
 classical
 let Zp : Cells := fun b o => if ∃ id ob,hget Hf id = some ob ∧ blk (s id) = some b then w.cell? ⟨b,o,none⟩ else Z b o
 have hz : ∀ b o v,Z b o = some v → Zp b o = some v := fun b o v hv => by
  show (if _ then _ else _) = _
  split
  ·rename_i h
   obtain ⟨id,ob,h1,h2⟩ := h
   have := hr.h.zap id ob b o (hsub id ob h1).1 h2
   rw [this] at hv;cases hv
  ·exact hv
 have hp : ∀ id ob b,hget Hf id = some ob → blk (s id) = some b → ∀ o v,w.cell? ⟨b,o,none⟩ = some v → Zp b o = some v := fun id ob b h1 h2 o v hv => by
  show (if _ then _ else _) = _
  rw [if_pos ⟨id,ob,h1,h2⟩];exact hv
 have kC : ∀ d v,LtC st.nx d → VC s Z d v → VC s Zp (fzC Hf d) v ∧ LtC st.nx (fzC Hf d) := fun d v hl hv => by
  unfold fzC
  cases hb : brwC Hf 4 d with
  | some e =>
   have := brwC_sound hknow hz hp 4 d e v hb hv
   exact ⟨VC.of_vt this,VT.ltN _ this⟩
  | none => exact ⟨VC.mono hz (fun _ _ => rfl) hl hv,hl⟩
 have toV : ∀ e v,VC s Zp e v → LtC st.nx e → VV s Zp e v ∧ LtV st.nx e := fun e v h1 h2 => by
  refine ⟨VV.of_vc h1,?_⟩
  cases e <;> first | exact h2 | exact (VC.vt_agg (s := s) (Z := Zp) h1).elim
 have kV : ∀ d v,LtV st.nx d → VV s Z d v → VV s Zp (fzV Hf d) v ∧ LtV st.nx (fzV Hf d) := fun d v hl hv => by
  have one : LtC st.nx d → VC s Z d v → VV s Zp (fzC Hf d) v ∧ LtV st.nx (fzC Hf d) := fun h1 h2 => by
   obtain ⟨g1,g2⟩ := kC d v h1 h2
   exact toV _ _ g1 g2
  cases d with
  | agg ds =>
   obtain ⟨vs,rfl,h1,h2⟩ := hv
   refine ⟨⟨vs,rfl,by simpa using h1,fun j x hx => ?_⟩,fun x hx => ?_⟩
   ·obtain ⟨y,hy,rfl⟩ := (map_get _ _ _ _).1 hx
    exact (kC y _ (hl y (zD hy)) (h2 j y hy)).1
   ·obtain ⟨y,hy,rfl⟩ := List.mem_map.1 hx
    obtain ⟨j,hj⟩ := zF hy
    exact (kC y _ (hl y hy) (h2 j y hj)).2
  | _ => exact one hl hv
 have toR : ∀ e v,VV s Zp e v → LtV st.nx e → VR s Zp e v ∧ LtR st.nx e := fun e v h1 h2 => by
  refine ⟨VR.of_vv h1,?_⟩
  cases e <;> first | exact h2 | exact (VC.vt_tup (s := s) (Z := Zp) h1).elim
 have kR : ∀ d v,LtR st.nx d → VR s Z d v → VR s Zp (fzR Hf d) v ∧ LtR st.nx (fzR Hf d) := fun d v hl hv => by
  have one : LtV st.nx d → VV s Z d v → VR s Zp (fzV Hf d) v ∧ LtR st.nx (fzV Hf d) := fun h1 h2 => by
   obtain ⟨g1,g2⟩ := kV d v h1 h2
   exact toR _ _ g1 g2
  cases d with
  | tup ds =>
   obtain ⟨vs,rfl,h1,h2⟩ := hv
   refine ⟨⟨vs,rfl,by simpa using h1,fun j x hx => ?_⟩,fun x hx => ?_⟩
   ·obtain ⟨y,hy,rfl⟩ := (map_get _ _ _ _).1 hx
    exact (kV y _ (hl y (zD hy)) (h2 j y hy)).1
   ·obtain ⟨y,hy,rfl⟩ := List.mem_map.1 hx
    obtain ⟨j,hj⟩ := zF hy
    exact (kV y _ (hl y hy) (h2 j y hj)).2
  | any => exact ⟨trivial,trivial⟩
  | _ => exact one hl hv
 have kS : ∀ d v,LtS st.nx d → VS s Z d v → VS s Zp (fzS Hf d) v ∧ LtS st.nx (fzS Hf d) := fun d v hl hv => by
  have one : LtR st.nx d → VR s Z d v → VS s Zp (fzR Hf d) v ∧ LtS st.nx (fzR Hf d) := fun h1 h2 => by
   obtain ⟨g1,g2⟩ := kR d v h1 h2
   exact ⟨VS.of_vr g1,LtS.of_r g2 (VR.no_opt g1)⟩
  cases d with
  | opt g d => exact ⟨⟨fun hg => (kR d v (hl hg) (hv.1 hg)).1,hv.2⟩,fun hg => (kR d v (hl hg) (hv.1 hg)).2⟩
  | _ => exact one hl hv
 have hgo : ∀ id ob,hget (Go.Proofs.YtbhcfldafpndbaaDoor.freeze ids st).heap id = some ob → ∃ ob0,hget st.heap id = some ob0 ∧ ids.contains id = false ∧ ob = fzO Hf ob0 := fun id ob h => by
  have h : hget ((hdrop ids st.heap).map fun p => (p.1,fzO (hkeep ids st.heap) p.2)) id = some ob := h
  rw [hget_map,hget_hdrop,← hHf] at h
  cases hc : ids.contains id with
  | true => rw [if_pos hc] at h;cases h
  | false =>
   rw [if_neg (by rw [hc];exact Bool.false_ne_true)] at h
   cases hq : hget st.heap id with
   | none => rw [hq] at h;cases h
   | some ob0 =>
    rw [hq] at h
    simp only [Option.map_some,zA] at h
    exact ⟨ob0,rfl,rfl,h.symm⟩
 refine ⟨s,Zp,⟨fun k => ?_,fun k => ?_,hr.size,hr.defers,?_⟩⟩
 ·show VS s Zp (eget (st.env.map fun p => (p.1,fzS (hkeep ids st.heap) p.2)) k) _
  rw [eget_map _ rfl,← hHf]
  exact (kS _ _ (hr.elt k) (hr.env k)).1
 ·show LtS st.nx (eget (st.env.map fun p => (p.1,fzS (hkeep ids st.heap) p.2)) k)
  rw [eget_map _ rfl,← hHf]
  exact (kS _ _ (hr.elt k) (hr.env k)).2
 ·constructor
  ·intro id ob h
   obtain ⟨ob0,h1,h2,rfl⟩ := hgo id ob h
   have h3 := hr.h.ob id ob0 h1
   have h4 := (hr.h.lt id ob0 h1).2
   cases ob0 with
   | cells ds =>
    obtain ⟨b,T,cs,g1,g2,g3,g4⟩ := h3
    refine ⟨b,T,cs,g1,g2,by simpa using g3,fun j x hx => ?_⟩
    obtain ⟨y,hy,rfl⟩ := (map_get _ _ _ _).1 hx
    exact (kC y _ (h4 y (zD hy)) (g4 j y hy)).1
   | row sz xs => exact RowOk.mono h3 (fun _ _ => rfl) (fun _ _ _ _ _ h => VT.mono hz h)
   | rowd sz xs => exact RowOk.map _ h3 fun row hrow d hd u hu => (kC d u (h4 row hrow d hd) hu).1
   | blk sz xs => exact BlkOk.mono h3 (fun _ _ => rfl) (fun row hrow d hd u hu => VC.mono hz (fun _ _ => rfl) (h4 row hrow d hd) hu)
   | mp bare es ck => exact h3
   | it m since seen last => exact h3
  ·intro id ob h
   obtain ⟨ob0,h1,h2,rfl⟩ := hgo id ob h
   have h3 := hr.h.ob id ob0 h1
   have h4 := hr.h.lt id ob0 h1
   refine ⟨h4.1,?_⟩
   cases ob0 with
   | cells ds =>
    obtain ⟨b,T,cs,g1,g2,g3,g5⟩ := h3
    intro x hx
    obtain ⟨y,hy,rfl⟩ := List.mem_map.1 hx
    obtain ⟨j,hj⟩ := zF hy
    exact (kC y _ (h4.2 y hy) (g5 j y hj)).2
   | row sz xs => trivial
   | rowd sz xs =>
    intro row hrow x hx
    obtain ⟨r,hr',rfl⟩ := List.mem_map.1 hrow
    obtain ⟨y,hy,rfl⟩ := List.mem_map.1 hx
    rcases h3.2.2 with ⟨rfl,_⟩ | ⟨g,cap,cur,e,_,_,_,_,_,h8⟩
    ·cases hr'
    ·obtain ⟨i,hi⟩ := zF hr'
     obtain ⟨j,hj⟩ := zF hy
     exact (kC y _ (h4.2 r hr' y hy) (h8 i r j y hi hj)).2
   | blk sz xs => exact h4.2
   | mp bare es ck => trivial
   | it m since seen last => exact h4.2
  ·intro id id' ob ob' b h h' hne hb
   obtain ⟨o1,h1,_,_⟩ := hgo id ob h
   obtain ⟨o2,h2,_,_⟩ := hgo id' ob' h'
   exact hr.h.apart id id' o1 o2 b h1 h2 hne hb
  ·intro b o v hv
   have hv : (if ∃ id ob,hget Hf id = some ob ∧ blk (s id) = some b then w.cell? ⟨b,o,none⟩ else Z b o) = some v := hv
   split at hv
   ·exact hv
   ·exact hr.h.zok b o v hv
  ·intro id ob b o h hb
   obtain ⟨o1,h1,h2,_⟩ := hgo id ob h
   show (if _ then _ else _) = _
   rw [if_neg,hr.h.zap id o1 b o h1 hb]
   rintro ⟨id',ob',h3,h4⟩
   obtain ⟨h5,h6⟩ := hsub id' ob' h3
   refine hr.h.apart id id' o1 ob' b h1 h5 ?_ hb h4
   rintro rfl
   rw [h2] at h6;cases h6
  ·intro id ob b h hb
   obtain ⟨o1,h1,_,_⟩ := hgo id ob h
   exact hr.h.mine id o1 b h1 hb
  ·exact hr.h.fr
  ·exact hr.h.n0
  ·exact hr.h.bs
  ·exact fun b o v hv => hz b o v (hr.h.bz b o v hv)
  ·intro b o v hv
   have hv : (if ∃ id ob,hget Hf id = some ob ∧ blk (s id) = some b then w.cell? ⟨b,o,none⟩ else Z b o) = some v := hv
   split at hv
   ·rename_i h
    obtain ⟨id,ob,h1,h2⟩ := h
    exact .inr (hr.h.mine id ob b (hsub id ob h1).1 h2)
   ·exact hr.h.bn b o v hv
theorem W.freeze {P : Program} {hw : List FuncId} {c : AC} {Q : Ex → St → Prop} (ids : List Nat) (h : W P B hw c Q (Go.Proofs.YtbhcfldafpndbaaDoor.freeze ids st)) : W P B hw c Q st := W.gh (Gh.freeze ids) h
end
theorem Sl.nil {α : Type} (w : World) (sz : Nat) (E : α → List Value) : Sl w sz E (.slice none 0 0) [] := ⟨none,0,rfl,Nat.le_refl _,fun _ => rfl,fun h => absurd rfl h⟩
end Go.Proofs.YtbhcfldafpndbaaDoor
namespace Go.Proofs.YtbhcfldafpndbaaDoor
open Go.RowKit
attribute [local simp] AK_at acode_seq acode_region acode_draw acode_cond CB_u acode_block acode_loop acode_exit acode_scope acode_ret acode_skip seqQ_n seqQ_e seqQ_r blockQ_n blockQ_e blockQ_r TK_at OK_at SK_at aops_nil aops_cons asch_done asch_one asch_two asch_top astep aop_eq isLoud aloud aloud1 isWrite qv evS strip gof eget hget putO eput herase oks opnds gS afin afin0 binD arith D.cells takeD fillD keep trim envOf Fin aresl aresv resD argOk pickV isP deq deqs boundD slD lenD isT isSl ptrIds chunks mn_min mx_max splice_one splice_more Rbr_at Rfr_at frR frV frC flatC brwR brwV brwC omap leR leV leC leL leVL rnR rnV rnC rnO rho_0 hputs herases rnS LtS LtR LtV LtC LtO lget noV noC flatR flatV rho
attribute [local simp ↓] CB_t CB_f
theorem picked_code : cfun Tryd.prog [] 10 = some ⟨(.seq (qR 0 [oK 4 0]) (.seq (.seq (qR 1 [oM 5 0,oX 6 (.bin .lss (.t 5) (kI 0))]) (.cond 6 (qR 2 [oM 7 0,oX 8 (.bin .add (.t 7) (kI 1)),oX 9 (.neg (.t 8)),oM 0 9]) .skip)) (.seq (qR 3 [oM 10 0,oM 11 1,oX 12 (.bin .rem (.t 10) (.t 11)),oM 4 12]) .ret))),[(.t 4)],13⟩ := by kernel_rfl
theorem picked_pf (n m : Int) (hn : InR n) (hm : 1 ≤ m) : PF Tryd.prog 10 [.int .i64 n,.int .i64 m] (.int .i64 (pickedZ n m)) := by
 refine PF.of follows_ok picked_code (by simp) (by simp) (by simp) fun B _ _ => acode_sound [0,1,4,6] [] _ _ _ ?_
 simp
 refine ⟨fun h => ⟨?_,?_,by omega,?_⟩,fun h => ⟨by omega,?_⟩⟩
 ·unfold InR at *;omega
 ·unfold InR at *;omega
 ·have h2 : ¬ 0 < n + 1 := by omega
  simp [pickedZ,h,h2]
 ·have : ¬ n < 0 := by omega
  simp [pickedZ,this]
end Go.Proofs.YtbhcfldafpndbaaDoor
namespace Go.Proofs.YtbhcfldafpndbaaDoor
open Go.RowKit
theorem spl_none {a : List UInt8} (h : (32 : UInt8) ∉ a) : splS a = [a] := by
 have hi : Lib.index a [32] = -1 := by rw [Lib.index_one];exact byte_none h
 unfold splS Lib.split
 rw [Lib.count_miss hi];rfl
theorem spl_app {a : List UInt8} (r : List UInt8) (h : (32 : UInt8) ∉ a) : splS (a ++ 32 :: r) = a :: splS r := by
 have hi : Lib.index (a ++ 32 :: r) [32] = a.length := by rw [Lib.index_one];exact byte_app r h
 have hc := Lib.count_hit (sub := [32]) (by simp) hi
 have hd : (a ++ 32 :: r).drop (a.length + ([32] : List UInt8).length) = r := by
  simp
 unfold splS Lib.split
 rw [hc,Nat.add_comm,Lib.splitK,if_neg (by rw [hi,beq_iff_eq];omega),hi]
 have e : (a.length : Int).toNat = a.length := by omega
 rw [e,hd]
 simp
theorem dec_dig (u : Nat) : ∀ c ∈ Lib.decDigits u,48 ≤ c.toNat ∧ c.toNat ≤ 57 := by
 induction u using Nat.strongRecOn with
 | _ u ih =>
  intro c hc
  rw [Lib.decDigits] at hc
  split at hc
  ·rw [List.mem_singleton] at hc
   subst hc
   rw [UInt8.toNat_ofNat'];omega
  ·rw [List.mem_append,List.mem_singleton] at hc
   rcases hc with hc | rfl
   ·exact ih (u / 10) (by omega) c hc
   ·rw [UInt8.toNat_ofNat'];omega
theorem dec_ne (u : Nat) : Lib.decDigits u ≠ [] := by
 rw [Lib.decDigits];split <;> simp
theorem parse_snoc : ∀ (l : List UInt8) (acc v : Nat) (c : UInt8),Lib.parseUint10 acc l = .ok v → Lib.parseUint10 acc (l ++ [c]) = Lib.parseUint10 v [c]
 | [],acc,v,c,h => by
  simp only [Lib.parseUint10] at h
  injection h with h
  subst h;rfl
 | b :: l,acc,v,c,h => by
  obtain ⟨q,hq⟩ : ∃ q,q = Lib.parseUint10 v [c] := ⟨_,rfl⟩
  rw [← hq,List.cons_append,Lib.parseUint10]
  rw [Lib.parseUint10] at h
  split at h
  ·rename_i h1
   rw [if_pos h1]
   split at h
   ·cases h
   ·rename_i h2
    rw [if_neg h2]
    split at h
    ·cases h
    ·rename_i h3
     rw [if_neg h3,hq]
     exact parse_snoc l _ v c h
  ·cases h
theorem parse_dec (u : Nat) : u < 9223372036854775808 → Lib.parseUint10 0 (Lib.decDigits u) = .ok u := by
 induction u using Nat.strongRecOn with
 | _ u ih =>
  intro hu
  rw [Lib.decDigits]
  split
  ·have e : (UInt8.ofNat (48 + u)).toNat = 48 + u := by rw [UInt8.toNat_ofNat'];omega
   rw [Lib.parseUint10,e,if_pos (by omega),if_neg (by omega),if_neg (by omega),Lib.parseUint10]
   congr 1;omega
  ·have e : (UInt8.ofNat (48 + u % 10)).toNat = 48 + u % 10 := by rw [UInt8.toNat_ofNat'];omega
   rw [parse_snoc _ _ _ _ (ih (u / 10) (by omega) (by omega)),Lib.parseUint10,e,if_pos (by omega),if_neg (by omega),if_neg (by omega),Lib.parseUint10]
   congr 1;omega
theorem atoi_dec (u : Nat) (h : u < 9223372036854775808) : Lib.atoiAll (Lib.decDigits u) = .ok u := by
 obtain ⟨c,r,hcr⟩ := List.exists_cons_of_ne_nil (dec_ne u)
 have hd := dec_dig u c (by rw [hcr];simp)
 have hp := parse_dec u h
 rw [hcr] at hp ⊢
 have h1 : ¬ (c.toNat = 43 ∨ c.toNat = 45) := by omega
 have h2 : ¬ c.toNat = 45 := by omega
 simp only [Lib.atoiAll,Lib.parseMag,if_neg h1,if_neg (List.cons_ne_nil c r),hp]
 rw [if_neg (by omega),if_neg (fun h => h2 h.1),if_neg h2]
theorem itoa_at {n : Int} (h0 : 0 ≤ n) (h1 : n ≤ 4294967295) : Lib.atoiAll (Lib.itoa n) = .ok n ∧ (32 : UInt8) ∉ Lib.itoa n ∧ (10 : UInt8) ∉ Lib.itoa n := by
 obtain ⟨u,rfl⟩ : ∃ u : Nat,n = u := ⟨n.toNat,by omega⟩
 rw [Lib.itoa_nonneg]
 exact ⟨atoi_dec u (by omega),fun h => by have := dec_dig u _ h;simp at this,fun h => by have := dec_dig u _ h;simp at this⟩
theorem trim_nl (t : List UInt8) : Lib.trimSuffix (t ++ [10]) [10] = t := by
 have h : Lib.hasSuffix (t ++ [10]) [10] = true := by
  unfold Lib.hasSuffix
  rw [List.isSuffixOf_iff_suffix]
  exact ⟨t,rfl⟩
 unfold Lib.trimSuffix
 rw [if_pos h]
 simp
theorem atoiV_itoa {n : Int} (h0 : 0 ≤ n) (h1 : n ≤ 4294967295) : atoiV (Lib.itoa n) = n := by unfold atoiV;rw [(itoa_at h0 h1).1]
theorem spl_num (w : List UInt8) {n : Int} (hw : (32 : UInt8) ∉ w) (h0 : 0 ≤ n) (h1 : n ≤ 4294967295) : splS (w ++ numS n) = [w,Lib.itoa n] := by
 unfold numS;rw [spl_app _ hw,spl_none (itoa_at h0 h1).2.1]
theorem spl_num2 (w r : List UInt8) (n : Int) (hw : (32 : UInt8) ∉ w) : splS (w ++ (numS n ++ r)) = w :: splS (Lib.itoa n ++ r) := by
 unfold numS;rw [List.cons_append,spl_app _ hw]
theorem pieces_line {e : Ev} (h : e.Ok) : piecesM (lineL e) = match e.1 with
  | .op => [e.1.word,Lib.itoa e.2.1] | .da => [e.1.word,Lib.itoa e.2.1,Lib.itoa e.2.2.1] | .cl => [e.1.word,Lib.itoa e.2.1,Lib.itoa e.2.2.1]
  | .an => [e.1.word,Lib.itoa e.2.1,Lib.itoa e.2.2.1,if e.2.2.2 = 1 then [103,111,111,100] else [98,97,100]]
  | .jo => [e.1.word,Lib.itoa e.2.1,Lib.itoa e.2.2.1,Lib.itoa e.2.2.2] | .re => [e.1.word,Lib.itoa e.2.1,Lib.itoa e.2.2.1] | .ti => [e.1.word] := by
 obtain ⟨kd,x,y,z⟩ := e
 have hb := ev_bd h
 unfold piecesM lineL
 rw [trim_nl]
 simp only
 cases kd <;> simp only [EK.len] at hb <;> simp only [EK.args,EK.word,List.append_assoc]
 ·have hx := hb.1 (by omega)
  rw [spl_num _ (by decide) hx.1 hx.2]
 ·have hx := hb.1 (by omega)
  have hy := hb.2.1 (by omega)
  rw [spl_num2 _ _ _ (by decide),spl_num _ (itoa_at hx.1 hx.2).2.1 hy.1 hy.2]
 ·have hx := hb.1 (by omega)
  have hy := hb.2.1 (by omega)
  rw [spl_num2 _ _ _ (by decide),spl_num _ (itoa_at hx.1 hx.2).2.1 hy.1 hy.2]
 ·have hx := hb.1 (by omega)
  have hy := hb.2.1 (by omega)
  rw [spl_num2 _ _ _ (by decide),spl_num2 _ _ _ (itoa_at hx.1 hx.2).2.1]
  unfold goodS
  split
  ·rw [spl_app _ (itoa_at hy.1 hy.2).2.1,spl_none (by decide)]
  ·rw [spl_app _ (itoa_at hy.1 hy.2).2.1,spl_none (by decide)]
 ·have hx := hb.1 (by omega)
  have hy := hb.2.1 (by omega)
  have hz := hb.2.2 (by omega)
  rw [spl_num2 _ _ _ (by decide),spl_num2 _ _ _ (itoa_at hx.1 hx.2).2.1,spl_num _ (itoa_at hy.1 hy.2).2.1 hz.1 hz.2]
 ·have hx := hb.1 (by omega)
  have hy := hb.2.1 (by omega)
  rw [spl_num2 _ _ _ (by decide),spl_num _ (itoa_at hx.1 hx.2).2.1 hy.1 hy.2]
 ·rw [List.append_nil,spl_none (by decide)]
theorem okM_line {e : Ev} (h : e.Ok) : ∃ e' : Ev,okM (lineL e) = some e' ∧ e'.C = e.C := by
 have hp := pieces_line h
 obtain ⟨kd,x,y,z⟩ := e
 have hb := ev_bd h
 have h' : kd.Ok x y z := h
 unfold okM
 rw [hp]
 cases kd <;> simp only [EK.len] at hb
 ·have hx := hb.1 (by omega)
  have e1 := atoiV_itoa hx.1 hx.2
  refine ⟨(.op,x,0,0),?_,rfl⟩
  simp [evL,EK.ofW,EK.word,avM,EK.z3,e1,lineL,EK.args]
  exact h'
 ·have hx := hb.1 (by omega)
  have hy := hb.2.1 (by omega)
  have e1 := atoiV_itoa hx.1 hx.2
  have e2 := atoiV_itoa hy.1 hy.2
  refine ⟨(.da,x,y,0),?_,rfl⟩
  simp [evL,EK.ofW,EK.word,avM,EK.z3,e1,e2,lineL,EK.args]
  exact h'
 ·have hx := hb.1 (by omega)
  have hy := hb.2.1 (by omega)
  have e1 := atoiV_itoa hx.1 hx.2
  have e2 := atoiV_itoa hy.1 hy.2
  refine ⟨(.cl,x,y,0),?_,rfl⟩
  simp [evL,EK.ofW,EK.word,avM,EK.z3,e1,e2,lineL,EK.args]
  exact h'
 ·have hx := hb.1 (by omega)
  have hy := hb.2.1 (by omega)
  have e1 := atoiV_itoa hx.1 hx.2
  have e2 := atoiV_itoa hy.1 hy.2
  by_cases hz : z = 1
  ·subst hz
   refine ⟨(.an,x,y,1),?_,rfl⟩
   simp [evL,EK.ofW,EK.word,avM,EK.z3,goodM,goodS,e1,e2,lineL,EK.args]
   exact h'
  ·have hz0 : z = 0 := by have := h'.2.2;omega
   subst hz0
   refine ⟨(.an,x,y,0),?_,rfl⟩
   simp [evL,EK.ofW,EK.word,avM,EK.z3,goodM,goodS,e1,e2,lineL,EK.args]
   exact h'
 ·have hx := hb.1 (by omega)
  have hy := hb.2.1 (by omega)
  have hz := hb.2.2 (by omega)
  have e1 := atoiV_itoa hx.1 hx.2
  have e2 := atoiV_itoa hy.1 hy.2
  have e3 := atoiV_itoa hz.1 hz.2
  refine ⟨(.jo,x,y,z),?_,rfl⟩
  simp [evL,EK.ofW,EK.word,avM,EK.z3,e1,e2,e3,lineL,EK.args]
  exact h'
 ·have hx := hb.1 (by omega)
  have hy := hb.2.1 (by omega)
  have e1 := atoiV_itoa hx.1 hx.2
  have e2 := atoiV_itoa hy.1 hy.2
  refine ⟨(.re,x,y,0),?_,rfl⟩
  simp [evL,EK.ofW,EK.word,avM,EK.z3,e1,e2,lineL,EK.args]
  exact h'
 ·refine ⟨(.ti,0,0,0),?_,rfl⟩
  simp [evL,EK.ofW,EK.word,avM,EK.z3,lineL,EK.args]
  exact h'
theorem line_nl {e : Ev} (h : e.Ok) : ∃ t,lineL e = t ++ [10] ∧ (10 : UInt8) ∉ t := by
 obtain ⟨kd,x,y,z⟩ := e
 have hb := ev_bd h
 refine ⟨_,rfl,?_⟩
 have hn : ∀ n : Int,0 ≤ n → n ≤ 4294967295 → (10 : UInt8) ∉ numS n := fun n h0 h1 h => by
  unfold numS at h
  rw [List.mem_cons] at h
  rcases h with h | h
  ·cases h
  ·exact (itoa_at h0 h1).2.2 h
 have hg : (10 : UInt8) ∉ goodS z := by unfold goodS;split <;> decide
 have hw : (10 : UInt8) ∉ kd.word := by cases kd <;> decide
 simp only [List.mem_append,not_or]
 refine ⟨hw,?_⟩
 cases kd <;> simp only [EK.len] at hb <;> simp only [EK.args,List.mem_append,not_or,List.not_mem_nil,not_false_iff]
 ·exact hn _ (hb.1 (by omega)).1 (hb.1 (by omega)).2
 ·exact ⟨hn _ (hb.1 (by omega)).1 (hb.1 (by omega)).2,hn _ (hb.2.1 (by omega)).1 (hb.2.1 (by omega)).2⟩
 ·exact ⟨hn _ (hb.1 (by omega)).1 (hb.1 (by omega)).2,hn _ (hb.2.1 (by omega)).1 (hb.2.1 (by omega)).2⟩
 ·exact ⟨⟨hn _ (hb.1 (by omega)).1 (hb.1 (by omega)).2,hn _ (hb.2.1 (by omega)).1 (hb.2.1 (by omega)).2⟩,hg⟩
 ·exact ⟨⟨hn _ (hb.1 (by omega)).1 (hb.1 (by omega)).2,hn _ (hb.2.1 (by omega)).1 (hb.2.1 (by omega)).2⟩,hn _ (hb.2.2 (by omega)).1 (hb.2.2 (by omega)).2⟩
 ·exact ⟨hn _ (hb.1 (by omega)).1 (hb.1 (by omega)).2,hn _ (hb.2.1 (by omega)).1 (hb.2.1 (by omega)).2⟩
theorem lines_cons {t : List UInt8} (r : List UInt8) (h : ∃ a,t = a ++ [10] ∧ (10 : UInt8) ∉ a) : linesL (t ++ r) = t :: linesL r := by
 obtain ⟨a,rfl,ha⟩ := h
 rw [List.append_assoc];exact lines_line r ha
theorem readL_show (r : List UInt8) : ∀ (l : List Ev) (acc : List Ev),(∀ e ∈ l,e.Ok) → acc.length + l.length ≤ 4000 →
  ∃ l' : List Ev,l'.map Ev.C = l.map Ev.C ∧ (∀ e ∈ l',e.Ok) ∧ readL acc (linesL (showM l ++ r)) = readL (acc ++ l') (linesL r)
 | [],acc,_,_ => ⟨[],rfl,by simp,by simp [showM]⟩
 | e :: l,acc,h,hl => by
  have he := h e (by simp)
  obtain ⟨e',h1,h2⟩ := okM_line he
  rw [List.length_cons] at hl
  obtain ⟨l',h3,h4,h5⟩ := readL_show r l (acc ++ [e']) (fun x hx => h x (by simp [hx])) (by simp;omega)
  refine ⟨e' :: l',by simp [h2,h3],?_,?_⟩
  ·intro x hx
   rw [List.mem_cons] at hx
   rcases hx with rfl | hx
   ·exact (okM_some h1).1
   ·exact h4 x hx
  ·have e1 : showM (e :: l) ++ r = lineL e ++ (showM l ++ r) := by simp [showM]
   rw [e1,lines_cons _ (line_nl he),readL,if_neg (by omega),h1]
   simp only
   rw [h5,List.append_assoc];rfl
def badW : List (List UInt8) := [[111,112,101,110,10],[116,105,99,107,32,49,10],[10],[99,108,111,115,101,32,52,48,32,48,10],[106,111,105,110,32,49,32,50,32,57,10],
 [97,110,115,119,101,114,32,49,32,50,32,119,101,108,108,10],[100,97,116,97,32,48,49,32,50,10],[84,105,99,107,10]]
theorem bad_of {w : List UInt8} (e : Option Ev) (h1 : evL (piecesM w) = e) (h2 : ∀ x,e = some x → ¬ (x.1.Ok x.2.1 x.2.2.1 x.2.2.2 ∧ lineL x = w)) : okM w = none := by
 unfold okM
 rw [h1]
 cases e with
 | none => rfl
 | some x => simp only;rw [if_neg (h2 x rfl)]
theorem bad_none : ∀ w ∈ badW,okM w = none ∧ ∃ a,w = a ++ [10] ∧ (10 : UInt8) ∉ a := by
 have d0 : Lib.itoa 0 = [48] := Lib.decDigits_one (i := 0) (by omega)
 have d1 : Lib.itoa 1 = [49] := Lib.decDigits_one (i := 1) (by omega)
 have d2 : Lib.itoa 2 = [50] := Lib.decDigits_one (i := 2) (by omega)
 intro w hw
 simp only [badW,List.mem_cons,List.not_mem_nil,or_false] at hw
 rcases hw with rfl | rfl | rfl | rfl | rfl | rfl | rfl | rfl
 ·refine ⟨bad_of (some (.op,0,0,0)) rfl fun x hx => ?_,[111,112,101,110],rfl,by decide⟩
  cases hx;simp [lineL,EK.args,EK.word,numS,d0]
 ·refine ⟨bad_of (some (.ti,1,0,0)) rfl fun x hx => ?_,[116,105,99,107,32,49],rfl,by decide⟩
  cases hx;simp [lineL,EK.args,EK.word]
 ·exact ⟨bad_of none rfl fun x hx => (by cases hx),[],rfl,by decide⟩
 ·refine ⟨bad_of (some (.cl,40,0,0)) rfl fun x hx => ?_,[99,108,111,115,101,32,52,48,32,48],rfl,by decide⟩
  cases hx;rintro ⟨h,_⟩;simp [EK.Ok] at h
 ·refine ⟨bad_of (some (.jo,1,2,9)) rfl fun x hx => ?_,[106,111,105,110,32,49,32,50,32,57],rfl,by decide⟩
  cases hx;rintro ⟨h,_⟩;simp [EK.Ok] at h
 ·refine ⟨bad_of (some (.an,1,2,0)) rfl fun x hx => ?_,[97,110,115,119,101,114,32,49,32,50,32,119,101,108,108],rfl,by decide⟩
  cases hx;simp [lineL,EK.args,EK.word,numS,goodS,d1,d2]
 ·refine ⟨bad_of (some (.da,1,2,0)) rfl fun x hx => ?_,[100,97,116,97,32,48,49,32,50],rfl,by decide⟩
  cases hx;simp [lineL,EK.args,EK.word,numS,d1,d2]
 ·exact ⟨bad_of none rfl fun x hx => (by cases hx),[84,105,99,107],rfl,by decide⟩
theorem read_bad (l : List Ev) (w r : List UInt8) (h : ∀ e ∈ l,e.Ok) (hl : l.length ≤ 20) (hr : r.length ≤ 1600) (hw : w ∈ badW) : readM (showM l ++ w ++ r) = ([],l.length,3) := by
 obtain ⟨h1,h2⟩ := bad_none w hw
 obtain ⟨l',h3,h4,h5⟩ := readL_show (w ++ r) l [] h (by simp;omega)
 have h6 := show_le l h
 have h7 : l'.length = l.length := by have := congrArg List.length h3;simpa using this
 have h8 : w.length ≤ 16 := by
  simp only [badW,List.mem_cons,List.not_mem_nil,or_false] at hw
  rcases hw with rfl | rfl | rfl | rfl | rfl | rfl | rfl | rfl <;> simp
 unfold readM
 rw [if_neg (by simp only [List.length_append];omega),List.append_assoc,h5,lines_cons r h2,readL,if_neg (by simp;omega),h1]
 simp [h7]
end Go.Proofs.YtbhcfldafpndbaaDoor
namespace Go.Proofs.YtbhcfldafpndbaaDoor
open Go.RowKit
attribute [local simp] AK_at acode_seq acode_region acode_draw acode_cond CB_u acode_block acode_loop acode_exit acode_scope acode_ret acode_skip seqQ_n seqQ_e seqQ_r blockQ_n blockQ_e blockQ_r TK_at OK_at SK_at aops_nil aops_cons asch_done asch_one asch_two asch_top astep aop_eq isLoud aloud aloud1 isWrite qv evS strip gof eget hget putO eput herase oks opnds gS afin afin0 binD arith D.cells takeD fillD keep trim envOf Fin aresl aresv resD argOk pickV isP deq deqs boundD slD lenD isT isSl ptrIds chunks mn_min mx_max splice_one splice_more Rbr_at Rfr_at frR frV frC flatC brwR brwV brwC omap leR leV leC leL leVL rnR rnV rnC rnO rho_0 hputs herases rnS LtS LtR LtV LtC LtO lget noV noC flatR flatV rho
attribute [local simp ↓] CB_t CB_f
theorem wevent_code : cfun Tryd.prog [] 7 = some ⟨(.seq (qR 0 [oB 1 0,oX 2 (.alloc [qZ,qZ,qZ,qZ,qF,qZ,qZ,qZ])]) (.seq (qR 1 [oF 4 0 1,oL 5 1 4,oX 6 (.call 10 [(.t 5),(kI 7)]),oX 7 (.bin .add (kI 1) (.t 6)),oX 8 (.build [qZ,qZ,qZ,qZ,qF,qZ,qZ,qZ] [(0,(1,(.t 7)))]),oX 3 (.alloc [qZ,qZ,qZ,qZ,qF,qZ,qZ,qZ]),oS 8 3 8]) (.seq (.seq (qR 2 [oF 9 0 3,oL 10 1 9]) (.block 0 (.seq (qR 3 [oX 12 (.bin .eql (.t 10) (kI 1)),oM 11 12]) (.cond 11 (qR 4 [oF 13 1 1,oL 14 1 13,oX 15 (.call 10 [(.t 14),(kI 4294967296)]),oF 16 1 3,oS 1 16 15]) (.seq (.seq (qR 5 [oX 18 (.bin .eql (.t 10) (kI 2)),oM 17 18]) (.cond 17 .skip (.seq (qR 6 [oX 19 (.bin .eql (.t 10) (kI 3)),oM 17 19]) (.cond 17 .skip (qR 7 [oX 20 (.bin .eql (.t 10) (kI 4)),oM 17 20]))))) (.cond 17 (.seq (qR 8 [oF 21 1 1,oL 22 1 21,oX 23 (.call 10 [(.t 22),(kI 40)]),oF 24 2 3,oS 1 24 23]) (.seq (qR 9 [oF 25 2 1,oL 26 1 25,oX 27 (.call 10 [(.t 26),(kI 1048577)]),oF 28 3 3,oS 1 28 27]) (qR 10 [oF 29 0 3,oL 30 1 29,oX 31 (.bin .eql (.t 30) (kI 4)),oM 32 31,oG 33 (.fad 3 (.t 1)) 32 true,oG 34 (.load false 1 (.t 33)) 32 true,oG 35 (.call 10 [(.t 34),(kI 2)]) 32 true,oG 36 (.bin .eql (.t 35) (kI 1)) 32 true,oX 37 (.pick (.t 32) (.t 36) (.k qF)),oF 38 4 3,oS 1 38 37]))) (.seq (qR 11 [oX 40 (.bin .eql (.t 10) (kI 5)),oM 39 40]) (.cond 39 (.seq (qR 12 [oF 41 1 1,oL 42 1 41,oX 43 (.call 10 [(.t 42),(kI 1048577)]),oF 44 5 3,oS 1 44 43]) (.seq (qR 13 [oF 45 2 1,oL 46 1 45,oX 47 (.call 10 [(.t 46),(kI 12)]),oF 48 6 3,oS 1 48 47]) (qR 14 [oF 49 3 1,oL 50 1 49,oX 51 (.call 10 [(.t 50),(kI 8)]),oX 52 (.bin .add (kI 1) (.t 51)),oF 53 7 3,oS 1 53 52]))) (.seq (qR 15 [oX 55 (.bin .eql (.t 10) (kI 6)),oM 54 55]) (.cond 54 (.seq (qR 16 [oF 56 1 1,oL 57 1 56,oX 58 (.call 10 [(.t 57),(kI 1048577)]),oF 59 5 3,oS 1 59 58]) (qR 17 [oF 60 2 1,oL 61 1 60,oX 62 (.call 10 [(.t 61),(kI 12)]),oF 63 6 3,oS 1 63 62])) .skip)))))))))) (.seq (qR 18 [oA 64 8 3,oS 8 2 64]) .ret)))),[(.c 2 true 8)],65⟩ := by kernel_rfl
theorem wevent_pf (k a b c : Int) (hk : InR k) (ha : InR a) (hb : InR b) (hc : InR c) : ∃ kd x y z,EK.Ok kd x y z ∧ PF Tryd.prog 7 [.agg [I k,I a,I b,I c]] (.agg (kd.cells x y z)) := by
 have pk := picked_pf k 7 hk (by omega)
 have rk := pickedZ_range k 7 (by omega)
 obtain ⟨p,hp⟩ : ∃ p,p = pickedZ k 7 := ⟨_,rfl⟩
 rw [← hp] at pk rk
 have a1 := picked_pf a 4294967296 ha (by omega)
 have r1 := pickedZ_range a 4294967296 (by omega)
 have a2 := picked_pf a 40 ha (by omega)
 have r2 := pickedZ_range a 40 (by omega)
 have a3 := picked_pf a 1048577 ha (by omega)
 have r3 := pickedZ_range a 1048577 (by omega)
 have b1 := picked_pf b 1048577 hb (by omega)
 have s1 := pickedZ_range b 1048577 (by omega)
 have b2 := picked_pf b 12 hb (by omega)
 have s2 := pickedZ_range b 12 (by omega)
 have c1 := picked_pf c 2 hc (by omega)
 have t1 := pickedZ_range c 2 (by omega)
 have c2 := picked_pf c 8 hc (by omega)
 have t2 := pickedZ_range c 8 (by omega)
 have i8 : InR (1 + pickedZ c 8) := inW (by omega) (by omega)
 have j1 : InR 1 := inW (by omega) (by omega)
 have j2 : InR 2 := inW (by omega) (by omega)
 have j3 : InR 3 := inW (by omega) (by omega)
 have j4 : InR 4 := inW (by omega) (by omega)
 have j5 : InR 5 := inW (by omega) (by omega)
 have j6 : InR 6 := inW (by omega) (by omega)
 have j7 : InR 7 := inW (by omega) (by omega)
 have hq : p = 0 ∨ p = 1 ∨ p = 2 ∨ p = 3 ∨ p = 4 ∨ p = 5 ∨ p = 6 := by omega
 clear hp
 rcases hq with rfl | rfl | rfl | rfl | rfl | rfl | rfl
 ·refine ⟨.op,pickedZ a 4294967296,0,0,⟨by omega,by omega⟩,?_⟩
  refine pO wevent_code [0,1,2,3,10,11,17,39,54] [] fun B hBN hB0 => ?_
  repeat' (first
   | simp [j1,EK.cells]
   | refine ⟨wcS ?_,?_⟩
   | (refine WCall.pf (pk) ?_ ?_ ?_ ?_;iterate 3 (solve|simp [j1,EK.cells]))
   | (refine WCall.pf (a1) ?_ ?_ ?_ ?_;iterate 3 (solve|simp [j1,EK.cells]))
   | with_reducible refine aI ?_ ?_ ?_)
 ·refine ⟨.da,pickedZ a 40,pickedZ b 1048577,0,⟨⟨by omega,by omega⟩,by omega,by omega⟩,?_⟩
  refine pO wevent_code [0,1,2,3,10,11,17,39,54] [] fun B hBN hB0 => ?_
  repeat' (first
   | simp [j2,EK.cells]
   | refine ⟨wcS ?_,?_⟩
   | (refine WCall.pf (pk) ?_ ?_ ?_ ?_;iterate 3 (solve|simp [j2,EK.cells]))
   | (refine WCall.pf (a2) ?_ ?_ ?_ ?_;iterate 3 (solve|simp [j2,EK.cells]))
   | (refine WCall.pf (b1) ?_ ?_ ?_ ?_;iterate 3 (solve|simp [j2,EK.cells]))
   | with_reducible refine aI ?_ ?_ ?_)
 ·refine ⟨.cl,pickedZ a 40,pickedZ b 1048577,0,⟨⟨by omega,by omega⟩,by omega,by omega⟩,?_⟩
  refine pO wevent_code [0,1,2,3,10,11,17,39,54] [] fun B hBN hB0 => ?_
  repeat' (first
   | simp [j3,EK.cells]
   | refine ⟨wcS ?_,?_⟩
   | (refine WCall.pf (pk) ?_ ?_ ?_ ?_;iterate 3 (solve|simp [j3,EK.cells]))
   | (refine WCall.pf (a2) ?_ ?_ ?_ ?_;iterate 3 (solve|simp [j3,EK.cells]))
   | (refine WCall.pf (b1) ?_ ?_ ?_ ?_;iterate 3 (solve|simp [j3,EK.cells]))
   | with_reducible refine aI ?_ ?_ ?_)
 ·refine ⟨.an,pickedZ a 40,pickedZ b 1048577,pickedZ c 2,⟨⟨by omega,by omega⟩,⟨by omega,by omega⟩,by omega,by omega⟩,?_⟩
  refine pO wevent_code [0,1,2,3,10,11,17,39,54] [] fun B hBN hB0 => ?_
  repeat' (first
   | simp [j4,EK.cells]
   | refine ⟨wcS ?_,?_⟩
   | (refine WCall.pf (pk) ?_ ?_ ?_ ?_;iterate 3 (solve|simp [j4,EK.cells]))
   | (refine WCall.pf (a2) ?_ ?_ ?_ ?_;iterate 3 (solve|simp [j4,EK.cells]))
   | (refine WCall.pf (b1) ?_ ?_ ?_ ?_;iterate 3 (solve|simp [j4,EK.cells]))
   | (refine WCall.pf (c1) ?_ ?_ ?_ ?_;iterate 3 (solve|simp [j4,EK.cells]))
   | with_reducible refine aI ?_ ?_ ?_)
 ·refine ⟨.jo,pickedZ a 1048577,pickedZ b 12,1 + pickedZ c 8,⟨⟨by omega,by omega⟩,⟨by omega,by omega⟩,by omega,by omega⟩,?_⟩
  refine pO wevent_code [0,1,2,3,10,11,17,39,54] [] fun B hBN hB0 => ?_
  repeat' (first
   | simp [j5,i8,EK.cells]
   | refine ⟨wcS ?_,?_⟩
   | (refine WCall.pf (pk) ?_ ?_ ?_ ?_;iterate 3 (solve|simp [j5,i8,EK.cells]))
   | (refine WCall.pf (a3) ?_ ?_ ?_ ?_;iterate 3 (solve|simp [j5,i8,EK.cells]))
   | (refine WCall.pf (b2) ?_ ?_ ?_ ?_;iterate 3 (solve|simp [j5,i8,EK.cells]))
   | (refine WCall.pf (c2) ?_ ?_ ?_ ?_;iterate 3 (solve|simp [j5,i8,EK.cells]))
   | with_reducible refine aI ?_ ?_ ?_)
 ·refine ⟨.re,pickedZ a 1048577,pickedZ b 12,0,⟨⟨by omega,by omega⟩,by omega,by omega⟩,?_⟩
  refine pO wevent_code [0,1,2,3,10,11,17,39,54] [] fun B hBN hB0 => ?_
  repeat' (first
   | simp [j6,EK.cells]
   | refine ⟨wcS ?_,?_⟩
   | (refine WCall.pf (pk) ?_ ?_ ?_ ?_;iterate 3 (solve|simp [j6,EK.cells]))
   | (refine WCall.pf (a3) ?_ ?_ ?_ ?_;iterate 3 (solve|simp [j6,EK.cells]))
   | (refine WCall.pf (b2) ?_ ?_ ?_ ?_;iterate 3 (solve|simp [j6,EK.cells]))
   | with_reducible refine aI ?_ ?_ ?_)
 ·refine ⟨.ti,0,0,0,trivial,?_⟩
  refine pO wevent_code [0,1,2,3,10,11,17,39,54] [] fun B hBN hB0 => ?_
  repeat' (first
   | simp [j7,EK.cells]
   | refine ⟨wcS ?_,?_⟩
   | (refine WCall.pf (pk) ?_ ?_ ?_ ?_;iterate 3 (solve|simp [j7,EK.cells]))
   | with_reducible refine aI ?_ ?_ ?_)
theorem four {r : List Int} (h : r.length = 4) : ∃ k a b c,r = [k,a,b,c] := by
 match r,h with
 | [k,a,b,c],_ => exact ⟨k,a,b,c,rfl⟩
theorem cells_shape (e : Ev) : ∃ (a b c d : Int) (g : Bool) (p q r : Int),e.C = [I a,I b,I c,I d,.bool g,I p,I q,I r] := by
 obtain ⟨kd,x,y,z⟩ := e
 cases kd <;> exact ⟨_,_,_,_,_,_,_,_,rfl⟩
theorem events_of (l : List (List Int)) (hr : ∀ r ∈ l,r.length = 4 ∧ ∀ z ∈ r,InR z) : ∃ es : List Ev,es.length = l.length ∧ (∀ e ∈ es,e.Ok) ∧
  ∀ i (h : i < l.length) (h' : i < es.length),PF Tryd.prog 7 [.agg ((l[i]).map I)] (.agg (Ev.C es[i])) := by
 induction l with
 | nil => exact ⟨[],rfl,fun e h => (by cases h),fun i h => (by simp at h)⟩
 | cons r l ih =>
  obtain ⟨es,h1,h2,h3⟩ := ih fun r hr' => hr r (List.mem_cons_of_mem _ hr')
  obtain ⟨h4,h5⟩ := hr r (by simp)
  obtain ⟨k,a,b,c,rfl⟩ := four h4
  obtain ⟨kd,x,y,z,hok,hpf⟩ := wevent_pf k a b c (h5 _ (by simp)) (h5 _ (by simp)) (h5 _ (by simp)) (h5 _ (by simp))
  refine ⟨(kd,x,y,z) :: es,by simp [h1],fun e he => ?_,fun i h h' => ?_⟩
  ·rcases List.mem_cons.1 he with rfl | he
   ·exact hok
   ·exact h2 e he
  ·cases i with
   | zero => exact hpf
   | succ i => exact h3 i (by simpa using h) (by simpa using h')
theorem bS_cat (a b : List UInt8) : bS a ++ bS b = bS (a ++ b) := by
 apply ByteArray.ext
 simp [bS]
abbrev bytesN (l : List UInt8) : ByteArray := bS l
theorem lbad_code : cfun Tryd.prog [] 6 = some ⟨(.seq (qR 0 [oX 6 (.mov (.k qF))]) (.seq (qR 1 [oX 7 (.mov (.k .nil0))]) (.seq (.seq (qR 2 [oK 8 0]) (.block 0 (.loop (.seq (.seq (qR 3 [oM 21 8,oM 22 0,oH 23 22,oX 24 (.bin .lss (.t 21) (.t 23)),oM 25 24,oG 26 (.mov (.t 8)) 25 true,oG 27 (.bin .lss (.t 26) (kI 20)) 25 true,oX 28 (.pick (.t 25) (.t 27) (.k qF))]) (.cond 28 .skip (.exit 0))) (.seq (.block 1 (.seq (qR 5 [oM 31 0,oM 32 8,oI 33 4 31 32,oA 34 4 33,oX 35 (.call 7 [(.t 34)]),oX 9 (.alloc [qZ,qZ,qZ,qZ,qF,qZ,qZ,qZ]),oS 8 9 35]) (qR 6 [oM 36 7,oA 37 8 9,oX 38 (.bslice 8 1 [qZ,qZ,qZ,qZ,qF,qZ,qZ,qZ] [(0,(.t 37))]),oX 39 (.app 8 64 [qZ,qZ,qZ,qZ,qF,qZ,qZ,qZ] (.t 36) (.t 38)),oM 7 39]))) (qR 4 [oM 29 8,oX 30 (.bin .add (.t 29) (kI 1)),oM 8 30])))))) (.seq (qR 7 [oM 40 1,oM 41 7,oH 42 41,oX 43 (.bin .add (.t 42) (kI 1)),oX 44 (.call 10 [(.t 40),(.t 43)]),oM 10 44]) (.seq (qR 8 [oM 46 7,oM 47 10,oM 48 10,oX 49 (.slc 8 (.t 46) none (some (.t 47)) (some (.t 48))),oX 50 (.call 8 [(.t 49)]),oM 45 50,oE 51 45 0,oE 52 45 1,oE 53 45 2,oM 11 51,oM 12 52,oM 13 53]) (.seq (qR 9 [oM 55 7,oM 56 10,oX 57 (.slc 8 (.t 55) (some (.t 56)) none none),oX 58 (.call 8 [(.t 57)]),oM 54 58,oE 59 54 0,oE 60 54 1,oE 61 54 2,oM 14 59,oM 15 60,oM 16 61]) (.seq (qR 10 [oX 62 (.bslice 1 8 [(.str (bytesN []))] [(0,(.k (.str (bytesN [111,112,101,110,10])))),(1,(.k (.str (bytesN [116,105,99,107,32,49,10])))),(2,(.k (.str (bytesN [10])))),(3,(.k (.str (bytesN [99,108,111,115,101,32,52,48,32,48,10])))),(4,(.k (.str (bytesN [106,111,105,110,32,49,32,50,32,57,10])))),(5,(.k (.str (bytesN [97,110,115,119,101,114,32,49,32,50,32,119,101,108,108,10])))),(6,(.k (.str (bytesN [100,97,116,97,32,48,49,32,50,10])))),(7,(.k (.str (bytesN [84,105,99,107,10]))))]),oM 17 62]) (.seq (qR 11 [oM 64 11,oM 65 17,oM 66 2,oM 67 17,oH 68 67,oX 69 (.call 10 [(.t 66),(.t 68)]),oI 70 1 65 69,oL 71 1 70,oX 72 (.bin .add (.t 64) (.t 71)),oM 73 14,oX 74 (.bin .add (.t 72) (.t 73)),oX 75 (.call 9 [(.t 74)]),oM 63 75,oE 76 63 0,oE 77 63 1,oE 78 63 2,oM 18 76,oM 19 77,oM 20 78]) (.seq (qR 12 [oM 79 13,oX 80 (.bin .eql (.t 79) (kI 0)),oM 81 80,oG 82 (.mov (.t 16)) 81 true,oG 83 (.bin .eql (.t 82) (kI 0)) 81 true,oX 84 (.pick (.t 81) (.t 83) (.k qF)),oM 85 84,oG 86 (.mov (.t 20)) 85 true,oG 87 (.bin .eql (.t 86) (kI 3)) 85 true,oX 88 (.pick (.t 85) (.t 87) (.k qF)),oM 89 88,oG 90 (.mov (.t 19)) 89 true,oG 91 (.mov (.t 10)) 89 true,oG 92 (.bin .eql (.t 90) (.t 91)) 89 true,oX 93 (.pick (.t 89) (.t 92) (.k qF)),oM 94 93,oG 95 (.mov (.t 18)) 94 true,oG 96 (.len (.t 95)) 94 true,oG 97 (.bin .eql (.t 96) (kI 0)) 94 true,oX 98 (.pick (.t 94) (.t 97) (.k qF)),oM 6 98]) .ret))))))))),[(.t 6)],99⟩ := by kernel_rfl
theorem lbad_pfg (l : List (List Int)) (n1 n2 : Int) (hl : l.length ≤ Go.maxLen) (hr : ∀ r ∈ l,r.length = 4 ∧ ∀ z ∈ r,InR z) (hn1 : InR n1) (hn2 : InR n2) :
  PFg LnG Tryd.prog 6 [.rows 4 (l.map fun r => r.map I),I n1,I n2] (.bool true) := by
 unfold Go.maxLen at hl
 obtain ⟨es,he1,he2,he3⟩ := events_of (l.take 20) fun r h => hr r (List.mem_of_mem_take h)
 have hel2 : es.length = min 20 l.length := by rw [he1];simp
 have hel : es.length ≤ 20 := by omega
 have hp1 := picked_pf n1 (es.length + 1) hn1 (by omega)
 have hp2 := picked_pf n2 8 hn2 (by omega)
 have hq1 := pickedZ_range n1 (es.length + 1) (by omega)
 have hq2 := pickedZ_range n2 8 (by omega)
 obtain ⟨k,hk⟩ : ∃ k : Nat,pickedZ n1 (es.length + 1) = k := ⟨(pickedZ n1 (es.length + 1)).toNat,by omega⟩
 obtain ⟨b,hb⟩ : ∃ b : Nat,pickedZ n2 8 = b := ⟨(pickedZ n2 8).toNat,by omega⟩
 rw [hk] at hp1 hq1
 rw [hb] at hp2 hq2
 have hkl : k ≤ es.length := by omega
 have hb8 : b < 8 := by omega
 clear hk hb
 have hok1 : ∀ e ∈ es.take k,e.Ok := fun e h => he2 e (List.mem_of_mem_take h)
 have hok2 : ∀ e ∈ es.drop k,e.Ok := fun e h => he2 e (List.mem_of_mem_drop h)
 have h1 := show_pfg (es.take k) hok1 (by simp;omega)
 have h2 := show_pfg (es.drop k) hok2 (by simp;omega)
 have hle1 := show_le (es.take k) hok1
 have hle2 := show_le (es.drop k) hok2
 have htl : (es.take k).length = k := by simp;omega
 have hdl : (es.drop k).length ≤ 20 := by simp;omega
 have htk0 : List.take es.length (List.map Ev.C es) = List.map Ev.C es := by rw [← List.map_take,List.take_length]
 have hes1 : InR ((es.length : Int) + 1) := inW (by omega) (by omega)
 have hr4 : ∀ w ∈ badW,PFng LnG Tryd.prog 9 [.str (bS (showM (es.take k)) ++ bS w ++ bS (showM (es.drop k)))] (.tup [.rows 8 [],I k,I 3]) := fun w hw => by
  have := read_pfg (showM (es.take k) ++ w ++ showM (es.drop k))
  rw [read_bad (es.take k) w (showM (es.drop k)) hok1 (by omega) (by omega) hw,htl] at this
  rw [bS_cat,bS_cat]
  exact this
 refine PFg.of lnb follows_ok lbad_code (by simp) (by simp) (by simp) fun B hBN hB0 hG => acode_sound [0,1,2,6,7,8,9,10,11,13,14,16,17,18,19,20,28] [7] _ _ _ ?_
 simp
 refine W.loopS (fun y : Nat × List Ev => ⟨[(8,I y.1),(7,.own 0),(6,.bool false),(2,I n2),(1,I n1),(0,D.rows 4 (l.map fun r => r.map I))],[(0,.row 8 (y.2.map Ev.C))],1⟩)
  (fun n y => n = 20 - y.1 ∧ y.1 ≤ es.length ∧ y.2 = es.take y.1) ?_ ?_
 ·exact ⟨_,(0,[]),(Gh.adopt 7 8 (by omega) (by simp)).trans (Gh.of_eq (by simp)),rfl,by simp,by simp⟩
 ·rintro n ⟨i,acc⟩ ⟨hn,hil,hacc⟩
  simp only at hn hil hacc
  refine acode_sound [0,1,2,6,7,8,9,10,11,13,14,16,17,18,19,20,28] [7] _ _ _ ?_
  by_cases hlt : i < es.length
  ·have hlt2 : i < l.length := by omega
   have hlt3 : (i : Int) < 20 := by omega
   have hpe := he3 i (by rw [← he1];exact hlt) hlt
   rw [List.getElem_take] at hpe
   have hi1 : InR ((i : Int) + 1) := inW (by omega) (by omega)
   have htk : es.take (i + 1) = acc ++ [es[i]] := by rw [List.take_succ_eq_append_getElem hlt,hacc]
   have hal : acc.length = i := by rw [hacc];simp;omega
   have hcap2 : (acc.length + 1) * 64 ≤ 140737488355328 := by omega
   obtain ⟨hx1,hx2⟩ := hr _ (List.getElem_mem hlt2)
   obtain ⟨a,b,c,d,hab⟩ := four hx1
   generalize es[i] = e at hpe htk
   obtain ⟨c0,c1,c2,c3,cb,c5,c6,c7,hcs⟩ := cells_shape e
   rw [hcs,hab] at hpe
   simp only [List.map_cons,List.map_nil] at hpe
   have hmap : (es.take (i + 1)).map Ev.C = acc.map Ev.C ++ [[I c0,I c1,I c2,I c3,.bool cb,I c5,I c6,I c7]] := by rw [htk,List.map_append,List.map_cons,List.map_nil,hcs]
   simp [hlt2,hlt3,hab]
   repeat' (first
    | simp [hi1,hcap2]
    | refine ⟨wcS ?_,?_⟩
    | (refine WCall.pf (hpe) ?_ ?_ ?_ ?_;iterate 3 (solve|simp [hi1,hcap2]))
    | with_reducible refine aI ?_ ?_ ?_)
   all_goals
    refine ⟨_,(i + 1,es.take (i + 1)),(Gh.ren [3] (by simp [hB0]) (by simp [hB0] <;> decide) (by simp [hmap]) (by simp [hmap]) (.inl (by simp [hmap]))),by omega,rfl,by omega,rfl⟩
  ·have hie : i = es.length := by omega
   rw [hie,List.take_length] at hacc
   by_cases hll : i < l.length
   ·have h3i : ¬ (i : Int) < 20 := by omega
    simp [hll,h3i,hacc,hes1]
    refine W.freeze [0] ?_
    simp [freeze,hkeep,hdrop,fzS,fzR,fzV,fzC,fzO]
    refine acode_sound [0,1,2,6,7,8,9,10,11,13,14,16,17,18,19,20,28] [] _ _ _ ?_
    simp [hes1]
    refine WCall.pf hp1 (by simp) (by simp) (by simp) ?_
    by_cases hk0 : k = 0
    ·subst hk0
     simp
     refine WCall.pfng hG h1 (by simp) (by simp) ?_
     simp
     refine WCall.pfng hG h2 (by simp) (by simp [htk0]) ?_
     simp only [List.take_zero,List.drop_zero] at hr4 hle1 hle2
     simp
     refine WCall.pf hp2 (by simp) (by simp) (by simp) ?_
     have hcase : b = 0 ∨ b = 1 ∨ b = 2 ∨ b = 3 ∨ b = 4 ∨ b = 5 ∨ b = 6 ∨ b = 7 := by omega
     rcases hcase with rfl | rfl | rfl | rfl | rfl | rfl | rfl | rfl
     ·have hw := hr4 [111,112,101,110,10] (by simp [badW])
      simp
      have e0 : (showM []).length = 0 := rfl
      refine ⟨by simp only [bytesN,bS_size,List.length_cons,List.length_nil];omega,by simp only [bytesN,bS_size,List.length_cons,List.length_nil];omega,?_⟩
      refine WCall.pfng hG hw (by simp) (by simp [bytesN]) ?_
      simp
     ·have hw := hr4 [116,105,99,107,32,49,10] (by simp [badW])
      simp
      have e0 : (showM []).length = 0 := rfl
      refine ⟨by simp only [bytesN,bS_size,List.length_cons,List.length_nil];omega,by simp only [bytesN,bS_size,List.length_cons,List.length_nil];omega,?_⟩
      refine WCall.pfng hG hw (by simp) (by simp [bytesN]) ?_
      simp
     ·have hw := hr4 [10] (by simp [badW])
      simp
      have e0 : (showM []).length = 0 := rfl
      refine ⟨by simp only [bytesN,bS_size,List.length_cons,List.length_nil];omega,by simp only [bytesN,bS_size,List.length_cons,List.length_nil];omega,?_⟩
      refine WCall.pfng hG hw (by simp) (by simp [bytesN]) ?_
      simp
     ·have hw := hr4 [99,108,111,115,101,32,52,48,32,48,10] (by simp [badW])
      simp
      have e0 : (showM []).length = 0 := rfl
      refine ⟨by simp only [bytesN,bS_size,List.length_cons,List.length_nil];omega,by simp only [bytesN,bS_size,List.length_cons,List.length_nil];omega,?_⟩
      refine WCall.pfng hG hw (by simp) (by simp [bytesN]) ?_
      simp
     ·have hw := hr4 [106,111,105,110,32,49,32,50,32,57,10] (by simp [badW])
      simp
      have e0 : (showM []).length = 0 := rfl
      refine ⟨by simp only [bytesN,bS_size,List.length_cons,List.length_nil];omega,by simp only [bytesN,bS_size,List.length_cons,List.length_nil];omega,?_⟩
      refine WCall.pfng hG hw (by simp) (by simp [bytesN]) ?_
      simp
     ·have hw := hr4 [97,110,115,119,101,114,32,49,32,50,32,119,101,108,108,10] (by simp [badW])
      simp
      have e0 : (showM []).length = 0 := rfl
      refine ⟨by simp only [bytesN,bS_size,List.length_cons,List.length_nil];omega,by simp only [bytesN,bS_size,List.length_cons,List.length_nil];omega,?_⟩
      refine WCall.pfng hG hw (by simp) (by simp [bytesN]) ?_
      simp
     ·have hw := hr4 [100,97,116,97,32,48,49,32,50,10] (by simp [badW])
      simp
      have e0 : (showM []).length = 0 := rfl
      refine ⟨by simp only [bytesN,bS_size,List.length_cons,List.length_nil];omega,by simp only [bytesN,bS_size,List.length_cons,List.length_nil];omega,?_⟩
      refine WCall.pfng hG hw (by simp) (by simp [bytesN]) ?_
      simp
     ·have hw := hr4 [84,105,99,107,10] (by simp [badW])
      simp
      have e0 : (showM []).length = 0 := rfl
      refine ⟨by simp only [bytesN,bS_size,List.length_cons,List.length_nil];omega,by simp only [bytesN,bS_size,List.length_cons,List.length_nil];omega,?_⟩
      refine WCall.pfng hG hw (by simp) (by simp [bytesN]) ?_
      simp
    ·simp [hk0]
     refine ⟨hkl,?_⟩
     refine WCall.pfng hG h1 (by simp) (by simp [List.map_take]) ?_
     simp
     refine ⟨hkl,?_⟩
     refine WCall.pfng hG h2 (by simp) (by simp [List.map_drop,htk0]) ?_
     simp
     refine WCall.pf hp2 (by simp) (by simp) (by simp) ?_
     have hcase : b = 0 ∨ b = 1 ∨ b = 2 ∨ b = 3 ∨ b = 4 ∨ b = 5 ∨ b = 6 ∨ b = 7 := by omega
     rcases hcase with rfl | rfl | rfl | rfl | rfl | rfl | rfl | rfl
     ·have hw := hr4 [111,112,101,110,10] (by simp [badW])
      simp
      have e0 : (showM []).length = 0 := rfl
      refine ⟨by simp only [bytesN,bS_size,List.length_cons,List.length_nil];omega,by simp only [bytesN,bS_size,List.length_cons,List.length_nil];omega,?_⟩
      refine WCall.pfng hG hw (by simp) (by simp [bytesN]) ?_
      simp
     ·have hw := hr4 [116,105,99,107,32,49,10] (by simp [badW])
      simp
      have e0 : (showM []).length = 0 := rfl
      refine ⟨by simp only [bytesN,bS_size,List.length_cons,List.length_nil];omega,by simp only [bytesN,bS_size,List.length_cons,List.length_nil];omega,?_⟩
      refine WCall.pfng hG hw (by simp) (by simp [bytesN]) ?_
      simp
     ·have hw := hr4 [10] (by simp [badW])
      simp
      have e0 : (showM []).length = 0 := rfl
      refine ⟨by simp only [bytesN,bS_size,List.length_cons,List.length_nil];omega,by simp only [bytesN,bS_size,List.length_cons,List.length_nil];omega,?_⟩
      refine WCall.pfng hG hw (by simp) (by simp [bytesN]) ?_
      simp
     ·have hw := hr4 [99,108,111,115,101,32,52,48,32,48,10] (by simp [badW])
      simp
      have e0 : (showM []).length = 0 := rfl
      refine ⟨by simp only [bytesN,bS_size,List.length_cons,List.length_nil];omega,by simp only [bytesN,bS_size,List.length_cons,List.length_nil];omega,?_⟩
      refine WCall.pfng hG hw (by simp) (by simp [bytesN]) ?_
      simp
     ·have hw := hr4 [106,111,105,110,32,49,32,50,32,57,10] (by simp [badW])
      simp
      have e0 : (showM []).length = 0 := rfl
      refine ⟨by simp only [bytesN,bS_size,List.length_cons,List.length_nil];omega,by simp only [bytesN,bS_size,List.length_cons,List.length_nil];omega,?_⟩
      refine WCall.pfng hG hw (by simp) (by simp [bytesN]) ?_
      simp
     ·have hw := hr4 [97,110,115,119,101,114,32,49,32,50,32,119,101,108,108,10] (by simp [badW])
      simp
      have e0 : (showM []).length = 0 := rfl
      refine ⟨by simp only [bytesN,bS_size,List.length_cons,List.length_nil];omega,by simp only [bytesN,bS_size,List.length_cons,List.length_nil];omega,?_⟩
      refine WCall.pfng hG hw (by simp) (by simp [bytesN]) ?_
      simp
     ·have hw := hr4 [100,97,116,97,32,48,49,32,50,10] (by simp [badW])
      simp
      have e0 : (showM []).length = 0 := rfl
      refine ⟨by simp only [bytesN,bS_size,List.length_cons,List.length_nil];omega,by simp only [bytesN,bS_size,List.length_cons,List.length_nil];omega,?_⟩
      refine WCall.pfng hG hw (by simp) (by simp [bytesN]) ?_
      simp
     ·have hw := hr4 [84,105,99,107,10] (by simp [badW])
      simp
      have e0 : (showM []).length = 0 := rfl
      refine ⟨by simp only [bytesN,bS_size,List.length_cons,List.length_nil];omega,by simp only [bytesN,bS_size,List.length_cons,List.length_nil];omega,?_⟩
      refine WCall.pfng hG hw (by simp) (by simp [bytesN]) ?_
      simp
   ·simp [hll,hacc,hes1]
    refine W.freeze [0] ?_
    simp [freeze,hkeep,hdrop,fzS,fzR,fzV,fzC,fzO]
    refine acode_sound [0,1,2,6,7,8,9,10,11,13,14,16,17,18,19,20,28] [] _ _ _ ?_
    simp [hes1]
    refine WCall.pf hp1 (by simp) (by simp) (by simp) ?_
    by_cases hk0 : k = 0
    ·subst hk0
     simp
     refine WCall.pfng hG h1 (by simp) (by simp) ?_
     simp
     refine WCall.pfng hG h2 (by simp) (by simp [htk0]) ?_
     simp only [List.take_zero,List.drop_zero] at hr4 hle1 hle2
     simp
     refine WCall.pf hp2 (by simp) (by simp) (by simp) ?_
     have hcase : b = 0 ∨ b = 1 ∨ b = 2 ∨ b = 3 ∨ b = 4 ∨ b = 5 ∨ b = 6 ∨ b = 7 := by omega
     rcases hcase with rfl | rfl | rfl | rfl | rfl | rfl | rfl | rfl
     ·have hw := hr4 [111,112,101,110,10] (by simp [badW])
      simp
      have e0 : (showM []).length = 0 := rfl
      refine ⟨by simp only [bytesN,bS_size,List.length_cons,List.length_nil];omega,by simp only [bytesN,bS_size,List.length_cons,List.length_nil];omega,?_⟩
      refine WCall.pfng hG hw (by simp) (by simp [bytesN]) ?_
      simp
     ·have hw := hr4 [116,105,99,107,32,49,10] (by simp [badW])
      simp
      have e0 : (showM []).length = 0 := rfl
      refine ⟨by simp only [bytesN,bS_size,List.length_cons,List.length_nil];omega,by simp only [bytesN,bS_size,List.length_cons,List.length_nil];omega,?_⟩
      refine WCall.pfng hG hw (by simp) (by simp [bytesN]) ?_
      simp
     ·have hw := hr4 [10] (by simp [badW])
      simp
      have e0 : (showM []).length = 0 := rfl
      refine ⟨by simp only [bytesN,bS_size,List.length_cons,List.length_nil];omega,by simp only [bytesN,bS_size,List.length_cons,List.length_nil];omega,?_⟩
      refine WCall.pfng hG hw (by simp) (by simp [bytesN]) ?_
      simp
     ·have hw := hr4 [99,108,111,115,101,32,52,48,32,48,10] (by simp [badW])
      simp
      have e0 : (showM []).length = 0 := rfl
      refine ⟨by simp only [bytesN,bS_size,List.length_cons,List.length_nil];omega,by simp only [bytesN,bS_size,List.length_cons,List.length_nil];omega,?_⟩
      refine WCall.pfng hG hw (by simp) (by simp [bytesN]) ?_
      simp
     ·have hw := hr4 [106,111,105,110,32,49,32,50,32,57,10] (by simp [badW])
      simp
      have e0 : (showM []).length = 0 := rfl
      refine ⟨by simp only [bytesN,bS_size,List.length_cons,List.length_nil];omega,by simp only [bytesN,bS_size,List.length_cons,List.length_nil];omega,?_⟩
      refine WCall.pfng hG hw (by simp) (by simp [bytesN]) ?_
      simp
     ·have hw := hr4 [97,110,115,119,101,114,32,49,32,50,32,119,101,108,108,10] (by simp [badW])
      simp
      have e0 : (showM []).length = 0 := rfl
      refine ⟨by simp only [bytesN,bS_size,List.length_cons,List.length_nil];omega,by simp only [bytesN,bS_size,List.length_cons,List.length_nil];omega,?_⟩
      refine WCall.pfng hG hw (by simp) (by simp [bytesN]) ?_
      simp
     ·have hw := hr4 [100,97,116,97,32,48,49,32,50,10] (by simp [badW])
      simp
      have e0 : (showM []).length = 0 := rfl
      refine ⟨by simp only [bytesN,bS_size,List.length_cons,List.length_nil];omega,by simp only [bytesN,bS_size,List.length_cons,List.length_nil];omega,?_⟩
      refine WCall.pfng hG hw (by simp) (by simp [bytesN]) ?_
      simp
     ·have hw := hr4 [84,105,99,107,10] (by simp [badW])
      simp
      have e0 : (showM []).length = 0 := rfl
      refine ⟨by simp only [bytesN,bS_size,List.length_cons,List.length_nil];omega,by simp only [bytesN,bS_size,List.length_cons,List.length_nil];omega,?_⟩
      refine WCall.pfng hG hw (by simp) (by simp [bytesN]) ?_
      simp
    ·simp [hk0]
     refine ⟨hkl,?_⟩
     refine WCall.pfng hG h1 (by simp) (by simp [List.map_take]) ?_
     simp
     refine ⟨hkl,?_⟩
     refine WCall.pfng hG h2 (by simp) (by simp [List.map_drop,htk0]) ?_
     simp
     refine WCall.pf hp2 (by simp) (by simp) (by simp) ?_
     have hcase : b = 0 ∨ b = 1 ∨ b = 2 ∨ b = 3 ∨ b = 4 ∨ b = 5 ∨ b = 6 ∨ b = 7 := by omega
     rcases hcase with rfl | rfl | rfl | rfl | rfl | rfl | rfl | rfl
     ·have hw := hr4 [111,112,101,110,10] (by simp [badW])
      simp
      have e0 : (showM []).length = 0 := rfl
      refine ⟨by simp only [bytesN,bS_size,List.length_cons,List.length_nil];omega,by simp only [bytesN,bS_size,List.length_cons,List.length_nil];omega,?_⟩
      refine WCall.pfng hG hw (by simp) (by simp [bytesN]) ?_
      simp
     ·have hw := hr4 [116,105,99,107,32,49,10] (by simp [badW])
      simp
      have e0 : (showM []).length = 0 := rfl
      refine ⟨by simp only [bytesN,bS_size,List.length_cons,List.length_nil];omega,by simp only [bytesN,bS_size,List.length_cons,List.length_nil];omega,?_⟩
      refine WCall.pfng hG hw (by simp) (by simp [bytesN]) ?_
      simp
     ·have hw := hr4 [10] (by simp [badW])
      simp
      have e0 : (showM []).length = 0 := rfl
      refine ⟨by simp only [bytesN,bS_size,List.length_cons,List.length_nil];omega,by simp only [bytesN,bS_size,List.length_cons,List.length_nil];omega,?_⟩
      refine WCall.pfng hG hw (by simp) (by simp [bytesN]) ?_
      simp
     ·have hw := hr4 [99,108,111,115,101,32,52,48,32,48,10] (by simp [badW])
      simp
      have e0 : (showM []).length = 0 := rfl
      refine ⟨by simp only [bytesN,bS_size,List.length_cons,List.length_nil];omega,by simp only [bytesN,bS_size,List.length_cons,List.length_nil];omega,?_⟩
      refine WCall.pfng hG hw (by simp) (by simp [bytesN]) ?_
      simp
     ·have hw := hr4 [106,111,105,110,32,49,32,50,32,57,10] (by simp [badW])
      simp
      have e0 : (showM []).length = 0 := rfl
      refine ⟨by simp only [bytesN,bS_size,List.length_cons,List.length_nil];omega,by simp only [bytesN,bS_size,List.length_cons,List.length_nil];omega,?_⟩
      refine WCall.pfng hG hw (by simp) (by simp [bytesN]) ?_
      simp
     ·have hw := hr4 [97,110,115,119,101,114,32,49,32,50,32,119,101,108,108,10] (by simp [badW])
      simp
      have e0 : (showM []).length = 0 := rfl
      refine ⟨by simp only [bytesN,bS_size,List.length_cons,List.length_nil];omega,by simp only [bytesN,bS_size,List.length_cons,List.length_nil];omega,?_⟩
      refine WCall.pfng hG hw (by simp) (by simp [bytesN]) ?_
      simp
     ·have hw := hr4 [100,97,116,97,32,48,49,32,50,10] (by simp [badW])
      simp
      have e0 : (showM []).length = 0 := rfl
      refine ⟨by simp only [bytesN,bS_size,List.length_cons,List.length_nil];omega,by simp only [bytesN,bS_size,List.length_cons,List.length_nil];omega,?_⟩
      refine WCall.pfng hG hw (by simp) (by simp [bytesN]) ?_
      simp
     ·have hw := hr4 [84,105,99,107,10] (by simp [badW])
      simp
      have e0 : (showM []).length = 0 := rfl
      refine ⟨by simp only [bytesN,bS_size,List.length_cons,List.length_nil];omega,by simp only [bytesN,bS_size,List.length_cons,List.length_nil];omega,?_⟩
      refine WCall.pfng hG hw (by simp) (by simp [bytesN]) ?_
      simp
end Go.Proofs.YtbhcfldafpndbaaDoor
namespace Go.Proofs.YtbhcfldafpndbaaDoor
open Go.ChangeShapes Go.WideShapes Go.ChangeAt Go.RowKit
def numsE (r : List Int) : List Value := r.map (Value.int .i64)
def NumsOk (r : List Int) : Prop := ∀ z ∈ r,(Lit.int .i64 z).wf = true
def Nums (P : Program) (t : TypeId) (n : Nat) : Prop :=
 ∀ {H : Type} {enc : TypeId × Value → H} {w : World} {base : Nat} {spare : Nat → Bool} {held : Bool} {fuel : Nat} {cs : List Value} {x : DataW H × List MemPlace},
  DataW.trod enc P w base spare held fuel t cs = some x → ∃ r : List Int,cs = numsE r ∧ r.length = n ∧ NumsOk r
theorem nums_of_cells (cs : List Value) (h : ∀ i,i < cs.length → ∃ z,cs[i]? = some (.int .i64 z) ∧ (Lit.int .i64 z).wf = true) : ∃ r : List Int,cs = numsE r ∧ NumsOk r := by
 induction cs with
 | nil => exact ⟨[],rfl,fun z hz => by cases hz⟩
 | cons v cs ih =>
  obtain ⟨z,hz,hw⟩ := h 0 (by simp)
  obtain ⟨r,rfl,hr⟩ := ih fun i hi => by have := h (i + 1) (by simpa using hi);simpa using this
  simp only [List.getElem?_cons_zero,zA] at hz
  subst hz
  refine ⟨z :: r,rfl,fun y hy => ?_⟩
  rcases List.mem_cons.1 hy with rfl | hy
  ·exact hw
  ·exact hr y hy
theorem Nums.struct {P : Program} {t : TypeId} {fs : Array Field} (ht : P.underlying t = some (.struct fs)) (hc : P.cellsOf t = fs.size)
  (hf : ∀ (i : Nat) (f : Field),fs[i]? = some f → f.offset = i ∧ P.cellsOf f.type = 1 ∧ P.underlying f.type = some (.int .i64)) : Nums P t fs.size := by
 intro H enc w base spare held fuel cs x h
 obtain ⟨xs,n,_,_,hl,hlen,hx⟩ := DataW.trod_struct ht h
 rw [hc] at hl
 obtain ⟨r,rfl,hr⟩ := nums_of_cells cs fun i hi => by
  rw [hl] at hi
  have hi' : i < xs.length := by omega
  have h1 := hx i fs[i] (by simp [hi])
  obtain ⟨h2,h3,h4⟩ := hf i fs[i] (by simp [hi])
  rw [h2,h3,zE hi'] at h1
  obtain ⟨z,hz,_,hw⟩ := DataW.trod_int h4 h1
  refine ⟨z,?_,hw⟩
  have := congrArg (fun l => l[0]?) hz
  simpa [List.getElem?_take,List.getElem?_drop] using this
 exact ⟨r,rfl,by simpa [numsE] using hl,hr⟩
theorem Elt.nums {P : Program} {t : TypeId} {n : Nat} (h : Nums P t n) : Elt P t n numsE (fun r => r.length = n ∧ ∀ z ∈ r,InR z) := fun hx => by
 obtain ⟨r,rfl,hl,hk⟩ := h hx
 exact ⟨r,rfl,by simpa [numsE] using hl,hl,fun z hz => nums_wf (hk z hz)⟩
theorem open_elts {α : Type} [Inhabited α] {E : α → List Value} {ok : α → Prop} {H : Type} {enc : TypeId × Value → H} {P : Program} {w : World} {base : Nat} {spare : Nat → Bool} {held : Bool} {r0 : Reach} {b0 : Nat} {t e : TypeId} {n : Nat} {v : Value} {d : DataW H} {ps : List MemPlace}
  (ht : P.underlying t = some (.slice e)) (hc : P.cellsOf e = n) (hn0 : 0 < n) (hI : Elt P e n E ok) (hv : Value.okWide P w r0 b0 t v) (h : DataW.Trod enc P w base spare held t v d ps) :
  ∃ rows : List α,rows.length ≤ maxLen ∧ (∀ r ∈ rows,(E r).length = n ∧ ok r) ∧ Sl w n E v rows := by
 obtain ⟨a0,len0,cap0,rfl⟩ := okWide_slice ht hv
 obtain ⟨fuel,hf⟩ := h
 rcases Go.Deep.open_slice ht hf with ⟨h0,_⟩ | ⟨a,len,cap,m,k,D,Pl,hcs,hb,hl,hm,hmm,_,hx⟩
 ·simp only [Value.cells,List.cons.injEq,Value.slice.injEq,and_true] at h0
  obtain ⟨rfl,rfl,rfl⟩ := h0
  exact ⟨[],by simp,by simp,Sl.nil _ _ _⟩
 ·simp only [Value.cells,List.cons.injEq,Value.slice.injEq,and_true] at hcs
  obtain ⟨e0,e1,e2⟩ := hcs
  subst e0 e1 e2
  rw [hc] at hx
  have hlm : len0 ≤ m := by rw [hmm];split <;> omega
  have hrow : ∀ i,i < len0 → ∃ r : α,((E r).length = n ∧ ok r) ∧ ∀ j,j < n → w.cell? ((a.add (i * n)).add j) = (E r)[j]? := fun i hi => by
   obtain ⟨cs',h1,h2⟩ := hx i (by omega)
   obtain ⟨r,rfl,hr,hk⟩ := hI h2
   exact ⟨r,⟨hr,hk⟩,(World.cells?_some h1).2.2⟩
  obtain ⟨f,hf'⟩ := Go.Deep.choose_lt hrow
  have hlen : ((List.range len0).map f).length = len0 := by simp
  refine ⟨(List.range len0).map f,by rw [hlen];omega,fun r hr => ?_,some a,cap0,by rw [hlen],by rw [hlen];exact hl,(fun h => by cases h),fun hne => ?_⟩
  ·obtain ⟨i,hi,rfl⟩ := List.mem_map.1 hr
   exact (hf' i (List.mem_range.1 hi)).1
  ·have h0 : 0 < len0 := by
    rcases Nat.eq_zero_or_pos len0 with rfl | h
    ·simp at hne
    ·exact h
   have hL : ∀ i,i < len0 → (E (f i)).length = n := fun i hi => (hf' i hi).1.1
   have hc0 := (hf' 0 h0).2 0 hn0
   rw [zE (by rw [hL 0 h0];exact hn0)] at hc0
   obtain ⟨b,off,spot⟩ := a
   have hspot : spot = none := by simpa [Addr.add] using World.cell?_spot hc0
   subst hspot
   refine ⟨b,off,rfl,?_,fun i x j u hxx hu => ?_⟩
   ·obtain ⟨cs0,g1,_⟩ := hx 0 (by omega)
    simpa [Addr.add] using World.cells?_block g1 (by omega)
   ·have hi : i < len0 := by
     have := (zB.1 hxx).1
     rwa [hlen] at this
    rw [List.getElem?_map,List.getElem?_range hi] at hxx
    simp only [Option.map_some,zA] at hxx
    subst hxx
    have hj : j < n := by
     have := (zB.1 hu).1
     rwa [hL i hi] at this
    rw [← hu,← (hf' i hi).2 j hj,Go.Deep.add_add]
    congr 1
    unfold Addr.add
    split
    ·rename_i hz
     obtain ⟨h1,h2⟩ : i * n = 0 ∧ j = 0 := by omega
     rw [h1,h2];rfl
    ·rw [Nat.add_assoc]
theorem vt_nums {W : World} {v : Value} {n : Nat} {l : List (List Int)} (h : Sl W n numsE v l) (hl : ∀ r ∈ l,r.length = n) : VT (allZ W) (.rows n (l.map fun r => r.map I)) v :=
 h.rows fun r hr => ⟨by simp [numsE,hl r hr],by simp [hl r hr],fun j d hd => by
  obtain ⟨z,hz,rfl⟩ := (map_get _ _ _ _).1 hd
  exact ⟨_,(map_get _ _ _ _).2 ⟨z,hz,rfl⟩,fun Z => VT.int .i64 z⟩⟩
theorem open_rows {H : Type} {enc : TypeId × Value → H} {w : World} {base : Nat} {spare : Nat → Bool} {held : Bool} {r0 : Reach} {b0 : Nat} {t e : TypeId} {n : Nat} {v : Value} {d : DataW H} {ps : List MemPlace}
  (ht : Tryd.prog.underlying t = some (.slice e)) (hc : Tryd.prog.cellsOf e = n) (h0 : 0 < n) (he : Nums Tryd.prog e n) (hv : Value.okWide Tryd.prog w r0 b0 t v) (h : DataW.Trod enc Tryd.prog w base spare held t v d ps) :
  ∃ l : List (List Int),l.length ≤ maxLen ∧ VV s0 (allZ w) (.rows n (l.map fun r => r.map I)) v ∧ ∀ r ∈ l,r.length = n ∧ ∀ z ∈ r,InR z := by
 obtain ⟨l,h1,h2,h3⟩ := open_elts ht hc h0 (Elt.nums he) hv h
 exact ⟨l,h1,vt_nums h3 (fun r hr => (h2 r hr).2.1),fun r hr => (h2 r hr).2⟩
theorem laidOut : laidOutB Tryd.prog = true := by kernel_rfl
end Go.Proofs.YtbhcfldafpndbaaDoor
