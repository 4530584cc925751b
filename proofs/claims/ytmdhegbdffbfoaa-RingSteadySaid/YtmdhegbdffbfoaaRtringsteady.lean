/- What the program computes, step by step, and the rules for it. No condition of its own. -/
import Derived.Test.YtmdhegbdffbfoaaRab
import Derived.Scope
import Derived.KernelRfl
import Derived.Maps.Keyed
import Derived.Maps.RangeRun
import Derived.MapKept
import Derived.Lib.AppendZerosOnto
import Derived.Laws.CopyRow
import Derived.Laws.IdiomCopy
import Derived.Lib.Overlaps
import Derived.Laws.BitsAllLaws
import Derived.Deep.AppendLies
import Derived.Deep.OwnShut
import Derived.Deep.Slices
import Derived.Deep.Onto
import Derived.Laws.AppendOwnNone
import Derived.RangeFuncBox
import Derived.StillTailTactics
import Derived.OrdersIn
import Derived.RangeFuncLeaves
import Derived.Shelf.Abstract
import Derived.WalkKit
import Derived.OwnWalkIn
import Derived.TacticsInMore
import Derived.LoopNIn
import Derived.LoopIn
import Derived.Maps.AppendAt
import Derived.RangeFuncNested
set_option linter.unusedSimpArgs false
set_option linter.unusedVariables false
set_option maxRecDepth 100000
set_option maxHeartbeats 8000000
namespace Go.Proofs.Ytmdhegbdffbfoaa
open Go.RowKit
theorem PFn.pf {P : Program} {f : FuncId} {ds : List D} {d : D} (h : PFn P f ds d) : PF P f ds d := by
 refine ⟨h.1,fun Z w vs hz hl hv => (h.2 Z w vs hz hl hv).mono ?_⟩
 rintro e w' ⟨v,Zn,he,hr,hn,hb⟩
 refine ⟨v,fun b o => match Z b o with | some u => some u | none => Zn b o,he,?_,⟨fun b o u hu => by simp only [hu],fun b o u hu => ?_,fun b o u hu => ?_⟩,hb⟩
 ·refine VR.mono (n := 0) (fun b o u hu => ?_) (fun _ h => by omega) ?_ hr
  ·cases hq : Z b o with
   | none => simp only [hu]
   | some u' =>
    have h1 := World.block_lt_of_cell? w _ (hz b o u' hq)
    have h2 := (hn b o u hu).1
    simp only at h1
    omega
  ·exact VR.lt0 hr
 ·cases hq : Z b o with
  | none => simp only [hq] at hu;exact .inr (hn b o u hu).1
  | some u' => simp only [hq] at hu;exact .inl (by rw [← hu])
 ·cases hq : Z b o with
  | none => simp only [hq] at hu;exact (hn b o u hu).2
  | some u' =>
   simp only [hq,zA] at hu
   subst hu
   have := hz b o u' hq
   rw [hb.cell (p := ⟨b,o,none⟩) (World.block_lt_of_cell? w _ this)];exact this
theorem leC_refl (d : D) : leC d d := by cases d <;> rfl
theorem leL_refl : ∀ (ds : List D),leL ds ds
 | [] => trivial
 | d :: ds => ⟨leC_refl d,leL_refl ds⟩
section
variable {P : Program} {sb : Bool} {B : Base} {w w' : World} {s s' : Nat → Value} {Z Z' : Cells} {st : St} {a : Act} {o : Oper} {K : St → Prop} {K' : Act → World → Prop} {Q : Exit → Act → World → Prop}
theorem cop_callv {o : Op} {x : Opd} {as_ : List Opd} (hc : cop P o = some (.callv x as_)) : ∃ c t,o = .call c ∧ x = .t t ∧ c.callee = .value (.tmp t) ∧ opdsC c.args.toList = some as_ := by
 by_cases hl : opLoud o
 ·cases o with
  | call c =>
   simp only [cop] at hc
   split at hc
   ·rename_i g hg
    split at hc <;> simp at hc
    rename_i t ys hys
    obtain ⟨rfl,rfl⟩ := hc
    exact ⟨c,t,rfl,rfl,hg,hys⟩
   ·rename_i b hb
    split at hc
    ·split at hc <;> (try split at hc) <;> simp at hc
    ·simp at hc
    ·simp at hc
    ·split at hc
     ·split at hc
      ·split at hc
       ·split at hc <;> simp at hc
       ·cases hc
      ·cases hc
     ·cases hc
    ·cases hc
   ·cases hc
  | alloc t => simp [cop] at hc
  | box t x => simp [cop] at hc
  | store t x y => simp only [cop] at hc;split at hc <;> simp at hc
  | buildSlice t n qs =>
   simp only [cop] at hc
   split at hc
   ·split at hc
    ·split at hc <;> simp at hc
    ·cases hc
   ·cases hc
  | makeSlice t l c =>
   simp only [cop] at hc
   split at hc
   ·split at hc
    ·split at hc <;> simp at hc
    ·cases hc
   ·cases hc
  | _ => exact hl.elim
 ·have := cop_quiet hl hc
  cases this
theorem WCall.ofv {x : Opd} {f : FuncId} {as_ : List Opd} {cs : List D} {dst : Option Nat} (hok : oks st.env (.callv x as_) = true) (hf : evS st.env x = .fn f cs) (hc : CallOk P sb B f (as_.map (evS st.env) ++ cs) dst st K) : WCall P sb B (.callv x as_) dst st K := by
 intro o s Z a w K' Q hcop hd hdst h hG
 obtain ⟨hcal,hc⟩ := hc
 obtain ⟨⟨cal,ars,ats⟩,t,ho,rfl,hcl,hys⟩ := cop_callv hcop
 obtain ⟨ars⟩ := ars
 simp only at hcl hys
 subst hcl
 obtain ⟨g1,g2⟩ := args_sound h hys (fun y hy => oks_mem hok (List.mem_cons_of_mem _ hy))
 have hvf := h.vr (x := .tmp t) (y := .t t) rfl (oks_mem hok (by simp [opnds]))
 rw [hf] at hvf
 generalize hav : a.eval (.tmp t) = fv at hvf
 cases hvf with
 | fn _ _ us hul huc =>
 have hcalls := hc s Z w ((ars.map a.eval).toArray ++ us) h.h (by simp [g1,hul]) (fun j x hx => by
  rw [Array.getD_eq_getD_getElem?]
  by_cases hj : j < as_.length
  ·rw [List.getElem?_append_left (by simpa using hj)] at hx
   rw [Array.getElem?_append_left (by simp;omega)]
   simpa using g2 j x hx
  ·rw [List.getElem?_append_right (by simpa using hj)] at hx
   rw [Array.getElem?_append_right (by simp;omega)]
   have := huc _ x hx
   rw [Array.getD_eq_getD_getElem?] at this
   simp only [List.length_map,List.size_toArray] at this ⊢
   rw [← g1]
   exact VR.of_vc (VC.of_vt this))
 refine wp_enter (f := f) (vs := (ars.map a.eval).toArray ++ us) ?_ (hcalls.mono fun e w' ⟨v,he,hbl,hL⟩ => ⟨v,he,goes_call h (by rw [hd];exact hdst) hbl (by rw [hd];exact hL) hG⟩)
 unfold execOp;rw [ho]
 have := callFunc_run (P := P) (w := w) hcal ((ars.map a.eval).toArray ++ us)
 simpa [resolve,invoke,hav,Deferred.ofValue] using this
end
section
variable {P : Program} {B : Base} {hw : List FuncId} {Q Q' : Ex → St → Prop} {st st1 : St} {s : Nat → Value} {Z : Cells} {a : Act} {w : World}
theorem W.gh {c : AC} (hg : Gh B st st1) (h : W P B hw c Q st1) : W P B hw c Q st := fun hm code hc s Z a w hr => by
 obtain ⟨s',Z',hr'⟩ := hg s Z a w hr
 exact h hm code hc s' Z' a w hr'
end
def hkeep (ids : List Nat) : List (Nat × Ob) → List (Nat × Ob)
 | [] => []
 | (k,o) :: t => if ids.contains k then (k,o) :: hkeep ids t else hkeep ids t
def hdrop (ids : List Nat) : List (Nat × Ob) → List (Nat × Ob)
 | [] => []
 | (k,o) :: t => if ids.contains k then hdrop ids t else (k,o) :: hdrop ids t
theorem hget_hkeep (ids : List Nat) (id : Nat) : ∀ H,hget (hkeep ids H) id = if ids.contains id then hget H id else none
 | [] => by simp [hkeep,hget]
 | (k,o) :: t => by
  simp only [hkeep]
  split
  ·rename_i hk
   simp only [hget,hget_hkeep ids id t]
   by_cases h : id = k
   ·subst h;rw [if_pos rfl,if_pos hk,if_pos rfl]
   ·rw [if_neg h,if_neg h]
  ·rename_i hk
   rw [hget_hkeep ids id t]
   by_cases h : id = k
   ·subst h;rw [if_neg hk,if_neg hk]
   ·simp only [hget,if_neg h]
theorem hget_hdrop (ids : List Nat) (id : Nat) : ∀ H,hget (hdrop ids H) id = if ids.contains id then none else hget H id
 | [] => by simp [hdrop,hget]
 | (k,o) :: t => by
  simp only [hdrop]
  split
  ·rename_i hk
   rw [hget_hdrop ids id t]
   by_cases h : id = k
   ·subst h;rw [if_pos hk,if_pos hk]
   ·simp only [hget,if_neg h]
  ·rename_i hk
   simp only [hget,hget_hdrop ids id t]
   by_cases h : id = k
   ·subst h;rw [if_pos rfl,if_neg hk,if_pos rfl]
   ·rw [if_neg h,if_neg h]
def fzC (H : List (Nat × Ob)) (d : D) : D := match brwC H 4 d with | some e => e | none => d
def fzV (H : List (Nat × Ob)) : D → D
 | .agg ds => .agg (ds.map (fzC H))
 | d => fzC H d
def fzR (H : List (Nat × Ob)) : D → D
 | .tup ds => .tup (ds.map (fzV H))
 | .any => .any
 | d => fzV H d
def fzS (H : List (Nat × Ob)) : D → D
 | .opt g d => .opt g (fzR H d)
 | d => fzR H d
def fzO (H : List (Nat × Ob)) : Ob → Ob
 | .cells ds => .cells (ds.map (fzC H))
 | .rowd sz xs => .rowd sz (xs.map (List.map (fzC H)))
 | o => o
def freeze (ids : List Nat) (st : St) : St :=
 ⟨st.env.map fun p => (p.1,fzS (hkeep ids st.heap) p.2),(hdrop ids st.heap).map fun p => (p.1,fzO (hkeep ids st.heap) p.2),st.nx⟩
theorem eget_map (f : D → D) (hf : f .any = .any) (k : Nat) : ∀ (l : List (Nat × D)),eget (l.map fun p => (p.1,f p.2)) k = f (eget l k)
 | [] => by simp [eget,hf]
 | (j,d) :: t => by
  simp only [List.map_cons,eget]
  split
  ·rfl
  ·exact eget_map f hf k t
theorem hget_map (f : Ob → Ob) (k : Nat) : ∀ (l : List (Nat × Ob)),hget (l.map fun p => (p.1,f p.2)) k = (hget l k).map f
 | [] => rfl
 | (j,d) :: t => by
  simp only [List.map_cons,hget]
  split
  ·rfl
  ·exact hget_map f k t
theorem VT.ltN {Z : Cells} {d : D} {v : Value} (n : Nat) (h : VT Z d v) : LtC n d := by cases h <;> trivial
theorem VC.vt_agg {s : Nat → Value} {Z : Cells} {ds : List D} {v : Value} (h : VC s Z (.agg ds) v) : False := by cases h
theorem VC.vt_tup {s : Nat → Value} {Z : Cells} {ds : List D} {v : Value} (h : VC s Z (.tup ds) v) : False := by cases h
theorem RowOk.map {R R' : D → Value → Prop} {w : World} {sz : Nat} {xs : List (List D)} {v : Value} (f : D → D) (h : RowOk R w sz xs v) (hR : ∀ row ∈ xs,∀ d ∈ row,∀ u,R d u → R' (f d) u) : RowOk R' w sz (xs.map (List.map f)) v := by
 obtain ⟨h1,h2,h3⟩ := h
 refine ⟨h1,fun row hr => ?_,?_⟩
 ·obtain ⟨r,hr',rfl⟩ := List.mem_map.1 hr
  simpa using h2 r hr'
 ·rcases h3 with ⟨rfl,a,h4⟩ | ⟨g,cap,cur,e,h3,h4,h5,h6,h7,h8⟩
  ·exact .inl ⟨rfl,a,h4⟩
  ·refine .inr ⟨g,cap,cur,e,by simpa using h3,h4,by simpa using h5,h6,h7,fun i row j d hi hj => ?_⟩
   obtain ⟨r,hr',rfl⟩ := (map_get _ _ _ _).1 hi
   obtain ⟨x,hx,rfl⟩ := (map_get _ _ _ _).1 hj
   exact hR r (zD hr') x (zD hx) _ (h8 i r j x hr' hx)
section
variable {B : Base} {st : St}
theorem Gh.freeze (ids : List Nat) : Gh B st (freeze ids st) := by
 intro s Z a w hr
 obtain ⟨Hf,hHf⟩ : ∃ Hf,Hf = hkeep ids st.heap := ⟨_,rfl⟩
 have hsub : ∀ id ob,hget Hf id = some ob → hget st.heap id = some ob ∧ ids.contains id = true := fun id ob h => by
  rw [hHf,hget_hkeep] at h
  split at h
  ·rename_i hc;exact ⟨h,hc⟩
  ·cases h
 have hknow : Know s Z Hf w := ⟨fun id ob h => hr.h.ob id ob (hsub id ob h).1,hr.h.zok⟩
 classical
 let Zp : Cells := fun b o => if ∃ id ob,hget Hf id = some ob ∧ blk (s id) = some b then w.cell? ⟨b,o,none⟩ else Z b o
 have hz : ∀ b o v,Z b o = some v → Zp b o = some v := fun b o v hv => by
  show (if _ then _ else _) = _
  split
  ·rename_i h
   obtain ⟨id,ob,h1,h2⟩ := h
   have := hr.h.zap id ob b o (hsub id ob h1).1 h2
   rw [this] at hv;cases hv
  ·exact hv
 have hp : ∀ id ob b,hget Hf id = some ob → blk (s id) = some b → ∀ o v,w.cell? ⟨b,o,none⟩ = some v → Zp b o = some v := fun id ob b h1 h2 o v hv => by
  show (if _ then _ else _) = _
  rw [if_pos ⟨id,ob,h1,h2⟩];exact hv
 have kC : ∀ d v,LtC st.nx d → VC s Z d v → VC s Zp (fzC Hf d) v ∧ LtC st.nx (fzC Hf d) := fun d v hl hv => by
  unfold fzC
  cases hb : brwC Hf 4 d with
  | some e =>
   have := brwC_sound hknow hz hp 4 d e v hb hv
   exact ⟨VC.of_vt this,VT.ltN _ this⟩
  | none => exact ⟨VC.mono hz (fun _ _ => rfl) hl hv,hl⟩
 have toV : ∀ e v,VC s Zp e v → LtC st.nx e → VV s Zp e v ∧ LtV st.nx e := fun e v h1 h2 => by
  refine ⟨VV.of_vc h1,?_⟩
  cases e <;> first | exact h2 | exact (VC.vt_agg (s := s) (Z := Zp) h1).elim
 have kV : ∀ d v,LtV st.nx d → VV s Z d v → VV s Zp (fzV Hf d) v ∧ LtV st.nx (fzV Hf d) := fun d v hl hv => by
  have one : LtC st.nx d → VC s Z d v → VV s Zp (fzC Hf d) v ∧ LtV st.nx (fzC Hf d) := fun h1 h2 => by
   obtain ⟨g1,g2⟩ := kC d v h1 h2
   exact toV _ _ g1 g2
  cases d with
  | agg ds =>
   obtain ⟨vs,rfl,h1,h2⟩ := hv
   refine ⟨⟨vs,rfl,by simpa using h1,fun j x hx => ?_⟩,fun x hx => ?_⟩
   ·obtain ⟨y,hy,rfl⟩ := (map_get _ _ _ _).1 hx
    exact (kC y _ (hl y (zD hy)) (h2 j y hy)).1
   ·obtain ⟨y,hy,rfl⟩ := List.mem_map.1 hx
    obtain ⟨j,hj⟩ := zF hy
    exact (kC y _ (hl y hy) (h2 j y hj)).2
  | _ => exact one hl hv
 have toR : ∀ e v,VV s Zp e v → LtV st.nx e → VR s Zp e v ∧ LtR st.nx e := fun e v h1 h2 => by
  refine ⟨VR.of_vv h1,?_⟩
  cases e <;> first | exact h2 | exact (VC.vt_tup (s := s) (Z := Zp) h1).elim
 have kR : ∀ d v,LtR st.nx d → VR s Z d v → VR s Zp (fzR Hf d) v ∧ LtR st.nx (fzR Hf d) := fun d v hl hv => by
  have one : LtV st.nx d → VV s Z d v → VR s Zp (fzV Hf d) v ∧ LtR st.nx (fzV Hf d) := fun h1 h2 => by
   obtain ⟨g1,g2⟩ := kV d v h1 h2
   exact toR _ _ g1 g2
  cases d with
  | tup ds =>
   obtain ⟨vs,rfl,h1,h2⟩ := hv
   refine ⟨⟨vs,rfl,by simpa using h1,fun j x hx => ?_⟩,fun x hx => ?_⟩
   ·obtain ⟨y,hy,rfl⟩ := (map_get _ _ _ _).1 hx
    exact (kV y _ (hl y (zD hy)) (h2 j y hy)).1
   ·obtain ⟨y,hy,rfl⟩ := List.mem_map.1 hx
    obtain ⟨j,hj⟩ := zF hy
    exact (kV y _ (hl y hy) (h2 j y hj)).2
  | any => exact ⟨trivial,trivial⟩
  | _ => exact one hl hv
 have kS : ∀ d v,LtS st.nx d → VS s Z d v → VS s Zp (fzS Hf d) v ∧ LtS st.nx (fzS Hf d) := fun d v hl hv => by
  have one : LtR st.nx d → VR s Z d v → VS s Zp (fzR Hf d) v ∧ LtS st.nx (fzR Hf d) := fun h1 h2 => by
   obtain ⟨g1,g2⟩ := kR d v h1 h2
   exact ⟨VS.of_vr g1,LtS.of_r g2 (VR.no_opt g1)⟩
  cases d with
  | opt g d => exact ⟨⟨fun hg => (kR d v (hl hg) (hv.1 hg)).1,hv.2⟩,fun hg => (kR d v (hl hg) (hv.1 hg)).2⟩
  | _ => exact one hl hv
 have hgo : ∀ id ob,hget (Go.Proofs.Ytmdhegbdffbfoaa.freeze ids st).heap id = some ob → ∃ ob0,hget st.heap id = some ob0 ∧ ids.contains id = false ∧ ob = fzO Hf ob0 := fun id ob h => by
  have h : hget ((hdrop ids st.heap).map fun p => (p.1,fzO (hkeep ids st.heap) p.2)) id = some ob := h
  rw [hget_map,hget_hdrop,← hHf] at h
  cases hc : ids.contains id with
  | true => rw [if_pos hc] at h;cases h
  | false =>
   rw [if_neg (by rw [hc];exact Bool.false_ne_true)] at h
   cases hq : hget st.heap id with
   | none => rw [hq] at h;cases h
   | some ob0 =>
    rw [hq] at h
    simp only [Option.map_some,zA] at h
    exact ⟨ob0,rfl,rfl,h.symm⟩
 refine ⟨s,Zp,⟨fun k => ?_,fun k => ?_,hr.size,hr.defers,?_⟩⟩
 ·show VS s Zp (eget (st.env.map fun p => (p.1,fzS (hkeep ids st.heap) p.2)) k) _
  rw [eget_map _ rfl,← hHf]
  exact (kS _ _ (hr.elt k) (hr.env k)).1
 ·show LtS st.nx (eget (st.env.map fun p => (p.1,fzS (hkeep ids st.heap) p.2)) k)
  rw [eget_map _ rfl,← hHf]
  exact (kS _ _ (hr.elt k) (hr.env k)).2
 ·constructor
  ·intro id ob h
   obtain ⟨ob0,h1,h2,rfl⟩ := hgo id ob h
   have h3 := hr.h.ob id ob0 h1
   have h4 := (hr.h.lt id ob0 h1).2
   cases ob0 with
   | cells ds =>
    obtain ⟨b,T,cs,g1,g2,g3,g4⟩ := h3
    refine ⟨b,T,cs,g1,g2,by simpa using g3,fun j x hx => ?_⟩
    obtain ⟨y,hy,rfl⟩ := (map_get _ _ _ _).1 hx
    exact (kC y _ (h4 y (zD hy)) (g4 j y hy)).1
   | row sz xs => exact RowOk.mono h3 (fun _ _ => rfl) (fun _ _ _ _ _ h => VT.mono hz h)
   | rowd sz xs => exact RowOk.map _ h3 fun row hrow d hd u hu => (kC d u (h4 row hrow d hd) hu).1
   | blk sz xs => exact BlkOk.mono h3 (fun _ _ => rfl) (fun row hrow d hd u hu => VC.mono hz (fun _ _ => rfl) (h4 row hrow d hd) hu)
   | mp bare es ck => exact h3
   | it m since seen last => exact h3
  ·intro id ob h
   obtain ⟨ob0,h1,h2,rfl⟩ := hgo id ob h
   have h3 := hr.h.ob id ob0 h1
   have h4 := hr.h.lt id ob0 h1
   refine ⟨h4.1,?_⟩
   cases ob0 with
   | cells ds =>
    obtain ⟨b,T,cs,g1,g2,g3,g5⟩ := h3
    intro x hx
    obtain ⟨y,hy,rfl⟩ := List.mem_map.1 hx
    obtain ⟨j,hj⟩ := zF hy
    exact (kC y _ (h4.2 y hy) (g5 j y hj)).2
   | row sz xs => trivial
   | rowd sz xs =>
    intro row hrow x hx
    obtain ⟨r,hr',rfl⟩ := List.mem_map.1 hrow
    obtain ⟨y,hy,rfl⟩ := List.mem_map.1 hx
    rcases h3.2.2 with ⟨rfl,_⟩ | ⟨g,cap,cur,e,_,_,_,_,_,h8⟩
    ·cases hr'
    ·obtain ⟨i,hi⟩ := zF hr'
     obtain ⟨j,hj⟩ := zF hy
     exact (kC y _ (h4.2 r hr' y hy) (h8 i r j y hi hj)).2
   | blk sz xs => exact h4.2
   | mp bare es ck => trivial
   | it m since seen last => exact h4.2
  ·intro id id' ob ob' b h h' hne hb
   obtain ⟨o1,h1,_,_⟩ := hgo id ob h
   obtain ⟨o2,h2,_,_⟩ := hgo id' ob' h'
   exact hr.h.apart id id' o1 o2 b h1 h2 hne hb
  ·intro b o v hv
   have hv : (if ∃ id ob,hget Hf id = some ob ∧ blk (s id) = some b then w.cell? ⟨b,o,none⟩ else Z b o) = some v := hv
   split at hv
   ·exact hv
   ·exact hr.h.zok b o v hv
  ·intro id ob b o h hb
   obtain ⟨o1,h1,h2,_⟩ := hgo id ob h
   show (if _ then _ else _) = _
   rw [if_neg,hr.h.zap id o1 b o h1 hb]
   rintro ⟨id',ob',h3,h4⟩
   obtain ⟨h5,h6⟩ := hsub id' ob' h3
   refine hr.h.apart id id' o1 ob' b h1 h5 ?_ hb h4
   rintro rfl
   rw [h2] at h6;cases h6
  ·intro id ob b h hb
   obtain ⟨o1,h1,_,_⟩ := hgo id ob h
   exact hr.h.mine id o1 b h1 hb
  ·exact hr.h.fr
  ·exact hr.h.n0
  ·exact hr.h.bs
  ·exact fun b o v hv => hz b o v (hr.h.bz b o v hv)
  ·intro b o v hv
   have hv : (if ∃ id ob,hget Hf id = some ob ∧ blk (s id) = some b then w.cell? ⟨b,o,none⟩ else Z b o) = some v := hv
   split at hv
   ·rename_i h
    obtain ⟨id,ob,h1,h2⟩ := h
    exact .inr (hr.h.mine id ob b (hsub id ob h1).1 h2)
   ·exact hr.h.bn b o v hv
theorem W.freeze {P : Program} {hw : List FuncId} {c : AC} {Q : Ex → St → Prop} (ids : List Nat) (h : W P B hw c Q (Go.Proofs.Ytmdhegbdffbfoaa.freeze ids st)) : W P B hw c Q st := W.gh (Gh.freeze ids) h
end
theorem opdsC_one : ∀ {l : List Operand} {a : Opd},opdsC l = some [a] → ∃ x,l = [x] ∧ opdC x = some a
 | [],a,h => by simp [opdsC] at h
 | x :: l,a,h => by
  simp only [opdsC] at h
  split at h <;> simp at h
  rename_i y ys h1 h2
  obtain ⟨rfl,rfl⟩ := h
  match l,h2 with
  | [],_ => exact ⟨x,rfl,h1⟩
  | z :: l,h2 =>
   simp only [opdsC] at h2
   split at h2 <;> simp at h2
section
variable {P : Program}
end
section
variable {P : Program}
theorem xcop_call {o : Op} {k : Nat} {ns : List Nat} {xs : List Opd} (hk : 8 ≤ k) (h : xcop P o = some (.xop k ns xs)) : ∃ c,o = .call c := by
 unfold xcop at h
 split at h
 case h_8 => cases h
 case h_7 => exact ⟨_,rfl⟩
 all_goals
  exfalso
  (repeat' split at h) <;> simp at h <;> omega
theorem xcop_10 {o : Op} {n : Nat} {xs : List Opd} (h : xcop P o = some (.xop 10 [n] xs)) : ∃ c t e z x X,o = .call c ∧ c.callee = .builtin .clear ∧ c.args.toList = [x] ∧ c.argTypes.toList = [t] ∧ sliceT P t = some e ∧ szT P e = some n ∧ zeroT P e = some z ∧ opdC x = some X ∧ xs = [X] := by
 obtain ⟨c,rfl⟩ := xcop_call (by omega) h
 simp only [xcop] at h
 split at h
 case h_5 =>
  rename_i hcal
  split at h
  ·rename_i X t hargs hat
   split at h
   ·rename_i e he
    split at h
    ·rename_i n' z hn hz
     simp at h
     obtain ⟨x,h1,h2⟩ := opdsC_one hargs
     obtain ⟨rfl,g2⟩ := h
     exact ⟨c,t,e,z,x,X,rfl,hcal,h1,hat,he,hn,hz,h2,g2.symm⟩
    ·simp at h
   ·simp at h
  ·simp at h
 all_goals
  exfalso
  (repeat' split at h) <;> simp at h
end
section
variable {P : Program} {B : Base} {s : Nat → Value} {Z : Cells} {H : List (Nat × Ob)} {nx : Nat} {w : World}
theorem blk_at {id sz : Nat} {xs : List (List D)} (h : RelH B s Z H nx w) (hh : hget H id = some (.blk sz xs)) {off len cap : Nat} {sz' : Nat} {v : Value} (hv : VC s Z (.sl id sz' off len cap) v) :
  ∃ g n cur e o,s id = .slice (some ⟨g,0,none⟩) n xs.length ∧ blk (s id) = some g ∧ w.heap[g]? = some (.cells cur e (0,0)) ∧ cur.size = xs.length * sz ∧ v = .slice (some ⟨g,o,none⟩) len cap ∧ (0 < cap → o = off * sz') ∧ len ≤ cap ∧ off + cap ≤ xs.length ∧ BlkOk (VC s Z) w sz xs (s id) := by
 have ho := h.ob _ _ hh
 obtain ⟨b,n',c',o,h1,h2,h3,h4,h5⟩ := hv
 obtain ⟨g1,g2,g,n,cur,e,g3,g4,g5,g6,g7,g8⟩ := (show BlkOk (VC s Z) w sz xs (s id) from ho)
 rw [h1] at g3
 simp only [Value.slice.injEq,zA,Addr.mk.injEq,and_true] at g3
 obtain ⟨rfl,rfl,rfl⟩ := g3
 exact ⟨b,n',cur,e,o,h1,by rw [h1];simp only [blk];rw [if_neg (by omega)],g4,g7,h2,h3,h4,h5,ho⟩
theorem BlkOk.paste {sz : Nat} {xs : List (List D)} {v : Value} (h : BlkOk (VC s Z) w sz xs v) {g : Nat} (hg : Go.Proofs.Ytmdhegbdffbfoaa.blk v = some g) {off : Nat} {ys : List (List D)} {news : List Value} (hl : news.length = ys.length * sz) (hfit : off + ys.length ≤ xs.length)
  (hrow : ∀ row ∈ ys,row.length = sz) (hn : ∀ i row j d,ys[i]? = some row → row[j]? = some d → d ≠ .any → VC s Z d (news.getD (i * sz + j) undef)) :
  BlkOk (VC s Z) (w.setCells g (off * sz) news) sz (xs.take off ++ ys ++ xs.drop (off + ys.length)) v := by
 obtain ⟨h1,h2,g',n,cur,e,rfl,h4,h5,h6,h7,h8⟩ := h
 have hgg : g' = g := by simp only [Go.Proofs.Ytmdhegbdffbfoaa.blk] at hg;rw [if_neg (by omega)] at hg;exact Option.some.inj hg
 subst hgg
 have hfit' : off * sz + news.length ≤ cur.size := by rw [hl,h7,← Nat.add_mul];exact Nat.mul_le_mul_right _ hfit
 obtain ⟨cs',g1,g2,g3⟩ := heap_setCells g' e news (off * sz) w cur h4 hfit'
 have hlen : (xs.take off ++ ys ++ xs.drop (off + ys.length)).length = xs.length := by simp;omega
 refine ⟨h1,fun row hr => ?_,g',n,cs',e,by rw [hlen],g1,by rw [hlen];exact h5,by rw [hlen];exact h6,by rw [g2,hlen,h7],fun i row j d hi hj hd => ?_⟩
 ·rcases List.mem_append.1 hr with hr | hr
  ·rcases List.mem_append.1 hr with hr | hr
   ·exact h2 row (List.mem_of_mem_take hr)
   ·exact hrow row hr
  ·exact h2 row (List.mem_of_mem_drop hr)
 ·rw [g3]
  rw [List.append_assoc] at hi
  by_cases c1 : i < off
  ·rw [List.getElem?_append_left (by simp;omega),List.getElem?_take,if_pos c1] at hi
   have hjl : j < sz := by
    have := (zB.1 hj).1
    rwa [h2 _ (zD hi)] at this
   have : (i + 1) * sz ≤ off * sz := Nat.mul_le_mul_right _ c1
   rw [Nat.add_mul,Nat.one_mul] at this
   rw [if_neg (by omega)]
   exact h8 i row j d hi hj hd
  ·rw [List.getElem?_append_right (by simp;omega),List.length_take,Nat.min_eq_left (by omega)] at hi
   by_cases c2 : i < off + ys.length
   ·rw [List.getElem?_append_left (by omega)] at hi
    have hjl : j < sz := by
     have := (zB.1 hj).1
     rwa [hrow _ (zD hi)] at this
    have e1 : i * sz = off * sz + (i - off) * sz := by rw [← Nat.add_mul];congr 1;omega
    have : (i - off + 1) * sz ≤ ys.length * sz := Nat.mul_le_mul_right _ (by omega)
    rw [Nat.add_mul,Nat.one_mul] at this
    rw [if_pos (by rw [hl];omega)]
    have := hn _ row j d hi hj hd
    rwa [show i * sz + j - off * sz = (i - off) * sz + j by omega]
   ·rw [List.getElem?_append_right (by omega),List.getElem?_drop] at hi
    have e2 : off + ys.length + (i - off - ys.length) = i := by omega
    rw [e2] at hi
    have : (off + ys.length) * sz ≤ i * sz := Nat.mul_le_mul_right _ (by omega)
    rw [Nat.add_mul] at this
    rw [if_neg (by rw [hl];omega)]
    exact h8 i row j d hi hj hd
theorem paste_lt {sz off : Nat} {xs ys : List (List D)} (h1 : ∀ row ∈ xs,∀ d ∈ row,LtC nx d) (h2 : ∀ row ∈ ys,∀ d ∈ row,LtC nx d) : LtO nx (.blk sz (xs.take off ++ ys ++ xs.drop (off + ys.length))) := by
 intro row hr d hd
 rcases List.mem_append.1 hr with hr | hr
 ·rcases List.mem_append.1 hr with hr | hr
  ·exact h1 row (List.mem_of_mem_take hr) d hd
  ·exact h2 row hr d hd
 ·exact h1 row (List.mem_of_mem_drop hr) d hd
end
section
variable {P : Program} {sb : Bool} {B : Base} {st : St} {K : St → Prop} {dst : Option Nat} {X Y : Opd} {id sz off len cp : Nat}
theorem store_run {b o : Nat} {vs : List Value} {w : World} {cur : Array Value} {e : TypeId} (hb : w.heap[b]? = some (.cells cur e (0,0))) (hl : vs ≠ [] → o + vs.length ≤ cur.size) (h1 : ∀ u ∈ vs,u.oneCell' = true) :
  (storeCells ⟨b,o,none⟩ vs 0).run P w = .ok () (w.setCells b o vs) := by
 by_cases hv : vs = []
 ·subst hv;rfl
 ·have hl := hl hv
  have := run_storeCells_cells (P := P) b o vs 0 w (fun j hj => by
   rw [cell_of_row w b _ cur e (0,0) hb];simp;omega) (fun j hj => frozen_of_row w b _ cur e hb) h1
  simpa using this
end
def anyRow (sz : Nat) : List D := List.replicate sz .any
theorem zero_one {P : Program} {e : TypeId} {z : List D} (h : zeroT P e = some z) : ∃ i v,P.info? e = some i ∧ i.zero = some v ∧ i.size = z.length ∧ v.cells.size = z.length ∧ ∀ u ∈ v.cells.toList,u.oneCell' = true := by
 obtain ⟨i,v,h1,h2,h3,h4,h5⟩ := zeroT_sound (s := s0) (Z := fun _ _ => none) h
 refine ⟨i,v,h1,h2,h3,h4,fun u hu => ?_⟩
 obtain ⟨j,hj⟩ := zF hu
 have hjl : j < z.length := by
  have := (zB.1 hj).1
  rw [← h4];simpa using this
 have := h5 j z[j] (zE hjl)
 have e1 : v.cells.getD j undef = u := by
  rw [Array.getD_eq_getD_getElem?,← Array.getElem?_toList,hj];rfl
 rw [e1] at this
 exact VC.one this
theorem zeroCells_one {z : Array Value} {n : Nat} (h : ∀ u ∈ z.toList,u.oneCell' = true) : ∀ u ∈ (Builtin.zeroCells z n).toList,u.oneCell' = true := by
 intro u hu
 simp only [Builtin.zeroCells,Array.toList_map,Array.toList_range,List.mem_map,List.mem_range] at hu
 obtain ⟨i,hi,rfl⟩ := hu
 have h0 : 0 < z.size := by
  rcases Nat.eq_zero_or_pos z.size with h0 | h0
  ·rw [h0] at hi;simp at hi
  ·exact h0
 have : i % z.size < z.size := Nat.mod_lt _ h0
 rw [getElem!_pos z _ this]
 exact h _ (by simp)
theorem anyRow_ne {sz n : Nat} {i j : Nat} {row : List D} {d : D} (hi : (List.replicate n (anyRow sz))[i]? = some row) (hj : row[j]? = some d) : d = .any := by
 have h1 := List.eq_of_mem_replicate (zD hi)
 subst h1
 exact List.eq_of_mem_replicate (zD hj)
theorem anyRow_lt {sz n nx : Nat} : ∀ row ∈ List.replicate n (anyRow sz),∀ d ∈ row,LtC nx d := by
 intro row hr d hd
 have h1 := List.eq_of_mem_replicate hr
 subst h1
 have h2 := List.eq_of_mem_replicate hd
 subst h2
 trivial
section
variable {P : Program} {sb : Bool} {B : Base} {st : St} {K : St → Prop} {dst : Option Nat} {X Y : Opd} {id sz off len cp : Nat}
theorem XCall.clear {xs : List (List D)} (hok : oks st.env (.xop 10 [sz] [X]) = true) (hsb : sb = false) (hx : evS st.env X = .sl id sz off len cp) (hh : hget st.heap id = some (.blk sz xs))
  (h : K ⟨putO st.env dst .any,eput st.heap id (.blk sz (xs.take off ++ List.replicate len (anyRow sz) ++ xs.drop (off + (List.replicate len (anyRow sz)).length))),st.nx⟩) : XCall P sb B (.xop 10 [sz] [X]) dst st K := by
 intro o s Z a w K' Q hxc hd hdst hr hG
 subst hd
 obtain ⟨c,t,e,z,x,X',ho,hcal,hargs,hat,ht,hn,hz,h1,hxs⟩ := xcop_10 hxc
 simp only [List.cons.injEq,and_true] at hxs
 subst hxs
 have hv := hr.vr h1 (oks_mem hok (by simp [opnds]))
 rw [hx] at hv
 obtain ⟨g,n',cur,e',q,k1,k2,k3,k4,k5,k6,k7,k8,k9⟩ := blk_at hr.h hh hv
 obtain ⟨i,zv,hi,hz1,hz2,hz3,hz4⟩ := zero_one hz
 have hsz : z.length = sz := by
  unfold szT at hn
  rw [hi] at hn
  simp only [Option.map_some,zA] at hn
  omega
 obtain ⟨news,hnews⟩ : ∃ news,news = (Builtin.zeroCells zv.cells len).toList := ⟨_,rfl⟩
 have hnl : news.length = (List.replicate len (anyRow sz)).length * sz := by rw [hnews];simp [size_zeroCells,hz3,hsz]
 have hone : ∀ u ∈ news,u.oneCell' = true := by rw [hnews];exact zeroCells_one hz4
 have hcap0 : news ≠ [] → q = off * sz := fun hne => k6 (by
  rcases Nat.eq_zero_or_pos cp with h0 | h0
  ·exfalso
   have hl0 : len = 0 := by omega
   subst hl0
   exact hne (List.eq_nil_of_length_eq_zero (by simpa using hnl))
  ·exact h0)
 have hset : w.setCells g q news = w.setCells g (off * sz) news := by
  by_cases hne : news = []
  ·rw [hne];rfl
  ·rw [hcap0 hne]
 have hfit : off + (List.replicate len (anyRow sz)).length ≤ xs.length := by rw [List.length_replicate];omega
 have hst : (storeCells ⟨g,q,none⟩ news 0).run P w = .ok () (w.setCells g q news) := store_run k3 (fun hne => by
  rw [hcap0 hne,hnl,k4,← Nat.add_mul];exact Nat.mul_le_mul_right _ hfit) hone
 refine wp_value (v := .tuple #[]) (w' := w.setCells g (off * sz) news) ?_ ?_
 ·unfold execOp;rw [ho]
  obtain ⟨cal,ars,ats⟩ := c
  obtain ⟨ars⟩ := ars
  obtain ⟨ats⟩ := ats
  simp only at hargs hat hcal
  subst hargs hat hcal
  rw [← hset]
  rcases Nat.eq_zero_or_pos len with h0 | h0
  ·subst h0
   have hn0 : news = [] := List.eq_nil_of_length_eq_zero (by simpa using hnl)
   rw [hn0]
   simp [resolve,invoke,builtin,Builtin.clear_,run_underlying (sliceT_some ht),k5]
   rfl
  ·obtain ⟨m,rfl⟩ : ∃ m,len = m + 1 := ⟨len - 1,by omega⟩
   rw [hnews] at hst ⊢
   simp [resolve,invoke,builtin,Builtin.clear_,run_underlying (sliceT_some ht),k5,zeroValue,typeInfo,hi,hz1,hst]
 ·refine hG _ _ _ _ _ (fun hs => by rw [hsb] at hs;cases hs) h (hr.step hdst (fun _ _ => rfl) (fun _ _ _ h => h) (Nat.le_refl _) (v := .tuple #[]) (d := .any) trivial trivial ?_)
  exact hr.h.write hh k2 (Only.setCells g news (off * sz) w) (k9.paste k2 hnl hfit (fun row hr' => by rw [List.eq_of_mem_replicate hr'];simp [anyRow]) fun i row j d hi hj hd => absurd (anyRow_ne hi hj) hd) (paste_lt (hr.h.lt _ _ hh).2 anyRow_lt)
end
section
variable {P : Program} {sb : Bool} {B : Base} {st : St} {K : St → Prop} {dst : Option Nat} {X Y : Opd} {id sz off len cp : Nat}
end
section
variable {P : Program} {B : Base} {hw : List FuncId} {c : AC} {Q : Ex → St → Prop} {st : St}
theorem W.openR {t id sz : Nat} {xs : List (List D)} (ht : eget st.env t = .own id) (hh : hget st.heap id = some (.row sz xs)) (h0 : xs ≠ [])
  (h : ∀ k,W P B hw c Q ⟨eput st.env t (.sl id sz 0 xs.length (xs.length + k)),eput st.heap id (.blk sz (xs ++ List.replicate k (anyRow sz))),st.nx⟩) : W P B hw c Q st := by
 intro hm code hc s Z a w hr
 have hv := hr.env t
 rw [ht] at hv
 obtain ⟨hv1,_⟩ := hv
 obtain ⟨p1,p2,p3⟩ := (show RowOk (VT Z) w sz xs (s id) from hr.h.ob _ _ hh)
 rcases p3 with ⟨rfl,_⟩ | ⟨g,cap,cur,e,p4,p5,p6,p7,p8,p9⟩
 ·exact absurd rfl h0
 have hxl : 0 < xs.length := List.length_pos_iff.2 h0
 obtain ⟨k,rfl⟩ : ∃ k,cap = xs.length + k := ⟨cap - xs.length,by omega⟩
 have hb : blk (s id) = some g := by rw [p4];simp only [blk];rw [if_neg (by omega)]
 have hlen : (xs ++ List.replicate k (anyRow sz)).length = xs.length + k := by simp
 refine h k hm code hc s Z a w ⟨fun j => ?_,fun j => ?_,hr.size,hr.defers,?_⟩
 ·rw [eget_eput]
  split
  ·rename_i ej
   subst ej
   rw [hv1]
   exact ⟨g,xs.length,xs.length + k,0,p4,p4,fun _ => by simp,by omega,by omega⟩
  ·exact hr.env j
 ·rw [eget_eput]
  split
  ·exact (hr.h.lt _ _ hh).1
  ·exact hr.elt j
 ·refine hr.h.write hh hb ⟨rfl,rfl,rfl,rfl,fun _ _ => rfl⟩ ?_ ?_
  ·refine ⟨p1,fun row hr' => ?_,g,xs.length,cur,e,by rw [hlen];exact p4,p5,by omega,by rw [hlen];exact p7,by rw [hlen];exact p8,fun i row j d hi hj hd => ?_⟩
   ·rcases List.mem_append.1 hr' with hr' | hr'
    ·exact p2 row hr'
    ·rw [List.eq_of_mem_replicate hr'];simp [anyRow]
   ·by_cases c1 : i < xs.length
    ·rw [List.getElem?_append_left c1] at hi
     exact VC.of_vt (p9 i row j d hi hj)
    ·rw [List.getElem?_append_right (by omega)] at hi
     exact absurd (anyRow_ne hi hj) hd
  ·intro row hr' d hd
   rcases List.mem_append.1 hr' with hr' | hr'
   ·obtain ⟨i,hi⟩ := zF hr'
    obtain ⟨j,hj⟩ := zF hd
    exact VT.ltN _ (p9 i row j d hi hj)
   ·exact anyRow_lt row hr' d hd
theorem Gh.closeR {t id sz len : Nat} {xs : List (List D)} (ht : eget st.env t = .sl id sz 0 len xs.length) (hh : hget st.heap id = some (.blk sz xs)) (hT : ∀ row ∈ xs.take len,∀ d ∈ row,isT d = true) :
  Gh B st ⟨eput st.env t (.own st.nx),eput (herase st.heap id) st.nx (.row sz (xs.take len)),st.nx + 1⟩ := by
 intro s Z a w hr
 have hv := hr.env t
 rw [ht] at hv
 obtain ⟨g,n',cur,e',q,k1,k2,k3,k4,k5,k6,k7,k8,k9⟩ := blk_at hr.h hh hv
 have hx0 : 0 < xs.length := k9.2.2.choose_spec.choose_spec.choose_spec.choose_spec.2.2.1
 have hq : q = 0 := by rw [k6 hx0];simp
 subst hq
 obtain ⟨b1,b2,g',m',cur',e2,b3,b4,b5,b6,b7,b8⟩ := k9
 rw [k1] at b3
 simp only [Value.slice.injEq,zA,Addr.mk.injEq,and_true] at b3
 obtain ⟨rfl,rfl⟩ := b3
 rw [k3] at b4
 simp only [zA,Obj.cells.injEq,and_true] at b4
 obtain ⟨rfl,rfl⟩ := b4
 have hlen : (xs.take len).length = len := by rw [List.length_take];omega
 have hH := hr.h.move (w' := w) (v := .slice (some ⟨g,0,none⟩) len xs.length) (ob' := .row sz (xs.take len)) hh ⟨rfl,rfl,rfl,Nat.le_refl _,fun _ _ _ => rfl⟩ (by
  refine ⟨b1,fun row hr' => b2 row (List.mem_of_mem_take hr'),.inr ⟨g,xs.length,cur,e',by rw [hlen],k3,by rw [hlen];exact k7,b6,b7,fun i row j d hi hj => ?_⟩⟩
  have hi' : xs[i]? = some row := by
   rw [List.getElem?_take] at hi
   split at hi
   ·exact hi
   ·cases hi
  have hd := hT row (zD hi) d (zD hj)
  exact VC.vt (b8 i row j d hi' hj (fun e => by rw [e] at hd;cases hd)) hd) trivial (fun k' hk => .inr (by
   simp only [blk] at hk
   rw [if_neg (by omega)] at hk
   rw [k2,← hk]))
 refine ⟨_,Z,fun j => ?_,fun j => ?_,hr.size,hr.defers,hH⟩
 ·rw [eget_eput]
  split
  ·rename_i ej;subst ej;rw [k5];exact ⟨(upd_same _ _ _).symm,.inl ⟨_,_,_,rfl⟩⟩
  ·exact (hr.env j).mono (fun _ _ _ h => h) (upd_lt s st.nx _) (hr.elt j)
 ·rw [eget_eput]
  split
  ·exact Nat.lt_succ_self _
  ·exact (hr.elt j).mono (Nat.le_succ _)
end
end Go.Proofs.Ytmdhegbdffbfoaa
namespace Go.Proofs.Ytmdhegbdffbfoaa
open Go.ChangeShapes Go.WideShapes Go.ChangeAt Go.RowKit
def keyN (k : Nat) : Nat := mixN [k % 256,k / 256 % 256,k / 65536 % 256,k / 16777216] 2166136261
theorem hashKey_ok (k : Nat) (w : World) (hk : k < 4294967296) :
  Calls Try.prog 16 #[.int .i64 k] w fun e w' => e = .returned (.tuple #[.int .i64 (keyN k : Nat),.int .i64 0]) ∧ Below w.heap.size w w' := by
 have E := Lib.hid (show keyN k = mixN [k % 256,k / 256 % 256,k / 65536 % 256,k / 16777216] 2166136261 from rfl)
 go_enter Try.func16,Try.ntmps16
 go_wp2_with fail
 refine (mix_any [k % 256,k / 256 % 256,k / 65536 % 256,k / 16777216] w.heap.size 0 4 _ (by simp) ?_ ?_).mono ?_
 ·intro i hi
  have h : i = 0 ∨ i = 1 ∨ i = 2 ∨ i = 3 := by simp at hi;omega
  rcases h with rfl | rfl | rfl | rfl <;> simp <;> omega
 ·intro i hi
  have h : i = 0 ∨ i = 1 ∨ i = 2 ∨ i = 3 := by simp at hi;omega
  rcases h with rfl | rfl | rfl | rfl <;> simp [go_sem]
 rintro e w' ⟨rfl,rfl⟩
 rw [← E.out]
 go_wp2
 go_ret2
 exact ⟨rfl,(Below.refl _ _).alloc (Nat.le_refl _) _⟩
theorem hashKey_any (k : Int) (w : World) (h0 : 0 ≤ k) (hk : k < 4294967296) :
  Calls Try.prog 16 #[.int .i64 k] w fun e w' => e = .returned (.tuple #[.int .i64 (keyN k.toNat : Nat),.int .i64 0]) ∧ Below w.heap.size w w' := by
 obtain ⟨k,rfl⟩ := Int.eq_ofNat_of_zero_le h0
 exact hashKey_ok k w (by omega)
end Go.Proofs.Ytmdhegbdffbfoaa
namespace Go.Proofs.Ytmdhegbdffbfoaa
open Go.RowKit
theorem owns_call {w w' : World} {base : Nat} {e : TypeId} {sz n : Nat} {v : Value} {xs : List Value} (h : w.ownsRow base e sz v n xs) (hb : Below w.heap.size w w') : w'.ownsRow base e sz v n xs := by
 obtain ⟨h1,h2⟩ := h
 refine ⟨h1,?_⟩
 rcases h2 with h2 | ⟨g,cap,cur,hv,hg,hh,r⟩
 ·exact Or.inl h2
 ·refine Or.inr ⟨g,cap,cur,hv,hg,?_,r⟩
  rw [hb.block g ?_]
  ·exact hh
  ·rcases Nat.lt_or_ge g w.heap.size with h1 | h1
   ·exact h1
   ·rw [Array.getElem?_eq_none h1] at hh;cases hh
theorem WCall.pfv {P : Program} {sb : Bool} {B : Base} {st : St} {K : St → Prop} {x : Opd} {f : FuncId} {cs : List D} {as_ : List Opd} {es : List D} {d : D} {dst : Option Nat} (hpf : PF P f es d) (hok : oks st.env (.callv x as_) = true) (hf : evS st.env x = .fn f cs)
  (hes : match omap (brwV st.heap) (as_.map (evS st.env) ++ cs) with | some e => leVL e es | none => False) (hno : ((as_.map (evS st.env) ++ cs).all noV || flatR d) = true)
  (hK : K ⟨putO st.env dst d,st.heap,st.nx⟩) : WCall P sb B (.callv x as_) dst st K := WCall.ofv hok hf (CallOk.pf hpf hes hno hK)
end Go.Proofs.Ytmdhegbdffbfoaa
namespace Go.Proofs.Ytmdhegbdffbfoaa
def idxZ {α : Type} (q : α → Bool) : List α → Int
 | [] => -1
 | x :: l => if q x then 0 else if idxZ q l < 0 then -1 else idxZ q l + 1
theorem idxZ_lo {α : Type} (q : α → Bool) : ∀ l : List α,-1 ≤ idxZ q l ∧ idxZ q l < l.length
 | [] => by simp [idxZ]
 | x :: l => by
  have := idxZ_lo q l
  simp only [idxZ,List.length_cons]
  split
  ·omega
  ·split <;> omega
theorem idxZ_at {α : Type} (q : α → Bool) : ∀ (l : List α) (i : Nat) (h : i < l.length),(∀ j (hj : j < i),q l[j] = false) → q l[i] = true → idxZ q l = i
 | [],i,h,_,_ => by simp at h
 | x :: l,0,h,_,hq => by
  simp only [List.getElem_cons_zero] at hq
  simp [idxZ,hq]
 | x :: l,i + 1,h,hb,hq => by
  have h0 := hb 0 (by omega)
  simp only [List.getElem_cons_zero] at h0
  have ih := idxZ_at q l i (by simpa using h) (fun j hj => by simpa using hb (j + 1) (by omega)) (by simpa using hq)
  simp only [idxZ,h0,Bool.false_eq_true,if_false,ih]
  rw [if_neg (by omega)];omega
theorem idxZ_none {α : Type} (q : α → Bool) : ∀ (l : List α),(∀ x ∈ l,q x = false) → idxZ q l = -1
 | [],_ => rfl
 | x :: l,h => by simp [idxZ,h x (by simp),idxZ_none q l fun y hy => h y (List.mem_cons_of_mem _ hy)]
theorem idxZ_some {α : Type} (q : α → Bool) : ∀ (l : List α),(∃ x ∈ l,q x = true) → 0 ≤ idxZ q l
 | [],h => by simp at h
 | x :: l,h => by
  simp only [idxZ]
  split
  ·omega
  ·rename_i hx
   have : 0 ≤ idxZ q l := idxZ_some q l (by
    obtain ⟨y,hy,hq⟩ := h
    rcases List.mem_cons.1 hy with rfl | hy
    ·exact absurd hq hx
    ·exact ⟨y,hy,hq⟩)
   rw [if_neg (by omega)];omega
theorem idxZ_get {α : Type} (q : α → Bool) : ∀ (l : List α) (h : 0 ≤ idxZ q l),∃ (h2 : (idxZ q l).toNat < l.length),q l[(idxZ q l).toNat] = true ∧ ∀ j (hj : j < (idxZ q l).toNat),q (l[j]'(by omega)) = false := fun l h => by
 by_cases hx : ∃ x ∈ l,q x = true
 ·obtain ⟨i,hi,hq,hb⟩ : ∃ (i : Nat) (hi : i < l.length),q l[i] = true ∧ ∀ j (hj : j < i),q (l[j]'(by omega)) = false := by
   obtain ⟨x,hx,hq⟩ := hx
   have h1 : l.findIdx q < l.length := List.findIdx_lt_length_of_exists ⟨x,hx,hq⟩
   exact ⟨l.findIdx q,h1,List.findIdx_getElem (w := h1),fun j hj => by simpa using List.not_of_lt_findIdx hj⟩
  have e := idxZ_at q l i hi hb hq
  have e2 : (idxZ q l).toNat = i := by omega
  refine ⟨by omega,?_,fun j hj => hb j (by omega)⟩
  simp only [e2];exact hq
 ·have := idxZ_none q l fun x hm => by
   cases hqx : q x with
   | true => exact absurd ⟨x,hm,hqx⟩ hx
   | false => rfl
  omega
end Go.Proofs.Ytmdhegbdffbfoaa
namespace Go.Proofs.Ytmdhegbdffbfoaa
open Go.RowKit
attribute [local simp] AK_at acode_seq acode_region acode_draw acode_cond CB_u acode_block acode_loop acode_exit acode_scope acode_ret acode_skip seqQ_n seqQ_e seqQ_r blockQ_n blockQ_e blockQ_r TK_at OK_at SK_at aops_nil aops_cons asch_done asch_one asch_two asch_top astep aop_eq isLoud aloud aloud1 isWrite qv evS strip gof eget hget putO eput herase oks opnds gS afin afin0 binD arith D.cells takeD fillD keep trim envOf Fin aresl aresv resD argOk pickV isP deq deqs boundD slD lenD isT isSl ptrIds chunks mn_min mx_max splice_one splice_more Rbr_at Rfr_at frR frV frC flatC brwR brwV brwC omap leR leV leC leL leVL rnR rnV rnC rnO rho_0 hputs herases rnS LtS LtR LtV LtC LtO lget noV noC flatR flatV rho
attribute [local simp ↓] CB_t CB_f
theorem brw_T (H : List (Nat × Ob)) (n : Nat) : ∀ ds : List D,(∀ d ∈ ds,isT d = true) → omap (brwC H n) ds = some ds
 | [],_ => rfl
 | d :: ds,h => by
  have h1 : brwC H n d = some d := by
   have := h d (by simp)
   cases d <;> first | (cases this;done) | (cases n <;> rfl)
  simp only [omap,h1,brw_T H n ds fun x hx => h x (List.mem_cons_of_mem _ hx)]
def lowB {α : Type} (p : α → Bool) (l : List α) : Nat := (l.takeWhile p).length
theorem lowB_at {α : Type} (p : α → Bool) : ∀ (l : List α) (i : Nat),i ≤ l.length → (∀ j (hj : j < l.length),j < i → p l[j] = true) → (∀ (hi : i < l.length),p l[i] = false) → lowB p l = i
 | [],i,h,_,_ => by simp at h;subst h;rfl
 | x :: l,0,_,_,h2 => by
  have := h2 (by simp)
  simp only [List.getElem_cons_zero] at this
  simp [lowB,List.takeWhile_cons,this]
 | x :: l,i + 1,h,h1,h2 => by
  have h0 := h1 0 (by simp) (by omega)
  simp only [List.getElem_cons_zero] at h0
  have ih := lowB_at p l i (by simpa using h) (fun j hj hji => by have := h1 (j + 1) (by simpa using hj) (by omega);rwa [List.getElem_cons_succ] at this) (fun hi => by have := h2 (by simpa using hi);rwa [List.getElem_cons_succ] at this)
  unfold lowB at ih ⊢
  rw [List.takeWhile_cons,if_pos h0,List.length_cons,ih]
theorem lowB_le {α : Type} (p : α → Bool) (l : List α) : lowB p l ≤ l.length := (List.takeWhile_sublist p).length_le
theorem ixf_gen1 (z : Nat) (f : FuncId) (hc : cfun Try.prog [] f = some ⟨(.seq (.region 0 [⟨(some 4),(.mov (.k (.int .i64 0))),none⟩]) (.seq (.seq (.region 1 [⟨(some 6),(.mov (.t 0)),none⟩,⟨(some 7),(.len (.t 6)),none⟩,⟨(some 8),(.mov (.k (.int .i64 0))),none⟩]) (.block 0 (.loop (.seq (.region 2 [⟨(some 9),(.bin .lss (.t 8) (.t 7)),none⟩]) (.seq (.cond 9 .skip (.exit 0)) (.seq (.block 1 (.seq (.region 3 [⟨(some 10),(.mov (.t 8)),none⟩,⟨(some 5),(.mov (.t 10)),none⟩]) (.seq (.region 4 [⟨(some 11),(.mov (.t 1)),none⟩,⟨(some 12),(.mov (.t 0)),none⟩,⟨(some 13),(.mov (.t 5)),none⟩,⟨(some 14),(.iads z (.t 12) (.t 13)),none⟩,⟨(some 15),(.load true z (.t 14)),none⟩,⟨(some 16),(.callv (.t 11) [(.t 15)]),none⟩]) (.cond 16 (.seq (.region 5 [⟨(some 17),(.mov (.t 5)),none⟩,⟨(some 4),(.mov (.t 17)),none⟩]) .ret) .skip)))) (.region 6 [⟨(some 18),(.bin .add (.t 8) (.k (.int .i64 1))),none⟩,⟨(some 8),(.mov (.t 18)),none⟩]))))))) (.seq (.region 7 [⟨(some 4),(.mov (.k (.int .i64 (-1)))),none⟩]) .ret))),[(.t 4)],19⟩) {α : Type} (E : α → List D) (l : List α) (F : FuncId) (ds : List D) (q : α → Bool) (hl : l.length ≤ 1000000) (hE : Els z E l) (hF : ∀ s ∈ l,PF Try.prog F [.agg (E s),.pc ds] (.bool (q s))) : PF Try.prog f [.rows z (l.map E),.fn F [.pc ds]] (I (idxZ q l)) := by
 refine pO hc [0,1,4,5,7,8,9,16] [] fun B hBN hB0 => ?_
 simp
 refine W.loopS (fun i : Nat => ⟨[(8,I i),(7,I l.length),(4,I 0),(1,.fn F [.pc ds]),(0,D.rows z (l.map E))],[],0⟩)
  (fun n i => n = l.length - i ∧ i ≤ l.length ∧ ∀ j (hj : j < l.length),j < i → q l[j] = false) ?_ ?_
 ·exact ⟨_,0,(gr0 [] hB0 (by simp) (by simp) (.inr rfl)),rfl,by omega,fun j _ h => by omega⟩
 rintro n i ⟨hn,hi,hb⟩
 refine acode_sound [0,1,4,5,7,8,9,16] [] _ _ _ ?_
 by_cases hlt : i < l.length
 ·have hm : l[i] ∈ l := List.getElem_mem hlt
  have hE0 := hE _ hm
  have hFo := hF _ hm
  obtain ⟨o,ho⟩ : ∃ o,o = l[i] := ⟨_,rfl⟩
  rw [← ho] at hE0 hFo
  obtain ⟨h1,h2⟩ := hE0
  have h3 : (E o).take z = E o := List.take_of_length_le (by omega)
  have h4 := fun H n => brw_T H n (E o) h2
  have ii : InR ((i : Int) + 1) := inW (by omega) (by omega)
  simp [hlt,← ho,h1,h3]
  cases hq : q o with
  | true =>
   have hz := idxZ_at q l i hlt (fun j hj => hb j (by omega) hj) (by rw [← ho];exact hq)
   repeat' (first
    | simp [hq,hz,h4,leL_refl]
    | refine ⟨wcS ?_,?_⟩
    | (refine WCall.pfv (hFo) ?_ rfl ?_ ?_ ?_;iterate 3 (solve|simp [hq,hz,h4,leL_refl]))
    | with_reducible refine aI ?_ ?_ ?_)
  | false =>
   repeat' (first
    | simp [hq,ii,h4,leL_refl]
    | refine ⟨wcS ?_,?_⟩
    | (refine WCall.pfv (hFo) ?_ rfl ?_ ?_ ?_;iterate 3 (solve|simp [hq,ii,h4,leL_refl]))
    | with_reducible refine aI ?_ ?_ ?_)
   exact ⟨_,i + 1,(gr0 [] hB0 (by simp) (by simp) (.inr rfl)),by omega,rfl,by omega,fun j hj h => by
    by_cases hji : j = i
    ·subst hji;rw [← ho];exact hq
    ·exact hb j hj (by omega)⟩
 ·have hz := idxZ_none q l fun x hx => by
   obtain ⟨j,hj⟩ := zF hx
   obtain ⟨hj2,rfl⟩ := zB.1 hj
   exact hb j hj2 (by omega)
  have hie : i = l.length := by omega
  subst hie
  simp [hz]
theorem spixf1_pf {α : Type} (E : α → List D) (l : List α) (F : FuncId) (ds : List D) (q : α → Bool) (hl : l.length ≤ 1000000) (hE : Els 2 E l) (hF : ∀ s ∈ l,PF Try.prog F [.agg (E s),.pc ds] (.bool (q s))) : PF Try.prog 35 [.rows 2 (l.map E),.fn F [.pc ds]] (I (idxZ q l)) :=
 ixf_gen1 2 _ (by kernel_rfl) E l F ds q hl hE hF
theorem bsf_gen (f : FuncId) (hc : cfun Try.prog [] f = some ⟨(.seq (.region 0 [⟨(some 4),(.box (.t 1)),none⟩,⟨(some 6),(.mov (.k (.int .i64 0))),none⟩,⟨(some 7),(.mov (.k (.bool false))),none⟩]) (.seq (.region 1 [⟨(some 12),(.mov (.t 0)),none⟩,⟨(some 13),(.len (.t 12)),none⟩,⟨(some 8),(.mov (.t 13)),none⟩]) (.seq (.region 2 [⟨(some 14),(.mov (.t 8)),none⟩,⟨(some 9),(.mov (.k (.int .i64 0))),none⟩,⟨(some 10),(.mov (.t 14)),none⟩]) (.seq (.block 0 (.loop (.seq (.seq (.region 3 [⟨(some 15),(.mov (.t 9)),none⟩,⟨(some 16),(.mov (.t 10)),none⟩,⟨(some 17),(.bin .lss (.t 15) (.t 16)),none⟩]) (.cond 17 .skip (.exit 0))) (.block 1 (.seq (.region 4 [⟨(some 18),(.mov (.t 9)),none⟩,⟨(some 19),(.mov (.t 10)),none⟩,⟨(some 20),(.bin .add (.t 18) (.t 19)),none⟩,⟨(some 21),(.conv .u64 (.t 20)),none⟩,⟨(some 22),(.bin .shr (.t 21) (.k (.int .u64 1))),none⟩,⟨(some 23),(.conv .i64 (.t 22)),none⟩,⟨(some 11),(.mov (.t 23)),none⟩]) (.seq (.draw 5 (.one true ⟨(some 24),(.mov (.t 2)),none⟩ (.one true ⟨(some 25),(.mov (.t 0)),none⟩ (.one true ⟨(some 26),(.mov (.t 11)),none⟩ (.one true ⟨(some 27),(.iads 2 (.t 25) (.t 26)),none⟩ (.one true ⟨(some 28),(.load true 2 (.t 27)),none⟩ (.one true ⟨(some 29),(.load true 2 (.t 4)),none⟩ (.one false ⟨(some 30),(.callv (.t 24) [(.t 28),(.t 29)]),none⟩ (.one true ⟨(some 31),(.bin .lss (.t 30) (.k (.int .i64 0))),none⟩ .done))))))))) (.cond 31 (.region 6 [⟨(some 32),(.mov (.t 11)),none⟩,⟨(some 33),(.bin .add (.t 32) (.k (.int .i64 1))),none⟩,⟨(some 9),(.mov (.t 33)),none⟩]) (.region 7 [⟨(some 34),(.mov (.t 11)),none⟩,⟨(some 10),(.mov (.t 34)),none⟩])))))))) (.seq (.draw 8 (.one true ⟨(some 35),(.mov (.t 9)),none⟩ (.one true ⟨(some 36),(.mov (.t 9)),none⟩ (.one true ⟨(some 37),(.mov (.t 8)),none⟩ (.one true ⟨(some 38),(.bin .lss (.t 36) (.t 37)),none⟩ (.one true ⟨(some 39),(.mov (.t 38)),none⟩ (.one true ⟨(some 40),(.mov (.t 2)),(some (39,true))⟩ (.one true ⟨(some 41),(.mov (.t 0)),(some (39,true))⟩ (.one true ⟨(some 42),(.mov (.t 9)),(some (39,true))⟩ (.one true ⟨(some 43),(.iads 2 (.t 41) (.t 42)),(some (39,true))⟩ (.one true ⟨(some 44),(.load true 2 (.t 43)),(some (39,true))⟩ (.one true ⟨(some 45),(.load true 2 (.t 4)),(some (39,true))⟩ (.one false ⟨(some 46),(.callv (.t 40) [(.t 44),(.t 45)]),(some (39,true))⟩ (.one true ⟨(some 47),(.bin .eql (.t 46) (.k (.int .i64 0))),(some (39,true))⟩ (.one true ⟨(some 48),(.pick (.t 39) (.t 47) (.k (.bool false))),none⟩ (.one true ⟨(some 6),(.mov (.t 35)),none⟩ (.one true ⟨(some 7),(.mov (.t 48)),none⟩ .done))))))))))))))))) .ret))))),[(.t 6),(.t 7)],49⟩) {α : Type} (E : α → List D) (l : List α) (F : FuncId) (a b : Int) (cf : α → Int) (hl : l.length ≤ 1000000) (hE : Els 2 E l) (hF : ∀ s ∈ l,PF Try.prog F [.agg (E s),.agg [I a,I b]] (I (cf s)))
  (hmono : ∀ i j (hi : i < l.length) (hj : j < l.length),i ≤ j → cf l[j] < 0 → cf l[i] < 0) :
  PF Try.prog f [.rows 2 (l.map E),.agg [I a,I b],.fn F []] (.tup [I (lowB (fun x => decide (cf x < 0)) l),.bool (decide (∃ (h : lowB (fun x => decide (cf x < 0)) l < l.length),cf (l[lowB (fun x => decide (cf x < 0)) l]'h) = 0))]) := by
 have hp : (2 : Int) ^ min 1 IntKind.u64.bits = 2 := by decide
 refine pO hc [0,1,2,4,6,7,8,9,10,11,17,31] [] fun B hBN hB0 => ?_
 simp
 refine W.loopS (fun y : Nat × Nat => ⟨[(10,I y.2),(9,I y.1),(8,I l.length),(7,.bool false),(6,I 0),(4,.ptr 0 0),(2,.fn F []),(0,D.rows 2 (l.map E))],[(0,.cells [I a,I b])],1⟩)
  (fun n y => n = y.2 - y.1 ∧ y.1 ≤ y.2 ∧ y.2 ≤ l.length ∧ (∀ j (hj : j < l.length),j < y.1 → cf l[j] < 0) ∧ (∀ j (hj : j < l.length),y.2 ≤ j → 0 ≤ cf l[j])) ?_ ?_
 ·exact ⟨_,(0,l.length),(gr0 [] hB0 (by simp) (by simp) (.inr rfl)),rfl,by simp,by simp,fun j _ h => by simp at h,fun j hj h => by simp at h;omega⟩
 rintro n ⟨i,j⟩ ⟨hn,hij,hjl,hlo,hhi⟩
 simp only at hn hij hjl hlo hhi
 refine acode_sound [0,1,2,4,6,7,8,9,10,11,17,31] [] _ _ _ ?_
 by_cases hlt : i < j
 ·obtain ⟨h,hh⟩ : ∃ h,h = (i + j) / 2 := ⟨_,rfl⟩
  have hhl : h < l.length := by omega
  have hm : l[h] ∈ l := List.getElem_mem hhl
  have hE0 := hE _ hm
  have hFo := hF _ hm
  obtain ⟨o,ho⟩ : ∃ o,o = l[h] := ⟨_,rfl⟩
  rw [← ho] at hE0 hFo
  obtain ⟨h1,h2⟩ := hE0
  have h3 : (E o).take 2 = E o := List.take_of_length_le (by omega)
  have h4 := fun H n => brw_T H n (E o) h2
  have iij : InR ((i : Int) + j) := inW (by omega) (by omega)
  have hw1 : IntKind.u64.wrap ((i : Int) + j) = (i : Int) + j := by rw [IntKind.wrap_u64];omega
  have hd : ((i : Int) + j) / 2 = (h : Nat) := by omega
  have ih : InR (h : Int) := inW (by omega) (by omega)
  have ii : InR ((h : Int) + 1) := inW (by omega) (by omega)
  have hol : cf l[h] = cf o := by rw [← ho]
  by_cases hc : cf o < 0
  ·skip
   repeat' (first
    | simp [hlt,iij,hw1,hd,ih,← ho,h1,h3,h4,hp,hhl,leL_refl,hc,ii]
    | refine ⟨wcS ?_,?_⟩
    | (refine WCall.pfv (hFo) ?_ rfl ?_ ?_ ?_;iterate 3 (solve|simp [hlt,iij,hw1,hd,ih,← ho,h1,h3,h4,hp,hhl,leL_refl,hc,ii]))
    | with_reducible refine aI ?_ ?_ ?_)
   exact ⟨_,(h + 1,j),(gr0 [] hB0 (by simp) (by simp) (.inr rfl)),by simp only;omega,rfl,by simp only;omega,by simp only;omega,fun k hk hkh => by
    simp only at hkh
    exact hmono k h hk hhl (by omega) (by rw [hol];exact hc),hhi⟩
  ·skip
   repeat' (first
    | simp [hlt,iij,hw1,hd,ih,← ho,h1,h3,h4,hp,hhl,leL_refl,hc,ii]
    | refine ⟨wcS ?_,?_⟩
    | (refine WCall.pfv (hFo) ?_ rfl ?_ ?_ ?_;iterate 3 (solve|simp [hlt,iij,hw1,hd,ih,← ho,h1,h3,h4,hp,hhl,leL_refl,hc,ii]))
    | with_reducible refine aI ?_ ?_ ?_)
   exact ⟨_,(i,h),(gr0 [] hB0 (by simp) (by simp) (.inr rfl)),by simp only;omega,rfl,by simp only;omega,by simp only;omega,hlo,fun k hk hkh => by
    simp only at hkh
    exact Int.not_lt.1 fun hck => hc (by rw [← hol];exact hmono h k hhl hk hkh hck)⟩
 ·obtain rfl : i = j := by omega
  have hlb := lowB_at (fun x => decide (cf x < 0)) l i hjl (fun j hj hji => by simpa using hlo j hj hji) (fun hi => by simpa using hhi i hi (Nat.le_refl _))
  by_cases hil : i < l.length
  ·have hm : l[i] ∈ l := List.getElem_mem hil
   have hE0 := hE _ hm
   have hFo := hF _ hm
   obtain ⟨o,ho⟩ : ∃ o,o = l[i] := ⟨_,rfl⟩
   have hol : cf l[i] = cf o := by rw [← ho]
   rw [← ho] at hE0 hFo
   obtain ⟨h1,h2⟩ := hE0
   have h3 : (E o).take 2 = E o := List.take_of_length_le (by omega)
   have h4 := fun H n => brw_T H n (E o) h2
   simp only [hlb]
   repeat' (first
    | simp [hil,← ho,h1,h3,h4,leL_refl]
    | refine ⟨wcS ?_,?_⟩
    | (refine WCall.pfv (hFo) ?_ rfl ?_ ?_ ?_;iterate 3 (solve|simp [hil,← ho,h1,h3,h4,leL_refl]))
    | with_reducible refine aI ?_ ?_ ?_)
  ·simp only [hlb]
   simp [hil]
theorem spbsf_pf {α : Type} (E : α → List D) (l : List α) (F : FuncId) (a b : Int) (cf : α → Int) (hl : l.length ≤ 1000000) (hE : Els 2 E l) (hF : ∀ s ∈ l,PF Try.prog F [.agg (E s),.agg [I a,I b]] (I (cf s)))
  (hmono : ∀ i j (hi : i < l.length) (hj : j < l.length),i ≤ j → cf l[j] < 0 → cf l[i] < 0) :
  PF Try.prog 37 [.rows 2 (l.map E),.agg [I a,I b],.fn F []] (.tup [I (lowB (fun x => decide (cf x < 0)) l),.bool (decide (∃ (h : lowB (fun x => decide (cf x < 0)) l < l.length),cf (l[lowB (fun x => decide (cf x < 0)) l]'h) = 0))]) :=
 bsf_gen _ (by kernel_rfl) E l F a b cf hl hE hF hmono
def cmpZ (a b : Int) : Int := if a < b then -1 else if b < a then 1 else 0
def ord2 (a b c d : Int) : Int := if cmpZ a c = 0 then cmpZ b d else cmpZ a c
theorem cmpZ_zero {a b : Int} : cmpZ a b = 0 ↔ a = b := by
 unfold cmpZ
 split
 ·constructor
  ·intro h;omega
  ·intro h;omega
 ·split
  ·constructor
   ·intro h;omega
   ·intro h;omega
  ·constructor
   ·intro h;omega
   ·intro h;rfl
theorem cmpZ_neg {a b : Int} : cmpZ a b < 0 ↔ a < b := by
 unfold cmpZ
 split
 ·simp;assumption
 ·split
  ·constructor <;> intro h <;> omega
  ·constructor <;> intro h <;> omega
theorem ord2_neg {a b c d : Int} : ord2 a b c d < 0 ↔ a < c ∨ (a = c ∧ b < d) := by
 unfold ord2
 split
 ·rename_i h
  rw [cmpZ_zero] at h
  rw [cmpZ_neg]
  omega
 ·rename_i h
  rw [cmpZ_zero] at h
  rw [cmpZ_neg]
  omega
theorem cnan_code : cfun Try.prog [] 49 = some ⟨(.seq (qR 0 [oX 2 (.mov (.k qF))]) (.seq (qR 1 [oM 3 0,oM 4 0,oX 5 (.bin .neq (.t 3) (.t 4)),oM 2 5]) .ret)),[(.t 2)],6⟩ := by kernel_rfl
theorem cnan_pf (a : Int) : PF Try.prog 49 [I a] (.bool false) := by
 refine pO cnan_code [0,2] [] fun B hBN hB0 => ?_
 simp
theorem ccmp_code : cfun Try.prog [] 34 = some ⟨(.seq (qR 0 [oK 4 0]) (.seq (qR 1 [oM 7 0,oX 8 (.call 49 [(.t 7)]),oM 5 8]) (.seq (qR 2 [oM 9 1,oX 10 (.call 49 [(.t 9)]),oM 6 10]) (.seq (.seq (qR 3 [oM 11 5]) (.cond 11 (.seq (.seq (qR 4 [oM 12 6]) (.cond 12 (.seq (qR 5 [oK 4 0]) .ret) .skip)) (.seq (qR 6 [oK 4 (-1)]) .ret)) .skip)) (.seq (.seq (qR 7 [oM 13 6]) (.cond 13 (.seq (qR 8 [oK 4 1]) .ret) .skip)) (.seq (.seq (qR 9 [oM 14 0,oM 15 1,oX 16 (.bin .lss (.t 14) (.t 15))]) (.cond 16 (.seq (qR 10 [oK 4 (-1)]) .ret) .skip)) (.seq (.seq (qR 11 [oM 17 0,oM 18 1,oX 19 (.bin .gtr (.t 17) (.t 18))]) (.cond 19 (.seq (qR 12 [oK 4 1]) .ret) .skip)) (.seq (qR 13 [oK 4 0]) .ret)))))))),[(.t 4)],20⟩ := by kernel_rfl
theorem ccmp_pf (a b : Int) : PF Try.prog 34 [I a,I b] (I (cmpZ a b)) := by
 have h1 := cnan_pf a
 have h2 := cnan_pf b
 refine pO ccmp_code [0,1,4,5,6,11,12,13,16,19] [] fun B hBN hB0 => ?_
 by_cases c1 : a < b
 ·have c2 : ¬ b < a := by omega
  repeat' (first
   | simp [c1,c2,cmpZ]
   | refine ⟨wcS ?_,?_⟩
   | (refine WCall.pf (h1) ?_ ?_ ?_ ?_;iterate 3 (solve|simp [c1,c2,cmpZ]))
   | (refine WCall.pf (h2) ?_ ?_ ?_ ?_;iterate 3 (solve|simp [c1,c2,cmpZ]))
   | with_reducible refine aI ?_ ?_ ?_)
 ·by_cases c2 : b < a
  ·skip
   repeat' (first
    | simp [c1,c2,cmpZ]
    | refine ⟨wcS ?_,?_⟩
    | (refine WCall.pf (h1) ?_ ?_ ?_ ?_;iterate 3 (solve|simp [c1,c2,cmpZ]))
    | (refine WCall.pf (h2) ?_ ?_ ?_ ?_;iterate 3 (solve|simp [c1,c2,cmpZ]))
    | with_reducible refine aI ?_ ?_ ?_)
  ·skip
   repeat' (first
    | simp [c1,c2,cmpZ]
    | refine ⟨wcS ?_,?_⟩
    | (refine WCall.pf (h1) ?_ ?_ ?_ ?_;iterate 3 (solve|simp [c1,c2,cmpZ]))
    | (refine WCall.pf (h2) ?_ ?_ ?_ ?_;iterate 3 (solve|simp [c1,c2,cmpZ]))
    | with_reducible refine aI ?_ ?_ ?_)
theorem cor_code : cfun Try.prog [] 33 = some ⟨(.seq (qR 0 [oK 2 0]) (.seq (qR 1 [oK 3 0]) (.seq (.seq (qR 2 [oM 6 0,oH 7 6,oK 8 0]) (.block 0 (.loop (.seq (qR 3 [oX 9 (.bin .lss (.t 8) (.t 7))]) (.seq (.cond 9 .skip (.exit 0)) (.seq (.block 1 (.seq (qR 4 [oI 10 1 6 8,oL 11 1 10,oM 5 11]) (.seq (qR 5 [oM 12 5,oM 13 3,oX 14 (.bin .neq (.t 12) (.t 13))]) (.cond 14 (.seq (qR 6 [oM 15 5,oM 2 15]) .ret) .skip)))) (qR 7 [oX 16 (.bin .add (.t 8) (kI 1)),oM 8 16]))))))) (.seq (qR 8 [oM 17 3,oM 2 17]) .ret)))),[(.t 2)],18⟩ := by kernel_rfl
theorem cor_pf (a b : Int) : PF Try.prog 33 [.rows 1 [[I a],[I b]]] (I (if a = 0 then b else a)) := by
 refine pO cor_code [0,2,3,5,6,7,8,9,14] [] fun B hBN hB0 => ?_
 simp
 refine W.loopS (fun i : Nat => ⟨[(8,I i),(7,I 2),(6,D.rows 1 [[I a],[I b]]),(3,I 0),(2,I 0),(0,D.rows 1 [[I a],[I b]])],[],0⟩)
  (fun n i => n = 2 - i ∧ i ≤ 2 ∧ (1 ≤ i → a = 0) ∧ (2 ≤ i → b = 0)) ?_ ?_
 ·exact ⟨_,0,(gr0 [] hB0 (by simp) (by simp) (.inr rfl)),rfl,by omega,fun h => by omega,fun h => by omega⟩
 rintro n i ⟨hn,hi,ha,hb⟩
 refine acode_sound [0,2,3,5,6,7,8,9,14] [] _ _ _ ?_
 match i,hi with
 | 0,_ =>
  by_cases h : a = 0
  ·have ii : InR 1 := inW (by omega) (by omega)
   simp [h,ii]
   exact ⟨_,1,(gr0 [] hB0 (by simp [h]) (by simp [h]) (.inr rfl)),by omega,rfl,by omega,fun h => by omega⟩
  ·simp [h]
 | 1,_ =>
  have h := ha (by omega)
  by_cases h2 : b = 0
  ·have ii : InR 2 := inW (by omega) (by omega)
   simp [h,h2,ii]
   exact ⟨_,2,(gr0 [] hB0 (by simp [h,h2]) (by simp [h,h2]) (.inr rfl)),by omega,rfl,by omega⟩
  ·simp [h,h2]
 | 2,_ =>
  have h := ha (by omega)
  have h2 := hb (by omega)
  simp [h,h2]
theorem rord_code : cfun Try.prog [] 23 = some ⟨(.seq (qR 0 [oB 2 0,oB 3 1,oK 4 0]) (.seq (.draw 1 (qN (oF 5 0 2) (qN (oL 6 1 5) (qN (oF 7 0 3) (qN (oL 8 1 7) (qN (oF 10 1 2) (qN (oL 11 1 10) (qN (oF 12 1 3) (qN (oL 13 1 12) (qN (oX 9 (.call 34 [(.t 6),(.t 8)])) (qN (oX 14 (.call 34 [(.t 11),(.t 13)])) (qN (oX 15 (.bslice 1 2 [qZ] [(0,(.t 9)),(1,(.t 14))])) (qN (oX 16 (.call 33 [(.t 15)])) (qN (oM 4 16) .done)))))))))))))) .ret)),[(.t 4)],17⟩ := by kernel_rfl
theorem rord_pf (a b c d : Int) : PF Try.prog 23 [.agg [I a,I b],.agg [I c,I d]] (I (ord2 a b c d)) := by
 have h1 := ccmp_pf a c
 have h2 := ccmp_pf b d
 have h3 := cor_pf (cmpZ a c) (cmpZ b d)
 refine pO rord_code [0,1,2,3,4] [] fun B hBN hB0 => ?_
 repeat' (first
  | simp [ord2]
  | refine ⟨wcS ?_,?_⟩
  | (refine WCall.pf (h1) ?_ ?_ ?_ ?_;iterate 3 (solve|simp [ord2]))
  | (refine WCall.pf (h2) ?_ ?_ ?_ ?_;iterate 3 (solve|simp [ord2]))
  | (refine WCall.pf (h3) ?_ ?_ ?_ ?_;iterate 3 (solve|simp [ord2]))
  | with_reducible refine aI ?_ ?_ ?_)
theorem iidx_code : cfun Try.prog [] 38 = some ⟨(.seq (qR 0 [oK 4 0]) (.seq (.seq (qR 1 [oM 6 0,oH 7 6,oK 8 0]) (.block 0 (.loop (.seq (qR 2 [oX 9 (.bin .lss (.t 8) (.t 7))]) (.seq (.cond 9 .skip (.exit 0)) (.seq (.block 1 (.seq (qR 3 [oM 10 8,oM 5 10]) (.seq (qR 4 [oM 11 1,oM 12 0,oM 13 5,oI 14 1 12 13,oL 15 1 14,oX 16 (.bin .eql (.t 11) (.t 15))]) (.cond 16 (.seq (qR 5 [oM 17 5,oM 4 17]) .ret) .skip)))) (qR 6 [oX 18 (.bin .add (.t 8) (kI 1)),oM 8 18]))))))) (.seq (qR 7 [oK 4 (-1)]) .ret))),[(.t 4)],19⟩ := by kernel_rfl
theorem iidx_pf (l : List Int) (b : Int) (hl : l.length ≤ 1000000) : PF Try.prog 38 [.rows 1 (l.map fun z => [I z]),I b] (I (idxZ (fun z => decide (b = z)) l)) := by
 refine pO iidx_code [0,1,4,5,7,8,9,16] [] fun B hBN hB0 => ?_
 simp
 refine W.loopS (fun i : Nat => ⟨[(8,I i),(7,I l.length),(4,I 0),(1,I b),(0,D.rows 1 (l.map fun z => [I z]))],[],0⟩)
  (fun n i => n = l.length - i ∧ i ≤ l.length ∧ ∀ j (hj : j < l.length),j < i → ¬ b = l[j]) ?_ ?_
 ·exact ⟨_,0,(gr0 [] hB0 (by simp) (by simp) (.inr rfl)),rfl,by omega,fun j _ h => by omega⟩
 rintro n i ⟨hn,hi,hb⟩
 refine acode_sound [0,1,4,5,7,8,9,16] [] _ _ _ ?_
 by_cases hlt : i < l.length
 ·have ii : InR ((i : Int) + 1) := inW (by omega) (by omega)
  by_cases hq : b = l[i]
  ·have hz := idxZ_at (fun z => decide (b = z)) l i hlt (fun j hj => by simpa using hb j (by omega) hj) (by simpa using hq)
   simp [hlt,← hq,hz]
  ·simp [hlt,hq,ii]
   exact ⟨_,i + 1,(gr0 [] hB0 (by simp) (by simp) (.inr rfl)),by omega,rfl,by omega,fun j hj h => by
    by_cases hji : j = i
    ·subst hji;exact hq
    ·exact hb j hj (by omega)⟩
 ·have hz := idxZ_none (fun z => decide (b = z)) l fun x hx => by
   obtain ⟨j,hj⟩ := zF hx
   obtain ⟨hj2,rfl⟩ := zB.1 hj
   simpa using hb j hj2 (by omega)
  obtain rfl : i = l.length := by omega
  simp [hz]
theorem idxZ_mem (l : List Int) (b : Int) : 0 ≤ idxZ (fun z => decide (b = z)) l ↔ b ∈ l := by
 constructor
 ·intro h
  obtain ⟨h1,h2,_⟩ := idxZ_get _ l h
  have h3 : b = l[(idxZ (fun z => decide (b = z)) l).toNat] := by simpa using h2
  exact h3 ▸ List.getElem_mem h1
 ·intro h
  exact idxZ_some _ l ⟨b,h,by simp⟩
theorem icon_code : cfun Try.prog [] 27 = some ⟨(.seq (qR 0 [oX 4 (.mov (.k qF))]) (.seq (qR 1 [oM 5 0,oM 6 1,oX 7 (.call 38 [(.t 5),(.t 6)]),oX 8 (.bin .geq (.t 7) (kI 0)),oM 4 8]) .ret)),[(.t 4)],9⟩ := by kernel_rfl
theorem icon_pf (l : List Int) (b : Int) (hl : l.length ≤ 1000000) : PF Try.prog 27 [.rows 1 (l.map fun z => [I z]),I b] (.bool (decide (b ∈ l))) := by
 have h1 := iidx_pf l b hl
 have h2 := idxZ_mem l b
 refine pO icon_code [0,1,4] [] fun B hBN hB0 => ?_
 repeat' (first
  | simp [h2]
  | refine ⟨wcS ?_,?_⟩
  | (refine WCall.pf (h1) ?_ ?_ ?_ ?_;iterate 3 (solve|simp [h2]))
  | with_reducible refine aI ?_ ?_ ?_)
theorem hkey_pf (k : Int) (h0 : 0 ≤ k) (h1 : k < 4294967296) : PF Try.prog 16 [I k] (.tup [I (keyN k.toNat : Nat),I 0]) := by
 refine ⟨by kernel_rfl,fun Z w vs hz hl hv => ?_⟩
 obtain ⟨v0,rfl⟩ : ∃ v0,vs = #[v0] := by
  match vs,hl with
  | ⟨[v0]⟩,_ => exact ⟨_,rfl⟩
 have e0 : v0 = .int .i64 k := vtInt (hv 0 _ rfl)
 subst e0
 refine (hashKey_any k w h0 h1).mono fun e w' ⟨he,hB⟩ => ⟨_,Z,he,⟨_,rfl,rfl,fun j x h => ?_⟩,Zx.refl hz hB,hB⟩
 match j,h with
 | 0,h => obtain rfl := Option.some.inj h;exact VT.int _ _
 | 1,h => obtain rfl := Option.some.inj h;exact VT.int _ _
 | j + 2,h => simp at h
def nq (q : Int × Int → Bool) (x : Int × Int) : Bool := !q x
theorem df_keep {l ys : List (Int × Int)} {q : Int × Int → Bool} {i j : Nat} (hl : ys.length = l.length) (hij : i < j) (hj : j < l.length) (h1 : ys.take i = (l.take j).filter (nq q)) (h2 : ys.drop j = l.drop j) (hq : q l[j] = false) :
  (ys.set i l[j]).take (i + 1) = (l.take (j + 1)).filter (nq q) ∧ (ys.set i l[j]).drop (j + 1) = l.drop (j + 1) := by
 constructor
 ·rw [List.take_succ_eq_append_getElem (by simp;omega),List.take_succ_eq_append_getElem hj,List.filter_append,← h1]
  simp [nq,hq,List.take_set_of_le]
 ·rw [List.drop_set_of_lt (by omega)]
  have := congrArg (List.drop 1) h2
  rwa [List.drop_drop,List.drop_drop] at this
theorem df_drop {l ys : List (Int × Int)} {q : Int × Int → Bool} {i j : Nat} (hj : j < l.length) (h1 : ys.take i = (l.take j).filter (nq q)) (h2 : ys.drop j = l.drop j) (hq : q l[j] = true) :
  ys.take i = (l.take (j + 1)).filter (nq q) ∧ ys.drop (j + 1) = l.drop (j + 1) := by
 constructor
 ·rw [List.take_succ_eq_append_getElem hj,List.filter_append,← h1]
  simp [nq,hq]
 ·have := congrArg (List.drop 1) h2
  rwa [List.drop_drop,List.drop_drop] at this
theorem df_at {l ys : List (Int × Int)} {j : Nat} (hj : j < l.length) (hy : j < ys.length) (h2 : ys.drop j = l.drop j) : ys[j] = l[j] := by
 rw [List.drop_eq_getElem_cons hy,List.drop_eq_getElem_cons hj] at h2
 exact (List.cons.inj h2).1
theorem df_all {l : List (Int × Int)} {q : Int × Int → Bool} (h : idxZ q l = -1) : l.filter (nq q) = l :=
 List.filter_eq_self.2 fun x hx => by
  cases hq : q x with
  | false => simp [nq,hq]
  | true => have := idxZ_some q l ⟨x,hx,hq⟩;omega
theorem df_start {l : List (Int × Int)} {q : Int × Int → Bool} {i : Nat} (h : idxZ q l = i) : l.take i = (l.take (i + 1)).filter (nq q) := by
 obtain ⟨h2,hq,hb⟩ := idxZ_get q l (by omega)
 have e : (idxZ q l).toNat = i := by omega
 simp only [e] at h2 hq hb
 rw [List.take_succ_eq_append_getElem h2,List.filter_append,List.filter_eq_self.2 fun x hx => ?_]
 ·simp [nq,hq]
 ·obtain ⟨j,hj,rfl⟩ := List.mem_iff_getElem.1 hx
  rw [List.length_take] at hj
  rw [List.getElem_take]
  simp [nq,hb j (by omega)]
theorem spdf_code : cfun Try.prog [] 24 = some ⟨(.seq (qR 0 [oX 4 (.mov (.k .nil0))]) (.seq (qR 1 [oM 8 0,oM 9 1,oX 10 (.call 35 [(.t 8),(.t 9)]),oM 5 10]) (.seq (.seq (qR 2 [oM 11 5,oX 12 (.bin .eql (.t 11) (kI (-1)))]) (.cond 12 (.seq (qR 3 [oM 13 0,oM 4 13]) .ret) .skip)) (.seq (.seq (qR 4 [oM 14 5,oX 15 (.bin .add (.t 14) (kI 1)),oM 6 15]) (.block 0 (.loop (.seq (.seq (qR 5 [oM 16 6,oM 17 0,oH 18 17,oX 19 (.bin .lss (.t 16) (.t 18))]) (.cond 19 .skip (.exit 0))) (.seq (.block 1 (.seq (qR 7 [oM 22 0,oM 23 6,oI 24 2 22 23,oA 25 2 24,oX 7 (.alloc [qZ,qZ]),oS 2 7 25]) (.seq (qR 8 [oM 26 1,oA 27 2 7,oX 28 (.callv (.t 26) [(.t 27)]),oX 29 (.not (.t 28))]) (.cond 29 (.seq (qR 9 [oM 30 0,oM 31 5,oA 32 2 7,oI 33 2 30 31,oS 2 33 32]) (qR 10 [oM 34 5,oX 35 (.bin .add (.t 34) (kI 1)),oM 5 35])) .skip)))) (qR 6 [oM 20 6,oX 21 (.bin .add (.t 20) (kI 1)),oM 6 21])))))) (.seq (qR 11 [oM 36 0,oM 37 5,oX 38 (.slc 2 (.t 36) (some (.t 37)) none none),oY (.xop 10 [2] [(.t 38)])]) (.seq (qR 12 [oM 39 0,oM 40 5,oX 41 (.slc 2 (.t 39) none (some (.t 40)) none),oM 4 41]) .ret)))))),[(.t 4)],42⟩ := by kernel_rfl
theorem spdf_hf (l : List (Int × Int)) (F : FuncId) (ds : List D) (q : Int × Int → Bool) (hl : l.length ≤ 1000000) (hF : ∀ s ∈ l,PF Try.prog F [.agg (spE s),.pc ds] (.bool (q s))) :
  HF Try.prog 24 [.own 0,.fn F [.pc ds]] [(0,.row 2 (l.map spE))] 1 (fun d H' nx' => (d = .own 0 ∧ H' = [(0,.row 2 ((l.filter (nq q)).map spE))] ∧ nx' = 1) ∨ ∃ W3,d = .sl 0 2 0 (l.filter (nq q)).length W3.length ∧ H' = [(0,.blk 2 W3)] ∧ nx' = 1 ∧ W3.take (l.filter (nq q)).length = (l.filter (nq q)).map spE ∧ ∀ f,W3.map (fun x => List.map (rnC f) x) = W3) := by
 have hix := spixf1_pf spE l F ds q hl (els_sp l) hF
 refine hO spdf_code [0,1,4,5,6,7,12,19,29] [11] fun B hBN hB0 => ?_
 by_cases h : idxZ q l = -1
 ·have hall : l.filter (nq q) = l := df_all h
  rw [hall]
  repeat' (first
   | simp [h]
   | refine ⟨wcS ?_,?_⟩
   | (refine WCall.pf (hix) ?_ ?_ ?_ ?_;iterate 3 (solve|simp [h]))
   | with_reducible refine aI ?_ ?_ ?_)
 ·have hlo := idxZ_lo q l
  have h0 : 0 ≤ idxZ q l := by omega
  obtain ⟨i0,hi0⟩ : ∃ i0 : Nat,idxZ q l = i0 := ⟨(idxZ q l).toNat,by omega⟩
  rw [hi0] at hix
  have hil : i0 < l.length := by omega
  have ii : InR ((i0 : Int) + 1) := inG (by omega) (by omega)
  have hne : ¬ (i0 : Int) = -1 := by omega
  repeat' (first
   | simp [ii,hne]
   | refine ⟨wcS ?_,?_⟩
   | (refine WCall.pf (hix) ?_ ?_ ?_ ?_;iterate 3 (solve|simp [ii,hne]))
   | with_reducible refine aI ?_ ?_ ?_)
  refine W.loopS (fun y : Nat × Nat × List (Int × Int) => ⟨[(6,I y.2.1),(5,I y.1),(4,.nil0),(1,.fn F [.pc ds]),(0,.own 0)],[(0,.row 2 (y.2.2.map spE))],1⟩)
   (fun n y => n = l.length - y.2.1 ∧ y.2.1 ≤ l.length ∧ y.1 < y.2.1 ∧ y.2.2.length = l.length ∧ y.2.2.take y.1 = (l.take y.2.1).filter (nq q) ∧ y.2.2.drop y.2.1 = l.drop y.2.1) ?_ ?_
  ·refine ⟨_,(i0,i0 + 1,l),(Gh.ren [0] (by simp [hB0]) (by simp [hB0] <;> decide) (by simp) (by simp) (.inl (by simp))),rfl,by simp only;omega,by simp only;omega,rfl,df_start hi0,rfl⟩
  rintro n ⟨i,j,ys⟩ ⟨hn,hj,hij,hyl,h1,h2⟩
  simp only at hn hj hij hyl h1 h2
  refine acode_sound [0,1,4,5,6,7,12,19,29] [11] _ _ _ ?_
  by_cases hlt : j < l.length
  ·obtain ⟨x,hx⟩ : ∃ x,x = l[j] := ⟨_,rfl⟩
   have hyj : j < ys.length := by omega
   have hye : ys[j] = x := by rw [hx];exact df_at hlt hyj h2
   have hFx := hF x (hx ▸ List.getElem_mem hlt)
   have ij : InR ((j : Int) + 1) := inG (by omega) (by omega)
   have i1 : InR ((i : Int) + 1) := inG (by omega) (by omega)
   have hiy : i < ys.length := by omega
   by_cases hq : q x = true
   ·have hd := df_drop hlt h1 h2 (hx ▸ hq)
    rw [hq] at hFx
    repeat' (first
     | simp [hlt,hyl,hyj,hye,spE,ij]
     | refine ⟨wcS ?_,?_⟩
     | (refine WCall.pfv (hFx) ?_ rfl ?_ ?_ ?_;iterate 3 (solve|simp [hlt,hyl,hyj,hye,spE,ij]))
     | with_reducible refine aI ?_ ?_ ?_)
    exact ⟨_,(i,j + 1,ys),(Gh.ren [0] (by simp [hB0]) (by simp [hB0] <;> decide) (by simp) (by simp) (.inl (by simp))),by simp only;omega,rfl,by simp only;omega,by simp only;omega,hyl,hd.1,hd.2⟩
   ·have hq : q x = false := by simpa using hq
    have hd := df_keep hyl hij hlt h1 h2 (hx ▸ hq)
    rw [← hx] at hd
    rw [hq] at hFx
    have hd2 : List.drop 2 ((Option.map spE ys[i]?).getD []) = [] := by simp [zE hiy,spE]
    repeat' (first
     | simp [hlt,hyl,hyj,hye,spE,ij,i1,hiy,hd2]
     | refine ⟨wcS ?_,?_⟩
     | (refine WCall.pfv (hFx) ?_ rfl ?_ ?_ ?_;iterate 3 (solve|simp [hlt,hyl,hyj,hye,spE,ij,i1,hiy,hd2]))
     | with_reducible refine aI ?_ ?_ ?_)
    exact ⟨by omega,_,(i + 1,j + 1,ys.set i x),(Gh.ren [0] (by simp [hB0]) (by simp [hB0] <;> decide) (by simp [List.map_set,spE]) (by simp [List.map_set,spE]) (.inl (by simp [List.map_set,spE]))),by simp only;omega,rfl,by simp only;omega,by simp only;omega,by simp [hyl],hd.1,hd.2⟩
  ·obtain rfl : j = l.length := by omega
   rw [List.take_length] at h1
   have hfl : (l.filter (nq q)).length = i := by rw [← h1,List.length_take];omega
   have hfm : (l.filter (nq q)).map spE = (ys.map spE).take i := by rw [← h1,List.map_take]
   simp [hyl]
   refine W.openR (t := 0) (id := 0) (sz := 2) (xs := ys.map spE) (by simp) (by simp) (by simp;rintro rfl;simp at hyl;omega) fun k => ?_
   simp only [eput]
   refine acode_sound [0,1,4,5,6,7,12,19,29] [] _ _ _ ?_
   obtain ⟨U,hU⟩ : ∃ U,U = ys.map spE ++ List.replicate k (anyRow 2) := ⟨_,rfl⟩
   have hUl : U.length = l.length + k := by rw [hU];simp [hyl]
   have hUt : U.take i = (ys.map spE).take i := by rw [hU,List.take_append_of_le_length (by simp;omega)]
   rw [← hU,List.length_map,hyl]
   have e1 : i ≤ l.length := by omega
   have e2 : i ≤ l.length + k := by omega
   have e3 : l.length ≤ l.length + k := by omega
   simp [e1,e2,e3]
   refine XCall.clear (id := 0) (sz := 2) (off := i) (len := l.length - i) (cp := l.length + k - i) (xs := U) (by simp) rfl (by simp) (by simp) ?_
   obtain ⟨W3,hW3⟩ : ∃ W3,W3 = U.take i ++ List.replicate (l.length - i) (anyRow 2) ++ U.drop (i + (List.replicate (l.length - i) (anyRow 2)).length) := ⟨_,rfl⟩
   have hWl : W3.length = l.length + k := by rw [hW3];simp;omega
   have hWt : W3.take i = (ys.map spE).take i := by
    rw [hW3,List.append_assoc,List.take_append_of_le_length (by simp;omega),List.take_take,Nat.min_self,hUt]
   have hWr : ∀ f,W3.map (fun x => List.map (rnC f) x) = W3 := fun f => by
    have hUm : ∀ r ∈ U,(∃ y,r = spE y) ∨ r = anyRow 2 := fun r hr => by
     rw [hU] at hr
     rcases List.mem_append.1 hr with hr | hr
     ·obtain ⟨y,_,rfl⟩ := List.mem_map.1 hr;exact .inl ⟨y,rfl⟩
     ·exact .inr (List.eq_of_mem_replicate hr)
    have : ∀ r ∈ W3,List.map (rnC f) r = r := fun r hr => by
     have hr' : (∃ y,r = spE y) ∨ r = anyRow 2 := by
      rw [hW3] at hr
      rcases List.mem_append.1 hr with hr | hr
      ·rcases List.mem_append.1 hr with hr | hr
       ·exact hUm r (List.mem_of_mem_take hr)
       ·exact .inr (List.eq_of_mem_replicate hr)
      ·exact hUm r (List.mem_of_mem_drop hr)
     rcases hr' with ⟨y,rfl⟩ | rfl <;> rfl
    exact (List.map_congr_left this).trans (by simp)
   rw [← hW3]
   simp [e1,e2,e3,hfl,hfm,hWl,hWt]
   exact ⟨W3,hWl.symm,rfl,hWt,hWr⟩
theorem spots_del (b k n : Nat) : (spotsM k n).filter (nq (isB b)) = if k = b then [] else spotsM k n := by
 split
 ·rename_i h
  refine List.filter_eq_nil_iff.2 fun s hs => ?_
  have := spotsM_mem hs
  simp [nq,isB,this,h]
 ·rename_i h
  refine List.filter_eq_self.2 fun s hs => ?_
  have := spotsM_mem hs
  simp [nq,isB,this];omega
theorem want_del (ws : List Nat) (b : Nat) (hb : b < ws.length) : ∀ k,wantM (ws.set b 0) k = (wantM ws k).filter (nq (isB b))
 | 0 => by simp [wantM]
 | k + 1 => by
  rw [wantM_succ,wantM_succ,List.filter_append,want_del ws b hb k,spots_del]
  by_cases h : k = b
  ·subst h
   rw [if_pos rfl]
   have : (ws.set k 0).getD k 0 = 0 := by simp [zC,hb]
   rw [this];rfl
  ·rw [if_neg h]
   have : (ws.set b 0).getD k 0 = ws.getD k 0 := by simp [zC,List.getElem?_set_ne (Ne.symm h)]
   rw [this]
theorem ring_del (ws : List Nat) (h : WOk ws) (b : Nat) (hb : b < 12) : (ringM ws).filter (nq (isB b)) = ringM (ws.set b 0) := by
 have hp : ((ringM ws).filter (nq (isB b))).Perm (ringM (ws.set b 0)) := by
  refine ((ringM_perm ws).filter _).trans ?_
  rw [← want_del ws b (by rw [h.len];exact hb)]
  exact (ringM_perm _).symm
 refine List.Perm.eq_of_pairwise (le := fun a b => (!(ltOf cfSp) b a) = true) (fun a b _ _ h1 h2 => ?_) ((sortM_pw _).filter _) (sortM_pw _) hp
 simp only [Bool.not_eq_true'] at h1 h2
 exact totSp a b h2 h1
theorem rrem1_code : cfun Try.prog [] 25 = some ⟨(.seq (qR 0 [oB 2 0,oX 3 (.mov (.k qF))]) (.seq (qR 1 [oF 4 1 2,oL 5 1 4,oL 6 1 1,oX 7 (.bin .eql (.t 5) (.t 6)),oM 3 7]) .ret)),[(.t 3)],8⟩ := by kernel_rfl
theorem rrem1_pf (s : Int × Int) (b : Nat) : PF Try.prog 25 [.agg (spE s),.pc [I b]] (.bool (isB b s)) := by
 refine pO (h3 := by simp [spE]) rrem1_code [0,1,2,3] [] fun B hBN hB0 => ?_
 simp [spE,isB]
theorem rrem_code : cfun Try.prog [] 14 = some ⟨(.seq (qR 0 [oB 2 0,oB 3 1,oX 4 (.alloc [.nil0]),oK 5 0]) (.seq (qR 1 [oA 10 1 2,oX 11 (.call 19 [(.t 10)]),oM 9 11,oE 12 9 0,oE 13 9 1,oX 6 (.alloc [qZ,qZ,qZ,qZ,qZ,qZ,qZ,qZ,qZ,qZ,qZ,qZ]),oS 12 6 12,oM 7 13]) (.seq (.block 0 (.seq (qR 2 [oM 15 7,oX 16 (.not (.t 15)),oM 14 16]) (.cond 14 (.seq (qR 3 [oX 17 (.build [.nil0] []),oS 1 4 17,oK 5 6]) .ret) (.seq (qR 4 [oL 19 1 3,oX 20 (.bin .lss (.t 19) (kI 0)),oM 21 20,oG 22 (.load false 1 (.t 3)) 21 false,oG 23 (.bin .geq (.t 22) (kI 12)) 21 false,oX 24 (.pick (.t 21) (.k qT) (.t 23)),oM 25 24,oG 26 (.load false 1 (.t 3)) 25 false,oG 27 (.iada 12 1 (.t 6) (.t 26)) 25 false,oG 28 (.load false 1 (.t 27)) 25 false,oG 29 (.bin .eql (.t 28) (kI 0)) 25 false,oX 30 (.pick (.t 25) (.k qT) (.t 29)),oM 18 30]) (.cond 18 (.seq (qR 5 [oX 31 (.build [.nil0] []),oS 1 4 31,oK 5 8]) .ret) .skip))))) (.seq (qR 6 [oF 32 0 2,oL 33 1 32,oX 34 (.call 20 [(.t 33)]),oX 35 (.mkfn 25 [(.t 3)]),oX 36 (.call 24 [(.t 34),(.t 35)]),oM 8 36]) (.seq (qR 7 [oM 37 8,oX 38 (.build [.nil0] [(0,(1,(.t 37)))]),oS 1 4 38,oK 5 0]) .ret))))),[(.c 4 true 1),(.t 5)],39⟩ := by kernel_rfl
theorem rrem_pf (ws : List Nat) (h : WOk ws) (b w : Nat) (hb : b < 12) (hw : ws.getD b 0 = w) (h1 : 0 < w) :
  PF Try.prog 14 [.agg [.rows 2 ((ringM ws).map spE)],I b] (.tup [.agg [.rows 2 ((ringM (ws.set b 0)).map spE)],I 0]) := by
 have hwe := rwei_pf ws h
 have hrl := ringM_len ws h
 have hl12 := h.len
 have hs0 := spl12 h.len
 have htw : (ws.map fun w : Nat => I (w : Int)).take 12 = ws.map fun w : Nat => I (w : Int) := List.take_of_length_le (by simp [h.len])
 have hat : ws[b]? = some w := by
  rw [zC,zE (by omega)] at hw
  rw [zE (by omega)]
  simpa using hw
 have c1 : ¬ (b : Int) < 0 := by omega
 have c2 : ¬ (12 : Int) ≤ b := by omega
 have c3 : ¬ w = 0 := by omega
 have hb1 : (b : Int) < 12 := by omega
 have hb2 : b ≤ 11 := by omega
 have hb3 : 0 < 12 - b := by omega
 have hcl := spcln_hf spE (ringM ws) (by omega) (els_sp _)
 have hdf := spdf_hf (ringM ws) 25 [I b] (isB b) (by omega) (fun s _ => rrem1_pf s b)
 rw [ring_del ws h b hb] at hdf
 have hne : ringM ws ≠ [] := fun e => by
  have := cnt_ring ws b hb
  rw [e,hw] at this
  simp at this;omega
 refine pO rrem_code [0,1,2,3,4,5,6,7,8,14,18] [6,7] fun B hBN hB0 => ?_
 repeat' (first
  | simp [hl12,hs0,htw,hat,c1,c2,c3,hb1,hb2,hb3]
  | refine ⟨wcS ?_,?_⟩
  | (refine WCall.pf (hwe) ?_ ?_ ?_ ?_;iterate 3 (solve|simp [hl12,hs0,htw,hat,c1,c2,c3,hb1,hb2,hb3]))
  | with_reducible refine aI ?_ ?_ ?_)
 refine W.freeze [1] ?_
 simp [freeze,hkeep,hdrop,fzS,fzR,fzV,fzC,fzO]
 refine acode_sound [0,1,2,3,4,5,6,7,8,14,18] [7] _ _ _ ?_
 simp
 refine WCall.hf0 hcl (by simp) (by simp) (by simp) (by simp) ?_
 rintro d H' nx' (⟨rfl,hnil,rfl,rfl⟩ | ⟨rfl,rfl,rfl⟩)
 ·exact absurd hnil hne
 simp
 refine wH [5] (hdf) ?_
 obtain ⟨R,hR⟩ : ∃ R,R = ringM (ws.set b 0) := ⟨_,rfl⟩
 rw [← hR]
 rintro d H' nx' (⟨rfl,rfl,rfl⟩ | ⟨W3,rfl,rfl,rfl,hW3,hWr⟩)
 ·simp
  refine acode_sound [0,1,2,3,4,5,6,7,8,14,18] [] _ _ _ ?_
  simp
 ·simp [hWr]
  refine W.gh (Gh.closeR (t := 8) (id := 5) (sz := 2) (len := R.length) (xs := W3) (by simp) (by simp) ?_) ?_
  ·rw [hW3]
   intro r hr d hd
   obtain ⟨y,_,rfl⟩ := List.mem_map.1 hr
   simp [spE] at hd
   rcases hd with rfl | rfl <;> rfl
  rw [hW3]
  simp only [eput,herase]
  refine acode_sound [0,1,2,3,4,5,6,7,8,14,18] [] _ _ _ ?_
  simp
end Go.Proofs.Ytmdhegbdffbfoaa
namespace Go.Proofs.Ytmdhegbdffbfoaa
open Go.RowKit
section
variable {P : Program} {ops : Array Oper} {md : Region.Mode} {w : World} {n : Nat} {Q : Exit → Act → World → Prop}
theorem wpInW_of_still {o : Oper} {a : Act} {K : Act → Prop} {K' : Act → World → Prop} (h : ∀ a,K a → K' a w) (hh : o.still P a w K) : o.wpIn Fence.wide n P a w K' Q := by
 refine ⟨fun _ _ => trivial,?_⟩
 unfold Oper.still at hh
 change o.uponIn Fence.wide n P a K' Q ((execOp a.eval o).run P w)
 generalize (execOp a.eval o).run P w = r at *
 cases r with
 | ok x w' =>
  cases x <;> simp only [Oper.stillUpon] at hh <;> simp only [Oper.uponIn]
  case enter f args =>
   obtain ⟨rfl,v,hc,hn⟩ := hh
   refine ⟨fun h => by simp [Fence.wide] at h,(callsIn_wide.2 hc).mono ?_⟩
   rintro e w'' ⟨rfl,rfl⟩
   exact h _ hn
  all_goals (obtain ⟨rfl,h2⟩ := hh;exact h _ h2)
 | halt x w' => simp only [Oper.stillUpon] at hh
theorem wpOpInW_of_stOp {i : Nat} {a : Act} {K : Act → Prop} {K' : Act → World → Prop} (h : ∀ a,K a → K' a w) (hh : stOp P ops w i K a) : wpOpIn Fence.wide n P ops Q i K' a w := by
 unfold stOp at hh
 unfold wpOpIn
 split
 ·rename_i ho;simp only [ho] at hh;exact h _ hh
 ·rename_i o ho
  simp only [ho] at hh
  split
  ·rename_i hw;simp only [hw,if_true] at hh;exact wpInW_of_still h hh
  ·rename_i hw;simp only [hw] at hh;exact ⟨fun _ _ => trivial,h _ hh⟩
theorem wpAnyInW_of_head {k g : Nat} {L : Array Bool → Act → Prop} (hL : ∀ listed a,L listed a → wpAnyIn Fence.wide n P md ops Q g listed a w) :
  ∀ (f : Nat) (listed : Array Bool) (a : Act),wpAnyL P md ops w k L f listed a → wpAnyIn Fence.wide n P md ops Q (f + g) listed a w
 | 0,listed,a,h => by rw [Nat.zero_add];exact hL _ _ h
 | f + 1,listed,a,h => by
  rw [show f + 1 + g = (f + g) + 1 by omega]
  exact ⟨fun h0 => absurd h0 h.1,fun i hi => wpOpInW_of_stOp (fun a' h' => wpAnyInW_of_head hL f _ a' h') (h.2 i hi).2⟩
theorem wpAnyIn_of_seq {F : Fence} : ∀ (l : List Oper) (k : Nat) (listed : Array Bool) (a : Act) (w : World),(∀ j,l[j]? = ops[k + j]?) →
  Region.seqB md ops l.length k listed = true → wpListIn F n P ops Q l a w → wpAnyIn F n P md ops Q l.length listed a w
 | [],_,_,_,_,_,hB,h => ⟨by simpa [Region.seqB] using hB,h⟩
 | o :: l,k,listed,a,w,hl,hB,h => by
  have h0 : ops[k]? = some o := by simpa using (hl 0).symm
  simp only [List.length_cons,Region.seqB,Bool.and_eq_true,decide_eq_true_eq] at hB
  refine ⟨fun h1 => (by rw [hB.1] at h1;cases h1),fun i hi => ?_⟩
  rw [hB.1] at hi
  have hik : i = k := by simpa using hi
  subst hik
  have hw : wpOpIn F n P ops Q i (wpListIn F n P ops Q l) a w := by unfold wpOpIn;simp only [h0];exact h
  exact wpOpIn_mono (fun a' w' h' => wpAnyIn_of_seq l (i + 1) _ a' w' (fun j => by have := hl (j + 1);simpa [Nat.add_assoc,Nat.add_comm 1 j] using this) hB.2 h') hw
theorem wpIn_region_still_tail {id : Nat} {a : Act} {l : List Oper} (k : Nat) (hm : P.follows .mixedOrders = true) (hB : Region.lexTailB .any l.toArray k = true)
  (h : wpStill P l.toArray { w with drawn := w.drawn + 1 } (fun a' => wpListIn Fence.wide n P l.toArray Q (l.drop k) a' { w with drawn := w.drawn + 1 }) (l.take k) a) : (Code.region id l.toArray true).wpIn Fence.wide n P Q a w := by
 simp only [Region.lexTailB,Bool.and_eq_true,decide_eq_true_eq] at hB
 obtain ⟨⟨⟨⟨hsel,hn⟩,hs⟩,hc⟩,hlex⟩ := hB
 have hn' : k < l.length := by simpa using hn
 have htl : (l.take k).length = k := by simp;omega
 have hdl : (l.drop k).length = l.toArray.size - k := by simp
 have inv0 : HeadInv .any l.toArray k (Array.replicate l.toArray.size false) :=
  ⟨by simp,fun j oj _ hl => (by rw [getD_replicate_false] at hl;cases hl),fun t _ ht => getD_in (by simpa using ht) (getD_replicate_false _ _)⟩
 have H := wpAnyL_lex (md := .any) (g := l.toArray.size - k) hsel hs hc hn (l.take k) 0 _ a (fun j hj => by
  have hj' : j < k := by rw [htl] at hj;exact hj
  simp [hj']) (by simpa using htl) inv0 (by rw [htl];exact hlex) h
 refine wpIn_region_any hm ?_
 have := wpAnyInW_of_head (Q := Q) (n := n) (g := l.toArray.size - k) (fun listed a' hL => by
  have := wpAnyIn_of_seq (F := Fence.wide) (n := n) (md := .any) (Q := Q) (l.drop k) k listed a' { w with drawn := w.drawn + 1 } (fun j => by simp [List.getElem?_drop]) (by rw [hdl];exact hL.1) hL.2
  rwa [hdl] at this) _ _ _ H
 rw [htl,show k + (l.toArray.size - k) = l.toArray.size by omega] at this
 exact this
theorem PF.wide {f : FuncId} {ds : List D} {d : D} (h : PF P f ds d) (Z : Cells) (w : World) (vs : Array Value) (hz : ∀ b o v,Z b o = some v → w.cell? ⟨b,o,none⟩ = some v) (hl : vs.size = ds.length) (hv : ∀ j x,ds[j]? = some x → VV s0 Z x (vs.getD j undef)) :
  CallsIn Fence.wide n P f vs w fun e w' => ∃ v Z',e = .returned v ∧ VR s0 Z' d v ∧ Zx Z Z' w w' ∧ Below w.heap.size w w' := callsIn_wide.2 (h.2 Z w vs hz hl hv)
end
end Go.Proofs.Ytmdhegbdffbfoaa
namespace Go.Proofs.Ytmdhegbdffbfoaa
open Go.RowKit Go.Shelf
attribute [local go_sem] Oper.semAt_some
theorem ralong_in (a : Option Addr) (m c : Nat) (z : Int) (n : Nat) (w : World) :
  CallsIn Fence.wide n Try.prog 26 #[.slice a m c,.int .i64 z] w fun e w' => e = .returned (.func (.func 36) #[] #[.pointer (some ⟨w.heap.size,0,none⟩),.pointer (some ⟨w.heap.size + 1,0,none⟩)]) ∧
   w' = (w.alloc (.cells #[.slice a m c] 23)).alloc (.cells #[.int .i64 z] 3) := by
 refine callsIn_of_wp Try.func26 rfl trivial ?_ rfl
 simp only [Try.ntmps26,List.size_toArray,List.length_cons,List.length_nil,Nat.reduceAdd,Nat.reduceSub,Array.replicate_succ,Array.replicate_zero,List.push_toArray,List.append_toArray,List.nil_append,List.cons_append]
 gi_wp2
 go_ret
 exact ⟨by simp,rfl⟩
def rotL {α : Type} (xs : List α) (f : Nat) : List α := xs.drop f ++ xs.take f
theorem rotL_len {α : Type} (xs : List α) (f : Nat) (h : f ≤ xs.length) : (rotL xs f).length = xs.length := by simp [rotL];omega
theorem rotL_get {α : Type} (xs : List α) (f k : Nat) (hf : f ≤ xs.length) (hk : k < xs.length) : (rotL xs f)[k]? = xs[(f + k) % xs.length]? := by
 unfold rotL
 by_cases h : f + k < xs.length
 ·rw [List.getElem?_append_left (by simp;omega),List.getElem?_drop,Nat.mod_eq_of_lt h]
 ·have e : (f + k) % xs.length = f + k - xs.length := by
   rw [Nat.mod_eq_sub_mod (by omega),Nat.mod_eq_of_lt (by omega)]
  rw [List.getElem?_append_right (by simp;omega),List.length_drop,List.getElem?_take,if_pos (by omega),e]
  congr 1
  omega
theorem rotL_take {α : Type} (xs : List α) (f k : Nat) (x : α) (h : (rotL xs f)[k]? = some x) : (rotL xs f).take (k + 1) = (rotL xs f).take k ++ [x] := by
 rw [List.take_add_one,h];rfl
def Kc (n bo : Nat) (A B : World) : Prop := ∀ p v,p.block < n → p.block ≠ bo → A.cell? p = some v → B.cell? p = some v
theorem Kc.below {n bo : Nat} {A B : World} (h : Below A.heap.size A B) : Kc n bo A B := fun p v _ _ hv => by
 rw [h.cell (World.block_lt_of_cell? A p hv)];exact hv
structure Rd (W : World) (n bo b1 b2 b off cap : Nat) (a : Option Addr) (z : Int) (xs : List (Int × Int)) : Prop where
 l1 : b1 < n ∧ b1 ≠ bo
 l2 : b2 < n ∧ b2 ≠ bo
 l3 : xs ≠ [] → a = some ⟨b,off,none⟩ ∧ b < n ∧ b ≠ bo
 c1 : W.cell? ⟨b1,0,none⟩ = some (.slice a xs.length cap)
 c2 : W.cell? ⟨b2,0,none⟩ = some (.int .i64 z)
 c3 : ∀ i x,xs[i]? = some x → W.cell? ⟨b,off + i * 2,none⟩ = some (.int .i64 x.1) ∧ W.cell? ⟨b,off + i * 2 + 1,none⟩ = some (.int .i64 x.2)
theorem Rd.keep {A B : World} {n bo b1 b2 b off cap : Nat} {a : Option Addr} {z : Int} {xs : List (Int × Int)} (h : Rd A n bo b1 b2 b off cap a z xs) (hk : Kc n bo A B) : Rd B n bo b1 b2 b off cap a z xs :=
 ⟨h.l1,h.l2,h.l3,hk _ _ h.l1.1 h.l1.2 h.c1,hk _ _ h.l2.1 h.l2.2 h.c2,fun i x hx => by
  have hne : xs ≠ [] := by rintro rfl;simp at hx
  obtain ⟨_,h1,h2⟩ := h.l3 hne
  exact ⟨hk _ _ h1 h2 (h.c3 i x hx).1,hk _ _ h1 h2 (h.c3 i x hx).2⟩⟩
theorem vt_spots {W : World} {b off cap : Nat} {a : Option Addr} {xs : List (Int × Int)} (hcap : xs.length ≤ cap) (ha : xs ≠ [] → a = some ⟨b,off,none⟩)
  (hc : ∀ i x,xs[i]? = some x → W.cell? ⟨b,off + i * 2,none⟩ = some (.int .i64 x.1) ∧ W.cell? ⟨b,off + i * 2 + 1,none⟩ = some (.int .i64 x.2)) :
  VT (fun b o => W.cell? ⟨b,o,none⟩) (.rows 2 (xs.map fun x : Int × Int => [I x.1,I x.2])) (.slice a xs.length cap) := by
 by_cases h0 : xs = []
 ·subst h0;exact VT.rnil _ _ _
 obtain rfl := ha h0
 have := VT.rows (Z := fun b o => W.cell? ⟨b,o,none⟩) 2 (xs.map fun x : Int × Int => [I x.1,I x.2]) b off cap (fun i j => .int .i64 (if j = 0 then (xs.getD i (0,0)).1 else (xs.getD i (0,0)).2)) (by simpa using hcap) ?_ ?_
 ·simpa using this
 ·intro i row j d hi hj
  rw [List.getElem?_map] at hi
  cases hx : xs[i]? with
  | none => rw [hx] at hi;cases hi
  | some x =>
   rw [hx] at hi
   simp only [Option.map_some,zA] at hi
   subst hi
   match j,hj with
   | 0,hj => exact ⟨by omega,by simpa [hx] using (hc i x hx).1⟩
   | 1,hj => exact ⟨by omega,by simpa [hx] using (hc i x hx).2⟩
   | j + 2,hj => simp at hj
 ·intro i row j d hi hj
  rw [List.getElem?_map] at hi
  cases hx : xs[i]? with
  | none => rw [hx] at hi;cases hi
  | some x =>
   rw [hx] at hi
   simp only [Option.map_some,zA] at hi
   subst hi
   have hg : xs.getD i (0,0) = x := by rw [zC,hx];rfl
   match j,hj with
   | 0,hj => simp at hj;subst hj;simp only [hg,if_true];exact VT.int _ _
   | 1,hj => simp at hj;subst hj;simp only [hg,Nat.one_ne_zero,if_false];exact VT.int _ _
   | j + 2,hj => simp at hj
theorem grown_of_below {A B : World} (h : Below A.heap.size A B) : A.grownBy B none := ⟨h.os,h.tape,h.output,h.size,fun k hk _ => h.block k hk⟩
def fromM (z : Int) (xs : List (Int × Int)) : Nat := lowB (fun x => decide (ord2 x.1 x.2 z (-1) < 0)) xs
def spV (x : Int × Int) : Array Value := #[.agg #[.int .i64 x.1,.int .i64 x.2]]
theorem bsf_in (a : Option Addr) (cap : Nat) (z : Int) (xs : List (Int × Int)) (n : Nat) (W : World) (hl : xs.length ≤ 1000000)
  (hmono : ∀ i j (hi : i < xs.length) (hj : j < xs.length),i ≤ j → ord2 xs[j].1 xs[j].2 z (-1) < 0 → ord2 xs[i].1 xs[i].2 z (-1) < 0)
  (hV : VT (fun b o => W.cell? ⟨b,o,none⟩) (.rows 2 (xs.map fun x : Int × Int => [I x.1,I x.2])) (.slice a xs.length cap)) :
  CallsIn Fence.wide n Try.prog 37 #[.slice a xs.length cap,.agg #[.int .i64 z,.int .i64 (-1)],.func (.func 23) #[] #[]] W
   fun e w' => (∃ t : Bool,e = .returned (.tuple #[.int .i64 (fromM z xs),.bool t])) ∧ Below W.heap.size W w' := by
 have hpf := spbsf_pf (fun x : Int × Int => [I x.1,I x.2]) xs 23 z (-1) (fun x => ord2 x.1 x.2 z (-1)) hl (fun x _ => ⟨rfl,fun d hd => by simp at hd;rcases hd with rfl | rfl <;> rfl⟩) (fun s _ => rord_pf s.1 s.2 z (-1)) hmono
 refine (hpf.wide (fun b o => W.cell? ⟨b,o,none⟩) W _ (fun _ _ _ h => h) rfl ?_).mono ?_
 ·intro j x hx
  match j,hx with
  | 0,hx => simp at hx;subst hx;exact hV
  | 1,hx =>
   simp at hx;subst hx
   refine ⟨_,rfl,rfl,fun k y hy => ?_⟩
   match k,hy with
   | 0,hy => simp at hy;subst hy;exact VT.int _ _
   | 1,hy => simp at hy;subst hy;exact VT.int _ _
   | k + 2,hy => simp at hy
  | 2,hx => simp at hx;subst hx;exact VT.fn _ _ _ rfl (fun j d hd => by simp at hd)
  | j + 3,hx => simp at hx
 ·rintro e w' ⟨v,Z',rfl,hr,_,hb⟩
  refine ⟨?_,hb⟩
  obtain ⟨us,rfl,hs,hu⟩ := hr
  have u0 := hu 0 _ rfl
  have u1 := hu 1 _ rfl
  match us,hs,u0,u1 with
  | ⟨[p,q]⟩,_,u0,u1 =>
   have e0 : p = .int .i64 (fromM z xs) := by
    have : VT Z' (I (fromM z xs)) p := u0
    cases this;rfl
   obtain ⟨t,e1⟩ : ∃ t,q = .bool t := by
    have : VT Z' (.bool _) q := u1
    cases this;exact ⟨_,rfl⟩
   exact ⟨t,by rw [e0,e1]⟩
theorem ralong1_in (n : Nat) (hn1 : 1 ≤ n) (l b1 b2 b off cap n0 bo : Nat) (a : Option Addr) (z : Int) (xs : List (Int × Int)) (J Jx : List (Int × Int) → World → Prop) (W : World) (hl : xs.length ≤ 1000000) (hcap : xs.length ≤ cap)
  (hmono : ∀ i j (hi : i < xs.length) (hj : j < xs.length),i ≤ j → ord2 xs[j].1 xs[j].2 z (-1) < 0 → ord2 xs[i].1 xs[i].2 z (-1) < 0)
  (hn : n0 ≤ W.heap.size) (hJ : AbidesFrom W.heap.size J)
  (hY : ∀ pre x W1,J pre W1 → pre.length < xs.length → YieldAt Fence.wide (n - 1) Try.prog l (spV x) W1 fun e W' =>
   (e = .returned (.bool true) ∧ J (pre ++ [x]) W' ∧ Kc n0 bo W1 W') ∨ (e = .returned (.bool false) ∧ Jx (pre ++ [x]) W'))
  (hR : Rd W n0 bo b1 b2 b off cap a z xs) (hJ0 : J [] W) :
  CallsIn Fence.wide n Try.prog 36 (#[.func (.yield l) #[] #[]] ++ #[.pointer (some ⟨b1,0,none⟩),.pointer (some ⟨b2,0,none⟩)]) W fun e W' => (∃ v,e = .returned v) ∧
   ((∃ ys,ys = rotL xs (fromM z xs) ∧ J ys W') ∨ (∃ pre,True ∧ Jx pre W')) := by
 have hfle : fromM z xs ≤ xs.length := lowB_le _ _
 obtain ⟨f,hf⟩ : ∃ f,f = fromM z xs := ⟨_,rfl⟩
 have hbsf := fun W' hV => bsf_in a cap z xs (n - 1) W' hl hmono hV
 rw [← hf] at hfle hbsf ⊢
 clear hf
 refine callsIn_of_wp Try.func36 rfl trivial ?_ rfl
 simp only [Try.ntmps36,List.size_toArray,List.length_cons,List.length_nil,Nat.reduceAdd,Nat.reduceSub,Array.replicate_succ,Array.replicate_zero,List.push_toArray,List.append_toArray,List.nil_append,List.cons_append]
 have w1 : Fence.wide.fn 37 := trivial
 have hc1 := hR.c1
 have hc2 := hR.c2
 gi_wp2_with (gi_at_call 37;refine (hbsf _ (vt_spots hcap (fun h => (hR.l3 h).1) hR.c3)).mono ?_;rintro e w' ⟨⟨t,rfl⟩,hb⟩;have hR' : Rd w' n0 bo b1 b2 b off cap a z xs := hR.keep (Kc.below hb);have hd1 := hR'.c1;have hd2 := hR'.c2)
 have hJ1 : J [] w' := hJ [] W w' none hJ0 (grown_of_below hb) (fun r e => by cases e)
 have hJ2 : AbidesFrom w'.heap.size J := fun s A B row hs hg hr => hJ s A B row hs hg fun r e => ⟨Nat.le_trans hb.size (hr r e).1,(hr r e).2⟩
 gi_loopw [16] (fun p wr => ∃ k : Nat,p = .int .i64 k ∧ k ≤ xs.length ∧ J ((rotL xs f).take k) wr ∧ Rd wr n0 bo b1 b2 b off cap a z xs)
  (fun p wr => match p with | .int _ m => xs.length - m.toNat | _ => 0)
 case atStart => exact ⟨0,rfl,Nat.zero_le _,hJ1,hR'⟩
 case round =>
  obtain ⟨k,rfl,hk,hJk,hRk⟩ := hrel
  have e1 := hRk.c1
  by_cases hlt : k < xs.length
  ·have hlt' : (k : Int) < xs.length := by omega
   have h0 : 0 < xs.length := by omega
   have ha := (hRk.l3 (by rintro rfl;simp at h0)).1
   subst ha
   obtain ⟨x,hx⟩ : ∃ x,(rotL xs f)[k]? = some x := ⟨_,zE (by rw [rotL_len xs f hfle];exact hlt)⟩
   have hx2 : xs[(f + k) % xs.length]? = some x := by rw [← rotL_get xs f k hfle hlt];exact hx
   obtain ⟨g1,g2⟩ := hRk.c3 _ x hx2
   gi_wp2
   refine wpIn_region_still_tail 10 (by kernel_rfl) (by kernel_rfl) ?_
   obtain ⟨w2,hw2⟩ : ∃ w2,w2 = ({ wr with drawn := wr.drawn + 1 } : World) := ⟨_,rfl⟩
   have hb2 : Below wr.heap.size wr w2 := by rw [hw2];exact ⟨rfl,rfl,rfl,Nat.le_refl _,fun _ _ => rfl⟩
   replace hJk : J ((rotL xs f).take k) w2 := hJ2 _ wr w2 none hJk (grown_of_below hb2) (fun r e => by cases e)
   replace hRk : Rd w2 n0 bo b1 b2 b off cap _ z xs := hRk.keep (Kc.below hb2)
   replace e1 := hRk.c1
   replace g1 := (hRk.c3 _ x hx2).1
   replace g2 := (hRk.c3 _ x hx2).2
   rw [← hw2]
   clear hw2 hb2
   simp only [List.take_succ_cons,List.take_zero,List.drop_succ_cons,List.drop_zero]
   repeat still_step
   have hwr : IntKind.i64.wrap ((f : Int) + k) = ((f + k : Nat) : Int) := by rw [wrap_in ⟨by omega,by omega⟩];omega
   have h0' : ¬ (xs.length : Int) = 0 := by omega
   have htm : Int.tmod ((f + k : Nat) : Int) (xs.length : Int) = (((f + k) % xs.length : Nat) : Int) := by rw [Int.tmod_eq_emod_of_nonneg (by omega)];rfl
   have hmlt : (f + k) % xs.length < xs.length := Nat.mod_lt _ h0
   have hw3 : IntKind.i64.wrap (((f + k) % xs.length : Nat) : Int) = (((f + k) % xs.length : Nat) : Int) := wrap_in ⟨by omega,by omega⟩
   rw [hwr]
   obtain ⟨q,hq⟩ : ∃ q,q = (f + k) % xs.length := ⟨_,rfl⟩
   rw [← hq] at htm hw3 g1 g2 hmlt
   obtain ⟨p,hp⟩ : ∃ p,p = f + k := ⟨_,rfl⟩
   rw [← hp] at htm ⊢
   clear hwr hq hp
   have hne : ¬ xs = [] := by rintro rfl;simp at h0
   refine wpStill_step fun K hK => ?_
   simp [go_sem,Oper.still,Oper.stillUpon,h0',htm,hw3,hne]
   refine hK _ ?_
   clear hK K
   repeat still_step
   refine wpStill_nil ?_
   obtain ⟨fn,tmps,assign,body,hy,hRd⟩ := hY _ x w2 hJk (by rw [List.length_take,rotL_len xs f hfle];omega)
   simp only [spV] at hy
   gi_wp2
   refine hRd.mono ?_
   rintro e W3 (⟨rfl,hJ3,hk3⟩ | ⟨rfl,hJx3⟩)
   ·gi_wp2
    go_roundw
    case rel => exact ⟨k + 1,by simp,by omega,by rw [rotL_take xs f k x hx];exact hJ3,hRk.keep hk3⟩
    case measure => simp;omega
   ·gi_wp2
    refine bodyPost_ret (results_none rfl _ _ _) rfl ?_
    exact ⟨⟨_,rfl⟩,.inr ⟨_,trivial,hJx3⟩⟩
  ·have hkl : k = xs.length := by omega
   subst hkl
   gi_wp2
   go_end0
   exact ⟨⟨_,rfl⟩,.inl ⟨_,rfl,by rw [List.take_of_length_le (by rw [rotL_len xs f hfle];exact Nat.le_refl _)] at hJk;exact hJk⟩⟩
attribute [local go_sem] Oper.semAt_some
theorem wei_in (w0 w1 w2 w3 w4 w5 w6 w7 w8 w9 w10 w11 : Nat) (h : WOk [w0,w1,w2,w3,w4,w5,w6,w7,w8,w9,w10,w11]) (sl : Value) (n : Nat) (W : World)
  (hV : VT (fun b o => W.cell? ⟨b,o,none⟩) (.rows 2 ((ringM [w0,w1,w2,w3,w4,w5,w6,w7,w8,w9,w10,w11]).map fun x : Int × Int => [I x.1,I x.2])) sl) :
  CallsIn Fence.wide n Try.prog 19 #[.agg #[sl]] W fun e w' => e = .returned (.tuple #[.agg #[.int .i64 w0,.int .i64 w1,.int .i64 w2,.int .i64 w3,.int .i64 w4,.int .i64 w5,.int .i64 w6,.int .i64 w7,.int .i64 w8,.int .i64 w9,.int .i64 w10,.int .i64 w11],.bool true]) ∧ Below W.heap.size W w' := by
 refine ((rwei_pf _ h).wide (fun b o => W.cell? ⟨b,o,none⟩) W _ (fun _ _ _ h => h) rfl ?_).mono ?_
 ·intro j x hx
  match j,hx with
  | 0,hx =>
   simp at hx;subst hx
   refine ⟨_,rfl,rfl,fun k y hy => ?_⟩
   match k,hy with
   | 0,hy => simp at hy;subst hy;exact hV
   | k + 1,hy => simp at hy
  | j + 1,hx => simp at hx
 ·rintro e w' ⟨v,Z',rfl,hr,_,hb⟩
  refine ⟨?_,hb⟩
  obtain ⟨us,rfl,hs,hu⟩ := hr
  have u0 := hu 0 _ rfl
  have u1 := hu 1 _ rfl
  match us,hs,u0,u1 with
  | ⟨[p,q]⟩,_,u0,u1 =>
   have e1 : q = .bool true := by
    have : VT Z' (.bool true) q := u1
    cases this;rfl
   obtain ⟨vs,e0,hs',hv⟩ := u0
   have e0 : p = .agg vs := e0
   match vs,hs',hv,e0 with
   | ⟨[a0,a1,a2,a3,a4,a5,a6,a7,a8,a9,a10,a11]⟩,_,hv,e0 =>
    have key : ∀ (j : Nat) (z : Int),([w0,w1,w2,w3,w4,w5,w6,w7,w8,w9,w10,w11].map fun w : Nat => I (w : Int))[j]? = some (I z) → (#[a0,a1,a2,a3,a4,a5,a6,a7,a8,a9,a10,a11] : Array Value).getD j undef = .int .i64 z := fun j z hj => by
     have : VT Z' (I z) _ := hv j _ hj
     generalize (#[a0,a1,a2,a3,a4,a5,a6,a7,a8,a9,a10,a11] : Array Value).getD j undef = u at *
     cases this;rfl
    have k0 := key 0 w0 rfl
    have k1 := key 1 w1 rfl
    have k2 := key 2 w2 rfl
    have k3 := key 3 w3 rfl
    have k4 := key 4 w4 rfl
    have k5 := key 5 w5 rfl
    have k6 := key 6 w6 rfl
    have k7 := key 7 w7 rfl
    have k8 := key 8 w8 rfl
    have k9 := key 9 w9 rfl
    have k10 := key 10 w10 rfl
    have k11 := key 11 w11 rfl
    simp only [Array.getD_eq_getD_getElem?,List.getElem?_toArray,List.getElem?_cons_zero,List.getElem?_cons_succ,Option.getD_some] at k0 k1 k2 k3 k4 k5 k6 k7 k8 k9 k10 k11
    subst k0 k1 k2 k3 k4 k5 k6 k7 k8 k9 k10 k11
    rw [e0,e1]
theorem key_in (k : Int) (h0 : 0 ≤ k) (h1 : k < 4294967296) (n : Nat) (W : World) :
  CallsIn Fence.wide n Try.prog 16 #[.int .i64 k] W fun e w' => e = .returned (.tuple #[.int .i64 ((keyN k.toNat : Nat) : Int),.int .i64 0]) ∧ Below W.heap.size W w' := by
 refine ((hkey_pf k h0 h1).wide (fun _ _ => none) W _ (fun _ _ _ h => by cases h) rfl ?_).mono ?_
 ·intro j x hx
  match j,hx with
  | 0,hx => simp at hx;subst hx;exact VT.int _ _
  | j + 1,hx => simp at hx
 ·rintro e w' ⟨v,Z',rfl,hr,_,hb⟩
  refine ⟨?_,hb⟩
  obtain ⟨us,rfl,hs,hu⟩ := hr
  have u0 := hu 0 _ rfl
  have u1 := hu 1 _ rfl
  match us,hs,u0,u1 with
  | ⟨[p,q]⟩,_,u0,u1 =>
   have e0 : p = .int .i64 ((keyN k.toNat : Nat) : Int) := by
    have : VT Z' (I ((keyN k.toNat : Nat) : Int)) p := u0
    cases this;rfl
   have e1 : q = .int .i64 0 := by
    have : VT Z' (I 0) q := u1
    cases this;rfl
   rw [e0,e1]
theorem vt_introw {W : World} {base : Nat} {e : TypeId} {v : Value} {out : List Int} (h : W.ownsRow base e 1 v out.length (out.map (Value.int .i64))) :
  VT (fun b o => if base ≤ b then W.cell? ⟨b,o,none⟩ else none) (.rows 1 (out.map fun z => [I z])) v := by
 have h0 := h
 obtain ⟨_,h2⟩ := h
 rcases h2 with ⟨h1,h2⟩ | ⟨g,cap,cur,rfl,hg,hh,hn,hcap,hsz,htake⟩
 ·have hx : out = [] := List.length_eq_zero_iff.1 h2
  subst hx
  rw [h1]
  exact VT.rnil _ _ _
 ·have := VT.rows (Z := fun b o => if base ≤ b then W.cell? ⟨b,o,none⟩ else none) 1 (out.map fun z : Int => [I z]) g 0 cap (fun i j => .int .i64 (out.getD i 0)) (by simpa using hn) ?_ ?_
  ·simpa using this
  ·intro i row j d hi hj
   rw [List.getElem?_map] at hi
   cases hx : out[i]? with
   | none => rw [hx] at hi;cases hi
   | some x =>
    rw [hx] at hi
    simp only [Option.map_some,zA] at hi
    subst hi
    match j,hj with
    | 0,hj =>
     have hil : i < out.length := (zB.1 hx).1
     have hc := h0.cellAt i (by omega)
     refine ⟨by omega,?_⟩
     rw [if_pos hg,show 0 + i * 1 + 0 = i by omega,hc,List.getElem?_map,hx]
     simp [hx]
    | j + 1,hj => simp at hj
  ·intro i row j d hi hj
   rw [List.getElem?_map] at hi
   cases hx : out[i]? with
   | none => rw [hx] at hi;cases hi
   | some x =>
    rw [hx] at hi
    simp only [Option.map_some,zA] at hi
    subst hi
    match j,hj with
    | 0,hj => simp at hj;subst hj;simp only [zC,hx,Option.getD_some];exact VT.int _ _
    | j + 1,hj => simp at hj
theorem con_in (out : List Int) (z : Int) (v : Value) (base : Nat) (e : TypeId) (n : Nat) (W : World) (hl : out.length ≤ 1000000) (h : W.ownsRow base e 1 v out.length (out.map (Value.int .i64))) :
  CallsIn Fence.wide n Try.prog 27 #[v,.int .i64 z] W fun e w' => e = .returned (.bool (decide (z ∈ out))) ∧ Below W.heap.size W w' := by
 refine ((icon_pf out z hl).wide (fun b o => if base ≤ b then W.cell? ⟨b,o,none⟩ else none) W _ (fun b o u hu => by
  by_cases hb : base ≤ b
  ·rwa [if_pos hb] at hu
  ·rw [if_neg hb] at hu;cases hu) rfl ?_).mono ?_
 ·intro j x hx
  match j,hx with
  | 0,hx => simp at hx;subst hx;exact vt_introw h
  | 1,hx => simp at hx;subst hx;exact VT.int _ _
  | j + 2,hx => simp at hx
 ·rintro e w' ⟨v,Z',rfl,hr,_,hb⟩
  refine ⟨?_,hb⟩
  have : VT Z' (.bool (decide (z ∈ out))) v := hr
  cases this;rfl
def dedM : List (Int × Int) → List Int := List.foldl (fun out s => if s.2 ∈ out then out else out ++ [s.2]) []
theorem dedM_snoc (l : List (Int × Int)) (s : Int × Int) : dedM (l ++ [s]) = if s.2 ∈ dedM l then dedM l else dedM l ++ [s.2] := by unfold dedM;rw [List.foldl_append];rfl
theorem dedM_len (l : List (Int × Int)) : (dedM l).length ≤ l.length := by
 suffices h : ∀ (l : List (Int × Int)) (acc : List Int),(l.foldl (fun out s => if s.2 ∈ out then out else out ++ [s.2]) acc).length ≤ acc.length + l.length by simpa [dedM] using h l []
 intro l
 induction l with
 | nil => intro acc;simp
 | cons s t ih =>
  intro acc
  simp only [List.foldl_cons,List.length_cons]
  refine Nat.le_trans (ih _) ?_
  split <;> simp <;> omega
attribute [local go_sem] Oper.semAt_some
theorem cell_alloc_l' {W : World} {a : Addr} {v : Value} (o : Obj) (h : W.cell? a = some v) : (W.alloc o).cell? a = some v := cell_kept h (World.grownBy_alloc W o none) (fun r e => by cases e)
theorem two_new (W : World) (x y : Value) (t : TypeId) (j : Nat) (u : Value) (h : [x,y][j]? = some u) : (W.alloc (.cells #[x,y] t)).cell? ⟨W.heap.size,j,none⟩ = some u := by
 unfold World.cell?
 simp only [World.alloc_heap_new]
 match j,h with
 | 0,h => simpa using h
 | 1,h => simpa using h
 | j + 2,h => simp at h
theorem ownsLe {w : World} {b b' : Nat} {e : TypeId} {sz n : Nat} {v : Value} {xs : List Value} (hle : b' ≤ b) (h : w.ownsRow b e sz v n xs) : w.ownsRow b' e sz v n xs :=
 ⟨h.1,h.2.imp id fun ⟨g,cap,cur,h1,h2,r⟩ => ⟨g,cap,cur,h1,Nat.le_trans hle h2,r⟩⟩
theorem intInfo : (Try.prog.info? 3).map (fun i => (i.zero,i.size,i.bytes)) = some (some (.int .i64 0),1,8) := by kernel_rfl
theorem intsUnder : Try.prog.underlying 40 = some (.slice 3) := by kernel_rfl
theorem kc_app {W w1 : World} {n bo : Nat} {e : TypeId} {sz k : Nat} {v v' : Value} {xs : List Value} {tmp : Obj} (hrow : W.ownsRow n e sz v k xs) (hgrow : (W.alloc tmp).grownBy w1 v.ownBlock) : Kc n bo W (w1.setCell ⟨bo,0,none⟩ v') := fun p u hp hne hu => by
 have h1 : (W.alloc tmp).cell? p = some u := cell_alloc_l' tmp hu
 have h2 : w1.cell? p = some u := by
  rw [World.cell?_of_block (hgrow.block p.block (World.block_lt_of_cell? _ _ h1) ?_)]
  ·exact h1
  ·rcases hrow.2 with ⟨rfl,_⟩ | ⟨g,cap,cur,rfl,hg,_⟩
   ·simp [Value.ownBlock]
   ·simp [Value.ownBlock];omega
 rw [World.cell?_of_block (Below.heap_setCell _ _ _ _ (by exact hne))]
 exact h2
theorem boxB {w w' : World} {B : Nat} {t : TypeId} {v : Value} (h : Boxed w B t v) (hb : Below w.heap.size w w') : Boxed w' B t v := (hb.block B h.lt).trans h
theorem keepsB {w w' : World} (hb : Below w.heap.size w w') : KeepsOthers w w' := ⟨hb.size,fun k o hk _ => by rw [hb.block k (Array.getElem?_eq_some_iff.1 hk).1];exact hk⟩
theorem kc_t {n bo : Nat} {A B C : World} (h : Kc n bo A B) (k : Kc n bo B C) : Kc n bo A C := fun p v h1 h2 h3 => k p v h1 h2 (h p v h1 h2 h3)
theorem kc_b {n bo : Nat} {w : World} (hn : n ≤ w.heap.size) (W : World) (l : Nat) (o o' : Obj) (hl : w.heap.size ≤ l) (h : W.heap[l]? = some o) (_ : o.isCells = false) (_ : o.isWalk = false) : Kc n bo W (W.putObj l o') := fun p v h1 _ hv => by
 rw [World.cell?_of_block (World.putObj_heap_other (by omega))];exact hv
theorem rwalk_in (w0 w1 w2 w3 w4 w5 w6 w7 w8 w9 w10 w11 : Nat) (h : WOk [w0,w1,w2,w3,w4,w5,w6,w7,w8,w9,w10,w11]) (k k2 : Int) (hkey : ∀ n W,CallsIn Fence.wide n Try.prog 16 #[.int .i64 k] W fun e w' => e = .returned (.tuple #[.int .i64 k2,.int .i64 0]) ∧ Below W.heap.size W w') (a : Option Addr) (b off cap : Nat) (W : World) (xs : List (Int × Int)) (hxs : ringM [w0,w1,w2,w3,w4,w5,w6,w7,w8,w9,w10,w11] = xs)
  (hcap : xs.length ≤ cap) (ha : xs ≠ [] → a = some ⟨b,off,none⟩ ∧ b < W.heap.size)
  (hc : ∀ i x,xs[i]? = some x → W.cell? ⟨b,off + i * 2,none⟩ = some (.int .i64 x.1) ∧ W.cell? ⟨b,off + i * 2 + 1,none⟩ = some (.int .i64 x.2))
  (hmono : ∀ z i j (hi : i < xs.length) (hj : j < xs.length),i ≤ j → ord2 xs[j].1 xs[j].2 z (-1) < 0 → ord2 xs[i].1 xs[i].2 z (-1) < 0) :
  CallsIn Fence.wide 3 Try.prog 15 #[.agg #[.slice a xs.length cap],.int .i64 k] W fun e w' => ∃ v,e = .returned (.tuple #[v,.int .i64 0]) ∧
   w'.ownsRow W.heap.size 3 1 v (dedM (rotL xs (fromM k2 xs))).length ((dedM (rotL xs (fromM k2 xs))).map (Value.int .i64)) ∧ Below W.heap.size W w' := by
 have hlen : xs.length ≤ 384 := hxs ▸ ringM_len _ h
 have hwei := fun n W' hV => wei_in w0 w1 w2 w3 w4 w5 w6 w7 w8 w9 w10 w11 h (.slice a xs.length cap) n W' hV
 rw [hxs] at hwei
 obtain ⟨i0,hi,hz0,hz1,hz2⟩ := info_parts intInfo
 have f1 : Fence.wide.fn 19 := trivial
 have f2 : Fence.wide.fn 16 := trivial
 have f3 : Fence.wide.fn 26 := trivial
 have f4 : Fence.wide.fn 27 := trivial
 have keep : ∀ {A B : World},Below A.heap.size A B → Below W.heap.size W A → (∀ i x,xs[i]? = some x → B.cell? ⟨b,off + i * 2,none⟩ = some (.int .i64 x.1) ∧ B.cell? ⟨b,off + i * 2 + 1,none⟩ = some (.int .i64 x.2)) := fun {A B} h1 h2 i x hx => by
  have hne : xs ≠ [] := by rintro rfl;simp at hx
  have hb := (ha hne).2
  have h3 : Below W.heap.size W B := h2.trans (h1.mono h2.size)
  obtain ⟨q1,q2⟩ := hc i x hx
  exact ⟨(h3.cell (p := ⟨b,off + i * 2,none⟩) hb).trans q1,(h3.cell (p := ⟨b,off + i * 2 + 1,none⟩) hb).trans q2⟩
 refine callsIn_of_wp_marks Try.func15 rfl trivial ?_ rfl
 simp only [Try.ntmps15,List.size_toArray,List.length_cons,List.length_nil,Nat.reduceAdd,Nat.reduceSub,Array.replicate_succ,Array.replicate_zero,List.push_toArray,List.append_toArray,List.nil_append,List.cons_append]
 have b0 := Boxed.new W 25 (.slice a xs.length cap)
 have hB0 : Below W.heap.size W (W.alloc (.cells #[.slice a xs.length cap] 25)) := (Below.refl _ W).alloc (Nat.le_refl _) _
 have hB0' : Below W.heap.size W (W.alloc (.cells #[.slice a xs.length cap] 25)) := hB0
 gi_wp2_with (gi_at_call 19;refine (hwei _ _ (vt_spots hcap (fun h => (ha h).1) (keep (A := W) hB0' (Below.refl _ W)))).mono ?_;rintro e v1 ⟨rfl,hb1⟩)
 refine (hkey 2 _).mono ?_
 rintro e v2 ⟨rfl,hb2⟩
 have hB1 : Below W.heap.size W v1 := hB0.trans (hb1.mono hB0.size)
 have c1 : v1.cell? ⟨W.heap.size,0,none⟩ = some (.slice a xs.length cap) := (hb1.cell (p := ⟨W.heap.size,0,none⟩) (by simp)).trans b0.cell
 have hS1 : W.heap.size < v1.heap.size := World.block_lt_of_cell? v1 _ c1
 have hB2 : Below W.heap.size W v2 := (hB1.alloc (Nat.le_of_lt hS1) _).trans (hb2.mono (by simp;omega))
 have c2 : v2.cell? ⟨W.heap.size,0,none⟩ = some (.slice a xs.length cap) := (hb2.cell (p := ⟨W.heap.size,0,none⟩) (by simp;omega)).trans (cell_alloc_l' _ c1)
 have hS2 : W.heap.size < v2.heap.size := World.block_lt_of_cell? v2 _ c2
 have c3 : (v2.alloc (.cells #[.slice none 0 0] 40)).cell? ⟨W.heap.size,0,none⟩ = some (.slice a xs.length cap) := cell_alloc_l' _ c2
 gi_wp2_with (gi_at_call 26;refine (ralong_in a xs.length cap _ 2 _).mono ?_;rintro e v3 ⟨rfl,hv3⟩)
 obtain ⟨u3,hu3⟩ : ∃ u3,u3 = (((v2.alloc (.cells #[.slice none 0 0] 40)).alloc (.cells #[.slice a xs.length cap] 23)).alloc (.cells #[.int .i64 k2] 3)) := ⟨_,rfl⟩
 have s3 : u3.heap.size = v2.heap.size + 3 := by rw [hu3];simp
 have bO : Boxed u3 v2.heap.size 40 (.slice none 0 0) := by rw [hu3];exact ((Boxed.new v2 _ _).alloc _).alloc _
 have bL : u3.cell? ⟨v2.heap.size + 1,0,none⟩ = some (.slice a xs.length cap) := by
  have := (Boxed.new (v2.alloc (.cells #[.slice none 0 0] 40)) 23 (.slice a xs.length cap)).alloc (.cells #[.int .i64 k2] 3)
  rw [← hu3,World.size_alloc] at this;exact this.cell
 have bA : u3.cell? ⟨v2.heap.size + 1 + 1,0,none⟩ = some (.int .i64 k2) := by
  have := Boxed.new ((v2.alloc (.cells #[.slice none 0 0] 40)).alloc (.cells #[.slice a xs.length cap] 23)) 3 (.int .i64 k2)
  rw [← hu3,World.size_alloc,World.size_alloc] at this;exact this.cell
 have hB23 : Below v2.heap.size v2 u3 := by rw [hu3];exact (((Below.refl _ v2).alloc (Nat.le_refl _) _).alloc (by simp) _).alloc (by simp;omega) _
 have hB3 : Below W.heap.size W u3 := hB2.trans (hB23.mono hB2.size)
 rw [← hu3]
 clear hu3
 have hRd : Rd u3 u3.heap.size v2.heap.size (v2.heap.size + 1) (v2.heap.size + 1 + 1) b off cap a k2 xs :=
  ⟨by omega,by omega,fun hne => by obtain ⟨q1,q2⟩ := ha hne;exact ⟨q1,by omega,by omega⟩,bL,bA,keep hB23 hB2⟩
 have hseq : SeqStopsK Fence.wide 2 Try.prog 36 #[.pointer (some ⟨v2.heap.size + 1,0,none⟩),.pointer (some ⟨v2.heap.size + 1 + 1,0,none⟩)] spV (Kc u3.heap.size v2.heap.size) (fun ys => ys = rotL xs (fromM k2 xs)) (fun _ => True) xs.length u3 :=
  fun l J Jx W' hW hJ hJx hY h0 => ralong1_in 2 (by omega) l _ _ b off cap u3.heap.size v2.heap.size a k2 xs J Jx W' (by omega) hcap (hmono k2) hW.size hJ hY (hRd.keep (Kc.below hW)) h0
 refine wpIn_rangeFunc_ownH (F := Fence.wide) (n := 3) rfl (by omega) (gf := 36) rfl trivial (enters_of Try.func36 (by kernel_rfl) rfl) hseq
  kc_t (kc_b (Nat.le_refl _)) (Below.refl _ _) (fun _ => rfl)
  (fun pre W' => (∃ v,Boxed W' v2.heap.size 40 v ∧ W'.ownsRow u3.heap.size 3 1 v (dedM pre).length ((dedM pre).map (Value.int .i64))) ∧ Below W.heap.size W W')
  (fun _ _ _ => False) ?hI (fun _ _ _ _ _ hs _ _ => hs) ⟨⟨_,bO,World.ownsRow_nil _ _ _ _⟩,hB3⟩
  (fun x a' W' => ∃ B,W'.cell? ⟨B,0,none⟩ = some (.int .i64 x.1) ∧ W'.cell? ⟨B,1,none⟩ = some (.int .i64 x.2) ∧ a' = { tmps := #[.agg #[.slice a xs.length cap],.int .i64 k,.pointer (some ⟨W.heap.size,0,none⟩),undef,.slice none 0 0,.int .i64 0,.pointer (some ⟨v1.heap.size,0,none⟩),.bool true,.int .i64 k2,.int .i64 0,.pointer (some ⟨v2.heap.size,0,none⟩),.pointer (some ⟨B,0,none⟩),
   .tuple #[.agg #[.int .i64 w0,.int .i64 w1,.int .i64 w2,.int .i64 w3,.int .i64 w4,.int .i64 w5,.int .i64 w6,.int .i64 w7,.int .i64 w8,.int .i64 w9,.int .i64 w10,.int .i64 w11],.bool true],.agg #[.slice a xs.length cap],.tuple #[.agg #[.int .i64 w0,.int .i64 w1,.int .i64 w2,.int .i64 w3,.int .i64 w4,.int .i64 w5,.int .i64 w6,.int .i64 w7,.int .i64 w8,.int .i64 w9,.int .i64 w10,.int .i64 w11],.bool true],.agg #[.int .i64 w0,.int .i64 w1,.int .i64 w2,.int .i64 w3,.int .i64 w4,.int .i64 w5,.int .i64 w6,.int .i64 w7,.int .i64 w8,.int .i64 w9,.int .i64 w10,.int .i64 w11],.bool true,.bool true,.bool false,.tuple #[.int .i64 k2,.int .i64 0],.int .i64 k,.tuple #[.int .i64 k2,.int .i64 0],.int .i64 k2,.int .i64 0,.int .i64 0,.bool false,undef,.pointer (some ⟨W.heap.size,0,none⟩),.slice a xs.length cap,.int .i64 k2,
   .func (.func 36) #[] #[.pointer (some ⟨v2.heap.size + 1,0,none⟩),.pointer (some ⟨v2.heap.size + 1 + 1,0,none⟩)],.agg #[.int .i64 x.1,.int .i64 x.2],undef,undef,undef,undef,undef,undef,undef,undef,undef,undef,undef],defers := [] })
  ?hAx ?assign ?body ?done ?stop
 case hI =>
  refine OwnFrom.and (Own.from ?_ _) (ownFrom_below (Nat.le_refl _) (by omega))
  have := holdsRow_own u3.heap.size v2.heap.size 40 3 1 (fun pre => (dedM pre).length) (fun pre => (dedM pre).map (Value.int .i64)) (fun _ _ => True)
  rintro s A B row ⟨v,g1,g2⟩ hg hr
  obtain ⟨v',g3,g4,_⟩ := this s A B row ⟨v,g1,g2,trivial⟩ hg hr
  exact ⟨v',g3,g4⟩
 case hAx =>
  rintro x a' s A B row ⟨Bs,q2,q3,q4⟩ hg hr
  exact ⟨Bs,cell_kept q2 hg (fun r e => (hr r e).2),cell_kept q3 hg (fun r e => (hr r e).2),q4⟩
 case assign =>
  intro l pre x W' K hI hK
  simp only [spV]
  gi_wp2
  obtain ⟨⟨v,g1,g2⟩,g3⟩ := hI
  have hsW : W.heap.size ≤ W'.heap.size := g3.size
  refine hK _ _ ((KeepsOthers.alloc W' _).from _) (Kc.below ((Below.refl _ W').alloc (Nat.le_refl _) _)) ⟨⟨v,g1.alloc _,g2.alloc _⟩,g3.alloc hsW _⟩ ⟨W'.heap.size,?_,?_,rfl⟩
  ·exact two_new W' _ _ _ 0 _ rfl
  ·exact two_new W' _ _ _ 1 _ rfl
 case body =>
  rintro l pre x a' W' hl ⟨r0,hlr⟩ ⟨⟨v,hv,hrow⟩,hB⟩ ⟨B,q1,q2,rfl⟩ hlt
  have hul : u3.heap.size ≤ W'.heap.size := by have := (Array.getElem?_eq_some_iff.1 hlr).1;omega
  have hc := hv.cell
  have hpl : (dedM pre).length ≤ pre.length := dedM_len pre
  have hsz : W.heap.size ≤ v2.heap.size := hB2.size
  gi_wp2_with (first | (gi_at_call 27;refine (con_in (dedM pre) x.2 v u3.heap.size 3 _ W' (by omega) hrow).mono ?_;rintro e W2 ⟨rfl,hb2⟩;have hv2 := boxB hv hb2;have hrow2 := owns_call hrow hb2;have hcW2 := hv2.cell;have q2' := (hb2.cell (p := ⟨B,1,none⟩) (World.block_lt_of_cell? W' _ q2)).trans q2;have hBW := hB.trans (hb2.mono hB.size);have hvlt := hv2.lt) | (gi_at_builtin;refine wpListIn_append_own _ rfl _ _ 40 rfl u3.heap.size 3 i0 (.int .i64 0) 1 8 intsUnder hi hz0 hz1 hz2 rfl (by decide) _ _ _ rfl (hrow2.alloc _) ⟨W2.heap.size,0,none⟩ 1 1 [.int .i64 x.2] rfl rfl (cell_one_new _ _ _) (by simp [Value.oneCell']) (by unfold maxLen;omega) (by omega) (by have := hb2.size;simp;omega) ?_;intro v' w1 hown' hgrow _;obtain ⟨g',cap',rfl⟩ := ownsRow_succ hown';obtain ⟨hv1,hv2',hr2,hk2,hb2'⟩ := hv2.appended (by decide) (ownsLe hB3.size hrow2) hBW.size hsz (ownsLe hB3.size hown') hgrow;have hc1 := hv1.cell;have hf1 := hv1.frozen))
  ·have hm : ¬ x.2 ∈ dedM pre := by simpa using ‹(!decide (x.2 ∈ dedM pre)) = true›
   refine ⟨((keepsB hb2).trans hk2).from _,kc_t (Kc.below hb2) (kc_app hrow2 hgrow),⟨_,hv2',?_⟩,hBW.trans hb2'⟩
   rw [dedM_snoc,if_neg hm]
   have := hown'.kept (grownBy_setCell' w1 v2.heap.size (.slice (some ⟨g',0,none⟩) ((dedM pre).length + 1) cap')) (.inr (hv1.not_row (by decide) hown').symm)
   simpa using this
  ·have hm : x.2 ∈ dedM pre := by simpa using ‹(!decide (x.2 ∈ dedM pre)) = false›
   exact ⟨(keepsB hb2).from _,Kc.below hb2,⟨v,hv2,by rw [dedM_snoc,if_pos hm];exact hrow2⟩,hB.trans (hb2.mono hB.size)⟩
 case done =>
  rintro D ys W' hD rfl ⟨⟨v,hv,hrow⟩,hB⟩ hK
  have hc := hv.cell
  gi_wp2
  refine ⟨by simp,.inl ⟨_,_,rfl,run_takeDeferred hK,?_⟩⟩
  refine ⟨.tuple #[v,.int .i64 0],by simp [results,Sem.run_bind,Sem.run_pure,Result.andThen,Try.func15,Try.f15],v,rfl,ownsLe hB3.size (ownsRow_putObj hrow _ hK rfl),hB.trans (belowK_b (w := u3) hB3.size W' D _ _ (by omega) hK rfl rfl)⟩
 case stop =>
  rintro D c pre W' _ _ h _
  exact h.elim
end Go.Proofs.Ytmdhegbdffbfoaa
namespace Go.Proofs.Ytmdhegbdffbfoaa
open Go.RowKit
def walkM (ws : List Nat) (z : Int) : List Int := dedM (rotL (ringM ws) (fromM z (ringM ws)))
theorem ring_mono (ws : List Nat) (z : Int) (i j : Nat) (hi : i < (ringM ws).length) (hj : j < (ringM ws).length) (hij : i ≤ j) (h : ord2 (ringM ws)[j].1 (ringM ws)[j].2 z (-1) < 0) : ord2 (ringM ws)[i].1 (ringM ws)[i].2 z (-1) < 0 := by
 by_cases e : i = j
 ·subst e;exact h
 have hp := List.pairwise_iff_getElem.1 (sortM_pw (wantM ws 12)) i j hi hj (by omega)
 rw [ltSp] at hp
 simp at hp
 rw [ord2_neg] at *
 unfold ringM at *
 omega
theorem WOk.twelve {ws : List Nat} (h : WOk ws) : ∃ w0 w1 w2 w3 w4 w5 w6 w7 w8 w9 w10 w11,ws = [w0,w1,w2,w3,w4,w5,w6,w7,w8,w9,w10,w11] := by
 match ws,h.len with
 | [w0,w1,w2,w3,w4,w5,w6,w7,w8,w9,w10,w11],_ => exact ⟨_,_,_,_,_,_,_,_,_,_,_,_,rfl⟩
theorem rwalk_pfn (ws : List Nat) (h : WOk ws) (k : Int) (hk0 : 0 ≤ k) (hk1 : k < 4294967296) :
  PFn Try.prog 15 [.agg [.rows 2 ((ringM ws).map spE)],I k] (.tup [.rows 1 ((walkM ws (keyN k.toNat : Nat)).map fun z => [I z]),I 0]) := by
 refine ⟨by kernel_rfl,fun Z w vs hz hl hv => ?_⟩
 match vs,hl,hv with
 | ⟨[p,q]⟩,_,hv =>
  obtain ⟨us,e0,hs,hu⟩ : VV s0 Z (.agg [.rows 2 ((ringM ws).map spE)]) p := hv 0 _ rfl
  have e1 : q = .int .i64 k := by
   have : VT Z (I k) q := hv 1 _ rfl
   cases this;rfl
  match us,hs,hu,e0 with
  | ⟨[sl]⟩,_,hu,e0 =>
   subst e0 e1
   have hV : VT Z (.rows 2 ((ringM ws).map spE)) sl := hu 0 _ rfl
   obtain ⟨a,b,off,cap,rfl,hcap,ha,hc⟩ : ∃ a b off cap,sl = .slice a (ringM ws).length cap ∧ (ringM ws).length ≤ cap ∧ (ringM ws ≠ [] → a = some ⟨b,off,none⟩ ∧ b < w.heap.size) ∧
     ∀ i x,(ringM ws)[i]? = some x → w.cell? ⟨b,off + i * 2,none⟩ = some (.int .i64 x.1) ∧ w.cell? ⟨b,off + i * 2 + 1,none⟩ = some (.int .i64 x.2) := by
    generalize hys : (ringM ws).map spE = ys at hV
    cases hV with
    | rnil _ a cap =>
     have h0 : ringM ws = [] := List.map_eq_nil_iff.1 hys
     exact ⟨a,0,0,cap,by rw [h0];rfl,by simp [h0],fun hne => absurd h0 hne,fun i x hx => by rw [h0] at hx;simp at hx⟩
    | rows _ _ b off cap c h1 h2 h3 =>
     have hlen : ys.length = (ringM ws).length := by rw [← hys];simp
     have hcell : ∀ i x,(ringM ws)[i]? = some x → w.cell? ⟨b,off + i * 2,none⟩ = some (.int .i64 x.1) ∧ w.cell? ⟨b,off + i * 2 + 1,none⟩ = some (.int .i64 x.2) := fun i x hx => by
      have hy : ys[i]? = some (spE x) := by rw [← hys,List.getElem?_map,hx];rfl
      have g0 := (h2 i _ 0 _ hy rfl).2
      have g1 := (h2 i _ 1 _ hy rfl).2
      have v0 := h3 i _ 0 _ hy rfl
      have v1 := h3 i _ 1 _ hy rfl
      have k0 := vtInt v0
      have k1 := vtInt v1
      rw [k0] at g0
      rw [k1] at g1
      exact ⟨hz _ _ _ g0,hz _ _ _ g1⟩
     refine ⟨_,b,off,cap,by rw [hlen],by omega,fun hne => ⟨rfl,?_⟩,hcell⟩
     obtain ⟨x,hx⟩ := List.exists_mem_of_ne_nil _ hne
     obtain ⟨i,hi⟩ := zF hx
     exact World.block_lt_of_cell? w _ (hcell i x hi).1
   obtain ⟨w0,w1,w2,w3,w4,w5,w6,w7,w8,w9,w10,w11,hwe⟩ := WOk.twelve h
   ·subst hwe
    refine callsIn_wide.1 (CallsIn.mono (rwalk_in w0 w1 w2 w3 w4 w5 w6 w7 w8 w9 w10 w11 h k (keyN k.toNat : Nat) (fun n W => key_in k hk0 hk1 n W) a b off cap w _ rfl hcap ha hc (fun z i j hi hj => ring_mono _ z i j hi hj)) ?_)
    rintro e w' ⟨v,rfl,hrow,hB⟩
    refine ⟨_,fun b o => if w.heap.size ≤ b then w'.cell? ⟨b,o,none⟩ else none,rfl,?_,fun b o u hu => ?_,hB⟩
    ·refine ⟨_,rfl,rfl,fun j x hx => ?_⟩
     match j,hx with
     | 0,hx => simp at hx;subst hx;exact vt_introw hrow
     | 1,hx => simp at hx;subst hx;exact VT.int _ _
     | j + 2,hx => simp at hx
    ·simp only at hu
     split at hu
     ·rename_i hb;exact ⟨hb,hu⟩
     ·cases hu
end Go.Proofs.Ytmdhegbdffbfoaa
namespace Go.Proofs.Ytmdhegbdffbfoaa
open Go.RowKit
attribute [local simp] AK_at acode_seq acode_region acode_draw acode_cond CB_u acode_block acode_loop acode_exit acode_scope acode_ret acode_skip seqQ_n seqQ_e seqQ_r blockQ_n blockQ_e blockQ_r TK_at OK_at SK_at aops_nil aops_cons asch_done asch_one asch_two asch_top astep aop_eq isLoud aloud aloud1 isWrite qv evS strip gof eget hget putO eput herase oks opnds gS afin afin0 binD arith D.cells takeD fillD keep trim envOf Fin aresl aresv resD argOk pickV isP deq deqs boundD slD lenD isT isSl ptrIds chunks mn_min mx_max splice_one splice_more Rbr_at Rfr_at frR frV frC flatC brwR brwV brwC omap leR leV leC leL leVL rnR rnV rnC rnO rho_0 hputs herases rnS LtS LtR LtV LtC LtO lget noV noC flatR flatV rho
attribute [local simp ↓] CB_t CB_f
theorem rwalk_pf (ws : List Nat) (h : WOk ws) (k : Int) (hk0 : 0 ≤ k) (hk1 : k < 4294967296) :
  PF Try.prog 15 [.agg [.rows 2 ((ringM ws).map spE)],I k] (.tup [.rows 1 ((walkM ws (keyN k.toNat : Nat)).map fun z => [I z]),I 0]) := (rwalk_pfn ws h k hk0 hk1).pf
theorem ded_go (l : List (Int × Int)) : ∀ acc : List Int,acc.Nodup → ((l.foldl (fun out s => if s.2 ∈ out then out else out ++ [s.2]) acc).Nodup ∧ ∀ z,z ∈ l.foldl (fun out s => if s.2 ∈ out then out else out ++ [s.2]) acc ↔ z ∈ acc ∨ ∃ s ∈ l,s.2 = z) := by
 induction l with
 | nil => intro acc h;exact ⟨h,fun z => by simp⟩
 | cons s t ih =>
  intro acc h
  simp only [List.foldl_cons]
  by_cases hm : s.2 ∈ acc
  ·rw [if_pos hm]
   obtain ⟨h1,h2⟩ := ih acc h
   refine ⟨h1,fun z => ?_⟩
   rw [h2]
   constructor
   ·rintro (h3 | ⟨u,h3,h4⟩)
    ·exact .inl h3
    ·exact .inr ⟨u,List.mem_cons_of_mem _ h3,h4⟩
   ·rintro (h3 | ⟨u,h3,h4⟩)
    ·exact .inl h3
    ·rcases List.mem_cons.1 h3 with rfl | h3
     ·exact .inl (h4 ▸ hm)
     ·exact .inr ⟨u,h3,h4⟩
  ·rw [if_neg hm]
   obtain ⟨h1,h2⟩ := ih (acc ++ [s.2]) (by
    rw [List.nodup_append]
    refine ⟨h,by simp,fun a ha b hb => ?_⟩
    simp at hb
    subst hb
    rintro rfl
    exact hm ha)
   refine ⟨h1,fun z => ?_⟩
   rw [h2]
   constructor
   ·rintro (h3 | ⟨u,h3,h4⟩)
    ·rcases List.mem_append.1 h3 with h3 | h3
     ·exact .inl h3
     ·simp at h3;exact .inr ⟨s,List.mem_cons_self,h3.symm⟩
    ·exact .inr ⟨u,List.mem_cons_of_mem _ h3,h4⟩
   ·rintro (h3 | ⟨u,h3,h4⟩)
    ·exact .inl (List.mem_append_left _ h3)
    ·rcases List.mem_cons.1 h3 with rfl | h3
     ·exact .inl (by simp [h4])
     ·exact .inr ⟨u,h3,h4⟩
theorem dedM_nodup (l : List (Int × Int)) : (dedM l).Nodup := (ded_go l [] (by simp)).1
theorem dedM_mem (l : List (Int × Int)) (z : Int) : z ∈ dedM l ↔ ∃ s ∈ l,s.2 = z := by
 have := (ded_go l [] (by simp)).2 z
 simpa [dedM] using this
theorem rotL_mem {α : Type} (l : List α) (f : Nat) (x : α) : x ∈ rotL l f ↔ x ∈ l := by
 unfold rotL
 rw [List.mem_append,or_comm,← List.mem_append,List.take_append_drop]
theorem walkM_nodup (ws : List Nat) (z : Int) : (walkM ws z).Nodup := dedM_nodup _
theorem walkM_mem (ws : List Nat) (z : Int) (b : Nat) (hb : b < 12) : (b : Int) ∈ walkM ws z ↔ 0 < ws.getD b 0 := by
 unfold walkM
 rw [dedM_mem]
 have hc := cnt_ring ws b hb
 constructor
 ·rintro ⟨s,h1,h2⟩
  rw [rotL_mem] at h1
  have : 0 < (ringM ws).countP (isB b) := List.countP_pos_iff.2 ⟨s,h1,by simp [isB,h2]⟩
  omega
 ·intro h
  have : 0 < (ringM ws).countP (isB b) := by omega
  obtain ⟨s,h1,h2⟩ := List.countP_pos_iff.1 this
  exact ⟨s,(rotL_mem _ _ _).2 h1,by simpa [isB] using h2⟩
theorem walkM_bd (ws : List Nat) (z x : Int) (h : x ∈ walkM ws z) : 0 ≤ x ∧ x < 12 := by
 obtain ⟨s,h1,rfl⟩ := (dedM_mem _ _).1 h
 exact ringM_mem ((rotL_mem _ _ _).1 h1)
theorem walkM_len (ws : List Nat) (h : WOk ws) (z : Int) : (walkM ws z).length ≤ 384 := by
 have h1 := dedM_len (rotL (ringM ws) (fromM z (ringM ws)))
 rw [rotL_len (ringM ws) (fromM z (ringM ws)) (lowB_le _ _)] at h1
 have := ringM_len ws h
 unfold walkM
 omega
def neB (b z : Int) : Bool := decide (z ≠ b)
theorem ded_filter (b : Int) (l : List (Int × Int)) : ∀ acc : List Int,(l.filter fun s => neB b s.2).foldl (fun out s => if s.2 ∈ out then out else out ++ [s.2]) (acc.filter (neB b)) = (l.foldl (fun out s => if s.2 ∈ out then out else out ++ [s.2]) acc).filter (neB b) := by
 induction l with
 | nil => intro acc;rfl
 | cons s t ih =>
  intro acc
  simp only [List.foldl_cons,List.filter_cons]
  by_cases h : neB b s.2 = true
  ·rw [if_pos h,List.foldl_cons,← ih]
   congr 1
   by_cases hm : s.2 ∈ acc
   ·rw [if_pos hm,if_pos (List.mem_filter.2 ⟨hm,h⟩)]
   ·rw [if_neg hm,if_neg (fun h2 => hm (List.mem_filter.1 h2).1),List.filter_append]
    simp [h]
  ·rw [if_neg h,← ih]
   congr 1
   by_cases hm : s.2 ∈ acc
   ·rw [if_pos hm]
   ·rw [if_neg hm,List.filter_append]
    simp [h]
theorem dedM_filter (b : Int) (l : List (Int × Int)) : dedM (l.filter fun s => neB b s.2) = (dedM l).filter (neB b) := ded_filter b l []
theorem take_while_filter {α : Type} (p : α → Bool) : ∀ l : List α,(∀ i j (hi : i < l.length) (hj : j < l.length),i ≤ j → p l[j] = true → p l[i] = true) → l.takeWhile p = l.filter p ∧ l.dropWhile p = l.filter fun x => !p x
 | [],_ => ⟨rfl,rfl⟩
 | x :: t,h => by
  rw [List.takeWhile_cons,List.dropWhile_cons,List.filter_cons,List.filter_cons]
  cases hp : p x with
  | true =>
   obtain ⟨h1,h2⟩ := take_while_filter p t fun i j hi hj hij hh => h (i + 1) (j + 1) (by simp;omega) (by simp;omega) (by omega) hh
   simp [h1,h2]
  | false =>
   have hall : ∀ y ∈ t,p y = false := fun y hy => by
    obtain ⟨j,hj⟩ := zF hy
    obtain ⟨hjl,hje⟩ := zB.1 hj
    cases hq : p y with
    | false => rfl
    | true =>
     have := h 0 (j + 1) (by simp) (by simp;omega) (by omega) (by simpa [hje] using hq)
     simp [hp] at this
   have f1 : t.filter p = [] := List.filter_eq_nil_iff.2 fun y hy => by simp [hall y hy]
   have f2 : t.filter (fun x => !p x) = t := List.filter_eq_self.2 fun y hy => by simp [hall y hy]
   simp [f1,f2]
theorem tw_split {α : Type} (p : α → Bool) : ∀ l : List α,l.drop (l.takeWhile p).length = l.dropWhile p ∧ l.take (l.takeWhile p).length = l.takeWhile p
 | [] => ⟨rfl,rfl⟩
 | x :: t => by
  obtain ⟨h1,h2⟩ := tw_split p t
  rw [List.takeWhile_cons,List.dropWhile_cons]
  cases p x with
  | true => simp [h1,h2]
  | false => simp
theorem rot_filter (xs : List (Int × Int)) (p : Int × Int → Bool) (h : ∀ i j (hi : i < xs.length) (hj : j < xs.length),i ≤ j → p xs[j] = true → p xs[i] = true) : rotL xs (lowB p xs) = xs.filter (fun x => !p x) ++ xs.filter p := by
 obtain ⟨h1,h2⟩ := take_while_filter p xs h
 unfold rotL lowB
 rw [← h1,← h2]
 rw [(tw_split p xs).1,(tw_split p xs).2]
theorem walk_filter (ws : List Nat) (h : WOk ws) (z : Int) (b : Nat) (hb : b < 12) : walkM (ws.set b 0) z = (walkM ws z).filter (neB b) := by
 have hp : ∀ (vs : List Nat),∀ i j (hi : i < (ringM vs).length) (hj : j < (ringM vs).length),i ≤ j → (fun x : Int × Int => decide (ord2 x.1 x.2 z (-1) < 0)) (ringM vs)[j] = true → (fun x : Int × Int => decide (ord2 x.1 x.2 z (-1) < 0)) (ringM vs)[i] = true := fun vs i j hi hj hij hh => by
  simp only [decide_eq_true_eq] at hh ⊢
  exact ring_mono vs z i j hi hj hij hh
 have e : (ringM ws).filter (nq (isB b)) = (ringM ws).filter fun s => neB b s.2 := by
  refine List.filter_congr fun s _ => ?_
  by_cases h : s.2 = (b : Int) <;> simp [nq,isB,neB,h]
 unfold walkM fromM
 rw [rot_filter _ _ (hp (ws.set b 0)),rot_filter _ _ (hp ws),← ring_del ws h b hb,e,← dedM_filter]
 congr 1
 rw [List.filter_append,List.filter_filter,List.filter_filter,List.filter_filter,List.filter_filter]
 congr 1 <;> exact List.filter_congr fun s _ => Bool.and_comm _ _
theorem filter_len (b : Int) : ∀ l : List Int,l.Nodup → (l.filter (neB b)).length = l.length - if b ∈ l then 1 else 0
 | [],_ => by simp
 | z :: t,h => by
  obtain ⟨h1,h2⟩ := List.nodup_cons.1 h
  have ih := filter_len b t h2
  rw [List.filter_cons]
  by_cases e : z = b
  ·subst e
   have : neB z z = false := by simp [neB]
   simp [this,ih,h1]
  ·have e' : ¬ b = z := fun h => e h.symm
   have : neB b z = true := by simp [neB,e]
   simp [this,ih,e']
   by_cases hm : b ∈ t
   ·have : 0 < t.length := List.length_pos_of_mem hm
    simp [hm];omega
   ·simp [hm]
theorem rwout_code : cfun Try.prog [] 18 = some ⟨(.seq (qR 0 [oX 4 (.mov (.k .nil0))]) (.seq (qR 1 [oX 5 (.mov (.k .nil0))]) (.seq (.seq (qR 2 [oK 6 0]) (.block 0 (.loop (.seq (.seq (qR 3 [oM 7 6,oM 8 0,oH 9 8,oX 10 (.bin .lss (.t 7) (.t 9))]) (.cond 10 .skip (.exit 0))) (.seq (.block 1 (.seq (qR 5 [oM 13 0,oM 14 6,oI 15 1 13 14,oL 16 1 15,oM 17 1,oX 18 (.bin .neq (.t 16) (.t 17))]) (.cond 18 (qR 6 [oM 19 5,oM 20 0,oM 21 6,oI 22 1 20 21,oL 23 1 22,oX 24 (.bslice 1 1 [qZ] [(0,(.t 23))]),oX 25 (.app 1 8 [qZ] (.t 19) (.t 24)),oM 5 25]) .skip))) (qR 4 [oM 11 6,oX 12 (.bin .add (.t 11) (kI 1)),oM 6 12])))))) (.seq (qR 7 [oM 26 5,oM 4 26]) .ret)))),[(.t 4)],27⟩ := by kernel_rfl
theorem rwout_pf (l : List Int) (b : Int) (hl : l.length ≤ 1000000) (hT : ∀ z ∈ l,InR z) : PF Try.prog 18 [.rows 1 (l.map fun z => [I z]),I b] (.rows 1 ((l.filter (neB b)).map fun z => [I z])) := by
 refine pO rwout_code [0,1,4,5,6,10,18] [] fun B hBN hB0 => ?_
 simp
 refine W.loopS (fun i : Nat => ⟨[(6,I i),(5,.own 0),(4,.nil0),(1,I b),(0,.rows 1 (l.map fun z => [I z]))],[(0,.row 1 (((l.take i).filter (neB b)).map fun z => [I z]))],1⟩)
  (fun n i => n = l.length - i ∧ i ≤ l.length) ?_ ?_
 ·refine ⟨_,0,(Gh.adopt 5 1 (by omega) (by simp)).trans ?_,rfl,by omega⟩
  simp
  exact (gr0 [0] hB0 (by simp) (by simp) (.inl (by simp)))
 rintro n i ⟨hn,hi⟩
 refine acode_sound [0,1,4,5,6,10,18] [] _ _ _ ?_
 by_cases hlt : i < l.length
 ·obtain ⟨o,ho⟩ : ∃ o,o = l[i] := ⟨_,rfl⟩
  have hst : (l.take (i + 1)).filter (neB b) = (l.take i).filter (neB b) ++ if neB b o then [o] else [] := by
   rw [List.take_succ_eq_append_getElem hlt,List.filter_append,← ho,List.filter_cons];simp
  have hfl : ((l.take i).filter (neB b)).length ≤ i := Nat.le_trans (List.length_filter_le _ _) (by simp;omega)
  obtain ⟨ys,hys⟩ : ∃ ys,ys = (l.take i).filter (neB b) := ⟨_,rfl⟩
  rw [← hys] at hst hfl ⊢
  have hcap : (ys.length + 1) * 8 ≤ 140737488355328 := by omega
  have ii : InR ((i : Int) + 1) := inG (by omega) (by omega)
  by_cases hob : o = b
  ·have : neB b o = false := by simp [neB,hob]
   rw [this] at hst
   simp at hst
   repeat' (first
    | simp [hlt,← ho,hob,ii]
    | refine ⟨wcS ?_,?_⟩
    | (refine WCall.pf (hlt) ?_ ?_ ?_ ?_;iterate 3 (solve|simp [hlt,← ho,hob,ii]))
    | with_reducible refine aI ?_ ?_ ?_)
   all_goals exact ⟨_,i + 1,(gr0 [0] hB0 (by simp [hst]) (by simp [hst]) (.inl (by simp [hst]))),by omega,rfl,by omega⟩
  ·have : neB b o = true := by simp [neB,hob]
   rw [this] at hst
   simp at hst
   repeat' (first
    | simp [hlt,← ho,hob,ii,hcap]
    | refine ⟨wcS ?_,?_⟩
    | (refine WCall.pf (hlt) ?_ ?_ ?_ ?_;iterate 3 (solve|simp [hlt,← ho,hob,ii,hcap]))
    | with_reducible refine aI ?_ ?_ ?_)
   all_goals exact ⟨_,i + 1,(gr0 [2] hB0 (by simp [hst]) (by simp [hst]) (.inl (by simp [hst]))),by omega,rfl,by omega⟩
 ·obtain rfl : i = l.length := by omega
  rw [List.take_length]
  simp
theorem rsamei_code : cfun Try.prog [] 17 = some ⟨(.seq (qR 0 [oX 4 (.mov (.k qF))]) (.seq (.seq (qR 1 [oM 6 0,oH 7 6,oM 8 1,oH 9 8,oX 10 (.bin .neq (.t 7) (.t 9))]) (.cond 10 (.seq (qR 2 [oX 4 (.mov (.k qF))]) .ret) .skip)) (.seq (.seq (qR 3 [oK 5 0]) (.block 0 (.loop (.seq (.seq (qR 4 [oM 11 5,oM 12 0,oH 13 12,oX 14 (.bin .lss (.t 11) (.t 13))]) (.cond 14 .skip (.exit 0))) (.seq (.block 1 (.seq (.draw 6 (qN (oM 17 0) (qN (oM 18 5) (qN (oI 19 1 17 18) (qN (oL 20 1 19) (qN (oM 21 1) (qN (oM 22 5) (qN (oI 23 1 21 22) (qN (oL 24 1 23) (qN (oX 25 (.bin .neq (.t 20) (.t 24))) .done)))))))))) (.cond 25 (.seq (qR 7 [oX 4 (.mov (.k qF))]) .ret) .skip))) (qR 5 [oM 15 5,oX 16 (.bin .add (.t 15) (kI 1)),oM 5 16])))))) (.seq (qR 8 [oX 4 (.mov (.k qT))]) .ret)))),[(.t 4)],26⟩ := by kernel_rfl
theorem rsamei_pf (l : List Int) (hl : l.length ≤ 1000000) : PF Try.prog 17 [.rows 1 (l.map fun c => [I c]),.rows 1 (l.map fun c => [I c])] (.bool true) := by
 refine pO rsamei_code [0,1,4,5,10,14,25] [] fun B hBN hB0 => ?_
 simp
 refine W.loopS (fun i : Nat => ⟨[(5,I i),(4,.bool false),(1,D.rows 1 (l.map fun c => [I c])),(0,D.rows 1 (l.map fun c => [I c]))],[],0⟩)
  (fun n i => n = l.length - i ∧ i ≤ l.length) ?_ ?_
 ·exact ⟨_,0,(gr0 [] hB0 (by simp) (by simp) (.inr rfl)),rfl,by simp⟩
 ·rintro n i ⟨hn,hi⟩
  refine acode_sound [0,1,4,5,10,14,25] [] _ _ _ ?_
  by_cases hlt : i < l.length
  ·have hi1 : InR ((i : Int) + 1) := inG (by omega) (by omega)
   simp [hlt,hi1]
   exact ⟨_,i + 1,(gr0 [] hB0 (by simp) (by simp) (.inr rfl)),by omega,rfl,by omega⟩
  ·simp [hlt]
theorem rsteady_code : cfun Try.prog [] 8 = some ⟨(.seq (qR 0 [oX 6 (.mov (.k qF))]) (.seq (qR 1 [oM 23 0,oX 24 (.call 9 [(.t 23)]),oM 22 24,oE 25 22 0,oE 26 22 1,oE 27 22 2,oX 7 (.alloc [.nil0]),oX 8 (.alloc [qZ,qZ,qZ,qZ,qZ,qZ,qZ,qZ,qZ,qZ,qZ,qZ]),oS 1 7 25,oS 12 8 26,oM 9 27]) (.seq (qR 2 [oM 28 1,oX 29 (.call 13 [(.t 28),(kI 12)]),oM 10 29]) (.seq (qR 3 [oM 30 2,oX 31 (.call 13 [(.t 30),(kI 4294967296)]),oM 11 31]) (.seq (qR 4 [oA 33 1 7,oM 34 11,oX 35 (.call 15 [(.t 33),(.t 34)]),oM 32 35,oE 36 32 0,oE 37 32 1,oM 12 36,oM 13 37]) (.seq (.seq (qR 5 [oM 38 9,oX 39 (.not (.t 38)),oM 40 39,oG 41 (.mov (.t 13)) 40 false,oG 42 (.bin .neq (.t 41) (kI 0)) 40 false,oX 43 (.pick (.t 40) (.k qT) (.t 42))]) (.cond 43 (.seq (qR 6 [oX 6 (.mov (.k qF))]) .ret) .skip)) (.seq (.seq (qR 7 [oM 44 10,oX 45 (.iada 12 1 (.t 8) (.t 44)),oL 46 1 45,oX 47 (.bin .eql (.t 46) (kI 0))]) (.cond 47 (.seq (qR 8 [oA 49 1 7,oM 50 10,oX 51 (.call 10 [(.t 49),(.t 50),(kI 3)]),oM 48 51,oE 52 48 0,oE 53 48 1,oX 14 (.alloc [.nil0]),oS 1 14 52,oM 15 53]) (.seq (qR 9 [oA 55 1 14,oM 56 11,oX 57 (.call 15 [(.t 55),(.t 56)]),oM 54 57,oE 58 54 0,oE 59 54 1,oM 16 58,oM 17 59]) (.seq (qR 10 [oM 60 15,oX 61 (.bin .eql (.t 60) (kI 0)),oM 62 61,oG 63 (.mov (.t 17)) 62 true,oG 64 (.bin .eql (.t 63) (kI 0)) 62 true,oX 65 (.pick (.t 62) (.t 64) (.k qF)),oM 66 65,oG 67 (.mov (.t 16)) 66 true,oG 68 (.len (.t 67)) 66 true,oG 69 (.mov (.t 12)) 66 true,oG 70 (.len (.t 69)) 66 true,oG 71 (.bin .add (.t 70) (kI 1)) 66 true,oG 72 (.bin .eql (.t 68) (.t 71)) 66 true,oX 73 (.pick (.t 66) (.t 72) (.k qF)),oM 74 73,oG 75 (.mov (.t 16)) 74 true,oG 76 (.mov (.t 10)) 74 true,oG 77 (.call 18 [(.t 75),(.t 76)]) 74 true,oG 78 (.mov (.t 12)) 74 true,oG 79 (.call 17 [(.t 77),(.t 78)]) 74 true,oX 80 (.pick (.t 74) (.t 79) (.k qF)),oM 6 80]) .ret))) .skip)) (.seq (qR 11 [oA 82 1 7,oM 83 10,oX 84 (.call 14 [(.t 82),(.t 83)]),oM 81 84,oE 85 81 0,oE 86 81 1,oX 18 (.alloc [.nil0]),oS 1 18 85,oM 19 86]) (.seq (qR 12 [oA 88 1 18,oM 89 11,oX 90 (.call 15 [(.t 88),(.t 89)]),oM 87 90,oE 91 87 0,oE 92 87 1,oM 20 91,oM 21 92]) (.seq (qR 13 [oM 93 19,oX 94 (.bin .eql (.t 93) (kI 0)),oM 95 94,oG 96 (.mov (.t 21)) 95 true,oG 97 (.bin .eql (.t 96) (kI 0)) 95 true,oX 98 (.pick (.t 95) (.t 97) (.k qF)),oM 99 98,oG 100 (.mov (.t 20)) 99 true,oG 101 (.len (.t 100)) 99 true,oG 102 (.mov (.t 12)) 99 true,oG 103 (.len (.t 102)) 99 true,oG 104 (.bin .sub (.t 103) (kI 1)) 99 true,oG 105 (.bin .eql (.t 101) (.t 104)) 99 true,oX 106 (.pick (.t 99) (.t 105) (.k qF)),oM 107 106,oG 108 (.mov (.t 20)) 107 true,oG 109 (.mov (.t 12)) 107 true,oG 110 (.mov (.t 10)) 107 true,oG 111 (.call 18 [(.t 109),(.t 110)]) 107 true,oG 112 (.call 17 [(.t 108),(.t 111)]) 107 true,oX 113 (.pick (.t 107) (.t 112) (.k qF)),oM 6 113]) .ret)))))))))),[(.t 6)],114⟩ := by kernel_rfl
theorem rsteady_pf (l : List (List Int)) (backend key : Int) (hl : l.length ≤ Go.maxLen) (hr : ∀ r ∈ l,r.length = 2 ∧ ∀ z ∈ r,InR z) (ib : InR backend) (ik : InR key) :
  PF Try.prog 8 [.rows 2 (l.map fun r => r.map I),I backend,I key] (.bool true) := by
 have hrg := ringed_pf l hl hr
 have hws : WOk (rgL l) := rgL_inv l 20
 generalize rgL l = ws at hrg hws
 have p1 := picked_pf backend 12 ib (by omega)
 have p2 := picked_pf key 4294967296 ik (by omega)
 have q1 := pickedZ_range backend 12 (by omega)
 have q2 := pickedZ_range key 4294967296 (by omega)
 obtain ⟨b,hb⟩ : ∃ b : Nat,pickedZ backend 12 = b := ⟨(pickedZ backend 12).toNat,by omega⟩
 rw [hb] at p1
 obtain ⟨k,hk⟩ : ∃ k,k = pickedZ key 4294967296 := ⟨_,rfl⟩
 rw [← hk] at p2 q2
 have hb12 : b < 12 := by omega
 have hl12 := hws.len
 have hs0 := spl12 hws.len
 have htw : (ws.map fun w : Nat => I (w : Int)).take 12 = ws.map fun w : Nat => I (w : Int) := List.take_of_length_le (by simp [hl12])
 have hb1 : (b : Int) < 12 := by omega
 have hb2 : b ≤ 11 := by omega
 have hb3 : 0 < 12 - b := by omega
 obtain ⟨w,hw⟩ : ∃ w,w = ws.getD b 0 := ⟨_,rfl⟩
 have hat0 : ws[b]'(by omega) = w := by
  rw [hw,zC,zE (by omega)];rfl
 have hat : ws[b]? = some w := by rw [zE (by omega),hat0]
 have hw8 : w ≤ 8 := hat0 ▸ hws.le _ (List.getElem_mem _)
 have hself : ws.set b w = ws := by rw [← hat0];exact List.set_getElem_self _
 have hwk := rwalk_pf ws hws k (by omega) (by omega)
 by_cases h0 : 0 < w
 ·have hrem := rrem_pf ws hws b w hb12 hw.symm h0
  have hwk2 := rwalk_pf (ws.set b 0) (hws.set b 0 (by omega)) k (by omega) (by omega)
  rw [walk_filter ws hws _ b hb12] at hwk2
  have hmem := (walkM_mem ws (keyN k.toNat : Nat) b hb12).2 (by omega)
  have hlen := filter_len (b : Int) _ (walkM_nodup ws (keyN k.toNat : Nat))
  rw [if_pos hmem] at hlen
  have hwl := walkM_len ws hws (keyN k.toNat : Nat)
  have hbd := walkM_bd ws (keyN k.toNat : Nat)
  generalize walkM ws (keyN k.toNat : Nat) = wk at hwk hwk2 hmem hlen hwl hbd
  have hpos : 0 < wk.length := List.length_pos_of_mem hmem
  have hwo := rwout_pf wk (b : Int) (by omega) (fun z hz => by have := hbd z hz;exact inG (by omega) (by omega))
  have hsi := rsamei_pf (wk.filter (neB b)) (by omega)
  have i1 : InR ((wk.length : Int) - 1) := inG (by omega) (by omega)
  have e1 : ((wk.filter (neB b)).length : Int) = (wk.length : Int) - 1 := by omega
  have h1 : ¬ w = 0 := by omega
  refine pO rsteady_code [0,1,2,6,7,8,9,10,11,12,13,14,15,16,17,18,19,20,21,43,47] [] fun B hBN hB0 => ?_
  repeat' (first
   | simp [hl12,hs0,htw,hat,hb1,hb2,hb3,h0,h1,i1,e1]
   | refine ⟨wcS ?_,?_⟩
   | (refine WCall.pf (hrg) ?_ ?_ ?_ ?_;iterate 3 (solve|simp [hl12,hs0,htw,hat,hb1,hb2,hb3,h0,h1,i1,e1]))
   | (refine WCall.pf (p1) ?_ ?_ ?_ ?_;iterate 3 (solve|simp [hl12,hs0,htw,hat,hb1,hb2,hb3,h0,h1,i1,e1]))
   | (refine WCall.pf (p2) ?_ ?_ ?_ ?_;iterate 3 (solve|simp [hl12,hs0,htw,hat,hb1,hb2,hb3,h0,h1,i1,e1]))
   | (refine WCall.pf (hwk) ?_ ?_ ?_ ?_;iterate 3 (solve|simp [hl12,hs0,htw,hat,hb1,hb2,hb3,h0,h1,i1,e1]))
   | (refine WCall.pf (hrem) ?_ ?_ ?_ ?_;iterate 3 (solve|simp [hl12,hs0,htw,hat,hb1,hb2,hb3,h0,h1,i1,e1]))
   | (refine WCall.pf (hwk2) ?_ ?_ ?_ ?_;iterate 3 (solve|simp [hl12,hs0,htw,hat,hb1,hb2,hb3,h0,h1,i1,e1]))
   | (refine WCall.pf (hwo) ?_ ?_ ?_ ?_;iterate 3 (solve|simp [hl12,hs0,htw,hat,hb1,hb2,hb3,h0,h1,i1,e1]))
   | (refine WCall.pf (hsi) ?_ ?_ ?_ ?_;iterate 3 (solve|simp [hl12,hs0,htw,hat,hb1,hb2,hb3,h0,h1,i1,e1]))
   | with_reducible refine aI ?_ ?_ ?_)
 ·obtain rfl : w = 0 := by omega
  have hadd := radd_pf ws hws b 3 hb12 (by omega) hw.symm
  have hws3 := hws.set b 3 (by omega)
  have hwk2 := rwalk_pf (ws.set b 3) hws3 k (by omega) (by omega)
  have hwf := walk_filter (ws.set b 3) hws3 (keyN k.toNat : Nat) b hb12
  rw [List.set_set,hself] at hwf
  have hmem := (walkM_mem (ws.set b 3) (keyN k.toNat : Nat) b hb12).2 (by rw [zC,List.getElem?_set_self (by omega)];decide)
  have hlen := filter_len (b : Int) _ (walkM_nodup (ws.set b 3) (keyN k.toNat : Nat))
  rw [if_pos hmem] at hlen
  have hwl := walkM_len (ws.set b 3) hws3 (keyN k.toNat : Nat)
  have hbd := walkM_bd (ws.set b 3) (keyN k.toNat : Nat)
  rw [hwf] at hwk
  generalize walkM (ws.set b 3) (keyN k.toNat : Nat) = wk at hwk hwk2 hmem hlen hwl hbd
  have hpos : 0 < wk.length := List.length_pos_of_mem hmem
  have hwo := rwout_pf wk (b : Int) (by omega) (fun z hz => by have := hbd z hz;exact inG (by omega) (by omega))
  have hsi := rsamei_pf (wk.filter (neB b)) (by omega)
  have i1 : InR (((wk.filter (neB b)).length : Int) + 1) := inG (by omega) (by omega)
  have e1 : (wk.length : Int) = ((wk.filter (neB b)).length : Int) + 1 := by omega
  refine pO rsteady_code [0,1,2,6,7,8,9,10,11,12,13,14,15,16,17,18,19,20,21,43,47] [] fun B hBN hB0 => ?_
  repeat' (first
   | simp [hl12,hs0,htw,hat,hb1,hb2,hb3,h0,i1,e1]
   | refine ⟨wcS ?_,?_⟩
   | (refine WCall.pf (hrg) ?_ ?_ ?_ ?_;iterate 3 (solve|simp [hl12,hs0,htw,hat,hb1,hb2,hb3,h0,i1,e1]))
   | (refine WCall.pf (p1) ?_ ?_ ?_ ?_;iterate 3 (solve|simp [hl12,hs0,htw,hat,hb1,hb2,hb3,h0,i1,e1]))
   | (refine WCall.pf (p2) ?_ ?_ ?_ ?_;iterate 3 (solve|simp [hl12,hs0,htw,hat,hb1,hb2,hb3,h0,i1,e1]))
   | (refine WCall.pf (hwk) ?_ ?_ ?_ ?_;iterate 3 (solve|simp [hl12,hs0,htw,hat,hb1,hb2,hb3,h0,i1,e1]))
   | (refine WCall.pf (hadd) ?_ ?_ ?_ ?_;iterate 3 (solve|simp [hl12,hs0,htw,hat,hb1,hb2,hb3,h0,i1,e1]))
   | (refine WCall.pf (hwk2) ?_ ?_ ?_ ?_;iterate 3 (solve|simp [hl12,hs0,htw,hat,hb1,hb2,hb3,h0,i1,e1]))
   | (refine WCall.pf (hwo) ?_ ?_ ?_ ?_;iterate 3 (solve|simp [hl12,hs0,htw,hat,hb1,hb2,hb3,h0,i1,e1]))
   | (refine WCall.pf (hsi) ?_ ?_ ?_ ?_;iterate 3 (solve|simp [hl12,hs0,htw,hat,hb1,hb2,hb3,h0,i1,e1]))
   | with_reducible refine aI ?_ ?_ ?_)
end Go.Proofs.Ytmdhegbdffbfoaa
