/- What the program computes, step by step, and the rules for it. No condition of its own. -/
import Derived.Test.YtmdhegbdffbfoaaRab
import Derived.Scope
import Derived.KernelRfl
import Derived.Maps.Keyed
import Derived.Maps.RangeRun
import Derived.MapKept
import Derived.Lib.AppendZerosOnto
import Derived.Laws.CopyRow
import Derived.Laws.IdiomCopy
import Derived.Lib.Overlaps
set_option linter.unusedSimpArgs false
set_option linter.unusedVariables false
set_option maxRecDepth 100000
set_option maxHeartbeats 8000000
namespace Go.Proofs.Ytmdhegbdffbfoaa
open Go.RowKit
theorem leC_refl (d : D) : leC d d := by cases d <;> rfl
theorem leL_refl : ∀ (ds : List D),leL ds ds
 | [] => trivial
 | d :: ds => ⟨leC_refl d,leL_refl ds⟩
section
variable {P : Program} {sb : Bool} {B : Base} {w w' : World} {s s' : Nat → Value} {Z Z' : Cells} {st : St} {a : Act} {o : Oper} {K : St → Prop} {K' : Act → World → Prop} {Q : Exit → Act → World → Prop}
theorem cop_callv {o : Op} {x : Opd} {as_ : List Opd} (hc : cop P o = some (.callv x as_)) : ∃ c t,o = .call c ∧ x = .t t ∧ c.callee = .value (.tmp t) ∧ opdsC c.args.toList = some as_ := by
 by_cases hl : opLoud o
 ·cases o with
  | call c =>
   simp only [cop] at hc
   split at hc
   ·rename_i g hg
    split at hc <;> simp at hc
    rename_i t ys hys
    obtain ⟨rfl,rfl⟩ := hc
    exact ⟨c,t,rfl,rfl,hg,hys⟩
   ·rename_i b hb
    split at hc
    ·split at hc <;> (try split at hc) <;> simp at hc
    ·simp at hc
    ·simp at hc
    ·split at hc
     ·split at hc
      ·split at hc
       ·split at hc <;> simp at hc
       ·cases hc
      ·cases hc
     ·cases hc
    ·cases hc
   ·cases hc
  | alloc t => simp [cop] at hc
  | box t x => simp [cop] at hc
  | store t x y => simp only [cop] at hc;split at hc <;> simp at hc
  | buildSlice t n qs =>
   simp only [cop] at hc
   split at hc
   ·split at hc
    ·split at hc <;> simp at hc
    ·cases hc
   ·cases hc
  | makeSlice t l c =>
   simp only [cop] at hc
   split at hc
   ·split at hc
    ·split at hc <;> simp at hc
    ·cases hc
   ·cases hc
  | _ => exact hl.elim
 ·have := cop_quiet hl hc
  cases this
theorem WCall.ofv {x : Opd} {f : FuncId} {as_ : List Opd} {cs : List D} {dst : Option Nat} (hok : oks st.env (.callv x as_) = true) (hf : evS st.env x = .fn f cs) (hc : CallOk P sb B f (as_.map (evS st.env) ++ cs) dst st K) : WCall P sb B (.callv x as_) dst st K := by
 intro o s Z a w K' Q hcop hd hdst h hG
 obtain ⟨hcal,hc⟩ := hc
 obtain ⟨⟨cal,ars,ats⟩,t,ho,rfl,hcl,hys⟩ := cop_callv hcop
 obtain ⟨ars⟩ := ars
 simp only at hcl hys
 subst hcl
 obtain ⟨g1,g2⟩ := args_sound h hys (fun y hy => oks_mem hok (List.mem_cons_of_mem _ hy))
 have hvf := h.vr (x := .tmp t) (y := .t t) rfl (oks_mem hok (by simp [opnds]))
 rw [hf] at hvf
 generalize hav : a.eval (.tmp t) = fv at hvf
 cases hvf with
 | fn _ _ us hul huc =>
 have hcalls := hc s Z w ((ars.map a.eval).toArray ++ us) h.h (by simp [g1,hul]) (fun j x hx => by
  rw [Array.getD_eq_getD_getElem?]
  by_cases hj : j < as_.length
  ·rw [List.getElem?_append_left (by simpa using hj)] at hx
   rw [Array.getElem?_append_left (by simp;omega)]
   simpa using g2 j x hx
  ·rw [List.getElem?_append_right (by simpa using hj)] at hx
   rw [Array.getElem?_append_right (by simp;omega)]
   have := huc _ x hx
   rw [Array.getD_eq_getD_getElem?] at this
   simp only [List.length_map,List.size_toArray] at this ⊢
   rw [← g1]
   exact VR.of_vc (VC.of_vt this))
 refine wp_enter (f := f) (vs := (ars.map a.eval).toArray ++ us) ?_ (hcalls.mono fun e w' ⟨v,he,hbl,hL⟩ => ⟨v,he,goes_call h (by rw [hd];exact hdst) hbl (by rw [hd];exact hL) hG⟩)
 unfold execOp;rw [ho]
 have := callFunc_run (P := P) (w := w) hcal ((ars.map a.eval).toArray ++ us)
 simpa [resolve,invoke,hav,Deferred.ofValue] using this
end
section
variable {P : Program} {B : Base} {hw : List FuncId} {Q Q' : Ex → St → Prop} {st st1 : St} {s : Nat → Value} {Z : Cells} {a : Act} {w : World}
theorem W.gh {c : AC} (hg : Gh B st st1) (h : W P B hw c Q st1) : W P B hw c Q st := fun hm code hc s Z a w hr => by
 obtain ⟨s',Z',hr'⟩ := hg s Z a w hr
 exact h hm code hc s' Z' a w hr'
end
def hkeep (ids : List Nat) : List (Nat × Ob) → List (Nat × Ob)
 | [] => []
 | (k,o) :: t => if ids.contains k then (k,o) :: hkeep ids t else hkeep ids t
def hdrop (ids : List Nat) : List (Nat × Ob) → List (Nat × Ob)
 | [] => []
 | (k,o) :: t => if ids.contains k then hdrop ids t else (k,o) :: hdrop ids t
theorem hget_hkeep (ids : List Nat) (id : Nat) : ∀ H,hget (hkeep ids H) id = if ids.contains id then hget H id else none
 | [] => by simp [hkeep,hget]
 | (k,o) :: t => by
  simp only [hkeep]
  split
  ·rename_i hk
   simp only [hget,hget_hkeep ids id t]
   by_cases h : id = k
   ·subst h;rw [if_pos rfl,if_pos hk,if_pos rfl]
   ·rw [if_neg h,if_neg h]
  ·rename_i hk
   rw [hget_hkeep ids id t]
   by_cases h : id = k
   ·subst h;rw [if_neg hk,if_neg hk]
   ·simp only [hget,if_neg h]
theorem hget_hdrop (ids : List Nat) (id : Nat) : ∀ H,hget (hdrop ids H) id = if ids.contains id then none else hget H id
 | [] => by simp [hdrop,hget]
 | (k,o) :: t => by
  simp only [hdrop]
  split
  ·rename_i hk
   rw [hget_hdrop ids id t]
   by_cases h : id = k
   ·subst h;rw [if_pos hk,if_pos hk]
   ·simp only [hget,if_neg h]
  ·rename_i hk
   simp only [hget,hget_hdrop ids id t]
   by_cases h : id = k
   ·subst h;rw [if_pos rfl,if_neg hk,if_pos rfl]
   ·rw [if_neg h,if_neg h]
def fzC (H : List (Nat × Ob)) (d : D) : D := match brwC H 4 d with | some e => e | none => d
def fzV (H : List (Nat × Ob)) : D → D
 | .agg ds => .agg (ds.map (fzC H))
 | d => fzC H d
def fzR (H : List (Nat × Ob)) : D → D
 | .tup ds => .tup (ds.map (fzV H))
 | .any => .any
 | d => fzV H d
def fzS (H : List (Nat × Ob)) : D → D
 | .opt g d => .opt g (fzR H d)
 | d => fzR H d
def fzO (H : List (Nat × Ob)) : Ob → Ob
 | .cells ds => .cells (ds.map (fzC H))
 | .rowd sz xs => .rowd sz (xs.map (List.map (fzC H)))
 | o => o
def freeze (ids : List Nat) (st : St) : St :=
 ⟨st.env.map fun p => (p.1,fzS (hkeep ids st.heap) p.2),(hdrop ids st.heap).map fun p => (p.1,fzO (hkeep ids st.heap) p.2),st.nx⟩
theorem eget_map (f : D → D) (hf : f .any = .any) (k : Nat) : ∀ (l : List (Nat × D)),eget (l.map fun p => (p.1,f p.2)) k = f (eget l k)
 | [] => by simp [eget,hf]
 | (j,d) :: t => by
  simp only [List.map_cons,eget]
  split
  ·rfl
  ·exact eget_map f hf k t
theorem hget_map (f : Ob → Ob) (k : Nat) : ∀ (l : List (Nat × Ob)),hget (l.map fun p => (p.1,f p.2)) k = (hget l k).map f
 | [] => rfl
 | (j,d) :: t => by
  simp only [List.map_cons,hget]
  split
  ·rfl
  ·exact hget_map f k t
theorem VT.ltN {Z : Cells} {d : D} {v : Value} (n : Nat) (h : VT Z d v) : LtC n d := by cases h <;> trivial
theorem VC.vt_agg {s : Nat → Value} {Z : Cells} {ds : List D} {v : Value} (h : VC s Z (.agg ds) v) : False := by cases h
theorem VC.vt_tup {s : Nat → Value} {Z : Cells} {ds : List D} {v : Value} (h : VC s Z (.tup ds) v) : False := by cases h
theorem RowOk.map {R R' : D → Value → Prop} {w : World} {sz : Nat} {xs : List (List D)} {v : Value} (f : D → D) (h : RowOk R w sz xs v) (hR : ∀ row ∈ xs,∀ d ∈ row,∀ u,R d u → R' (f d) u) : RowOk R' w sz (xs.map (List.map f)) v := by
 obtain ⟨h1,h2,h3⟩ := h
 refine ⟨h1,fun row hr => ?_,?_⟩
 ·obtain ⟨r,hr',rfl⟩ := List.mem_map.1 hr
  simpa using h2 r hr'
 ·rcases h3 with ⟨rfl,a,h4⟩ | ⟨g,cap,cur,e,h3,h4,h5,h6,h7,h8⟩
  ·exact .inl ⟨rfl,a,h4⟩
  ·refine .inr ⟨g,cap,cur,e,by simpa using h3,h4,by simpa using h5,h6,h7,fun i row j d hi hj => ?_⟩
   obtain ⟨r,hr',rfl⟩ := (map_get _ _ _ _).1 hi
   obtain ⟨x,hx,rfl⟩ := (map_get _ _ _ _).1 hj
   exact hR r (zD hr') x (zD hx) _ (h8 i r j x hr' hx)
section
variable {B : Base} {st : St}
theorem Gh.freeze (ids : List Nat) : Gh B st (freeze ids st) := by
 intro s Z a w hr
 obtain ⟨Hf,hHf⟩ : ∃ Hf,Hf = hkeep ids st.heap := ⟨_,rfl⟩
 have hsub : ∀ id ob,hget Hf id = some ob → hget st.heap id = some ob ∧ ids.contains id = true := fun id ob h => by
  rw [hHf,hget_hkeep] at h
  split at h
  ·rename_i hc;exact ⟨h,hc⟩
  ·cases h
 have hknow : Know s Z Hf w := ⟨fun id ob h => hr.h.ob id ob (hsub id ob h).1,hr.h.zok⟩
 classical
 let Zp : Cells := fun b o => if ∃ id ob,hget Hf id = some ob ∧ blk (s id) = some b then w.cell? ⟨b,o,none⟩ else Z b o
 have hz : ∀ b o v,Z b o = some v → Zp b o = some v := fun b o v hv => by
  show (if _ then _ else _) = _
  split
  ·rename_i h
   obtain ⟨id,ob,h1,h2⟩ := h
   have := hr.h.zap id ob b o (hsub id ob h1).1 h2
   rw [this] at hv;cases hv
  ·exact hv
 have hp : ∀ id ob b,hget Hf id = some ob → blk (s id) = some b → ∀ o v,w.cell? ⟨b,o,none⟩ = some v → Zp b o = some v := fun id ob b h1 h2 o v hv => by
  show (if _ then _ else _) = _
  rw [if_pos ⟨id,ob,h1,h2⟩];exact hv
 have kC : ∀ d v,LtC st.nx d → VC s Z d v → VC s Zp (fzC Hf d) v ∧ LtC st.nx (fzC Hf d) := fun d v hl hv => by
  unfold fzC
  cases hb : brwC Hf 4 d with
  | some e =>
   have := brwC_sound hknow hz hp 4 d e v hb hv
   exact ⟨VC.of_vt this,VT.ltN _ this⟩
  | none => exact ⟨VC.mono hz (fun _ _ => rfl) hl hv,hl⟩
 have toV : ∀ e v,VC s Zp e v → LtC st.nx e → VV s Zp e v ∧ LtV st.nx e := fun e v h1 h2 => by
  refine ⟨VV.of_vc h1,?_⟩
  cases e <;> first | exact h2 | exact (VC.vt_agg (s := s) (Z := Zp) h1).elim
 have kV : ∀ d v,LtV st.nx d → VV s Z d v → VV s Zp (fzV Hf d) v ∧ LtV st.nx (fzV Hf d) := fun d v hl hv => by
  have one : LtC st.nx d → VC s Z d v → VV s Zp (fzC Hf d) v ∧ LtV st.nx (fzC Hf d) := fun h1 h2 => by
   obtain ⟨g1,g2⟩ := kC d v h1 h2
   exact toV _ _ g1 g2
  cases d with
  | agg ds =>
   obtain ⟨vs,rfl,h1,h2⟩ := hv
   refine ⟨⟨vs,rfl,by simpa using h1,fun j x hx => ?_⟩,fun x hx => ?_⟩
   ·obtain ⟨y,hy,rfl⟩ := (map_get _ _ _ _).1 hx
    exact (kC y _ (hl y (zD hy)) (h2 j y hy)).1
   ·obtain ⟨y,hy,rfl⟩ := List.mem_map.1 hx
    obtain ⟨j,hj⟩ := zF hy
    exact (kC y _ (hl y hy) (h2 j y hj)).2
  | _ => exact one hl hv
 have toR : ∀ e v,VV s Zp e v → LtV st.nx e → VR s Zp e v ∧ LtR st.nx e := fun e v h1 h2 => by
  refine ⟨VR.of_vv h1,?_⟩
  cases e <;> first | exact h2 | exact (VC.vt_tup (s := s) (Z := Zp) h1).elim
 have kR : ∀ d v,LtR st.nx d → VR s Z d v → VR s Zp (fzR Hf d) v ∧ LtR st.nx (fzR Hf d) := fun d v hl hv => by
  have one : LtV st.nx d → VV s Z d v → VR s Zp (fzV Hf d) v ∧ LtR st.nx (fzV Hf d) := fun h1 h2 => by
   obtain ⟨g1,g2⟩ := kV d v h1 h2
   exact toR _ _ g1 g2
  cases d with
  | tup ds =>
   obtain ⟨vs,rfl,h1,h2⟩ := hv
   refine ⟨⟨vs,rfl,by simpa using h1,fun j x hx => ?_⟩,fun x hx => ?_⟩
   ·obtain ⟨y,hy,rfl⟩ := (map_get _ _ _ _).1 hx
    exact (kV y _ (hl y (zD hy)) (h2 j y hy)).1
   ·obtain ⟨y,hy,rfl⟩ := List.mem_map.1 hx
    obtain ⟨j,hj⟩ := zF hy
    exact (kV y _ (hl y hy) (h2 j y hj)).2
  | any => exact ⟨trivial,trivial⟩
  | _ => exact one hl hv
 have kS : ∀ d v,LtS st.nx d → VS s Z d v → VS s Zp (fzS Hf d) v ∧ LtS st.nx (fzS Hf d) := fun d v hl hv => by
  have one : LtR st.nx d → VR s Z d v → VS s Zp (fzR Hf d) v ∧ LtS st.nx (fzR Hf d) := fun h1 h2 => by
   obtain ⟨g1,g2⟩ := kR d v h1 h2
   exact ⟨VS.of_vr g1,LtS.of_r g2 (VR.no_opt g1)⟩
  cases d with
  | opt g d => exact ⟨⟨fun hg => (kR d v (hl hg) (hv.1 hg)).1,hv.2⟩,fun hg => (kR d v (hl hg) (hv.1 hg)).2⟩
  | _ => exact one hl hv
 have hgo : ∀ id ob,hget (Go.Proofs.Ytmdhegbdffbfoaa.freeze ids st).heap id = some ob → ∃ ob0,hget st.heap id = some ob0 ∧ ids.contains id = false ∧ ob = fzO Hf ob0 := fun id ob h => by
  have h : hget ((hdrop ids st.heap).map fun p => (p.1,fzO (hkeep ids st.heap) p.2)) id = some ob := h
  rw [hget_map,hget_hdrop,← hHf] at h
  cases hc : ids.contains id with
  | true => rw [if_pos hc] at h;cases h
  | false =>
   rw [if_neg (by rw [hc];exact Bool.false_ne_true)] at h
   cases hq : hget st.heap id with
   | none => rw [hq] at h;cases h
   | some ob0 =>
    rw [hq] at h
    simp only [Option.map_some,zA] at h
    exact ⟨ob0,rfl,rfl,h.symm⟩
 refine ⟨s,Zp,⟨fun k => ?_,fun k => ?_,hr.size,hr.defers,?_⟩⟩
 ·show VS s Zp (eget (st.env.map fun p => (p.1,fzS (hkeep ids st.heap) p.2)) k) _
  rw [eget_map _ rfl,← hHf]
  exact (kS _ _ (hr.elt k) (hr.env k)).1
 ·show LtS st.nx (eget (st.env.map fun p => (p.1,fzS (hkeep ids st.heap) p.2)) k)
  rw [eget_map _ rfl,← hHf]
  exact (kS _ _ (hr.elt k) (hr.env k)).2
 ·constructor
  ·intro id ob h
   obtain ⟨ob0,h1,h2,rfl⟩ := hgo id ob h
   have h3 := hr.h.ob id ob0 h1
   have h4 := (hr.h.lt id ob0 h1).2
   cases ob0 with
   | cells ds =>
    obtain ⟨b,T,cs,g1,g2,g3,g4⟩ := h3
    refine ⟨b,T,cs,g1,g2,by simpa using g3,fun j x hx => ?_⟩
    obtain ⟨y,hy,rfl⟩ := (map_get _ _ _ _).1 hx
    exact (kC y _ (h4 y (zD hy)) (g4 j y hy)).1
   | row sz xs => exact RowOk.mono h3 (fun _ _ => rfl) (fun _ _ _ _ _ h => VT.mono hz h)
   | rowd sz xs => exact RowOk.map _ h3 fun row hrow d hd u hu => (kC d u (h4 row hrow d hd) hu).1
   | blk sz xs => exact BlkOk.mono h3 (fun _ _ => rfl) (fun row hrow d hd u hu => VC.mono hz (fun _ _ => rfl) (h4 row hrow d hd) hu)
   | mp bare es ck => exact h3
   | it m since seen last => exact h3
  ·intro id ob h
   obtain ⟨ob0,h1,h2,rfl⟩ := hgo id ob h
   have h3 := hr.h.ob id ob0 h1
   have h4 := hr.h.lt id ob0 h1
   refine ⟨h4.1,?_⟩
   cases ob0 with
   | cells ds =>
    obtain ⟨b,T,cs,g1,g2,g3,g5⟩ := h3
    intro x hx
    obtain ⟨y,hy,rfl⟩ := List.mem_map.1 hx
    obtain ⟨j,hj⟩ := zF hy
    exact (kC y _ (h4.2 y hy) (g5 j y hj)).2
   | row sz xs => trivial
   | rowd sz xs =>
    intro row hrow x hx
    obtain ⟨r,hr',rfl⟩ := List.mem_map.1 hrow
    obtain ⟨y,hy,rfl⟩ := List.mem_map.1 hx
    rcases h3.2.2 with ⟨rfl,_⟩ | ⟨g,cap,cur,e,_,_,_,_,_,h8⟩
    ·cases hr'
    ·obtain ⟨i,hi⟩ := zF hr'
     obtain ⟨j,hj⟩ := zF hy
     exact (kC y _ (h4.2 r hr' y hy) (h8 i r j y hi hj)).2
   | blk sz xs => exact h4.2
   | mp bare es ck => trivial
   | it m since seen last => exact h4.2
  ·intro id id' ob ob' b h h' hne hb
   obtain ⟨o1,h1,_,_⟩ := hgo id ob h
   obtain ⟨o2,h2,_,_⟩ := hgo id' ob' h'
   exact hr.h.apart id id' o1 o2 b h1 h2 hne hb
  ·intro b o v hv
   have hv : (if ∃ id ob,hget Hf id = some ob ∧ blk (s id) = some b then w.cell? ⟨b,o,none⟩ else Z b o) = some v := hv
   split at hv
   ·exact hv
   ·exact hr.h.zok b o v hv
  ·intro id ob b o h hb
   obtain ⟨o1,h1,h2,_⟩ := hgo id ob h
   show (if _ then _ else _) = _
   rw [if_neg,hr.h.zap id o1 b o h1 hb]
   rintro ⟨id',ob',h3,h4⟩
   obtain ⟨h5,h6⟩ := hsub id' ob' h3
   refine hr.h.apart id id' o1 ob' b h1 h5 ?_ hb h4
   rintro rfl
   rw [h2] at h6;cases h6
  ·intro id ob b h hb
   obtain ⟨o1,h1,_,_⟩ := hgo id ob h
   exact hr.h.mine id o1 b h1 hb
  ·exact hr.h.fr
  ·exact hr.h.n0
  ·exact hr.h.bs
  ·exact fun b o v hv => hz b o v (hr.h.bz b o v hv)
  ·intro b o v hv
   have hv : (if ∃ id ob,hget Hf id = some ob ∧ blk (s id) = some b then w.cell? ⟨b,o,none⟩ else Z b o) = some v := hv
   split at hv
   ·rename_i h
    obtain ⟨id,ob,h1,h2⟩ := h
    exact .inr (hr.h.mine id ob b (hsub id ob h1).1 h2)
   ·exact hr.h.bn b o v hv
theorem W.freeze {P : Program} {hw : List FuncId} {c : AC} {Q : Ex → St → Prop} (ids : List Nat) (h : W P B hw c Q (Go.Proofs.Ytmdhegbdffbfoaa.freeze ids st)) : W P B hw c Q st := W.gh (Gh.freeze ids) h
end
theorem opdsC_one : ∀ {l : List Operand} {a : Opd},opdsC l = some [a] → ∃ x,l = [x] ∧ opdC x = some a
 | [],a,h => by simp [opdsC] at h
 | x :: l,a,h => by
  simp only [opdsC] at h
  split at h <;> simp at h
  rename_i y ys h1 h2
  obtain ⟨rfl,rfl⟩ := h
  match l,h2 with
  | [],_ => exact ⟨x,rfl,h1⟩
  | z :: l,h2 =>
   simp only [opdsC] at h2
   split at h2 <;> simp at h2
section
variable {P : Program}
end
section
variable {P : Program}
theorem xcop_call {o : Op} {k : Nat} {ns : List Nat} {xs : List Opd} (hk : 8 ≤ k) (h : xcop P o = some (.xop k ns xs)) : ∃ c,o = .call c := by
 unfold xcop at h
 split at h
 case h_8 => cases h
 case h_7 => exact ⟨_,rfl⟩
 all_goals
  exfalso
  (repeat' split at h) <;> simp at h <;> omega
theorem xcop_10 {o : Op} {n : Nat} {xs : List Opd} (h : xcop P o = some (.xop 10 [n] xs)) : ∃ c t e z x X,o = .call c ∧ c.callee = .builtin .clear ∧ c.args.toList = [x] ∧ c.argTypes.toList = [t] ∧ sliceT P t = some e ∧ szT P e = some n ∧ zeroT P e = some z ∧ opdC x = some X ∧ xs = [X] := by
 obtain ⟨c,rfl⟩ := xcop_call (by omega) h
 simp only [xcop] at h
 split at h
 case h_5 =>
  rename_i hcal
  split at h
  ·rename_i X t hargs hat
   split at h
   ·rename_i e he
    split at h
    ·rename_i n' z hn hz
     simp at h
     obtain ⟨x,h1,h2⟩ := opdsC_one hargs
     obtain ⟨rfl,g2⟩ := h
     exact ⟨c,t,e,z,x,X,rfl,hcal,h1,hat,he,hn,hz,h2,g2.symm⟩
    ·simp at h
   ·simp at h
  ·simp at h
 all_goals
  exfalso
  (repeat' split at h) <;> simp at h
end
section
variable {P : Program} {B : Base} {s : Nat → Value} {Z : Cells} {H : List (Nat × Ob)} {nx : Nat} {w : World}
theorem blk_at {id sz : Nat} {xs : List (List D)} (h : RelH B s Z H nx w) (hh : hget H id = some (.blk sz xs)) {off len cap : Nat} {sz' : Nat} {v : Value} (hv : VC s Z (.sl id sz' off len cap) v) :
  ∃ g n cur e o,s id = .slice (some ⟨g,0,none⟩) n xs.length ∧ blk (s id) = some g ∧ w.heap[g]? = some (.cells cur e (0,0)) ∧ cur.size = xs.length * sz ∧ v = .slice (some ⟨g,o,none⟩) len cap ∧ (0 < cap → o = off * sz') ∧ len ≤ cap ∧ off + cap ≤ xs.length ∧ BlkOk (VC s Z) w sz xs (s id) := by
 have ho := h.ob _ _ hh
 obtain ⟨b,n',c',o,h1,h2,h3,h4,h5⟩ := hv
 obtain ⟨g1,g2,g,n,cur,e,g3,g4,g5,g6,g7,g8⟩ := (show BlkOk (VC s Z) w sz xs (s id) from ho)
 rw [h1] at g3
 simp only [Value.slice.injEq,zA,Addr.mk.injEq,and_true] at g3
 obtain ⟨rfl,rfl,rfl⟩ := g3
 exact ⟨b,n',cur,e,o,h1,by rw [h1];simp only [blk];rw [if_neg (by omega)],g4,g7,h2,h3,h4,h5,ho⟩
theorem BlkOk.paste {sz : Nat} {xs : List (List D)} {v : Value} (h : BlkOk (VC s Z) w sz xs v) {g : Nat} (hg : Go.Proofs.Ytmdhegbdffbfoaa.blk v = some g) {off : Nat} {ys : List (List D)} {news : List Value} (hl : news.length = ys.length * sz) (hfit : off + ys.length ≤ xs.length)
  (hrow : ∀ row ∈ ys,row.length = sz) (hn : ∀ i row j d,ys[i]? = some row → row[j]? = some d → d ≠ .any → VC s Z d (news.getD (i * sz + j) undef)) :
  BlkOk (VC s Z) (w.setCells g (off * sz) news) sz (xs.take off ++ ys ++ xs.drop (off + ys.length)) v := by
 obtain ⟨h1,h2,g',n,cur,e,rfl,h4,h5,h6,h7,h8⟩ := h
 have hgg : g' = g := by simp only [Go.Proofs.Ytmdhegbdffbfoaa.blk] at hg;rw [if_neg (by omega)] at hg;exact Option.some.inj hg
 subst hgg
 have hfit' : off * sz + news.length ≤ cur.size := by rw [hl,h7,← Nat.add_mul];exact Nat.mul_le_mul_right _ hfit
 obtain ⟨cs',g1,g2,g3⟩ := heap_setCells g' e news (off * sz) w cur h4 hfit'
 have hlen : (xs.take off ++ ys ++ xs.drop (off + ys.length)).length = xs.length := by simp;omega
 refine ⟨h1,fun row hr => ?_,g',n,cs',e,by rw [hlen],g1,by rw [hlen];exact h5,by rw [hlen];exact h6,by rw [g2,hlen,h7],fun i row j d hi hj hd => ?_⟩
 ·rcases List.mem_append.1 hr with hr | hr
  ·rcases List.mem_append.1 hr with hr | hr
   ·exact h2 row (List.mem_of_mem_take hr)
   ·exact hrow row hr
  ·exact h2 row (List.mem_of_mem_drop hr)
 ·rw [g3]
  rw [List.append_assoc] at hi
  by_cases c1 : i < off
  ·rw [List.getElem?_append_left (by simp;omega),List.getElem?_take,if_pos c1] at hi
   have hjl : j < sz := by
    have := (zB.1 hj).1
    rwa [h2 _ (zD hi)] at this
   have : (i + 1) * sz ≤ off * sz := Nat.mul_le_mul_right _ c1
   rw [Nat.add_mul,Nat.one_mul] at this
   rw [if_neg (by omega)]
   exact h8 i row j d hi hj hd
  ·rw [List.getElem?_append_right (by simp;omega),List.length_take,Nat.min_eq_left (by omega)] at hi
   by_cases c2 : i < off + ys.length
   ·rw [List.getElem?_append_left (by omega)] at hi
    have hjl : j < sz := by
     have := (zB.1 hj).1
     rwa [hrow _ (zD hi)] at this
    have e1 : i * sz = off * sz + (i - off) * sz := by rw [← Nat.add_mul];congr 1;omega
    have : (i - off + 1) * sz ≤ ys.length * sz := Nat.mul_le_mul_right _ (by omega)
    rw [Nat.add_mul,Nat.one_mul] at this
    rw [if_pos (by rw [hl];omega)]
    have := hn _ row j d hi hj hd
    rwa [show i * sz + j - off * sz = (i - off) * sz + j by omega]
   ·rw [List.getElem?_append_right (by omega),List.getElem?_drop] at hi
    have e2 : off + ys.length + (i - off - ys.length) = i := by omega
    rw [e2] at hi
    have : (off + ys.length) * sz ≤ i * sz := Nat.mul_le_mul_right _ (by omega)
    rw [Nat.add_mul] at this
    rw [if_neg (by rw [hl];omega)]
    exact h8 i row j d hi hj hd
theorem paste_lt {sz off : Nat} {xs ys : List (List D)} (h1 : ∀ row ∈ xs,∀ d ∈ row,LtC nx d) (h2 : ∀ row ∈ ys,∀ d ∈ row,LtC nx d) : LtO nx (.blk sz (xs.take off ++ ys ++ xs.drop (off + ys.length))) := by
 intro row hr d hd
 rcases List.mem_append.1 hr with hr | hr
 ·rcases List.mem_append.1 hr with hr | hr
  ·exact h1 row (List.mem_of_mem_take hr) d hd
  ·exact h2 row hr d hd
 ·exact h1 row (List.mem_of_mem_drop hr) d hd
end
section
variable {P : Program} {sb : Bool} {B : Base} {st : St} {K : St → Prop} {dst : Option Nat} {X Y : Opd} {id sz off len cp : Nat}
theorem store_run {b o : Nat} {vs : List Value} {w : World} {cur : Array Value} {e : TypeId} (hb : w.heap[b]? = some (.cells cur e (0,0))) (hl : vs ≠ [] → o + vs.length ≤ cur.size) (h1 : ∀ u ∈ vs,u.oneCell' = true) :
  (storeCells ⟨b,o,none⟩ vs 0).run P w = .ok () (w.setCells b o vs) := by
 by_cases hv : vs = []
 ·subst hv;rfl
 ·have hl := hl hv
  have := run_storeCells_cells (P := P) b o vs 0 w (fun j hj => by
   rw [cell_of_row w b _ cur e (0,0) hb];simp;omega) (fun j hj => frozen_of_row w b _ cur e hb) h1
  simpa using this
end
def anyRow (sz : Nat) : List D := List.replicate sz .any
theorem zero_one {P : Program} {e : TypeId} {z : List D} (h : zeroT P e = some z) : ∃ i v,P.info? e = some i ∧ i.zero = some v ∧ i.size = z.length ∧ v.cells.size = z.length ∧ ∀ u ∈ v.cells.toList,u.oneCell' = true := by
 obtain ⟨i,v,h1,h2,h3,h4,h5⟩ := zeroT_sound (s := s0) (Z := fun _ _ => none) h
 refine ⟨i,v,h1,h2,h3,h4,fun u hu => ?_⟩
 obtain ⟨j,hj⟩ := zF hu
 have hjl : j < z.length := by
  have := (zB.1 hj).1
  rw [← h4];simpa using this
 have := h5 j z[j] (zE hjl)
 have e1 : v.cells.getD j undef = u := by
  rw [Array.getD_eq_getD_getElem?,← Array.getElem?_toList,hj];rfl
 rw [e1] at this
 exact VC.one this
theorem zeroCells_one {z : Array Value} {n : Nat} (h : ∀ u ∈ z.toList,u.oneCell' = true) : ∀ u ∈ (Builtin.zeroCells z n).toList,u.oneCell' = true := by
 intro u hu
 simp only [Builtin.zeroCells,Array.toList_map,Array.toList_range,List.mem_map,List.mem_range] at hu
 obtain ⟨i,hi,rfl⟩ := hu
 have h0 : 0 < z.size := by
  rcases Nat.eq_zero_or_pos z.size with h0 | h0
  ·rw [h0] at hi;simp at hi
  ·exact h0
 have : i % z.size < z.size := Nat.mod_lt _ h0
 rw [getElem!_pos z _ this]
 exact h _ (by simp)
theorem anyRow_ne {sz n : Nat} {i j : Nat} {row : List D} {d : D} (hi : (List.replicate n (anyRow sz))[i]? = some row) (hj : row[j]? = some d) : d = .any := by
 have h1 := List.eq_of_mem_replicate (zD hi)
 subst h1
 exact List.eq_of_mem_replicate (zD hj)
theorem anyRow_lt {sz n nx : Nat} : ∀ row ∈ List.replicate n (anyRow sz),∀ d ∈ row,LtC nx d := by
 intro row hr d hd
 have h1 := List.eq_of_mem_replicate hr
 subst h1
 have h2 := List.eq_of_mem_replicate hd
 subst h2
 trivial
section
variable {P : Program} {sb : Bool} {B : Base} {st : St} {K : St → Prop} {dst : Option Nat} {X Y : Opd} {id sz off len cp : Nat}
theorem XCall.clear {xs : List (List D)} (hok : oks st.env (.xop 10 [sz] [X]) = true) (hsb : sb = false) (hx : evS st.env X = .sl id sz off len cp) (hh : hget st.heap id = some (.blk sz xs))
  (h : K ⟨putO st.env dst .any,eput st.heap id (.blk sz (xs.take off ++ List.replicate len (anyRow sz) ++ xs.drop (off + (List.replicate len (anyRow sz)).length))),st.nx⟩) : XCall P sb B (.xop 10 [sz] [X]) dst st K := by
 intro o s Z a w K' Q hxc hd hdst hr hG
 subst hd
 obtain ⟨c,t,e,z,x,X',ho,hcal,hargs,hat,ht,hn,hz,h1,hxs⟩ := xcop_10 hxc
 simp only [List.cons.injEq,and_true] at hxs
 subst hxs
 have hv := hr.vr h1 (oks_mem hok (by simp [opnds]))
 rw [hx] at hv
 obtain ⟨g,n',cur,e',q,k1,k2,k3,k4,k5,k6,k7,k8,k9⟩ := blk_at hr.h hh hv
 obtain ⟨i,zv,hi,hz1,hz2,hz3,hz4⟩ := zero_one hz
 have hsz : z.length = sz := by
  unfold szT at hn
  rw [hi] at hn
  simp only [Option.map_some,zA] at hn
  omega
 obtain ⟨news,hnews⟩ : ∃ news,news = (Builtin.zeroCells zv.cells len).toList := ⟨_,rfl⟩
 have hnl : news.length = (List.replicate len (anyRow sz)).length * sz := by rw [hnews];simp [size_zeroCells,hz3,hsz]
 have hone : ∀ u ∈ news,u.oneCell' = true := by rw [hnews];exact zeroCells_one hz4
 have hcap0 : news ≠ [] → q = off * sz := fun hne => k6 (by
  rcases Nat.eq_zero_or_pos cp with h0 | h0
  ·exfalso
   have hl0 : len = 0 := by omega
   subst hl0
   exact hne (List.eq_nil_of_length_eq_zero (by simpa using hnl))
  ·exact h0)
 have hset : w.setCells g q news = w.setCells g (off * sz) news := by
  by_cases hne : news = []
  ·rw [hne];rfl
  ·rw [hcap0 hne]
 have hfit : off + (List.replicate len (anyRow sz)).length ≤ xs.length := by rw [List.length_replicate];omega
 have hst : (storeCells ⟨g,q,none⟩ news 0).run P w = .ok () (w.setCells g q news) := store_run k3 (fun hne => by
  rw [hcap0 hne,hnl,k4,← Nat.add_mul];exact Nat.mul_le_mul_right _ hfit) hone
 refine wp_value (v := .tuple #[]) (w' := w.setCells g (off * sz) news) ?_ ?_
 ·unfold execOp;rw [ho]
  obtain ⟨cal,ars,ats⟩ := c
  obtain ⟨ars⟩ := ars
  obtain ⟨ats⟩ := ats
  simp only at hargs hat hcal
  subst hargs hat hcal
  rw [← hset]
  rcases Nat.eq_zero_or_pos len with h0 | h0
  ·subst h0
   have hn0 : news = [] := List.eq_nil_of_length_eq_zero (by simpa using hnl)
   rw [hn0]
   simp [resolve,invoke,builtin,Builtin.clear_,run_underlying (sliceT_some ht),k5]
   rfl
  ·obtain ⟨m,rfl⟩ : ∃ m,len = m + 1 := ⟨len - 1,by omega⟩
   rw [hnews] at hst ⊢
   simp [resolve,invoke,builtin,Builtin.clear_,run_underlying (sliceT_some ht),k5,zeroValue,typeInfo,hi,hz1,hst]
 ·refine hG _ _ _ _ _ (fun hs => by rw [hsb] at hs;cases hs) h (hr.step hdst (fun _ _ => rfl) (fun _ _ _ h => h) (Nat.le_refl _) (v := .tuple #[]) (d := .any) trivial trivial ?_)
  exact hr.h.write hh k2 (Only.setCells g news (off * sz) w) (k9.paste k2 hnl hfit (fun row hr' => by rw [List.eq_of_mem_replicate hr'];simp [anyRow]) fun i row j d hi hj hd => absurd (anyRow_ne hi hj) hd) (paste_lt (hr.h.lt _ _ hh).2 anyRow_lt)
end
section
variable {P : Program} {sb : Bool} {B : Base} {st : St} {K : St → Prop} {dst : Option Nat} {X Y : Opd} {id sz off len cp : Nat}
end
section
variable {P : Program} {B : Base} {hw : List FuncId} {c : AC} {Q : Ex → St → Prop} {st : St}
theorem W.openR {t id sz : Nat} {xs : List (List D)} (ht : eget st.env t = .own id) (hh : hget st.heap id = some (.row sz xs)) (h0 : xs ≠ [])
  (h : ∀ k,W P B hw c Q ⟨eput st.env t (.sl id sz 0 xs.length (xs.length + k)),eput st.heap id (.blk sz (xs ++ List.replicate k (anyRow sz))),st.nx⟩) : W P B hw c Q st := by
 intro hm code hc s Z a w hr
 have hv := hr.env t
 rw [ht] at hv
 obtain ⟨hv1,_⟩ := hv
 obtain ⟨p1,p2,p3⟩ := (show RowOk (VT Z) w sz xs (s id) from hr.h.ob _ _ hh)
 rcases p3 with ⟨rfl,_⟩ | ⟨g,cap,cur,e,p4,p5,p6,p7,p8,p9⟩
 ·exact absurd rfl h0
 have hxl : 0 < xs.length := List.length_pos_iff.2 h0
 obtain ⟨k,rfl⟩ : ∃ k,cap = xs.length + k := ⟨cap - xs.length,by omega⟩
 have hb : blk (s id) = some g := by rw [p4];simp only [blk];rw [if_neg (by omega)]
 have hlen : (xs ++ List.replicate k (anyRow sz)).length = xs.length + k := by simp
 refine h k hm code hc s Z a w ⟨fun j => ?_,fun j => ?_,hr.size,hr.defers,?_⟩
 ·rw [eget_eput]
  split
  ·rename_i ej
   subst ej
   rw [hv1]
   exact ⟨g,xs.length,xs.length + k,0,p4,p4,fun _ => by simp,by omega,by omega⟩
  ·exact hr.env j
 ·rw [eget_eput]
  split
  ·exact (hr.h.lt _ _ hh).1
  ·exact hr.elt j
 ·refine hr.h.write hh hb ⟨rfl,rfl,rfl,rfl,fun _ _ => rfl⟩ ?_ ?_
  ·refine ⟨p1,fun row hr' => ?_,g,xs.length,cur,e,by rw [hlen];exact p4,p5,by omega,by rw [hlen];exact p7,by rw [hlen];exact p8,fun i row j d hi hj hd => ?_⟩
   ·rcases List.mem_append.1 hr' with hr' | hr'
    ·exact p2 row hr'
    ·rw [List.eq_of_mem_replicate hr'];simp [anyRow]
   ·by_cases c1 : i < xs.length
    ·rw [List.getElem?_append_left c1] at hi
     exact VC.of_vt (p9 i row j d hi hj)
    ·rw [List.getElem?_append_right (by omega)] at hi
     exact absurd (anyRow_ne hi hj) hd
  ·intro row hr' d hd
   rcases List.mem_append.1 hr' with hr' | hr'
   ·obtain ⟨i,hi⟩ := zF hr'
    obtain ⟨j,hj⟩ := zF hd
    exact VT.ltN _ (p9 i row j d hi hj)
   ·exact anyRow_lt row hr' d hd
theorem Gh.closeR {t id sz len : Nat} {xs : List (List D)} (ht : eget st.env t = .sl id sz 0 len xs.length) (hh : hget st.heap id = some (.blk sz xs)) (hT : ∀ row ∈ xs.take len,∀ d ∈ row,isT d = true) :
  Gh B st ⟨eput st.env t (.own st.nx),eput (herase st.heap id) st.nx (.row sz (xs.take len)),st.nx + 1⟩ := by
 intro s Z a w hr
 have hv := hr.env t
 rw [ht] at hv
 obtain ⟨g,n',cur,e',q,k1,k2,k3,k4,k5,k6,k7,k8,k9⟩ := blk_at hr.h hh hv
 have hx0 : 0 < xs.length := k9.2.2.choose_spec.choose_spec.choose_spec.choose_spec.2.2.1
 have hq : q = 0 := by rw [k6 hx0];simp
 subst hq
 obtain ⟨b1,b2,g',m',cur',e2,b3,b4,b5,b6,b7,b8⟩ := k9
 rw [k1] at b3
 simp only [Value.slice.injEq,zA,Addr.mk.injEq,and_true] at b3
 obtain ⟨rfl,rfl⟩ := b3
 rw [k3] at b4
 simp only [zA,Obj.cells.injEq,and_true] at b4
 obtain ⟨rfl,rfl⟩ := b4
 have hlen : (xs.take len).length = len := by rw [List.length_take];omega
 have hH := hr.h.move (w' := w) (v := .slice (some ⟨g,0,none⟩) len xs.length) (ob' := .row sz (xs.take len)) hh ⟨rfl,rfl,rfl,Nat.le_refl _,fun _ _ _ => rfl⟩ (by
  refine ⟨b1,fun row hr' => b2 row (List.mem_of_mem_take hr'),.inr ⟨g,xs.length,cur,e',by rw [hlen],k3,by rw [hlen];exact k7,b6,b7,fun i row j d hi hj => ?_⟩⟩
  have hi' : xs[i]? = some row := by
   rw [List.getElem?_take] at hi
   split at hi
   ·exact hi
   ·cases hi
  have hd := hT row (zD hi) d (zD hj)
  exact VC.vt (b8 i row j d hi' hj (fun e => by rw [e] at hd;cases hd)) hd) trivial (fun k' hk => .inr (by
   simp only [blk] at hk
   rw [if_neg (by omega)] at hk
   rw [k2,← hk]))
 refine ⟨_,Z,fun j => ?_,fun j => ?_,hr.size,hr.defers,hH⟩
 ·rw [eget_eput]
  split
  ·rename_i ej;subst ej;rw [k5];exact ⟨(upd_same _ _ _).symm,.inl ⟨_,_,_,rfl⟩⟩
  ·exact (hr.env j).mono (fun _ _ _ h => h) (upd_lt s st.nx _) (hr.elt j)
 ·rw [eget_eput]
  split
  ·exact Nat.lt_succ_self _
  ·exact (hr.elt j).mono (Nat.le_succ _)
end
theorem WCall.pfv {P : Program} {sb : Bool} {B : Base} {st : St} {K : St → Prop} {x : Opd} {f : FuncId} {cs : List D} {as_ : List Opd} {es : List D} {d : D} {dst : Option Nat} (hpf : PF P f es d) (hok : oks st.env (.callv x as_) = true) (hf : evS st.env x = .fn f cs)
  (hes : match omap (brwV st.heap) (as_.map (evS st.env) ++ cs) with | some e => leVL e es | none => False) (hno : ((as_.map (evS st.env) ++ cs).all noV || flatR d) = true)
  (hK : K ⟨putO st.env dst d,st.heap,st.nx⟩) : WCall P sb B (.callv x as_) dst st K := WCall.ofv hok hf (CallOk.pf hpf hes hno hK)
end Go.Proofs.Ytmdhegbdffbfoaa
namespace Go.Proofs.Ytmdhegbdffbfoaa
def idxZ {α : Type} (q : α → Bool) : List α → Int
 | [] => -1
 | x :: l => if q x then 0 else if idxZ q l < 0 then -1 else idxZ q l + 1
theorem idxZ_lo {α : Type} (q : α → Bool) : ∀ l : List α,-1 ≤ idxZ q l ∧ idxZ q l < l.length
 | [] => by simp [idxZ]
 | x :: l => by
  have := idxZ_lo q l
  simp only [idxZ,List.length_cons]
  split
  ·omega
  ·split <;> omega
theorem idxZ_at {α : Type} (q : α → Bool) : ∀ (l : List α) (i : Nat) (h : i < l.length),(∀ j (hj : j < i),q l[j] = false) → q l[i] = true → idxZ q l = i
 | [],i,h,_,_ => by simp at h
 | x :: l,0,h,_,hq => by
  simp only [List.getElem_cons_zero] at hq
  simp [idxZ,hq]
 | x :: l,i + 1,h,hb,hq => by
  have h0 := hb 0 (by omega)
  simp only [List.getElem_cons_zero] at h0
  have ih := idxZ_at q l i (by simpa using h) (fun j hj => by simpa using hb (j + 1) (by omega)) (by simpa using hq)
  simp only [idxZ,h0,Bool.false_eq_true,if_false,ih]
  rw [if_neg (by omega)];omega
theorem idxZ_none {α : Type} (q : α → Bool) : ∀ (l : List α),(∀ x ∈ l,q x = false) → idxZ q l = -1
 | [],_ => rfl
 | x :: l,h => by simp [idxZ,h x (by simp),idxZ_none q l fun y hy => h y (List.mem_cons_of_mem _ hy)]
theorem idxZ_some {α : Type} (q : α → Bool) : ∀ (l : List α),(∃ x ∈ l,q x = true) → 0 ≤ idxZ q l
 | [],h => by simp at h
 | x :: l,h => by
  simp only [idxZ]
  split
  ·omega
  ·rename_i hx
   have : 0 ≤ idxZ q l := idxZ_some q l (by
    obtain ⟨y,hy,hq⟩ := h
    rcases List.mem_cons.1 hy with rfl | hy
    ·exact absurd hq hx
    ·exact ⟨y,hy,hq⟩)
   rw [if_neg (by omega)];omega
theorem idxZ_get {α : Type} (q : α → Bool) : ∀ (l : List α) (h : 0 ≤ idxZ q l),∃ (h2 : (idxZ q l).toNat < l.length),q l[(idxZ q l).toNat] = true ∧ ∀ j (hj : j < (idxZ q l).toNat),q (l[j]'(by omega)) = false := fun l h => by
 by_cases hx : ∃ x ∈ l,q x = true
 ·obtain ⟨i,hi,hq,hb⟩ : ∃ (i : Nat) (hi : i < l.length),q l[i] = true ∧ ∀ j (hj : j < i),q (l[j]'(by omega)) = false := by
   obtain ⟨x,hx,hq⟩ := hx
   have h1 : l.findIdx q < l.length := List.findIdx_lt_length_of_exists ⟨x,hx,hq⟩
   exact ⟨l.findIdx q,h1,List.findIdx_getElem (w := h1),fun j hj => by simpa using List.not_of_lt_findIdx hj⟩
  have e := idxZ_at q l i hi hb hq
  have e2 : (idxZ q l).toNat = i := by omega
  refine ⟨by omega,?_,fun j hj => hb j (by omega)⟩
  simp only [e2];exact hq
 ·have := idxZ_none q l fun x hm => by
   cases hqx : q x with
   | true => exact absurd ⟨x,hm,hqx⟩ hx
   | false => rfl
  omega
end Go.Proofs.Ytmdhegbdffbfoaa
namespace Go.Proofs.Ytmdhegbdffbfoaa
open Go.RowKit
attribute [local simp] AK_at acode_seq acode_region acode_draw acode_cond CB_u acode_block acode_loop acode_exit acode_scope acode_ret acode_skip seqQ_n seqQ_e seqQ_r blockQ_n blockQ_e blockQ_r TK_at OK_at SK_at aops_nil aops_cons asch_done asch_one asch_two asch_top astep aop_eq isLoud aloud aloud1 isWrite qv evS strip gof eget hget putO eput herase oks opnds gS afin afin0 binD arith D.cells takeD fillD keep trim envOf Fin aresl aresv resD argOk pickV isP deq deqs boundD slD lenD isT isSl ptrIds chunks mn_min mx_max splice_one splice_more Rbr_at Rfr_at frR frV frC flatC brwR brwV brwC omap leR leV leC leL leVL rnR rnV rnC rnO rho_0 hputs herases rnS LtS LtR LtV LtC LtO lget noV noC flatR flatV rho
attribute [local simp ↓] CB_t CB_f
theorem brw_T (H : List (Nat × Ob)) (n : Nat) : ∀ ds : List D,(∀ d ∈ ds,isT d = true) → omap (brwC H n) ds = some ds
 | [],_ => rfl
 | d :: ds,h => by
  have h1 : brwC H n d = some d := by
   have := h d (by simp)
   cases d <;> first | (cases this;done) | (cases n <;> rfl)
  simp only [omap,h1,brw_T H n ds fun x hx => h x (List.mem_cons_of_mem _ hx)]
theorem ixf_gen1 (z : Nat) (f : FuncId) (hc : cfun Try.prog [] f = some ⟨(.seq (.region 0 [⟨(some 4),(.mov (.k (.int .i64 0))),none⟩]) (.seq (.seq (.region 1 [⟨(some 6),(.mov (.t 0)),none⟩,⟨(some 7),(.len (.t 6)),none⟩,⟨(some 8),(.mov (.k (.int .i64 0))),none⟩]) (.block 0 (.loop (.seq (.region 2 [⟨(some 9),(.bin .lss (.t 8) (.t 7)),none⟩]) (.seq (.cond 9 .skip (.exit 0)) (.seq (.block 1 (.seq (.region 3 [⟨(some 10),(.mov (.t 8)),none⟩,⟨(some 5),(.mov (.t 10)),none⟩]) (.seq (.region 4 [⟨(some 11),(.mov (.t 1)),none⟩,⟨(some 12),(.mov (.t 0)),none⟩,⟨(some 13),(.mov (.t 5)),none⟩,⟨(some 14),(.iads z (.t 12) (.t 13)),none⟩,⟨(some 15),(.load true z (.t 14)),none⟩,⟨(some 16),(.callv (.t 11) [(.t 15)]),none⟩]) (.cond 16 (.seq (.region 5 [⟨(some 17),(.mov (.t 5)),none⟩,⟨(some 4),(.mov (.t 17)),none⟩]) .ret) .skip)))) (.region 6 [⟨(some 18),(.bin .add (.t 8) (.k (.int .i64 1))),none⟩,⟨(some 8),(.mov (.t 18)),none⟩]))))))) (.seq (.region 7 [⟨(some 4),(.mov (.k (.int .i64 (-1)))),none⟩]) .ret))),[(.t 4)],19⟩) {α : Type} (E : α → List D) (l : List α) (F : FuncId) (ds : List D) (q : α → Bool) (hl : l.length ≤ 1000000) (hE : Els z E l) (hF : ∀ s ∈ l,PF Try.prog F [.agg (E s),.pc ds] (.bool (q s))) : PF Try.prog f [.rows z (l.map E),.fn F [.pc ds]] (I (idxZ q l)) := by
 refine pO hc [0,1,4,5,7,8,9,16] [] fun B hBN hB0 => ?_
 simp
 refine W.loopS (fun i : Nat => ⟨[(8,I i),(7,I l.length),(4,I 0),(1,.fn F [.pc ds]),(0,D.rows z (l.map E))],[],0⟩)
  (fun n i => n = l.length - i ∧ i ≤ l.length ∧ ∀ j (hj : j < l.length),j < i → q l[j] = false) ?_ ?_
 ·exact ⟨_,0,(gr0 [] hB0 (by simp) (by simp) (.inr rfl)),rfl,by omega,fun j _ h => by omega⟩
 rintro n i ⟨hn,hi,hb⟩
 refine acode_sound [0,1,4,5,7,8,9,16] [] _ _ _ ?_
 by_cases hlt : i < l.length
 ·have hm : l[i] ∈ l := List.getElem_mem hlt
  have hE0 := hE _ hm
  have hFo := hF _ hm
  obtain ⟨o,ho⟩ : ∃ o,o = l[i] := ⟨_,rfl⟩
  rw [← ho] at hE0 hFo
  obtain ⟨h1,h2⟩ := hE0
  have h3 : (E o).take z = E o := List.take_of_length_le (by omega)
  have h4 := fun H n => brw_T H n (E o) h2
  have ii : InR ((i : Int) + 1) := inW (by omega) (by omega)
  simp [hlt,← ho,h1,h3]
  cases hq : q o with
  | true =>
   have hz := idxZ_at q l i hlt (fun j hj => hb j (by omega) hj) (by rw [← ho];exact hq)
   repeat' (first
    | simp [hq,hz,h4,leL_refl]
    | refine ⟨wcS ?_,?_⟩
    | (refine WCall.pfv (hFo) ?_ rfl ?_ ?_ ?_;iterate 3 (solve|simp [hq,hz,h4,leL_refl]))
    | with_reducible refine aI ?_ ?_ ?_)
  | false =>
   repeat' (first
    | simp [hq,ii,h4,leL_refl]
    | refine ⟨wcS ?_,?_⟩
    | (refine WCall.pfv (hFo) ?_ rfl ?_ ?_ ?_;iterate 3 (solve|simp [hq,ii,h4,leL_refl]))
    | with_reducible refine aI ?_ ?_ ?_)
   exact ⟨_,i + 1,(gr0 [] hB0 (by simp) (by simp) (.inr rfl)),by omega,rfl,by omega,fun j hj h => by
    by_cases hji : j = i
    ·subst hji;rw [← ho];exact hq
    ·exact hb j hj (by omega)⟩
 ·have hz := idxZ_none q l fun x hx => by
   obtain ⟨j,hj⟩ := zF hx
   obtain ⟨hj2,rfl⟩ := zB.1 hj
   exact hb j hj2 (by omega)
  have hie : i = l.length := by omega
  subst hie
  simp [hz]
theorem spixf1_pf {α : Type} (E : α → List D) (l : List α) (F : FuncId) (ds : List D) (q : α → Bool) (hl : l.length ≤ 1000000) (hE : Els 2 E l) (hF : ∀ s ∈ l,PF Try.prog F [.agg (E s),.pc ds] (.bool (q s))) : PF Try.prog 35 [.rows 2 (l.map E),.fn F [.pc ds]] (I (idxZ q l)) :=
 ixf_gen1 2 _ (by kernel_rfl) E l F ds q hl hE hF
theorem rsame_code : cfun Try.prog [] 11 = some ⟨(.seq (qR 0 [oB 2 0,oB 3 1,oX 4 (.mov (.k qF))]) (.seq (.seq (qR 1 [oF 6 0 2,oL 7 1 6,oH 8 7,oF 9 0 3,oL 10 1 9,oH 11 10,oX 12 (.bin .neq (.t 8) (.t 11))]) (.cond 12 (.seq (qR 2 [oX 4 (.mov (.k qF))]) .ret) .skip)) (.seq (.seq (qR 3 [oK 5 0]) (.block 0 (.loop (.seq (.seq (qR 4 [oM 13 5,oF 14 0 2,oL 15 1 14,oH 16 15,oX 17 (.bin .lss (.t 13) (.t 16))]) (.cond 17 .skip (.exit 0))) (.seq (.block 1 (.seq (.draw 6 (qN (oF 20 0 2) (qN (oL 21 1 20) (qN (oM 22 5) (qN (oI 23 2 21 22) (qN (oA 24 2 23) (qN (oF 25 0 3) (qN (oL 26 1 25) (qN (oM 27 5) (qN (oI 28 2 26 27) (qN (oA 29 2 28) (qN (oX 30 (.eqa true [.i,.i] (.t 24) (.t 29))) .done)))))))))))) (.cond 30 (.seq (qR 7 [oX 4 (.mov (.k qF))]) .ret) .skip))) (qR 5 [oM 18 5,oX 19 (.bin .add (.t 18) (kI 1)),oM 5 19])))))) (.seq (qR 8 [oX 4 (.mov (.k qT))]) .ret)))),[(.t 4)],31⟩ := by kernel_rfl
theorem rsame_pf (l : List (Int × Int)) (hl : l.length ≤ 1000000) : PF Try.prog 11 [.agg [.rows 2 (l.map spE)],.agg [.rows 2 (l.map spE)]] (.bool true) := by
 refine pO rsame_code [0,1,2,3,4,5,12,17,30] [] fun B hBN hB0 => ?_
 simp
 refine W.loopS (fun i : Nat => ⟨[(5,I i),(4,.bool false),(3,.ptr 1 0),(2,.ptr 0 0)],[(1,.cells [.rows 2 (l.map spE)]),(0,.cells [.rows 2 (l.map spE)])],2⟩)
  (fun n i => n = l.length - i ∧ i ≤ l.length) ?_ ?_
 ·exact ⟨_,0,(gr0 [0,1] hB0 (by simp) (by simp) (.inl (by simp))),rfl,by omega⟩
 rintro n i ⟨hn,hi⟩
 refine acode_sound [0,1,2,3,4,5,12,17,30] [] _ _ _ ?_
 by_cases hlt : i < l.length
 ·have ii : InR ((i : Int) + 1) := inG (by omega) (by omega)
  simp [hlt,spE,ii]
  exact ⟨_,i + 1,(gr0 [0,1] hB0 (by simp) (by simp) (.inl (by simp))),by omega,rfl,by omega⟩
 ·obtain rfl : i = l.length := by omega
  simp
def nq (q : Int × Int → Bool) (x : Int × Int) : Bool := !q x
theorem df_keep {l ys : List (Int × Int)} {q : Int × Int → Bool} {i j : Nat} (hl : ys.length = l.length) (hij : i < j) (hj : j < l.length) (h1 : ys.take i = (l.take j).filter (nq q)) (h2 : ys.drop j = l.drop j) (hq : q l[j] = false) :
  (ys.set i l[j]).take (i + 1) = (l.take (j + 1)).filter (nq q) ∧ (ys.set i l[j]).drop (j + 1) = l.drop (j + 1) := by
 constructor
 ·rw [List.take_succ_eq_append_getElem (by simp;omega),List.take_succ_eq_append_getElem hj,List.filter_append,← h1]
  simp [nq,hq,List.take_set_of_le]
 ·rw [List.drop_set_of_lt (by omega)]
  have := congrArg (List.drop 1) h2
  rwa [List.drop_drop,List.drop_drop] at this
theorem df_drop {l ys : List (Int × Int)} {q : Int × Int → Bool} {i j : Nat} (hj : j < l.length) (h1 : ys.take i = (l.take j).filter (nq q)) (h2 : ys.drop j = l.drop j) (hq : q l[j] = true) :
  ys.take i = (l.take (j + 1)).filter (nq q) ∧ ys.drop (j + 1) = l.drop (j + 1) := by
 constructor
 ·rw [List.take_succ_eq_append_getElem hj,List.filter_append,← h1]
  simp [nq,hq]
 ·have := congrArg (List.drop 1) h2
  rwa [List.drop_drop,List.drop_drop] at this
theorem df_at {l ys : List (Int × Int)} {j : Nat} (hj : j < l.length) (hy : j < ys.length) (h2 : ys.drop j = l.drop j) : ys[j] = l[j] := by
 rw [List.drop_eq_getElem_cons hy,List.drop_eq_getElem_cons hj] at h2
 exact (List.cons.inj h2).1
theorem df_all {l : List (Int × Int)} {q : Int × Int → Bool} (h : idxZ q l = -1) : l.filter (nq q) = l :=
 List.filter_eq_self.2 fun x hx => by
  cases hq : q x with
  | false => simp [nq,hq]
  | true => have := idxZ_some q l ⟨x,hx,hq⟩;omega
theorem df_start {l : List (Int × Int)} {q : Int × Int → Bool} {i : Nat} (h : idxZ q l = i) : l.take i = (l.take (i + 1)).filter (nq q) := by
 obtain ⟨h2,hq,hb⟩ := idxZ_get q l (by omega)
 have e : (idxZ q l).toNat = i := by omega
 simp only [e] at h2 hq hb
 rw [List.take_succ_eq_append_getElem h2,List.filter_append,List.filter_eq_self.2 fun x hx => ?_]
 ·simp [nq,hq]
 ·obtain ⟨j,hj,rfl⟩ := List.mem_iff_getElem.1 hx
  rw [List.length_take] at hj
  rw [List.getElem_take]
  simp [nq,hb j (by omega)]
theorem spdf_code : cfun Try.prog [] 24 = some ⟨(.seq (qR 0 [oX 4 (.mov (.k .nil0))]) (.seq (qR 1 [oM 8 0,oM 9 1,oX 10 (.call 35 [(.t 8),(.t 9)]),oM 5 10]) (.seq (.seq (qR 2 [oM 11 5,oX 12 (.bin .eql (.t 11) (kI (-1)))]) (.cond 12 (.seq (qR 3 [oM 13 0,oM 4 13]) .ret) .skip)) (.seq (.seq (qR 4 [oM 14 5,oX 15 (.bin .add (.t 14) (kI 1)),oM 6 15]) (.block 0 (.loop (.seq (.seq (qR 5 [oM 16 6,oM 17 0,oH 18 17,oX 19 (.bin .lss (.t 16) (.t 18))]) (.cond 19 .skip (.exit 0))) (.seq (.block 1 (.seq (qR 7 [oM 22 0,oM 23 6,oI 24 2 22 23,oA 25 2 24,oX 7 (.alloc [qZ,qZ]),oS 2 7 25]) (.seq (qR 8 [oM 26 1,oA 27 2 7,oX 28 (.callv (.t 26) [(.t 27)]),oX 29 (.not (.t 28))]) (.cond 29 (.seq (qR 9 [oM 30 0,oM 31 5,oA 32 2 7,oI 33 2 30 31,oS 2 33 32]) (qR 10 [oM 34 5,oX 35 (.bin .add (.t 34) (kI 1)),oM 5 35])) .skip)))) (qR 6 [oM 20 6,oX 21 (.bin .add (.t 20) (kI 1)),oM 6 21])))))) (.seq (qR 11 [oM 36 0,oM 37 5,oX 38 (.slc 2 (.t 36) (some (.t 37)) none none),oY (.xop 10 [2] [(.t 38)])]) (.seq (qR 12 [oM 39 0,oM 40 5,oX 41 (.slc 2 (.t 39) none (some (.t 40)) none),oM 4 41]) .ret)))))),[(.t 4)],42⟩ := by kernel_rfl
theorem spdf_hf (l : List (Int × Int)) (F : FuncId) (ds : List D) (q : Int × Int → Bool) (hl : l.length ≤ 1000000) (hF : ∀ s ∈ l,PF Try.prog F [.agg (spE s),.pc ds] (.bool (q s))) :
  HF Try.prog 24 [.own 0,.fn F [.pc ds]] [(0,.row 2 (l.map spE))] 1 (fun d H' nx' => (d = .own 0 ∧ H' = [(0,.row 2 ((l.filter (nq q)).map spE))] ∧ nx' = 1) ∨ ∃ W3,d = .sl 0 2 0 (l.filter (nq q)).length W3.length ∧ H' = [(0,.blk 2 W3)] ∧ nx' = 1 ∧ W3.take (l.filter (nq q)).length = (l.filter (nq q)).map spE ∧ ∀ f,W3.map (fun x => List.map (rnC f) x) = W3) := by
 have hix := spixf1_pf spE l F ds q hl (els_sp l) hF
 refine hO spdf_code [0,1,4,5,6,7,12,19,29] [11] fun B hBN hB0 => ?_
 by_cases h : idxZ q l = -1
 ·have hall : l.filter (nq q) = l := df_all h
  rw [hall]
  repeat' (first
   | simp [h]
   | refine ⟨wcS ?_,?_⟩
   | (refine WCall.pf (hix) ?_ ?_ ?_ ?_;iterate 3 (solve|simp [h]))
   | with_reducible refine aI ?_ ?_ ?_)
 ·have hlo := idxZ_lo q l
  have h0 : 0 ≤ idxZ q l := by omega
  obtain ⟨i0,hi0⟩ : ∃ i0 : Nat,idxZ q l = i0 := ⟨(idxZ q l).toNat,by omega⟩
  rw [hi0] at hix
  have hil : i0 < l.length := by omega
  have ii : InR ((i0 : Int) + 1) := inG (by omega) (by omega)
  have hne : ¬ (i0 : Int) = -1 := by omega
  repeat' (first
   | simp [ii,hne]
   | refine ⟨wcS ?_,?_⟩
   | (refine WCall.pf (hix) ?_ ?_ ?_ ?_;iterate 3 (solve|simp [ii,hne]))
   | with_reducible refine aI ?_ ?_ ?_)
  refine W.loopS (fun y : Nat × Nat × List (Int × Int) => ⟨[(6,I y.2.1),(5,I y.1),(4,.nil0),(1,.fn F [.pc ds]),(0,.own 0)],[(0,.row 2 (y.2.2.map spE))],1⟩)
   (fun n y => n = l.length - y.2.1 ∧ y.2.1 ≤ l.length ∧ y.1 < y.2.1 ∧ y.2.2.length = l.length ∧ y.2.2.take y.1 = (l.take y.2.1).filter (nq q) ∧ y.2.2.drop y.2.1 = l.drop y.2.1) ?_ ?_
  ·refine ⟨_,(i0,i0 + 1,l),(Gh.ren [0] (by simp [hB0]) (by simp [hB0] <;> decide) (by simp) (by simp) (.inl (by simp))),rfl,by simp only;omega,by simp only;omega,rfl,df_start hi0,rfl⟩
  rintro n ⟨i,j,ys⟩ ⟨hn,hj,hij,hyl,h1,h2⟩
  simp only at hn hj hij hyl h1 h2
  refine acode_sound [0,1,4,5,6,7,12,19,29] [11] _ _ _ ?_
  by_cases hlt : j < l.length
  ·obtain ⟨x,hx⟩ : ∃ x,x = l[j] := ⟨_,rfl⟩
   have hyj : j < ys.length := by omega
   have hye : ys[j] = x := by rw [hx];exact df_at hlt hyj h2
   have hFx := hF x (hx ▸ List.getElem_mem hlt)
   have ij : InR ((j : Int) + 1) := inG (by omega) (by omega)
   have i1 : InR ((i : Int) + 1) := inG (by omega) (by omega)
   have hiy : i < ys.length := by omega
   by_cases hq : q x = true
   ·have hd := df_drop hlt h1 h2 (hx ▸ hq)
    rw [hq] at hFx
    repeat' (first
     | simp [hlt,hyl,hyj,hye,spE,ij]
     | refine ⟨wcS ?_,?_⟩
     | (refine WCall.pfv (hFx) ?_ rfl ?_ ?_ ?_;iterate 3 (solve|simp [hlt,hyl,hyj,hye,spE,ij]))
     | with_reducible refine aI ?_ ?_ ?_)
    exact ⟨_,(i,j + 1,ys),(Gh.ren [0] (by simp [hB0]) (by simp [hB0] <;> decide) (by simp) (by simp) (.inl (by simp))),by simp only;omega,rfl,by simp only;omega,by simp only;omega,hyl,hd.1,hd.2⟩
   ·have hq : q x = false := by simpa using hq
    have hd := df_keep hyl hij hlt h1 h2 (hx ▸ hq)
    rw [← hx] at hd
    rw [hq] at hFx
    have hd2 : List.drop 2 ((Option.map spE ys[i]?).getD []) = [] := by simp [zE hiy,spE]
    repeat' (first
     | simp [hlt,hyl,hyj,hye,spE,ij,i1,hiy,hd2]
     | refine ⟨wcS ?_,?_⟩
     | (refine WCall.pfv (hFx) ?_ rfl ?_ ?_ ?_;iterate 3 (solve|simp [hlt,hyl,hyj,hye,spE,ij,i1,hiy,hd2]))
     | with_reducible refine aI ?_ ?_ ?_)
    exact ⟨by omega,_,(i + 1,j + 1,ys.set i x),(Gh.ren [0] (by simp [hB0]) (by simp [hB0] <;> decide) (by simp [List.map_set,spE]) (by simp [List.map_set,spE]) (.inl (by simp [List.map_set,spE]))),by simp only;omega,rfl,by simp only;omega,by simp only;omega,by simp [hyl],hd.1,hd.2⟩
  ·obtain rfl : j = l.length := by omega
   rw [List.take_length] at h1
   have hfl : (l.filter (nq q)).length = i := by rw [← h1,List.length_take];omega
   have hfm : (l.filter (nq q)).map spE = (ys.map spE).take i := by rw [← h1,List.map_take]
   simp [hyl]
   refine W.openR (t := 0) (id := 0) (sz := 2) (xs := ys.map spE) (by simp) (by simp) (by simp;rintro rfl;simp at hyl;omega) fun k => ?_
   simp only [eput]
   refine acode_sound [0,1,4,5,6,7,12,19,29] [] _ _ _ ?_
   obtain ⟨U,hU⟩ : ∃ U,U = ys.map spE ++ List.replicate k (anyRow 2) := ⟨_,rfl⟩
   have hUl : U.length = l.length + k := by rw [hU];simp [hyl]
   have hUt : U.take i = (ys.map spE).take i := by rw [hU,List.take_append_of_le_length (by simp;omega)]
   rw [← hU,List.length_map,hyl]
   have e1 : i ≤ l.length := by omega
   have e2 : i ≤ l.length + k := by omega
   have e3 : l.length ≤ l.length + k := by omega
   simp [e1,e2,e3]
   refine XCall.clear (id := 0) (sz := 2) (off := i) (len := l.length - i) (cp := l.length + k - i) (xs := U) (by simp) rfl (by simp) (by simp) ?_
   obtain ⟨W3,hW3⟩ : ∃ W3,W3 = U.take i ++ List.replicate (l.length - i) (anyRow 2) ++ U.drop (i + (List.replicate (l.length - i) (anyRow 2)).length) := ⟨_,rfl⟩
   have hWl : W3.length = l.length + k := by rw [hW3];simp;omega
   have hWt : W3.take i = (ys.map spE).take i := by
    rw [hW3,List.append_assoc,List.take_append_of_le_length (by simp;omega),List.take_take,Nat.min_self,hUt]
   have hWr : ∀ f,W3.map (fun x => List.map (rnC f) x) = W3 := fun f => by
    have hUm : ∀ r ∈ U,(∃ y,r = spE y) ∨ r = anyRow 2 := fun r hr => by
     rw [hU] at hr
     rcases List.mem_append.1 hr with hr | hr
     ·obtain ⟨y,_,rfl⟩ := List.mem_map.1 hr;exact .inl ⟨y,rfl⟩
     ·exact .inr (List.eq_of_mem_replicate hr)
    have : ∀ r ∈ W3,List.map (rnC f) r = r := fun r hr => by
     have hr' : (∃ y,r = spE y) ∨ r = anyRow 2 := by
      rw [hW3] at hr
      rcases List.mem_append.1 hr with hr | hr
      ·rcases List.mem_append.1 hr with hr | hr
       ·exact hUm r (List.mem_of_mem_take hr)
       ·exact .inr (List.eq_of_mem_replicate hr)
      ·exact hUm r (List.mem_of_mem_drop hr)
     rcases hr' with ⟨y,rfl⟩ | rfl <;> rfl
    exact (List.map_congr_left this).trans (by simp)
   rw [← hW3]
   simp [e1,e2,e3,hfl,hfm,hWl,hWt]
   exact ⟨W3,hWl.symm,rfl,hWt,hWr⟩
theorem spots_del (b k n : Nat) : (spotsM k n).filter (nq (isB b)) = if k = b then [] else spotsM k n := by
 split
 ·rename_i h
  refine List.filter_eq_nil_iff.2 fun s hs => ?_
  have := spotsM_mem hs
  simp [nq,isB,this,h]
 ·rename_i h
  refine List.filter_eq_self.2 fun s hs => ?_
  have := spotsM_mem hs
  simp [nq,isB,this];omega
theorem want_del (ws : List Nat) (b : Nat) (hb : b < ws.length) : ∀ k,wantM (ws.set b 0) k = (wantM ws k).filter (nq (isB b))
 | 0 => by simp [wantM]
 | k + 1 => by
  rw [wantM_succ,wantM_succ,List.filter_append,want_del ws b hb k,spots_del]
  by_cases h : k = b
  ·subst h
   rw [if_pos rfl]
   have : (ws.set k 0).getD k 0 = 0 := by simp [zC,hb]
   rw [this];rfl
  ·rw [if_neg h]
   have : (ws.set b 0).getD k 0 = ws.getD k 0 := by simp [zC,List.getElem?_set_ne (Ne.symm h)]
   rw [this]
theorem ring_del (ws : List Nat) (h : WOk ws) (b : Nat) (hb : b < 12) : (ringM ws).filter (nq (isB b)) = ringM (ws.set b 0) := by
 have hp : ((ringM ws).filter (nq (isB b))).Perm (ringM (ws.set b 0)) := by
  refine ((ringM_perm ws).filter _).trans ?_
  rw [← want_del ws b (by rw [h.len];exact hb)]
  exact (ringM_perm _).symm
 refine List.Perm.eq_of_pairwise (le := fun a b => (!(ltOf cfSp) b a) = true) (fun a b _ _ h1 h2 => ?_) ((sortM_pw _).filter _) (sortM_pw _) hp
 simp only [Bool.not_eq_true'] at h1 h2
 exact totSp a b h2 h1
theorem rrem1_code : cfun Try.prog [] 25 = some ⟨(.seq (qR 0 [oB 2 0,oX 3 (.mov (.k qF))]) (.seq (qR 1 [oF 4 1 2,oL 5 1 4,oL 6 1 1,oX 7 (.bin .eql (.t 5) (.t 6)),oM 3 7]) .ret)),[(.t 3)],8⟩ := by kernel_rfl
theorem rrem1_pf (s : Int × Int) (b : Nat) : PF Try.prog 25 [.agg (spE s),.pc [I b]] (.bool (isB b s)) := by
 refine pO (h3 := by simp [spE]) rrem1_code [0,1,2,3] [] fun B hBN hB0 => ?_
 simp [spE,isB]
theorem rrem_code : cfun Try.prog [] 14 = some ⟨(.seq (qR 0 [oB 2 0,oB 3 1,oX 4 (.alloc [.nil0]),oK 5 0]) (.seq (qR 1 [oA 10 1 2,oX 11 (.call 19 [(.t 10)]),oM 9 11,oE 12 9 0,oE 13 9 1,oX 6 (.alloc [qZ,qZ,qZ,qZ,qZ,qZ,qZ,qZ,qZ,qZ,qZ,qZ]),oS 12 6 12,oM 7 13]) (.seq (.block 0 (.seq (qR 2 [oM 15 7,oX 16 (.not (.t 15)),oM 14 16]) (.cond 14 (.seq (qR 3 [oX 17 (.build [.nil0] []),oS 1 4 17,oK 5 6]) .ret) (.seq (qR 4 [oL 19 1 3,oX 20 (.bin .lss (.t 19) (kI 0)),oM 21 20,oG 22 (.load false 1 (.t 3)) 21 false,oG 23 (.bin .geq (.t 22) (kI 12)) 21 false,oX 24 (.pick (.t 21) (.k qT) (.t 23)),oM 25 24,oG 26 (.load false 1 (.t 3)) 25 false,oG 27 (.iada 12 1 (.t 6) (.t 26)) 25 false,oG 28 (.load false 1 (.t 27)) 25 false,oG 29 (.bin .eql (.t 28) (kI 0)) 25 false,oX 30 (.pick (.t 25) (.k qT) (.t 29)),oM 18 30]) (.cond 18 (.seq (qR 5 [oX 31 (.build [.nil0] []),oS 1 4 31,oK 5 8]) .ret) .skip))))) (.seq (qR 6 [oF 32 0 2,oL 33 1 32,oX 34 (.call 20 [(.t 33)]),oX 35 (.mkfn 25 [(.t 3)]),oX 36 (.call 24 [(.t 34),(.t 35)]),oM 8 36]) (.seq (qR 7 [oM 37 8,oX 38 (.build [.nil0] [(0,(1,(.t 37)))]),oS 1 4 38,oK 5 0]) .ret))))),[(.c 4 true 1),(.t 5)],39⟩ := by kernel_rfl
theorem rrem0_pf (ws : List Nat) (h : WOk ws) (b : Nat) (hb : b < 12) (h0 : ws.getD b 0 = 0) :
  PF Try.prog 14 [.agg [.rows 2 ((ringM ws).map spE)],I b] (.tup [.agg [.rows 2 []],I 8]) := by
 have hwe := rwei_pf ws h
 have hrl := ringM_len ws h
 have hl12 := h.len
 have hs0 := spl12 h.len
 have htw : (ws.map fun w : Nat => I (w : Int)).take 12 = ws.map fun w : Nat => I (w : Int) := List.take_of_length_le (by simp [h.len])
 have hat : ws[b]? = some 0 := by
  rw [zC,zE (by omega)] at h0
  rw [zE (by omega)]
  simpa using h0
 have c1 : ¬ (b : Int) < 0 := by omega
 have c2 : ¬ (12 : Int) ≤ b := by omega
 have hb1 : (b : Int) < 12 := by omega
 have hb2 : b ≤ 11 := by omega
 have hb3 : 0 < 12 - b := by omega
 refine pO rrem_code [0,1,2,3,4,5,6,7,8,14,18] [] fun B hBN hB0 => ?_
 repeat' (first
  | simp [hl12,hs0,htw,hat,c1,c2,hb1,hb2,hb3]
  | refine ⟨wcS ?_,?_⟩
  | (refine WCall.pf (hwe) ?_ ?_ ?_ ?_;iterate 3 (solve|simp [hl12,hs0,htw,hat,c1,c2,hb1,hb2,hb3]))
  | with_reducible refine aI ?_ ?_ ?_)
theorem rrem_pf (ws : List Nat) (h : WOk ws) (b w : Nat) (hb : b < 12) (hw : ws.getD b 0 = w) (h1 : 0 < w) :
  PF Try.prog 14 [.agg [.rows 2 ((ringM ws).map spE)],I b] (.tup [.agg [.rows 2 ((ringM (ws.set b 0)).map spE)],I 0]) := by
 have hwe := rwei_pf ws h
 have hrl := ringM_len ws h
 have hl12 := h.len
 have hs0 := spl12 h.len
 have htw : (ws.map fun w : Nat => I (w : Int)).take 12 = ws.map fun w : Nat => I (w : Int) := List.take_of_length_le (by simp [h.len])
 have hat : ws[b]? = some w := by
  rw [zC,zE (by omega)] at hw
  rw [zE (by omega)]
  simpa using hw
 have c1 : ¬ (b : Int) < 0 := by omega
 have c2 : ¬ (12 : Int) ≤ b := by omega
 have c3 : ¬ w = 0 := by omega
 have hb1 : (b : Int) < 12 := by omega
 have hb2 : b ≤ 11 := by omega
 have hb3 : 0 < 12 - b := by omega
 have hcl := spcln_hf spE (ringM ws) (by omega) (els_sp _)
 have hdf := spdf_hf (ringM ws) 25 [I b] (isB b) (by omega) (fun s _ => rrem1_pf s b)
 rw [ring_del ws h b hb] at hdf
 have hne : ringM ws ≠ [] := fun e => by
  have := cnt_ring ws b hb
  rw [e,hw] at this
  simp at this;omega
 refine pO rrem_code [0,1,2,3,4,5,6,7,8,14,18] [6,7] fun B hBN hB0 => ?_
 repeat' (first
  | simp [hl12,hs0,htw,hat,c1,c2,c3,hb1,hb2,hb3]
  | refine ⟨wcS ?_,?_⟩
  | (refine WCall.pf (hwe) ?_ ?_ ?_ ?_;iterate 3 (solve|simp [hl12,hs0,htw,hat,c1,c2,c3,hb1,hb2,hb3]))
  | with_reducible refine aI ?_ ?_ ?_)
 refine W.freeze [1] ?_
 simp [freeze,hkeep,hdrop,fzS,fzR,fzV,fzC,fzO]
 refine acode_sound [0,1,2,3,4,5,6,7,8,14,18] [7] _ _ _ ?_
 simp
 refine WCall.hf0 hcl (by simp) (by simp) (by simp) (by simp) ?_
 rintro d H' nx' (⟨rfl,hnil,rfl,rfl⟩ | ⟨rfl,rfl,rfl⟩)
 ·exact absurd hnil hne
 simp
 refine wH [5] (hdf) ?_
 obtain ⟨R,hR⟩ : ∃ R,R = ringM (ws.set b 0) := ⟨_,rfl⟩
 rw [← hR]
 rintro d H' nx' (⟨rfl,rfl,rfl⟩ | ⟨W3,rfl,rfl,rfl,hW3,hWr⟩)
 ·simp
  refine acode_sound [0,1,2,3,4,5,6,7,8,14,18] [] _ _ _ ?_
  simp
 ·simp [hWr]
  refine W.gh (Gh.closeR (t := 8) (id := 5) (sz := 2) (len := R.length) (xs := W3) (by simp) (by simp) ?_) ?_
  ·rw [hW3]
   intro r hr d hd
   obtain ⟨y,_,rfl⟩ := List.mem_map.1 hr
   simp [spE] at hd
   rcases hd with rfl | rfl <;> rfl
  rw [hW3]
  simp only [eput,herase]
  refine acode_sound [0,1,2,3,4,5,6,7,8,14,18] [] _ _ _ ?_
  simp
theorem rback_code : cfun Try.prog [] 5 = some ⟨(.seq (qR 0 [oX 6 (.mov (.k qF))]) (.seq (qR 1 [oM 22 0,oX 23 (.call 9 [(.t 22)]),oM 21 23,oE 24 21 0,oE 25 21 1,oE 26 21 2,oX 7 (.alloc [.nil0]),oX 8 (.alloc [qZ,qZ,qZ,qZ,qZ,qZ,qZ,qZ,qZ,qZ,qZ,qZ]),oS 1 7 24,oS 12 8 25,oM 9 26]) (.seq (qR 2 [oM 27 1,oX 28 (.call 13 [(.t 27),(kI 12)]),oM 10 28]) (.seq (.seq (qR 3 [oM 29 9,oX 30 (.not (.t 29))]) (.cond 30 (.seq (qR 4 [oX 6 (.mov (.k qF))]) .ret) .skip)) (.seq (.seq (qR 5 [oM 31 10,oX 32 (.iada 12 1 (.t 8) (.t 31)),oL 33 1 32,oX 34 (.bin .gtr (.t 33) (kI 0))]) (.cond 34 (.seq (qR 6 [oA 36 1 7,oM 37 10,oX 38 (.call 14 [(.t 36),(.t 37)]),oM 35 38,oE 39 35 0,oE 40 35 1,oX 11 (.alloc [.nil0]),oS 1 11 39,oM 12 40]) (.seq (.draw 7 (qN (oA 42 1 11) (qN (oM 43 10) (qN (oM 44 10) (qN (oX 45 (.iada 12 1 (.t 8) (.t 44))) (qN (oL 46 1 45) (.two (qN (oX 47 (.call 10 [(.t 42),(.t 43),(.t 46)])) (qN (oM 41 47) (qN (oE 48 41 0) (qN (oE 49 41 1) (qN (oX 13 (.alloc [.nil0])) (.one false (oS 1 13 48) (qN (oM 14 49) .done))))))) (.two (qN (oX 13 (.alloc [.nil0])) (qN (oX 47 (.call 10 [(.t 42),(.t 43),(.t 46)])) (qN (oM 41 47) (qN (oE 48 41 0) (qN (oE 49 41 1) (.one false (oS 1 13 48) (qN (oM 14 49) .done))))))) .top)))))))) (.seq (qR 8 [oM 50 12,oX 51 (.bin .eql (.t 50) (kI 0)),oM 52 51,oG 53 (.mov (.t 14)) 52 true,oG 54 (.bin .eql (.t 53) (kI 0)) 52 true,oX 55 (.pick (.t 52) (.t 54) (.k qF)),oM 56 55,oG 57 (.load true 1 (.t 13)) 56 true,oG 58 (.load true 1 (.t 7)) 56 true,oG 59 (.call 11 [(.t 57),(.t 58)]) 56 true,oX 60 (.pick (.t 56) (.t 59) (.k qF)),oM 61 60,oG 62 (.fad 0 (.t 11)) 61 true,oG 63 (.load false 1 (.t 62)) 61 true,oG 64 (.len (.t 63)) 61 true,oG 65 (.fad 0 (.t 7)) 61 true,oG 66 (.load false 1 (.t 65)) 61 true,oG 67 (.len (.t 66)) 61 true,oG 68 (.bin .lss (.t 64) (.t 67)) 61 true,oX 69 (.pick (.t 61) (.t 68) (.k qF)),oM 6 69]) .ret))) .skip)) (.seq (.draw 9 (qN (oA 71 1 7) (qN (oM 72 10) (qN (oM 73 2) (.two (qN (oX 74 (.call 13 [(.t 73),(kI 8)])) (qN (oX 75 (.bin .add (kI 1) (.t 74))) (.two (qN (oX 76 (.call 10 [(.t 71),(.t 72),(.t 75)])) (qN (oM 70 76) (qN (oE 77 70 0) (qN (oE 78 70 1) (qN (oX 15 (.alloc [.nil0])) (.one false (oS 1 15 77) (qN (oM 16 78) .done))))))) (.two (qN (oX 15 (.alloc [.nil0])) (qN (oX 76 (.call 10 [(.t 71),(.t 72),(.t 75)])) (qN (oM 70 76) (qN (oE 77 70 0) (qN (oE 78 70 1) (.one false (oS 1 15 77) (qN (oM 16 78) .done))))))) .top)))) (.two (qN (oX 15 (.alloc [.nil0])) (qN (oX 74 (.call 13 [(.t 73),(kI 8)])) (qN (oX 75 (.bin .add (kI 1) (.t 74))) (qN (oX 76 (.call 10 [(.t 71),(.t 72),(.t 75)])) (qN (oM 70 76) (qN (oE 77 70 0) (qN (oE 78 70 1) (.one false (oS 1 15 77) (qN (oM 16 78) .done))))))))) .top)))))) (.seq (qR 10 [oA 80 1 15,oM 81 10,oX 82 (.call 14 [(.t 80),(.t 81)]),oM 79 82,oE 83 79 0,oE 84 79 1,oX 17 (.alloc [.nil0]),oS 1 17 83,oM 18 84]) (.seq (qR 11 [oA 86 1 7,oM 87 10,oX 88 (.call 14 [(.t 86),(.t 87)]),oM 85 88,oE 89 85 0,oE 90 85 1,oX 19 (.alloc [.nil0]),oS 1 19 89,oM 20 90]) (.seq (qR 12 [oM 91 16,oX 92 (.bin .eql (.t 91) (kI 0)),oM 93 92,oG 94 (.mov (.t 18)) 93 true,oG 95 (.bin .eql (.t 94) (kI 0)) 93 true,oX 96 (.pick (.t 93) (.t 95) (.k qF)),oM 97 96,oG 98 (.mov (.t 20)) 97 true,oG 99 (.bin .eql (.t 98) (kI 8)) 97 true,oX 100 (.pick (.t 97) (.t 99) (.k qF)),oM 101 100,oG 102 (.load true 1 (.t 17)) 101 true,oG 103 (.load true 1 (.t 7)) 101 true,oG 104 (.call 11 [(.t 102),(.t 103)]) 101 true,oX 105 (.pick (.t 101) (.t 104) (.k qF)),oM 106 105,oG 107 (.fad 0 (.t 15)) 106 true,oG 108 (.load false 1 (.t 107)) 106 true,oG 109 (.len (.t 108)) 106 true,oG 110 (.fad 0 (.t 7)) 106 true,oG 111 (.load false 1 (.t 110)) 106 true,oG 112 (.len (.t 111)) 106 true,oG 113 (.bin .gtr (.t 109) (.t 112)) 106 true,oX 114 (.pick (.t 106) (.t 113) (.k qF)),oM 6 114]) .ret))))))))),[(.t 6)],115⟩ := by kernel_rfl
theorem rback_pf (l : List (List Int)) (backend weight : Int) (hl : l.length ≤ Go.maxLen) (hr : ∀ r ∈ l,r.length = 2 ∧ ∀ z ∈ r,InR z) (ib : InR backend) (iw : InR weight) :
  PF Try.prog 5 [.rows 2 (l.map fun r => r.map I),I backend,I weight] (.bool true) := by
 have hrg := ringed_pf l hl hr
 have hws : WOk (rgL l) := rgL_inv l 20
 generalize rgL l = ws at hrg hws
 have p1 := picked_pf backend 12 ib (by omega)
 have p2 := picked_pf weight 8 iw (by omega)
 have q1 := pickedZ_range backend 12 (by omega)
 have q2 := pickedZ_range weight 8 (by omega)
 obtain ⟨b,hb⟩ : ∃ b : Nat,pickedZ backend 12 = b := ⟨(pickedZ backend 12).toNat,by omega⟩
 rw [hb] at p1
 have hb12 : b < 12 := by omega
 have hl12 := hws.len
 have hs0 := spl12 hws.len
 have htw : (ws.map fun w : Nat => I (w : Int)).take 12 = ws.map fun w : Nat => I (w : Int) := List.take_of_length_le (by simp [hl12])
 have hrl := ringM_len ws hws
 have hb1 : (b : Int) < 12 := by omega
 have hb2 : b ≤ 11 := by omega
 have hb3 : 0 < 12 - b := by omega
 obtain ⟨w,hw⟩ : ∃ w,w = ws.getD b 0 := ⟨_,rfl⟩
 have hat0 : ws[b]'(by omega) = w := by
  rw [hw,zC,zE (by omega)];rfl
 have hat : ws[b]? = some w := by rw [zE (by omega),hat0]
 have hw8 : w ≤ 8 := hat0 ▸ hws.le _ (List.getElem_mem _)
 have hself : ws.set b w = ws := by rw [← hat0];exact List.set_getElem_self _
 have hsame := rsame_pf (ringM ws) (by omega)
 by_cases h0 : 0 < w
 ·have hrem := rrem_pf ws hws b w hb12 hw.symm h0
  have hz : (ws.set b 0).getD b 0 = 0 := by
   rw [zC,List.getElem?_set_self (by omega)];rfl
  have hadd := radd_pf (ws.set b 0) (hws.set b 0 (by omega)) b w hb12 (by omega) hz
  have hlen := want_len_set (ws.set b 0) (hws.set b 0 (by omega)) b w hb12 hz
  rw [List.set_set,hself] at hadd hlen
  obtain ⟨R,hR⟩ : ∃ R,R = ringM (ws.set b 0) := ⟨_,rfl⟩
  rw [← hR] at hrem hadd hlen
  obtain ⟨Q,hQ⟩ : ∃ Q,Q = ringM ws := ⟨_,rfl⟩
  rw [← hQ] at hrem hadd hlen hsame hrg hrl
  have hlt : R.length < Q.length := by omega
  refine pO rback_code [0,1,2,6,7,8,9,10,11,12,13,14,15,16,17,18,20,30,34] [] fun B hBN hB0 => ?_
  repeat' (first
   | simp [hl12,hs0,htw,hat,hb1,hb2,hb3,h0,hlt]
   | refine ⟨wcS ?_,?_⟩
   | (refine WCall.pf (hrg) ?_ ?_ ?_ ?_;iterate 3 (solve|simp [hl12,hs0,htw,hat,hb1,hb2,hb3,h0,hlt]))
   | (refine WCall.pf (p1) ?_ ?_ ?_ ?_;iterate 3 (solve|simp [hl12,hs0,htw,hat,hb1,hb2,hb3,h0,hlt]))
   | (refine WCall.pf (hrem) ?_ ?_ ?_ ?_;iterate 3 (solve|simp [hl12,hs0,htw,hat,hb1,hb2,hb3,h0,hlt]))
   | (refine WCall.pf (hadd) ?_ ?_ ?_ ?_;iterate 3 (solve|simp [hl12,hs0,htw,hat,hb1,hb2,hb3,h0,hlt]))
   | (refine WCall.pf (hsame) ?_ ?_ ?_ ?_;iterate 3 (solve|simp [hl12,hs0,htw,hat,hb1,hb2,hb3,h0,hlt]))
   | with_reducible refine aI ?_ ?_ ?_)
 ·obtain rfl : w = 0 := by omega
  obtain ⟨v,hv⟩ : ∃ v : Nat,1 + pickedZ weight 8 = v := ⟨(1 + pickedZ weight 8).toNat,by omega⟩
  have iv : InR (v : Int) := inG (by omega) (by omega)
  have hadd := radd_pf ws hws b v hb12 (by omega) hw.symm
  have hlen := want_len_set ws hws b v hb12 hw.symm
  have hz : (ws.set b v).getD b 0 = v := by
   rw [zC,List.getElem?_set_self (by omega)];rfl
  have hrem := rrem_pf (ws.set b v) (hws.set b v (by omega)) b v hb12 hz (by omega)
  rw [List.set_set,hself] at hrem
  have hrem0 := rrem0_pf ws hws b hb12 hw.symm
  obtain ⟨R,hR⟩ : ∃ R,R = ringM (ws.set b v) := ⟨_,rfl⟩
  rw [← hR] at hrem hadd hlen
  obtain ⟨Q,hQ⟩ : ∃ Q,Q = ringM ws := ⟨_,rfl⟩
  rw [← hQ] at hrem hadd hlen hsame hrg hrl hrem0
  have hlt : Q.length < R.length := by omega
  refine pO rback_code [0,1,2,6,7,8,9,10,11,12,13,14,15,16,17,18,20,30,34] [] fun B hBN hB0 => ?_
  repeat' (first
   | simp [hl12,hs0,htw,hat,hb1,hb2,hb3,hlt,hv,iv]
   | refine ⟨wcS ?_,?_⟩
   | (refine WCall.pf (hrg) ?_ ?_ ?_ ?_;iterate 3 (solve|simp [hl12,hs0,htw,hat,hb1,hb2,hb3,hlt,hv,iv]))
   | (refine WCall.pf (p1) ?_ ?_ ?_ ?_;iterate 3 (solve|simp [hl12,hs0,htw,hat,hb1,hb2,hb3,hlt,hv,iv]))
   | (refine WCall.pf (p2) ?_ ?_ ?_ ?_;iterate 3 (solve|simp [hl12,hs0,htw,hat,hb1,hb2,hb3,hlt,hv,iv]))
   | (refine WCall.pf (hadd) ?_ ?_ ?_ ?_;iterate 3 (solve|simp [hl12,hs0,htw,hat,hb1,hb2,hb3,hlt,hv,iv]))
   | (refine WCall.pf (hrem) ?_ ?_ ?_ ?_;iterate 3 (solve|simp [hl12,hs0,htw,hat,hb1,hb2,hb3,hlt,hv,iv]))
   | (refine WCall.pf (hrem0) ?_ ?_ ?_ ?_;iterate 3 (solve|simp [hl12,hs0,htw,hat,hb1,hb2,hb3,hlt,hv,iv]))
   | (refine WCall.pf (hsame) ?_ ?_ ?_ ?_;iterate 3 (solve|simp [hl12,hs0,htw,hat,hb1,hb2,hb3,hlt,hv,iv]))
   | with_reducible refine aI ?_ ?_ ?_)
end Go.Proofs.Ytmdhegbdffbfoaa
