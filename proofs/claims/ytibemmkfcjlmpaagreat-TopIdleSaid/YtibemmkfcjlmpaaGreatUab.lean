/- What the program computes, step by step, and the rules for it. No condition of its own. -/
import Derived.Test.YtibemmkfcjlmpaaGreatUaa
import Derived.OrdersHeld
import Derived.Deep.RegionHeld
import Derived.Scope
import Derived.KernelRfl
import Derived.Maps.Keyed
import Derived.Maps.RangeRun
import Derived.MapKept
import Derived.Lib.AppendZerosOnto
import Derived.Laws.CopyRow
import Derived.Laws.IdiomCopy
import Derived.Lib.Overlaps
import Derived.Deep.AppendLies
import Derived.Deep.OwnShut
import Derived.Deep.Slices
import Derived.Deep.Onto
import Derived.Laws.AppendOwnNone
import Derived.RangeFuncBox
import Derived.StillTailTactics
import Derived.OrdersIn
import Derived.Test.YtibemmkfcjlmpaaGreatProg
set_option linter.unusedSimpArgs false
set_option linter.unusedVariables false
set_option maxRecDepth 100000
set_option maxHeartbeats 8000000
namespace Go.Proofs.YtibemmkfcjlmpaaGreat
open Go.RowKit
section
variable {P : Program} {sb : Bool} {B : Base} {w w' : World} {s s' : Nat → Value} {Z Z' : Cells} {st : St} {a : Act} {o : Oper} {K : St → Prop} {K' : Act → World → Prop} {Q : Exit → Act → World → Prop}
theorem cop_call {o : Op} {f : FuncId} {as_ : List Opd} (hc : cop P o = some (.call f as_)) : ∃ c,o = .call c ∧ c.callee = .value (.func f) ∧ opdsC c.args.toList = some as_ := by
 by_cases hl : opLoud o
 ·cases o with
  | call c =>
   refine ⟨c,rfl,?_⟩
   simp only [cop] at hc
   split at hc
   ·rename_i g hg
    split at hc <;> simp at hc
    rename_i f' ys hys
    obtain ⟨rfl,rfl⟩ := hc
    exact ⟨hg,hys⟩
   ·rename_i b hb
    split at hc
    ·split at hc <;> (try split at hc) <;> simp at hc
    ·simp at hc
    ·simp at hc
    ·split at hc
     ·split at hc
      ·split at hc
       ·split at hc <;> simp at hc
       ·cases hc
      ·cases hc
     ·cases hc
    ·cases hc
   ·cases hc
  | alloc t => simp [cop] at hc
  | box t x => simp [cop] at hc
  | store t x y => simp only [cop] at hc;split at hc <;> simp at hc
  | buildSlice t n qs =>
   simp only [cop] at hc
   split at hc
   ·split at hc
    ·split at hc <;> simp at hc
    ·cases hc
   ·cases hc
  | makeSlice t l c =>
   simp only [cop] at hc
   split at hc
   ·split at hc
    ·split at hc <;> simp at hc
    ·cases hc
   ·cases hc
  | _ => exact hl.elim
 ·have := cop_quiet hl hc
  cases this
theorem cop_callv {o : Op} {x : Opd} {as_ : List Opd} (hc : cop P o = some (.callv x as_)) : ∃ c t,o = .call c ∧ x = .t t ∧ c.callee = .value (.tmp t) ∧ opdsC c.args.toList = some as_ := by
 by_cases hl : opLoud o
 ·cases o with
  | call c =>
   simp only [cop] at hc
   split at hc
   ·rename_i g hg
    split at hc <;> simp at hc
    rename_i t ys hys
    obtain ⟨rfl,rfl⟩ := hc
    exact ⟨c,t,rfl,rfl,hg,hys⟩
   ·rename_i b hb
    split at hc
    ·split at hc <;> (try split at hc) <;> simp at hc
    ·simp at hc
    ·simp at hc
    ·split at hc
     ·split at hc
      ·split at hc
       ·split at hc <;> simp at hc
       ·cases hc
      ·cases hc
     ·cases hc
    ·cases hc
   ·cases hc
  | alloc t => simp [cop] at hc
  | box t x => simp [cop] at hc
  | store t x y => simp only [cop] at hc;split at hc <;> simp at hc
  | buildSlice t n qs =>
   simp only [cop] at hc
   split at hc
   ·split at hc
    ·split at hc <;> simp at hc
    ·cases hc
   ·cases hc
  | makeSlice t l c =>
   simp only [cop] at hc
   split at hc
   ·split at hc
    ·split at hc <;> simp at hc
    ·cases hc
   ·cases hc
  | _ => exact hl.elim
 ·have := cop_quiet hl hc
  cases this
theorem WCall.of {f : FuncId} {as_ : List Opd} {dst : Option Nat} (hok : oks st.env (.call f as_) = true) (hc : CallOk P sb B f (as_.map (evS st.env)) dst st K) : WCall P sb B (.call f as_) dst st K := by
 intro o s Z a w K' Q hcop hd hdst h hG
 obtain ⟨hcal,hc⟩ := hc
 obtain ⟨⟨cal,ars,ats⟩,ho,hcl,hys⟩ := cop_call hcop
 obtain ⟨ars⟩ := ars
 simp only at hcl hys
 subst hcl
 obtain ⟨g1,g2⟩ := args_sound h hys (fun y hy => oks_mem hok hy)
 have hcalls := hc s Z w (ars.map a.eval).toArray h.h (by simp [g1]) (fun j x hx => by simpa [Array.getD_eq_getD_getElem?] using g2 j x hx)
 refine wp_enter (f := f) (vs := (ars.map a.eval).toArray) ?_ (hcalls.mono fun e w' ⟨v,he,hbl,hL⟩ => ⟨v,he,goes_call h (by rw [hd];exact hdst) hbl (by rw [hd];exact hL) hG⟩)
 unfold execOp;rw [ho]
 have := callFunc_run (P := P) (w := w) hcal (ars.map a.eval).toArray
 simpa [resolve,invoke,Act.eval,Deferred.ofValue] using this
theorem WCall.ofv {x : Opd} {f : FuncId} {as_ : List Opd} {cs : List D} {dst : Option Nat} (hok : oks st.env (.callv x as_) = true) (hf : evS st.env x = .fn f cs) (hc : CallOk P sb B f (as_.map (evS st.env) ++ cs) dst st K) : WCall P sb B (.callv x as_) dst st K := by
 intro o s Z a w K' Q hcop hd hdst h hG
 obtain ⟨hcal,hc⟩ := hc
 obtain ⟨⟨cal,ars,ats⟩,t,ho,rfl,hcl,hys⟩ := cop_callv hcop
 obtain ⟨ars⟩ := ars
 simp only at hcl hys
 subst hcl
 obtain ⟨g1,g2⟩ := args_sound h hys (fun y hy => oks_mem hok (List.mem_cons_of_mem _ hy))
 have hvf := h.vr (x := .tmp t) (y := .t t) rfl (oks_mem hok (by simp [opnds]))
 rw [hf] at hvf
 generalize hav : a.eval (.tmp t) = fv at hvf
 cases hvf with
 | fn _ _ us hul huc =>
 have hcalls := hc s Z w ((ars.map a.eval).toArray ++ us) h.h (by simp [g1,hul]) (fun j x hx => by
  rw [Array.getD_eq_getD_getElem?]
  by_cases hj : j < as_.length
  ·rw [List.getElem?_append_left (by simpa using hj)] at hx
   rw [Array.getElem?_append_left (by simp;omega)]
   simpa using g2 j x hx
  ·rw [List.getElem?_append_right (by simpa using hj)] at hx
   rw [Array.getElem?_append_right (by simp;omega)]
   have := huc _ x hx
   rw [Array.getD_eq_getD_getElem?] at this
   simp only [List.length_map,List.size_toArray] at this ⊢
   rw [← g1]
   exact VR.of_vc (VC.of_vt this))
 refine wp_enter (f := f) (vs := (ars.map a.eval).toArray ++ us) ?_ (hcalls.mono fun e w' ⟨v,he,hbl,hL⟩ => ⟨v,he,goes_call h (by rw [hd];exact hdst) hbl (by rw [hd];exact hL) hG⟩)
 unfold execOp;rw [ho]
 have := callFunc_run (P := P) (w := w) hcal ((ars.map a.eval).toArray ++ us)
 simpa [resolve,invoke,hav,Deferred.ofValue] using this
theorem brwV_vv {H : List (Nat × Ob)} {x y : D} (hb : brwV H x = some y) {v : Value} (h : VR s Z x v) : VV s Z x v := by
 cases x <;> simp only [brwV,brwC,reduceCtorEq] at hb <;> exact h
theorem CallOk.pf {f : FuncId} {ds es : List D} {d : D} {dst : Option Nat} (hpf : PF P f es d) (hes : match omap (brwV st.heap) ds with | some e => leVL e es | none => False) (hno : (ds.all noV || flatR d) = true) (hK : K ⟨putO st.env dst d,st.heap,st.nx⟩) : CallOk P sb B f ds dst st K := by
 obtain ⟨hcal,hpf⟩ := hpf
 refine ⟨hcal,fun s Z w vs h hl hv0 => ?_⟩
 split at hes
 case h_2 => exact hes.elim
 rename_i es' hes'
 obtain ⟨g1,g2⟩ := omap_some hes'
 obtain ⟨l1,l2⟩ := leVL_get hes
 have hv : ∀ j x,ds[j]? = some x → VV s Z x (vs.getD j undef) := fun j x hx => by
  have hlt : j < es'.length := by rw [g1];exact (zB.1 hx).1
  obtain ⟨y,hy,hb⟩ := g2 j _ (zE hlt)
  rw [hx] at hy
  cases hy
  exact brwV_vv hb (hv0 j x hx)
 by_cases hall : ds.all noV = true
 ·have hee : es' = ds := List.ext_getElem? fun j => by
   cases hj : es'[j]? with
   | none => rw [List.getElem?_eq_none_iff] at hj;rw [List.getElem?_eq_none (by omega)]
   | some x =>
    obtain ⟨y,hy,hb⟩ := g2 j x hj
    rw [hy,brwV_no hb (List.all_eq_true.1 hall y (zD hy))]
  subst hee
  refine (hpf Z w vs h.zok (by omega) fun j x hx => by
   obtain ⟨y,hy,hle⟩ := l2 j x hx
   exact leV_sound hle ((hv j y hy).no (List.all_eq_true.1 hall y (zD hy)))).mono fun e w' ⟨v,Z',he,hr,hzx,hb⟩ => ⟨v,he,fun _ => hb,d,st.heap,st.nx,s,Z',hr.of0.1,hr.lt0.mono (Nat.zero_le _),h.call hb hzx,Nat.le_refl _,fun _ _ => rfl,hzx.old,hK⟩
 ·have hf : flatR d = true := by simpa [hall] using hno
  refine (hpf (allZ w) w vs (fun b o v h => h) (by omega) fun j x hx => ?_).mono fun e w' ⟨v,Z',he,hr,hzx,hb⟩ => ⟨v,he,fun _ => hb,d,st.heap,st.nx,s,Z,hr.flat hf,hr.lt0.mono (Nat.zero_le _),h.call hb (Zx.refl h.zok hb),Nat.le_refl _,fun _ _ => rfl,fun _ _ _ h => h,hK⟩
  obtain ⟨x',hx',hle⟩ := l2 j x hx
  obtain ⟨y,hy,hb⟩ := g2 j x' hx'
  exact leV_sound hle (brwV_sound h.know (fun b o v hz => h.zok b o v hz) (fun _ _ _ _ _ o v hc => hc) hb (hv j y hy))
theorem CallOk.pfn {f : FuncId} {ds es : List D} {d : D} {dst : Option Nat} (hpf : PFn P f es d) (hes : match omap (brwV st.heap) ds with | some e => leVL e es | none => False) (hK : K ⟨putO st.env dst d,st.heap,st.nx⟩) : CallOk P sb B f ds dst st K := by
 obtain ⟨hcal,hpf⟩ := hpf
 refine ⟨hcal,fun s Z w vs h hl hv0 => ?_⟩
 split at hes
 case h_2 => exact hes.elim
 rename_i es' hes'
 obtain ⟨g1,g2⟩ := omap_some hes'
 obtain ⟨l1,l2⟩ := leVL_get hes
 have hv : ∀ j x,ds[j]? = some x → VV s Z x (vs.getD j undef) := fun j x hx => by
  have hlt : j < es'.length := by rw [g1];exact (zB.1 hx).1
  obtain ⟨y,hy,hb⟩ := g2 j _ (zE hlt)
  rw [hx] at hy
  cases hy
  exact brwV_vv hb (hv0 j x hx)
 refine (hpf (allZ w) w vs (fun b o v h => h) (by omega) fun j x hx => ?_).mono ?_
 ·obtain ⟨x',hx',hle⟩ := l2 j x hx
  obtain ⟨y,hy,hb⟩ := g2 j x' hx'
  exact leV_sound hle (brwV_sound h.know (fun b o v hz => h.zok b o v hz) (fun _ _ _ _ _ o v hc => hc) hb (hv j y hy))
 rintro e w' ⟨v,Zn,he,hr,hn,hb⟩
 have hZ : ∀ b o u,Z b o = some u → b < w.heap.size := fun b o u hu => World.block_lt_of_cell? w _ (h.zok b o u hu)
 have hzx : Zx Z (fun b o => match Z b o with | some u => some u | none => Zn b o) w w' := by
  refine ⟨fun b o u hu => by simp only [hu],fun b o u hu => ?_,fun b o u hu => ?_⟩
  ·cases hq : Z b o with
   | none => simp only [hq] at hu;exact .inr (hn b o u hu).1
   | some u' => simp only [hq] at hu;exact .inl (by rw [← hu])
  ·cases hq : Z b o with
   | none => simp only [hq] at hu;exact (hn b o u hu).2
   | some u' =>
    simp only [hq,zA] at hu
    subst hu
    have := h.zok b o u' hq
    rw [hb.cell (p := ⟨b,o,none⟩) (World.block_lt_of_cell? w _ this)];exact this
 refine ⟨v,he,fun _ => hb,d,st.heap,st.nx,s,_,?_,hr.lt0.mono (Nat.zero_le _),h.call hb hzx,Nat.le_refl _,fun _ _ => rfl,hzx.old,hK⟩
 refine VR.mono (n := 0) (fun b o u hu => ?_) (fun _ h => by omega) hr.lt0 (hr.of0 (s := s)).1
 cases hq : Z b o with
 | none => simp only [hu]
 | some u' => have := hZ b o u' hq;have := (hn b o u hu).1;omega
end
theorem wcS {P : Program} {sb : Bool} {B : Base} {op : AOp} {dst : Option Nat} {st : St} {K : St → Prop} (h : WCall P sb B op dst st K) : WCall P sb B op dst st K := h
theorem aI {a b c : Prop} (x : a) (y : b) (z : c) : (a ∧ b) ∧ c := ⟨⟨x, y⟩, z⟩
def rnC (ρ : Nat → Nat) : D → D
 | .own id => .own (ρ id)
 | .ptr id j => .ptr (ρ id) j
 | .pel id i sz j => .pel (ρ id) i sz j
 | .sl id sz off len cap => .sl (ρ id) sz off len cap
 | .clo f ids => .clo f (ids.map ρ)
 | d => d
def rnV (ρ : Nat → Nat) : D → D
 | .agg ds => .agg (ds.map (rnC ρ))
 | d => rnC ρ d
def rnR (ρ : Nat → Nat) : D → D
 | .tup ds => .tup (ds.map (rnV ρ))
 | d => rnV ρ d
def rnO (ρ : Nat → Nat) : Ob → Ob
 | .cells ds => .cells (ds.map (rnC ρ))
 | .row sz xs => .row sz xs
 | .rowd sz xs => .rowd sz (xs.map (·.map (rnC ρ)))
 | .blk sz xs => .blk sz (xs.map (·.map (rnC ρ)))
 | .mp bare es ck => .mp bare es ck
 | .it m since seen last => .it (ρ m) since seen last
section
variable {s s' : Nat → Value} {Z : Cells} {w : World} {ρ : Nat → Nat} {n m : Nat}
theorem VC.rn (hs : ∀ id,id < n → s' (ρ id) = s id) {d : D} {v : Value} (hl : LtC n d) : VC s' Z (rnC ρ d) v ↔ VC s Z d v := by
 cases d with
 | own id => simp only [rnC,VC,hs id hl]
 | ptr id j => simp only [rnC,VC,hs id hl]
 | pel id i sz j => simp only [rnC,VC,hs id hl]
 | sl id sz off len cap => simp only [rnC,VC,hs id hl]
 | clo f ids =>
  constructor
  ·rintro ⟨vs,h1,h2,h3⟩
   refine ⟨vs,h1,by simpa using h2,fun j id hj => ?_⟩
   obtain ⟨b,g1,g2⟩ := h3 j (ρ id) (by rw [List.getElem?_map,hj];rfl)
   exact ⟨b,by rw [← hs id (hl id (zD hj))];exact g1,g2⟩
  ·rintro ⟨vs,h1,h2,h3⟩
   refine ⟨vs,h1,by simpa using h2,fun j id hj => ?_⟩
   rw [List.getElem?_map] at hj
   cases hi : ids[j]? with
   | none => rw [hi] at hj;cases hj
   | some i =>
    rw [hi] at hj
    simp only [Option.map_some,zA] at hj
    subst hj
    obtain ⟨b,g1,g2⟩ := h3 j i hi
    exact ⟨b,by rw [hs i (hl i (zD hi))];exact g1,g2⟩
 | _ => exact Iff.rfl
theorem map_get {α β : Type} (f : α → β) (l : List α) (j : Nat) (y : β) : (l.map f)[j]? = some y ↔ ∃ x,l[j]? = some x ∧ f x = y := by
 rw [List.getElem?_map];cases l[j]? <;> simp
theorem VV.rn (hs : ∀ id,id < n → s' (ρ id) = s id) {d : D} {v : Value} (hl : LtV n d) : VV s' Z (rnV ρ d) v ↔ VV s Z d v := by
 cases d with
 | agg ds =>
  constructor
  ·rintro ⟨vs,rfl,h1,h2⟩
   refine ⟨vs,rfl,by simpa using h1,fun j x hx => ?_⟩
   exact (VC.rn hs (hl x (zD hx))).1 (h2 j _ ((map_get _ _ _ _).2 ⟨x,hx,rfl⟩))
  ·rintro ⟨vs,rfl,h1,h2⟩
   refine ⟨vs,rfl,by simpa using h1,fun j y hy => ?_⟩
   obtain ⟨x,hx,rfl⟩ := (map_get _ _ _ _).1 hy
   exact (VC.rn hs (hl x (zD hx))).2 (h2 j x hx)
 | own id => exact VC.rn (Z := Z) (d := .own id) hs hl
 | ptr id j => exact VC.rn (Z := Z) (d := .ptr id j) hs hl
 | pel id i sz j => exact VC.rn (Z := Z) (d := .pel id i sz j) hs hl
 | sl id sz off len cap => exact VC.rn (Z := Z) (d := .sl id sz off len cap) hs hl
 | clo f ids => exact VC.rn (Z := Z) (d := .clo f ids) hs hl
 | _ => exact Iff.rfl
theorem VR.rn (hs : ∀ id,id < n → s' (ρ id) = s id) {d : D} {v : Value} (hl : LtR n d) : VR s' Z (rnR ρ d) v ↔ VR s Z d v := by
 cases d with
 | tup ds =>
  constructor
  ·rintro ⟨vs,rfl,h1,h2⟩
   refine ⟨vs,rfl,by simpa using h1,fun j x hx => ?_⟩
   exact (VV.rn hs (hl x (zD hx))).1 (h2 j _ ((map_get _ _ _ _).2 ⟨x,hx,rfl⟩))
  ·rintro ⟨vs,rfl,h1,h2⟩
   refine ⟨vs,rfl,by simpa using h1,fun j y hy => ?_⟩
   obtain ⟨x,hx,rfl⟩ := (map_get _ _ _ _).1 hy
   exact (VV.rn hs (hl x (zD hx))).2 (h2 j x hx)
 | agg ds => exact VV.rn (Z := Z) (d := .agg ds) hs hl
 | own id => exact VC.rn (Z := Z) (d := .own id) hs hl
 | ptr id j => exact VC.rn (Z := Z) (d := .ptr id j) hs hl
 | pel id i sz j => exact VC.rn (Z := Z) (d := .pel id i sz j) hs hl
 | sl id sz off len cap => exact VC.rn (Z := Z) (d := .sl id sz off len cap) hs hl
 | clo f ids => exact VC.rn (Z := Z) (d := .clo f ids) hs hl
 | _ => exact Iff.rfl
theorem LtC.rn (hm : ∀ id,id < n → ρ id < m) {d : D} (hl : LtC n d) : LtC m (rnC ρ d) := by
 cases d with
 | clo f ids =>
  intro id hid
  obtain ⟨i,hi,rfl⟩ := List.mem_map.1 hid
  exact hm i (hl i hi)
 | _ => first | exact hm _ hl | trivial
theorem LtV.rn (hm : ∀ id,id < n → ρ id < m) {d : D} (hl : LtV n d) : LtV m (rnV ρ d) := by
 cases d with
 | agg ds => intro y hy;obtain ⟨x,hx,rfl⟩ := List.mem_map.1 hy;exact LtC.rn hm (hl x hx)
 | own id => exact hm _ hl
 | ptr id j => exact hm _ hl
 | pel id i sz j => exact hm _ hl
 | sl id sz off len cap => exact hm _ hl
 | clo f ids => exact LtC.rn (d := .clo f ids) hm hl
 | _ => trivial
theorem LtR.rn (hm : ∀ id,id < n → ρ id < m) {d : D} (hl : LtR n d) : LtR m (rnR ρ d) := by
 cases d with
 | tup ds => intro y hy;obtain ⟨x,hx,rfl⟩ := List.mem_map.1 hy;exact LtV.rn hm (hl x hx)
 | agg ds => exact LtV.rn (d := .agg ds) hm hl
 | own id => exact hm _ hl
 | ptr id j => exact hm _ hl
 | pel id i sz j => exact hm _ hl
 | sl id sz off len cap => exact hm _ hl
 | clo f ids => exact LtC.rn (d := .clo f ids) hm hl
 | _ => trivial
theorem LtO.rn (hm : ∀ id,id < n → ρ id < m) {ob : Ob} (hl : LtO n ob) : LtO m (rnO ρ ob) := by
 cases ob with
 | cells ds => intro y hy;obtain ⟨x,hx,rfl⟩ := List.mem_map.1 hy;exact LtC.rn hm (hl x hx)
 | row sz xs => trivial
 | mp bare es ck => trivial
 | it m since seen last => exact hm _ hl
 | rowd sz xs =>
  intro r hr y hy
  obtain ⟨r',hr',rfl⟩ := List.mem_map.1 hr
  obtain ⟨x,hx,rfl⟩ := List.mem_map.1 hy
  exact LtC.rn hm (hl r' hr' x hx)
 | blk sz xs =>
  intro r hr y hy
  obtain ⟨r',hr',rfl⟩ := List.mem_map.1 hr
  obtain ⟨x,hx,rfl⟩ := List.mem_map.1 hy
  exact LtC.rn hm (hl r' hr' x hx)
theorem rnC_any {ρ : Nat → Nat} {d : D} : rnC ρ d = .any ↔ d = .any := by
 cases d <;> simp [rnC]
theorem ObOk.rn (hs : ∀ id,id < n → s' (ρ id) = s id) {ob : Ob} {v : Value} (hl : LtO n ob) : ObOk s' Z w (rnO ρ ob) v ↔ ObOk s Z w ob v := by
 cases ob with
 | cells ds =>
  constructor
  ·rintro ⟨b,T,cs,rfl,h1,h2,h3⟩
   refine ⟨b,T,cs,rfl,h1,by simpa using h2,fun j x hx => ?_⟩
   exact (VC.rn hs (hl x (zD hx))).1 (h3 j _ ((map_get _ _ _ _).2 ⟨x,hx,rfl⟩))
  ·rintro ⟨b,T,cs,rfl,h1,h2,h3⟩
   refine ⟨b,T,cs,rfl,h1,by simpa using h2,fun j y hy => ?_⟩
   obtain ⟨x,hx,rfl⟩ := (map_get _ _ _ _).1 hy
   exact (VC.rn hs (hl x (zD hx))).2 (h3 j x hx)
 | row sz xs => exact Iff.rfl
 | mp bare es ck => exact Iff.rfl
 | it m since seen last => have := hs m hl;simp only [rnO,ObOk,this]
 | rowd sz xs =>
  constructor
  ·rintro ⟨h1,h2,h3⟩
   refine ⟨h1,fun row hr => by simpa using h2 _ (List.mem_map.2 ⟨row,hr,rfl⟩),?_⟩
   rcases h3 with ⟨h3,h4⟩ | ⟨g,cap,cur,e,h3,h4,h5,h6,h7,h8⟩
   ·exact .inl ⟨by simpa using h3,h4⟩
   ·refine .inr ⟨g,cap,cur,e,by simpa using h3,h4,by simpa using h5,h6,h7,fun i row j d hi hj => ?_⟩
    exact (VC.rn hs (hl row (zD hi) d (zD hj))).1 (h8 i _ j _ ((map_get _ _ _ _).2 ⟨row,hi,rfl⟩) ((map_get _ _ _ _).2 ⟨d,hj,rfl⟩))
  ·rintro ⟨h1,h2,h3⟩
   refine ⟨h1,fun row hr => ?_,?_⟩
   ·obtain ⟨r,hr',rfl⟩ := List.mem_map.1 hr
    simpa using h2 r hr'
   ·rcases h3 with ⟨h3,h4⟩ | ⟨g,cap,cur,e,h3,h4,h5,h6,h7,h8⟩
    ·exact .inl ⟨by simpa using h3,h4⟩
    ·refine .inr ⟨g,cap,cur,e,by simpa using h3,h4,by simpa using h5,h6,h7,fun i row j d hi hj => ?_⟩
     obtain ⟨r,hr',rfl⟩ := (map_get _ _ _ _).1 hi
     obtain ⟨x,hx,rfl⟩ := (map_get _ _ _ _).1 hj
     exact (VC.rn hs (hl r (zD hr') x (zD hx))).2 (h8 i r j x hr' hx)
 | blk sz xs =>
  constructor
  ·rintro ⟨h1,h2,g,n',cur,e,h3,h4,h5,h6,h7,h8⟩
   refine ⟨h1,fun row hr => by simpa using h2 _ (List.mem_map.2 ⟨row,hr,rfl⟩),g,n',cur,e,by simpa using h3,h4,by simpa using h5,by simpa using h6,by simpa using h7,fun i row j d hi hj hd => ?_⟩
   exact (VC.rn hs (hl row (zD hi) d (zD hj))).1 (h8 i _ j _ ((map_get _ _ _ _).2 ⟨row,hi,rfl⟩) ((map_get _ _ _ _).2 ⟨d,hj,rfl⟩) fun h => hd (rnC_any.1 h))
  ·rintro ⟨h1,h2,g,n',cur,e,h3,h4,h5,h6,h7,h8⟩
   refine ⟨h1,fun row hr => ?_,g,n',cur,e,by simpa using h3,h4,by simpa using h5,by simpa using h6,by simpa using h7,fun i row j d hi hj hd => ?_⟩
   ·obtain ⟨r,hr',rfl⟩ := List.mem_map.1 hr
    simpa using h2 r hr'
   ·obtain ⟨r,hr',rfl⟩ := (map_get _ _ _ _).1 hi
    obtain ⟨x,hx,rfl⟩ := (map_get _ _ _ _).1 hj
    exact (VC.rn hs (hl r (zD hr') x (zD hx))).2 (h8 i r j x hr' hx fun h => hd (by rw [h];rfl))
end
def rho (l : List Nat) (n0 nx id : Nat) : Nat := if id < n0 then l.getD id 0 else nx + (id - n0)
def hputs (ρ : Nat → Nat) : List (Nat × Ob) → List (Nat × Ob) → List (Nat × Ob)
 | [],H => H
 | (id,ob) :: L,H => eput (hputs ρ L H) (ρ id) (rnO ρ ob)
def herases : List Nat → List (Nat × Ob) → List (Nat × Ob)
 | [],H => H
 | k :: ks,H => herases ks (herase H k)
theorem hget_hputs {ρ : Nat → Nat} {H : List (Nat × Ob)} {k : Nat} {ob : Ob} : ∀ {L : List (Nat × Ob)},hget (hputs ρ L H) k = some ob → (∃ id ob',hget L id = some ob' ∧ k = ρ id ∧ ob = rnO ρ ob') ∨ hget H k = some ob
 | [],h => .inr h
 | (id,o) :: L,h => by
  simp only [hputs,hget_eput] at h
  split at h
  ·rename_i hk
   cases h
   exact .inl ⟨id,o,by simp [hget],hk,rfl⟩
  ·rename_i hk
   rcases hget_hputs h with ⟨id',o',h1,h2,h3⟩ | h
   ·refine .inl ⟨id',o',?_,h2,h3⟩
    have : id' ≠ id := by rintro rfl;exact hk h2
    simp [hget,this,h1]
   ·exact .inr h
theorem hget_herases {k : Nat} {ob : Ob} : ∀ {l : List Nat} {H : List (Nat × Ob)},hget (herases l H) k = some ob → hget H k = some ob ∧ k ∉ l
 | [],H,h => ⟨h,by simp⟩
 | j :: l,H,h => by
  obtain ⟨h1,h2⟩ := hget_herases (l := l) h
  rw [hget_herase] at h1
  split at h1
  ·cases h1
  ·rename_i hj;exact ⟨h1,by simp [hj,h2]⟩
theorem hget_mem {id : Nat} {ob : Ob} : ∀ {H : List (Nat × Ob)},hget H id = some ob → (id,ob) ∈ H
 | [],h => by cases h
 | (k,o) :: H,h => by
  simp only [hget] at h
  split at h
  ·rename_i e;cases h;subst e;simp
  ·exact List.mem_cons_of_mem _ (hget_mem h)
section
variable {P : Program} {sb : Bool} {B : Base} {st : St} {K : St → Prop}
theorem CallOk.hf {f : FuncId} {ds ds0 : List D} {dst : Option Nat} {H0 : List (Nat × Ob)} {n0 : Nat} {R : D → List (Nat × Ob) → Nat → Prop} (hf : HF P f ds0 H0 n0 R) (hsb : sb = true → H0 = []) (l : List Nat)
  (hl : l.length = n0) (hnd : l.Nodup) (hlt : ∀ k ∈ l,k < st.nx) (hds : ds = ds0.map (rnV (rho l n0 st.nx))) (hao : ds0.all argOk = true) (hdl : ∀ d ∈ ds0,LtV n0 d)
  (hH0 : ∀ p ∈ H0,p.1 < n0 ∧ LtO n0 p.2 ∧ hget st.heap (rho l n0 st.nx p.1) = some (rnO (rho l n0 st.nx) p.2))
  (hK : ∀ d H' nx',n0 ≤ nx' → R d H' nx' → K ⟨putO st.env dst (rnR (rho l n0 st.nx) d),hputs (rho l n0 st.nx) H' (herases l st.heap),st.nx + (nx' - n0)⟩) : CallOk P sb B f ds dst st K := by
 obtain ⟨hcal,hf⟩ := hf
 refine ⟨hcal,fun s Z w vs h hvl hv0 => ?_⟩
 subst hds
 have hlow : ∀ id,id < n0 → rho l n0 st.nx id = l.getD id 0 ∧ rho l n0 st.nx id ∈ l ∧ rho l n0 st.nx id < st.nx := fun id hid => by
  have h1 : rho l n0 st.nx id = l.getD id 0 := by simp [rho,hid]
  have h2 : l.getD id 0 ∈ l := by
   rw [zC,zE (by omega)]
   exact List.getElem_mem _
  exact ⟨h1,by rw [h1];exact h2,by rw [h1];exact hlt _ h2⟩
 have hinj0 : ∀ i j,i < n0 → j < n0 → rho l n0 st.nx i = rho l n0 st.nx j → i = j := fun i j hi hj e => by
  rw [(hlow i hi).1,(hlow j hj).1] at e
  rw [zC,zC,zE (by omega),zE (by omega)] at e
  exact (List.getElem_inj hnd).1 e
 generalize hρ : rho l n0 st.nx = ρ at *
 have hhigh : ∀ id,¬ id < n0 → ρ id = st.nx + (id - n0) := fun id hid => by rw [← hρ];simp [rho,hid]
 let t0 : Nat → Value := fun id => s (ρ id)
 let F0 : Nat → Prop := fun b => ∃ id ob,hget H0 id = some ob ∧ blk (s (ρ id)) = some b
 have hH : ∀ id ob,hget H0 id = some ob → id < n0 ∧ LtO n0 ob ∧ hget st.heap (ρ id) = some (rnO ρ ob) := fun id ob hh => hH0 _ (hget_mem hh)
 have rel0 : RelH ⟨0,F0,w,n0,t0,Z⟩ t0 Z H0 n0 w := by
  refine ⟨fun id ob hh => ?_,fun id ob hh => ⟨(hH id ob hh).1,(hH id ob hh).2.1⟩,fun id id' ob ob' b hh hh' hne hb => ?_,h.zok,fun id ob b o hh hb => ?_,fun id ob b hh hb => .inr ⟨id,ob,hh,hb⟩,Fr.refl _ _,Nat.le_refl _,fun _ _ => rfl,fun _ _ _ h => h,fun _ _ _ h => .inl h⟩
  ·obtain ⟨h1,h2,h3⟩ := hH id ob hh
   exact (ObOk.rn (n := n0) (s := t0) (s' := s) (fun _ _ => rfl) h2).1 (h.ob _ _ h3)
  ·obtain ⟨h1,h2,h3⟩ := hH id ob hh
   obtain ⟨g1,g2,g3⟩ := hH id' ob' hh'
   exact h.apart _ _ _ _ b h3 g3 (fun e => hne (hinj0 _ _ h1 g1 e)) hb
  ·obtain ⟨h1,h2,h3⟩ := hH id ob hh
   exact h.zap _ _ b o h3 hb
 have hargs : ∀ j x,ds0[j]? = some x → VV t0 Z x (vs.getD j undef) := fun j x hx => by
  have h1 := hv0 j _ ((map_get _ _ _ _).2 ⟨x,hx,rfl⟩)
  have hmem := zD hx
  have ha := List.all_eq_true.1 hao x hmem
  have h2 : VV s Z (rnV ρ x) (vs.getD j undef) := by
   cases x <;> first | exact h1 | cases ha
  exact (VV.rn (n := n0) (s := t0) (s' := s) (fun _ _ => rfl) (hdl x hmem)).1 h2
 refine (hf F0 t0 Z w vs rel0 (by simpa using hvl) hargs).mono ?_
 rintro e w' ⟨v,d,H',nx',s',Z',he,hr,hrl,hR,hpost⟩
 let s1 : Nat → Value := fun k => if k < st.nx then s k else s' (n0 + (k - st.nx))
 have hn0 : n0 ≤ nx' := hR.n0
 have hs1 : ∀ id,id < nx' → s1 (ρ id) = s' id := fun id hid => by
  by_cases h1 : id < n0
  ·have h2 := (hlow id h1).2.2
   show (if ρ id < st.nx then s (ρ id) else _) = _
   rw [if_pos h2]
   exact (hR.bs id h1).symm
  ·have h2 := hhigh id h1
   show (if ρ id < st.nx then _ else s' (n0 + (ρ id - st.nx))) = _
   rw [if_neg (by omega),h2]
   congr 1;omega
 have hlt1 : ∀ id,id < nx' → ρ id < st.nx + (nx' - n0) := fun id hid => by
  by_cases h1 : id < n0
  ·have := (hlow id h1).2.2;omega
  ·have := hhigh id h1;omega
 have hold : ∀ id,id < st.nx → s1 id = s id := fun id hid => if_pos hid
 have hcase : ∀ k ob,hget (hputs ρ H' (herases l st.heap)) k = some ob → (∃ id ob',hget H' id = some ob' ∧ k = ρ id ∧ ob = rnO ρ ob') ∨ (hget st.heap k = some ob ∧ k ∉ l) := fun k ob hk => by
  rcases hget_hputs hk with h1 | h1
  ·exact .inl h1
  ·exact .inr (hget_herases h1)
 have away : ∀ k ob,hget st.heap k = some ob → k ∉ l → ∀ b,blk (s k) = some b → b < w.heap.size ∧ ¬ F0 b := fun k ob hk hkl b hb => by
  refine ⟨(h.ob k ob hk).lt b hb,fun ⟨id,ob',hid,hb'⟩ => ?_⟩
  obtain ⟨h1,h2,h3⟩ := hH id ob' hid
  have h4 : k ≠ ρ id := fun e => hkl (by rw [e];exact (hlow id h1).2.1)
  exact h.apart _ _ _ _ b hk h3 h4 hb hb'
 have hbel : sb = true → Below w.heap.size w w' := fun hb => by
  have := hsb hb
  subst this
  exact ⟨hR.fr.os,hR.fr.tape,hR.fr.output,hR.fr.size,fun k hk => hR.fr.block k hk (fun ⟨id',o2,h5,_⟩ => by cases h5)⟩
 refine ⟨v,he,hbel,rnR ρ d,hputs ρ H' (herases l st.heap),st.nx + (nx' - n0),s1,Z',(VR.rn hs1 hrl).2 hr,LtR.rn hlt1 hrl,?_,by omega,hold,hR.bz,hK d H' nx' hn0 hpost⟩
 constructor
 ·intro k ob hk
  rcases hcase k ob hk with ⟨id,ob',h1,rfl,rfl⟩ | ⟨h1,h2⟩
  ·have h3 := hR.lt id ob' h1
   rw [hs1 id h3.1]
   exact (ObOk.rn hs1 h3.2).2 (hR.ob id ob' h1)
  ·have h3 := h.lt k ob h1
   rw [hold k h3.1]
   exact (h.ob k ob h1).mono hR.bz hold h3.2 fun b hb => by
    obtain ⟨g1,g2⟩ := away k ob h1 h2 b hb
    exact hR.fr.block b g1 g2
 ·intro k ob hk
  rcases hcase k ob hk with ⟨id,ob',h1,rfl,rfl⟩ | ⟨h1,h2⟩
  ·have h3 := hR.lt id ob' h1
   exact ⟨hlt1 id h3.1,LtO.rn hlt1 h3.2⟩
  ·have h3 := h.lt k ob h1
   exact ⟨by omega,h3.2.mono (by omega)⟩
 ·intro k k' ob ob' b hk hk' hne hb
  rcases hcase k ob hk with ⟨id,o1,h1,rfl,rfl⟩ | ⟨h1,h2⟩
  ·have h3 := hR.lt id o1 h1
   rw [hs1 id h3.1] at hb
   rcases hcase k' ob' hk' with ⟨id',o2,g1,rfl,rfl⟩ | ⟨g1,g2⟩
   ·have g3 := hR.lt id' o2 g1
    rw [hs1 id' g3.1]
    exact hR.apart id id' o1 o2 b h1 g1 (fun e => hne (by rw [e])) hb
   ·rw [hold k' (h.lt k' ob' g1).1]
    intro hb2
    obtain ⟨q1,q2⟩ := away k' ob' g1 g2 b hb2
    rcases hR.mine id o1 b h1 hb with h5 | h5
    ·simp only at h5;omega
    ·exact q2 h5
  ·rw [hold k (h.lt k ob h1).1] at hb
   rcases hcase k' ob' hk' with ⟨id',o2,g1,rfl,rfl⟩ | ⟨g1,g2⟩
   ·have g3 := hR.lt id' o2 g1
    rw [hs1 id' g3.1]
    intro hb2
    obtain ⟨q1,q2⟩ := away k ob h1 h2 b hb
    rcases hR.mine id' o2 b g1 hb2 with h5 | h5
    ·simp only at h5;omega
    ·exact q2 h5
   ·rw [hold k' (h.lt k' ob' g1).1]
    exact h.apart k k' ob ob' b h1 g1 hne hb
 ·exact hR.zok
 ·intro k ob b o hk hb
  rcases hcase k ob hk with ⟨id,o1,h1,rfl,rfl⟩ | ⟨h1,h2⟩
  ·rw [hs1 id (hR.lt id o1 h1).1] at hb
   exact hR.zap id o1 b o h1 hb
  ·rw [hold k (h.lt k ob h1).1] at hb
   obtain ⟨q1,q2⟩ := away k ob h1 h2 b hb
   cases hq : Z' b o with
   | none => rfl
   | some u =>
    rcases hR.bn b o u hq with h5 | h5 | h5
    ·have h6 := h.zap k ob b o h1 hb
     simp only at h5
     rw [h6] at h5;cases h5
    ·simp only at h5;omega
    ·exact absurd h5 q2
 ·intro k ob b hk hb
  rcases hcase k ob hk with ⟨id,o1,h1,rfl,rfl⟩ | ⟨h1,h2⟩
  ·rw [hs1 id (hR.lt id o1 h1).1] at hb
   rcases hR.mine id o1 b h1 hb with h5 | ⟨id',o2,h5,h6⟩
   ·exact .inl (Nat.le_trans h.fr.size h5)
   ·obtain ⟨g1,g2,g3⟩ := hH id' o2 h5
    exact h.mine _ _ b g3 h6
  ·rw [hold k (h.lt k ob h1).1] at hb
   exact h.mine k ob b h1 hb
 ·refine ⟨hR.fr.os.trans h.fr.os,hR.fr.tape.trans h.fr.tape,hR.fr.output.trans h.fr.output,Nat.le_trans h.fr.size hR.fr.size,fun k hk hf => ?_⟩
  have hnf : ¬ F0 k := fun ⟨id',o2,h5,h6⟩ => by
   obtain ⟨g1,g2,g3⟩ := hH id' o2 h5
   rcases h.mine _ _ k g3 h6 with h7 | h7
   ·omega
   ·exact hf h7
  rw [hR.fr.block k (Nat.lt_of_lt_of_le hk h.fr.size) hnf]
  exact h.fr.block k hk hf
 ·have := h.n0;omega
 ·intro id hid
  rw [hold id (Nat.lt_of_lt_of_le hid h.n0)]
  exact h.bs id hid
 ·exact fun b o v hv => hR.bz b o v (h.bz b o v hv)
 ·intro b o u hu
  rcases hR.bn b o u hu with h5 | h5 | ⟨id',o2,h5,h6⟩
  ·exact h.bn b o u h5
  ·exact .inr (.inl (Nat.le_trans h.fr.size h5))
  ·obtain ⟨g1,g2,g3⟩ := hH id' o2 h5
   exact .inr (h.mine _ _ b g3 h6)
end
section
variable {P : Program} {ops : Array Oper} {Q : Exit → Act → World → Prop} {md : Region.Mode} {late : Nat → Bool} {w0 : World}
def Kept (late : Nat → Bool) (w0 : World) (listed : Array Bool) (w : World) : Prop :=
 Below w0.heap.size w0 w ∨ ∃ t,late t = true ∧ listed.getD t false = true
def Closed (md : Region.Mode) (ops : Array Oper) (listed : Array Bool) : Prop :=
 ∀ j oj,ops[j]? = some oj → listed.getD j false = true → ∀ e ∈ oj.after,Region.binds md e = true → listed.getD e.on false = true
def AnyK (P : Program) (md : Region.Mode) (ops : Array Oper) (Q : Exit → Act → World → Prop) (late : Nat → Bool) (w0 : World) : Nat → Array Bool → Act → World → Prop
 | 0,listed,a,w => Region.ready md ops listed = [] ∧ Q .normal a w
 | fuel + 1,listed,a,w =>
  (Region.ready md ops listed = [] → Q .normal a w) ∧
  ∀ i ∈ Region.ready md ops listed,wpOp P ops Q i (fun a' w' => Kept late w0 (listed.setIfInBounds i true) w' ∧ AnyK P md ops Q late w0 fuel (listed.setIfInBounds i true) a' w') a w
theorem any_of_K : ∀ (fuel : Nat) (listed : Array Bool) (a : Act) (w : World),AnyK P md ops Q late w0 fuel listed a w → wpAny P md ops Q fuel listed a w
 | 0,_,_,_,h => h
 | fuel + 1,_,_,_,h => ⟨h.1,fun i hi => wpOp_mono (fun a' w' h' => any_of_K fuel _ a' w' h'.2) (h.2 i hi)⟩
theorem Closed.set {i : Nat} {listed : Array Bool} (h : Closed md ops listed) (hi : i ∈ Region.ready md ops listed) : Closed md ops (listed.setIfInBounds i true) := by
 obtain ⟨_,oi,hoi,hall⟩ := mem_ready.1 hi
 intro j oj hj hl e he hb
 by_cases hij : i = j
 ·subst hij
  obtain rfl : oj = oi := Option.some.inj (hj.symm.trans hoi)
  exact getD_set_true (hall e he hb)
 ·rw [getD_set_ne false hij] at hl
  exact getD_set_true (h j oj hj hl e he hb)
theorem Kept.below {i : Nat} {listed : Array Bool} {w : World} (hk : Kept late w0 listed w) (hun : listed.getD i true = false)
  (hl : ∀ t,late t = true → listed.getD t false = true → listed.getD i false = true) : Below w0.heap.size w0 w := by
 rcases hk with h | ⟨t,h1,h2⟩
 ·exact h
 ·have h3 := hl t h1 h2
  rcases Nat.lt_or_ge i listed.size with h' | h'
  ·simp [h'] at hun h3;rw [hun] at h3;cases h3
  ·simp [Array.getElem?_eq_none h'] at h3
theorem Kept.more {i : Nat} {listed : Array Bool} {w : World} (hk : Kept late w0 listed w) : Kept late w0 (listed.setIfInBounds i true) w := by
 rcases hk with h | ⟨t,h1,h2⟩
 ·exact .inl h
 ·exact .inr ⟨t,h1,getD_set_true h2⟩
theorem anyK_first {i : Nat} {oi : Oper} {v : Value} (hi : ops[i]? = some oi) (hsel : ∀ (j : Nat) (o : Oper) cs b,ops[j]? = some o → o.op ≠ .select cs b)
  (hQ : ∀ c a w,Q (.panic c) (a.put oi.dst v) w → Q (.panic c) a w)
  (S : World → Prop) (hl : ∀ listed w,Closed md ops listed → listed.getD i true = false → Kept late w0 listed w → S w) (hli : late i = false) :
  ∀ (fuel : Nat) (listed : Array Bool) (a : Act) (w : World),Closed md ops listed →
   (∀ j oj,ops[j]? = some oj → j ≠ i → listed.getD j true = false → (∀ e ∈ oj.after,Region.binds md e = true → e.on ≠ i) → oi.apart ops oj = true) →
   i ∈ Region.ready md ops listed → YieldsIf P ops S oi v a → Kept late w0 listed w →
   AnyK P md ops Q late w0 fuel (listed.setIfInBounds i true) (a.put oi.dst v) w → AnyK P md ops Q late w0 (fuel + 1) listed a w := by
 intro fuel
 induction fuel with
 | zero =>
  intro listed a w hcl _ hr hy hS H
  have hun := (mem_ready.1 hr).1
  refine ⟨fun h => (by rw [h] at hr;cases hr),fun j hj => ?_⟩
  by_cases hji : j = i
  ·subst hji
   exact hy.wpOp hi (hl _ _ hcl hun hS) ⟨hS.more,H⟩
  ·have := ready_mono hj hji
   rw [H.1] at this
   cases this
 | succ fuel ih =>
  intro listed a w hcl hfree hr hy hS H
  have hun := (mem_ready.1 hr).1
  refine ⟨fun h => (by rw [h] at hr;cases hr),fun j hj => ?_⟩
  by_cases hji : j = i
  ·subst hji;exact hy.wpOp hi (hl _ _ hcl hun hS) ⟨hS.more,H⟩
  ·have h1 := H.2 j (ready_mono hj hji)
   obtain ⟨hjun,oj,hoj,hall⟩ := mem_ready.1 hj
   have hnot : ∀ e ∈ oj.after,Region.binds md e = true → e.on ≠ i := fun e he hb' heq => by
    have h1 := hall e he hb'
    rw [heq] at h1
    rcases Nat.lt_or_ge i listed.size with h' | h'
    ·simp [h'] at hun h1;rw [hun] at h1;cases h1
    ·simp [Array.getElem?_eq_none h'] at h1
   have h2 := wpOp_putIf hoj (hfree j oj hoj hji hjun hnot) (fun cs b => hsel i oi cs b hi) (fun cs b => hsel j oj cs b hoj) hQ hy h1
   have hfree' : ∀ k ok,ops[k]? = some ok → k ≠ i → (listed.setIfInBounds j true).getD k true = false →
     (∀ e ∈ ok.after,Region.binds md e = true → e.on ≠ i) → oi.apart ops ok = true := fun k ok hk hki hun hno => by
    refine hfree k ok hk hki ?_ hno
    by_cases hjk : j = k
    ·subst hjk;exact hjun
    ·rw [getD_set_ne true hjk] at hun;exact hun
   have hcl' := hcl.set hj
   have hki : ∀ w',Kept late w0 ((listed.setIfInBounds i true).setIfInBounds j true) w' → Kept late w0 (listed.setIfInBounds j true) w' := fun w' hk => by
    rcases hk with hk | ⟨t,ht,hlt⟩
    ·exact .inl hk
    ·refine .inr ⟨t,ht,?_⟩
     have hti : i ≠ t := fun h => by rw [← h,hli] at ht;cases ht
     rw [Array.setIfInBounds_comm _ _ (Ne.symm hji),getD_set_ne false hti] at hlt
     exact hlt
   refine wpOp_mono (fun a' w' h3 => ⟨hki w' h3.2.1,ih (listed.setIfInBounds j true) a' w' hcl' hfree' (ready_mono hr (Ne.symm hji)) h3.1 (hki w' h3.2.1) ?_⟩) h2
   rw [Array.setIfInBounds_comm _ _ hji]
   exact h3.2.2
theorem anyK_base {late' : Nat → Bool} {w1 : World} (hk : ∀ listed w,Kept late' w1 listed w → Kept late w0 listed w) : ∀ {fuel : Nat} {listed : Array Bool} {a : Act} {w : World},AnyK P md ops Q late' w1 fuel listed a w → AnyK P md ops Q late w0 fuel listed a w
 | 0,_,_,_,h => h
 | _ + 1,_,_,_,h => ⟨h.1,fun i hi => wpOp_mono (fun _ _ h' => ⟨hk _ _ h'.1,anyK_base hk h'.2⟩) (h.2 i hi)⟩
theorem anyK_late {late' : Nat → Bool} {w1 : World} : ∀ {fuel : Nat} {listed : Array Bool} {a : Act} {w : World},(∃ t,late t = true ∧ listed.getD t false = true) → AnyK P md ops Q late' w1 fuel listed a w → AnyK P md ops Q late w0 fuel listed a w
 | 0,_,_,_,_,h => h
 | _ + 1,_,_,_,⟨t,ht,hl⟩,h => ⟨h.1,fun i hi => wpOp_mono (fun _ _ h' => ⟨.inr ⟨t,ht,getD_set_true hl⟩,anyK_late ⟨t,ht,getD_set_true hl⟩ h'.2⟩) (h.2 i hi)⟩
def waitsB (ops : Array Oper) (y x : Nat) : Bool :=
 match ops[y]? with
 | some o => o.after.any fun e => Region.binds .any e && e.on == x
 | none => false
def aheadL (ops : Array Oper) : Nat → List Nat → List Nat
 | 0,U => U
 | x + 1,U => aheadL ops x (if U.any fun y => waitsB ops y x then x :: U else U)
theorem aheadL_listed {ops : Array Oper} {listed : Array Bool} (hc : Closed .any ops listed) : ∀ (x : Nat) (U : List Nat),(∀ y ∈ U,listed.getD y false = true) → ∀ y ∈ aheadL ops x U,listed.getD y false = true
 | 0,_,h => h
 | x + 1,U,h => by
  refine aheadL_listed hc x _ ?_
  split
  ·rename_i hU
   intro y hy
   rcases List.mem_cons.1 hy with rfl | hy
   ·obtain ⟨z,hz,hw⟩ := List.any_eq_true.1 hU
    unfold waitsB at hw
    cases ho : ops[z]? with
    | none => rw [ho] at hw;cases hw
    | some o =>
     rw [ho] at hw
     obtain ⟨e,he,hb⟩ := Array.any_eq_true'.1 hw
     simp only [Bool.and_eq_true,beq_iff_eq] at hb
     have := hc z o ho (h z hz) e he hb.1
     rw [hb.2] at this
     exact this
   ·exact h y hy
  ·exact h
end
inductive ASch where
 | done
 | one (sb : Bool) (o : AO) (r : ASch)
 | two (l r : ASch)
 | top
def asch (P : Program) (B : Base) : ASch → St → (St → Prop) → Prop
 | .done,st,K => K st
 | .one sb o r,st,K => astep P sb B o st fun st' => asch P B r st' K
 | .two l r,st,K => asch P B l st K ∧ asch P B r st K
 | .top,_,_ => True
def lateOp (hw : List FuncId) : Op → Bool
 | .store .. => true
 | .call c => match c.callee with
  | .value (.func f) => hw.contains f
  | .value _ => true
  | .builtin .append => true
  | .builtin .copy => true
  | .builtin .clear => true
  | .builtin _ => false
  | _ => true
 | _ => false
def lates (hw : List FuncId) (ops : Array Oper) : List Nat := (List.range ops.size).filter fun i => ((ops[i]?).map fun o => lateOp hw o.op).getD false
def takeQ (P : Program) (N : Nat) (ops : Array Oper) (listed : Array Bool) (ls : List Nat) (i : Nat) : Bool :=
 match ops[i]? with
 | some o => match coper P N ops o with
  | some a => !isLoud a.op && !ls.contains i && Region.free .any ops listed i && (!isLd o.op || ls.all fun t => (aheadL ops t [t]).contains i)
  | none => false
 | none => false
def stepS (P : Program) (N : Nat) (ops : Array Oper) (sb : Bool) (i : Nat) (r : Option ASch) : Option ASch :=
 match ops[i]? with
 | some o => match coper P N ops o,r with
  | some a,some t => some (.one sb a t)
  | _,_ => none
 | none => none
def foldS : List (Option ASch) → Option ASch
 | [] => some .top
 | x :: l => match x,foldS l with
  | some t,some u => some (.two t u)
  | _,_ => none
def planS (P : Program) (N : Nat) (ops : Array Oper) : Nat → Array Bool → List Nat → Option ASch
 | 0,listed,_ => if (Region.ready .any ops listed).isEmpty then some .done else none
 | fuel + 1,listed,ls =>
  let rs := Region.ready .any ops listed
  if rs.isEmpty then some .done else
  match rs.find? (takeQ P N ops listed ls) with
  | some i => stepS P N ops true i (planS P N ops fuel (listed.setIfInBounds i true) ls)
  | none => match rs with
   | [i] => stepS P N ops (!ls.contains i) i (planS P N ops fuel (listed.setIfInBounds i true) (ls.filter (· != i)))
   | rs => foldS (rs.map fun i => stepS P N ops (!ls.contains i) i (planS P N ops fuel (listed.setIfInBounds i true) (ls.filter (· != i))))
section
variable {P : Program} {B : Base} {ops : Array Oper} {Q : Exit → Act → World → Prop} {K : St → Prop}
theorem foldS_mem : ∀ {l : List (Option ASch)} {t : ASch},foldS l = some t → ∀ x ∈ l,∃ t',x = some t' ∧ ∀ st K,asch P B t st K → asch P B t' st K
 | [],t,h,x,hx => by cases hx
 | y :: l,t,h,x,hx => by
  cases y with
  | none => simp [foldS] at h
  | some t1 =>
   cases hl : foldS l with
   | none => simp [foldS,hl] at h
   | some t2 =>
    simp only [foldS,hl,zA] at h
    subst h
    rcases List.mem_cons.1 hx with rfl | hx
    ·exact ⟨t1,rfl,fun _ _ h => h.1⟩
    ·obtain ⟨t',h1,h2⟩ := foldS_mem hl x hx
     exact ⟨t',h1,fun st K h => h2 st K h.2⟩
theorem stepS_some {N : Nat} {sb : Bool} {i : Nat} {r : Option ASch} {t : ASch} (h : stepS P N ops sb i r = some t) : ∃ o ao t',ops[i]? = some o ∧ coper P N ops o = some ao ∧ r = some t' ∧ t = .one sb ao t' := by
 unfold stepS at h
 cases ho : ops[i]? with
 | none => rw [ho] at h;cases h
 | some o =>
  rw [ho] at h
  simp only at h
  cases hao : coper P N ops o with
  | none => rw [hao] at h;simp at h
  | some ao =>
   rw [hao] at h
   cases r with
   | none => simp at h
   | some t' =>
    simp only [zA] at h
    exact ⟨o,ao,t',rfl,hao,rfl,h.symm⟩
theorem step_sound {hw : List Nat} {w : World} {fuel : Nat} {listed : Array Bool} {i : Nat} {r : Option ASch} {t : ASch} {st : St} {s : Nat → Value} {Z : Cells} {a : Act} (hsz : listed.size = ops.size)
  (h : stepS P B.N ops (!hw.contains i) i r = some t) (hR : Rel B s Z st a w) (hs : asch P B t st K)
  (next : ∀ t',r = some t' → ∀ (st' : St) (s' : Nat → Value) (Z' : Cells) (a' : Act) (w' : World),Rel B s' Z' st' a' w' → asch P B t' st' K → AnyK P .any ops Q ((hw.filter (· != i)).contains ·) w' fuel (listed.setIfInBounds i true) a' w') :
  wpOp P ops Q i (fun a' w' => Kept (hw.contains ·) w (listed.setIfInBounds i true) w' ∧ AnyK P .any ops Q (hw.contains ·) w fuel (listed.setIfInBounds i true) a' w') a w := by
 obtain ⟨o,ao,t',ho,hao,rfl,rfl⟩ := stepS_some h
 have hlt : i < listed.size := by rw [hsz];exact (Array.getElem?_eq_some_iff.1 ho).1
 have hset : (listed.setIfInBounds i true).getD i false = true := by simp [hlt]
 simp only [asch] at hs
 have hG : Goes (!hw.contains i) B w (fun st' => asch P B t' st' K) (fun a' w' => Kept (hw.contains ·) w (listed.setIfInBounds i true) w' ∧ AnyK P .any ops Q (hw.contains ·) w fuel (listed.setIfInBounds i true) a' w') := fun st' s' Z' a' w' hb hK hR' => by
  have hn := next t' rfl st' s' Z' a' w' hR' hK
  cases hl : hw.contains i with
  | true => exact ⟨.inr ⟨i,hl,hset⟩,anyK_late ⟨i,hl,hset⟩ hn⟩
  | false =>
   have hb := hb (by rw [hl];rfl)
   refine ⟨.inl hb,?_⟩
   have hf : hw.filter (· != i) = hw := List.filter_eq_self.2 fun x hx => by
    have : x ≠ i := by rintro rfl;rw [List.contains_iff_mem.2 hx] at hl;cases hl
    simpa using this
   rw [hf] at hn
   exact anyK_base (fun listed' w2 hk => hk.imp (fun h2 => hb.trans (h2.mono hb.size)) id) hn
 obtain ⟨k1,k2⟩ := astep_sound (Q := Q) hR hao hs hG
 unfold wpOp
 simp only [ho]
 cases hw' : Region.wanted o (yielded ops a.tmps) with
 | true => simp only [if_true];exact .inl (k1 hw')
 | false => simp only [Bool.false_eq_true,if_false];exact k2 hw'
theorem planS_sound (hns : Region.noSelect ops = true) (hQ : ∀ c a d v w,Q (.panic c) (Act.put a d v) w → Q (.panic c) a w) (hfin : ∀ st' s' Z' a' w',K st' → Rel B s' Z' st' a' w' → Q .normal a' w') :
  ∀ (fuel : Nat) (listed : Array Bool) (hw : List Nat) (t : ASch) (st : St) (s : Nat → Value) (Z : Cells) (a : Act) (w : World),planS P B.N ops fuel listed hw = some t → listed.size = ops.size → Closed .any ops listed → Rel B s Z st a w → asch P B t st K →
   AnyK P .any ops Q (hw.contains ·) w fuel listed a w
 | 0,listed,hw,t,st,s,Z,a,w,h,hsz,hcl,hR,hs => by
  simp only [planS] at h
  split at h
  case isFalse => cases h
  rename_i he
  simp only [zA] at h
  subst h
  exact ⟨List.isEmpty_iff.1 he,hfin _ _ _ _ _ hs hR⟩
 | fuel + 1,listed,hw,t,st,s,Z,a,w,h,hsz,hcl,hR,hs => by
  simp only [planS] at h
  split at h
  ·rename_i he
   simp only [zA] at h
   subst h
   have he := List.isEmpty_iff.1 he
   exact ⟨fun _ => hfin _ _ _ _ _ hs hR,fun i hi => by rw [he] at hi;cases hi⟩
  rename_i hne
  have hne : Region.ready .any ops listed ≠ [] := fun e => hne (by rw [e];rfl)
  have hszs : ∀ i,(listed.setIfInBounds i true).size = ops.size := fun i => by simpa using hsz
  split at h
  · -- one that may be taken first
   rename_i i hfind
   have hir := List.mem_of_find?_eq_some hfind
   have htk := List.find?_some hfind
   obtain ⟨o,ao,t',ho,hao,hr,rfl⟩ := stepS_some h
   unfold takeQ at htk
   simp only [ho,hao,Bool.and_eq_true,Bool.not_eq_true',Bool.or_eq_true] at htk
   obtain ⟨⟨⟨hq,hli⟩,hfree⟩,hld⟩ := htk
   simp only [asch] at hs
   obtain ⟨hdst,op,hop,g,hg,hcase⟩ := astep_cases hR hao hs
   have hqo : isLoud op = false := by
    unfold coper at hao
    split at hao
    case isFalse => cases hao
    rw [hop] at hao
    simp only at hao
    split at hao
    ·simp only [zA] at hao;subst hao;exact hq
    ·split at hao
     ·simp only [zA] at hao;subst hao;exact hq
     ·cases hao
   obtain ⟨e1,e2⟩ := quiet_eff hR hdst (copX_quiet hop hqo) hqo hg
   have hun := (mem_ready.1 hir).1
   have hkept : Kept (hw.contains ·) w listed w := .inl (Below.refl _ _)
   obtain ⟨v,st',hK',hR',hy⟩ : ∃ v st',asch P B t' st' K ∧ Rel B s Z st' (a.put o.dst v) w ∧ YieldsIf P ops (fun w' => Ok4 w o w') o v a := by
    rcases hcase with ⟨h1,h2⟩ | ⟨h1,h2⟩
    ·obtain ⟨u,st',k1,k2,k3⟩ := e1 h2
     exact ⟨u,st',k1,k2,.inl ⟨h1,k3⟩⟩
    ·obtain ⟨st',k1,k2⟩ := e2 h2
     exact ⟨undef,st',k1,k2,.inr ⟨h1,rfl⟩⟩
   have next := planS_sound hns hQ hfin fuel (listed.setIfInBounds i true) hw t' st' s Z (a.put o.dst v) w hr (hszs i) (hcl.set hir) hR' hK'
   refine anyK_first ho (Region.noSelect_spec hns) (fun c a w h => hQ c a _ _ w h) (fun w' => Ok4 w o w') (fun listed' w' hc hu hk => ?_) (by simpa using hli) fuel listed a w hcl (Region.free_spec ho hfree) hir hy hkept next
   rcases hld with hld | hld
   ·exact .inr hld
   ·refine .inl (More.below (hk.below hu fun t ht hlt => ?_))
    have h3 := List.all_eq_true.1 hld t (by simpa using ht)
    exact aheadL_listed hc t [t] (fun y hy => by rw [List.mem_singleton.1 hy];exact hlt) i (by simpa using h3)
  ·split at h
   · -- the only one
    rename_i i hri
    refine ⟨fun e => absurd e hne,fun j hj => ?_⟩
    have hji : j = i := by rw [hri] at hj;simpa using hj
    subst hji
    exact step_sound hsz h hR hs fun t' ht' st' s' Z' a' w' hR' hs' => planS_sound hns hQ hfin fuel _ _ t' st' s' Z' a' w' ht' (hszs j) (hcl.set hj) hR' hs'
   ·refine ⟨fun e => absurd e hne,fun j hj => ?_⟩
    obtain ⟨t',ht',himp⟩ := foldS_mem (P := P) (B := B) h _ (List.mem_map.2 ⟨j,hj,rfl⟩)
    exact step_sound hsz ht' hR (himp _ _ hs) fun t' ht' st' s' Z' a' w' hR' hs' => planS_sound hns hQ hfin fuel _ _ t' st' s' Z' a' w' ht' (hszs j) (hcl.set hj) hR' hs'
theorem draw_sound {id : Nat} {hw : List FuncId} {t : ASch} {st : St} {s : Nat → Value} {Z : Cells} {a : Act} {w : World} (hm : P.follows .mixedOrders = true) (hns : Region.noSelect ops = true) (hp : planS P B.N ops ops.size (Array.replicate ops.size false) (lates hw ops) = some t)
  (hQ : ∀ c a d v w,Q (.panic c) (Act.put a d v) w → Q (.panic c) a w) (hfin : ∀ st' s' Z' a' w',K st' → Rel B s' Z' st' a' w' → Q .normal a' w') (hR : Rel B s Z st a w) (hs : asch P B t st K) : (Code.region id ops true).wp P Q a w := by
 have hR' : Rel B s Z st a w.drew := ⟨hR.env,hR.elt,hR.size,hR.defers,hR.h.call (Below.refl _ _).drew (Zx.refl hR.h.zok (Below.refl _ _).drew)⟩
 refine wp_region_any hm ?_
 refine any_of_K _ _ _ _ (planS_sound hns hQ hfin _ _ _ t st s Z a w.drew hp (by simp) (fun j oj _ hl => ?_) hR' hs)
 exfalso
 rcases Nat.lt_or_ge j ops.size with h' | h'
 ·simp [h'] at hl
 ·simp [h'] at hl
end
inductive AC where
 | skip
 | region (id : Nat) (ops : List AO)
 | draw (id : Nat) (t : ASch)
 | seq (a b : AC)
 | cond (c : Nat) (a b : AC)
 | block (id : Nat) (a : AC)
 | loop (a : AC)
 | exit (id : Nat)
 | scope (a : AC)
 | ret
def cco (P : Program) (N : Nat) (hw : List FuncId) : Code → Option AC
 | .skip => some .skip
 | .label _ => some .skip
 | .region id ops false => (copers P N ops ops.toList).map fun r => .region id r
 | .region id ops true => if Region.noSelect ops then (planS P N ops ops.size (Array.replicate ops.size false) (lates hw ops)).map fun t => .draw id t else none
 | .seq a b => match cco P N hw a,cco P N hw b with
  | some x,some y => some (.seq x y)
  | _,_ => none
 | .cond (.tmp t) a b => match cco P N hw a,cco P N hw b with
  | some x,some y => some (.cond t x y)
  | _,_ => none
 | .block id a => (cco P N hw a).map (.block id)
 | .loop a => (cco P N hw a).map .loop
 | .exit id => some (.exit id)
 | .scope a => (cco P N hw a).map .scope
 | .ret => some .ret
 | _ => none
inductive AR where
 | t (n : Nat)
 | c (p : Nat) (ag : Bool) (n : Nat)
def cres (P : Program) : List ResultVar → Option (List AR)
 | [] => some []
 | .tmp t :: r => (cres P r).map (.t t :: ·)
 | .cell p ty :: r => match agT P ty,szT P ty,cres P r with
  | some a,some n,some l => some (.c p a n :: l)
  | _,_,_ => none
structure AF where
 code : AC
 res : List AR
 n : Nat
def cfun (P : Program) (hw : List FuncId) (f : FuncId) : Option AF :=
 match P.funcs[f]? with
 | some fn => if fn.name == "runtime.NumGoroutine" then none else match fn.body with
  | some c => match cco P fn.ntmps hw c,cres P fn.results.toList with
   | some c,some r => some ⟨c,r,fn.ntmps⟩
   | _,_ => none
  | none => none
 | none => none
inductive Ex where
 | normal
 | exit (id : Nat)
 | ret
def Lift (B : Base) (Q : Ex → St → Prop) : Exit → Act → World → Prop
 | .normal,a,w => ∃ st s Z,Q .normal st ∧ Rel B s Z st a w
 | .exit id,a,w => ∃ st s Z,Q (.exit id) st ∧ Rel B s Z st a w
 | .ret,a,w => ∃ st s Z,Q .ret st ∧ Rel B s Z st a w
 | _,_,_ => False
def W (P : Program) (B : Base) (hw : List FuncId) (c : AC) (Q : Ex → St → Prop) (st : St) : Prop :=
 P.follows .mixedOrders = true → ∀ code,cco P B.N hw code = some c → ∀ s Z a w,Rel B s Z st a w → code.wp P (Lift B Q) a w
def Gh (B : Base) (st st1 : St) : Prop := ∀ s Z a w,Rel B s Z st a w → ∃ s' Z',Rel B s' Z' st1 a w
def keep (ks : List Nat) : List (Nat × D) → List (Nat × D)
 | [] => []
 | (k,d) :: l => if ks.contains k then (k,d) :: keep ks l else keep ks l
def trim (ks : List Nat) (st : St) : St := ⟨keep ks st.env,st.heap,st.nx⟩
theorem eget_keep (ks : List Nat) (k : Nat) : ∀ (l : List (Nat × D)),eget (keep ks l) k = eget l k ∨ eget (keep ks l) k = .any
 | [] => .inr rfl
 | (j,d) :: l => by
  simp only [keep]
  split
  ·simp only [eget]
   split
   ·exact .inl rfl
   ·exact eget_keep ks k l
  ·rename_i hj
   by_cases h : k = j
   ·subst h
    right
    have : ∀ l : List (Nat × D),eget (keep ks l) k = .any := fun l => by
     induction l with
     | nil => rfl
     | cons p l ih =>
      obtain ⟨i,e⟩ := p
      simp only [keep]
      split
      ·rename_i hi
       have : k ≠ i := by rintro rfl;exact hj hi
       simp only [eget,if_neg this,ih]
      ·exact ih
    exact this l
   ·simp only [eget,if_neg h];exact eget_keep ks k l
section
variable {P : Program} {B : Base} {hw : List FuncId} {Q Q' : Ex → St → Prop} {st st1 : St} {s : Nat → Value} {Z : Cells} {a : Act} {w : World}
theorem Rel.trim (h : Rel B s Z st a w) (ks : List Nat) : Rel B s Z (Go.Proofs.YtibemmkfcjlmpaaGreat.trim ks st) a w where
 env k := by
  rcases eget_keep ks k st.env with h1 | h1
  ·simp only [Go.Proofs.YtibemmkfcjlmpaaGreat.trim,h1];exact h.env k
  ·simp only [Go.Proofs.YtibemmkfcjlmpaaGreat.trim,h1];trivial
 elt k := by
  rcases eget_keep ks k st.env with h1 | h1
  ·simp only [Go.Proofs.YtibemmkfcjlmpaaGreat.trim,h1];exact h.elt k
  ·simp only [Go.Proofs.YtibemmkfcjlmpaaGreat.trim,h1];trivial
 size := h.size
 defers := h.defers
 h := h.h
theorem Gh.refl (st : St) : Gh B st st := fun s Z _ _ h => ⟨s,Z,h⟩
theorem Gh.trans {st2 : St} (h : Gh B st st1) (g : Gh B st1 st2) : Gh B st st2 := fun s Z a w hr => by
 obtain ⟨s',Z',h'⟩ := h s Z a w hr
 exact g s' Z' a w h'
theorem Gh.trim (ks : List Nat) : Gh B st (trim ks st) := fun s Z _ _ h => ⟨s,Z,h.trim ks⟩
theorem Lift.mono (hq : ∀ e st,Q e st → Q' e st) {e : Exit} {a : Act} {w : World} (h : Lift B Q e a w) : Lift B Q' e a w := by
 cases e <;> first | exact h.elim | (obtain ⟨st,s,Z,h1,h2⟩ := h;exact ⟨st,s,Z,hq _ _ h1,h2⟩)
theorem W.mono {c : AC} (h : W P B hw c Q st) (hq : ∀ e st,Q e st → Q' e st) : W P B hw c Q' st := fun hm code hc s Z a w hr => wp_mono (h hm code hc s Z a w hr) fun _ _ _ => Lift.mono hq
theorem W.gh {c : AC} (hg : Gh B st st1) (h : W P B hw c Q st1) : W P B hw c Q st := fun hm code hc s Z a w hr => by
 obtain ⟨s',Z',hr'⟩ := hg s Z a w hr
 exact h hm code hc s' Z' a w hr'
def seqQ (next : St → Prop) (Q : Ex → St → Prop) : Ex → St → Prop
 | .normal,st => next st
 | e,st => Q e st
def blockQ (id : Nat) (Q : Ex → St → Prop) : Ex → St → Prop
 | .exit id',st => if id' = id then Q .normal st else Q (.exit id') st
 | e,st => Q e st
theorem W.skip (h : Q .normal st) : W P B hw .skip Q st := fun _ code hc s Z a w hr => by
 cases code with
 | skip => exact wp_skip ⟨st,s,Z,h,hr⟩
 | label l => exact wp_label ⟨st,s,Z,h,hr⟩
 | region id ops d => cases d <;> simp only [cco] at hc <;> (try split at hc) <;> simp at hc
 | seq x y => simp only [cco] at hc;split at hc <;> simp at hc
 | cond c x y => cases c <;> simp only [cco] at hc <;> (try split at hc) <;> simp at hc
 | block id x => simp [cco] at hc
 | loop x => simp [cco] at hc
 | scope x => simp [cco] at hc
 | _ => simp [cco] at hc
theorem W.ret (h : Q .ret st) : W P B hw .ret Q st := fun _ code hc s Z a w hr => by
 cases code with
 | ret => exact wp_ret ⟨st,s,Z,h,hr⟩
 | region id ops d => cases d <;> simp only [cco] at hc <;> (try split at hc) <;> simp at hc
 | seq x y => simp only [cco] at hc;split at hc <;> simp at hc
 | cond c x y => cases c <;> simp only [cco] at hc <;> (try split at hc) <;> simp at hc
 | _ => simp [cco] at hc
theorem W.exit {id : Nat} (h : Q (.exit id) st) : W P B hw (.exit id) Q st := fun _ code hc s Z a w hr => by
 cases code with
 | exit i => simp only [cco,zA,AC.exit.injEq] at hc;subst hc;exact wp_exit ⟨st,s,Z,h,hr⟩
 | region id ops d => cases d <;> simp only [cco] at hc <;> (try split at hc) <;> simp at hc
 | seq x y => simp only [cco] at hc;split at hc <;> simp at hc
 | cond c x y => cases c <;> simp only [cco] at hc <;> (try split at hc) <;> simp at hc
 | _ => simp [cco] at hc
theorem W.seq {x y : AC} (h : W P B hw x (seqQ (W P B hw y Q) Q) st) : W P B hw (.seq x y) Q st := fun hm code hc s Z a w hr => by
 cases code with
 | seq c d =>
  simp only [cco] at hc
  split at hc <;> simp only [zA,reduceCtorEq,AC.seq.injEq] at hc
  rename_i hx hy
  obtain ⟨rfl,rfl⟩ := hc
  refine wp_seq (wp_mono (h hm c hx s Z a w hr) fun e a' w' hl => ?_)
  cases e with
  | normal => obtain ⟨st',s',Z',h1,h2⟩ := hl;exact h1 hm d hy s' Z' a' w' h2
  | _ => exact hl
 | region id ops d => cases d <;> simp only [cco] at hc <;> (try split at hc) <;> simp at hc
 | cond c x y => cases c <;> simp only [cco] at hc <;> (try split at hc) <;> simp at hc
 | _ => simp [cco] at hc
theorem W.cond {c : Nat} {t : Bool} {x y : AC} (ht : eget st.env c = .bool t) (h1 : t = true → W P B hw x Q st) (h2 : t = false → W P B hw y Q st) : W P B hw (.cond c x y) Q st := fun hm code hc s Z a w hr => by
 cases code with
 | cond o p q =>
  cases o with
  | tmp k =>
   simp only [cco] at hc
   split at hc <;> simp only [zA,reduceCtorEq,AC.cond.injEq] at hc
   rename_i hx hy
   obtain ⟨rfl,rfl,rfl⟩ := hc
   have hv := hr.env k
   rw [ht] at hv
   have hb : a.eval (.tmp k) = .bool t := VR.bool_inv (s := s) (Z := Z) hv
   exact wp_cond_split hb (fun e => h1 e hm p hx s Z a w hr) (fun e => h2 e hm q hy s Z a w hr)
  | _ => simp [cco] at hc
 | region id ops d => cases d <;> simp only [cco] at hc <;> (try split at hc) <;> simp at hc
 | seq x y => simp only [cco] at hc;split at hc <;> simp at hc
 | _ => simp [cco] at hc
theorem W.block {id : Nat} {x : AC} (h : W P B hw x (blockQ id Q) st) : W P B hw (.block id x) Q st := fun hm code hc s Z a w hr => by
 cases code with
 | block i c =>
  simp only [cco,Option.map_eq_some_iff,AC.block.injEq] at hc
  obtain ⟨x',hx,rfl,rfl⟩ := hc
  refine wp_block (wp_mono (h hm c hx s Z a w hr) fun e a' w' hl => ?_)
  cases e with
  | exit j =>
   obtain ⟨st',s',Z',h1,h2⟩ := hl
   simp only [blockQ] at h1
   simp only [Exit.inBlock]
   split at h1
   ·rename_i e;rw [if_pos e];exact ⟨st',s',Z',h1,h2⟩
   ·rename_i e;rw [if_neg e];exact ⟨st',s',Z',h1,h2⟩
  | _ => exact hl
 | region id ops d => cases d <;> simp only [cco] at hc <;> (try split at hc) <;> simp at hc
 | seq x y => simp only [cco] at hc;split at hc <;> simp at hc
 | cond c x y => cases c <;> simp only [cco] at hc <;> (try split at hc) <;> simp at hc
 | _ => simp [cco] at hc
theorem W.scope {x : AC} (h : W P B hw x Q st) : W P B hw (.scope x) Q st := fun hm code hc s Z a w hr => by
 cases code with
 | scope c =>
  simp only [cco,Option.map_eq_some_iff,AC.scope.injEq] at hc
  obtain ⟨x',hx,rfl⟩ := hc
  refine wp_scope_straight (wp_mono (h hm c hx s Z a w hr) fun e a' w' hl => ?_)
  cases e <;> first | exact hl | exact hl.elim
 | region id ops d => cases d <;> simp only [cco] at hc <;> (try split at hc) <;> simp at hc
 | seq x y => simp only [cco] at hc;split at hc <;> simp at hc
 | cond c x y => cases c <;> simp only [cco] at hc <;> (try split at hc) <;> simp at hc
 | _ => simp [cco] at hc
theorem W.region {id : Nat} {ops : List AO} {K : St → Prop} (h : aops P B ops st K) (hK : ∀ st',K st' → ∃ st1,Gh B st' st1 ∧ Q .normal st1) : W P B hw (.region id ops) Q st := fun hm code hc s Z a w hr => by
 have fin : ∀ st' s' Z' a' w',K st' → Rel B s' Z' st' a' w' → Lift B Q .normal a' w' := fun st' s' Z' a' w' h1 h2 => by
  obtain ⟨st1,hg,hq⟩ := hK st' h1
  obtain ⟨s1,Z1,hr1⟩ := hg s' Z' a' w' h2
  exact ⟨st1,s1,Z1,hq,hr1⟩
 cases code with
 | region i os d =>
  cases d with
  | false =>
   simp only [cco,Option.map_eq_some_iff,AC.region.injEq] at hc
   obtain ⟨r,hr',rfl,rfl⟩ := hc
   exact wp_region_list (aops_sound os.toList r st s Z a w hr' hr h fin)
  | true => simp only [cco] at hc;split at hc <;> simp at hc
 | seq x y => simp only [cco] at hc;split at hc <;> simp at hc
 | cond c x y => cases c <;> simp only [cco] at hc <;> (try split at hc) <;> simp at hc
 | _ => simp [cco] at hc
theorem W.draw {id : Nat} {t : ASch} {K : St → Prop} (h : asch P B t st K) (hK : ∀ st',K st' → ∃ st1,Gh B st' st1 ∧ Q .normal st1) : W P B hw (.draw id t) Q st := fun hm code hc s Z a w hr => by
 have fin : ∀ st' s' Z' a' w',K st' → Rel B s' Z' st' a' w' → Lift B Q .normal a' w' := fun st' s' Z' a' w' h1 h2 => by
  obtain ⟨st1,hg,hq⟩ := hK st' h1
  obtain ⟨s1,Z1,hr1⟩ := hg s' Z' a' w' h2
  exact ⟨st1,s1,Z1,hq,hr1⟩
 cases code with
 | region i os d =>
  cases d with
  | false => simp [cco] at hc
  | true =>
   simp only [cco] at hc
   split at hc
   case isFalse => cases hc
   rename_i hns
   simp only [Option.map_eq_some_iff,AC.draw.injEq] at hc
   obtain ⟨r,hr',rfl,rfl⟩ := hc
   exact draw_sound hm hns hr' (fun c a d v w h => h.elim) fin hr h
 | seq x y => simp only [cco] at hc;split at hc <;> simp at hc
 | cond c x y => cases c <;> simp only [cco] at hc <;> (try split at hc) <;> simp at hc
 | _ => simp [cco] at hc
theorem least {p : Nat → Prop} (h : ∃ n,p n) : ∃ n,p n ∧ ∀ m,p m → n ≤ m := by
 obtain ⟨n,hn⟩ := h
 induction n using Nat.strongRecOn with
 | _ n ih =>
  by_cases h : ∃ m,m < n ∧ p m
  ·obtain ⟨m,h1,h2⟩ := h;exact ih m h1 h2
  ·exact ⟨n,hn,fun m hm => Nat.le_of_not_lt fun hl => h ⟨m,hl,hm⟩⟩
theorem W.loop {x : AC} (I : Nat → St → Prop) (h0 : ∃ n st1,Gh B st st1 ∧ I n st1) (hround : ∀ n st,I n st → W P B hw x (seqQ (fun st' => ∃ m st1,Gh B st' st1 ∧ m < n ∧ I m st1) Q) st) : W P B hw (.loop x) Q st := fun hm code hc s Z a w hr => by
 cases code with
 | loop c =>
  simp only [cco,Option.map_eq_some_iff,AC.loop.injEq] at hc
  obtain ⟨x',hx,rfl⟩ := hc
  classical
  let J : Nat → Act → World → Prop := fun n a w => ∃ st s Z,I n st ∧ Rel B s Z st a w
  let mu : Act → World → Nat := fun a w => if h : ∃ n,J n a w then Classical.choose (least h) else 0
  have hmu : ∀ a w (_ : ∃ n,J n a w),J (mu a w) a w ∧ ∀ n,J n a w → mu a w ≤ n := fun a w h => by
   have e : mu a w = Classical.choose (least h) := dif_pos h
   rw [e]
   exact Classical.choose_spec (least h)
  refine wp_loop (fun a w => ∃ n,J n a w) mu ?_ ?_
  ·obtain ⟨n,st1,hg,hI⟩ := h0
   obtain ⟨s',Z',hr'⟩ := hg s Z a w hr
   exact ⟨n,st1,s',Z',hI,hr'⟩
  ·intro a w hJ
   obtain ⟨⟨st1,s1,Z1,hI,hR1⟩,_⟩ := hmu a w hJ
   refine wp_mono (hround _ st1 hI hm c hx s1 Z1 a w hR1) fun e a' w' hl => ?_
   cases e with
   | normal =>
    obtain ⟨st',s',Z',⟨m,st2,hg,hlt,hI2⟩,h2⟩ := hl
    obtain ⟨s2,Z2,hr2⟩ := hg s' Z' a' w' h2
    have hJ' : ∃ n,J n a' w' := ⟨m,st2,s2,Z2,hI2,hr2⟩
    exact ⟨hJ',Nat.lt_of_le_of_lt ((hmu a' w' hJ').2 m ⟨st2,s2,Z2,hI2,hr2⟩) hlt⟩
   | _ => exact hl
 | region id ops d => cases d <;> simp only [cco] at hc <;> (try split at hc) <;> simp at hc
 | seq x y => simp only [cco] at hc;split at hc <;> simp at hc
 | cond c x y => cases c <;> simp only [cco] at hc <;> (try split at hc) <;> simp at hc
 | _ => simp [cco] at hc
def acode (P : Program) (B : Base) (hw : List FuncId) (ks stops : List Nat) : AC → (Ex → St → Prop) → St → Prop
 | .skip,Q,st => Q .normal st
 | .region id ops,Q,st => if stops.contains id then W P B hw (.region id ops) Q st else aops P B ops st (fun st' => Q .normal (trim ks st'))
 | .draw id t,Q,st => if stops.contains id then W P B hw (.draw id t) Q st else asch P B t st (fun st' => Q .normal (trim ks st'))
 | .seq a b,Q,st => acode P B hw ks stops a (seqQ (acode P B hw ks stops b Q) Q) st
 | .cond c a b,Q,st => match eget st.env c with
  | .bool t => (t = true → acode P B hw ks stops a Q st) ∧ (t = false → acode P B hw ks stops b Q st)
  | _ => False
 | .block id a,Q,st => acode P B hw ks stops a (blockQ id Q) st
 | .loop a,Q,st => W P B hw (.loop a) Q st
 | .exit id,Q,st => Q (.exit id) st
 | .scope a,Q,st => acode P B hw ks stops a Q st
 | .ret,Q,st => Q .ret st
def TK (ks : List Nat) (Q : Ex → St → Prop) (st : St) : Prop := Q .normal (trim ks st)
theorem TK_at (ks : List Nat) (Q : Ex → St → Prop) (env : List (Nat × D)) (H : List (Nat × Ob)) (nx : Nat) : TK ks Q ⟨env,H,nx⟩ = Q .normal (trim ks ⟨env,H,nx⟩) := rfl
def OK (P : Program) (B : Base) (os : List AO) (K : St → Prop) (st : St) : Prop := aops P B os st K
theorem OK_at (os : List AO) (K : St → Prop) (env : List (Nat × D)) (H : List (Nat × Ob)) (nx : Nat) : OK P B os K ⟨env,H,nx⟩ = aops P B os ⟨env,H,nx⟩ K := rfl
theorem aops_nil (st : St) (K : St → Prop) : aops P B [] st K = K st := rfl
theorem aops_cons (o : AO) (os : List AO) (st : St) (K : St → Prop) : aops P B (o :: os) st K = astep P false B o st (OK P B os K) := rfl
def SK (P : Program) (B : Base) (r : ASch) (K : St → Prop) (st : St) : Prop := asch P B r st K
theorem SK_at (r : ASch) (K : St → Prop) (env : List (Nat × D)) (H : List (Nat × Ob)) (nx : Nat) : SK P B r K ⟨env,H,nx⟩ = asch P B r ⟨env,H,nx⟩ K := rfl
theorem asch_done (st : St) (K : St → Prop) : asch P B .done st K = K st := rfl
theorem asch_one (sb : Bool) (o : AO) (r : ASch) (st : St) (K : St → Prop) : asch P B (.one sb o r) st K = astep P sb B o st (SK P B r K) := rfl
theorem asch_two (l r : ASch) (st : St) (K : St → Prop) : asch P B (.two l r) st K = (asch P B l st K ∧ asch P B r st K) := rfl
theorem asch_top (st : St) (K : St → Prop) : asch P B .top st K = True := rfl
def AK (P : Program) (B : Base) (hw : List FuncId) (ks stops : List Nat) (c : AC) (Q : Ex → St → Prop) (st : St) : Prop := acode P B hw ks stops c Q st
theorem AK_at (c : AC) (Q : Ex → St → Prop) (ks stops : List Nat) (env : List (Nat × D)) (H : List (Nat × Ob)) (nx : Nat) : AK P B hw ks stops c Q ⟨env,H,nx⟩ = acode P B hw ks stops c Q ⟨env,H,nx⟩ := rfl
theorem acode_seq (a b : AC) (Q : Ex → St → Prop) (ks stops : List Nat) (st : St) : acode P B hw ks stops (.seq a b) Q st = acode P B hw ks stops a (seqQ (AK P B hw ks stops b Q) Q) st := rfl
theorem acode_region (id : Nat) (ops : List AO) (Q : Ex → St → Prop) (ks stops : List Nat) (st : St) : acode P B hw ks stops (.region id ops) Q st = if stops.contains id then W P B hw (.region id ops) Q st else aops P B ops st (TK ks Q) := rfl
theorem acode_draw (id : Nat) (t : ASch) (Q : Ex → St → Prop) (ks stops : List Nat) (st : St) : acode P B hw ks stops (.draw id t) Q st = if stops.contains id then W P B hw (.draw id t) Q st else asch P B t st (TK ks Q) := rfl
def CB (t : Bool) (a b : Prop) : Prop := (t = true → a) ∧ (t = false → b)
theorem CB_t (a b : Prop) : CB true a b = a := by simp [CB]
theorem CB_f (a b : Prop) : CB false a b = b := by simp [CB]
theorem CB_u (t : Bool) (a b : Prop) : CB t a b = ((t = true → a) ∧ (t = false → b)) := rfl
theorem acode_cond (c : Nat) (a b : AC) (Q : Ex → St → Prop) (ks stops : List Nat) (st : St) : acode P B hw ks stops (.cond c a b) Q st = match eget st.env c with
  | .bool t => CB t (acode P B hw ks stops a Q st) (acode P B hw ks stops b Q st)
  | _ => False := rfl
theorem aop_eq (sb : Bool) (g : Option Bool) (dst : Option Nat) (op : AOp) (st : St) (K : St → Prop) : aop P sb B g dst op st K =
 if isLoud op then
  match g with
  | none => aloud P sb B dst op st K
  | some c => CB c (aloud P sb B dst op st K) (K ⟨putO st.env dst (.opt false .any),st.heap,st.nx⟩)
 else
  match op with
  | .pick c x y => match evS st.env c with
   | .bool b => match pickV b (evS st.env x) (evS st.env y) with
    | some (p,d) => afin g dst ((gS st.env c = true ∧ (b = true → gS st.env x = true) ∧ (b = false → gS st.env y = true)) ∧ p) d st K
    | none => afin0 g dst st K
   | _ => afin0 g dst st K
  | .isnil ne x => match lenD st.heap (evS st.env x) with
   | some n => ∀ b : Bool,(0 < n → b = ne) → afin g dst (gS st.env x = true) (.bool b) st K
   | none => afin0 g dst st K
  | op => match qv (evS st.env) st.heap op with
   | some (p,d) => afin g dst (oks st.env op = true ∧ p) d st K
   | none => afin0 g dst st K := by cases g <;> cases op <;> rfl
theorem acode_block (id : Nat) (a : AC) (Q : Ex → St → Prop) (ks stops : List Nat) (st : St) : acode P B hw ks stops (.block id a) Q st = acode P B hw ks stops a (blockQ id Q) st := rfl
theorem acode_loop (a : AC) (Q : Ex → St → Prop) (ks stops : List Nat) (st : St) : acode P B hw ks stops (.loop a) Q st = W P B hw (.loop a) Q st := rfl
theorem acode_exit (id : Nat) (Q : Ex → St → Prop) (ks stops : List Nat) (st : St) : acode P B hw ks stops (.exit id) Q st = Q (.exit id) st := rfl
theorem acode_scope (a : AC) (Q : Ex → St → Prop) (ks stops : List Nat) (st : St) : acode P B hw ks stops (.scope a) Q st = acode P B hw ks stops a Q st := rfl
theorem acode_ret (Q : Ex → St → Prop) (ks stops : List Nat) (st : St) : acode P B hw ks stops .ret Q st = Q .ret st := rfl
theorem acode_skip (Q : Ex → St → Prop) (ks stops : List Nat) (st : St) : acode P B hw ks stops .skip Q st = Q .normal st := rfl
theorem seqQ_n (next : St → Prop) (Q : Ex → St → Prop) (st : St) : seqQ next Q .normal st = next st := rfl
theorem seqQ_e (next : St → Prop) (Q : Ex → St → Prop) (i : Nat) (st : St) : seqQ next Q (.exit i) st = Q (.exit i) st := rfl
theorem seqQ_r (next : St → Prop) (Q : Ex → St → Prop) (st : St) : seqQ next Q .ret st = Q .ret st := rfl
theorem blockQ_n (id : Nat) (Q : Ex → St → Prop) (st : St) : blockQ id Q .normal st = Q .normal st := rfl
theorem blockQ_e (id i : Nat) (Q : Ex → St → Prop) (st : St) : blockQ id Q (.exit i) st = if i = id then Q .normal st else Q (.exit i) st := rfl
theorem blockQ_r (id : Nat) (Q : Ex → St → Prop) (st : St) : blockQ id Q .ret st = Q .ret st := rfl
theorem acode_sound (ks stops : List Nat) : ∀ (c : AC) (Q : Ex → St → Prop) (st : St),acode P B hw ks stops c Q st → W P B hw c Q st
 | .skip,Q,st,h => W.skip h
 | .region id ops,Q,st,h => by
  simp only [acode] at h
  split at h
  ·exact h
  ·exact W.region h fun st' h => ⟨_,Gh.trim ks,h⟩
 | .draw id t,Q,st,h => by
  simp only [acode] at h
  split at h
  ·exact h
  ·exact W.draw h fun st' h => ⟨_,Gh.trim ks,h⟩
 | .seq a b,Q,st,h => W.seq ((acode_sound ks stops a _ st h).mono fun e st' h' => by
   cases e with
   | normal => exact acode_sound ks stops b Q st' h'
   | _ => exact h')
 | .cond c a b,Q,st,h => by
  simp only [acode] at h
  split at h
  ·rename_i t ht
   exact W.cond ht (fun e => acode_sound ks stops a Q st (h.1 e)) (fun e => acode_sound ks stops b Q st (h.2 e))
  ·exact h.elim
 | .block id a,Q,st,h => W.block (acode_sound ks stops a _ st h)
 | .loop a,Q,st,h => h
 | .exit id,Q,st,h => W.exit h
 | .scope a,Q,st,h => W.scope (acode_sound ks stops a Q st h)
 | .ret,Q,st,h => W.ret h
def aresv (env : List (Nat × D)) (H : List (Nat × Ob)) : AR → Option (Prop × D)
 | .t n => some (gof (eget env n) = true,strip (eget env n))
 | .c p ag n => match qv (evS env) H (.load ag n (.t p)) with
  | some (q,d) => some (gof (eget env p) = true ∧ q,d)
  | none => none
def aresl (env : List (Nat × D)) (H : List (Nat × Ob)) : List AR → Option (Prop × List D)
 | [] => some (True,[])
 | r :: rs => match aresv env H r,aresl env H rs with
  | some (p,d),some (q,ds) => some (p ∧ q,d :: ds)
  | _,_ => none
def resD : List D → D
 | [d] => d
 | ds => .tup ds
def Fin (res : List AR) (R : D → List (Nat × Ob) → Nat → Prop) : Ex → St → Prop
 | .exit _,_ => False
 | _,st => match aresl st.env st.heap res with
  | some (p,ds) => (p ∧ ds.all argOk = true) ∧ R (resD ds) st.heap st.nx
  | none => False
def envOf : Nat → List D → List (Nat × D)
 | _,[] => []
 | i,d :: ds => eput (envOf (i + 1) ds) i d
theorem eget_envOf : ∀ (ds : List D) (i k : Nat),eget (envOf i ds) k = if i ≤ k then ds.getD (k - i) .any else .any
 | [],i,k => by simp [envOf,eget]
 | d :: ds,i,k => by
  simp only [envOf,eget_eput,eget_envOf ds (i + 1) k]
  by_cases h : k = i
  ·subst h;simp
  ·rw [if_neg h]
   by_cases h1 : i + 1 ≤ k
   ·rw [if_pos h1,if_pos (by omega)]
    have : k - i = (k - (i + 1)) + 1 := by omega
    rw [this,List.getD_cons_succ]
   ·rw [if_neg h1,if_neg (by omega)]
theorem load_var {ty : TypeId} {q : Addr} {w : World} : (do loadVar ty (← asAddr (.pointer (some q))) : Sem Value).run P w = (Instr.loadAt ty (.pointer (some q))).run P w := by
 simp [Instr.loadAt,Instr.sureAddr,asAddr]
theorem res_run (h : Rel B s Z st a w) : ∀ (rs : List ResultVar) (ars : List AR) (p : Prop) (ds : List D),cres P rs = some ars → aresl st.env st.heap ars = some (p,ds) → p →
  ∃ vs : List Value,vs.length = ds.length ∧ (∀ j x,ds[j]? = some x → VR s Z x (vs.getD j undef)) ∧ (∀ d ∈ ds,LtR st.nx d) ∧
   (rs.mapM (m := Sem) fun | .tmp t => pure (a.tmps.getD t undef) | .cell q t => do loadVar t (← asAddr (a.tmps.getD q undef))).run P w = .ok vs w
 | [],ars,p,ds,hc,hr,hp => by
  simp only [cres,zA] at hc
  subst hc
  simp only [aresl,zA,Prod.mk.injEq] at hr
  obtain ⟨_,rfl⟩ := hr
  exact ⟨[],rfl,(fun j x hx => by simp at hx),(fun d hd => by simp at hd),by simp⟩
 | r :: rs,ars,p,ds,hc,hr,hp => by
  have key : ∃ ar ars',ars = ar :: ars' ∧ cres P rs = some ars' ∧ ∀ q d,aresv st.env st.heap ar = some (q,d) → q → ∃ v,VR s Z d v ∧ LtR st.nx d ∧ ((match r with | .tmp t => pure (a.tmps.getD t undef) | .cell q t => do loadVar t (← asAddr (a.tmps.getD q undef)) : Sem Value)).run P w = .ok v w := by
   cases r with
   | tmp t =>
    simp only [cres,Option.map_eq_some_iff] at hc
    obtain ⟨l,hl,rfl⟩ := hc
    refine ⟨_,_,rfl,hl,fun q d hq hqp => ?_⟩
    simp only [aresv,zA,Prod.mk.injEq] at hq
    obtain ⟨rfl,rfl⟩ := hq
    have := h.vr (x := .tmp t) (y := .t t) rfl hqp
    exact ⟨_,this,h.lr (x := .tmp t) (y := .t t) rfl hqp,by simp [Act.eval]⟩
   | cell t ty =>
    simp only [cres] at hc
    split at hc <;> simp only [zA,reduceCtorEq] at hc
    rename_i ag n l h1 h2 h3
    subst hc
    refine ⟨_,_,rfl,h3,fun q d hq hqp => ?_⟩
    simp only [aresv] at hq
    split at hq <;> simp only [zA,Prod.mk.injEq,reduceCtorEq] at hq
    rename_i q' d' hqv
    obtain ⟨rfl,rfl⟩ := hq
    have hv := h.vr (x := .tmp t) (y := .t t) rfl hqp.1
    obtain ⟨es,p',hr,ht,hp'⟩ := reads_of (ev := evS st.env) h.h.know hv rfl hqv hqp.2
    obtain ⟨u,hu,hrun⟩ := load_sound h1 h2 hr ht hp'
    obtain ⟨b,o,he,_⟩ := hr
    refine ⟨u,hu,?_,?_⟩
    ·exact qv_lt (P := P) (s := s) (Z := Z) (o := .load ty (.tmp t)) (ao := .load ag n (.t t)) h.h.know (fun id ob hh => (h.h.lt id ob hh).2) (by simp [cop,h1,h2,opdC]) (fun x hx => by simp [opnds] at hx;subst hx;exact h.lr (x := .tmp t) rfl hqp.1) (fun x hx => by simp [opnds] at hx;subst hx;exact ⟨_,hv⟩) hqv hqp.2
    ·have := hrun w (More.refl w)
     have he' : a.tmps.getD t undef = .pointer (some ⟨b,o,none⟩) := he
     simp only [he']
     rw [← this,he]
     exact load_var
  obtain ⟨ar,ars',rfl,hcr,hkey⟩ := key
  simp only [aresl] at hr
  cases h1 : aresv st.env st.heap ar with
  | none => rw [h1] at hr;simp at hr
  | some qd =>
   obtain ⟨q,d⟩ := qd
   rw [h1] at hr
   cases h2 : aresl st.env st.heap ars' with
   | none => rw [h2] at hr;simp at hr
   | some qds =>
    obtain ⟨q',ds'⟩ := qds
    rw [h2] at hr
    simp only [zA,Prod.mk.injEq] at hr
    obtain ⟨rfl,rfl⟩ := hr
    obtain ⟨v,hv,hlt,hrun⟩ := hkey q d h1 hp.1
    obtain ⟨vs,g1,g2,g3,g4⟩ := res_run h rs ars' q' ds' hcr h2 hp.2
    refine ⟨v :: vs,by simp [g1],fun j x hx => ?_,fun x hx => ?_,?_⟩
    ·cases j with
     | zero => simp at hx;subst hx;exact hv
     | succ j => simpa using g2 j x (by simpa using hx)
    ·rcases List.mem_cons.1 hx with rfl | hx
     ·exact hlt
     ·exact g3 x hx
    ·rw [List.mapM_cons]
     simp only [Sem.run_bind]
     cases r <;> simp only [hrun,Result.andThen_ok,g4,Sem.run_pure]
end
section
variable {P : Program} {hw : List FuncId} {f : FuncId} {code : AC} {res : List AR} {n : Nat} {ds : List D} {H : List (Nat × Ob)} {nx : Nat} {R : D → List (Nat × Ob) → Nat → Prop}
theorem RelH.toN {F : Nat → Prop} {w0 : World} {n0 : Nat} {sb : Nat → Value} {Zb : Cells} {n : Nat} (m : Nat) {s : Nat → Value} {Z : Cells} {w : World} (h : RelH ⟨n,F,w0,n0,sb,Zb⟩ s Z H nx w) : RelH ⟨m,F,w0,n0,sb,Zb⟩ s Z H nx w :=
 ⟨h.ob,h.lt,h.apart,h.zok,h.zap,h.mine,h.fr,h.n0,h.bs,h.bz,h.bn⟩
theorem cfun_some (hc : cfun P hw f = some ⟨code,res,n⟩) : ∃ fn c,P.funcs[f]? = some fn ∧ fn.body = some c ∧ cco P n hw c = some code ∧ cres P fn.results.toList = some res ∧ fn.ntmps = n ∧ callable P f = true := by
 unfold cfun at hc
 split at hc
 case h_2 => cases hc
 rename_i fn hf
 split at hc
 ·cases hc
 rename_i hnm
 split at hc
 case h_2 => cases hc
 rename_i c hb
 split at hc
 case h_2 => cases hc
 rename_i c' r' h1 h2
 simp only [zA,AF.mk.injEq] at hc
 obtain ⟨rfl,rfl,rfl⟩ := hc
 refine ⟨fn,c,hf,hb,h1,h2,rfl,?_⟩
 unfold callable
 rw [hf]
 simp only [hb,Option.isSome_some,Bool.true_and]
 simpa using hnm
theorem body_sound {B : Base} {s : Nat → Value} {Z : Cells} {w : World} {vs : Array Value} (hm : P.follows .mixedOrders = true) (hc : cfun P hw f = some ⟨code,res,n⟩) (hBN : B.N = n) (hlen : ds.length ≤ n) (hno : ds.all argOk = true)
  (hlt : ∀ d ∈ ds,LtV nx d) (h : W P B hw code (Fin res R) ⟨envOf 0 ds,H,nx⟩) (hR : RelH B s Z H nx w) (hl : vs.size = ds.length) (hv : ∀ j x,ds[j]? = some x → VV s Z x (vs.getD j undef)) :
  Calls P f vs w fun e w' => ∃ v d H' nx' s' Z',e = .returned v ∧ VR s' Z' d v ∧ LtR nx' d ∧ RelH B s' Z' H' nx' w' ∧ R d H' nx' := by
 obtain ⟨fn,c,hf,hb,h1,h2,h3,hcal⟩ := cfun_some hc
 refine calls_of_wp hf hb ?_
 have rel : Rel B s Z ⟨envOf 0 ds,H,nx⟩ { tmps := vs ++ Array.replicate (fn.ntmps - vs.size) undef,defers := [] } w := by
  refine ⟨fun k => ?_,fun k => ?_,?_,rfl,hR⟩
  ·simp only [eget_envOf,Nat.zero_le,if_true,Nat.sub_zero]
   by_cases hk : k < ds.length
   ·have hx : ds[k]? = some (ds.getD k .any) := by rw [zC,zE hk];rfl
    have := hv k _ hx
    rw [Array.getD_eq_getD_getElem?,Array.getElem?_append_left (by omega),← Array.getD_eq_getD_getElem?]
    exact VS.of_vr (VR.of_vv this)
   ·rw [zC,List.getElem?_eq_none (by omega)];trivial
  ·simp only [eget_envOf,Nat.zero_le,if_true,Nat.sub_zero]
   by_cases hk : k < ds.length
   ·have hx : ds[k]? = some (ds.getD k .any) := by rw [zC,zE hk];rfl
    have hmem := zD hx
    have h4 := hlt _ hmem
    have h5 := List.all_eq_true.1 hno _ hmem
    generalize ds.getD k .any = d at *
    cases d <;> first | exact h4 | cases h5
   ·rw [zC,List.getElem?_eq_none (by omega)];trivial
  ·simp only [Array.size_append,Array.size_replicate];omega
 have hbody := h hm c (by rw [hBN];exact h1) s Z _ w rel
 have key : ∀ (e : Ex) (st : St) (s' : Nat → Value) (Z' : Cells) (a : Act) (w' : World),(e = .ret ∨ e = .normal) → Fin res R e st → Rel B s' Z' st a w' → a.defers = [] ∧ ∃ v,(results fn a.tmps).run P w' = .ok v w' ∧ ∃ v' d H' nx' s' Z',(.returned v : Ending) = .returned v' ∧ VR s' Z' d v' ∧ LtR nx' d ∧ RelH B s' Z' H' nx' w' ∧ R d H' nx' := by
  intro e st s' Z' a w' he hfin hr
  have hfin : match aresl st.env st.heap res with
    | some (p,ds) => (p ∧ ds.all argOk = true) ∧ R (resD ds) st.heap st.nx
    | none => False := by rcases he with rfl | rfl <;> exact hfin
  refine ⟨hr.defers,?_⟩
  split at hfin
  case h_2 => exact hfin.elim
  rename_i p es hes
  obtain ⟨⟨hp,hall⟩,hRd⟩ := hfin
  obtain ⟨us,g1,g2,g3,g4⟩ := res_run hr _ _ p es h2 hes hp
  have hrun : (fn.results.mapM (m := Sem) fun | .tmp t => pure (a.tmps.getD t undef) | .cell q t => do loadVar t (← asAddr (a.tmps.getD q undef))).run P w' = .ok us.toArray w' := by
   rw [Array.mapM_eq_mapM_toList,Sem.run_map]
   exact congrArg (fun r => Result.andThen r _) g4
  have hres : (results fn a.tmps).run P w' = (do let vs ← (fn.results.mapM (m := Sem) fun | .tmp t => pure (a.tmps.getD t undef) | .cell q t => do loadVar t (← asAddr (a.tmps.getD q undef)));pure (if h : vs.size = 1 then vs[0] else .tuple vs) : Sem Value).run P w' := rfl
  have hV : ∀ j x,es[j]? = some x → VV s' Z' x (us.getD j undef) := fun j x hx => by
   have q1 := g2 j x hx
   have q2 := List.all_eq_true.1 hall x (zD hx)
   cases x <;> first | exact q1 | cases q2
  have hLV : ∀ d ∈ es,LtV st.nx d := fun d hd => by
   have q1 := g3 d hd
   have q2 := List.all_eq_true.1 hall d hd
   cases d <;> first | exact q1 | cases q2
  match es,us,g1,hV,hLV,hRd,hrun with
  | [d],[u],_,hV,hLV,hRd,hrun =>
   refine ⟨u,?_,u,d,st.heap,st.nx,s',Z',rfl,VR.of_vv (hV 0 d rfl),?_,hr.h,hRd⟩
   ·rw [hres,Sem.run_bind,hrun]
    simp
   ·have := hLV d (by simp)
    cases d <;> first | exact this | (have q := hV 0 _ rfl;cases q;done)
  | [],[],_,hV,hLV,hRd,hrun =>
   refine ⟨.tuple #[],?_,.tuple #[],.tup [],st.heap,st.nx,s',Z',rfl,⟨#[],rfl,rfl,fun j x hx => by simp at hx⟩,fun d hd => by simp at hd,hr.h,hRd⟩
   rw [hres,Sem.run_bind,hrun]
   simp
  | d :: d' :: es,u :: u' :: us,g1,hV,hLV,hRd,hrun =>
   refine ⟨.tuple (u :: u' :: us).toArray,?_,_,.tup (d :: d' :: es),st.heap,st.nx,s',Z',rfl,⟨_,rfl,by simpa using g1,fun j x hx => ?_⟩,hLV,hr.h,hRd⟩
   ·rw [hres,Sem.run_bind,hrun]
    simp
   ·simpa [Array.getD_eq_getD_getElem?,zC] using hV j x hx
 refine wp_mono hbody fun e a w' hl => ?_
 cases e with
 | normal => obtain ⟨st,s',Z',q1,q2⟩ := hl;exact key .normal st s' Z' a w' (.inr rfl) q1 q2
 | ret => obtain ⟨st,s',Z',q1,q2⟩ := hl;exact key .ret st s' Z' a w' (.inl rfl) q1 q2
 | exit id => obtain ⟨st,s',Z',q1,q2⟩ := hl;exact q1.elim
 | _ => exact hl.elim
theorem HF.of (hm : P.follows .mixedOrders = true) (hc : cfun P hw f = some ⟨code,res,n⟩) (hlen : ds.length ≤ n) (hno : ds.all argOk = true) (hlt : ∀ d ∈ ds,LtV nx d) (h : ∀ B : Base,B.N = n → B.n0 = nx → W P B hw code (Fin res R) ⟨envOf 0 ds,H,nx⟩) : HF P f ds H nx R := by
 obtain ⟨fn,c,hf,hb,h1,h2,h3,hcal⟩ := cfun_some hc
 refine ⟨hcal,fun F s Z w vs hR hl hv => ?_⟩
 refine (body_sound (B := ⟨n,F,w,nx,s,Z⟩) hm hc rfl hlen hno hlt (h _ rfl rfl) (hR.toN n) hl hv).mono ?_
 rintro e w' ⟨v,d,H',nx',s',Z',he,q1,q2,q3,q4⟩
 exact ⟨v,d,H',nx',s',Z',he,q1,q2,q3.toN 0,q4⟩
theorem noV_lt {d : D} (h : noV d = true) : LtV 0 d := by
 cases d with
 | agg ds => exact fun x hx => by have := List.all_eq_true.1 h x hx;cases x <;> first | trivial | cases this
 | own _ => cases h
 | ptr _ _ => cases h
 | pel _ _ _ _ => cases h
 | sl _ _ _ _ _ => cases h
 | clo _ _ => cases h
 | _ => trivial
theorem empty_rel (n : Nat) (Z : Cells) (w : World) (hz : ∀ b o v,Z b o = some v → w.cell? ⟨b,o,none⟩ = some v) : RelH ⟨n,fun _ => False,w,0,s0,Z⟩ s0 Z [] 0 w :=
 ⟨(fun _ _ h => by cases h),(fun _ _ h => by cases h),(fun _ _ _ _ _ h => by cases h),hz,(fun _ _ _ _ h => by cases h),(fun _ _ _ h => by cases h),Fr.refl _ _,Nat.le_refl _,fun _ _ => rfl,fun _ _ _ h => h,fun _ _ _ h => .inl h⟩
noncomputable def Zown (Z : Cells) (H : List (Nat × Ob)) (s : Nat → Value) (w : World) : Cells := open Classical in fun b o => if ∃ id ob,hget H id = some ob ∧ blk (s id) = some b then w.cell? ⟨b,o,none⟩ else Z b o
def Rbr (e : D) (d : D) (H : List (Nat × Ob)) (_ : Nat) : Prop := match brwR H d with | some e' => leR e' e | none => False
theorem Rbr_at (e d : D) (H : List (Nat × Ob)) (nx : Nat) : Rbr e d H nx = (match brwR H d with | some e' => leR e' e | none => False) := rfl
theorem PF.of {e : D} (hm : P.follows .mixedOrders = true) (hc : cfun P hw f = some ⟨code,res,n⟩) (hlen : ds.length ≤ n) (hno : ds.all argOk = true) (hnv : ds.all noV = true)
  (h : ∀ B : Base,B.N = n → B.n0 = 0 → W P B hw code (Fin res (Rbr e)) ⟨envOf 0 ds,[],0⟩) : PF P f ds e := by
 obtain ⟨fn,c,hf,hb,h1,h2,h3,hcal⟩ := cfun_some hc
 refine ⟨hcal,fun Z w vs hz hl hv => ?_⟩
 refine (body_sound (B := ⟨n,fun _ => False,w,0,s0,Z⟩) hm hc rfl hlen hno (fun d hd => noV_lt (List.all_eq_true.1 hnv d hd)) (h _ rfl rfl) (empty_rel n Z w hz) hl hv).mono ?_
 rintro x w' ⟨v,d,H',nx',s',Z',he,q1,q2,q3,q4⟩
 have hbel : Below w.heap.size w w' := ⟨q3.fr.os,q3.fr.tape,q3.fr.output,q3.fr.size,fun k hk => q3.fr.block k hk (fun h => h)⟩
 unfold Rbr at q4
 split at q4
 case h_2 => exact q4.elim
 rename_i e' he'
 refine ⟨v,Zown Z' H' s' w',he,leR_sound q4 (brwR_sound q3.know (fun b o u hu => ?_) (fun id ob b hid hb o u hu => ?_) he' q1),⟨fun b o u hu => ?_,fun b o u hu => ?_,fun b o u hu => ?_⟩,hbel⟩
 ·unfold Zown
  split
  ·exact q3.zok b o u hu
  ·exact hu
 ·unfold Zown
  rw [if_pos ⟨id,ob,hid,hb⟩]
  exact hu
 ·unfold Zown
  split
  ·exact q3.zok b o u (q3.bz b o u hu)
  ·exact q3.bz b o u hu
 ·unfold Zown at hu
  split at hu
  ·rename_i hx
   obtain ⟨id,ob,hid,hb⟩ := hx
   rcases q3.mine id ob b hid hb with h5 | h5
   ·exact .inr h5
   ·exact h5.elim
  ·rcases q3.bn b o u hu with h5 | h5 | h5
   ·exact .inl h5
   ·exact .inr h5
   ·exact h5.elim
 ·unfold Zown at hu
  split at hu
  ·exact hu
  ·exact q3.zok b o u hu
def frC (H : List (Nat × Ob)) : Nat → D → Prop
 | n,.own id => match n with
  | 0 => False
  | n + 1 => match hget H id with
   | some (.row _ xs) => ∀ row ∈ xs,∀ d ∈ row,flatC d = true
   | some (.rowd _ xs) => ∀ row ∈ xs,∀ d ∈ row,frC H n d
   | _ => False
 | n,.ptr id _ => match n with
  | 0 => False
  | n + 1 => match hget H id with
   | some (.cells ds) => ∀ d ∈ ds,frC H n d
   | _ => False
 | _,.nil0 => True
 | _,d => flatC d = true
def frV (H : List (Nat × Ob)) : D → Prop
 | .agg ds => ∀ d ∈ ds,frC H 4 d
 | d => frC H 4 d
def frR (H : List (Nat × Ob)) : D → Prop
 | .tup ds => ∀ d ∈ ds,frV H d
 | d => frV H d
section
variable {B : Base} {s : Nat → Value} {Z Zn : Cells} {w : World}
theorem flatC_VT {d : D} {v : Value} (h : VC s Z d v) (hf : flatC d = true) : VT Zn d v := by
 cases d <;> first | (cases hf;done) | (cases h;constructor)
theorem frC_sound (hk : Know s Z H w) (hp : ∀ id ob b,hget H id = some ob → blk (s id) = some b → ∀ o v,w.cell? ⟨b,o,none⟩ = some v → Zn b o = some v) :
  ∀ (n : Nat) (d e : D) (v : Value),brwC H n d = some e → frC H n d → VC s Z d v → VT Zn e v := by
 have rowv : ∀ (R : D → Value → Prop) (id sz : Nat) (xs ys : List (List D)) ob,hget H id = some ob → RowOk R w sz xs (s id) → ys.length = xs.length → (∀ (i : Nat) (row : List D) (j : Nat) (e : D),ys[i]? = some row → row[j]? = some e → j < sz ∧ ∃ row' d,xs[i]? = some row' ∧ row'[j]? = some d ∧ ∀ v,R d v → VT Zn e v) → VT Zn (.rows sz ys) (s id) := by
  intro R id sz xs ys ob hh ho hl hc
  obtain ⟨h0,hrow,ho⟩ := ho
  rcases ho with ⟨rfl,a,hv⟩ | ⟨g,cap,cur,e,hv,hg,hcap,hm,hcs,hcc⟩
  ·have : ys = [] := List.eq_nil_of_length_eq_zero (by simpa using hl)
   subst this
   rw [hv]
   exact VT.rnil sz a 0
  ·rw [hv,← hl]
   refine VT.rows sz ys g 0 cap (fun i j => cur.getD (i * sz + j) undef) (by omega) (fun i row j d hi hj => ?_) (fun i row j d hi hj => ?_)
   ·obtain ⟨hj',row',x,hx,hxj,_⟩ := hc i row j d hi hj
    refine ⟨hj',?_⟩
    have hil : i < xs.length := (zB.1 hx).1
    have hlt : i * sz + j < cur.size := by
     rw [hcs]
     have : (i + 1) * sz ≤ cap * sz := Nat.mul_le_mul_right _ (by omega)
     rw [Nat.add_mul] at this;omega
    have hcap0 : cap ≠ 0 := by omega
    refine hp id ob g hh (by rw [hv];simp [blk,hcap0]) _ _ ?_
    rw [Nat.zero_add,cell_of_row w g _ cur e (0,0) hg]
    simp [hlt]
   ·obtain ⟨hj',row',x,hx,hxj,hR⟩ := hc i row j d hi hj
    exact hR _ (hcc i row' j x hx hxj)
 have leaf : ∀ (d e : D) (v : Value),e = d → (flatC d = true ∨ d = .nil0) → VC s Z d v → VT Zn e v := fun d e v he hf hv => by
  subst he
  rcases hf with hf | rfl
  ·exact flatC_VT hv hf
  ·cases hv;exact VT.nil0 _
 intro n
 induction n with
 | zero =>
  intro d e v h hf hv
  cases d <;> simp only [brwC,zA,reduceCtorEq] at h <;> simp only [frC] at hf <;> first | exact leaf _ _ _ h.symm (.inl hf) hv | exact leaf _ _ _ h.symm (.inr rfl) hv
 | succ n ih =>
  intro d e v h hf hv
  cases d with
  | own id =>
   simp only [brwC] at h
   simp only [frC] at hf
   obtain ⟨rfl,_⟩ := hv
   split at h
   ·rename_i sz xs hh
    simp only [zA] at h
    subst h
    simp only [hh] at hf
    have ho := hk.ob _ _ hh
    refine rowv _ id sz xs xs _ hh ho rfl fun i row j e hi hj => ⟨?_,row,e,hi,hj,fun v h => flatC_VT (s := s) (VC.of_vt h) (hf row (zD hi) e (zD hj))⟩
    have := (zB.1 hj).1
    rwa [ho.2.1 _ (zD hi)] at this
   ·rename_i sz xs hh
    simp only [hh] at hf
    cases hm : omap (omap (brwC H n)) xs with
    | none => rw [hm] at h;cases h
    | some ys =>
     rw [hm] at h
     simp only [Option.map_some,zA] at h
     subst h
     obtain ⟨g1,g2⟩ := omap_some hm
     have ho := hk.ob _ _ hh
     refine rowv _ id sz xs ys _ hh ho g1 fun i row j e hi hj => ?_
     obtain ⟨row',hx,hr⟩ := g2 i row hi
     obtain ⟨f1,f2⟩ := omap_some hr
     obtain ⟨d,hd,hb⟩ := f2 j e hj
     have : j < row'.length := (zB.1 hd).1
     rw [ho.2.1 _ (zD hx)] at this
     exact ⟨this,row',d,hx,hd,fun v h => ih d e v hb (hf row' (zD hx) d (zD hd)) h⟩
   ·cases h
  | ptr id j =>
   simp only [brwC] at h
   simp only [frC] at hf
   split at h
   ·rename_i ds hh
    simp only [hh] at hf
    cases hm : omap (brwC H n) (ds.drop j) with
    | none => rw [hm] at h;cases h
    | some es =>
     rw [hm] at h
     simp only [Option.map_some,zA] at h
     subst h
     obtain ⟨g1,g2⟩ := omap_some hm
     obtain ⟨b,hs,rfl⟩ := hv
     obtain ⟨b',T,cs,hs',hg,hsz,hc⟩ := hk.ob _ _ hh
     rw [hs] at hs'
     injection hs' with e;injection e with e;injection e with e _;subst e
     refine VT.pc es b j (fun k => cs.getD (j + k) undef) (fun k e he => ?_) (fun k e he => ?_)
     ·obtain ⟨d,hd,_⟩ := g2 k e he
      rw [List.getElem?_drop] at hd
      have hlt : j + k < cs.size := by rw [hsz];exact (zB.1 hd).1
      refine hp id _ b hh (by rw [hs];rfl) _ _ ?_
      rw [cell_of_row w b _ cs T (0,0) hg]
      simp [hlt]
     ·obtain ⟨d,hd,hb⟩ := g2 k e he
      have hd' := hd
      rw [List.getElem?_drop] at hd
      exact ih d e _ hb (hf d (List.mem_of_mem_drop (zD hd'))) (hc _ d hd)
   ·cases h
  | pel _ _ _ _ => simp [brwC] at h
  | sl _ _ _ _ _ => simp [brwC] at h
  | clo f ids => simp [frC,flatC] at hf
  | agg _ => simp [brwC] at h
  | tup _ => simp [brwC] at h
  | opt _ _ => simp [brwC] at h
  | nil0 => simp only [brwC,zA] at h;exact leaf _ _ _ h.symm (.inr rfl) hv
  | _ => simp only [brwC,zA] at h;simp only [frC] at hf;exact leaf _ _ _ h.symm (.inl hf) hv
theorem frV_sound (hk : Know s Z H w) (hp : ∀ id ob b,hget H id = some ob → blk (s id) = some b → ∀ o v,w.cell? ⟨b,o,none⟩ = some v → Zn b o = some v) {d e : D} {v : Value} (h : brwV H d = some e) (hf : frV H d) (hv : VV s Z d v) : VV s0 Zn e v := by
 have one : brwC H 4 d = some e → frC H 4 d → VC s Z d v → VV s0 Zn e v := fun h1 h2 h3 => VV.of_vc (VC.of_vt (frC_sound hk hp 4 d e v h1 h2 h3))
 cases d with
 | agg ds =>
  simp only [brwV] at h
  cases hm : omap (brwC H 4) ds with
  | none => rw [hm] at h;cases h
  | some es =>
   rw [hm] at h
   simp only [Option.map_some,zA] at h
   subst h
   obtain ⟨vs,rfl,hl,hc⟩ := hv
   obtain ⟨g1,g2⟩ := omap_some hm
   refine ⟨vs,rfl,by omega,fun j x hx => ?_⟩
   obtain ⟨y,hy,hb⟩ := g2 j x hx
   exact VC.of_vt (frC_sound hk hp 4 y x _ hb (hf y (zD hy)) (hc j y hy))
 | any => simp only [brwV,reduceCtorEq] at h
 | _ => exact one h hf hv
theorem frR_sound (hk : Know s Z H w) (hp : ∀ id ob b,hget H id = some ob → blk (s id) = some b → ∀ o v,w.cell? ⟨b,o,none⟩ = some v → Zn b o = some v) {d e : D} {v : Value} (h : brwR H d = some e) (hf : frR H d) (hv : VR s Z d v) : VR s0 Zn e v := by
 cases d with
 | tup ds =>
  simp only [brwR] at h
  cases hm : omap (brwV H) ds with
  | none => rw [hm] at h;cases h
  | some es =>
   rw [hm] at h
   simp only [Option.map_some,zA] at h
   subst h
   obtain ⟨vs,rfl,hl,hc⟩ := hv
   obtain ⟨g1,g2⟩ := omap_some hm
   refine ⟨vs,rfl,by omega,fun j x hx => ?_⟩
   obtain ⟨y,hy,hb⟩ := g2 j x hx
   exact frV_sound hk hp hb (hf y (zD hy)) (hc j y hy)
 | any => simp only [brwR,brwV,reduceCtorEq] at h
 | _ => simp only [brwR] at h;simp only [VR] at hv;exact VR.of_vv (frV_sound hk hp h hf hv)
end
def Rfr (e : D) (d : D) (H : List (Nat × Ob)) (_ : Nat) : Prop := (match brwR H d with | some e' => leR e' e | none => False) ∧ frR H d
theorem Rfr_at (e d : D) (H : List (Nat × Ob)) (nx : Nat) : Rfr e d H nx = ((match brwR H d with | some e' => leR e' e | none => False) ∧ frR H d) := rfl
theorem PFn.of {e : D} (hm : P.follows .mixedOrders = true) (hc : cfun P hw f = some ⟨code,res,n⟩) (hlen : ds.length ≤ n) (hno : ds.all argOk = true) (hnv : ds.all noV = true)
  (h : ∀ B : Base,B.N = n → B.n0 = 0 → W P B hw code (Fin res (Rfr e)) ⟨envOf 0 ds,[],0⟩) : PFn P f ds e := by
 obtain ⟨fn,c,hf,hb,h1,h2,h3,hcal⟩ := cfun_some hc
 refine ⟨hcal,fun Z w vs hz hl hv => ?_⟩
 refine (body_sound (B := ⟨n,fun _ => False,w,0,s0,Z⟩) hm hc rfl hlen hno (fun d hd => noV_lt (List.all_eq_true.1 hnv d hd)) (h _ rfl rfl) (empty_rel n Z w hz) hl hv).mono ?_
 rintro x w' ⟨v,d,H',nx',s',Z',he,q1,q2,q3,q4,q5⟩
 have hbel : Below w.heap.size w w' := ⟨q3.fr.os,q3.fr.tape,q3.fr.output,q3.fr.size,fun k hk => q3.fr.block k hk (fun h => h)⟩
 split at q4
 case h_2 => exact q4.elim
 rename_i e' he'
 refine ⟨v,Zown (fun _ _ => none) H' s' w',he,leR_sound q4 (frR_sound q3.know (fun id ob b hid hb o u hu => ?_) he' q5 q1),fun b o u hu => ?_,hbel⟩
 ·unfold Zown
  rw [if_pos ⟨id,ob,hid,hb⟩]
  exact hu
 ·unfold Zown at hu
  split at hu
  ·rename_i hx
   obtain ⟨id,ob,hid,hb⟩ := hx
   rcases q3.mine id ob b hid hb with h5 | h5
   ·exact ⟨h5,hu⟩
   ·exact h5.elim
  ·cases hu
end
def rnS (ρ : Nat → Nat) : D → D
 | .opt g d => .opt g (rnR ρ d)
 | d => rnR ρ d
theorem VS.rn {s s' : Nat → Value} {Z : Cells} {ρ : Nat → Nat} {n : Nat} (hs : ∀ id,id < n → s' (ρ id) = s id) {d : D} {v : Value} (hl : LtS n d) : VS s' Z (rnS ρ d) v ↔ VS s Z d v := by
 cases d with
 | opt g d => exact ⟨fun h => ⟨fun hg => (VR.rn hs (hl hg)).1 (h.1 hg),h.2⟩,fun h => ⟨fun hg => (VR.rn hs (hl hg)).2 (h.1 hg),h.2⟩⟩
 | tup ds => exact VR.rn (Z := Z) (d := .tup ds) hs hl
 | agg ds => exact VR.rn (Z := Z) (d := .agg ds) hs hl
 | own id => exact VR.rn (Z := Z) (d := .own id) hs hl
 | ptr id j => exact VR.rn (Z := Z) (d := .ptr id j) hs hl
 | pel id i sz j => exact VR.rn (Z := Z) (d := .pel id i sz j) hs hl
 | sl id sz off len cap => exact VR.rn (Z := Z) (d := .sl id sz off len cap) hs hl
 | clo f ids => exact VR.rn (Z := Z) (d := .clo f ids) hs hl
 | _ => exact Iff.rfl
def lget (l : List Nat) (id : Nat) : Nat := l.getD id id
section
variable {P : Program} {B : Base} {hw : List FuncId} {Q Q' : Ex → St → Prop} {st st1 : St} {sb : Bool} {K : St → Prop}
theorem Gh.ren (l : List Nat) (h0 : B.n0 ≤ st1.nx) (hl : ∀ id,id < B.n0 → lget l id = id) (he : ∀ p ∈ st1.env,eget st.env p.1 = rnS (lget l) p.2 ∧ LtS st1.nx p.2)
  (hh : ∀ p ∈ st1.heap,p.1 < st1.nx ∧ LtO st1.nx p.2 ∧ hget st.heap (lget l p.1) = some (rnO (lget l) p.2)) (hnd : (st1.heap.map fun p => lget l p.1).Nodup ∨ l = []) : Gh B st st1 := by
 intro s Z a w hr
 have hE : ∀ k,eget st1.env k = .any ∨ (k,eget st1.env k) ∈ st1.env := fun k => by
  have : ∀ l : List (Nat × D),eget l k = .any ∨ (k,eget l k) ∈ l := fun l => by
   induction l with
   | nil => exact .inl rfl
   | cons p l ih =>
    obtain ⟨j,d⟩ := p
    simp only [eget]
    split
    ·rename_i e;subst e;exact .inr (List.mem_cons_self ..)
    ·exact ih.imp id (List.mem_cons_of_mem _)
  exact this _
 refine ⟨fun id => s (lget l id),Z,⟨fun k => ?_,fun k => ?_,hr.size,hr.defers,?_⟩⟩
 ·rcases hE k with h | h
  ·rw [h];trivial
  ·obtain ⟨h1,h2⟩ := he _ h
   exact (VS.rn (s' := s) (fun _ _ => rfl) h2).1 (by rw [← h1];exact hr.env k)
 ·rcases hE k with h | h
  ·rw [h];trivial
  ·exact (he _ h).2
 ·have hH : ∀ id ob,hget st1.heap id = some ob → id < st1.nx ∧ LtO st1.nx ob ∧ hget st.heap (lget l id) = some (rnO (lget l) ob) := fun id ob h => hh _ (hget_mem h)
  have inj : ∀ id id' ob ob',hget st1.heap id = some ob → hget st1.heap id' = some ob' → id ≠ id' → lget l id ≠ lget l id' := fun id id' ob ob' h1 h2 hne e => by
   rcases hnd with hnd | rfl
   ·have m1 := hget_mem h1
    have m2 := hget_mem h2
    obtain ⟨i,hi⟩ := zF m1
    obtain ⟨j,hj⟩ := zF m2
    have g1 : (st1.heap.map fun p => lget l p.1)[i]? = some (lget l id) := by rw [List.getElem?_map,hi];rfl
    have g2 : (st1.heap.map fun p => lget l p.1)[j]? = some (lget l id') := by rw [List.getElem?_map,hj];rfl
    obtain ⟨l1,e1⟩ := zB.1 g1
    obtain ⟨l2,e2⟩ := zB.1 g2
    have : i = j := (List.getElem_inj hnd).1 (by rw [e1,e2];exact e)
    subst this
    rw [hi] at hj
    cases hj
    exact hne rfl
   ·exact hne (by simpa [lget] using e)
  refine ⟨fun id ob h => ?_,fun id ob h => ?_,fun id id' ob ob' b h h' hne hb => ?_,hr.h.zok,fun id ob b o h hb => ?_,fun id ob b h hb => ?_,hr.h.fr,h0,fun id hid => ?_,hr.h.bz,hr.h.bn⟩
  ·obtain ⟨h1,h2,h3⟩ := hH id ob h
   exact (ObOk.rn (s' := s) (fun _ _ => rfl) h2).1 (hr.h.ob _ _ h3)
  ·obtain ⟨h1,h2,h3⟩ := hH id ob h
   exact ⟨h1,h2⟩
  ·exact hr.h.apart _ _ _ _ b (hH id ob h).2.2 (hH id' ob' h').2.2 (inj id id' ob ob' h h' hne) hb
  ·exact hr.h.zap _ _ b o (hH id ob h).2.2 hb
  ·exact hr.h.mine _ _ b (hH id ob h).2.2 hb
  ·rw [hl id hid];exact hr.h.bs id hid
theorem Gh.of_eq (h : st = st1) : Gh B st st1 := h ▸ Gh.refl st
def LK {α : Type} (B : Base) (S : α → St) (I : Nat → α → Prop) (n : Nat) (st : St) : Prop := ∃ m y',Gh B st (S y') ∧ m < n ∧ I m y'
theorem W.loopS {α : Type} {x : AC} (S : α → St) (I : Nat → α → Prop) (h0 : ∃ n y,Gh B st (S y) ∧ I n y)
  (hround : ∀ n y,I n y → W P B hw x (seqQ (LK B S I n) Q) (S y)) : W P B hw (.loop x) Q st := by
 refine W.loop (fun n st => ∃ y,st = S y ∧ I n y) ?_ ?_
 ·obtain ⟨n,y,h1,h2⟩ := h0
  exact ⟨n,S y,h1,y,rfl,h2⟩
 ·rintro n _ ⟨y,rfl,h⟩
  refine (hround n y h).mono fun e st' h' => ?_
  cases e with
  | normal => obtain ⟨m,y',h1,h2,h3⟩ := h';exact ⟨m,S y',h1,h2,y',rfl,h3⟩
  | _ => exact h'
theorem WCall.pf {f : FuncId} {as_ : List Opd} {es : List D} {d : D} {dst : Option Nat} (hpf : PF P f es d) (hok : oks st.env (.call f as_) = true) (hes : match omap (brwV st.heap) (as_.map (evS st.env)) with | some e => leVL e es | none => False) (hno : ((as_.map (evS st.env)).all noV || flatR d) = true)
  (hK : K ⟨putO st.env dst d,st.heap,st.nx⟩) : WCall P sb B (.call f as_) dst st K := WCall.of hok (CallOk.pf hpf hes hno hK)
theorem WCall.pfn {f : FuncId} {as_ : List Opd} {es : List D} {d : D} {dst : Option Nat} (hpf : PFn P f es d) (hok : oks st.env (.call f as_) = true) (hes : match omap (brwV st.heap) (as_.map (evS st.env)) with | some e => leVL e es | none => False)
  (hK : K ⟨putO st.env dst d,st.heap,st.nx⟩) : WCall P sb B (.call f as_) dst st K := WCall.of hok (CallOk.pfn hpf hes hK)
end
section
variable {B : Base} {st : St}
theorem Gh.adopt (k sz : Nat) (h0 : 0 < sz) (hk : eget st.env k = .nil0) : Gh B st ⟨eput st.env k (.own st.nx),eput st.heap st.nx (.row sz []),st.nx + 1⟩ := by
 intro s Z a w hr
 have hv := hr.env k
 rw [hk] at hv
 have hv : VT Z .nil0 (a.tmps.getD k undef) := hv
 generalize hav : a.tmps.getD k undef = v at hv
 cases hv with
 | nil0 q =>
 have hH := hr.h.new (w' := w) (v := .slice q 0 0) (ob := .row sz []) (Below.refl _ _) ⟨h0,(fun _ h => by cases h),.inl ⟨rfl,q,rfl⟩⟩ trivial (fun k hk => by cases q <;> simp [blk] at hk)
 refine ⟨_,Z,fun j => ?_,fun j => ?_,hr.size,hr.defers,hH⟩
 ·rw [eget_eput]
  split
  ·rename_i e;subst e;rw [hav];exact ⟨(upd_same _ _ _).symm,.inl ⟨q,0,0,rfl⟩⟩
  ·exact (hr.env j).mono (fun _ _ _ h => h) (upd_lt s st.nx _) (hr.elt j)
 ·rw [eget_eput]
  split
  ·exact Nat.lt_succ_self _
  ·exact (hr.elt j).mono (Nat.le_succ _)
theorem Gh.adoptC (id j sz : Nat) (h0 : 0 < sz) (ds : List D) (hh : hget st.heap id = some (.cells ds)) (hk : ds[j]? = some .nil0) : Gh B st ⟨st.env,eput (eput st.heap st.nx (.row sz [])) id (.cells (ds.set j (.own st.nx))),st.nx + 1⟩ := by
 intro s Z a w hr
 obtain ⟨b,T,cs,hb,hg,hsz,hc⟩ := hr.h.ob _ _ hh
 have hv := hc j _ hk
 have hv : VT Z .nil0 (cs.getD j undef) := hv
 generalize hav : cs.getD j undef = v at hv
 cases hv with
 | nil0 q =>
 have hlt := hr.h.lt _ _ hh
 have hne : id ≠ st.nx := by omega
 have hH := hr.h.new (w' := w) (v := .slice q 0 0) (ob := .row sz []) (Below.refl _ _) ⟨h0,(fun _ h => by cases h),.inl ⟨rfl,q,rfl⟩⟩ trivial (fun k hk => by cases q <;> simp [blk] at hk)
 have hh' : hget (eput st.heap st.nx (.row sz [])) id = some (.cells ds) := by rw [hget_eput,if_neg hne];exact hh
 have hs : upd s st.nx (.slice q 0 0) id = s id := upd_lt _ _ _ _ hlt.1
 have hH2 : RelH B (upd s st.nx (.slice q 0 0)) Z (eput (eput st.heap st.nx (.row sz [])) id (.cells (ds.set j (.own st.nx)))) (st.nx + 1) w := by
  refine hH.write (k := b) hh' (by rw [hs,hb];rfl) ⟨rfl,rfl,rfl,rfl,fun _ _ => rfl⟩ ?_ ?_
  ·refine ⟨b,T,cs,by rw [hs];exact hb,hg,by simpa using hsz,fun i x hx => ?_⟩
   rw [List.getElem?_set] at hx
   split at hx
   ·rename_i e
    subst e
    split at hx
    ·simp only [zA] at hx;subst hx;rw [hav];exact ⟨(upd_same _ _ _).symm,.inl ⟨q,0,0,rfl⟩⟩
    ·cases hx
   ·exact VC.mono (fun _ _ _ h => h) (upd_lt s st.nx _) (hlt.2 x (zD hx)) (hc i x hx)
  ·intro x hx
   rcases List.mem_or_eq_of_mem_set hx with hx | rfl
   ·exact (hlt.2 x hx).mono (Nat.le_succ _)
   ·exact Nat.lt_succ_self _
 exact ⟨_,Z,fun j => (hr.env j).mono (fun _ _ _ h => h) (upd_lt s st.nx _) (hr.elt j),fun j => (hr.elt j).mono (Nat.le_succ _),hr.size,hr.defers,hH2⟩
end
theorem mn_min (a b : Int) : (if b < a then b else a) = min a b := by split <;> omega
theorem mx_max (a b : Int) : (if a < b then b else a) = max a b := by split <;> omega
abbrev I (z : Int) : D := .int .i64 z
theorem splice_one (l : List D) (j : Nat) (v : D) (h : j < l.length) : splice l j [v] = l.set j v := by
 unfold splice
 rw [List.set_eq_take_append_cons_drop,if_pos h]
 simp
theorem splice_more (l : List D) (j : Nat) (x y : D) (es : List D) : splice l j (x :: y :: es) = l.take j ++ (x :: y :: es) ++ l.drop (j + (es.length + 1 + 1)) := rfl
theorem gr0 {B : Base} {st st1 : St} (l : List Nat) (hB : B.n0 = 0) (he : ∀ p ∈ st1.env, eget st.env p.1 = rnS (lget l) p.2 ∧ LtS st1.nx p.2)
  (hh : ∀ p ∈ st1.heap, p.1 < st1.nx ∧ LtO st1.nx p.2 ∧ hget st.heap (lget l p.1) = some (rnO (lget l) p.2)) (hnd : (st1.heap.map fun p => lget l p.1).Nodup ∨ l = []) : Gh B st st1 :=
  Gh.ren l (by rw [hB]; exact Nat.zero_le _) (fun id h => by rw [hB] at h; exact absurd h (Nat.not_lt_zero _)) he hh hnd
def hkeep (ids : List Nat) : List (Nat × Ob) → List (Nat × Ob)
 | [] => []
 | (k,o) :: t => if ids.contains k then (k,o) :: hkeep ids t else hkeep ids t
def hdrop (ids : List Nat) : List (Nat × Ob) → List (Nat × Ob)
 | [] => []
 | (k,o) :: t => if ids.contains k then hdrop ids t else (k,o) :: hdrop ids t
theorem hget_hkeep (ids : List Nat) (id : Nat) : ∀ H,hget (hkeep ids H) id = if ids.contains id then hget H id else none
 | [] => by simp [hkeep,hget]
 | (k,o) :: t => by
  simp only [hkeep]
  split
  ·rename_i hk
   simp only [hget,hget_hkeep ids id t]
   by_cases h : id = k
   ·subst h;rw [if_pos rfl,if_pos hk,if_pos rfl]
   ·rw [if_neg h,if_neg h]
  ·rename_i hk
   rw [hget_hkeep ids id t]
   by_cases h : id = k
   ·subst h;rw [if_neg hk,if_neg hk]
   ·simp only [hget,if_neg h]
theorem hget_hdrop (ids : List Nat) (id : Nat) : ∀ H,hget (hdrop ids H) id = if ids.contains id then none else hget H id
 | [] => by simp [hdrop,hget]
 | (k,o) :: t => by
  simp only [hdrop]
  split
  ·rename_i hk
   rw [hget_hdrop ids id t]
   by_cases h : id = k
   ·subst h;rw [if_pos hk,if_pos hk]
   ·simp only [hget,if_neg h]
  ·rename_i hk
   simp only [hget,hget_hdrop ids id t]
   by_cases h : id = k
   ·subst h;rw [if_pos rfl,if_neg hk,if_pos rfl]
   ·rw [if_neg h,if_neg h]
def fzC (H : List (Nat × Ob)) (d : D) : D := match brwC H 4 d with | some e => e | none => d
def fzV (H : List (Nat × Ob)) : D → D
 | .agg ds => .agg (ds.map (fzC H))
 | d => fzC H d
def fzR (H : List (Nat × Ob)) : D → D
 | .tup ds => .tup (ds.map (fzV H))
 | .any => .any
 | d => fzV H d
def fzS (H : List (Nat × Ob)) : D → D
 | .opt g d => .opt g (fzR H d)
 | d => fzR H d
def fzO (H : List (Nat × Ob)) : Ob → Ob
 | .cells ds => .cells (ds.map (fzC H))
 | .rowd sz xs => .rowd sz (xs.map (List.map (fzC H)))
 | o => o
def freeze (ids : List Nat) (st : St) : St :=
 ⟨st.env.map fun p => (p.1,fzS (hkeep ids st.heap) p.2),(hdrop ids st.heap).map fun p => (p.1,fzO (hkeep ids st.heap) p.2),st.nx⟩
theorem eget_map (f : D → D) (hf : f .any = .any) (k : Nat) : ∀ (l : List (Nat × D)),eget (l.map fun p => (p.1,f p.2)) k = f (eget l k)
 | [] => by simp [eget,hf]
 | (j,d) :: t => by
  simp only [List.map_cons,eget]
  split
  ·rfl
  ·exact eget_map f hf k t
theorem hget_map (f : Ob → Ob) (k : Nat) : ∀ (l : List (Nat × Ob)),hget (l.map fun p => (p.1,f p.2)) k = (hget l k).map f
 | [] => rfl
 | (j,d) :: t => by
  simp only [List.map_cons,hget]
  split
  ·rfl
  ·exact hget_map f k t
theorem VT.ltN {Z : Cells} {d : D} {v : Value} (n : Nat) (h : VT Z d v) : LtC n d := by cases h <;> trivial
theorem VC.vt_agg {s : Nat → Value} {Z : Cells} {ds : List D} {v : Value} (h : VC s Z (.agg ds) v) : False := by cases h
theorem VC.vt_tup {s : Nat → Value} {Z : Cells} {ds : List D} {v : Value} (h : VC s Z (.tup ds) v) : False := by cases h
theorem RowOk.map {R R' : D → Value → Prop} {w : World} {sz : Nat} {xs : List (List D)} {v : Value} (f : D → D) (h : RowOk R w sz xs v) (hR : ∀ row ∈ xs,∀ d ∈ row,∀ u,R d u → R' (f d) u) : RowOk R' w sz (xs.map (List.map f)) v := by
 obtain ⟨h1,h2,h3⟩ := h
 refine ⟨h1,fun row hr => ?_,?_⟩
 ·obtain ⟨r,hr',rfl⟩ := List.mem_map.1 hr
  simpa using h2 r hr'
 ·rcases h3 with ⟨rfl,a,h4⟩ | ⟨g,cap,cur,e,h3,h4,h5,h6,h7,h8⟩
  ·exact .inl ⟨rfl,a,h4⟩
  ·refine .inr ⟨g,cap,cur,e,by simpa using h3,h4,by simpa using h5,h6,h7,fun i row j d hi hj => ?_⟩
   obtain ⟨r,hr',rfl⟩ := (map_get _ _ _ _).1 hi
   obtain ⟨x,hx,rfl⟩ := (map_get _ _ _ _).1 hj
   exact hR r (zD hr') x (zD hx) _ (h8 i r j x hr' hx)
section
variable {B : Base} {st : St}
theorem Gh.freeze (ids : List Nat) : Gh B st (freeze ids st) := by
 intro s Z a w hr
 obtain ⟨Hf,hHf⟩ : ∃ Hf,Hf = hkeep ids st.heap := ⟨_,rfl⟩
 have hsub : ∀ id ob,hget Hf id = some ob → hget st.heap id = some ob ∧ ids.contains id = true := fun id ob h => by
  rw [hHf,hget_hkeep] at h
  split at h
  ·rename_i hc;exact ⟨h,hc⟩
  ·cases h
 have hknow : Know s Z Hf w := ⟨fun id ob h => hr.h.ob id ob (hsub id ob h).1,hr.h.zok⟩
 classical
 let Zp : Cells := fun b o => if ∃ id ob,hget Hf id = some ob ∧ blk (s id) = some b then w.cell? ⟨b,o,none⟩ else Z b o
 have hz : ∀ b o v,Z b o = some v → Zp b o = some v := fun b o v hv => by
  show (if _ then _ else _) = _
  split
  ·rename_i h
   obtain ⟨id,ob,h1,h2⟩ := h
   have := hr.h.zap id ob b o (hsub id ob h1).1 h2
   rw [this] at hv;cases hv
  ·exact hv
 have hp : ∀ id ob b,hget Hf id = some ob → blk (s id) = some b → ∀ o v,w.cell? ⟨b,o,none⟩ = some v → Zp b o = some v := fun id ob b h1 h2 o v hv => by
  show (if _ then _ else _) = _
  rw [if_pos ⟨id,ob,h1,h2⟩];exact hv
 have kC : ∀ d v,LtC st.nx d → VC s Z d v → VC s Zp (fzC Hf d) v ∧ LtC st.nx (fzC Hf d) := fun d v hl hv => by
  unfold fzC
  cases hb : brwC Hf 4 d with
  | some e =>
   have := brwC_sound hknow hz hp 4 d e v hb hv
   exact ⟨VC.of_vt this,VT.ltN _ this⟩
  | none => exact ⟨VC.mono hz (fun _ _ => rfl) hl hv,hl⟩
 have toV : ∀ e v,VC s Zp e v → LtC st.nx e → VV s Zp e v ∧ LtV st.nx e := fun e v h1 h2 => by
  refine ⟨VV.of_vc h1,?_⟩
  cases e <;> first | exact h2 | exact (VC.vt_agg (s := s) (Z := Zp) h1).elim
 have kV : ∀ d v,LtV st.nx d → VV s Z d v → VV s Zp (fzV Hf d) v ∧ LtV st.nx (fzV Hf d) := fun d v hl hv => by
  have one : LtC st.nx d → VC s Z d v → VV s Zp (fzC Hf d) v ∧ LtV st.nx (fzC Hf d) := fun h1 h2 => by
   obtain ⟨g1,g2⟩ := kC d v h1 h2
   exact toV _ _ g1 g2
  cases d with
  | agg ds =>
   obtain ⟨vs,rfl,h1,h2⟩ := hv
   refine ⟨⟨vs,rfl,by simpa using h1,fun j x hx => ?_⟩,fun x hx => ?_⟩
   ·obtain ⟨y,hy,rfl⟩ := (map_get _ _ _ _).1 hx
    exact (kC y _ (hl y (zD hy)) (h2 j y hy)).1
   ·obtain ⟨y,hy,rfl⟩ := List.mem_map.1 hx
    obtain ⟨j,hj⟩ := zF hy
    exact (kC y _ (hl y hy) (h2 j y hj)).2
  | _ => exact one hl hv
 have toR : ∀ e v,VV s Zp e v → LtV st.nx e → VR s Zp e v ∧ LtR st.nx e := fun e v h1 h2 => by
  refine ⟨VR.of_vv h1,?_⟩
  cases e <;> first | exact h2 | exact (VC.vt_tup (s := s) (Z := Zp) h1).elim
 have kR : ∀ d v,LtR st.nx d → VR s Z d v → VR s Zp (fzR Hf d) v ∧ LtR st.nx (fzR Hf d) := fun d v hl hv => by
  have one : LtV st.nx d → VV s Z d v → VR s Zp (fzV Hf d) v ∧ LtR st.nx (fzV Hf d) := fun h1 h2 => by
   obtain ⟨g1,g2⟩ := kV d v h1 h2
   exact toR _ _ g1 g2
  cases d with
  | tup ds =>
   obtain ⟨vs,rfl,h1,h2⟩ := hv
   refine ⟨⟨vs,rfl,by simpa using h1,fun j x hx => ?_⟩,fun x hx => ?_⟩
   ·obtain ⟨y,hy,rfl⟩ := (map_get _ _ _ _).1 hx
    exact (kV y _ (hl y (zD hy)) (h2 j y hy)).1
   ·obtain ⟨y,hy,rfl⟩ := List.mem_map.1 hx
    obtain ⟨j,hj⟩ := zF hy
    exact (kV y _ (hl y hy) (h2 j y hj)).2
  | any => exact ⟨trivial,trivial⟩
  | _ => exact one hl hv
 have kS : ∀ d v,LtS st.nx d → VS s Z d v → VS s Zp (fzS Hf d) v ∧ LtS st.nx (fzS Hf d) := fun d v hl hv => by
  have one : LtR st.nx d → VR s Z d v → VS s Zp (fzR Hf d) v ∧ LtS st.nx (fzR Hf d) := fun h1 h2 => by
   obtain ⟨g1,g2⟩ := kR d v h1 h2
   exact ⟨VS.of_vr g1,LtS.of_r g2 (VR.no_opt g1)⟩
  cases d with
  | opt g d => exact ⟨⟨fun hg => (kR d v (hl hg) (hv.1 hg)).1,hv.2⟩,fun hg => (kR d v (hl hg) (hv.1 hg)).2⟩
  | _ => exact one hl hv
 have hgo : ∀ id ob,hget (Go.Proofs.YtibemmkfcjlmpaaGreat.freeze ids st).heap id = some ob → ∃ ob0,hget st.heap id = some ob0 ∧ ids.contains id = false ∧ ob = fzO Hf ob0 := fun id ob h => by
  have h : hget ((hdrop ids st.heap).map fun p => (p.1,fzO (hkeep ids st.heap) p.2)) id = some ob := h
  rw [hget_map,hget_hdrop,← hHf] at h
  cases hc : ids.contains id with
  | true => rw [if_pos hc] at h;cases h
  | false =>
   rw [if_neg (by rw [hc];exact Bool.false_ne_true)] at h
   cases hq : hget st.heap id with
   | none => rw [hq] at h;cases h
   | some ob0 =>
    rw [hq] at h
    simp only [Option.map_some,zA] at h
    exact ⟨ob0,rfl,rfl,h.symm⟩
 refine ⟨s,Zp,⟨fun k => ?_,fun k => ?_,hr.size,hr.defers,?_⟩⟩
 ·show VS s Zp (eget (st.env.map fun p => (p.1,fzS (hkeep ids st.heap) p.2)) k) _
  rw [eget_map _ rfl,← hHf]
  exact (kS _ _ (hr.elt k) (hr.env k)).1
 ·show LtS st.nx (eget (st.env.map fun p => (p.1,fzS (hkeep ids st.heap) p.2)) k)
  rw [eget_map _ rfl,← hHf]
  exact (kS _ _ (hr.elt k) (hr.env k)).2
 ·constructor
  ·intro id ob h
   obtain ⟨ob0,h1,h2,rfl⟩ := hgo id ob h
   have h3 := hr.h.ob id ob0 h1
   have h4 := (hr.h.lt id ob0 h1).2
   cases ob0 with
   | cells ds =>
    obtain ⟨b,T,cs,g1,g2,g3,g4⟩ := h3
    refine ⟨b,T,cs,g1,g2,by simpa using g3,fun j x hx => ?_⟩
    obtain ⟨y,hy,rfl⟩ := (map_get _ _ _ _).1 hx
    exact (kC y _ (h4 y (zD hy)) (g4 j y hy)).1
   | row sz xs => exact RowOk.mono h3 (fun _ _ => rfl) (fun _ _ _ _ _ h => VT.mono hz h)
   | rowd sz xs => exact RowOk.map _ h3 fun row hrow d hd u hu => (kC d u (h4 row hrow d hd) hu).1
   | blk sz xs => exact BlkOk.mono h3 (fun _ _ => rfl) (fun row hrow d hd u hu => VC.mono hz (fun _ _ => rfl) (h4 row hrow d hd) hu)
   | mp bare es ck => exact h3
   | it m since seen last => exact h3
  ·intro id ob h
   obtain ⟨ob0,h1,h2,rfl⟩ := hgo id ob h
   have h3 := hr.h.ob id ob0 h1
   have h4 := hr.h.lt id ob0 h1
   refine ⟨h4.1,?_⟩
   cases ob0 with
   | cells ds =>
    obtain ⟨b,T,cs,g1,g2,g3,g5⟩ := h3
    intro x hx
    obtain ⟨y,hy,rfl⟩ := List.mem_map.1 hx
    obtain ⟨j,hj⟩ := zF hy
    exact (kC y _ (h4.2 y hy) (g5 j y hj)).2
   | row sz xs => trivial
   | rowd sz xs =>
    intro row hrow x hx
    obtain ⟨r,hr',rfl⟩ := List.mem_map.1 hrow
    obtain ⟨y,hy,rfl⟩ := List.mem_map.1 hx
    rcases h3.2.2 with ⟨rfl,_⟩ | ⟨g,cap,cur,e,_,_,_,_,_,h8⟩
    ·cases hr'
    ·obtain ⟨i,hi⟩ := zF hr'
     obtain ⟨j,hj⟩ := zF hy
     exact (kC y _ (h4.2 r hr' y hy) (h8 i r j y hi hj)).2
   | blk sz xs => exact h4.2
   | mp bare es ck => trivial
   | it m since seen last => exact h4.2
  ·intro id id' ob ob' b h h' hne hb
   obtain ⟨o1,h1,_,_⟩ := hgo id ob h
   obtain ⟨o2,h2,_,_⟩ := hgo id' ob' h'
   exact hr.h.apart id id' o1 o2 b h1 h2 hne hb
  ·intro b o v hv
   have hv : (if ∃ id ob,hget Hf id = some ob ∧ blk (s id) = some b then w.cell? ⟨b,o,none⟩ else Z b o) = some v := hv
   split at hv
   ·exact hv
   ·exact hr.h.zok b o v hv
  ·intro id ob b o h hb
   obtain ⟨o1,h1,h2,_⟩ := hgo id ob h
   show (if _ then _ else _) = _
   rw [if_neg,hr.h.zap id o1 b o h1 hb]
   rintro ⟨id',ob',h3,h4⟩
   obtain ⟨h5,h6⟩ := hsub id' ob' h3
   refine hr.h.apart id id' o1 ob' b h1 h5 ?_ hb h4
   rintro rfl
   rw [h2] at h6;cases h6
  ·intro id ob b h hb
   obtain ⟨o1,h1,_,_⟩ := hgo id ob h
   exact hr.h.mine id o1 b h1 hb
  ·exact hr.h.fr
  ·exact hr.h.n0
  ·exact hr.h.bs
  ·exact fun b o v hv => hz b o v (hr.h.bz b o v hv)
  ·intro b o v hv
   have hv : (if ∃ id ob,hget Hf id = some ob ∧ blk (s id) = some b then w.cell? ⟨b,o,none⟩ else Z b o) = some v := hv
   split at hv
   ·rename_i h
    obtain ⟨id,ob,h1,h2⟩ := h
    exact .inr (hr.h.mine id ob b (hsub id ob h1).1 h2)
   ·exact hr.h.bn b o v hv
theorem W.freeze {P : Program} {hw : List FuncId} {c : AC} {Q : Ex → St → Prop} (ids : List Nat) (h : W P B hw c Q (Go.Proofs.YtibemmkfcjlmpaaGreat.freeze ids st)) : W P B hw c Q st := W.gh (Gh.freeze ids) h
end
theorem rho_0 (nx id : Nat) : rho [] 0 nx id = nx + id := by simp [rho]
theorem WCall.hf0 {P : Program} {sb : Bool} {B : Base} {st : St} {K : St → Prop} {f : FuncId} {as_ : List Opd} {ds0 : List D} {dst : Option Nat} {R : D → List (Nat × Ob) → Nat → Prop} (hf : HF P f ds0 [] 0 R) (hok : oks st.env (.call f as_) = true)
  (hds : as_.map (evS st.env) = ds0) (hao : ds0.all argOk = true) (hno : ds0.all noV = true)
  (hK : ∀ d H' nx',R d H' nx' → K ⟨putO st.env dst (rnR (rho [] 0 st.nx) d),hputs (rho [] 0 st.nx) H' st.heap,st.nx + nx'⟩) : WCall P sb B (.call f as_) dst st K := by
 have hlt : ∀ d ∈ ds0,LtV 0 d := fun d hd => noV_lt (List.all_eq_true.1 hno d hd)
 have hid : ∀ d ∈ ds0,rnV (rho [] 0 st.nx) d = d := fun d hd => by
  have h := List.all_eq_true.1 hno d hd
  have hc : ∀ x,noC x = true → rnC (rho [] 0 st.nx) x = x := fun x hx => by cases x <;> first | rfl | cases hx
  cases d with
  | agg ds =>
   simp only [rnV]
   congr 1
   refine (List.map_congr_left fun x hx => ?_).trans (List.map_id ds)
   exact hc x (List.all_eq_true.1 h x hx)
  | _ => first | rfl | cases h
 refine WCall.of hok (CallOk.hf hf (fun _ => rfl) [] rfl List.nodup_nil (fun k hk => by cases hk) ?_ hao hlt (fun p hp => by cases hp) fun d H' nx' _ hR => hK d H' nx' hR)
 rw [hds]
 conv => lhs;rw [← List.map_id ds0]
 exact List.map_congr_left fun d hd => (hid d hd).symm
abbrev Ent := List Int × List Int × Nat
def goodK (n : Nat) (ks : List Int) : Prop := ks.length = (if n = 0 then 1 else n) ∧ ∀ z ∈ ks,InR z
def keyD (n : Nat) (ks : List Int) : D := if n = 0 then .int .i64 (ks.headD 0) else .agg (ks.map (.int .i64))
def MapsOk (P : Program) (n : Nat) : Prop := ∀ t kt e,P.underlying t = some (.map kt e) → mapK P kt = some n → Maps.Keyed P kt ∧ ∀ ks,goodK n ks → ∃ l,keyOf P kt (vInts (n == 0) ks) = some l
def mput (es : List Ent) (ks vs : List Int) (ck : Nat) : List Ent × Nat :=
 if ∃ e ∈ es,e.1 = ks then (es.map fun e => if e.1 = ks then (ks,vs,e.2.2) else e,ck) else (es ++ [(ks,vs,ck)],ck + 1)
theorem aggI_inv {s : Nat → Value} {Z : Cells} {ks : List Int} {v : Value} (h : VR s Z (.agg (ks.map (.int .i64))) v) : v = vInts false ks := by
 obtain ⟨vs,rfl,hl,hc⟩ := h.agg_inv
 obtain ⟨vs⟩ := vs
 simp only [vInts,Bool.false_eq_true,if_false]
 congr 2
 refine List.ext_getElem? fun j => ?_
 have hl2 : vs.length = ks.length := by simpa using hl
 by_cases hj : j < ks.length
 ·have h1 := hc j (.int .i64 ks[j]) (by simp [zE hj])
  have hj2 : j < vs.length := by omega
  have h2 : vs[j] = .int .i64 ks[j] := by
   have h1 : VT Z (.int .i64 ks[j]) (vs.toArray.getD j undef) := h1
   simp only [Array.getD_eq_getD_getElem?,List.getElem?_toArray,zE hj2,Option.getD_some] at h1
   generalize vs[j] = q at h1
   cases h1;rfl
  rw [zE hj2,h2]
  simp [zE hj]
 ·rw [List.getElem?_eq_none (by omega),List.getElem?_eq_none (by simpa using hj)]
theorem keyD_inv {s : Nat → Value} {Z : Cells} {n : Nat} {ks : List Int} {v : Value} (h : VR s Z (keyD n ks) v) : v = vInts (n == 0) ks := by
 unfold keyD at h
 split at h
 ·subst_vars
  have := h.int_inv
  rw [this];rfl
 ·rename_i hn
  have : (n == 0) = false := by simpa using hn
  rw [this]
  exact aggI_inv h
theorem vInts_inj {n : Nat} {a b : List Int} (ha : goodK n a) (hb : goodK n b) (h : vInts (n == 0) a = vInts (n == 0) b) : a = b := by
 obtain ⟨ha,_⟩ := ha
 obtain ⟨hb,_⟩ := hb
 by_cases hn : n = 0
 ·subst hn
  simp only [if_true] at ha hb
  match a,b,ha,hb with
  | [x],[y],_,_ => simpa [vInts] using h
 ·have : (n == 0) = false := by simpa using hn
  rw [this] at h
  simp only [vInts,Bool.false_eq_true,if_false,Value.agg.injEq] at h
  have h' : a.map (Value.int .i64) = b.map (Value.int .i64) := by simpa using congrArg Array.toList h
  exact (List.map_inj_right fun x y hxy => by simpa using hxy).1 h'
theorem opdsC_one : ∀ {l : List Operand} {a : Opd},opdsC l = some [a] → ∃ x,l = [x] ∧ opdC x = some a
 | [],a,h => by simp [opdsC] at h
 | x :: l,a,h => by
  simp only [opdsC] at h
  split at h <;> simp at h
  rename_i y ys h1 h2
  obtain ⟨rfl,rfl⟩ := h
  match l,h2 with
  | [],_ => exact ⟨x,rfl,h1⟩
  | z :: l,h2 =>
   simp only [opdsC] at h2
   split at h2 <;> simp at h2
theorem opdsC_two : ∀ {l : List Operand} {a b : Opd},opdsC l = some [a,b] → ∃ x y,l = [x,y] ∧ opdC x = some a ∧ opdC y = some b
 | [],a,b,h => by simp [opdsC] at h
 | x :: l,a,b,h => by
  simp only [opdsC] at h
  split at h <;> simp at h
  rename_i y ys h1 h2
  obtain ⟨rfl,rfl⟩ := h
  obtain ⟨z,rfl,h3⟩ := opdsC_one h2
  exact ⟨x,z,rfl,h1,h3⟩
section
variable {P : Program}
theorem xcop_0 {o : Op} {n : Nat} {xs : List Opd} (h : xcop P o = some (.xop 0 [n] xs)) : ∃ t kt e,o = .makeMap t none ∧ P.underlying t = some (.map kt e) ∧ mapK P kt = some n := by
 unfold xcop at h
 split at h
 ·split at h
  ·rename_i kt e he
   simp at h
   obtain ⟨_,h1,rfl,_⟩ := h
   exact ⟨_,kt,e,rfl,he,h1⟩
  ·simp at h
 all_goals (repeat' split at h) <;> simp at h
theorem xcop_1 {o : Op} {n : Nat} {xs : List Opd} (h : xcop P o = some (.xop 1 [n] xs)) : ∃ t m k v kt e xm xk xv,o = .mapUpdate t m k v ∧ P.underlying t = some (.map kt e) ∧ opdC m = some xm ∧ opdC k = some xk ∧ opdC v = some xv ∧ mapK P kt = some n ∧ xs = [xm,xk,xv] := by
 unfold xcop at h
 split at h
 ·split at h <;> simp at h
 ·split at h
  ·rename_i kt e xm xk xv he hm hk hv
   simp at h
   obtain ⟨_,h1,rfl,h2⟩ := h
   exact ⟨_,_,_,_,kt,e,xm,xk,xv,rfl,he,hm,hk,hv,h1,h2.symm⟩
  ·simp at h
 all_goals (repeat' split at h) <;> simp at h
theorem xcop_3 {o : Op} {n : Nat} {xs : List Opd} (h : xcop P o = some (.xop 3 [n] xs)) : ∃ c t kt e m xm,o = .call c ∧ c.callee = .builtin .len ∧ c.args.toList = [m] ∧ c.argTypes.toList = [t] ∧ P.underlying t = some (.map kt e) ∧ opdC m = some xm ∧ mapK P kt = some n ∧ xs = [xm] := by
 unfold xcop at h
 split at h
 ·split at h <;> simp at h
 ·split at h <;> simp at h
 ·split at h <;> simp at h
 ·split at h
  ·split at h <;> simp at h
  ·simp at h
 ·simp at h
 ·simp at h
 ·rename_i c
  split at h
  ·(repeat' split at h) <;> simp at h
  ·rename_i hcal
   split at h
   ·rename_i xm t hargs hat
    split at h
    ·rename_i kt e he
     simp at h
     obtain ⟨m,h1,h2⟩ := opdsC_one hargs
     obtain ⟨_,g1,rfl,g2⟩ := h
     exact ⟨c,t,kt,e,m,xm,rfl,hcal,h1,hat,he,h2,g1,g2.symm⟩
    ·simp at h
   ·simp at h
  all_goals ((repeat' split at h) <;> simp at h)
 ·simp at h
end
theorem mput_new {es : List Ent} {ks vs : List Int} {ck : Nat} (h : ∀ e ∈ es,e.1 ≠ ks) : mput es ks vs ck = (es ++ [(ks,vs,ck)],ck + 1) := by
 unfold mput
 rw [if_neg]
 rintro ⟨e,he,rfl⟩
 exact h e he rfl
theorem mput_old {es : List Ent} {ks vs : List Int} {ck j : Nat} {e : Ent} (hj : es[j]? = some e) (he : e.1 = ks) (hnd : (es.map (·.1)).Nodup) : mput es ks vs ck = (es.set j (ks,vs,e.2.2),ck) := by
 unfold mput
 rw [if_pos ⟨e,zD hj,he⟩]
 congr 1
 obtain ⟨hjl,hje⟩ := zB.1 hj
 refine List.ext_getElem (by simp) fun i h1 h2 => ?_
 rw [List.getElem_map,List.getElem_set]
 have hil : i < es.length := by simpa using h1
 by_cases hij : j = i
 ·subst hij
  rw [if_pos rfl,hje,if_pos he]
 ·rw [if_neg hij,if_neg]
  intro hk
  have : (es.map (·.1))[j]'(by simpa using hjl) = (es.map (·.1))[i]'(by simpa using hil) := by simp [hje,he,hk]
  exact hij ((List.getElem_inj hnd).1 this)
theorem only_set (w : World) (b : Nat) (o : Obj) : Only b w (ChangeMaps.setBlock w b o) := ⟨rfl,rfl,rfl,by simp [ChangeMaps.setBlock],fun k hk => by simp [ChangeMaps.setBlock,Ne.symm hk]⟩
section
variable {P : Program} {sb : Bool} {B : Base} {st : St} {K : St → Prop} {dst : Option Nat} {n : Nat} {id : Nat} {es : List Ent} {ck : Nat} {ks vs : List Int} {xm xk xv : Opd}
theorem XCall.mk (h : K ⟨putO st.env dst (.own st.nx),eput st.heap st.nx (.mp (n == 0) [] 0),st.nx + 1⟩) : XCall P sb B (.xop 0 [n] []) dst st K := by
 intro o s Z a w K' Q hx hd hdst hr hG
 subst hd
 obtain ⟨t,kt,e,ho,ht,hm⟩ := xcop_0 hx
 refine wp_value (v := .map (some w.heap.size)) (w' := w.alloc (.map #[] 0)) ?_ ?_
 ·unfold execOp;rw [ho]
  simp [Instr.makeMap,newObj,Sem.run,Result.andThen]
 ·have hbel : Below w.heap.size w (w.alloc (.map #[] 0)) := (Below.refl _ _).alloc (Nat.le_refl _) _
  refine hG _ _ _ _ _ (fun _ => hbel) h (hr.step hdst (upd_lt s st.nx _) (fun _ _ _ h => h) (by omega) (v := .map (some w.heap.size)) ?_ ?_ (hr.h.new hbel (v := .map (some w.heap.size)) ⟨w.heap.size,rfl,?_⟩ trivial (fun k hk => ?_)))
  ·exact ⟨(upd_same _ _ _).symm,.inr ⟨_,rfl⟩⟩
  ·exact Nat.lt_succ_self _
  ·exact (MapKept.heap_alloc w _).1
  ·cases hk;exact Nat.le_refl _
theorem map_at {s : Nat → Value} {Z : Cells} {a : Act} {w : World} (hr : Rel B s Z st a w) {m : Operand} (hop : opdC m = some xm) (hg : gS st.env xm = true) (hm : evS st.env xm = .own id) {bare : Bool} (hh : hget st.heap id = some (.mp bare es ck)) :
  ∃ b,a.eval m = .map (some b) ∧ s id = .map (some b) ∧ w.heap[b]? = some (.map (es.map (mEnt bare)).toArray ck) := by
 have h1 := hr.vr hop hg
 rw [hm] at h1
 obtain ⟨h1,_⟩ := h1
 obtain ⟨b,h2,h3⟩ := hr.h.ob id _ hh
 exact ⟨b,h1.trans h2,h2,h3⟩
theorem keys_ok (hM : MapsOk P n) {t kt e : TypeId} (ht : P.underlying t = some (.map kt e)) (hkt : mapK P kt = some n) (hes : ∀ e ∈ es,goodK n e.1) : ∀ x ∈ (es.map (mEnt (n == 0))),∃ l,keyOf P kt x.key = some l := fun x hx => by
 obtain ⟨e,he,rfl⟩ := List.mem_map.1 hx
 exact (hM t kt _ ht hkt).2 e.1 (hes e he)
theorem XCall.upd (hM : MapsOk P n) (hok : oks st.env (.xop 1 [n] [xm,xk,xv]) = true) (hsb : sb = false) (hm : evS st.env xm = .own id) (hh : hget st.heap id = some (.mp (n == 0) es ck))
  (hk : evS st.env xk = keyD n ks) (hv : evS st.env xv = .agg (vs.map (.int .i64))) (hgk : goodK n ks) (hes : ∀ e ∈ es,goodK n e.1) (hnd : (es.map (·.1)).Nodup)
  (h : K ⟨putO st.env dst .any,eput st.heap id (.mp (n == 0) (mput es ks vs ck).1 (mput es ks vs ck).2),st.nx⟩) : XCall P sb B (.xop 1 [n] [xm,xk,xv]) dst st K := by
 intro o s Z a w K' Q hx hd hdst hr hG
 subst hd
 obtain ⟨t,m,k,v,kt,e,xm',xk',xv',ho,ht,h1,h2,h3,hkt,hxs⟩ := xcop_1 hx
 simp only [List.cons.injEq,and_true] at hxs
 obtain ⟨rfl,rfl,rfl⟩ := hxs
 have hg : ∀ x ∈ [xm,xk,xv],gS st.env x = true := fun x hx => oks_mem hok hx
 obtain ⟨b,hb1,hb2,hb3⟩ := map_at hr h1 (hg _ (by simp)) hm hh
 have hkv := hr.vr h2 (hg _ (by simp))
 rw [hk] at hkv
 have hkv := keyD_inv hkv
 have hvv := hr.vr h3 (hg _ (by simp))
 rw [hv] at hvv
 have hvv := aggI_inv hvv
 obtain ⟨KK,hK2⟩ := hM t kt e ht hkt
 obtain ⟨kl,hkl⟩ := hK2 ks hgk
 have hrun : (Instr.mapUpdate t (.map (some b)) (vInts (n == 0) ks) (vInts false vs)).run P w = .ok () (ChangeMaps.setBlock w b (.map ((mput es ks vs ck).1.map (mEnt (n == 0))).toArray (mput es ks vs ck).2)) := by
  rcases KK.find w hkl _ (keys_ok hM ht hkt hes) with ⟨g1,g2⟩ | ⟨j,e0,g1,g2,g3⟩
  ·have hne : ∀ e ∈ es,e.1 ≠ ks := fun e he hk => g2 (mEnt (n == 0) e) (List.mem_map.2 ⟨e,he,rfl⟩) (by rw [← hk];rfl)
   rw [mput_new hne]
   simp [Instr.mapUpdate,run_underlying ht,MapKept.run_getObj_map hb3,KK.check w false hkl,g1,MapKept.run_setObj_map _ hb3,Result.andThen,ChangeMaps.setBlock,mEnt]
  ·obtain ⟨e1,he1,rfl⟩ := (map_get _ _ _ _).1 g2
   have hek : e1.1 = ks := vInts_inj (hes e1 (zD he1)) hgk g3
   rw [mput_old he1 hek hnd]
   have g3' : vInts (n == 0) e1.1 = vInts (n == 0) ks := by rw [hek]
   have hmod : (List.map (mEnt (n == 0)) es).modify j (fun e => { key := vInts (n == 0) ks,val := vInts false vs,born := e.born }) = (List.map (mEnt (n == 0)) es).set j { key := vInts (n == 0) ks,val := vInts false vs,born := e1.2.2 } := by
    refine List.ext_getElem? fun i => ?_
    rw [List.getElem?_modify,List.getElem?_set,List.getElem?_map]
    have hl := (zB.1 he1).1
    by_cases hij : j = i
    ·subst hij
     simp only [he1,Option.map_some,if_true,List.length_map,hl,Option.map_eq_map,mEnt]
    ·simp [hij]
   simp [Instr.mapUpdate,run_underlying ht,MapKept.run_getObj_map hb3,KK.check w false hkl,g1,he1,mEnt,g3',KK.stays w hkl,MapKept.run_setObj_map _ hb3,Result.andThen,ChangeMaps.setBlock,hmod]
 refine wp_skp (w' := ChangeMaps.setBlock w b (.map ((mput es ks vs ck).1.map (mEnt (n == 0))).toArray (mput es ks vs ck).2)) ?_ ?_
 ·unfold execOp;rw [ho]
  simp only [hb1,hkv,hvv,Sem.run_bind,hrun,Result.andThen_ok,Sem.run_pure]
 ·refine hG _ _ _ _ _ (fun hs => by rw [hsb] at hs;cases hs) h (hr.step hdst (fun _ _ => rfl) (fun _ _ _ h => h) (Nat.le_refl _) (v := undef) (d := .any) trivial trivial ?_)
  refine hr.h.write hh (k := b) (by rw [hb2];rfl) (only_set w b _) ⟨b,hb2,?_⟩ trivial
  exact (MapKept.heap_set hb3).1
theorem XCall.len (hok : oks st.env (.xop 3 [n] [xm]) = true) (hm : evS st.env xm = .own id) {bare : Bool} (hh : hget st.heap id = some (.mp bare es ck))
  (h : K ⟨putO st.env dst (.int .i64 es.length),st.heap,st.nx⟩) : XCall P sb B (.xop 3 [n] [xm]) dst st K := by
 intro o s Z a w K' Q hx hd hdst hr hG
 subst hd
 obtain ⟨c,t,kt,e,m,xm',ho,hcal,hargs,hat,ht,h1,hkt,hxs⟩ := xcop_3 hx
 simp only [List.cons.injEq,and_true] at hxs
 subst hxs
 obtain ⟨b,hb1,hb2,hb3⟩ := map_at hr h1 (oks_mem hok (by simp [opnds])) hm hh
 refine wp_value (v := .int .i64 es.length) (w' := w) ?_ ?_
 ·obtain ⟨cal,ars,ats⟩ := c
  obtain ⟨ars⟩ := ars
  obtain ⟨ats⟩ := ats
  simp only at hargs hat hcal
  subst hargs hat hcal
  unfold execOp;rw [ho]
  simp [resolve,invoke,builtin,Builtin.len_,run_underlying ht,goInt,hb1,MapKept.run_getObj_map hb3,Result.andThen]
 ·exact hG _ _ _ _ _ (fun _ => Below.refl _ _) h (hr.put hdst (VT.int .i64 _) trivial)
end
section
variable {P : Program}
theorem xcop_call {o : Op} {k : Nat} {ns : List Nat} {xs : List Opd} (hk : 8 ≤ k) (h : xcop P o = some (.xop k ns xs)) : ∃ c,o = .call c := by
 unfold xcop at h
 split at h
 case h_8 => cases h
 case h_7 => exact ⟨_,rfl⟩
 all_goals
  exfalso
  (repeat' split at h) <;> simp at h <;> omega
theorem xcop_8 {o : Op} {xs : List Opd} (h : xcop P o = some (.xop 8 [] xs)) : ∃ c t e x X,o = .call c ∧ c.callee = .builtin .cap ∧ c.args.toList = [x] ∧ c.argTypes.toList = [t] ∧ sliceT P t = some e ∧ opdC x = some X ∧ xs = [X] := by
 obtain ⟨c,rfl⟩ := xcop_call (by omega) h
 simp only [xcop] at h
 split at h
 case h_3 =>
  rename_i hcal
  split at h
  ·rename_i X t hargs hat
   simp at h
   obtain ⟨x,h1,h2⟩ := opdsC_one hargs
   obtain ⟨⟨e,he⟩,h3⟩ := h
   exact ⟨c,t,e,x,X,rfl,hcal,h1,hat,he,h2,h3.symm⟩
  ·simp at h
 all_goals
  exfalso
  (repeat' split at h) <;> simp at h
theorem xcop_9 {o : Op} {n : Nat} {xs : List Opd} (h : xcop P o = some (.xop 9 [n] xs)) : ∃ c t t' e x y X Y,o = .call c ∧ c.callee = .builtin .copy ∧ c.args.toList = [x,y] ∧ c.argTypes.toList = [t,t'] ∧ sliceT P t = some e ∧ szT P e = some n ∧ opdC x = some X ∧ opdC y = some Y ∧ xs = [X,Y] := by
 obtain ⟨c,rfl⟩ := xcop_call (by omega) h
 simp only [xcop] at h
 split at h
 case h_4 =>
  rename_i hcal
  split at h
  ·rename_i X Y t t' hargs hat
   split at h
   ·rename_i e he
    simp at h
    obtain ⟨x,y,h1,h2,h3⟩ := opdsC_two hargs
    obtain ⟨_,g1,rfl,g2⟩ := h
    exact ⟨c,t,t',e,x,y,X,Y,rfl,hcal,h1,hat,he,g1,h2,h3,g2.symm⟩
   ·simp at h
  ·simp at h
 all_goals
  exfalso
  (repeat' split at h) <;> simp at h
theorem xcop_10 {o : Op} {n : Nat} {xs : List Opd} (h : xcop P o = some (.xop 10 [n] xs)) : ∃ c t e z x X,o = .call c ∧ c.callee = .builtin .clear ∧ c.args.toList = [x] ∧ c.argTypes.toList = [t] ∧ sliceT P t = some e ∧ szT P e = some n ∧ zeroT P e = some z ∧ opdC x = some X ∧ xs = [X] := by
 obtain ⟨c,rfl⟩ := xcop_call (by omega) h
 simp only [xcop] at h
 split at h
 case h_5 =>
  rename_i hcal
  split at h
  ·rename_i X t hargs hat
   split at h
   ·rename_i e he
    split at h
    ·rename_i n' z hn hz
     simp at h
     obtain ⟨x,h1,h2⟩ := opdsC_one hargs
     obtain ⟨rfl,g2⟩ := h
     exact ⟨c,t,e,z,x,X,rfl,hcal,h1,hat,he,hn,hz,h2,g2.symm⟩
    ·simp at h
   ·simp at h
  ·simp at h
 all_goals
  exfalso
  (repeat' split at h) <;> simp at h
theorem xcop_11 {o : Op} {n m : Nat} {xs : List Opd} (h : xcop P o = some (.xop 11 [n,m] xs)) : ∃ c t t' e i z x y X Y,o = .call c ∧ c.callee = .builtin .append ∧ c.args.toList = [x,y] ∧ c.argTypes.toList = [t,t'] ∧ P.underlying t' = some (.int .i64) ∧ sliceT P t = some e ∧ P.info? e = some i ∧ i.size = n ∧ i.bytes = m ∧ zeroT P e = some z ∧ opdC x = some X ∧ opdC y = some Y ∧ xs = [X,Y] := by
 obtain ⟨c,rfl⟩ := xcop_call (by omega) h
 simp only [xcop] at h
 split at h
 case h_6 =>
  rename_i hcal
  split at h
  ·rename_i X Y t t' hargs hat
   split at h
   ·rename_i e ht' he
    split at h
    ·rename_i i z hi hz
     simp at h
     obtain ⟨x,y,h1,h2,h3⟩ := opdsC_two hargs
     obtain ⟨⟨rfl,rfl⟩,g2⟩ := h
     exact ⟨c,t,t',e,i,z,x,y,X,Y,rfl,hcal,h1,hat,ht',he,hi,rfl,rfl,hz,h2,h3,g2.symm⟩
    ·simp at h
   ·simp at h
  ·simp at h
 all_goals
  exfalso
  (repeat' split at h) <;> simp at h
end
def srcD (H : List (Nat × Ob)) (d : D) : Option (Nat × List (List D)) :=
 match d with
 | .sl id sz off len _ => match hget H id with
  | some (.blk sz' xs) => if sz = sz' then some (sz,(xs.drop off).take len) else none
  | _ => none
 | d => (slD H d).map fun t => (t.2.1,t.2.2)
def SrcAt (s : Nat → Value) (Z : Cells) (nx : Nat) (w : World) (sz : Nat) (ys : List (List D)) (v : Value) : Prop :=
 (∀ row ∈ ys,∀ d ∈ row,LtC nx d) ∧ ∃ a cap,v = .slice a ys.length cap ∧ (0 < ys.length → ∃ b off,a = some ⟨b,off,none⟩ ∧ ∀ i row j d,ys[i]? = some row → row[j]? = some d → d ≠ .any → ∃ u,w.cell? ⟨b,off + i * sz + j,none⟩ = some u ∧ VC s Z d u)
section
variable {P : Program} {B : Base} {s : Nat → Value} {Z : Cells} {H : List (Nat × Ob)} {nx : Nat} {w : World}
theorem SlAt.src {R : D → Value → Prop} {sz : Nat} {ys : List (List D)} {v : Value} (h : SlAt R w sz ys v) (hR : ∀ d u,R d u → VC s Z d u) (hl : ∀ row ∈ ys,∀ d ∈ row,LtC nx d) : SrcAt s Z nx w sz ys v := by
 obtain ⟨a,cap,h1,h2,h3⟩ := h
 refine ⟨hl,a,cap,h1,fun h0 => ?_⟩
 obtain ⟨b,off,h4,h5⟩ := h3 h0
 exact ⟨b,off,h4,fun i row j d hi hj _ => by
  obtain ⟨u,g1,g2⟩ := h5 i row j d hi hj
  exact ⟨u,g1,hR d u g2⟩⟩
theorem blk_at {id sz : Nat} {xs : List (List D)} (h : RelH B s Z H nx w) (hh : hget H id = some (.blk sz xs)) {off len cap : Nat} {sz' : Nat} {v : Value} (hv : VC s Z (.sl id sz' off len cap) v) :
  ∃ g n cur e o,s id = .slice (some ⟨g,0,none⟩) n xs.length ∧ blk (s id) = some g ∧ w.heap[g]? = some (.cells cur e (0,0)) ∧ cur.size = xs.length * sz ∧ v = .slice (some ⟨g,o,none⟩) len cap ∧ (0 < cap → o = off * sz') ∧ len ≤ cap ∧ off + cap ≤ xs.length ∧ BlkOk (VC s Z) w sz xs (s id) := by
 have ho := h.ob _ _ hh
 obtain ⟨b,n',c',o,h1,h2,h3,h4,h5⟩ := hv
 obtain ⟨g1,g2,g,n,cur,e,g3,g4,g5,g6,g7,g8⟩ := (show BlkOk (VC s Z) w sz xs (s id) from ho)
 rw [h1] at g3
 simp only [Value.slice.injEq,zA,Addr.mk.injEq,and_true] at g3
 obtain ⟨rfl,rfl,rfl⟩ := g3
 exact ⟨b,n',cur,e,o,h1,by rw [h1];simp only [blk];rw [if_neg (by omega)],g4,g7,h2,h3,h4,h5,ho⟩
theorem srcD_at (h : RelH B s Z H nx w) {d : D} {v : Value} (hv : VR s Z d v) {sz : Nat} {ys : List (List D)} (hs : srcD H d = some (sz,ys)) : SrcAt s Z nx w sz ys v := by
 cases d with
 | sl id sz' off len cap =>
  simp only [srcD] at hs
  split at hs
  ·rename_i sz'' xs hh
   split at hs
   ·rename_i e
    subst e
    simp only [zA,Prod.mk.injEq] at hs
    obtain ⟨rfl,rfl⟩ := hs
    obtain ⟨g,n,cur,e,o,h1,h2,h3,h4,h5,h6,h7,h8,h9⟩ := blk_at h hh hv
    obtain ⟨b1,b2,g',n',cur',e',b3,b4,b5,b6,b7,b8⟩ := h9
    rw [h1] at b3
    simp only [Value.slice.injEq,zA,Addr.mk.injEq,and_true] at b3
    obtain ⟨rfl,rfl⟩ := b3
    rw [h3] at b4
    simp only [zA,Obj.cells.injEq,and_true] at b4
    obtain ⟨rfl,rfl⟩ := b4
    have hlen : ((xs.drop off).take len).length = len := by rw [List.length_take,List.length_drop];omega
    refine ⟨fun row hr x hx => (h.lt _ _ hh).2 row (List.mem_of_mem_drop (List.mem_of_mem_take hr)) x hx,_,cap,by rw [hlen];exact h5,fun h0 => ⟨g,o,rfl,fun i row j d hi hj hd => ?_⟩⟩
    rw [hlen] at h0
    have ho := h6 (by omega)
    rw [List.getElem?_take] at hi
    split at hi
    ·rename_i hil
     rw [List.getElem?_drop] at hi
     have hjl : j < sz' := by
      have := (zB.1 hj).1
      rwa [b2 _ (zD hi)] at this
     have hlt : (off + i) * sz' + j < cur.size := by
      rw [h4]
      have : (off + i + 1) * sz' ≤ xs.length * sz' := Nat.mul_le_mul_right _ (by omega)
      rw [Nat.add_mul,Nat.one_mul] at this;omega
     refine ⟨cur.getD ((off + i) * sz' + j) undef,?_,b8 _ row j d hi hj hd⟩
     rw [ho,show off * sz' + i * sz' + j = (off + i) * sz' + j by rw [Nat.add_mul],cell_of_row w g _ cur e (0,0) h3]
     simp [hlt]
    ·cases hi
   ·cases hs
  ·cases hs
 | rows sz' xs =>
  simp only [srcD,slD,Option.map_some,zA,Prod.mk.injEq] at hs
  obtain ⟨rfl,rfl⟩ := hs
  have := slD_at h.know hv (t := true) (sz := sz') (xs := xs) rfl
  refine SlAt.src this (fun d u h => VC.of_vt h) fun row hr x hx => ?_
  cases hv with
  | rnil _ a cap => cases hr
  | rows _ _ b off cap c hcap h1 h2 =>
   obtain ⟨i,hi⟩ := zF hr
   obtain ⟨j,hj⟩ := zF hx
   exact VT.ltN _ (h2 i row j x hi hj)
 | own id =>
  simp only [srcD,Option.map_eq_some_iff] at hs
  obtain ⟨⟨t,sz',xs⟩,hs,e⟩ := hs
  simp only [Prod.mk.injEq] at e
  obtain ⟨rfl,rfl⟩ := e
  have h1 := slD_at h.know hv hs
  simp only [slD] at hs
  split at hs
  ·rename_i sz'' xs' hh
   simp only [zA,Prod.mk.injEq] at hs
   obtain ⟨rfl,rfl,rfl⟩ := hs
   refine SlAt.src h1 (fun d u h => VC.of_vt h) fun row hr x hx => ?_
   have ho := h.ob _ _ hh
   rcases ho.2.2 with ⟨rfl,_⟩ | ⟨g,cap,cur,e,_,_,_,_,_,h8⟩
   ·cases hr
   ·obtain ⟨i,hi⟩ := zF hr
    obtain ⟨j,hj⟩ := zF hx
    exact VT.ltN _ (h8 i row j x hi hj)
  ·rename_i sz'' xs' hh
   simp only [zA,Prod.mk.injEq] at hs
   obtain ⟨rfl,rfl,rfl⟩ := hs
   exact SlAt.src h1 (fun d u h => h) (h.lt _ _ hh).2
  ·cases hs
 | nil0 =>
  simp only [srcD,slD,Option.map_some,zA,Prod.mk.injEq] at hs
  obtain ⟨rfl,rfl⟩ := hs
  cases hv with
  | nil0 a => exact ⟨(fun _ h => by cases h),a,0,rfl,fun h => by simp at h⟩
 | _ => simp [srcD,slD] at hs
theorem SrcAt.news {sz : Nat} {ys : List (List D)} {v : Value} (h : SrcAt s Z nx w sz ys v) (n : Nat) (hrow : ∀ row ∈ ys.take n,row.length = sz) (hany : ∀ row ∈ ys.take n,∀ d ∈ row,d ≠ .any) :
  ∃ a cap,∃ news : List Value,v = .slice a ys.length cap ∧ news.length = (ys.take n).length * sz ∧ (Builtin.firstCells sz (ys.take n).length v).run P w = .ok news.toArray w ∧ (∀ u ∈ news,u.oneCell' = true) ∧
   ∀ i row j d,(ys.take n)[i]? = some row → row[j]? = some d → VC s Z d (news.getD (i * sz + j) undef) := by
 obtain ⟨hl,a,cap,rfl,h3⟩ := h
 by_cases h0 : 0 < (ys.take n).length
 ·obtain ⟨b,off,rfl,h4⟩ := h3 (by rw [List.length_take] at h0;omega)
  obtain ⟨news,g1,g2,g3⟩ := SlAt.news (w := w) (R := VC s Z) (b := b) (off := off) hrow (fun i row j d hi hj => by
   have hi' : ys[i]? = some row := by
    rw [List.getElem?_take] at hi
    split at hi
    ·exact hi
    ·cases hi
   exact h4 i row j d hi' hj (hany row (zD hi) d (zD hj)))
  refine ⟨_,cap,news,rfl,g1,run_firstCells_some w sz _ ⟨b,off,none⟩ _ cap news g1 (fun j u hu => by rw [add_mid'];exact g2 j u hu),fun u hu => ?_,g3⟩
  obtain ⟨k,hk⟩ := zF hu
  have hkl : k < (ys.take n).length * sz := by rw [← g1];exact (zB.1 hk).1
  have hsz : 0 < sz := by
   rcases Nat.eq_zero_or_pos sz with h0 | h0
   ·rw [h0] at hkl;simp at hkl
   ·exact h0
  have hi' : k / sz < (ys.take n).length := Nat.div_lt_of_lt_mul (by rwa [Nat.mul_comm] at hkl)
  have hx : (ys.take n)[k / sz]? = some (ys.take n)[k / sz] := zE hi'
  have hj' : k % sz < (ys.take n)[k / sz].length := by rw [hrow _ (List.getElem_mem hi')];exact Nat.mod_lt _ hsz
  have := g3 _ _ _ _ hx (zE hj')
  have hdm := Nat.div_add_mod k sz
  rw [show k / sz * sz + k % sz = k by rw [Nat.mul_comm];omega,zC,hk,Option.getD_some] at this
  exact VC.one this
 ·have e : ys.take n = [] := List.eq_nil_of_length_eq_zero (by omega)
  rw [e]
  refine ⟨a,cap,[],rfl,by simp,?_,(fun u hu => by cases hu),fun i row j d hi => by simp at hi⟩
  cases a with
  | none => exact run_firstCells_none w sz _ _ cap
  | some ad => exact run_firstCells_some w sz _ ad _ cap [] (by simp) (fun j v hv => by simp at hv)
theorem BlkOk.paste {sz : Nat} {xs : List (List D)} {v : Value} (h : BlkOk (VC s Z) w sz xs v) {g : Nat} (hg : Go.Proofs.YtibemmkfcjlmpaaGreat.blk v = some g) {off : Nat} {ys : List (List D)} {news : List Value} (hl : news.length = ys.length * sz) (hfit : off + ys.length ≤ xs.length)
  (hrow : ∀ row ∈ ys,row.length = sz) (hn : ∀ i row j d,ys[i]? = some row → row[j]? = some d → d ≠ .any → VC s Z d (news.getD (i * sz + j) undef)) :
  BlkOk (VC s Z) (w.setCells g (off * sz) news) sz (xs.take off ++ ys ++ xs.drop (off + ys.length)) v := by
 obtain ⟨h1,h2,g',n,cur,e,rfl,h4,h5,h6,h7,h8⟩ := h
 have hgg : g' = g := by simp only [Go.Proofs.YtibemmkfcjlmpaaGreat.blk] at hg;rw [if_neg (by omega)] at hg;exact Option.some.inj hg
 subst hgg
 have hfit' : off * sz + news.length ≤ cur.size := by rw [hl,h7,← Nat.add_mul];exact Nat.mul_le_mul_right _ hfit
 obtain ⟨cs',g1,g2,g3⟩ := heap_setCells g' e news (off * sz) w cur h4 hfit'
 have hlen : (xs.take off ++ ys ++ xs.drop (off + ys.length)).length = xs.length := by simp;omega
 refine ⟨h1,fun row hr => ?_,g',n,cs',e,by rw [hlen],g1,by rw [hlen];exact h5,by rw [hlen];exact h6,by rw [g2,hlen,h7],fun i row j d hi hj hd => ?_⟩
 ·rcases List.mem_append.1 hr with hr | hr
  ·rcases List.mem_append.1 hr with hr | hr
   ·exact h2 row (List.mem_of_mem_take hr)
   ·exact hrow row hr
  ·exact h2 row (List.mem_of_mem_drop hr)
 ·rw [g3]
  rw [List.append_assoc] at hi
  by_cases c1 : i < off
  ·rw [List.getElem?_append_left (by simp;omega),List.getElem?_take,if_pos c1] at hi
   have hjl : j < sz := by
    have := (zB.1 hj).1
    rwa [h2 _ (zD hi)] at this
   have : (i + 1) * sz ≤ off * sz := Nat.mul_le_mul_right _ c1
   rw [Nat.add_mul,Nat.one_mul] at this
   rw [if_neg (by omega)]
   exact h8 i row j d hi hj hd
  ·rw [List.getElem?_append_right (by simp;omega),List.length_take,Nat.min_eq_left (by omega)] at hi
   by_cases c2 : i < off + ys.length
   ·rw [List.getElem?_append_left (by omega)] at hi
    have hjl : j < sz := by
     have := (zB.1 hj).1
     rwa [hrow _ (zD hi)] at this
    have e1 : i * sz = off * sz + (i - off) * sz := by rw [← Nat.add_mul];congr 1;omega
    have : (i - off + 1) * sz ≤ ys.length * sz := Nat.mul_le_mul_right _ (by omega)
    rw [Nat.add_mul,Nat.one_mul] at this
    rw [if_pos (by rw [hl];omega)]
    have := hn _ row j d hi hj hd
    rwa [show i * sz + j - off * sz = (i - off) * sz + j by omega]
   ·rw [List.getElem?_append_right (by omega),List.getElem?_drop] at hi
    have e2 : off + ys.length + (i - off - ys.length) = i := by omega
    rw [e2] at hi
    have : (off + ys.length) * sz ≤ i * sz := Nat.mul_le_mul_right _ (by omega)
    rw [Nat.add_mul] at this
    rw [if_neg (by rw [hl];omega)]
    exact h8 i row j d hi hj hd
theorem paste_lt {sz off : Nat} {xs ys : List (List D)} (h1 : ∀ row ∈ xs,∀ d ∈ row,LtC nx d) (h2 : ∀ row ∈ ys,∀ d ∈ row,LtC nx d) : LtO nx (.blk sz (xs.take off ++ ys ++ xs.drop (off + ys.length))) := by
 intro row hr d hd
 rcases List.mem_append.1 hr with hr | hr
 ·rcases List.mem_append.1 hr with hr | hr
  ·exact h1 row (List.mem_of_mem_take hr) d hd
  ·exact h2 row hr d hd
 ·exact h1 row (List.mem_of_mem_drop hr) d hd
end
section
variable {P : Program} {sb : Bool} {B : Base} {st : St} {K : St → Prop} {dst : Option Nat} {X Y : Opd} {id sz off len cp : Nat}
theorem XCall.cap (hok : oks st.env (.xop 8 [] [X]) = true) (hx : evS st.env X = .sl id sz off len cp) (h : K ⟨putO st.env dst (.int .i64 cp),st.heap,st.nx⟩) : XCall P sb B (.xop 8 [] [X]) dst st K := by
 intro o s Z a w K' Q hxc hd hdst hr hG
 subst hd
 obtain ⟨c,t,e,x,X',ho,hcal,hargs,hat,ht,h1,hxs⟩ := xcop_8 hxc
 simp only [List.cons.injEq,and_true] at hxs
 subst hxs
 have hv := hr.vr h1 (oks_mem hok (by simp [opnds]))
 rw [hx] at hv
 obtain ⟨b,n',c',q,_,h2,_⟩ := hv
 refine wp_value (v := .int .i64 cp) (w' := w) ?_ ?_
 ·unfold execOp;rw [ho]
  obtain ⟨cal,ars,ats⟩ := c
  obtain ⟨ars⟩ := ars
  obtain ⟨ats⟩ := ats
  simp only at hargs hat hcal
  subst hargs hat hcal
  simp [resolve,invoke,builtin,Builtin.cap_,run_underlying (sliceT_some ht),goInt,h2]
 ·exact hG _ _ _ _ _ (fun _ => Below.refl _ _) h (hr.put hdst (VT.int .i64 _) trivial)
theorem store_run {b o : Nat} {vs : List Value} {w : World} {cur : Array Value} {e : TypeId} (hb : w.heap[b]? = some (.cells cur e (0,0))) (hl : vs ≠ [] → o + vs.length ≤ cur.size) (h1 : ∀ u ∈ vs,u.oneCell' = true) :
  (storeCells ⟨b,o,none⟩ vs 0).run P w = .ok () (w.setCells b o vs) := by
 by_cases hv : vs = []
 ·subst hv;rfl
 ·have hl := hl hv
  have := run_storeCells_cells (P := P) b o vs 0 w (fun j hj => by
   rw [cell_of_row w b _ cur e (0,0) hb];simp;omega) (fun j hj => frozen_of_row w b _ cur e hb) h1
  simpa using this
theorem XCall.copy {xs ys : List (List D)} (hok : oks st.env (.xop 9 [sz] [X,Y]) = true) (hsb : sb = false) (hx : evS st.env X = .sl id sz off len cp) (hh : hget st.heap id = some (.blk sz xs)) (hy : srcD st.heap (evS st.env Y) = some (sz,ys))
  (hrow : ∀ row ∈ ys.take len,row.length = sz) (hany : ∀ row ∈ ys.take len,∀ d ∈ row,d ≠ .any)
  (h : K ⟨putO st.env dst (.int .i64 ((ys.take len).length : Nat)),eput st.heap id (.blk sz (xs.take off ++ ys.take len ++ xs.drop (off + (ys.take len).length))),st.nx⟩) : XCall P sb B (.xop 9 [sz] [X,Y]) dst st K := by
 intro o s Z a w K' Q hxc hd hdst hr hG
 subst hd
 obtain ⟨c,t,t',e,x,y,X',Y',ho,hcal,hargs,hat,ht,hn,h1,h2,hxs⟩ := xcop_9 hxc
 simp only [List.cons.injEq,and_true] at hxs
 obtain ⟨rfl,rfl⟩ := hxs
 have hg : ∀ x ∈ [X,Y],gS st.env x = true := fun x hx => oks_mem hok hx
 have hv := hr.vr h1 (hg _ (by simp))
 rw [hx] at hv
 obtain ⟨g,n',cur,e',q,k1,k2,k3,k4,k5,k6,k7,k8,k9⟩ := blk_at hr.h hh hv
 have hsrc := srcD_at hr.h (hr.vr h2 (hg _ (by simp))) hy
 obtain ⟨sa,scap,news,m1,m2,m3,m4,m5⟩ := hsrc.news (P := P) len hrow hany
 have hlen : (ys.take len).length = Nat.min ys.length len := by rw [List.length_take];exact Nat.min_comm _ _
 have hcap0 : news ≠ [] → q = off * sz := fun hne => k6 (by
  rcases Nat.eq_zero_or_pos cp with h0 | h0
  ·exfalso
   have : ys.take len = [] := by rw [show len = 0 by omega];rfl
   rw [this] at m2
   exact hne (List.eq_nil_of_length_eq_zero (by simpa using m2))
  ·exact h0)
 have hset : w.setCells g q news = w.setCells g (off * sz) news := by
  by_cases hne : news = []
  ·subst hne;rfl
  ·rw [hcap0 hne]
 have hfit : off + (ys.take len).length ≤ xs.length := by rw [List.length_take];omega
 have hst : (storeCells ⟨g,q,none⟩ news 0).run P w = .ok () (w.setCells g q news) := store_run k3 (fun hne => by
  rw [hcap0 hne,m2,k4,← Nat.add_mul];exact Nat.mul_le_mul_right _ hfit) m4
 refine wp_value (v := .int .i64 ((ys.take len).length : Nat)) (w' := w.setCells g (off * sz) news) ?_ ?_
 ·unfold execOp;rw [ho]
  obtain ⟨cal,ars,ats⟩ := c
  obtain ⟨ars⟩ := ars
  obtain ⟨ats⟩ := ats
  simp only at hargs hat hcal
  subst hargs hat hcal
  rw [← hset]
  have hn' := hn
  unfold szT at hn'
  obtain ⟨i,hi,hi2⟩ := Option.map_eq_some_iff.1 hn'
  rw [hlen] at m3 ⊢
  rw [m1] at m3
  simp only [resolve,List.map_cons,List.map_nil,List.map_toArray,invoke,builtin,Builtin.copy_,Sem.run_bind,Sem.run_pure,Result.andThen_ok,k5,m1]
  simp [run_underlying (sliceT_some ht),Builtin.lenOf,sizeOf,typeInfo,hi,hi2,m3,hst,goInt]
 ·refine hG _ _ _ _ _ (fun hs => by rw [hsb] at hs;cases hs) h (hr.step hdst (fun _ _ => rfl) (fun _ _ _ h => h) (Nat.le_refl _) (v := .int .i64 ((ys.take len).length : Nat)) (VT.int .i64 _) trivial ?_)
  exact hr.h.write hh k2 (Only.setCells g news (off * sz) w) (k9.paste k2 m2 hfit hrow fun i row j d hi hj _ => m5 i row j d hi hj) (paste_lt (hr.h.lt _ _ hh).2 fun row hr' d hd => hsrc.1 row (List.mem_of_mem_take hr') d hd)
end
def anyRow (sz : Nat) : List D := List.replicate sz .any
theorem zero_one {P : Program} {e : TypeId} {z : List D} (h : zeroT P e = some z) : ∃ i v,P.info? e = some i ∧ i.zero = some v ∧ i.size = z.length ∧ v.cells.size = z.length ∧ ∀ u ∈ v.cells.toList,u.oneCell' = true := by
 obtain ⟨i,v,h1,h2,h3,h4,h5⟩ := zeroT_sound (s := s0) (Z := fun _ _ => none) h
 refine ⟨i,v,h1,h2,h3,h4,fun u hu => ?_⟩
 obtain ⟨j,hj⟩ := zF hu
 have hjl : j < z.length := by
  have := (zB.1 hj).1
  rw [← h4];simpa using this
 have := h5 j z[j] (zE hjl)
 have e1 : v.cells.getD j undef = u := by
  rw [Array.getD_eq_getD_getElem?,← Array.getElem?_toList,hj];rfl
 rw [e1] at this
 exact VC.one this
theorem zeroCells_one {z : Array Value} {n : Nat} (h : ∀ u ∈ z.toList,u.oneCell' = true) : ∀ u ∈ (Builtin.zeroCells z n).toList,u.oneCell' = true := by
 intro u hu
 simp only [Builtin.zeroCells,Array.toList_map,Array.toList_range,List.mem_map,List.mem_range] at hu
 obtain ⟨i,hi,rfl⟩ := hu
 have h0 : 0 < z.size := by
  rcases Nat.eq_zero_or_pos z.size with h0 | h0
  ·rw [h0] at hi;simp at hi
  ·exact h0
 have : i % z.size < z.size := Nat.mod_lt _ h0
 rw [getElem!_pos z _ this]
 exact h _ (by simp)
theorem anyRow_ne {sz n : Nat} {i j : Nat} {row : List D} {d : D} (hi : (List.replicate n (anyRow sz))[i]? = some row) (hj : row[j]? = some d) : d = .any := by
 have h1 := List.eq_of_mem_replicate (zD hi)
 subst h1
 exact List.eq_of_mem_replicate (zD hj)
theorem anyRow_lt {sz n nx : Nat} : ∀ row ∈ List.replicate n (anyRow sz),∀ d ∈ row,LtC nx d := by
 intro row hr d hd
 have h1 := List.eq_of_mem_replicate hr
 subst h1
 have h2 := List.eq_of_mem_replicate hd
 subst h2
 trivial
theorem cop_app {P : Program} {o : Op} {sz bytes : Nat} {z : List D} {X Y : Opd} (hc : cop P o = some (.app sz bytes z X Y)) : ∃ c t e i x y,o = .call c ∧ c.callee = .builtin .append ∧ c.args.toList = [x,y] ∧ c.argTypes.toList = [t,t] ∧ sliceT P t = some e ∧ P.info? e = some i ∧ i.size = sz ∧ i.bytes = bytes ∧ 0 < sz ∧ zeroT P e = some z ∧ opdC x = some X ∧ opdC y = some Y := by
 by_cases hl : opLoud o
 ·cases o with
  | call c =>
   refine ⟨c,?_⟩
   simp only [cop] at hc
   split at hc
   ·split at hc <;> simp at hc
   ·rename_i b hb
    split at hc
    ·split at hc
     ·simp at hc
     ·simp at hc
     ·split at hc <;> (try split at hc) <;> simp at hc
     ·simp at hc
    ·simp at hc
    ·simp at hc
    ·rename_i X' Y' t t' hargs hat
     split at hc
     ·rename_i htt
      subst htt
      split at hc
      ·rename_i e he
       split at hc
       ·rename_i i z' hi hz
        split at hc
        ·rename_i h0
         simp at hc
         obtain ⟨rfl,rfl,rfl,rfl,rfl⟩ := hc
         obtain ⟨x,y,h1,h2,h3⟩ := opdsC_two hargs
         exact ⟨t,e,i,x,y,rfl,hb,h1,hat,he,hi,rfl,rfl,h0,hz,h2,h3⟩
        ·simp at hc
       ·simp at hc
      ·simp at hc
     ·simp at hc
    ·simp at hc
   ·simp at hc
  | _ => first | exact hl.elim | (simp only [cop] at hc;(repeat' split at hc) <;> simp at hc)
 ·have := cop_quiet hl hc
  cases this
section
variable {P : Program} {sb : Bool} {B : Base} {st : St} {K : St → Prop} {dst : Option Nat} {X Y : Opd} {id sz off len cp : Nat}
theorem XCall.clear {xs : List (List D)} (hok : oks st.env (.xop 10 [sz] [X]) = true) (hsb : sb = false) (hx : evS st.env X = .sl id sz off len cp) (hh : hget st.heap id = some (.blk sz xs))
  (h : K ⟨putO st.env dst .any,eput st.heap id (.blk sz (xs.take off ++ List.replicate len (anyRow sz) ++ xs.drop (off + (List.replicate len (anyRow sz)).length))),st.nx⟩) : XCall P sb B (.xop 10 [sz] [X]) dst st K := by
 intro o s Z a w K' Q hxc hd hdst hr hG
 subst hd
 obtain ⟨c,t,e,z,x,X',ho,hcal,hargs,hat,ht,hn,hz,h1,hxs⟩ := xcop_10 hxc
 simp only [List.cons.injEq,and_true] at hxs
 subst hxs
 have hv := hr.vr h1 (oks_mem hok (by simp [opnds]))
 rw [hx] at hv
 obtain ⟨g,n',cur,e',q,k1,k2,k3,k4,k5,k6,k7,k8,k9⟩ := blk_at hr.h hh hv
 obtain ⟨i,zv,hi,hz1,hz2,hz3,hz4⟩ := zero_one hz
 have hsz : z.length = sz := by
  unfold szT at hn
  rw [hi] at hn
  simp only [Option.map_some,zA] at hn
  omega
 obtain ⟨news,hnews⟩ : ∃ news,news = (Builtin.zeroCells zv.cells len).toList := ⟨_,rfl⟩
 have hnl : news.length = (List.replicate len (anyRow sz)).length * sz := by rw [hnews];simp [size_zeroCells,hz3,hsz]
 have hone : ∀ u ∈ news,u.oneCell' = true := by rw [hnews];exact zeroCells_one hz4
 have hcap0 : news ≠ [] → q = off * sz := fun hne => k6 (by
  rcases Nat.eq_zero_or_pos cp with h0 | h0
  ·exfalso
   have hl0 : len = 0 := by omega
   subst hl0
   exact hne (List.eq_nil_of_length_eq_zero (by simpa using hnl))
  ·exact h0)
 have hset : w.setCells g q news = w.setCells g (off * sz) news := by
  by_cases hne : news = []
  ·rw [hne];rfl
  ·rw [hcap0 hne]
 have hfit : off + (List.replicate len (anyRow sz)).length ≤ xs.length := by rw [List.length_replicate];omega
 have hst : (storeCells ⟨g,q,none⟩ news 0).run P w = .ok () (w.setCells g q news) := store_run k3 (fun hne => by
  rw [hcap0 hne,hnl,k4,← Nat.add_mul];exact Nat.mul_le_mul_right _ hfit) hone
 refine wp_value (v := .tuple #[]) (w' := w.setCells g (off * sz) news) ?_ ?_
 ·unfold execOp;rw [ho]
  obtain ⟨cal,ars,ats⟩ := c
  obtain ⟨ars⟩ := ars
  obtain ⟨ats⟩ := ats
  simp only at hargs hat hcal
  subst hargs hat hcal
  rw [← hset]
  rcases Nat.eq_zero_or_pos len with h0 | h0
  ·subst h0
   have hn0 : news = [] := List.eq_nil_of_length_eq_zero (by simpa using hnl)
   rw [hn0]
   simp [resolve,invoke,builtin,Builtin.clear_,run_underlying (sliceT_some ht),k5]
   rfl
  ·obtain ⟨m,rfl⟩ : ∃ m,len = m + 1 := ⟨len - 1,by omega⟩
   rw [hnews] at hst ⊢
   simp [resolve,invoke,builtin,Builtin.clear_,run_underlying (sliceT_some ht),k5,zeroValue,typeInfo,hi,hz1,hst]
 ·refine hG _ _ _ _ _ (fun hs => by rw [hsb] at hs;cases hs) h (hr.step hdst (fun _ _ => rfl) (fun _ _ _ h => h) (Nat.le_refl _) (v := .tuple #[]) (d := .any) trivial trivial ?_)
  exact hr.h.write hh k2 (Only.setCells g news (off * sz) w) (k9.paste k2 hnl hfit (fun row hr' => by rw [List.eq_of_mem_replicate hr'];simp [anyRow]) fun i row j d hi hj hd => absurd (anyRow_ne hi hj) hd) (paste_lt (hr.h.lt _ _ hh).2 anyRow_lt)
theorem WCall.appSl {xs ys : List (List D)} {bytes : Nat} {z : List D} (hok : oks st.env (.app sz bytes z X Y) = true) (hsb : sb = false) (hx : evS st.env X = .sl id sz off len cp) (hh : hget st.heap id = some (.blk sz xs)) (hy : srcD st.heap (evS st.env Y) = some (sz,ys))
  (hroom : len + ys.length ≤ cp) (hrow : ∀ row ∈ ys,row.length = sz) (hany : ∀ row ∈ ys,∀ d ∈ row,d ≠ .any)
  (h : K ⟨putO st.env dst (.sl id sz off (len + ys.length) cp),eput st.heap id (.blk sz (xs.take (off + len) ++ ys ++ xs.drop (off + len + ys.length))),st.nx⟩) : WCall P sb B (.app sz bytes z X Y) dst st K := by
 intro o s Z a w K' Q hxc hd hdst hr hG
 subst hd
 obtain ⟨c,t,e,i,x,y,ho,hcal,hargs,hat,ht,hi,hi2,_,h0,hz,h1,h2⟩ := cop_app hxc
 have hg : ∀ x ∈ [X,Y],gS st.env x = true := fun x hx => oks_mem hok hx
 have hv := hr.vr h1 (hg _ (by simp))
 rw [hx] at hv
 obtain ⟨g,n',cur,e',q,k1,k2,k3,k4,k5,k6,k7,k8,k9⟩ := blk_at hr.h hh hv
 have hsrc := srcD_at hr.h (hr.vr h2 (hg _ (by simp))) hy
 have htk : ys.take ys.length = ys := List.take_length
 obtain ⟨sa,scap,news,m1,m2,m3,m4,m5⟩ := hsrc.news (P := P) ys.length (by rw [htk];exact hrow) (by rw [htk];exact hany)
 rw [htk] at m2 m3 m5
 have hcap0 : news ≠ [] → q = off * sz := fun hne => k6 (by
  rcases Nat.eq_zero_or_pos cp with h0 | h0
  ·exfalso
   have : ys = [] := List.eq_nil_of_length_eq_zero (by omega)
   rw [this] at m2
   exact hne (List.eq_nil_of_length_eq_zero (by simpa using m2))
  ·exact h0)
 have hset : w.setCells g (q + len * sz) news = w.setCells g ((off + len) * sz) news := by
  by_cases hne : news = []
  ·rw [hne];rfl
  ·rw [hcap0 hne,Nat.add_mul]
 have hfit : off + len + ys.length ≤ xs.length := by omega
 have hst : (storeCells ⟨g,q + len * sz,none⟩ news 0).run P w = .ok () (w.setCells g (q + len * sz) news) := store_run k3 (fun hne => by
  rw [hcap0 hne,m2,k4,← Nat.add_mul,← Nat.add_mul];exact Nat.mul_le_mul_right _ hfit) m4
 refine wp_value (v := .slice (some ⟨g,q,none⟩) (len + ys.length) cp) (w' := w.setCells g ((off + len) * sz) news) ?_ ?_
 ·unfold execOp;rw [ho]
  obtain ⟨cal,ars,ats⟩ := c
  obtain ⟨ars⟩ := ars
  obtain ⟨ats⟩ := ats
  simp only at hargs hat hcal
  subst hargs hat hcal
  rw [← hset]
  rw [m1] at m3
  simp only [resolve,List.map_cons,List.map_nil,List.map_toArray,invoke,builtin,Sem.run_bind,Sem.run_pure,Result.andThen_ok,k5,m1]
  simp [Builtin.append_,run_underlying (sliceT_some ht),Builtin.lenOf,sizeOf,typeInfo,hi,hi2,hroom,m3,Addr.add_lit,hst]
 ·refine hG _ _ _ _ _ (fun hs => by rw [hsb] at hs;cases hs) h (hr.step hdst (fun _ _ => rfl) (fun _ _ _ h => h) (Nat.le_refl _) (v := .slice (some ⟨g,q,none⟩) (len + ys.length) cp) (d := .sl id sz off (len + ys.length) cp) ?_ ?_ ?_)
  ·exact ⟨g,n',xs.length,q,k1,rfl,k6,hroom,k8⟩
  ·exact (hr.h.lt _ _ hh).1
  ·exact hr.h.write hh k2 (Only.setCells g news ((off + len) * sz) w) (k9.paste k2 m2 hfit hrow fun i row j d hi hj _ => m5 i row j d hi hj) (paste_lt (hr.h.lt _ _ hh).2 hsrc.1)
end
section
variable {P : Program} {sb : Bool} {B : Base} {st : St} {K : St → Prop} {dst : Option Nat} {X Y : Opd} {id sz off len cp : Nat}
theorem XCall.appmake {xs : List (List D)} {bytes n : Nat} (hok : oks st.env (.xop 11 [sz,bytes] [X,Y]) = true) (hx : evS st.env X = .sl id sz off len cp) (hh : hget st.heap id = some (.blk sz xs)) (hy : evS st.env Y = .int .i64 (n : Nat))
  (hgrow : cp < len + n) (h0 : 0 < sz) (hby : 0 < bytes) (hbig : (len + n) * bytes ≤ 140737488355328)
  (h : ∀ k,K ⟨putO st.env dst (.sl st.nx sz 0 (len + n) (len + n + k)),eput st.heap st.nx (.blk sz ((xs.drop off).take len ++ List.replicate (n + k) (anyRow sz))),st.nx + 1⟩) : XCall P sb B (.xop 11 [sz,bytes] [X,Y]) dst st K := by
 intro o s Z a w K' Q hxc hd hdst hr hG
 subst hd
 obtain ⟨c,t,t',e,i,z,x,y,X',Y',ho,hcal,hargs,hat,ht',ht,hi,hi2,hi3,hz,h1,h2,hxs⟩ := xcop_11 hxc
 simp only [List.cons.injEq,and_true] at hxs
 obtain ⟨rfl,rfl⟩ := hxs
 have hg : ∀ x ∈ [X,Y],gS st.env x = true := fun x hx => oks_mem hok hx
 have hv := hr.vr h1 (hg _ (by simp))
 rw [hx] at hv
 have hvn := hr.vr h2 (hg _ (by simp))
 rw [hy] at hvn
 have hvn := hvn.int_inv
 obtain ⟨g,n',cur,e',q,k1,k2,k3,k4,k5,k6,k7,k8,k9⟩ := blk_at hr.h hh hv
 obtain ⟨i',zv,hi',hz1,hz2,hz3,hz4⟩ := zero_one hz
 rw [hi] at hi'
 simp only [zA] at hi'
 subst hi'
 obtain ⟨b1,b2,g',m',cur',e2,b3,b4,b5,b6,b7,b8⟩ := k9
 rw [k1] at b3
 simp only [Value.slice.injEq,zA,Addr.mk.injEq,and_true] at b3
 obtain ⟨rfl,rfl⟩ := b3
 rw [k3] at b4
 simp only [zA,Obj.cells.injEq,and_true] at b4
 obtain ⟨rfl,rfl⟩ := b4
 have hqo : 0 < len → q = off * sz := fun hl => k6 (by omega)
 obtain ⟨olds,holds⟩ : ∃ olds,olds = (cur.toList.drop (off * sz)).take (len * sz) := ⟨_,rfl⟩
 have hfit : off * sz + len * sz ≤ cur.size := by rw [k4,← Nat.add_mul];exact Nat.mul_le_mul_right _ (by omega)
 have hol : olds.length = len * sz := by rw [holds];simp;omega
 have hold : (Builtin.firstCells sz len (.slice (some ⟨g,q,none⟩) len cp)).run P w.drew = .ok olds.toArray w.drew := by
  refine run_firstCells_some w.drew sz len ⟨g,q,none⟩ len cp olds hol (fun j v hj => ?_)
  have hjl : j < len * sz := by rw [← hol];exact (zB.1 hj).1
  have hq := hqo (by
   rcases Nat.eq_zero_or_pos len with h0 | h0
   ·rw [h0,Nat.zero_mul] at hjl;omega
   ·exact h0)
  rw [add_mid',World.cell?_drew,cell_of_row w g _ cur e' (0,0) k3]
  rw [holds,List.getElem?_take,if_pos hjl,List.getElem?_drop] at hj
  rw [hq]
  simpa using hj
 have hr0 := Lib.run_append_grow_zeros (P := P) w t t' o.type e i zv .i64 .i64 (sliceT_some ht) ht' hi hz1 (some ⟨g,q,none⟩) len cp olds (by rw [hi2];exact hold) n (by omega) (by omega) hgrow (by
   have : (len + n) * 1 ≤ (len + n) * bytes := Nat.mul_le_mul_left _ hby
   omega) (by rw [hi3];rw [Nat.add_mul] at hbig;omega) (by rw [hi3];exact growslice_fits hgrow hbig)
 obtain ⟨gc,hgc⟩ : ∃ gc,gc = grownCap w (len + n) cp e := ⟨_,rfl⟩
 have hgc1 : len + n ≤ gc := by rw [hgc];exact grownCap_ge ..
 have hgc2 : gc ≤ maxLen := by
  rw [hgc];refine grownCap_le_maxLen _ _ _ _ ?_
  have : (len + n) * 1 ≤ (len + n) * bytes := Nat.mul_le_mul_left _ hby
  unfold maxLen;omega
 rw [← hgc] at hr0
 obtain ⟨k,rfl⟩ : ∃ k,gc = len + n + k := ⟨gc - (len + n),by omega⟩
 refine wp_value (v := .slice (some ⟨w.heap.size,0,none⟩) (len + n) (len + n + k)) (w' := w.drew.alloc (.cells (olds.toArray ++ Builtin.zeroCells zv.cells n ++ Builtin.zeroCells zv.cells (len + n + k - (len + n))) e)) ?_ ?_
 ·unfold execOp;rw [ho]
  obtain ⟨cal,ars,ats⟩ := c
  obtain ⟨ars⟩ := ars
  obtain ⟨ats⟩ := ats
  simp only at hargs hat hcal
  subst hargs hat hcal
  simp only [resolve,List.map_cons,List.map_nil,List.map_toArray,invoke,builtin,Sem.run_bind,Sem.run_pure,Result.andThen_ok,k5,hvn]
  simp [hr0]
 ·have hbel : Below w.heap.size w (w.drew.alloc (.cells (olds.toArray ++ Builtin.zeroCells zv.cells n ++ Builtin.zeroCells zv.cells (len + n + k - (len + n))) e)) := ((Below.refl _ _).drew).alloc (Nat.le_refl _) _
  have hwlen : ((xs.drop off).take len).length = len := by rw [List.length_take,List.length_drop];omega
  have hxl : ((xs.drop off).take len ++ List.replicate (n + k) (anyRow sz)).length = len + n + k := by rw [List.length_append,hwlen,List.length_replicate];omega
  refine hG _ _ _ _ _ (fun _ => hbel) (h k) (hr.step hdst (upd_lt s st.nx _) (fun _ _ _ h => h) (by omega) (v := .slice (some ⟨w.heap.size,0,none⟩) (len + n) (len + n + k)) ?_ ?_ (hr.h.new hbel (v := .slice (some ⟨w.heap.size,0,none⟩) (len + n) (len + n + k)) ?_ ?_ (fun k' hk => ?_)))
  ·exact ⟨w.heap.size,len + n,len + n + k,0,upd_same _ _ _,rfl,fun _ => by simp,by omega,by omega⟩
  ·exact Nat.lt_succ_self _
  ·refine ⟨h0,fun row hr' => ?_,w.heap.size,len + n,_,e,by rw [hxl],heap_alloc_new w.drew _,by omega,by rw [hxl];exact hgc2,?_,fun i' row j d hi' hj hd => ?_⟩
   ·rcases List.mem_append.1 hr' with hr' | hr'
    ·exact b2 row (List.mem_of_mem_drop (List.mem_of_mem_take hr'))
    ·rw [List.eq_of_mem_replicate hr'];simp [anyRow]
   ·rw [hxl]
    simp only [Array.size_append,List.size_toArray,size_zeroCells,hz3,hol]
    rw [← hz2,hi2,← Nat.add_mul,← Nat.add_mul];congr 1;omega
   ·by_cases c1 : i' < len
    ·rw [List.getElem?_append_left (by omega),List.getElem?_take,if_pos c1,List.getElem?_drop] at hi'
     have hjl : j < sz := by
      have := (zB.1 hj).1
      rwa [b2 _ (zD hi')] at this
     have hlt : i' * sz + j < len * sz := by
      have : (i' + 1) * sz ≤ len * sz := Nat.mul_le_mul_right _ c1
      rw [Nat.add_mul,Nat.one_mul] at this;omega
     have h8 := b8 _ row j d hi' hj hd
     have e3 : (olds.toArray ++ Builtin.zeroCells zv.cells n ++ Builtin.zeroCells zv.cells (len + n + k - (len + n))).getD (i' * sz + j) undef = cur.getD ((off + i') * sz + j) undef := by
      rw [Array.getD_eq_getD_getElem?,Array.append_assoc,Array.getElem?_append_left (by simpa [hol] using hlt),Array.getD_eq_getD_getElem?]
      congr 1
      rw [List.getElem?_toArray,holds,List.getElem?_take,if_pos hlt,List.getElem?_drop,show off * sz + (i' * sz + j) = (off + i') * sz + j by rw [Nat.add_mul];omega]
      simp
     rw [e3]
     exact VC.mono (fun _ _ _ h => h) (upd_lt s st.nx _) ((hr.h.lt _ _ hh).2 row (zD hi') d (zD hj)) h8
    ·rw [List.getElem?_append_right (by omega)] at hi'
     exact absurd (anyRow_ne hi' hj) hd
  ·intro row hr' d hd
   rcases List.mem_append.1 hr' with hr' | hr'
   ·exact ((hr.h.lt _ _ hh).2 row (List.mem_of_mem_drop (List.mem_of_mem_take hr')) d hd).mono (Nat.le_succ _)
   ·exact anyRow_lt row hr' d hd
  ·simp only [blk] at hk
   split at hk
   ·cases hk
   ·cases hk;exact Nat.le_refl _
theorem WCall.overlaps {f : FuncId} {tS tR e : TypeId} {id1 sz1 : Nat} {zs xs : List (List D)} (hE : ∀ args w,(callFunc f args).run P w = ((Extern.SlicesOverlaps.overlaps #[tS,tS] #[tR] args).run P w).andThen fun v w' => .ok (.value v) w')
  (ht : P.underlying tS = some (.slice e)) (hsz : szT P e = some sz) (hok : oks st.env (.call f [X,Y]) = true) (hx : evS st.env X = .own id1) (hh1 : hget st.heap id1 = some (.row sz1 zs)) (hz0 : zs ≠ []) (hy : evS st.env Y = .sl id sz off len cp) (hh : hget st.heap id = some (.blk sz xs)) (hne : id1 ≠ id)
  (h : K ⟨putO st.env dst (.bool false),st.heap,st.nx⟩) : WCall P sb B (.call f [X,Y]) dst st K := by
 intro o s Z a w K' Q hcop hd hdst hr hG
 subst hd
 obtain ⟨⟨cal,ars,ats⟩,ho,hcl,hys⟩ := cop_call hcop
 obtain ⟨ars⟩ := ars
 simp only at hcl hys
 subst hcl
 obtain ⟨x,y,rfl,h1,h2⟩ := opdsC_two hys
 have hg : ∀ x ∈ [X,Y],gS st.env x = true := fun x hx => oks_mem hok hx
 have hvx := hr.vr h1 (hg _ (by simp))
 rw [hx] at hvx
 have hvy := hr.vr h2 (hg _ (by simp))
 rw [hy] at hvy
 obtain ⟨g,n',cur,e',q,k1,k2,k3,k4,k5,k6,k7,k8,k9⟩ := blk_at hr.h hh hvy
 have ho1 := hr.h.ob _ _ hh1
 obtain ⟨p1,p2,p3⟩ := (show RowOk (VT Z) w sz1 zs (s id1) from ho1)
 rcases p3 with ⟨rfl,_⟩ | ⟨g1,cap1,cur1,e1,p4,p5,p6,p7,p8,p9⟩
 ·exact absurd rfl hz0
 have hzl : 0 < zs.length := List.length_pos_iff.2 hz0
 have hb1 : blk (s id1) = some g1 := by rw [p4];simp only [blk];rw [if_neg (by omega)]
 have hgg : g1 ≠ g := fun hh' => hr.h.apart id1 id _ _ g1 hh1 hh hne hb1 (by rw [k2,hh'])
 have hkB : cur.size ≠ 0 := by
  have hx0 : 0 < xs.length := k9.2.2.choose_spec.choose_spec.choose_spec.choose_spec.2.2.1
  have := Nat.mul_pos hx0 k9.1
  omega
 have hrun := Lib.run_overlaps_apart (P := P) w tS tR e ht sz (fun w => run_sizeOf' hsz w) ⟨g1,0,none⟩ ⟨g,q,none⟩ zs.length cap1 len cp hgg e1 e' cur1.size cur.size (by simp [World.shape?,p5]) (by simp [World.shape?,k3]) hkB (frozen_of_row w g1 _ cur1 e1 p5) (frozen_of_row w g1 _ cur1 e1 p5)
 refine wp_value (v := .bool false) (w' := w) ?_ ?_
 ·unfold execOp;rw [ho]
  have hE' := hE #[.slice (some ⟨g1,0,none⟩) zs.length cap1,.slice (some ⟨g,q,none⟩) len cp] w
  rw [hrun] at hE'
  have hxv : a.eval x = .slice (some ⟨g1,0,none⟩) zs.length cap1 := hvx.1.trans p4
  have hcf : a.eval (.func f) = .func (.func f) #[] #[] := rfl
  simpa [resolve,invoke,hcf,Deferred.ofValue,hxv,k5] using hE'
 ·exact hG _ _ _ _ _ (fun _ => Below.refl _ _) h (hr.put hdst (VT.bool _) trivial)
end
section
variable {P : Program} {B : Base} {hw : List FuncId} {c : AC} {Q : Ex → St → Prop} {st : St}
theorem W.openR {t id sz : Nat} {xs : List (List D)} (ht : eget st.env t = .own id) (hh : hget st.heap id = some (.row sz xs)) (h0 : xs ≠ [])
  (h : ∀ k,W P B hw c Q ⟨eput st.env t (.sl id sz 0 xs.length (xs.length + k)),eput st.heap id (.blk sz (xs ++ List.replicate k (anyRow sz))),st.nx⟩) : W P B hw c Q st := by
 intro hm code hc s Z a w hr
 have hv := hr.env t
 rw [ht] at hv
 obtain ⟨hv1,_⟩ := hv
 obtain ⟨p1,p2,p3⟩ := (show RowOk (VT Z) w sz xs (s id) from hr.h.ob _ _ hh)
 rcases p3 with ⟨rfl,_⟩ | ⟨g,cap,cur,e,p4,p5,p6,p7,p8,p9⟩
 ·exact absurd rfl h0
 have hxl : 0 < xs.length := List.length_pos_iff.2 h0
 obtain ⟨k,rfl⟩ : ∃ k,cap = xs.length + k := ⟨cap - xs.length,by omega⟩
 have hb : blk (s id) = some g := by rw [p4];simp only [blk];rw [if_neg (by omega)]
 have hlen : (xs ++ List.replicate k (anyRow sz)).length = xs.length + k := by simp
 refine h k hm code hc s Z a w ⟨fun j => ?_,fun j => ?_,hr.size,hr.defers,?_⟩
 ·rw [eget_eput]
  split
  ·rename_i ej
   subst ej
   rw [hv1]
   exact ⟨g,xs.length,xs.length + k,0,p4,p4,fun _ => by simp,by omega,by omega⟩
  ·exact hr.env j
 ·rw [eget_eput]
  split
  ·exact (hr.h.lt _ _ hh).1
  ·exact hr.elt j
 ·refine hr.h.write hh hb ⟨rfl,rfl,rfl,rfl,fun _ _ => rfl⟩ ?_ ?_
  ·refine ⟨p1,fun row hr' => ?_,g,xs.length,cur,e,by rw [hlen];exact p4,p5,by omega,by rw [hlen];exact p7,by rw [hlen];exact p8,fun i row j d hi hj hd => ?_⟩
   ·rcases List.mem_append.1 hr' with hr' | hr'
    ·exact p2 row hr'
    ·rw [List.eq_of_mem_replicate hr'];simp [anyRow]
   ·by_cases c1 : i < xs.length
    ·rw [List.getElem?_append_left c1] at hi
     exact VC.of_vt (p9 i row j d hi hj)
    ·rw [List.getElem?_append_right (by omega)] at hi
     exact absurd (anyRow_ne hi hj) hd
  ·intro row hr' d hd
   rcases List.mem_append.1 hr' with hr' | hr'
   ·obtain ⟨i,hi⟩ := zF hr'
    obtain ⟨j,hj⟩ := zF hd
    exact VT.ltN _ (p9 i row j d hi hj)
   ·exact anyRow_lt row hr' d hd
theorem Gh.closeR {t id sz len : Nat} {xs : List (List D)} (ht : eget st.env t = .sl id sz 0 len xs.length) (hh : hget st.heap id = some (.blk sz xs)) (hT : ∀ row ∈ xs.take len,∀ d ∈ row,isT d = true) :
  Gh B st ⟨eput st.env t (.own st.nx),eput (herase st.heap id) st.nx (.row sz (xs.take len)),st.nx + 1⟩ := by
 intro s Z a w hr
 have hv := hr.env t
 rw [ht] at hv
 obtain ⟨g,n',cur,e',q,k1,k2,k3,k4,k5,k6,k7,k8,k9⟩ := blk_at hr.h hh hv
 have hx0 : 0 < xs.length := k9.2.2.choose_spec.choose_spec.choose_spec.choose_spec.2.2.1
 have hq : q = 0 := by rw [k6 hx0];simp
 subst hq
 obtain ⟨b1,b2,g',m',cur',e2,b3,b4,b5,b6,b7,b8⟩ := k9
 rw [k1] at b3
 simp only [Value.slice.injEq,zA,Addr.mk.injEq,and_true] at b3
 obtain ⟨rfl,rfl⟩ := b3
 rw [k3] at b4
 simp only [zA,Obj.cells.injEq,and_true] at b4
 obtain ⟨rfl,rfl⟩ := b4
 have hlen : (xs.take len).length = len := by rw [List.length_take];omega
 have hH := hr.h.move (w' := w) (v := .slice (some ⟨g,0,none⟩) len xs.length) (ob' := .row sz (xs.take len)) hh ⟨rfl,rfl,rfl,Nat.le_refl _,fun _ _ _ => rfl⟩ (by
  refine ⟨b1,fun row hr' => b2 row (List.mem_of_mem_take hr'),.inr ⟨g,xs.length,cur,e',by rw [hlen],k3,by rw [hlen];exact k7,b6,b7,fun i row j d hi hj => ?_⟩⟩
  have hi' : xs[i]? = some row := by
   rw [List.getElem?_take] at hi
   split at hi
   ·exact hi
   ·cases hi
  have hd := hT row (zD hi) d (zD hj)
  exact VC.vt (b8 i row j d hi' hj (fun e => by rw [e] at hd;cases hd)) hd) trivial (fun k' hk => .inr (by
   simp only [blk] at hk
   rw [if_neg (by omega)] at hk
   rw [k2,← hk]))
 refine ⟨_,Z,fun j => ?_,fun j => ?_,hr.size,hr.defers,hH⟩
 ·rw [eget_eput]
  split
  ·rename_i ej;subst ej;rw [k5];exact ⟨(upd_same _ _ _).symm,.inl ⟨_,_,_,rfl⟩⟩
  ·exact (hr.env j).mono (fun _ _ _ h => h) (upd_lt s st.nx _) (hr.elt j)
 ·rw [eget_eput]
  split
  ·exact Nat.lt_succ_self _
  ·exact (hr.elt j).mono (Nat.le_succ _)
end
section
variable {P : Program} {f : FuncId} {ds : List D} {H : List (Nat × Ob)} {nx : Nat} {R R' : D → List (Nat × Ob) → Nat → Prop}
theorem HF.gh (h : HF P f ds H nx R) (hg : ∀ B : Base,B.n0 = nx → ∀ d H' nx',R d H' nx' → ∃ d1 H1 nx1,Gh B ⟨[(0,d)],H',nx'⟩ ⟨[(0,d1)],H1,nx1⟩ ∧ (∀ g e,d1 ≠ .opt g e) ∧ R' d1 H1 nx1) : HF P f ds H nx R' := by
 refine ⟨h.1,fun F s Z w vs hR hl hv => (h.2 F s Z w vs hR hl hv).mono ?_⟩
 rintro e w' ⟨v,d,H',nx',s',Z',he,q1,q2,q3,q4⟩
 obtain ⟨d1,H1,nx1,g1,g2,g3⟩ := hg ⟨1,F,w,nx,s,Z⟩ rfl d H' nx' q4
 have hrel : Rel ⟨1,F,w,nx,s,Z⟩ s' Z' ⟨[(0,d)],H',nx'⟩ { tmps := #[v],defers := [] } w' := by
  refine ⟨fun k => ?_,fun k => ?_,rfl,rfl,q3.toN 1⟩
  ·simp only [eget]
   split
   ·rename_i e;subst e;exact VS.of_vr q1
   ·trivial
  ·simp only [eget]
   split
   ·exact LtS.of_r q2 (VR.no_opt q1)
   ·trivial
 obtain ⟨s1,Z1,hrel1⟩ := g1 _ _ _ _ hrel
 have hv1 := hrel1.env 0
 have hl1 := hrel1.elt 0
 simp only [eget,if_true] at hv1 hl1
 have hv1 : VR s1 Z1 d1 v := by
  cases d1 with
  | opt g e => exact absurd rfl (g2 g e)
  | _ => exact hv1
 have hl1 : LtR nx1 d1 := by
  cases d1 with
  | opt g e => exact absurd rfl (g2 g e)
  | _ => exact hl1
 exact ⟨v,d1,H1,nx1,s1,Z1,he,hv1,hl1,hrel1.h.toN 0,g3⟩
theorem lget_id (id : Nat) : lget [] id = id := rfl
theorem lget_fun : lget [] = id := rfl
theorem rnC_id (d : D) : rnC (lget []) d = d := by
 cases d with
 | clo f ids => simp only [rnC,lget_fun,List.map_id]
 | _ => rfl
theorem rnV_id (d : D) : rnV (lget []) d = d := by
 cases d with
 | agg ds =>
  have : ds.map (rnC (lget [])) = ds := by
   rw [show rnC (lget []) = id from funext rnC_id,List.map_id]
  simp only [rnV,this]
 | clo f ids => exact rnC_id (.clo f ids)
 | _ => rfl
theorem rnR_id (d : D) : rnR (lget []) d = d := by
 cases d with
 | tup ds =>
  have : ds.map (rnV (lget [])) = ds := by
   rw [show rnV (lget []) = id from funext rnV_id,List.map_id]
  simp only [rnR,this]
 | agg ds => exact rnV_id (.agg ds)
 | clo f ids => exact rnC_id (.clo f ids)
 | _ => rfl
theorem rnO_id (ob : Ob) : rnO (lget []) ob = ob := by
 have h1 : rnC (lget []) = id := funext rnC_id
 have h2 : List.map (rnC (lget [])) = id := by rw [h1];funext l;exact List.map_id l
 cases ob with
 | cells ds => simp only [rnO,h2,id]
 | rowd sz xs =>
  have : xs.map (·.map (rnC (lget []))) = xs := by
   rw [show (fun x : List D => x.map (rnC (lget []))) = id from h2,List.map_id]
  simp only [rnO,this]
 | blk sz xs =>
  have : xs.map (·.map (rnC (lget []))) = xs := by
   rw [show (fun x : List D => x.map (rnC (lget []))) = id from h2,List.map_id]
  simp only [rnO,this]
 | _ => rfl
theorem rnS_id (d : D) : rnS (lget []) d = d := by
 cases d with
 | opt g e => simp only [rnS,rnR_id]
 | tup ds => exact rnR_id (.tup ds)
 | agg ds => exact rnR_id (.agg ds)
 | clo f ids => exact rnC_id (.clo f ids)
 | _ => rfl
theorem HF.tidy {d1 : D} {H1 : List (Nat × Ob)} {nx1 : Nat} (hn : nx ≤ nx1) (hno : ∀ g e,d1 ≠ .opt g e) (hlt : LtS nx1 d1) (hheap : ∀ p ∈ H1,p.1 < nx1 ∧ LtO nx1 p.2) (h : HF P f ds H nx (fun d H' _ => d = d1 ∧ ∀ p ∈ H1,hget H' p.1 = some p.2)) :
  HF P f ds H nx (fun d H' nx' => d = d1 ∧ H' = H1 ∧ nx' = nx1) := by
 refine h.gh fun B hB d H' nx' hR => ?_
 obtain ⟨rfl,hH⟩ := hR
 refine ⟨d,H1,nx1,Gh.ren [] (by show B.n0 ≤ nx1;omega) (fun _ _ => rfl) ?_ ?_ (.inr rfl),hno,rfl,rfl,rfl⟩
 ·intro p hp
  obtain rfl := List.mem_singleton.1 hp
  exact ⟨(rnS_id d).symm,hlt⟩
 ·intro p hp
  obtain ⟨h1,h2⟩ := hheap p hp
  exact ⟨h1,h2,by rw [lget_id,rnO_id];exact hH p hp⟩
theorem HF.one {ob : Ob} (hob : ∀ ρ,rnO ρ ob = ob) (hl : ∀ n,LtO n ob) (h : HF P f ds H nx (fun d H' nx' => ∃ k,d = .own k ∧ hget H' k = some ob)) : HF P f ds H nx (fun d H' nx' => d = .own nx ∧ H' = [(nx,ob)] ∧ nx' = nx + 1) := by
 refine h.gh fun B hB d H' nx' hR => ?_
 obtain ⟨k,rfl,hh⟩ := hR
 refine ⟨.own nx,[(nx,ob)],nx + 1,Gh.ren (List.range nx ++ [k]) (by simp [hB]) (fun id hid => ?_) ?_ ?_ (.inl (by simp)),(fun g e => by simp),rfl,rfl,rfl⟩
 ·rw [hB] at hid
  simp [lget,zC,List.getElem?_append,hid]
 ·intro p hp
  obtain rfl := List.mem_singleton.1 hp
  have : lget (List.range nx ++ [k]) nx = k := by simp [lget,zC,List.getElem?_append]
  exact ⟨by simp [eget,rnS,rnR,rnV,rnC,this],Nat.lt_succ_self _⟩
 ·intro p hp
  obtain rfl := List.mem_singleton.1 hp
  have : lget (List.range nx ++ [k]) nx = k := by simp [lget,zC,List.getElem?_append]
  exact ⟨Nat.lt_succ_self _,hl _,by rw [this,hob];exact hh⟩
end
def Sl {α : Type} (w : World) (sz : Nat) (E : α → List Value) (v : Value) (xs : List α) : Prop :=
 ∃ a cap,v = .slice a xs.length cap ∧ xs.length ≤ cap ∧ (a = none → cap = 0) ∧ (xs ≠ [] → ∃ b off,a = some ⟨b,off,none⟩ ∧ b < w.heap.size ∧
  ∀ i x j u,xs[i]? = some x → (E x)[j]? = some u → w.cell? ⟨b,off + i * sz + j,none⟩ = some u)
theorem Sl.nil {α : Type} (w : World) (sz : Nat) (E : α → List Value) : Sl w sz E (.slice none 0 0) [] := ⟨none,0,rfl,Nat.le_refl _,fun _ => rfl,fun h => absurd rfl h⟩
theorem owns_call {w w' : World} {base : Nat} {e : TypeId} {sz n : Nat} {v : Value} {xs : List Value} (h : w.ownsRow base e sz v n xs) (hb : Below w.heap.size w w') : w'.ownsRow base e sz v n xs := by
 obtain ⟨h1,h2⟩ := h
 refine ⟨h1,?_⟩
 rcases h2 with h2 | ⟨g,cap,cur,hv,hg,hh,r⟩
 ·exact Or.inl h2
 ·refine Or.inr ⟨g,cap,cur,hv,hg,?_,r⟩
  rw [hb.block g ?_]
  ·exact hh
  ·rcases Nat.lt_or_ge g w.heap.size with h1 | h1
   ·exact h1
   ·rw [Array.getElem?_eq_none h1] at hh;cases hh
theorem WCall.pfv {P : Program} {sb : Bool} {B : Base} {st : St} {K : St → Prop} {x : Opd} {f : FuncId} {cs : List D} {as_ : List Opd} {es : List D} {d : D} {dst : Option Nat} (hpf : PF P f es d) (hok : oks st.env (.callv x as_) = true) (hf : evS st.env x = .fn f cs)
  (hes : match omap (brwV st.heap) (as_.map (evS st.env) ++ cs) with | some e => leVL e es | none => False) (hno : ((as_.map (evS st.env) ++ cs).all noV || flatR d) = true)
  (hK : K ⟨putO st.env dst d,st.heap,st.nx⟩) : WCall P sb B (.callv x as_) dst st K := WCall.ofv hok hf (CallOk.pf hpf hes hno hK)
section
variable {P : Program} {ops : Array Oper} {md : Region.Mode} {w : World} {n : Nat} {Q : Exit → Act → World → Prop}
theorem wpInW_of_still {o : Oper} {a : Act} {K : Act → Prop} {K' : Act → World → Prop} (h : ∀ a,K a → K' a w) (hh : o.still P a w K) : o.wpIn Fence.wide n P a w K' Q := by
 refine ⟨fun _ _ => trivial,?_⟩
 unfold Oper.still at hh
 change o.uponIn Fence.wide n P a K' Q ((execOp a.eval o).run P w)
 generalize (execOp a.eval o).run P w = r at *
 cases r with
 | ok x w' =>
  cases x <;> simp only [Oper.stillUpon] at hh <;> simp only [Oper.uponIn]
  case enter f args =>
   obtain ⟨rfl,v,hc,hn⟩ := hh
   refine ⟨fun h => by simp [Fence.wide] at h,(callsIn_wide.2 hc).mono ?_⟩
   rintro e w'' ⟨rfl,rfl⟩
   exact h _ hn
  all_goals (obtain ⟨rfl,h2⟩ := hh;exact h _ h2)
 | halt x w' => simp only [Oper.stillUpon] at hh
theorem wpOpInW_of_stOp {i : Nat} {a : Act} {K : Act → Prop} {K' : Act → World → Prop} (h : ∀ a,K a → K' a w) (hh : stOp P ops w i K a) : wpOpIn Fence.wide n P ops Q i K' a w := by
 unfold stOp at hh
 unfold wpOpIn
 split
 ·rename_i ho;simp only [ho] at hh;exact h _ hh
 ·rename_i o ho
  simp only [ho] at hh
  split
  ·rename_i hw;simp only [hw,if_true] at hh;exact wpInW_of_still h hh
  ·rename_i hw;simp only [hw] at hh;exact ⟨fun _ _ => trivial,h _ hh⟩
theorem wpAnyInW_of_head {k g : Nat} {L : Array Bool → Act → Prop} (hL : ∀ listed a,L listed a → wpAnyIn Fence.wide n P md ops Q g listed a w) :
  ∀ (f : Nat) (listed : Array Bool) (a : Act),wpAnyL P md ops w k L f listed a → wpAnyIn Fence.wide n P md ops Q (f + g) listed a w
 | 0,listed,a,h => by rw [Nat.zero_add];exact hL _ _ h
 | f + 1,listed,a,h => by
  rw [show f + 1 + g = (f + g) + 1 by omega]
  exact ⟨fun h0 => absurd h0 h.1,fun i hi => wpOpInW_of_stOp (fun a' h' => wpAnyInW_of_head hL f _ a' h') (h.2 i hi).2⟩
theorem wpAnyIn_of_seq {F : Fence} : ∀ (l : List Oper) (k : Nat) (listed : Array Bool) (a : Act) (w : World),(∀ j,l[j]? = ops[k + j]?) →
  Region.seqB md ops l.length k listed = true → wpListIn F n P ops Q l a w → wpAnyIn F n P md ops Q l.length listed a w
 | [],_,_,_,_,_,hB,h => ⟨by simpa [Region.seqB] using hB,h⟩
 | o :: l,k,listed,a,w,hl,hB,h => by
  have h0 : ops[k]? = some o := by simpa using (hl 0).symm
  simp only [List.length_cons,Region.seqB,Bool.and_eq_true,decide_eq_true_eq] at hB
  refine ⟨fun h1 => (by rw [hB.1] at h1;cases h1),fun i hi => ?_⟩
  rw [hB.1] at hi
  have hik : i = k := by simpa using hi
  subst hik
  have hw : wpOpIn F n P ops Q i (wpListIn F n P ops Q l) a w := by unfold wpOpIn;simp only [h0];exact h
  exact wpOpIn_mono (fun a' w' h' => wpAnyIn_of_seq l (i + 1) _ a' w' (fun j => by have := hl (j + 1);simpa [Nat.add_assoc,Nat.add_comm 1 j] using this) hB.2 h') hw
theorem wpIn_region_still_tail {id : Nat} {a : Act} {l : List Oper} (k : Nat) (hm : P.follows .mixedOrders = true) (hB : Region.lexTailB .any l.toArray k = true)
  (h : wpStill P l.toArray { w with drawn := w.drawn + 1 } (fun a' => wpListIn Fence.wide n P l.toArray Q (l.drop k) a' { w with drawn := w.drawn + 1 }) (l.take k) a) : (Code.region id l.toArray true).wpIn Fence.wide n P Q a w := by
 simp only [Region.lexTailB,Bool.and_eq_true,decide_eq_true_eq] at hB
 obtain ⟨⟨⟨⟨hsel,hn⟩,hs⟩,hc⟩,hlex⟩ := hB
 have hn' : k < l.length := by simpa using hn
 have htl : (l.take k).length = k := by simp;omega
 have hdl : (l.drop k).length = l.toArray.size - k := by simp
 have inv0 : HeadInv .any l.toArray k (Array.replicate l.toArray.size false) :=
  ⟨by simp,fun j oj _ hl => (by rw [getD_replicate_false] at hl;cases hl),fun t _ ht => getD_in (by simpa using ht) (getD_replicate_false _ _)⟩
 have H := wpAnyL_lex (md := .any) (g := l.toArray.size - k) hsel hs hc hn (l.take k) 0 _ a (fun j hj => by
  have hj' : j < k := by rw [htl] at hj;exact hj
  simp [hj']) (by simpa using htl) inv0 (by rw [htl];exact hlex) h
 refine wpIn_region_any hm ?_
 have := wpAnyInW_of_head (Q := Q) (n := n) (g := l.toArray.size - k) (fun listed a' hL => by
  have := wpAnyIn_of_seq (F := Fence.wide) (n := n) (md := .any) (Q := Q) (l.drop k) k listed a' { w with drawn := w.drawn + 1 } (fun j => by simp [List.getElem?_drop]) (by rw [hdl];exact hL.1) hL.2
  rwa [hdl] at this) _ _ _ H
 rw [htl,show k + (l.toArray.size - k) = l.toArray.size by omega] at this
 exact this
theorem PF.wide {f : FuncId} {ds : List D} {d : D} (h : PF P f ds d) (Z : Cells) (w : World) (vs : Array Value) (hz : ∀ b o v,Z b o = some v → w.cell? ⟨b,o,none⟩ = some v) (hl : vs.size = ds.length) (hv : ∀ j x,ds[j]? = some x → VV s0 Z x (vs.getD j undef)) :
  CallsIn Fence.wide n P f vs w fun e w' => ∃ v Z',e = .returned v ∧ VR s0 Z' d v ∧ Zx Z Z' w w' ∧ Below w.heap.size w w' := callsIn_wide.2 (h.2 Z w vs hz hl hv)
end
end Go.Proofs.YtibemmkfcjlmpaaGreat
namespace Go.Proofs.YtibemmkfcjlmpaaGreat
open Go.RowKit
abbrev oM (d a : Nat) : AO := ⟨some d, .mov (.t a), none⟩
abbrev oF (d o a : Nat) : AO := ⟨some d, .fad o (.t a), none⟩
abbrev oL (d n a : Nat) : AO := ⟨some d, .load false n (.t a), none⟩
abbrev oA (d n a : Nat) : AO := ⟨some d, .load true n (.t a), none⟩
abbrev oS (n a b : Nat) : AO := ⟨none, .store n (.t a) (.t b), none⟩
abbrev oN (d a : Nat) : AO := ⟨some d, .nchk (.t a), none⟩
abbrev oE (d a i : Nat) : AO := ⟨some d, .ext (.t a) i, none⟩
abbrev oH (d a : Nat) : AO := ⟨some d, .len (.t a), none⟩
abbrev oB (d a : Nat) : AO := ⟨some d, .box (.t a), none⟩
abbrev oI (d z a b : Nat) : AO := ⟨some d, .iads z (.t a) (.t b), none⟩
abbrev oK (d : Nat) (z : Int) : AO := ⟨some d, .mov (.k (.int .i64 z)), none⟩
abbrev oX (d : Nat) (o : AOp) : AO := ⟨some d, o, none⟩
abbrev oY (o : AOp) : AO := ⟨none, o, none⟩
abbrev oG (d : Nat) (o : AOp) (g : Nat) (b : Bool) : AO := ⟨some d, o, some (g, b)⟩
abbrev kI (z : Int) : Opd := .k (.int .i64 z)
abbrev qZ : D := .int .i64 0
abbrev qF : D := .bool false
abbrev qT : D := .bool true
abbrev qN (o : AO) (r : ASch) : ASch := .one true o r
abbrev qR (n : Nat) (l : List AO) : AC := .region n l
attribute [local simp] AK_at acode_seq acode_region acode_draw acode_cond CB_u acode_block acode_loop acode_exit acode_scope acode_ret acode_skip seqQ_n seqQ_e seqQ_r blockQ_n blockQ_e blockQ_r TK_at OK_at SK_at aops_nil aops_cons asch_done asch_one asch_two asch_top astep aop_eq isLoud aloud aloud1 isWrite qv evS strip gof eget hget putO eput herase oks opnds gS afin afin0 binD arith D.cells takeD fillD keep trim envOf Fin aresl aresv resD argOk pickV isP deq deqs boundD slD lenD isT isSl ptrIds chunks mn_min mx_max splice_one splice_more Rbr_at Rfr_at frR frV frC flatC brwR brwV brwC omap leR leV leC leL leVL rnR rnV rnC rnO rho_0 hputs herases rnS LtS LtR LtV LtC LtO lget noV noC flatR flatV rho
attribute [local simp ↓] CB_t CB_f
theorem follows_ok : Tryz.prog.follows .mixedOrders = true := by kernel_rfl
theorem picked_code : cfun Tryz.prog [] 31 = some ⟨(.seq (qR 0 [oK 4 0]) (.seq (.seq (qR 1 [oM 5 0,oX 6 (.bin .lss (.t 5) (kI 0))]) (.cond 6 (qR 2 [oM 7 0,oX 8 (.bin .add (.t 7) (kI 1)),oX 9 (.neg (.t 8)),oM 0 9]) .skip)) (.seq (qR 3 [oM 10 0,oM 11 1,oX 12 (.bin .rem (.t 10) (.t 11)),oM 4 12]) .ret))),[(.t 4)],13⟩ := by kernel_rfl
theorem picked_pf (n m : Int) (hn : InR n) (hm : 1 ≤ m) : PF Tryz.prog 31 [.int .i64 n,.int .i64 m] (.int .i64 (pickedZ n m)) := by
 refine PF.of follows_ok picked_code (by simp) (by simp) (by simp) fun B _ _ => acode_sound [0,1,4,6] [] _ _ _ ?_
 simp
 refine ⟨fun h => ⟨?_,?_,by omega,?_⟩,fun h => ⟨by omega,?_⟩⟩
 ·unfold InR at *;omega
 ·unfold InR at *;omega
 ·have h2 : ¬ 0 < n + 1 := by omega
  simp [pickedZ,h,h2]
 ·have : ¬ n < 0 := by omega
  simp [pickedZ,this]
theorem law_of_pf {f : FuncId} {ds : List D} (h : PF Tryz.prog f ds (.bool true)) (W : World) (vs : Array Value) (hl : vs.size = ds.length) (hv : ∀ j x,ds[j]? = some x → VV s0 (allZ W) x (vs.getD j undef)) :
  Calls Tryz.prog f vs W fun e W' => e = .returned (.bool true) ∧ Below W.heap.size W W' :=
 (h.2 (allZ W) W vs (fun b o v h => h) hl hv).mono fun e w' ⟨v,Z',he,hr,_,hb⟩ => ⟨by rw [he,hr.bool_inv],hb⟩
theorem args_nil {Z : Cells} : ∀ (j : Nat) (x : D),([] : List D)[j]? = some x → VV s0 Z x ((#[] : Array Value).getD j undef) := fun j x h => by simp at h
theorem args_cons {Z : Cells} {d : D} {ds : List D} {v : Value} {vs : List Value} (h : VV s0 Z d v) (ht : ∀ j x,ds[j]? = some x → VV s0 Z x (vs.toArray.getD j undef)) : ∀ (j : Nat) (x : D),(d :: ds)[j]? = some x → VV s0 Z x ((v :: vs).toArray.getD j undef) := fun j x hx => by
 cases j with
 | zero => simp at hx;subst hx;exact h
 | succ j => simpa using ht j x (by simpa using hx)
theorem Sl.rows {α : Type} {W : World} {sz : Nat} {E : α → List Value} {F : α → List D} {v : Value} {xs : List α} (h : Sl W sz E v xs) (hF : ∀ x ∈ xs,(E x).length = sz ∧ (F x).length = sz ∧ ∀ (j : Nat) (d : D),(F x)[j]? = some d → ∃ u,(E x)[j]? = some u ∧ ∀ Z,VT Z d u) : VT (allZ W) (.rows sz (xs.map F)) v := by
 obtain ⟨a,cap,rfl,hcap,h0,h3⟩ := h
 cases xs with
 | nil =>
  exact VT.rnil _ _ _
 | cons x0 xs =>
  obtain ⟨b,off,rfl,hb,hc⟩ := h3 (by simp)
  have key : ∀ (i : Nat) (row : List D) (j : Nat) (d : D),((x0 :: xs).map F)[i]? = some row → row[j]? = some d → ∃ x u,(x0 :: xs)[i]? = some x ∧ (E x)[j]? = some u ∧ j < sz ∧ ∀ Z,VT Z d u := fun i row j d hi hj => by
   obtain ⟨x,hx,rfl⟩ := (map_get _ _ _ _).1 hi
   obtain ⟨g1,g2,g3⟩ := hF x (zD hx)
   obtain ⟨u,hu,hv⟩ := g3 j d hj
   exact ⟨x,u,hx,hu,by rw [← g2];exact (zB.1 hj).1,hv⟩
  have hlen : (x0 :: xs).length = ((x0 :: xs).map F).length := by simp
  rw [hlen]
  refine VT.rows sz _ b off cap (fun i j => ((x0 :: xs)[i]?.bind fun x => (E x)[j]?).getD undef) (by rw [← hlen];exact hcap) (fun i row j d hi hj => ?_) (fun i row j d hi hj => ?_)
  ·obtain ⟨x,u,hx,hu,hjs,hv⟩ := key i row j d hi hj
   refine ⟨hjs,?_⟩
   simp only [hx,Option.bind_some,hu,Option.getD_some]
   exact hc i x j u hx hu
  ·obtain ⟨x,u,hx,hu,hjs,hv⟩ := key i row j d hi hj
   simp only [hx,Option.bind_some,hu,Option.getD_some]
   exact hv _
theorem hO {hw : List FuncId} {f : FuncId} {code : AC} {res : List AR} {n : Nat} {ds : List D} {H : List (Nat × Ob)} {nx : Nat} {R : D → List (Nat × Ob) → Nat → Prop} (hc : cfun Tryz.prog hw f = some ⟨code, res, n⟩) (ks ss : List Nat) (h : ∀ B : Base, B.N = n → B.n0 = nx → acode Tryz.prog B hw ks ss code (Fin res R) ⟨envOf 0 ds, H, nx⟩) (h1 : ds.length ≤ n := by simp) (h2 : ds.all argOk = true := by simp) (h3 : ∀ d ∈ ds, LtV nx d := by simp) : HF Tryz.prog f ds H nx R :=
 HF.of follows_ok hc h1 h2 h3 fun B a b => acode_sound ks ss _ _ _ (h B a b)
theorem pO {hw : List FuncId} {f : FuncId} {code : AC} {res : List AR} {n : Nat} {ds : List D} {e : D} (hc : cfun Tryz.prog hw f = some ⟨code, res, n⟩) (ks ss : List Nat) (h : ∀ B : Base, B.N = n → B.n0 = 0 → acode Tryz.prog B hw ks ss code (Fin res (Rbr e)) ⟨envOf 0 ds, [], 0⟩) (h1 : ds.length ≤ n := by simp) (h2 : ds.all argOk = true := by simp) (h3 : ds.all noV = true := by simp) : PF Tryz.prog f ds e :=
 PF.of follows_ok hc h1 h2 h3 fun B a b => acode_sound ks ss _ _ _ (h B a b)
theorem qO {hw : List FuncId} {f : FuncId} {code : AC} {res : List AR} {n : Nat} {ds : List D} {e : D} (hc : cfun Tryz.prog hw f = some ⟨code, res, n⟩) (ks ss : List Nat) (h : ∀ B : Base, B.N = n → B.n0 = 0 → acode Tryz.prog B hw ks ss code (Fin res (Rfr e)) ⟨envOf 0 ds, [], 0⟩) (h1 : ds.length ≤ n := by simp) (h2 : ds.all argOk = true := by simp) (h3 : ds.all noV = true := by simp) : PFn Tryz.prog f ds e :=
 PFn.of follows_ok hc h1 h2 h3 fun B a b => acode_sound ks ss _ _ _ (h B a b)
def HB (b : Bool) : List D := [.bool b]
structure Wtch where
 window : Int
 fails : Int
 hold : Int
def Wtch.D (w : Wtch) : List D := [I w.window,I w.fails,I w.hold]
def Wtch.Ok (w : Wtch) : Prop := 1 ≤ w.window ∧ w.window ≤ 16 ∧ 1 ≤ w.fails ∧ w.fails ≤ w.window ∧ 1 ≤ w.hold ∧ w.hold ≤ 500
structure Hlth where
 marks : List Bool
 out : Bool
 til : Int
 times : Int
def Hlth.D (h : Hlth) : List D := [.rows 1 (h.marks.map HB),.bool h.out,I h.til,I h.times]
def Hlth.Ok (w : Wtch) (h : Hlth) : Prop := (h.marks.length : Int) ≤ w.window ∧ 0 ≤ h.times ∧ h.times ≤ 10 ∧ 0 ≤ h.til ∧ h.til ≤ 1099511628276 ∧ (h.out = false → h.til = 0)
theorem inH {z : Int} (h1 : -9223372036854775808 ≤ z) (h2 : z ≤ 9223372036854775807) : InR z := ⟨h1,h2⟩
theorem hcheck_code : cfun Tryz.prog [] 63 = some ⟨(.seq (qR 0 [oB 1 0,oK 2 0]) (.seq (.seq (qR 1 [oF 3 0 1,oL 4 1 3,oX 5 (.bin .lss (.t 4) (kI 1)),oM 6 5,oG 7 (.fad 0 (.t 1)) 6 false,oG 8 (.load false 1 (.t 7)) 6 false,oG 9 (.bin .gtr (.t 8) (kI 16)) 6 false,oX 10 (.pick (.t 6) (.k qT) (.t 9)),oM 11 10,oG 12 (.fad 1 (.t 1)) 11 false,oG 13 (.load false 1 (.t 12)) 11 false,oG 14 (.bin .lss (.t 13) (kI 1)) 11 false,oX 15 (.pick (.t 11) (.k qT) (.t 14)),oM 16 15,oG 17 (.fad 1 (.t 1)) 16 false,oG 18 (.load false 1 (.t 17)) 16 false,oG 19 (.fad 0 (.t 1)) 16 false,oG 20 (.load false 1 (.t 19)) 16 false,oG 21 (.bin .gtr (.t 18) (.t 20)) 16 false,oX 22 (.pick (.t 16) (.k qT) (.t 21)),oM 23 22,oG 24 (.fad 2 (.t 1)) 23 false,oG 25 (.load false 1 (.t 24)) 23 false,oG 26 (.bin .lss (.t 25) (kI 1)) 23 false,oX 27 (.pick (.t 23) (.k qT) (.t 26)),oM 28 27,oG 29 (.fad 2 (.t 1)) 28 false,oG 30 (.load false 1 (.t 29)) 28 false,oG 31 (.bin .gtr (.t 30) (kI 500)) 28 false,oX 32 (.pick (.t 28) (.k qT) (.t 31))]) (.cond 32 (.seq (qR 2 [oK 2 2]) .ret) .skip)) (.seq (qR 3 [oK 2 0]) .ret))),[(.t 2)],33⟩ := by kernel_rfl
theorem hcheck_pf (w : Wtch) (hw : w.Ok) : PF Tryz.prog 63 [.agg w.D] (I 0) := by
 obtain ⟨a1,a2,a3,a4,a5,a6⟩ := hw
 have c1 : ¬ w.window < 1 := by omega
 have c2 : ¬ 16 < w.window := by omega
 have c3 : ¬ w.fails < 1 := by omega
 have c4 : ¬ w.window < w.fails := by omega
 have c5 : ¬ w.hold < 1 := by omega
 have c6 : ¬ 500 < w.hold := by omega
 refine pO (h3 := by simp [Wtch.D]) hcheck_code [0,1,2,32] [] fun B hBN hB0 => ?_
 simp [Wtch.D,c1,c2,c3,c4,c5,c6]
theorem hopen_code : cfun Tryz.prog [] 109 = some ⟨(.seq (qR 0 [oB 3 0,oB 4 1,oK 6 0]) (.seq (.seq (qR 1 [oA 8 3 3,oX 9 (.call 63 [(.t 8)]),oM 7 9]) (.seq (qR 2 [oM 10 7,oX 11 (.bin .neq (.t 10) (kI 0))]) (.cond 11 (.seq (qR 3 [oM 12 7,oM 6 12]) .ret) .skip))) (.seq (.seq (qR 4 [oM 13 2,oX 14 (.bin .lss (.t 13) (kI 0)),oM 15 14,oG 16 (.mov (.t 2)) 15 false,oG 17 (.bin .gtr (.t 16) (kI 1099511627776)) 15 false,oX 18 (.pick (.t 15) (.k qT) (.t 17))]) (.cond 18 (.seq (qR 5 [oK 6 2]) .ret) .skip)) (.seq (.seq (qR 6 [oF 19 0 4,oL 20 1 19,oH 21 20,oF 22 0 3,oL 23 1 22,oX 24 (.bin .gtr (.t 21) (.t 23)),oM 25 24,oG 26 (.fad 3 (.t 4)) 25 false,oG 27 (.load false 1 (.t 26)) 25 false,oG 28 (.bin .lss (.t 27) (kI 0)) 25 false,oX 29 (.pick (.t 25) (.k qT) (.t 28)),oM 30 29,oG 31 (.fad 3 (.t 4)) 30 false,oG 32 (.load false 1 (.t 31)) 30 false,oG 33 (.bin .gtr (.t 32) (kI 10)) 30 false,oX 34 (.pick (.t 30) (.k qT) (.t 33)),oM 35 34,oG 36 (.fad 2 (.t 4)) 35 false,oG 37 (.load false 1 (.t 36)) 35 false,oG 38 (.bin .lss (.t 37) (kI 0)) 35 false,oX 39 (.pick (.t 35) (.k qT) (.t 38)),oM 40 39,oG 41 (.fad 2 (.t 4)) 40 false,oG 42 (.load false 1 (.t 41)) 40 false,oG 43 (.bin .gtr (.t 42) (kI 1099511628276)) 40 false,oX 44 (.pick (.t 40) (.k qT) (.t 43)),oM 45 44,oG 46 (.fad 1 (.t 4)) 45 false,oG 47 (.load false 1 (.t 46)) 45 false,oG 48 (.not (.t 47)) 45 false,oG 49 (.mov (.t 48)) 45 false,oG 50 (.fad 2 (.t 4)) 49 true,oG 51 (.load false 1 (.t 50)) 49 true,oG 52 (.bin .neq (.t 51) (kI 0)) 49 true,oG 53 (.pick (.t 49) (.t 52) (.k qF)) 45 false,oX 54 (.pick (.t 45) (.k qT) (.t 53))]) (.cond 54 (.seq (qR 7 [oK 6 6]) .ret) .skip)) (.seq (qR 8 [oK 6 0]) .ret))))),[(.t 6)],55⟩ := by kernel_rfl
theorem hopen_pf (w : Wtch) (h : Hlth) (now : Int) (hw : w.Ok) (hh : h.Ok w) (n0 : 0 ≤ now) (n1 : now ≤ 1099511627776) : PF Tryz.prog 109 [.agg w.D,.agg h.D,I now] (I 0) := by
 obtain ⟨a1,a2,a3,a4,a5,a6⟩ := hh
 have c1 : ¬ now < 0 := by omega
 have c2 : ¬ 1099511627776 < now := by omega
 have c3 : ¬ w.window < h.marks.length := by omega
 have c4 : ¬ h.times < 0 := by omega
 have c5 : ¬ 10 < h.times := by omega
 have c6 : ¬ h.til < 0 := by omega
 have c7 : ¬ 1099511628276 < h.til := by omega
 refine pO (h3 := by simp [Wtch.D,Hlth.D]) hopen_code [0,1,2,3,4,6,7,11,18,54] [] fun B hBN hB0 => ?_
 simp [Wtch.D,Hlth.D]
 cases ho : h.out with
 | true =>
  repeat' (first
   | simp [Wtch.D,Hlth.D,c1,c2,c3,c4,c5,c6,c7,ho]
   | refine ⟨wcS ?_,?_⟩
   | (refine WCall.pf (hcheck_pf w hw) ?_ ?_ ?_ ?_;iterate 3 (solve|simp [Wtch.D,Hlth.D,c1,c2,c3,c4,c5,c6,c7,ho]))
   | with_reducible refine aI ?_ ?_ ?_)
 | false =>
  have c8 := a6 ho
  repeat' (first
   | simp [Wtch.D,Hlth.D,c1,c2,c3,c4,c5,c8,ho]
   | refine ⟨wcS ?_,?_⟩
   | (refine WCall.pf (hcheck_pf w hw) ?_ ?_ ?_ ?_;iterate 3 (solve|simp [Wtch.D,Hlth.D,c1,c2,c3,c4,c5,c8,ho]))
   | with_reducible refine aI ?_ ?_ ?_)
theorem hfails_code : cfun Tryz.prog [] 172 = some ⟨(.seq (qR 0 [oK 2 0]) (.seq (qR 1 [oK 3 0]) (.seq (.seq (qR 2 [oM 6 0,oH 7 6,oK 8 0]) (.block 0 (.loop (.seq (qR 3 [oX 9 (.bin .lss (.t 8) (.t 7))]) (.seq (.cond 9 .skip (.exit 0)) (.seq (.block 1 (.seq (qR 4 [oI 10 1 6 8,oL 11 1 10,oM 5 11]) (.seq (qR 5 [oM 12 5]) (.cond 12 (qR 6 [oM 13 3,oX 14 (.bin .add (.t 13) (kI 1)),oM 3 14]) .skip)))) (qR 7 [oX 15 (.bin .add (.t 8) (kI 1)),oM 8 15]))))))) (.seq (qR 8 [oM 16 3,oM 2 16]) .ret)))),[(.t 2)],17⟩ := by kernel_rfl
theorem hfails_pf (l : List Bool) (hl : l.length < 1000000) : PF Tryz.prog 172 [.rows 1 (l.map HB)] (I (l.count true : Nat)) := by
 refine pO hfails_code [0,2,3,5,6,7,8,9,12] [] fun B hBN hB0 => ?_
 simp
 refine W.loopS (fun i : Nat => ⟨[(8,I i),(7,I l.length),(6,D.rows 1 (l.map HB)),(3,I ((l.take i).count true : Nat)),(2,I 0)],[],0⟩)
  (fun n i => n = l.length - i ∧ i ≤ l.length) ?_ ?_
 ·exact ⟨_,0,(gr0 [] hB0 (by simp) (by simp) (.inr rfl)),rfl,by simp⟩
 ·rintro n i ⟨hn,hi⟩
  refine acode_sound [0,2,3,5,6,7,8,9,12] [] _ _ _ ?_
  by_cases hlt : i < l.length
  ·have hts : (l.take (i + 1)).count true = (l.take i).count true + if l[i] then 1 else 0 := by
    rw [List.take_succ_eq_append_getElem hlt,List.count_append]
    cases l[i] <;> simp
   have hc := List.count_le_length (a := true) (l := l.take i)
   have hll : (l.take i).length ≤ l.length := by simp;omega
   have i1 : InR ((i : Int) + 1) := inH (by omega) (by omega)
   have i2 : InR (((l.take i).count true : Nat) + (1 : Int)) := inH (by omega) (by omega)
   cases hv : l[i] with
   | true =>
    simp [hv] at hts
    simp [hlt,hv,HB,i1,i2]
    exact ⟨_,i + 1,(gr0 [] hB0 (by simp [hts]) (by simp [hts]) (.inr rfl)),by omega,rfl,by omega⟩
   | false =>
    simp [hv] at hts
    simp [hlt,hv,HB,i1,i2]
    exact ⟨_,i + 1,(gr0 [] hB0 (by simp [hts]) (by simp [hts]) (.inr rfl)),by omega,rfl,by omega⟩
  ·have hie : i = l.length := by omega
   subst hie
   simp
theorem cloneb_code : cfun Tryz.prog [] 78 = some ⟨(.seq (qR 0 [oX 2 (.mov (.k .nil0))]) (.seq (.seq (qR 1 [oM 3 0,oX 4 (.isnil false (.t 3))]) (.cond 4 (.seq (qR 2 [oX 2 (.mov (.k .nil0))]) .ret) .skip)) (.seq (qR 3 [oX 5 (.bslice 1 0 [qF] []),oM 6 0,oX 7 (.app 1 1 [qF] (.t 5) (.t 6)),oM 2 7]) .ret))),[(.t 2)],8⟩ := by kernel_rfl
theorem cloneb_hf (l : List Bool) (hl : l.length < 1000000) : HF Tryz.prog 78 [.rows 1 (l.map HB)] [] 0 (fun d H' nx' => (d = .nil0 ∧ l = [] ∧ H' = [] ∧ nx' = 0) ∨ (d = .own 1 ∧ H' = [(1,.row 1 (l.map HB))] ∧ nx' = 2)) := by
 have h2 : l.length ≤ 140737488355328 := by omega
 refine hO cloneb_code [0,2,4] [] fun B hBN hB0 => ?_
 simp
 refine ⟨?_,h2⟩
 rintro row (⟨_,rfl⟩ | ⟨_,rfl⟩) <;> rfl
theorem cloneb_pfn (l : List Bool) (hl : l.length < 1000000) : PFn Tryz.prog 78 [.rows 1 (l.map HB)] (.rows 1 (l.map HB)) := by
 have h2 : l.length ≤ 140737488355328 := by omega
 refine qO cloneb_code [0,2,4] [] fun B hBN hB0 => ?_
 simp
 refine ⟨?_,h2,?_⟩
 ·rintro row (⟨_,rfl⟩ | ⟨_,rfl⟩) <;> rfl
 ·rintro row (⟨_,rfl⟩ | ⟨_,rfl⟩) d hd <;> (simp [HB] at hd;subst hd;rfl)
def pushM (n : Nat) (m : List Bool) (b : Bool) : List Bool := (m ++ [b]).drop (m.length + 1 - n)
def noteH (w : Wtch) (h : Hlth) (failed : Bool) (now : Int) (may : Bool) : Hlth × Bool :=
 let m := pushM w.window.toNat h.marks failed
 if h.out = true ∨ may = false ∨ ((m.count true : Nat) : Int) < w.fails then (⟨m,h.out,h.til,h.times⟩,false)
 else (⟨[],true,now + min (w.hold * 2 ^ h.times.toNat) 500,min (h.times + 1) 10⟩,true)
theorem pow_bd (t : Nat) (h : t ≤ 10) : 1 ≤ (2 : Int) ^ t ∧ (2 : Int) ^ t ≤ 1024 := by
 have h1 : 1 ≤ 2 ^ t := Nat.one_le_two_pow
 have h2 : 2 ^ t ≤ 2 ^ 10 := Nat.pow_le_pow_right (by omega) h
 have e : ((2 ^ t : Nat) : Int) = (2 : Int) ^ t := by push_cast;rfl
 omega
theorem hnote_code : cfun Tryz.prog [] 144 = some ⟨(.seq (qR 0 [oB 5 0,oB 6 1,oX 10 (.alloc [.nil0,qF,qZ,qZ]),oX 11 (.mov (.k qF)),oK 12 0]) (.seq (.seq (qR 1 [oA 16 3 5,oA 17 4 6,oM 18 3,oX 19 (.call 109 [(.t 16),(.t 17),(.t 18)]),oM 13 19]) (.seq (qR 2 [oM 20 13,oX 21 (.bin .neq (.t 20) (kI 0))]) (.cond 21 (.seq (qR 3 [oX 22 (.build [.nil0,qF,qZ,qZ] []),oM 23 13,oS 4 10 22,oX 11 (.mov (.k qF)),oM 12 23]) .ret) .skip))) (.seq (qR 4 [oF 24 0 6,oL 25 1 24,oX 26 (.call 78 [(.t 25)]),oM 27 2,oX 28 (.bslice 1 1 [qF] [(0,(.t 27))]),oX 29 (.app 1 1 [qF] (.t 26) (.t 28)),oF 30 0 6,oS 1 30 29]) (.seq (.seq (qR 5 [oF 31 0 6,oL 32 1 31,oH 33 32,oF 34 0 5,oL 35 1 34,oX 36 (.bin .sub (.t 33) (.t 35)),oM 14 36]) (.seq (qR 6 [oM 37 14,oX 38 (.bin .gtr (.t 37) (kI 0))]) (.cond 38 (qR 7 [oF 39 0 6,oL 40 1 39,oM 41 14,oX 42 (.slc 1 (.t 40) (some (.t 41)) none none),oF 43 0 6,oS 1 43 42]) .skip))) (.seq (.seq (.draw 8 (qN (oF 44 1 6) (qN (oL 45 1 44) (qN (oM 46 45) (qN (oG 47 (.mov (.t 4)) 46 false) (qN (oG 48 (.not (.t 47)) 46 false) (qN (oX 49 (.pick (.t 46) (.k qT) (.t 48))) (qN (oM 50 49) (qN (oG 51 (.fad 0 (.t 6)) 50 false) (qN (oG 52 (.load false 1 (.t 51)) 50 false) (qN (oG 54 (.fad 1 (.t 5)) 50 false) (qN (oG 55 (.load false 1 (.t 54)) 50 false) (qN (oG 53 (.call 172 [(.t 52)]) 50 false) (qN (oG 56 (.bin .lss (.t 53) (.t 55)) 50 false) (qN (oX 57 (.pick (.t 50) (.k qT) (.t 56))) .done))))))))))))))) (.cond 57 (.seq (qR 9 [oA 58 4 6,oS 4 10 58,oX 11 (.mov (.k qF)),oK 12 0]) .ret) .skip)) (.seq (qR 10 [oF 59 2 5,oL 60 1 59,oF 61 3 6,oL 62 1 61,oX 63 (.bin .shl (.t 60) (.t 62)),oX 64 (.mn (.t 63) (kI 500)),oM 15 64]) (.seq (qR 11 [oM 65 3,oM 66 15,oX 67 (.bin .add (.t 65) (.t 66)),oF 68 3 6,oL 69 1 68,oX 70 (.bin .add (.t 69) (kI 1)),oX 71 (.mn (.t 70) (kI 10)),oX 72 (.build [.nil0,qF,qZ,qZ] [(1,(1,(.k qT))),(2,(1,(.t 67))),(3,(1,(.t 71)))]),oS 4 10 72,oX 11 (.mov (.k qT)),oK 12 0]) .ret))))))),[(.c 10 true 4),(.t 11),(.t 12)],73⟩ := by kernel_rfl
theorem hnote_pf (w : Wtch) (h : Hlth) (failed may : Bool) (now : Int) (hw : w.Ok) (hh : h.Ok w) (n0 : 0 ≤ now) (n1 : now ≤ 1099511627776) :
  PF Tryz.prog 144 [.agg w.D,.agg h.D,.bool failed,I now,.bool may] (.tup [.agg (noteH w h failed now may).1.D,.bool (noteH w h failed now may).2,I 0]) := by
 have hh' := hh
 obtain ⟨a1,a2,a3,a4,a5,a6⟩ := hh'
 have hw' := hw
 obtain ⟨w1,w2,w3,w4,w5,w6⟩ := hw'
 have hp := pow_bd h.times.toNat (by omega)
 have hm1 : w.hold * 2 ^ h.times.toNat ≤ 500 * 1024 := Int.mul_le_mul w6 hp.2 (by omega) (by omega)
 have hm0 : 0 ≤ w.hold * 2 ^ h.times.toNat := Int.mul_nonneg (by omega) (by omega)
 have hsh : min h.times.toNat 64 = h.times.toNat := by omega
 have hpush : (h.marks.length : Int) < w.window → pushM w.window.toNat h.marks failed = h.marks ++ [failed] := fun hl => by
  unfold pushM
  rw [show h.marks.length + 1 - w.window.toNat = 0 by omega];rfl
 have hcap : h.marks.length + 1 ≤ 140737488355328 := by omega
 have hpl : (pushM w.window.toNat h.marks failed).length < 1000000 := by unfold pushM;simp;omega
 have j1 : InR (1 - w.window) := inH (by omega) (by omega)
 have j2 : InR (h.marks.length + 1 - w.window) := inH (by omega) (by omega)
 have j3 : InR (w.hold * 2 ^ h.times.toNat) := inH (by omega) (by omega)
 have j4 : InR (now + min (w.hold * 2 ^ h.times.toNat) 500) := inH (by omega) (by omega)
 have j5 : InR (h.times + 1) := inH (by omega) (by omega)
 have k1 : ¬ w.window < 1 := by omega
 obtain ⟨pm,hpm⟩ : ∃ pm,pm = pushM w.window.toNat h.marks failed := ⟨_,rfl⟩
 rw [← hpm] at hpl
 obtain ⟨B',hB'⟩ : ∃ st : St,st = ⟨[(12,I 0),(11,.bool false),(10,.ptr 2 0),(6,.ptr 1 0),(5,.ptr 0 0),(4,.bool may),(3,I now)],[(2,.cells [.nil0,.bool false,I 0,I 0]),(1,.cells [.rows 1 (pm.map HB),.bool h.out,I h.til,I h.times]),(0,.cells [I w.window,I w.fails,I w.hold])],3⟩ := ⟨_,rfl⟩
 refine pO (h3 := by simp [Wtch.D,Hlth.D]) hnote_code [0,1,2,3,4,5,6,10,11,12,13,14,15,21,38,57] [7,8] fun B hBN hB0 => ?_
 simp [Wtch.D,Hlth.D]
 repeat' (first
  | simp [Wtch.D,Hlth.D]
  | refine ⟨wcS ?_,?_⟩
  | (refine WCall.pf (hopen_pf w h now hw hh n0 n1) ?_ ?_ ?_ ?_;iterate 3 (solve|simp [Wtch.D,Hlth.D]))
  | with_reducible refine aI ?_ ?_ ?_)
 refine WCall.hf0 (cloneb_hf h.marks (by omega)) (by simp) (by simp) (by simp) (by simp) ?_
 rintro d H' nx' (⟨rfl,h0,rfl,rfl⟩ | ⟨rfl,rfl,rfl⟩)
 ·have hpm1 : pm = [failed] := by
   rw [hpm,h0];unfold pushM
   rw [show ([] : List Bool).length + 1 - w.window.toNat = 0 by simp;omega];rfl
  simp [h0,j1,k1]
  refine W.gh (st1 := B') ((Gh.freeze [4]).trans ?_) ?_
  ·simp [freeze,hkeep,hdrop,fzS,fzR,fzV,fzC,fzO,hB']
   exact (gr0 [] hB0 (by simp [hpm1,HB]) (by simp [hpm1,HB]) (.inr rfl))
  rw [hB']
  refine acode_sound [0,1,2,3,4,5,6,10,11,12,13,14,15,21,38,57] [] _ _ _ ?_
  cases ho : h.out with
  | true =>
   simp [noteH,ho,← hpm,Hlth.D]
  | false =>
   cases may with
   | false =>
    simp [noteH,ho,← hpm,Hlth.D]
   | true =>
    by_cases hc : ((pm.count true : Nat) : Int) < w.fails
    ·skip
     repeat' (first
      | simp [ho,← hpm,Hlth.D,noteH,hc]
      | refine ⟨wcS ?_,?_⟩
      | (refine WCall.pf (hfails_pf pm hpl) ?_ ?_ ?_ ?_;iterate 3 (solve|simp [ho,← hpm,Hlth.D,noteH,hc]))
      | with_reducible refine aI ?_ ?_ ?_)
    ·skip
     repeat' (first
      | simp [ho,← hpm,Hlth.D,noteH,hc,j3,j4,j5,hsh,a2,IntKind.bits]
      | refine ⟨wcS ?_,?_⟩
      | (refine WCall.pf (hfails_pf pm hpl) ?_ ?_ ?_ ?_;iterate 3 (solve|simp [ho,← hpm,Hlth.D,noteH,hc,j3,j4,j5,hsh,a2,IntKind.bits]))
      | with_reducible refine aI ?_ ?_ ?_)
 ·by_cases hfull : w.window < h.marks.length + 1
  ·have hpm1 : pm.map HB = (h.marks.map HB ++ [[D.bool failed]]).drop (h.marks.length + 1 - w.window).toNat := by
    rw [hpm];unfold pushM
    rw [show h.marks.length + 1 - w.window.toNat = (h.marks.length + 1 - w.window).toNat by omega]
    simp [HB]
   have q1 : w.window ≤ (h.marks.length : Int) + 1 := by omega
   have q2 : (h.marks.length : Int) + 1 - w.window ≤ h.marks.length + 1 := by omega
   simp [hcap,j2,hfull]
   refine W.freeze [6] ?_
   simp [freeze,hkeep,hdrop,fzS,fzR,fzV,fzC,fzO]
   refine acode_sound [0,1,2,3,4,5,6,10,11,12,13,14,15,21,38,57] [7,8] _ _ _ ?_
   simp
   refine acode_sound [0,1,2,3,4,5,6,10,11,12,13,14,15,21,38,57] [8] _ _ _ ?_
   simp [q1,q2]
   refine W.gh (st1 := B') ((Gh.freeze []).trans ?_) ?_
   ·simp [freeze,hkeep,hdrop,fzS,fzR,fzV,fzC,fzO,hB']
    exact (gr0 [] hB0 (by simp [hpm1,show (h.marks.map HB ++ [[D.bool failed]]).take (h.marks.length + 1) = h.marks.map HB ++ [[D.bool failed]] from List.take_of_length_le (by simp)]) (by simp [hpm1,show (h.marks.map HB ++ [[D.bool failed]]).take (h.marks.length + 1) = h.marks.map HB ++ [[D.bool failed]] from List.take_of_length_le (by simp)]) (.inr rfl))
   rw [hB']
   refine acode_sound [0,1,2,3,4,5,6,10,11,12,13,14,15,21,38,57] [] _ _ _ ?_
   cases ho : h.out with
   | true =>
    simp [noteH,ho,← hpm,Hlth.D]
   | false =>
    cases may with
    | false =>
     simp [noteH,ho,← hpm,Hlth.D]
    | true =>
     by_cases hc : ((pm.count true : Nat) : Int) < w.fails
     ·skip
      repeat' (first
       | simp [ho,← hpm,Hlth.D,noteH,hc]
       | refine ⟨wcS ?_,?_⟩
       | (refine WCall.pf (hfails_pf pm hpl) ?_ ?_ ?_ ?_;iterate 3 (solve|simp [ho,← hpm,Hlth.D,noteH,hc]))
       | with_reducible refine aI ?_ ?_ ?_)
     ·skip
      repeat' (first
       | simp [ho,← hpm,Hlth.D,noteH,hc,j3,j4,j5,hsh,a2,IntKind.bits]
       | refine ⟨wcS ?_,?_⟩
       | (refine WCall.pf (hfails_pf pm hpl) ?_ ?_ ?_ ?_;iterate 3 (solve|simp [ho,← hpm,Hlth.D,noteH,hc,j3,j4,j5,hsh,a2,IntKind.bits]))
       | with_reducible refine aI ?_ ?_ ?_)
  ·have hpm1 : pm = h.marks ++ [failed] := by rw [hpm];exact hpush (by omega)
   simp [hcap,j2,hfull]
   refine W.gh (st1 := B') ((Gh.freeze [6]).trans ?_) ?_
   ·simp [freeze,hkeep,hdrop,fzS,fzR,fzV,fzC,fzO,hB']
    exact (gr0 [] hB0 (by simp [hpm1,HB]) (by simp [hpm1,HB]) (.inr rfl))
   rw [hB']
   refine acode_sound [0,1,2,3,4,5,6,10,11,12,13,14,15,21,38,57] [] _ _ _ ?_
   cases ho : h.out with
   | true =>
    simp [noteH,ho,← hpm,Hlth.D]
   | false =>
    cases may with
    | false =>
     simp [noteH,ho,← hpm,Hlth.D]
    | true =>
     by_cases hc : ((pm.count true : Nat) : Int) < w.fails
     ·skip
      repeat' (first
       | simp [ho,← hpm,Hlth.D,noteH,hc]
       | refine ⟨wcS ?_,?_⟩
       | (refine WCall.pf (hfails_pf pm hpl) ?_ ?_ ?_ ?_;iterate 3 (solve|simp [ho,← hpm,Hlth.D,noteH,hc]))
       | with_reducible refine aI ?_ ?_ ?_)
     ·skip
      repeat' (first
       | simp [ho,← hpm,Hlth.D,noteH,hc,j3,j4,j5,hsh,a2,IntKind.bits]
       | refine ⟨wcS ?_,?_⟩
       | (refine WCall.pf (hfails_pf pm hpl) ?_ ?_ ?_ ?_;iterate 3 (solve|simp [ho,← hpm,Hlth.D,noteH,hc,j3,j4,j5,hsh,a2,IntKind.bits]))
       | with_reducible refine aI ?_ ?_ ?_)
def backH (h : Hlth) (now : Int) : Hlth × Bool := if h.out = true ∧ h.til ≤ now then (⟨h.marks,false,0,h.times⟩,true) else (h,false)
theorem hback_code : cfun Tryz.prog [] 68 = some ⟨(.seq (qR 0 [oB 3 0,oB 4 1,oX 6 (.alloc [.nil0,qF,qZ,qZ]),oX 7 (.mov (.k qF)),oK 8 0]) (.seq (.seq (qR 1 [oA 10 3 3,oA 11 4 4,oM 12 2,oX 13 (.call 109 [(.t 10),(.t 11),(.t 12)]),oM 9 13]) (.seq (qR 2 [oM 14 9,oX 15 (.bin .neq (.t 14) (kI 0))]) (.cond 15 (.seq (qR 3 [oX 16 (.build [.nil0,qF,qZ,qZ] []),oM 17 9,oS 4 6 16,oX 7 (.mov (.k qF)),oM 8 17]) .ret) .skip))) (.seq (qR 4 [oF 18 0 4,oL 19 1 18,oX 20 (.call 78 [(.t 19)]),oF 21 0 4,oS 1 21 20]) (.seq (.seq (qR 5 [oF 22 1 4,oL 23 1 22,oX 24 (.not (.t 23)),oM 25 24,oG 26 (.fad 2 (.t 4)) 25 false,oG 27 (.load false 1 (.t 26)) 25 false,oG 28 (.mov (.t 2)) 25 false,oG 29 (.bin .gtr (.t 27) (.t 28)) 25 false,oX 30 (.pick (.t 25) (.k qT) (.t 29))]) (.cond 30 (.seq (qR 6 [oA 31 4 4,oS 4 6 31,oX 7 (.mov (.k qF)),oK 8 0]) .ret) .skip)) (.seq (qR 7 [oF 32 1 4,oY (.store 1 (.t 32) (.k qF)),oF 33 2 4,oY (.store 1 (.t 33) (kI 0))]) (.seq (qR 8 [oA 34 4 4,oS 4 6 34,oX 7 (.mov (.k qT)),oK 8 0]) .ret)))))),[(.c 6 true 4),(.t 7),(.t 8)],35⟩ := by kernel_rfl
theorem hback_pf (w : Wtch) (h : Hlth) (now : Int) (hw : w.Ok) (hh : h.Ok w) (n0 : 0 ≤ now) (n1 : now ≤ 1099511627776) :
  PF Tryz.prog 68 [.agg w.D,.agg h.D,I now] (.tup [.agg (backH h now).1.D,.bool (backH h now).2,I 0]) := by
 obtain ⟨a1,a2,a3,a4,a5,a6⟩ := id hh
 obtain ⟨w1,w2,w3,w4,w5,w6⟩ := id hw
 refine pO (h3 := by simp [Wtch.D,Hlth.D]) hback_code [0,1,2,3,4,6,7,8,9,15,30] [] fun B hBN hB0 => ?_
 simp [Wtch.D,Hlth.D]
 cases ho : h.out with
 | false =>
  repeat' (first
   | simp [Wtch.D,Hlth.D,ho,backH]
   | refine ⟨wcS ?_,?_⟩
   | (refine WCall.pf (hopen_pf w h now hw hh n0 n1) ?_ ?_ ?_ ?_;iterate 3 (solve|simp [Wtch.D,Hlth.D,ho,backH]))
   | (refine WCall.pfn (cloneb_pfn h.marks (by omega)) ?_ ?_ ?_;iterate 2 (solve|simp [Wtch.D,Hlth.D,ho,backH]))
   | with_reducible refine aI ?_ ?_ ?_)
 | true =>
  by_cases ht : h.til ≤ now
  ·have ht2 : ¬ now < h.til := by omega
   repeat' (first
    | simp [Wtch.D,Hlth.D,ho,ht,ht2,backH]
    | refine ⟨wcS ?_,?_⟩
    | (refine WCall.pf (hopen_pf w h now hw hh n0 n1) ?_ ?_ ?_ ?_;iterate 3 (solve|simp [Wtch.D,Hlth.D,ho,ht,ht2,backH]))
    | (refine WCall.pfn (cloneb_pfn h.marks (by omega)) ?_ ?_ ?_;iterate 2 (solve|simp [Wtch.D,Hlth.D,ho,ht,ht2,backH]))
    | with_reducible refine aI ?_ ?_ ?_)
  ·have ht2 : now < h.til := by omega
   repeat' (first
    | simp [Wtch.D,Hlth.D,ho,ht,ht2,backH]
    | refine ⟨wcS ?_,?_⟩
    | (refine WCall.pf (hopen_pf w h now hw hh n0 n1) ?_ ?_ ?_ ?_;iterate 3 (solve|simp [Wtch.D,Hlth.D,ho,ht,ht2,backH]))
    | (refine WCall.pfn (cloneb_pfn h.marks (by omega)) ?_ ?_ ?_;iterate 2 (solve|simp [Wtch.D,Hlth.D,ho,ht,ht2,backH]))
    | with_reducible refine aI ?_ ?_ ?_)
theorem pushM_len (n : Nat) (m : List Bool) (b : Bool) (h : m.length ≤ n) (h1 : 1 ≤ n) : (pushM n m b).length = min (m.length + 1) n := by unfold pushM;simp;omega
theorem watch_code : cfun Tryz.prog [] 49 = some ⟨(.seq (qR 0 [oX 6 (.alloc [qZ,qZ,qZ])]) (.seq (qR 1 [oM 8 0,oX 9 (.call 31 [(.t 8),(kI 16)]),oX 10 (.bin .add (kI 1) (.t 9)),oM 7 10]) (.seq (qR 2 [oM 11 7,oM 12 1,oM 13 7,oX 14 (.call 31 [(.t 12),(.t 13)]),oX 15 (.bin .add (kI 1) (.t 14)),oM 16 2,oX 17 (.call 31 [(.t 16),(kI 500)]),oX 18 (.bin .add (kI 1) (.t 17)),oX 19 (.build [qZ,qZ,qZ] [(0,(1,(.t 11))),(1,(1,(.t 15))),(2,(1,(.t 18)))]),oS 3 6 19]) .ret))),[(.c 6 true 3)],20⟩ := by kernel_rfl
def watchOf (window fails hold : Int) : Wtch := ⟨1 + pickedZ window 16,1 + pickedZ fails (1 + pickedZ window 16),1 + pickedZ hold 500⟩
theorem watchOf_ok (window fails hold : Int) : (watchOf window fails hold).Ok := by
 have h1 := pickedZ_range window 16 (by omega)
 have h2 := pickedZ_range fails (1 + pickedZ window 16) (by omega)
 have h3 := pickedZ_range hold 500 (by omega)
 unfold Wtch.Ok watchOf
 simp only
 omega
theorem watch_pf (window fails hold : Int) (h1 : InR window) (h2 : InR fails) (h3 : InR hold) : PF Tryz.prog 49 [I window,I fails,I hold] (.agg (watchOf window fails hold).D) := by
 have r1 := pickedZ_range window 16 (by omega)
 obtain ⟨n,hn⟩ : ∃ n,n = 1 + pickedZ window 16 := ⟨_,rfl⟩
 have r2 := pickedZ_range fails n (by omega)
 have r3 := pickedZ_range hold 500 (by omega)
 have i1 : InR n := inH (by omega) (by omega)
 have i2 : InR (1 + pickedZ fails n) := inH (by omega) (by omega)
 have i3 : InR (1 + pickedZ hold 500) := inH (by omega) (by omega)
 refine pO watch_code [0,1,2,6,7] [] fun B hBN hB0 => ?_
 simp
 repeat' (first
  | simp [← hn,i1]
  | refine ⟨wcS ?_,?_⟩
  | (refine WCall.pf (picked_pf window 16 h1 (by omega)) ?_ ?_ ?_ ?_;iterate 3 (solve|simp [← hn,i1]))
  | with_reducible refine aI ?_ ?_ ?_)
 repeat' (first
  | simp [i2,i3,watchOf,← hn,Wtch.D]
  | refine ⟨wcS ?_,?_⟩
  | (refine WCall.pf (picked_pf fails n h2 (by omega)) ?_ ?_ ?_ ?_;iterate 3 (solve|simp [i2,i3,watchOf,← hn,Wtch.D]))
  | (refine WCall.pf (picked_pf hold 500 h3 (by omega)) ?_ ?_ ?_ ?_;iterate 3 (solve|simp [i2,i3,watchOf,← hn,Wtch.D]))
  | with_reducible refine aI ?_ ?_ ?_)
structure Load where
 backend : Int
 weight : Int
 flows : Int
def Load.D (l : Load) : List D := [I l.backend,I l.weight,I l.flows]
def mayL : Int → List Load → Prop
 | _,[] => True
 | p,x :: t => (p < x.backend ∧ x.backend < 12 ∧ 0 ≤ x.weight ∧ x.weight ≤ 8 ∧ 0 ≤ x.flows ∧ x.flows ≤ 40) ∧ mayL x.backend t
theorem inr {z : Int} (h1 : -9223372036854775808 ≤ z) (h2 : z ≤ 9223372036854775807) : InR z := ⟨h1,h2⟩
def factorB (num den : Int) : Bool := decide (1 ≤ den ∧ den ≤ num ∧ num ≤ 20)
theorem factor_code : cfun Tryz.prog [] 42 = some ⟨(.seq (qR 0 [oX 4 (.mov (.k qF))]) (.seq (qR 1 [oM 5 1,oX 6 (.bin .geq (.t 5) (kI 1)),oM 7 6,oG 8 (.mov (.t 0)) 7 true,oG 9 (.mov (.t 1)) 7 true,oG 10 (.bin .geq (.t 8) (.t 9)) 7 true,oX 11 (.pick (.t 7) (.t 10) (.k qF)),oM 12 11,oG 13 (.mov (.t 0)) 12 true,oG 14 (.bin .leq (.t 13) (kI 20)) 12 true,oX 15 (.pick (.t 12) (.t 14) (.k qF)),oM 4 15]) .ret)),[(.t 4)],16⟩ := by kernel_rfl
theorem factor_pf (num den : Int) : PF Tryz.prog 42 [I num,I den] (.bool (factorB num den)) := by
 refine pO factor_code [0,1,4] [] fun B hBN hB0 => ?_
 simp [factorB]
 by_cases h1 : 1 ≤ den <;> by_cases h2 : den ≤ num <;> by_cases h3 : num ≤ 20 <;> simp [h1,h2,h3]
def capZ (num den flows weight total : Int) : Int := (num * (flows + 1) * weight + den * total - 1) / (den * total)
theorem cap_code : cfun Tryz.prog [] 24 = some ⟨(.seq (qR 0 [oK 10 0,oK 11 0]) (.seq (.seq (qR 1 [oM 14 0,oM 15 1,oX 16 (.call 42 [(.t 14),(.t 15)]),oX 17 (.not (.t 16)),oM 18 17,oG 19 (.mov (.t 2)) 18 false,oG 20 (.bin .lss (.t 19) (kI 0)) 18 false,oX 21 (.pick (.t 18) (.k qT) (.t 20)),oM 22 21,oG 23 (.mov (.t 2)) 22 false,oG 24 (.bin .gtr (.t 23) (kI 40)) 22 false,oX 25 (.pick (.t 22) (.k qT) (.t 24)),oM 26 25,oG 27 (.mov (.t 3)) 26 false,oG 28 (.bin .lss (.t 27) (kI 1)) 26 false,oX 29 (.pick (.t 26) (.k qT) (.t 28)),oM 30 29,oG 31 (.mov (.t 4)) 30 false,oG 32 (.mov (.t 3)) 30 false,oG 33 (.bin .lss (.t 31) (.t 32)) 30 false,oX 34 (.pick (.t 30) (.k qT) (.t 33)),oM 35 34,oG 36 (.mov (.t 4)) 35 false,oG 37 (.bin .gtr (.t 36) (kI 96)) 35 false,oX 38 (.pick (.t 35) (.k qT) (.t 37))]) (.cond 38 (.seq (qR 2 [oK 10 0,oK 11 2]) .ret) .skip)) (.seq (qR 3 [oM 39 0,oM 40 2,oX 41 (.bin .add (.t 40) (kI 1)),oX 42 (.bin .mul (.t 39) (.t 41)),oM 43 3,oX 44 (.bin .mul (.t 42) (.t 43)),oM 45 1,oM 46 4,oX 47 (.bin .mul (.t 45) (.t 46)),oM 12 44,oM 13 47]) (.seq (qR 4 [oM 48 12,oM 49 13,oX 50 (.bin .add (.t 48) (.t 49)),oX 51 (.bin .sub (.t 50) (kI 1)),oM 52 13,oX 53 (.bin .quo (.t 51) (.t 52)),oM 10 53,oK 11 0]) .ret)))),[(.t 10),(.t 11)],54⟩ := by kernel_rfl
theorem cap_pf (num den flows weight total : Int) (hf : factorB num den = true) (h1 : 0 ≤ flows) (h2 : flows ≤ 40) (h3 : 1 ≤ weight) (h4 : weight ≤ total) (h5 : total ≤ 96) :
  PF Tryz.prog 24 [I num,I den,I flows,I weight,I total] (.tup [I (capZ num den flows weight total),I 0]) := by
 have hf' := of_decide_eq_true hf
 refine pO cap_code [0,1,2,3,4,10,11,12,13,38] [] fun B hBN hB0 => ?_
 have g1 : ¬ flows < 0 := by omega
 have g2 : ¬ 40 < flows := by omega
 have g3 : ¬ weight < 1 := by omega
 have g4 : ¬ total < weight := by omega
 have g5 : ¬ 96 < total := by omega
 simp
 refine WCall.pf (factor_pf num den) (by simp) (by simp) (by simp) ?_
 have b1 : 0 ≤ num * (flows + 1) ∧ num * (flows + 1) ≤ 20 * 41 := ⟨Int.mul_nonneg (by omega) (by omega),Int.mul_le_mul (by omega) (by omega) (by omega) (by omega)⟩
 have b2 : 0 ≤ num * (flows + 1) * weight ∧ num * (flows + 1) * weight ≤ 20 * 41 * 96 := ⟨Int.mul_nonneg b1.1 (by omega),Int.mul_le_mul b1.2 (by omega) (by omega) (by omega)⟩
 have b3 : 1 ≤ den * total := Int.mul_le_mul (a := 1) (b := 1) (by omega) (by omega) (by omega) (by omega)
 have b4 : den * total ≤ 20 * 96 := Int.mul_le_mul (by omega) (by omega) (by omega) (by omega)
 have b5 : 0 ≤ capZ num den flows weight total ∧ capZ num den flows weight total ≤ 20 * 41 * 96 + 20 * 96 := by
  unfold capZ
  refine ⟨Int.ediv_nonneg (by omega) (by omega),Int.le_trans (Int.ediv_le_self _ (by omega)) (by omega)⟩
 have i1 : InR (flows + 1) := inr (by omega) (by omega)
 have i2 : InR (num * (flows + 1)) := inr (by omega) (by omega)
 have i3 : InR (num * (flows + 1) * weight) := inr (by omega) (by omega)
 have i4 : InR (den * total) := inr (by omega) (by omega)
 have i5 : InR (num * (flows + 1) * weight + den * total) := inr (by omega) (by omega)
 have i6 : InR (num * (flows + 1) * weight + den * total - 1) := inr (by omega) (by omega)
 have i7 : InR (capZ num den flows weight total) := inr (by omega) (by omega)
 have i8 : 0 ≤ num * (flows + 1) * weight + den * total - 1 := by omega
 have i9 : 1 ≤ num * (flows + 1) * weight + den * total := by omega
 have i10 : 0 < den * total := by omega
 unfold capZ at i7
 simp [hf,g1,g2,g3,g4,g5,i1,i2,i3,i4,i5,i6,i7,i8,i9,i10,capZ]
theorem may_code : cfun Tryz.prog [] 102 = some ⟨(.seq (qR 0 [oX 2 (.mov (.k qF))]) (.seq (.seq (qR 1 [oM 6 0,oH 7 6,oX 8 (.bin .gtr (.t 7) (kI 12))]) (.cond 8 (.seq (qR 2 [oX 2 (.mov (.k qF))]) .ret) .skip)) (.seq (qR 3 [oK 3 (-1)]) (.seq (.seq (qR 4 [oM 9 0,oH 10 9,oK 11 0]) (.block 0 (.loop (.seq (qR 5 [oX 12 (.bin .lss (.t 11) (.t 10))]) (.seq (.cond 12 .skip (.exit 0)) (.seq (.block 1 (.seq (qR 6 [oI 13 3 9 11,oA 14 3 13,oX 5 (.alloc [qZ,qZ,qZ]),oS 3 5 14]) (.seq (.seq (qR 7 [oF 15 0 5,oL 16 1 15,oM 17 3,oX 18 (.bin .leq (.t 16) (.t 17)),oM 19 18,oG 20 (.fad 0 (.t 5)) 19 false,oG 21 (.load false 1 (.t 20)) 19 false,oG 22 (.bin .geq (.t 21) (kI 12)) 19 false,oX 23 (.pick (.t 19) (.k qT) (.t 22)),oM 24 23,oG 25 (.fad 1 (.t 5)) 24 false,oG 26 (.load false 1 (.t 25)) 24 false,oG 27 (.bin .lss (.t 26) (kI 0)) 24 false,oX 28 (.pick (.t 24) (.k qT) (.t 27)),oM 29 28,oG 30 (.fad 1 (.t 5)) 29 false,oG 31 (.load false 1 (.t 30)) 29 false,oG 32 (.bin .gtr (.t 31) (kI 8)) 29 false,oX 33 (.pick (.t 29) (.k qT) (.t 32)),oM 34 33,oG 35 (.fad 2 (.t 5)) 34 false,oG 36 (.load false 1 (.t 35)) 34 false,oG 37 (.bin .lss (.t 36) (kI 0)) 34 false,oX 38 (.pick (.t 34) (.k qT) (.t 37)),oM 39 38,oG 40 (.fad 2 (.t 5)) 39 false,oG 41 (.load false 1 (.t 40)) 39 false,oG 42 (.bin .gtr (.t 41) (kI 40)) 39 false,oX 43 (.pick (.t 39) (.k qT) (.t 42))]) (.cond 43 (.seq (qR 8 [oX 2 (.mov (.k qF))]) .ret) .skip)) (qR 9 [oF 44 0 5,oL 45 1 44,oM 3 45])))) (qR 10 [oX 46 (.bin .add (.t 11) (kI 1)),oM 11 46]))))))) (.seq (qR 11 [oX 2 (.mov (.k qT))]) .ret))))),[(.t 2)],47⟩ := by kernel_rfl
theorem may_pf (l : List Load) (h12 : l.length ≤ 12) (hl : mayL (-1) l) : PF Tryz.prog 102 [.rows 3 (l.map Load.D)] (.bool true) := by
 refine pO may_code [0,2,3,5,8,9,10,11,12,43] [] fun B hBN hB0 => ?_
 have g1 : ¬ (12 : Int) < l.length := by omega
 simp [g1]
 refine W.loopS (fun y : Nat × Int => ⟨[(11,I y.1),(10,I l.length),(9,D.rows 3 (l.map Load.D)),(3,I y.2),(2,.bool false),(0,D.rows 3 (l.map Load.D))],[],0⟩)
  (fun n y => n = l.length - y.1 ∧ y.1 ≤ l.length ∧ mayL y.2 (l.drop y.1)) ?_ ?_
 ·exact ⟨_,(0,-1),(gr0 [] hB0 (by simp) (by simp) (.inr rfl)),rfl,by simp,by simpa using hl⟩
 ·rintro n ⟨i,p⟩ ⟨hn,hi,hm⟩
  simp only at hn hi hm
  refine acode_sound [0,2,3,5,8,9,10,11,12,43] [] _ _ _ ?_
  by_cases hlt : i < l.length
  ·obtain ⟨x,hx⟩ : ∃ x,x = l[i] := ⟨_,rfl⟩
   rw [List.drop_eq_getElem_cons hlt,← hx] at hm
   obtain ⟨⟨a1,a2,a3,a4,a5,a6⟩,hm'⟩ := hm
   have c1 : ¬ x.backend ≤ p := by omega
   have c2 : ¬ 12 ≤ x.backend := by omega
   have c3 : ¬ x.weight < 0 := by omega
   have c4 : ¬ 8 < x.weight := by omega
   have c5 : ¬ x.flows < 0 := by omega
   have c6 : ¬ 40 < x.flows := by omega
   have hi1 : InR ((i : Int) + 1) := inr (by omega) (by omega)
   simp [hlt,← hx,Load.D,c1,c2,c3,c4,c5,c6,hi1]
   exact ⟨_,(i + 1,x.backend),(gr0 [] hB0 (by simp [Load.D]) (by simp [Load.D]) (.inr rfl)),by omega,rfl,by simp only;omega,hm'⟩
  ·simp [hlt]
def capOf (num den flows total : Int) (x : Load) : Int := if 0 < x.weight then capZ num den flows x.weight total else 0
def sumW (l : List Load) : Int := (l.map Load.weight).sum
def capsOf (l : List Load) (num den flows : Int) : List Int := l.map (capOf num den flows (sumW l))
theorem mayL_mem : ∀ {p : Int} {l : List Load},mayL p l → ∀ x ∈ l,p < x.backend ∧ x.backend < 12 ∧ 0 ≤ x.weight ∧ x.weight ≤ 8 ∧ 0 ≤ x.flows ∧ x.flows ≤ 40
 | _,[],_,x,hx => by cases hx
 | p,y :: t,h,x,hx => by
  rcases List.mem_cons.1 hx with rfl | hx
  ·exact h.1
  ·have := mayL_mem h.2 x hx
   have := h.1
   omega
theorem sumW_bd : ∀ {l : List Load},(∀ x ∈ l,0 ≤ x.weight ∧ x.weight ≤ 8) → 0 ≤ sumW l ∧ sumW l ≤ 8 * l.length
 | [],_ => by simp [sumW]
 | x :: t,h => by
  have h1 := h x (by simp)
  have h2 := sumW_bd (l := t) fun y hy => h y (List.mem_cons_of_mem _ hy)
  simp only [sumW,List.map_cons,List.sum_cons,List.length_cons] at h2 ⊢
  omega
theorem sumW_mem : ∀ {l : List Load},(∀ x ∈ l,0 ≤ x.weight ∧ x.weight ≤ 8) → ∀ x ∈ l,x.weight ≤ sumW l
 | [],_,x,hx => by cases hx
 | y :: t,h,x,hx => by
  have h1 := h y (by simp)
  have h2 := sumW_bd (l := t) fun y hy => h y (List.mem_cons_of_mem _ hy)
  simp only [sumW,List.map_cons,List.sum_cons] at h2 ⊢
  rcases List.mem_cons.1 hx with rfl | hx
  ·omega
  ·have := sumW_mem (l := t) (fun y hy => h y (List.mem_cons_of_mem _ hy)) x hx
   simp only [sumW] at this
   omega
theorem sumW_take (l : List Load) (i : Nat) (h : i < l.length) : sumW (l.take (i + 1)) = sumW (l.take i) + l[i].weight := by
 unfold sumW
 rw [List.take_succ_eq_append_getElem h,List.map_append,List.sum_append]
 simp
theorem set_fill {α β : Type} (f : α → β) (l : List α) (z : β) (i : Nat) (h : i < l.length) : ((l.map f).take i ++ List.replicate (l.length - i) z).set i (f l[i]) = (l.map f).take (i + 1) ++ List.replicate (l.length - (i + 1)) z := by
 have hl : ((l.map f).take i).length = i := by simp;omega
 rw [List.set_append_right _ _ (by omega),hl,Nat.sub_self,show l.length - i = (l.length - (i + 1)) + 1 by omega,List.replicate_succ,List.set_cons_zero,List.take_succ_eq_append_getElem (by simpa using h)]
 simp
theorem keep_fill {α β : Type} (f : α → β) (l : List α) (z : β) (i : Nat) (h : i < l.length) (hz : f l[i] = z) : (l.map f).take i ++ List.replicate (l.length - i) z = (l.map f).take (i + 1) ++ List.replicate (l.length - (i + 1)) z := by
 rw [show l.length - i = (l.length - (i + 1)) + 1 by omega,List.replicate_succ,List.take_succ_eq_append_getElem (by simpa using h)]
 simp [hz]
def capsRes (l : List Load) (num den flows : Int) : List D := if factorB num den = true ∧ 0 ≤ flows ∧ flows ≤ 40 then [.rows 1 ((capsOf l num den flows).map fun c => [I c]),I 0] else [.rows 1 [],I 2]
theorem caps_code : cfun Tryz.prog [] 61 = some ⟨(.seq (qR 0 [oX 8 (.mov (.k .nil0)),oK 9 0]) (.seq (.seq (qR 1 [oM 16 0,oX 17 (.call 102 [(.t 16)]),oX 18 (.not (.t 17))]) (.cond 18 (.seq (qR 2 [oX 8 (.mov (.k .nil0)),oK 9 6]) .ret) .skip)) (.seq (.seq (qR 3 [oM 19 1,oM 20 2,oX 21 (.call 42 [(.t 19),(.t 20)]),oX 22 (.not (.t 21)),oM 23 22,oG 24 (.mov (.t 3)) 23 false,oG 25 (.bin .lss (.t 24) (kI 0)) 23 false,oX 26 (.pick (.t 23) (.k qT) (.t 25)),oM 27 26,oG 28 (.mov (.t 3)) 27 false,oG 29 (.bin .gtr (.t 28) (kI 40)) 27 false,oX 30 (.pick (.t 27) (.k qT) (.t 29))]) (.cond 30 (.seq (qR 4 [oX 8 (.mov (.k .nil0)),oK 9 2]) .ret) .skip)) (.seq (qR 5 [oK 10 0]) (.seq (.seq (qR 6 [oM 31 0,oH 32 31,oK 33 0]) (.block 0 (.loop (.seq (qR 7 [oX 34 (.bin .lss (.t 33) (.t 32))]) (.seq (.cond 34 .skip (.exit 0)) (.seq (.block 1 (.seq (qR 8 [oI 35 3 31 33,oA 36 3 35,oX 12 (.alloc [qZ,qZ,qZ]),oS 3 12 36]) (qR 9 [oM 37 10,oF 38 1 12,oL 39 1 38,oX 40 (.bin .add (.t 37) (.t 39)),oM 10 40]))) (qR 10 [oX 41 (.bin .add (.t 33) (kI 1)),oM 33 41]))))))) (.seq (qR 11 [oM 42 0,oH 43 42,oX 44 (.mks 1 8 [qZ] (.t 43) (.t 43)),oM 13 44]) (.seq (.seq (qR 12 [oM 45 0,oH 46 45,oK 47 0]) (.block 2 (.loop (.seq (qR 13 [oX 48 (.bin .lss (.t 47) (.t 46))]) (.seq (.cond 48 .skip (.exit 2)) (.seq (.block 3 (.seq (qR 14 [oM 49 47,oI 50 3 45 47,oA 51 3 50,oX 15 (.alloc [qZ,qZ,qZ]),oM 14 49,oS 3 15 51]) (.seq (qR 15 [oF 52 1 15,oL 53 1 52,oX 54 (.bin .gtr (.t 53) (kI 0))]) (.cond 54 (qR 16 [oM 56 13,oM 57 14,oM 58 1,oM 59 2,oM 60 3,oF 61 1 15,oL 62 1 61,oM 63 10,oX 64 (.call 24 [(.t 58),(.t 59),(.t 60),(.t 62),(.t 63)]),oM 55 64,oE 65 55 0,oE 66 55 1,oI 67 1 56 57,oS 1 67 65]) .skip)))) (qR 17 [oX 68 (.bin .add (.t 47) (kI 1)),oM 47 68]))))))) (.seq (qR 18 [oM 69 13,oM 8 69,oK 9 0]) .ret)))))))),[(.t 8),(.t 9)],70⟩ := by kernel_rfl
theorem caps_pfn (l : List Load) (num den flows : Int) (h12 : l.length ≤ 12) (hl : mayL (-1) l) : PFn Tryz.prog 61 [.rows 3 (l.map Load.D),I num,I den,I flows] (.tup (capsRes l num den flows)) := by
 have hmem := mayL_mem hl
 have hw : ∀ x ∈ l,0 ≤ x.weight ∧ x.weight ≤ 8 := fun x hx => by have := hmem x hx;omega
 refine qO caps_code [0,1,2,3,8,9,10,12,13,14,15,18,30,31,32,33,34,45,46,47,48,54] [] fun B hBN hB0 => ?_
 simp
 refine WCall.pf (may_pf l h12 hl) (by simp) (by simp) (by simp) ?_
 simp
 refine WCall.pf (factor_pf num den) (by simp) (by simp) (by simp) ?_
 by_cases hf : factorB num den = true ∧ 0 ≤ flows ∧ flows ≤ 40
 case neg =>
  by_cases h1 : factorB num den = true
  ·by_cases h2 : flows < 0
   ·have h4 : ¬ (0 ≤ flows ∧ flows ≤ 40) := by omega
    simp [h1,h2,capsRes,h4]
   ·have h3 : 40 < flows := by have := hf;simp only [h1,true_and] at this;omega
    have h4 : ¬ (0 ≤ flows ∧ flows ≤ 40) := by omega
    simp [h1,h2,h3,capsRes,h4]
  ·simp [h1,capsRes,hf]
 obtain ⟨hf1,hf2,hf3⟩ := hf
 have g1 : ¬ flows < 0 := by omega
 have g2 : ¬ 40 < flows := by omega
 simp [hf1,g1,g2]
 refine W.loopS (fun i : Nat => ⟨[(33,I i),(32,I l.length),(31,D.rows 3 (l.map Load.D)),(10,I (sumW (l.take i))),(9,I 0),(8,.nil0),(3,I flows),(2,I den),(1,I num),(0,D.rows 3 (l.map Load.D))],[],0⟩)
  (fun n i => n = l.length - i ∧ i ≤ l.length) ?_ ?_
 ·exact ⟨_,0,(Gh.ren [] (by simp [hB0]) (by simp [hB0] <;> decide) (by simp [sumW]) (by simp [sumW]) (.inr rfl)),rfl,by simp⟩
 ·rintro n i ⟨hn,hi⟩
  refine acode_sound [0,1,2,3,8,9,10,12,13,14,15,18,30,31,32,33,34,45,46,47,48,54] [] _ _ _ ?_
  by_cases hlt : i < l.length
  ·obtain ⟨x,hx⟩ : ∃ x,x = l[i] := ⟨_,rfl⟩
   have hxm : x ∈ l := hx ▸ List.getElem_mem hlt
   have hb := hw x hxm
   have hs := sumW_take l i hlt
   have hsb := sumW_bd (l := l.take i) fun y hy => hw y (List.mem_of_mem_take hy)
   have hll : (l.take i).length ≤ 12 := by simp;omega
   have hi1 : InR ((i : Int) + 1) := inr (by omega) (by omega)
   have hi2 : InR (sumW (l.take i) + x.weight) := inr (by omega) (by omega)
   simp [hlt,← hx,Load.D,hi1,hi2]
   exact ⟨_,i + 1,(Gh.ren [] (by simp [hB0]) (by simp [hB0] <;> decide) (by simp [Load.D,hs,← hx]) (by simp [Load.D,hs,← hx]) (.inr rfl)),by omega,rfl,by omega⟩
  ·have hie : i = l.length := by omega
   subst hie
   simp
   have hk : (8 : Int) * l.length ≤ 281474976710656 := by omega
   refine ⟨⟨by omega,by omega⟩,?_⟩
   refine W.loopS (fun y : Nat × List Int => ⟨[(47,I y.1),(46,I l.length),(45,D.rows 3 (l.map Load.D)),(13,.own 0),(10,I (sumW l)),(9,I 0),(8,.nil0),(3,I flows),(2,I den),(1,I num),(0,D.rows 3 (l.map Load.D))],[(0,.row 1 (y.2.map fun c => [I c]))],1⟩)
    (fun n y => n = l.length - y.1 ∧ y.1 ≤ l.length ∧ y.2 = (l.map (capOf num den flows (sumW l))).take y.1 ++ List.replicate (l.length - y.1) 0) ?_ ?_
   ·exact ⟨_,(0,List.replicate l.length 0),(Gh.ren [] (by simp [hB0]) (by simp [hB0] <;> decide) (by simp) (by simp) (.inr rfl)),rfl,by simp,by simp⟩
   ·rintro n ⟨i,cs⟩ ⟨hn,hi,hcs⟩
    simp only at hn hi hcs
    refine acode_sound [0,1,2,3,8,9,10,12,13,14,15,18,30,31,32,33,34,45,46,47,48,54] [] _ _ _ ?_
    by_cases hlt : i < l.length
    ·obtain ⟨x,hx⟩ : ∃ x,x = l[i] := ⟨_,rfl⟩
     have hxm : x ∈ l := hx ▸ List.getElem_mem hlt
     have hb := hw x hxm
     have hsm := sumW_mem hw x hxm
     have hsb := sumW_bd hw
     have hcl : cs.length = l.length := by rw [hcs];simp;omega
     have hlt2 : i < cs.length := by omega
     have hi1 : InR ((i : Int) + 1) := inr (by omega) (by omega)
     by_cases hw0 : 0 < x.weight
     ·simp [hlt,← hx,Load.D,hw0]
      refine WCall.pf (cap_pf num den flows x.weight (sumW l) hf1 hf2 hf3 (by omega) hsm (by omega)) (by simp) (by simp [Load.D]) (by simp [Load.D]) ?_
      simp [hlt,hlt2,hi1]
      refine ⟨_,(i + 1,cs.set i (capZ num den flows x.weight (sumW l))),(Gh.ren [] (by simp [hB0]) (by simp [hB0] <;> decide) (by simp [Load.D,List.map_set]) (by simp [Load.D,List.map_set]) (.inr rfl)),by omega,rfl,by omega,?_⟩
      have := set_fill (capOf num den flows (sumW l)) l 0 i hlt
      rw [← hx] at this
      simp only [hcs,← this]
      simp [capOf,hw0]
     ·simp [hlt,← hx,Load.D,hw0,hi1]
      refine ⟨_,(i + 1,cs),(Gh.ren [] (by simp [hB0]) (by simp [hB0] <;> decide) (by simp [Load.D]) (by simp [Load.D]) (.inr rfl)),by omega,rfl,by omega,?_⟩
      have := keep_fill (capOf num den flows (sumW l)) l 0 i hlt (by rw [← hx];simp [capOf,hw0])
      simp only [hcs,this]
    ·have hie : i = l.length := by omega
     subst hie
     rw [List.take_of_length_le (by simp)] at hcs
     simp [hlt,capsRes,hf1,hf2,hf3,hcs,capsOf]
theorem caps_pf (l : List Load) (num den flows : Int) (h12 : l.length ≤ 12) (hl : mayL (-1) l) : PF Tryz.prog 61 [.rows 3 (l.map Load.D),I num,I den,I flows] (.tup (capsRes l num den flows)) := (caps_pfn l num den flows h12 hl).pf
structure Budget where
 num : Int
 den : Int
 burst : Int
def Budget.D (b : Budget) : List D := [I b.num,I b.den,I b.burst]
def Budget.Ok (b : Budget) : Prop := (((((0 ≤ b.num ∧ b.num ≤ 20) ∧ 1 ≤ b.den) ∧ b.den ≤ 20) ∧ 0 ≤ b.burst) ∧ b.burst ≤ 20)
instance (b : Budget) : Decidable b.Ok := by unfold Budget.Ok;infer_instance
def Budget.full (b : Budget) : Int := b.burst * b.den
theorem Budget.Ok.full {b : Budget} (h : b.Ok) : 0 ≤ b.full ∧ b.full ≤ 400 := by
 obtain ⟨⟨⟨⟨⟨h1,h2⟩,h3⟩,h4⟩,h5⟩,h6⟩ := h
 unfold Budget.full
 refine ⟨Int.mul_nonneg h5 (by omega),Int.le_trans (Int.mul_le_mul_of_nonneg_right h6 (by omega)) (by omega)⟩
theorem inR {z : Int} (h1 : -9223372036854775808 ≤ z) (h2 : z ≤ 9223372036854775807) : InR z := ⟨h1,h2⟩
theorem bcheck_code : cfun Tryz.prog [] 62 = some ⟨(.seq (qR 0 [oB 1 0,oK 2 0]) (.seq (.seq (qR 1 [oF 3 0 1,oL 4 1 3,oX 5 (.bin .lss (.t 4) (kI 0)),oM 6 5,oG 7 (.fad 0 (.t 1)) 6 false,oG 8 (.load false 1 (.t 7)) 6 false,oG 9 (.bin .gtr (.t 8) (kI 20)) 6 false,oX 10 (.pick (.t 6) (.k qT) (.t 9)),oM 11 10,oG 12 (.fad 1 (.t 1)) 11 false,oG 13 (.load false 1 (.t 12)) 11 false,oG 14 (.bin .lss (.t 13) (kI 1)) 11 false,oX 15 (.pick (.t 11) (.k qT) (.t 14)),oM 16 15,oG 17 (.fad 1 (.t 1)) 16 false,oG 18 (.load false 1 (.t 17)) 16 false,oG 19 (.bin .gtr (.t 18) (kI 20)) 16 false,oX 20 (.pick (.t 16) (.k qT) (.t 19)),oM 21 20,oG 22 (.fad 2 (.t 1)) 21 false,oG 23 (.load false 1 (.t 22)) 21 false,oG 24 (.bin .lss (.t 23) (kI 0)) 21 false,oX 25 (.pick (.t 21) (.k qT) (.t 24)),oM 26 25,oG 27 (.fad 2 (.t 1)) 26 false,oG 28 (.load false 1 (.t 27)) 26 false,oG 29 (.bin .gtr (.t 28) (kI 20)) 26 false,oX 30 (.pick (.t 26) (.k qT) (.t 29))]) (.cond 30 (.seq (qR 2 [oK 2 2]) .ret) .skip)) (.seq (qR 3 [oK 2 0]) .ret))),[(.t 2)],31⟩ := by kernel_rfl
theorem bfull_code : cfun Tryz.prog [] 64 = some ⟨(.seq (qR 0 [oB 1 0,oK 2 0]) (.seq (qR 1 [oF 3 2 1,oL 4 1 3,oF 5 1 1,oL 6 1 5,oX 7 (.bin .mul (.t 4) (.t 6)),oM 2 7]) .ret)),[(.t 2)],8⟩ := by kernel_rfl
theorem bopen_code : cfun Tryz.prog [] 105 = some ⟨(.seq (qR 0 [oB 2 0,oB 3 1,oK 4 0]) (.seq (.seq (qR 1 [oA 6 3 2,oX 7 (.call 62 [(.t 6)]),oM 5 7]) (.seq (qR 2 [oM 8 5,oX 9 (.bin .neq (.t 8) (kI 0))]) (.cond 9 (.seq (qR 3 [oM 10 5,oM 4 10]) .ret) .skip))) (.seq (.seq (.draw 4 (qN (oF 11 0 3) (qN (oL 12 1 11) (qN (oX 13 (.bin .lss (.t 12) (kI 0))) (qN (oM 14 13) (qN (oG 15 (.fad 0 (.t 3)) 14 false) (qN (oG 16 (.load false 1 (.t 15)) 14 false) (qN (oG 17 (.load true 3 (.t 2)) 14 false) (qN (oG 18 (.call 64 [(.t 17)]) 14 false) (qN (oG 19 (.bin .gtr (.t 16) (.t 18)) 14 false) (qN (oX 20 (.pick (.t 14) (.k qT) (.t 19))) .done))))))))))) (.cond 20 (.seq (qR 5 [oK 4 6]) .ret) .skip)) (.seq (qR 6 [oK 4 0]) .ret)))),[(.t 4)],21⟩ := by kernel_rfl
theorem bfill_code : cfun Tryz.prog [] 46 = some ⟨(.seq (qR 0 [oB 1 0,oX 2 (.alloc [qZ]),oK 3 0]) (.seq (.seq (qR 1 [oA 5 3 1,oX 6 (.call 62 [(.t 5)]),oM 4 6]) (.seq (qR 2 [oM 7 4,oX 8 (.bin .neq (.t 7) (kI 0))]) (.cond 8 (.seq (qR 3 [oX 9 (.build [qZ] []),oM 10 4,oS 1 2 9,oM 3 10]) .ret) .skip))) (.seq (qR 4 [oA 11 3 1,oX 12 (.call 64 [(.t 11)]),oX 13 (.build [qZ] [(0,(1,(.t 12)))]),oS 1 2 13,oK 3 0]) .ret))),[(.c 2 true 1),(.t 3)],14⟩ := by kernel_rfl
theorem bspend_code : cfun Tryz.prog [] 141 = some ⟨(.seq (qR 0 [oB 2 0,oB 3 1,oX 4 (.alloc [qZ]),oK 5 0]) (.seq (.seq (qR 1 [oA 7 3 2,oA 8 1 3,oX 9 (.call 105 [(.t 7),(.t 8)]),oM 6 9]) (.seq (qR 2 [oM 10 6,oX 11 (.bin .neq (.t 10) (kI 0))]) (.cond 11 (.seq (qR 3 [oX 12 (.build [qZ] []),oM 13 6,oS 1 4 12,oM 5 13]) .ret) .skip))) (.seq (.seq (qR 4 [oF 14 0 3,oL 15 1 14,oF 16 1 2,oL 17 1 16,oX 18 (.bin .lss (.t 15) (.t 17))]) (.cond 18 (.seq (qR 5 [oX 19 (.build [qZ] []),oS 1 4 19,oK 5 11]) .ret) .skip)) (.seq (qR 6 [oF 20 0 3,oL 21 1 20,oF 22 1 2,oL 23 1 22,oX 24 (.bin .sub (.t 21) (.t 23)),oX 25 (.build [qZ] [(0,(1,(.t 24)))]),oS 1 4 25,oK 5 0]) .ret)))),[(.c 4 true 1),(.t 5)],26⟩ := by kernel_rfl
theorem bcheck_pf (b : Budget) : PF Tryz.prog 62 [.agg b.D] (I (if b.Ok then 0 else 2)) := by
 refine pO (h3 := by simp [Budget.D]) bcheck_code [0,1,2,30] [] fun B hBN hB0 => ?_
 simp [Budget.D]
 by_cases h : b.Ok
 ·have h' := h
  unfold Budget.Ok at h'
  simp [h,h']
 ·have h' := h
  unfold Budget.Ok at h'
  simp only [h,h',if_false]
  simp
  omega
theorem bfull_pf (b : Budget) (h : b.Ok) : PF Tryz.prog 64 [.agg b.D] (I b.full) := by
 have hf := h.full
 have hi : InR (b.burst * b.den) := inR (by unfold Budget.full at hf;omega) (by unfold Budget.full at hf;omega)
 refine pO (h3 := by simp [Budget.D]) bfull_code [0,1,2] [] fun B hBN hB0 => ?_
 simp [Budget.D,hi,Budget.full]
def bopenE (b : Budget) (x : Int) : Int := if b.Ok then (if 0 ≤ x ∧ x ≤ b.full then 0 else 6) else 2
theorem bopen_pf (b : Budget) (x : Int) : PF Tryz.prog 105 [.agg b.D,.agg [I x]] (I (bopenE b x)) := by
 refine pO (h3 := by simp [Budget.D]) bopen_code [0,1,2,3,4,5,9,20] [] fun B hBN hB0 => ?_
 simp [Budget.D]
 refine WCall.pf (bcheck_pf b) (by simp) (by simp [Budget.D]) (by simp [Budget.D]) ?_
 by_cases h : b.Ok
 ·simp [h]
  by_cases hx : 0 ≤ x
  ·have hx' : ¬ x < 0 := by omega
   simp [hx,hx']
   refine WCall.pf (bfull_pf b h) (by simp) (by simp [Budget.D]) (by simp [Budget.D]) ?_
   simp [bopenE,h,hx]
  ·have hx' : x < 0 := by omega
   simp [bopenE,h,hx,hx']
 ·simp [h,bopenE]
theorem bfill_pf (b : Budget) (h : b.Ok) : PF Tryz.prog 46 [.agg b.D] (.tup [.agg [I b.full],I 0]) := by
 refine pO (h3 := by simp [Budget.D]) bfill_code [0,1,2,3,4,8] [] fun B hBN hB0 => ?_
 simp [Budget.D]
 refine WCall.pf (bcheck_pf b) (by simp) (by simp [Budget.D]) (by simp [Budget.D]) ?_
 simp [h]
 refine WCall.pf (bfull_pf b h) (by simp) (by simp [Budget.D]) (by simp [Budget.D]) ?_
 simp
def bspendE (b : Budget) (x : Int) : Int × Int := if x < b.den then (0,11) else (x - b.den,0)
theorem bspend_pf (b : Budget) (x : Int) (h : b.Ok) (h0 : 0 ≤ x) (h1 : x ≤ b.full) : PF Tryz.prog 141 [.agg b.D,.agg [I x]] (.tup [.agg [I (bspendE b x).1],I (bspendE b x).2]) := by
 have hf := h.full
 have hb := h
 unfold Budget.Ok at hb
 refine pO (h3 := by simp [Budget.D]) bspend_code [0,1,2,3,4,5,6,11,18] [] fun B hBN hB0 => ?_
 simp [Budget.D]
 refine WCall.pf (bopen_pf b x) (by simp) (by simp [Budget.D]) (by simp [Budget.D]) ?_
 simp [bopenE,h,h0,h1]
 by_cases hx : x < b.den
 ·simp [hx,bspendE]
 ·have hi : InR (x - b.den) := inR (by omega) (by omega)
  simp [hx,bspendE,hi]
theorem bearn_code : cfun Tryz.prog [] 66 = some ⟨(.seq (qR 0 [oB 2 0,oB 3 1,oX 4 (.alloc [qZ]),oK 5 0]) (.seq (.seq (qR 1 [oA 7 3 2,oA 8 1 3,oX 9 (.call 105 [(.t 7),(.t 8)]),oM 6 9]) (.seq (qR 2 [oM 10 6,oX 11 (.bin .neq (.t 10) (kI 0))]) (.cond 11 (.seq (qR 3 [oX 12 (.build [qZ] []),oM 13 6,oS 1 4 12,oM 5 13]) .ret) .skip))) (.seq (.draw 4 (qN (oF 14 0 3) (qN (oL 15 1 14) (qN (oF 16 0 2) (qN (oL 17 1 16) (qN (oX 18 (.bin .add (.t 15) (.t 17))) (qN (oA 19 3 2) (qN (oX 20 (.call 64 [(.t 19)])) (qN (oX 21 (.mn (.t 18) (.t 20))) (qN (oX 22 (.build [qZ] [(0,(1,(.t 21)))])) (.one false (oS 1 4 22) (qN (oK 5 0) .done)))))))))))) .ret))),[(.c 4 true 1),(.t 5)],23⟩ := by kernel_rfl
theorem bearn_pf (b : Budget) (x : Int) (h : b.Ok) (h0 : 0 ≤ x) (h1 : x ≤ b.full) : PF Tryz.prog 66 [.agg b.D,.agg [I x]] (.tup [.agg [I (min (x + b.num) b.full)],I 0]) := by
 have hf := h.full
 have hb := h
 unfold Budget.Ok at hb
 refine pO (h3 := by simp [Budget.D]) bearn_code [0,1,2,3,4,5,6,11] [] fun B hBN hB0 => ?_
 simp [Budget.D]
 refine WCall.pf (bopen_pf b x) (by simp) (by simp [Budget.D]) (by simp [Budget.D]) ?_
 have hi : InR (x + b.num) := inR (by omega) (by omega)
 simp [bopenE,h,h0,h1,hi]
 refine WCall.pf (bfull_pf b h) (by simp) (by simp [Budget.D]) (by simp [Budget.D]) ?_
 simp
 all_goals (split <;> omega)
theorem budget_code : cfun Tryz.prog [] 48 = some ⟨(.seq (qR 0 [oX 6 (.alloc [qZ,qZ,qZ])]) (.seq (qR 1 [oM 7 0,oX 8 (.call 31 [(.t 7),(kI 21)]),oM 9 1,oX 10 (.call 31 [(.t 9),(kI 20)]),oX 11 (.bin .add (kI 1) (.t 10)),oM 12 2,oX 13 (.call 31 [(.t 12),(kI 21)]),oX 14 (.build [qZ,qZ,qZ] [(0,(1,(.t 8))),(1,(1,(.t 11))),(2,(1,(.t 13)))]),oS 3 6 14]) .ret)),[(.c 6 true 3)],15⟩ := by kernel_rfl
def budgetOf (num den burst : Int) : Budget := ⟨pickedZ num 21,1 + pickedZ den 20,pickedZ burst 21⟩
theorem budgetOf_ok (num den burst : Int) : (budgetOf num den burst).Ok := by
 have h1 := pickedZ_range num 21 (by omega)
 have h2 := pickedZ_range den 20 (by omega)
 have h3 := pickedZ_range burst 21 (by omega)
 unfold Budget.Ok budgetOf
 simp only
 omega
theorem budget_pf (num den burst : Int) (h1 : InR num) (h2 : InR den) (h3 : InR burst) : PF Tryz.prog 48 [I num,I den,I burst] (.agg (budgetOf num den burst).D) := by
 refine pO budget_code [0,1,2,6] [] fun B hBN hB0 => ?_
 simp
 refine WCall.pf (picked_pf num 21 h1 (by omega)) (by simp) (by simp) (by simp) ?_
 simp
 refine WCall.pf (picked_pf den 20 h2 (by omega)) (by simp) (by simp) (by simp) ?_
 have hr := pickedZ_range den 20 (by omega)
 have hi : InR (1 + pickedZ den 20) := inR (by omega) (by omega)
 simp [hi]
 refine WCall.pf (picked_pf burst 21 h3 (by omega)) (by simp) (by simp) (by simp) ?_
 simp [Budget.D,budgetOf]
end Go.Proofs.YtibemmkfcjlmpaaGreat
namespace Go.Proofs.YtibemmkfcjlmpaaGreat
open Go.RowKit
theorem inW {z : Int} (h1 : -9223372036854775808 ≤ z) (h2 : z ≤ 9223372036854775807) : InR z := ⟨h1,h2⟩
theorem WCall.hf {P : Program} {sb : Bool} {B : Base} {st : St} {K : St → Prop} {f : FuncId} {as_ : List Opd} {ds0 : List D} {dst : Option Nat} {H0 : List (Nat × Ob)} {n0 : Nat} {R : D → List (Nat × Ob) → Nat → Prop} (l : List Nat) (hf : HF P f ds0 H0 n0 R)
  (hok : oks st.env (.call f as_) = true) (hsb : sb = false) (hl : l.length = n0) (hnd : l.Nodup) (hlt : ∀ k ∈ l,k < st.nx)
  (hds : as_.map (evS st.env) = ds0.map (rnV (rho l n0 st.nx))) (hao : ds0.all argOk = true) (hdl : ∀ d ∈ ds0,LtV n0 d)
  (hH0 : ∀ p ∈ H0,p.1 < n0 ∧ LtO n0 p.2 ∧ hget st.heap (rho l n0 st.nx p.1) = some (rnO (rho l n0 st.nx) p.2))
  (hK : ∀ d H' nx',R d H' nx' → K ⟨putO st.env dst (rnR (rho l n0 st.nx) d),hputs (rho l n0 st.nx) H' (herases l st.heap),st.nx + (nx' - n0)⟩) : WCall P sb B (.call f as_) dst st K :=
 WCall.of hok (CallOk.hf hf (fun h => by rw [hsb] at h;cases h) l hl hnd hlt hds hao hdl hH0 fun d H' nx' _ hR => hK d H' nx' hR)
theorem wH {P : Program} {sb : Bool} {B : Base} {st : St} {K : St → Prop} {f : FuncId} {as_ : List Opd} {ds0 : List D} {dst : Option Nat} {H0 : List (Nat × Ob)} {n0 : Nat} {R : D → List (Nat × Ob) → Nat → Prop} (l : List Nat) (hf : HF P f ds0 H0 n0 R)
  (hK : ∀ d H' nx', R d H' nx' → K ⟨putO st.env dst (rnR (rho l n0 st.nx) d), hputs (rho l n0 st.nx) H' (herases l st.heap), st.nx + (nx' - n0)⟩)
  (hok : oks st.env (.call f as_) = true := by simp) (hsb : sb = false := by rfl) (hl : l.length = n0 := by rfl) (hnd : l.Nodup := by decide) (hlt : ∀ k ∈ l, k < st.nx := by simp)
  (hds : as_.map (evS st.env) = ds0.map (rnV (rho l n0 st.nx)) := by simp) (hao : ds0.all argOk = true := by simp) (hdl : ∀ d ∈ ds0, LtV n0 d := by simp)
  (hH0 : ∀ p ∈ H0, p.1 < n0 ∧ LtO n0 p.2 ∧ hget st.heap (rho l n0 st.nx p.1) = some (rnO (rho l n0 st.nx) p.2) := by simp) : WCall P sb B (.call f as_) dst st K :=
 WCall.hf l hf hok hsb hl hnd hlt hds hao hdl hH0 hK
def ownR (n : Nat) : List (List D) := (List.range n).map fun i => [.own i]
def nestT (xss : List (List (List D))) : List (Nat × Ob) := (List.range xss.length).map fun p => (p,.row 2 (xss.getD p []))
def nestC (now : Int) (xss : List (List (List D))) : List (Nat × Ob) := (26,.cells [I now,.own 25]) :: (25,.rowd 1 (ownR xss.length)) :: nestT xss
theorem hget_mapR (f : Nat → Ob) (j : Nat) : ∀ l : List Nat,hget (l.map fun p => (p,f p)) j = if j ∈ l then some (f j) else none
 | [] => by simp [hget]
 | p :: t => by
  simp only [List.map_cons,hget,hget_mapR f j t]
  by_cases h : j = p
  ·subst h;simp
  ·simp [h]
theorem hget_nestT (xss : List (List (List D))) (j : Nat) : hget (nestT xss) j = if j < xss.length then some (.row 2 (xss.getD j [])) else none := by
 unfold nestT
 rw [hget_mapR fun p => .row 2 (xss.getD p [])]
 simp
theorem hget_nest26 (now : Int) (xss : List (List (List D))) : hget (nestC now xss) 26 = some (.cells [I now,.own 25]) := rfl
theorem hget_nest25 (now : Int) (xss : List (List (List D))) : hget (nestC now xss) 25 = some (.rowd 1 (ownR xss.length)) := rfl
theorem hget_nestp (now : Int) (xss : List (List (List D))) (p : Nat) (h : p < xss.length) (h25 : xss.length ≤ 25) : hget (nestC now xss) p = some (.row 2 (xss.getD p [])) := by
 unfold nestC
 simp only [hget]
 rw [if_neg (by omega),if_neg (by omega),hget_nestT,if_pos h]
theorem nest_mem {now : Int} {xss : List (List (List D))} {p : Nat × Ob} (h : p ∈ nestC now xss) : p = (26,.cells [I now,.own 25]) ∨ p = (25,.rowd 1 (ownR xss.length)) ∨ p.1 < xss.length ∧ p = (p.1,.row 2 (xss.getD p.1 [])) := by
 unfold nestC nestT at h
 rcases List.mem_cons.1 h with h | h
 ·exact .inl h
 rcases List.mem_cons.1 h with h | h
 ·exact .inr (.inl h)
 obtain ⟨q,hq,rfl⟩ := List.mem_map.1 h
 exact .inr (.inr ⟨List.mem_range.1 hq,rfl⟩)
structure NestOk (H : List (Nat × Ob)) (x' l' : Nat) (ids : List Nat) (now : Int) (xss : List (List (List D))) : Prop where
 len : ids.length = xss.length
 hx : hget H x' = some (.cells [I now,.own l'])
 hl : hget H l' = some (.rowd 1 (ids.map fun i => [.own i]))
 hn : ∀ p,p < xss.length → hget H (ids.getD p 0) = some (.row 2 (xss.getD p []))
 nd : ids.Nodup
theorem nestOk_self (now : Int) (xss : List (List (List D))) (h25 : xss.length ≤ 25) : NestOk (nestC now xss) 26 25 (List.range xss.length) now xss :=
 ⟨by simp,rfl,rfl,fun p hp => by
  have : (List.range xss.length).getD p 0 = p := by simp [zC,List.getElem?_range,hp]
  rw [this];exact hget_nestp now xss p hp h25,List.nodup_range⟩
def canL (ids : List Nat) (l' x' : Nat) (es : List Nat) (j : Nat) : Nat := if j < 25 then ids.getD j 0 else if j = 25 then l' else if j = 26 then x' else es.getD (j - 27) 0
theorem rnC_congr {ρ ρ' : Nat → Nat} {n : Nat} (h : ∀ id,id < n → ρ id = ρ' id) {d : D} (hl : LtC n d) : rnC ρ d = rnC ρ' d := by
 cases d with
 | own id => simp only [rnC,h id hl]
 | ptr id j => simp only [rnC,h id hl]
 | pel id i sz j => simp only [rnC,h id hl]
 | sl id sz off len cap => simp only [rnC,h id hl]
 | clo f ids => simp only [rnC];congr 1;exact List.map_congr_left fun i hi => h i (hl i hi)
 | _ => rfl
theorem rnV_congr {ρ ρ' : Nat → Nat} {n : Nat} (h : ∀ id,id < n → ρ id = ρ' id) {d : D} (hl : LtV n d) : rnV ρ d = rnV ρ' d := by
 cases d with
 | agg ds => simp only [rnV];congr 1;exact List.map_congr_left fun x hx => rnC_congr h (hl x hx)
 | own id => exact rnC_congr (d := .own id) h hl
 | ptr id j => exact rnC_congr (d := .ptr id j) h hl
 | pel id i sz j => exact rnC_congr (d := .pel id i sz j) h hl
 | sl id sz off len cap => exact rnC_congr (d := .sl id sz off len cap) h hl
 | clo f ids => exact rnC_congr (d := .clo f ids) h hl
 | _ => rfl
theorem rnR_congr {ρ ρ' : Nat → Nat} {n : Nat} (h : ∀ id,id < n → ρ id = ρ' id) {d : D} (hl : LtR n d) : rnR ρ d = rnR ρ' d := by
 cases d with
 | tup ds => simp only [rnR];congr 1;exact List.map_congr_left fun x hx => rnV_congr h (hl x hx)
 | agg ds => exact rnV_congr (d := .agg ds) h hl
 | own id => exact rnV_congr (d := .own id) h hl
 | ptr id j => exact rnV_congr (d := .ptr id j) h hl
 | pel id i sz j => exact rnV_congr (d := .pel id i sz j) h hl
 | sl id sz off len cap => exact rnV_congr (d := .sl id sz off len cap) h hl
 | clo f ids => exact rnV_congr (d := .clo f ids) h hl
 | _ => rfl
theorem rnO_congr {ρ ρ' : Nat → Nat} {n : Nat} (h : ∀ id,id < n → ρ id = ρ' id) {ob : Ob} (hl : LtO n ob) : rnO ρ ob = rnO ρ' ob := by
 cases ob with
 | cells ds => simp only [rnO];congr 1;exact List.map_congr_left fun x hx => rnC_congr h (hl x hx)
 | rowd sz xs => simp only [rnO];congr 1;exact List.map_congr_left fun r hr => List.map_congr_left fun x hx => rnC_congr h (hl r hr x hx)
 | blk sz xs => simp only [rnO];congr 1;exact List.map_congr_left fun r hr => List.map_congr_left fun x hx => rnC_congr h (hl r hr x hx)
 | it m _ _ _ => simp only [rnO,h m hl]
 | _ => rfl
section
variable {B : Base} {st : St}
theorem Gh.renF (ρ : Nat → Nat) (env1 : List (Nat × D)) (H1 : List (Nat × Ob)) (n1 : Nat) (h0 : B.n0 = 0) (he : ∀ p ∈ env1,eget st.env p.1 = rnR ρ p.2 ∧ LtR n1 p.2 ∧ ∀ g e,p.2 ≠ .opt g e)
  (hh : ∀ p ∈ H1,p.1 < n1 ∧ LtO n1 p.2 ∧ hget st.heap (ρ p.1) = some (rnO ρ p.2)) (hnd : (H1.map fun p => ρ p.1).Nodup) : Gh B st ⟨env1,H1,n1⟩ := by
 have hlg : ∀ id,id < n1 → lget ((List.range n1).map ρ) id = ρ id := fun id hid => by
  simp [lget,zC,List.getElem?_range,hid]
 refine Gh.ren ((List.range n1).map ρ) (by simp [h0]) (fun id hid => by omega) (fun p hp => ?_) (fun p hp => ?_) (.inl ?_)
 ·obtain ⟨h1,h2,h3⟩ := he p hp
  have e1 : rnS (lget ((List.range n1).map ρ)) p.2 = rnR (lget ((List.range n1).map ρ)) p.2 := by
   generalize p.2 = d at *
   cases d <;> first | rfl | exact absurd rfl (h3 _ _)
  have e2 : LtS n1 p.2 := by
   generalize p.2 = d at *
   cases d <;> first | exact h2 | exact absurd rfl (h3 _ _)
  exact ⟨by rw [h1,e1];exact (rnR_congr hlg h2).symm,e2⟩
 ·obtain ⟨h1,h2,h3⟩ := hh p hp
  exact ⟨h1,h2,by rw [hlg _ h1,h3,rnO_congr hlg h2]⟩
 ·have : H1.map (fun p => lget ((List.range n1).map ρ) p.1) = H1.map fun p => ρ p.1 := List.map_congr_left fun p hp => hlg _ (hh p hp).1
  show (H1.map fun p => lget ((List.range n1).map ρ) p.1).Nodup
  rw [this];exact hnd
theorem Gh.canon {env1 : List (Nat × D)} {Hx : List (Nat × Ob)} {x' l' : Nat} {ids es : List Nat} {now : Int} {xss : List (List (List D))} (n1 : Nat) (h0 : B.n0 = 0) (hn : NestOk st.heap x' l' ids now xss) (h25 : xss.length ≤ 25) (h27 : 27 ≤ n1)
  (he : ∀ p ∈ env1,eget st.env p.1 = rnR (canL ids l' x' es) p.2 ∧ LtR n1 p.2 ∧ ∀ g e,p.2 ≠ .opt g e)
  (hx : ∀ p ∈ Hx,27 ≤ p.1 ∧ p.1 < n1 ∧ LtO n1 p.2 ∧ hget st.heap (canL ids l' x' es p.1) = some (rnO (canL ids l' x' es) p.2))
  (hnx : ∀ p ∈ Hx,canL ids l' x' es p.1 ≠ x' ∧ canL ids l' x' es p.1 ≠ l' ∧ canL ids l' x' es p.1 ∉ ids) (hnd : (Hx.map fun p => canL ids l' x' es p.1).Nodup) : Gh B st ⟨env1,Hx ++ nestC now xss,n1⟩ := by
 have c26 : canL ids l' x' es 26 = x' := rfl
 have c25 : canL ids l' x' es 25 = l' := rfl
 have cp : ∀ p,p < xss.length → canL ids l' x' es p = ids.getD p 0 := fun p hp => by unfold canL;rw [if_pos (by omega)]
 have hmem : ∀ p,p < xss.length → ids.getD p 0 ∈ ids := fun p hp => by
  rw [zC,zE (by rw [hn.len];exact hp)]
  exact List.getElem_mem _
 have hxl : x' ≠ l' := fun e => by have := hn.hx;rw [e,hn.hl] at this;cases this
 have hxi : x' ∉ ids := fun hm => by
  obtain ⟨i,hi⟩ := zF hm
  have hil := (zB.1 hi).1
  have := hn.hn i (by rw [← hn.len];exact hil)
  rw [zC,hi,Option.getD_some,hn.hx] at this
  cases this
 have hli : l' ∉ ids := fun hm => by
  obtain ⟨i,hi⟩ := zF hm
  have hil := (zB.1 hi).1
  have := hn.hn i (by rw [← hn.len];exact hil)
  rw [zC,hi,Option.getD_some,hn.hl] at this
  cases this
 have hrow : (ownR xss.length).map (List.map (rnC (canL ids l' x' es))) = ids.map fun i => [.own i] := by
  apply List.ext_getElem?
  intro i
  unfold ownR
  rw [List.getElem?_map,List.getElem?_map,List.getElem?_map]
  by_cases hi : i < xss.length
  ·have h1 := cp i hi
   rw [List.getElem?_range hi,zE (by rw [hn.len];exact hi)]
   rw [zC,zE (by rw [hn.len];exact hi)] at h1
   simp only [Option.map_some,List.map_cons,List.map_nil,rnC]
   rw [h1];rfl
  ·rw [List.getElem?_eq_none (by simp;omega),List.getElem?_eq_none (by rw [hn.len];omega)];rfl
 refine Gh.renF (canL ids l' x' es) env1 (Hx ++ nestC now xss) n1 h0 he (fun p hp => ?_) ?_
 ·rcases List.mem_append.1 hp with hp | hp
  ·exact ⟨(hx p hp).2.1,(hx p hp).2.2⟩
  ·rcases nest_mem hp with rfl | rfl | ⟨h1,h2⟩
   ·exact ⟨by show 26 < n1;omega,fun d hd => by simp at hd;rcases hd with rfl | rfl <;> (try trivial);show 25 < n1;omega,hn.hx⟩
   ·refine ⟨by show 25 < n1;omega,fun r hr d hd => ?_,?_⟩
    ·unfold ownR at hr
     obtain ⟨i,hi,rfl⟩ := List.mem_map.1 hr
     have := List.mem_range.1 hi
     simp at hd
     subst hd
     show i < n1
     omega
    ·show hget st.heap l' = some (.rowd 1 _)
     rw [hrow];exact hn.hl
   ·rw [h2]
    refine ⟨by show p.1 < n1;omega,trivial,?_⟩
    show hget st.heap (canL ids l' x' es p.1) = some (.row 2 _)
    rw [cp _ h1];exact hn.hn _ h1
 ·rw [List.map_append,List.nodup_append]
  have hN : (nestC now xss).map (fun p => canL ids l' x' es p.1) = x' :: l' :: ids := by
   unfold nestC nestT
   simp only [List.map_cons,c26,c25,List.map_map]
   congr 2
   apply List.ext_getElem?
   intro i
   rw [List.getElem?_map]
   by_cases hi : i < xss.length
   ·rw [List.getElem?_range hi,zE (by rw [hn.len];exact hi)]
    have h1 := cp i hi
    rw [zC,zE (by rw [hn.len];exact hi)] at h1
    simpa using h1
   ·rw [List.getElem?_eq_none (by simp;omega),List.getElem?_eq_none (by rw [hn.len];omega)];rfl
  rw [hN]
  refine ⟨hnd,?_,fun a ha b hb => ?_⟩
  ·refine List.nodup_cons.2 ⟨?_,List.nodup_cons.2 ⟨hli,hn.nd⟩⟩
   intro hm
   rcases List.mem_cons.1 hm with h | h
   ·exact hxl h
   ·exact hxi h
  ·obtain ⟨p,hp,rfl⟩ := List.mem_map.1 ha
   obtain ⟨g1,g2,g3⟩ := hnx p hp
   rcases List.mem_cons.1 hb with rfl | hb
   ·exact g1
   rcases List.mem_cons.1 hb with rfl | hb
   ·exact g2
   ·intro e;rw [e] at g3;exact g3 hb
end
def canK (ids : List Nat) (j : Nat) : Nat := if j < 25 then ids.getD j 0 else j
section
variable {B : Base} {st : St}
theorem Gh.canonK {env1 : List (Nat × D)} {Hx : List (Nat × Ob)} {ids : List Nat} {now : Int} {xss : List (List (List D))} (n1 : Nat) (h0 : B.n0 = 0) (hn : NestOk st.heap 26 25 ids now xss) (h25 : xss.length ≤ 25) (h27 : 27 ≤ n1)
  (he : ∀ p ∈ env1,eget st.env p.1 = rnR (canK ids) p.2 ∧ LtR n1 p.2 ∧ ∀ g e,p.2 ≠ .opt g e)
  (hx : ∀ p ∈ Hx,27 ≤ p.1 ∧ p.1 < n1 ∧ LtO n1 p.2 ∧ hget st.heap p.1 = some (rnO (canK ids) p.2))
  (hids : ∀ i ∈ ids,i < 25 ∨ n1 ≤ i) (hnd : (Hx.map fun p => p.1).Nodup) : Gh B st ⟨env1,Hx ++ nestC now xss,n1⟩ := by
 have hc : ∀ j,j < n1 → canL ids 25 26 ((List.range (n1 - 27)).map (27 + ·)) j = canK ids j := fun j hj => by
  unfold canL canK
  by_cases h1 : j < 25
  ·rw [if_pos h1,if_pos h1]
  ·rw [if_neg h1,if_neg h1]
   by_cases h2 : j = 25
   ·rw [if_pos h2,h2]
   ·rw [if_neg h2]
    by_cases h3 : j = 26
    ·rw [if_pos h3,h3]
    ·rw [if_neg h3,zC,List.getElem?_map,List.getElem?_range (by omega)]
     simp;omega
 have hself : ∀ j,25 ≤ j → canK ids j = j := fun j hj => by unfold canK;rw [if_neg (by omega)]
 refine Gh.canon n1 h0 hn h25 h27 (es := (List.range (n1 - 27)).map (27 + ·)) (fun p hp => ?_) (fun p hp => ?_) (fun p hp => ?_) ?_
 ·obtain ⟨h1,h2,h3⟩ := he p hp
  exact ⟨by rw [h1];exact (rnR_congr hc h2).symm,h2,h3⟩
 ·obtain ⟨h1,h2,h3,h4⟩ := hx p hp
  exact ⟨h1,h2,h3,by rw [hc _ h2,hself _ (by omega),h4];exact congrArg some (rnO_congr hc h3).symm⟩
 ·obtain ⟨h1,h2,h3,h4⟩ := hx p hp
  rw [hc _ h2,hself _ (by omega)]
  exact ⟨by omega,by omega,fun hm => by have := hids _ hm;omega⟩
 ·have : Hx.map (fun p => canL ids 25 26 ((List.range (n1 - 27)).map (27 + ·)) p.1) = Hx.map fun p => p.1 := List.map_congr_left fun p hp => by
   obtain ⟨h1,h2,h3,h4⟩ := hx p hp
   rw [hc _ h2,hself _ (by omega)]
  rw [this];exact hnd
theorem Gh.rowd (id sz : Nat) (xs : List (List D)) (hh : hget st.heap id = some (.row sz xs)) : Gh B st ⟨st.env,eput st.heap id (.rowd sz xs),st.nx⟩ := by
 intro s Z a w hr
 have hob := hr.h.ob _ _ hh
 have hlt := hr.h.lt _ _ hh
 refine ⟨s,Z,hr.env,hr.elt,hr.size,hr.defers,?_⟩
 have hnew : ObOk s Z w (.rowd sz xs) (s id) := by
  obtain ⟨h1,h2,h3⟩ := hob
  refine ⟨h1,h2,?_⟩
  rcases h3 with h3 | ⟨g,cap,cur,e,q1,q2,q3,q4,q5,q6⟩
  ·exact .inl h3
  ·exact .inr ⟨g,cap,cur,e,q1,q2,q3,q4,q5,fun i row j d hi hj => VC.of_vt (q6 i row j d hi hj)⟩
 have hl : LtO st.nx (.rowd sz xs) := by
  intro row hrow d hd
  obtain ⟨h1,h2,h3⟩ := hob
  rcases h3 with ⟨rfl,_⟩ | ⟨g,cap,cur,e,q1,q2,q3,q4,q5,q6⟩
  ·cases hrow
  ·obtain ⟨i,hi⟩ := zF hrow
   obtain ⟨j,hj⟩ := zF hd
   exact VT.ltN _ (q6 i row j d hi hj)
 have hhe : ∀ i ob,hget (eput st.heap id (.rowd sz xs)) i = some ob → ∃ ob0,hget st.heap i = some ob0 := fun i ob h => by
  rw [hget_eput] at h
  split at h
  ·rename_i e;subst e;exact ⟨_,hh⟩
  ·exact ⟨_,h⟩
 refine ⟨fun i ob h => ?_,fun i ob h => ?_,fun i i' ob ob' b h h' hne hb => ?_,hr.h.zok,fun i ob b o h hb => ?_,fun i ob b h hb => ?_,hr.h.fr,hr.h.n0,hr.h.bs,hr.h.bz,hr.h.bn⟩
 ·have h9 : hget (eput st.heap id (.rowd sz xs)) i = some ob := h
  rw [hget_eput] at h9
  by_cases e : i = id
  ·rw [if_pos e] at h9;rw [e,← Option.some.inj h9];exact hnew
  ·rw [if_neg e] at h9;exact hr.h.ob i ob h9
 ·have h9 : hget (eput st.heap id (.rowd sz xs)) i = some ob := h
  rw [hget_eput] at h9
  by_cases e : i = id
  ·rw [if_pos e] at h9;rw [e,← Option.some.inj h9];exact ⟨hlt.1,hl⟩
  ·rw [if_neg e] at h9;exact hr.h.lt i ob h9
 ·obtain ⟨o1,h1⟩ := hhe i ob h
  obtain ⟨o2,h2⟩ := hhe i' ob' h'
  exact hr.h.apart i i' o1 o2 b h1 h2 hne hb
 ·obtain ⟨o1,h1⟩ := hhe i ob h
  exact hr.h.zap i o1 b o h1 hb
 ·obtain ⟨o1,h1⟩ := hhe i ob h
  exact hr.h.mine i o1 b h1 hb
theorem Gh.adoptR (id i sz : Nat) (h0 : 0 < sz) (rows : List (List D)) (hh : hget st.heap id = some (.rowd 1 rows)) (hk : rows[i]? = some [.nil0]) : Gh B st ⟨st.env,eput (eput st.heap st.nx (.row sz [])) id (.rowd 1 (rows.set i [.own st.nx])),st.nx + 1⟩ := by
 intro s Z a w hr
 obtain ⟨hp,hr1,hob⟩ := hr.h.ob _ _ hh
 have hlt := hr.h.lt _ _ hh
 have hil : i < rows.length := (zB.1 hk).1
 rcases hob with ⟨rfl,_⟩ | ⟨g,cap,cur,e,hs0,hg,hn,hm,hsz,hc⟩
 ·simp at hil
 have hv := hc i _ 0 _ hk rfl
 have hv : VT Z .nil0 (cur.getD (i * 1 + 0) undef) := hv
 generalize hav : cur.getD (i * 1 + 0) undef = v at hv
 cases hv with
 | nil0 q =>
 have hne : id ≠ st.nx := by omega
 have hH := hr.h.new (w' := w) (v := .slice q 0 0) (ob := .row sz []) (Below.refl _ _) ⟨h0,(fun _ h => by cases h),.inl ⟨rfl,q,rfl⟩⟩ trivial (fun k hk => by cases q <;> simp [blk] at hk)
 have hh' : hget (eput st.heap st.nx (.row sz [])) id = some (.rowd 1 rows) := by rw [hget_eput,if_neg hne];exact hh
 have hs : upd s st.nx (.slice q 0 0) id = s id := upd_lt _ _ _ _ hlt.1
 have hcap0 : cap ≠ 0 := by omega
 have hH2 : RelH B (upd s st.nx (.slice q 0 0)) Z (eput (eput st.heap st.nx (.row sz [])) id (.rowd 1 (rows.set i [.own st.nx]))) (st.nx + 1) w := by
  refine hH.write (k := g) hh' (by rw [hs,hs0];simp [blk,hcap0]) ⟨rfl,rfl,rfl,rfl,fun _ _ => rfl⟩ ?_ ?_
  ·refine ⟨hp,fun r hr' => ?_,.inr ⟨g,cap,cur,e,by rw [hs,hs0];simp,hg,by simpa using hn,hm,hsz,fun i' row j x hi hj => ?_⟩⟩
   ·rcases List.mem_or_eq_of_mem_set hr' with h | rfl
    ·exact hr1 r h
    ·rfl
   ·rw [List.getElem?_set] at hi
    split at hi
    ·rename_i e'
     subst e'
     ·simp only [zA] at hi
      subst hi
      match j,hj with
      | 0,hj =>
       simp at hj
       subst hj
       rw [hav]
       exact ⟨(upd_same _ _ _).symm,.inl ⟨q,0,0,rfl⟩⟩
      | j + 1,hj => simp at hj
    ·exact VC.mono (fun _ _ _ h => h) (upd_lt s st.nx _) (hlt.2 row (zD hi) x (zD hj)) (hc i' row j x hi hj)
  ·intro row hrow x hx
   rcases List.mem_or_eq_of_mem_set hrow with h | rfl
   ·exact (hlt.2 row h x hx).mono (Nat.le_succ _)
   ·simp at hx;subst hx;exact Nat.lt_succ_self _
 exact ⟨_,Z,fun j => (hr.env j).mono (fun _ _ _ h => h) (upd_lt s st.nx _) (hr.elt j),fun j => (hr.elt j).mono (Nat.le_succ _),hr.size,hr.defers,hH2⟩
end
theorem Gh.envs {B : Base} {env env1 : List (Nat × D)} {H : List (Nat × Ob)} {nx : Nat} (he : ∀ p ∈ env1,eget env p.1 = p.2) : Gh B ⟨env,H,nx⟩ ⟨env1,H,nx⟩ := by
 intro s Z a w hr
 have hE : ∀ k,eget env1 k = .any ∨ eget env1 k = eget env k := fun k => by
  have : ∀ l : List (Nat × D),eget l k = .any ∨ (k,eget l k) ∈ l := fun l => by
   induction l with
   | nil => exact .inl rfl
   | cons p l ih =>
    obtain ⟨j,d⟩ := p
    simp only [eget]
    split
    ·rename_i e;subst e;exact .inr (List.mem_cons_self ..)
    ·exact ih.imp id (List.mem_cons_of_mem _)
  rcases this env1 with h | h
  ·exact .inl h
  ·exact .inr (he _ h).symm
 refine ⟨s,Z,fun k => ?_,fun k => ?_,hr.size,hr.defers,hr.h⟩
 ·show VS s Z (eget env1 k) _
  rcases hE k with h | h
  ·rw [h];trivial
  ·rw [h];exact hr.env k
 ·show LtS nx (eget env1 k)
  rcases hE k with h | h
  ·rw [h];trivial
  ·rw [h];exact hr.elt k
theorem Gh.envH {B : Base} {env env1 : List (Nat × D)} {H H1 : List (Nat × Ob)} {nx nx1 : Nat} (he : ∀ p ∈ env1,eget env p.1 = p.2) (hH : H1 = H) (hn : nx1 = nx) : Gh B ⟨env,H,nx⟩ ⟨env1,H1,nx1⟩ := by
 subst hH hn;exact Gh.envs he
theorem hputs_fwd {ρ : Nat → Nat} {H : List (Nat × Ob)} {id : Nat} {ob : Ob} : ∀ {L : List (Nat × Ob)},(∀ p ∈ L,ρ p.1 = ρ id → p.1 = id) → hget L id = some ob → hget (hputs ρ L H) (ρ id) = some (rnO ρ ob)
 | [],_,h => by cases h
 | (k,o) :: L,hi,h => by
  simp only [hputs,hget_eput]
  simp only [hget] at h
  by_cases e : id = k
  ·subst e
   rw [if_pos rfl] at h ⊢
   cases h;rfl
  ·rw [if_neg e] at h
   rw [if_neg (fun e2 => e (hi _ List.mem_cons_self e2.symm).symm)]
   exact hputs_fwd (fun p hp => hi p (List.mem_cons_of_mem _ hp)) h
theorem hputs_out {ρ : Nat → Nat} {H : List (Nat × Ob)} {k : Nat} : ∀ {L : List (Nat × Ob)},(∀ p ∈ L,ρ p.1 ≠ k) → hget (hputs ρ L H) k = hget H k
 | [],_ => rfl
 | (j,o) :: L,hi => by
  simp only [hputs,hget_eput]
  rw [if_neg (fun e => hi _ List.mem_cons_self e.symm)]
  exact hputs_out fun p hp => hi p (List.mem_cons_of_mem _ hp)
theorem herases_out {k : Nat} : ∀ (l : List Nat) (H : List (Nat × Ob)),k ∉ l → hget (herases l H) k = hget H k
 | [],_,_ => rfl
 | j :: l,H,h => by
  simp only [herases]
  rw [herases_out l _ (fun hm => h (List.mem_cons_of_mem _ hm)),hget_herase,if_neg (fun e => h (by rw [e];exact List.mem_cons_self))]
def RN (res : D) (now : Int) (xss : List (List (List D))) (d : D) (H' : List (Nat × Ob)) (_ : Nat) : Prop := d = res ∧ ∃ ids,NestOk H' 26 25 ids now xss ∧ ∀ i ∈ ids,i < 25 ∨ 27 ≤ i
def KN (st : St) (env' : List (Nat × D)) (now : Int) (xss : List (List (List D))) (st' : St) : Prop :=
 st'.env = env' ∧ st.nx ≤ st'.nx ∧ (∃ ids,NestOk st'.heap 26 25 ids now xss ∧ ∀ i ∈ ids,i < 25 ∨ st.nx ≤ i) ∧ ∀ j,27 ≤ j → j < st.nx → hget st'.heap j = hget st.heap j
theorem WCall.nest {P : Program} {sb : Bool} {B : Base} {st : St} {K : St → Prop} {f : FuncId} {as_ : List Opd} {ds0 : List D} {dst : Option Nat} {now now' : Int} {xss xss' : List (List (List D))} {res : D}
  (hf : HF P f ds0 (nestC now xss) 27 (RN res now' xss')) (h25 : xss.length ≤ 25) (hok : oks st.env (.call f as_) = true) (hsb : sb = false) (hnx : 27 ≤ st.nx) (hds : as_.map (evS st.env) = ds0) (hao : ds0.all argOk = true) (hdl : ∀ d ∈ ds0,LtV 27 d)
  (hH : ∀ j,j < 27 → hget st.heap j = hget (nestC now xss) j) (hres : LtR 0 res) (hK : ∀ st',KN st (putO st.env dst res) now' xss' st' → K st') : WCall P sb B (.call f as_) dst st K := by
 have hlow : ∀ id,id < 27 → rho (List.range 27) 27 st.nx id = id := fun id hid => by
  unfold rho;rw [if_pos hid,zC,List.getElem?_range hid];rfl
 have hhigh : ∀ id,¬ id < 27 → rho (List.range 27) 27 st.nx id = st.nx + (id - 27) := fun id hid => by unfold rho;rw [if_neg hid]
 have hinj : ∀ i j,rho (List.range 27) 27 st.nx i = rho (List.range 27) 27 st.nx j → i = j := fun i j e => by
  by_cases hi : i < 27 <;> by_cases hj : j < 27
  ·rw [hlow i hi,hlow j hj] at e;exact e
  ·rw [hlow i hi,hhigh j hj] at e;omega
  ·rw [hhigh i hi,hlow j hj] at e;omega
  ·rw [hhigh i hi,hhigh j hj] at e;omega
 have hself : ∀ id,id < 27 → rho (List.range 27) 27 st.nx id = lget [] id := fun id hid => by rw [hlow id hid];rfl
 refine WCall.hf (List.range 27) hf hok hsb (by simp) List.nodup_range (fun k hk => by have := List.mem_range.1 hk;omega) ?_ hao hdl ?_ ?_
 ·rw [hds]
  refine ((List.map_congr_left fun d hd => ?_).trans (List.map_id ds0)).symm
  rw [rnV_congr hself (hdl d hd),rnV_id];rfl
 ·intro p hp
  have hp27 : p.1 < 27 ∧ LtO 27 p.2 ∧ hget (nestC now xss) p.1 = some p.2 := by
   rcases nest_mem hp with rfl | rfl | ⟨h1,h2⟩
   ·exact ⟨by show 26 < 27;omega,fun d hd => by simp at hd;rcases hd with rfl | rfl <;> (try trivial);show 25 < 27;omega,rfl⟩
   ·refine ⟨by show 25 < 27;omega,fun r hr d hd => ?_,rfl⟩
    unfold ownR at hr
    obtain ⟨i,hi,rfl⟩ := List.mem_map.1 hr
    have := List.mem_range.1 hi
    simp at hd
    subst hd
    show i < 27
    omega
   ·refine ⟨by omega,by rw [h2];trivial,?_⟩
    rw [h2];exact hget_nestp now xss p.1 h1 h25
  obtain ⟨h1,h2,h3⟩ := hp27
  exact ⟨h1,h2,by rw [hlow _ h1,hH _ h1,h3,rnO_congr hself h2,rnO_id]⟩
 ·rintro d H' nx' ⟨rfl,ids,hn,hids⟩
  refine hK _ ⟨?_,by show st.nx ≤ st.nx + (nx' - 27);omega,⟨ids.map (rho (List.range 27) 27 st.nx),⟨by simp [hn.len],?_,?_,fun p hp => ?_,?_⟩,?_⟩,fun j h1 h2 => ?_⟩
  ·show putO st.env dst (rnR (rho (List.range 27) 27 st.nx) d) = _
   congr 1
   exact (rnR_congr (n := 0) (fun id h => by omega) hres).trans (rnR_id d)
  ·have := hputs_fwd (H := herases (List.range 27) st.heap) (fun p hp e => hinj _ _ e) hn.hx
   rw [hlow 26 (by decide)] at this
   rw [this]
   simp [rnO,rnC,hlow 25 (by decide)]
  ·have := hputs_fwd (H := herases (List.range 27) st.heap) (fun p hp e => hinj _ _ e) hn.hl
   rw [hlow 25 (by decide)] at this
   rw [this]
   simp [rnO,rnC]
  ·have := hputs_fwd (H := herases (List.range 27) st.heap) (fun p hp e => hinj _ _ e) (hn.hn p hp)
   have e : (ids.map (rho (List.range 27) 27 st.nx)).getD p 0 = rho (List.range 27) 27 st.nx (ids.getD p 0) := by
    have hl : p < ids.length := by rw [hn.len];exact hp
    rw [zC,List.getElem?_map,zE hl,zC,zE hl];rfl
   rw [e]
   exact this
  ·exact List.Pairwise.map _ (fun a b hab e => hab (hinj a b e)) hn.nd
  ·intro i hi
   obtain ⟨k,hk,rfl⟩ := List.mem_map.1 hi
   rcases hids k hk with h | h
   ·rw [hlow k (by omega)];exact .inl h
   ·rw [hhigh k (by omega)];exact .inr (by omega)
  ·show hget (hputs _ H' (herases (List.range 27) st.heap)) j = _
   rw [hputs_out (fun p hp e => ?_),herases_out _ _ (by simp;omega)]
   by_cases hp27 : p.1 < 27
   ·rw [hlow _ hp27] at e;omega
   ·rw [hhigh _ hp27] at e;omega
theorem NestOk.up {H : List (Nat × Ob)} {ids : List Nat} {now : Int} {X : List (List (List D))} (k : Nat) (ob : Ob) (hk : 27 ≤ k) (hids : ∀ i ∈ ids,i < 25) (h : NestOk H 26 25 ids now X) : NestOk ((k,ob) :: H) 26 25 ids now X := by
 have hne : ∀ j,j < 27 → hget ((k,ob) :: H) j = hget H j := fun j hj => by simp only [hget];rw [if_neg (by omega)]
 refine ⟨h.len,by rw [hne 26 (by omega)];exact h.hx,by rw [hne 25 (by omega)];exact h.hl,fun p hp => ?_,h.nd⟩
 have : ids.getD p 0 ∈ ids := by
  rw [zC,zE (by rw [h.len];exact hp)]
  exact List.getElem_mem _
 rw [hne _ (by have := hids _ this;omega)]
 exact h.hn p hp
theorem nestOk_range (now : Int) (X : List (List (List D))) (n : Nat) (hn : X.length = n) (h25 : n ≤ 25) : NestOk (nestC now X) 26 25 (List.range n) now X := by subst hn;exact nestOk_self now X h25
theorem range_lt {n : Nat} (h : n ≤ 25) : ∀ i ∈ List.range n,i < 25 := fun i hi => by have := List.mem_range.1 hi;omega
theorem set_nodup (n p q : Nat) (hq : n ≤ q) : ((List.range n).set p q).Nodup := by
 rw [List.Nodup,List.pairwise_iff_getElem]
 intro i j hi hj hij
 simp only [List.length_set,List.length_range] at hi hj
 rw [List.getElem_set,List.getElem_set,List.getElem_range,List.getElem_range]
 split <;> split <;> omega
theorem nestOk_set {now now' : Int} {X : List (List (List D))} {H' : List (Nat × Ob)} {p q : Nat} {ys : List (List D)} (hX : X.length = 25) (hp : p < 25) (hq : 27 ≤ q) (h26 : hget H' 26 = some (.cells [I now',.own 25]))
  (h25 : hget H' 25 = some (.rowd 1 ((ownR 25).set p [.own q]))) (hq' : hget H' q = some (.row 2 ys)) (hr : ∀ j,j < 25 → j ≠ p → hget H' j = hget (nestC now X) j) : NestOk H' 26 25 ((List.range 25).set p q) now' (X.set p ys) := by
 refine ⟨by simp [hX],h26,?_,fun j hj => ?_,set_nodup 25 p q (by omega)⟩
 ·rw [h25,List.map_set];rfl
 ·rw [List.length_set,hX] at hj
  have hg : ((List.range 25).set p q).getD j 0 = if p = j then q else j := by
   rw [zC,List.getElem?_set]
   by_cases e : p = j
   ·simp [e,hj]
   ·simp [e,hj,List.getElem?_range]
  rw [hg]
  by_cases e : p = j
  ·subst e
   rw [if_pos rfl,hq']
   simp [zC,hX,hj]
  ·rw [if_neg e,hr j hj (fun h => e h.symm),hget_nestp now X j (by omega) (by omega)]
   simp [zC,List.getElem?_set,e]
theorem set_ids {p q : Nat} (hq : 27 ≤ q) : ∀ i ∈ (List.range 25).set p q,i < 25 ∨ 27 ≤ i := fun i hi => by
 rcases List.mem_or_eq_of_mem_set hi with h | rfl
 ·exact .inl (List.mem_range.1 h)
 ·exact .inr hq
theorem eput_nest (now : Int) (xss : List (List (List D))) (k : Nat) (ob : Ob) (h : 27 ≤ k) : eput (nestC now xss) k ob = (k,ob) :: nestC now xss := by
 unfold nestC
 simp only [eput]
 rw [if_pos (by omega)]
theorem brw_own (H : List (Nat × Ob)) (n : Nat) (xss : List (List (List D))) (h : ∀ p,p < xss.length → hget H p = some (.row 2 (xss.getD p []))) : omap (omap (brwC H (n + 1))) (ownR xss.length) = some (xss.map fun xs => [.rows 2 xs]) := by
 suffices hh : ∀ (l : List Nat),(∀ p ∈ l,p < xss.length) → omap (omap (brwC H (n + 1))) (l.map fun i => [D.own i]) = some (l.map fun i => [.rows 2 (xss.getD i [])]) by
  unfold ownR
  rw [hh _ fun p hp => List.mem_range.1 hp]
  congr 1
  apply List.ext_getElem?
  intro i
  rw [List.getElem?_map,List.getElem?_map]
  by_cases hi : i < xss.length
  ·rw [List.getElem?_range hi,zE hi]
   simp [zC,hi]
  ·rw [List.getElem?_eq_none (by simp;omega),List.getElem?_eq_none (by omega)];rfl
 intro l
 induction l with
 | nil => intro _;rfl
 | cons p t ih =>
  intro hl
  have h1 := h p (hl p List.mem_cons_self)
  have h2 := ih fun q hq => hl q (List.mem_cons_of_mem _ hq)
  simp only [List.map_cons,omap,brwC,h1,h2]
structure Outp where
 kind : Int
 slot : Int
 gen : Int
 backend : Int
 request : Int
 code : Int
 why : Int
 deriving DecidableEq,Inhabited
def Outp.D (o : Outp) : List D := [I o.kind,I o.slot,I o.gen,I o.backend,I o.request,I o.code,I o.why]
end Go.Proofs.YtibemmkfcjlmpaaGreat
namespace Go.Proofs.YtibemmkfcjlmpaaGreat
open Go.RowKit
attribute [local simp] AK_at acode_seq acode_region acode_draw acode_cond CB_u acode_block acode_loop acode_exit acode_scope acode_ret acode_skip seqQ_n seqQ_e seqQ_r blockQ_n blockQ_e blockQ_r TK_at OK_at SK_at aops_nil aops_cons asch_done asch_one asch_two asch_top astep aop_eq isLoud aloud aloud1 isWrite qv evS strip gof eget hget putO eput herase oks opnds gS afin afin0 binD arith D.cells takeD fillD keep trim envOf Fin aresl aresv resD argOk pickV isP deq deqs boundD slD lenD isT isSl ptrIds chunks mn_min mx_max splice_one splice_more Rbr_at Rfr_at frR frV frC flatC brwR brwV brwC omap leR leV leC leL leVL rnR rnV rnC rnO rho_0 hputs herases rnS LtS LtR LtV LtC LtO lget noV noC flatR flatV rho
attribute [local simp ↓] CB_t CB_f
inductive EK where
 | op | da | cl | an | jo | re | ti
def EK.n : EK → Int
 | .op => 1 | .da => 2 | .cl => 3 | .an => 4 | .jo => 5 | .re => 6 | .ti => 7
def flowR : List (List D) := [[.ptr 0 2,I 0,I 39],[.ptr 0 3,I 0,I 1048576]]
def askR : List (List D) := [[.ptr 0 5,I 0,I 1048576],[.ptr 0 6,I 0,I 11]]
def EK.rows : EK → List (List D)
 | .op => [[.ptr 0 1,I 0,I 4294967295]]
 | .da => flowR
 | .cl => flowR
 | .an => flowR ++ [[.ptr 1 0,I 0,I 1]]
 | .jo => askR ++ [[.ptr 0 7,I 1,I 8]]
 | .re => askR
 | .ti => []
def EK.fd : EK → D
 | .op => .own 4 | .da => .own 2 | .cl => .own 2 | .an => .own 5 | .jo => .own 5 | .re => .own 3 | .ti => .nil0
def EK.fn : EK → Nat
 | .op => 5 | .da => 4 | .cl => 4 | .an => 6 | .jo => 6 | .re => 4 | .ti => 4
def EK.fh : EK → List (Nat × Ob)
 | .op => [(4,.rowd 3 (EK.rows .op)),(3,.rowd 3 askR),(2,.rowd 3 flowR)]
 | .da => [(3,.rowd 3 askR),(2,.rowd 3 flowR)]
 | .cl => [(3,.rowd 3 askR),(2,.rowd 3 flowR)]
 | .an => [(5,.rowd 3 (EK.rows .an)),(4,.rowd 3 [[.ptr 1 0,I 0,I 1]]),(3,.rowd 3 askR)]
 | .jo => [(5,.rowd 3 (EK.rows .jo)),(4,.rowd 3 [[.ptr 0 7,I 1,I 8]]),(2,.rowd 3 flowR)]
 | .re => [(3,.rowd 3 askR),(2,.rowd 3 flowR)]
 | .ti => [(3,.rowd 3 askR),(2,.rowd 3 flowR)]
theorem wfields_code : cfun Tryz.prog [] 71 = some ⟨(.seq (qR 0 [oX 4 (.mov (.k .nil0)),oX 5 (.mov (.k qF))]) (.seq (.draw 1 (qN (oM 8 0) (qN (oN 9 8) (qN (oF 10 2 9) (qN (oX 11 (.build [.nilp,qZ,qZ] [(0,(1,(.t 10))),(1,(1,(kI 0))),(2,(1,(kI 39)))])) (qN (oM 12 0) (qN (oN 13 12) (qN (oF 14 3 13) (qN (oX 15 (.build [.nilp,qZ,qZ] [(0,(1,(.t 14))),(1,(1,(kI 0))),(2,(1,(kI 1048576)))])) (qN (oX 16 (.bslice 3 2 [.nilp,qZ,qZ] [(0,(.t 11)),(1,(.t 15))])) (qN (oM 6 16) .done))))))))))) (.seq (.draw 2 (qN (oM 17 0) (qN (oN 18 17) (qN (oF 19 5 18) (qN (oX 20 (.build [.nilp,qZ,qZ] [(0,(1,(.t 19))),(1,(1,(kI 0))),(2,(1,(kI 1048576)))])) (qN (oM 21 0) (qN (oN 22 21) (qN (oF 23 6 22) (qN (oX 24 (.build [.nilp,qZ,qZ] [(0,(1,(.t 23))),(1,(1,(kI 0))),(2,(1,(kI 11)))])) (qN (oX 25 (.bslice 3 2 [.nilp,qZ,qZ] [(0,(.t 20)),(1,(.t 24))])) (qN (oM 7 25) .done))))))))))) (.seq (.seq (qR 3 [oM 26 0,oN 27 26,oF 28 0 27,oL 29 1 28]) (.block 0 (.seq (qR 4 [oX 31 (.bin .eql (.t 29) (kI 1)),oM 30 31]) (.cond 30 (.seq (qR 5 [oM 32 0,oN 33 32,oF 34 1 33,oX 35 (.build [.nilp,qZ,qZ] [(0,(1,(.t 34))),(1,(1,(kI 0))),(2,(1,(kI 4294967295)))]),oX 36 (.bslice 3 1 [.nilp,qZ,qZ] [(0,(.t 35))]),oM 4 36,oX 5 (.mov (.k qT))]) .ret) (.seq (.seq (qR 6 [oX 38 (.bin .eql (.t 29) (kI 2)),oM 37 38]) (.cond 37 .skip (qR 7 [oX 39 (.bin .eql (.t 29) (kI 3)),oM 37 39]))) (.cond 37 (.seq (qR 8 [oM 40 6,oM 4 40,oX 5 (.mov (.k qT))]) .ret) (.seq (qR 9 [oX 42 (.bin .eql (.t 29) (kI 4)),oM 41 42]) (.cond 41 (.seq (qR 10 [oM 43 6,oM 44 1,oX 45 (.build [.nilp,qZ,qZ] [(0,(1,(.t 44))),(1,(1,(kI 0))),(2,(1,(kI 1)))]),oX 46 (.bslice 3 1 [.nilp,qZ,qZ] [(0,(.t 45))]),oX 47 (.app 3 24 [.nilp,qZ,qZ] (.t 43) (.t 46)),oM 4 47,oX 5 (.mov (.k qT))]) .ret) (.seq (qR 11 [oX 49 (.bin .eql (.t 29) (kI 5)),oM 48 49]) (.cond 48 (.seq (qR 12 [oM 50 7,oM 51 0,oN 52 51,oF 53 7 52,oX 54 (.build [.nilp,qZ,qZ] [(0,(1,(.t 53))),(1,(1,(kI 1))),(2,(1,(kI 8)))]),oX 55 (.bslice 3 1 [.nilp,qZ,qZ] [(0,(.t 54))]),oX 56 (.app 3 24 [.nilp,qZ,qZ] (.t 50) (.t 55)),oM 4 56,oX 5 (.mov (.k qT))]) .ret) (.seq (qR 13 [oX 58 (.bin .eql (.t 29) (kI 6)),oM 57 58]) (.cond 57 (.seq (qR 14 [oM 59 7,oM 4 59,oX 5 (.mov (.k qT))]) .ret) (.seq (qR 15 [oX 61 (.bin .eql (.t 29) (kI 7)),oM 60 61]) (.cond 60 (.seq (qR 16 [oX 4 (.mov (.k .nil0)),oX 5 (.mov (.k qT))]) .ret) .skip)))))))))))))) (.seq (qR 17 [oX 4 (.mov (.k .nil0)),oX 5 (.mov (.k qF))]) .ret))))),[(.t 4),(.t 5)],62⟩ := by kernel_rfl
theorem wfields_hf (kd : EK) (c1 c2 c3 : Int) (c4 : Bool) (c5 c6 c7 g : Int) :
  HF Tryz.prog 71 [.ptr 0 0,.ptr 1 0] [(1,.cells [I g]),(0,.cells [I kd.n,I c1,I c2,I c3,.bool c4,I c5,I c6,I c7])] 2
   (fun d H' nx' => d = .tup [kd.fd,.bool true] ∧ H' = kd.fh ++ [(1,.cells [I g]),(0,.cells [I kd.n,I c1,I c2,I c3,.bool c4,I c5,I c6,I c7])] ∧ nx' = kd.fn) := by
 refine hO wfields_code [0,1,4,5,6,7,29,30,37,41,48,57,60] [] fun B hBN hB0 => ?_
 cases kd
 all_goals
  simp [EK.n,EK.fd,EK.fh,EK.fn,EK.rows,flowR,askR]
  done
theorem ins_a (A : List (List D)) (row : List D) (i m k z : Nat) (hA : A.length = i) (hm : 1 ≤ m) :
  (A ++ List.replicate (m + k) (anyRow z)).take i ++ [row].take m ++ (A ++ List.replicate (m + k) (anyRow z)).drop (i + ([row].take m).length) = A ++ [row] ++ List.replicate (m + k - 1) (anyRow z) := by
 obtain ⟨m,rfl⟩ : ∃ m',m = m' + 1 := ⟨m - 1,by omega⟩
 subst hA
 rw [List.take_left,List.take_of_length_le (by simp),List.drop_append,List.drop_eq_nil_of_le (by simp),List.drop_replicate]
 simp
theorem ins_b (A B : List (List D)) (row : List D) (i r z : Nat) (hA : A.length = i) (hr : B.length ≤ r) :
  (A ++ [row] ++ List.replicate r (anyRow z)).take (i + 1) ++ B ++ (A ++ [row] ++ List.replicate r (anyRow z)).drop (i + 1 + B.length) = A ++ [row] ++ B ++ List.replicate (r - B.length) (anyRow z) := by
 subst hA
 have e : A.length + 1 = (A ++ [row]).length := by simp
 rw [e,List.take_left,List.drop_append,List.drop_eq_nil_of_le (by simp),List.drop_replicate]
 simp only [List.nil_append]
 congr 2;simp
theorem ins_c (xs : List (List D)) (i k z : Nat) (hi : i < xs.length) : (((xs ++ List.replicate (k + 1) (anyRow z)).drop i).take (xs.length + 1 - i)).take (xs.length - i) = xs.drop i := by
 rw [List.take_take,Nat.min_eq_left (by omega),List.drop_append_of_le_length (by omega),List.take_append_of_le_length (by simp),List.take_of_length_le (by simp)]
theorem ins_d (xs : List (List D)) (i k z : Nat) (hi : i < xs.length) :
  (xs ++ List.replicate (k + 1) (anyRow z)).take (i + 1) ++ xs.drop i ++ (xs ++ List.replicate (k + 1) (anyRow z)).drop (i + 1 + (xs.drop i).length) = xs.take (i + 1) ++ xs.drop i ++ List.replicate k (anyRow z) := by
 have h1 : xs.drop (i + 1 + (xs.drop i).length) = [] := List.drop_eq_nil_of_le (by simp;omega)
 rw [List.take_append_of_le_length (by omega),List.drop_append (l₁ := xs),h1,List.drop_replicate]
 simp only [List.nil_append]
 congr 2;simp;omega
theorem ins_e (xs : List (List D)) (row : List D) (i k z m : Nat) (hi : i < xs.length) (hm : 1 ≤ m) :
  (xs.take (i + 1) ++ xs.drop i ++ List.replicate k (anyRow z)).take i ++ [row].take m ++ (xs.take (i + 1) ++ xs.drop i ++ List.replicate k (anyRow z)).drop (i + ([row].take m).length) = xs.take i ++ [row] ++ xs.drop i ++ List.replicate k (anyRow z) := by
 have h1 : (xs.take (i + 1)).length = i + 1 := by simp;omega
 rw [List.take_of_length_le (l := [row]) (by simp;omega),List.append_assoc (xs.take (i + 1)),List.take_append_of_le_length (by omega),List.take_take,Nat.min_eq_left (by omega)]
 have e : i + [row].length = (xs.take (i + 1)).length := by simp;omega
 rw [e,List.drop_left]
 simp
theorem ins_t (xs : List (List D)) (row : List D) (i k z : Nat) (hi : i ≤ xs.length) : (xs.take i ++ [row] ++ xs.drop i ++ List.replicate k (anyRow z)).take (xs.length + 1) = xs.take i ++ [row] ++ xs.drop i := by
 have e : xs.length + 1 = (xs.take i ++ [row] ++ xs.drop i).length := by simp;omega
 rw [e,List.take_left]
theorem ins_mem {xs : List (List D)} {row : List D} {i : Nat} {q : List D → Prop} (h1 : ∀ r ∈ xs,q r) (h2 : q row) : ∀ r ∈ xs.take i ++ [row] ++ xs.drop i,q r := by
 intro r hr
 rcases List.mem_append.1 hr with hr | hr
 ·rcases List.mem_append.1 hr with hr | hr
  ·exact h1 r (List.mem_of_mem_take hr)
  ·rw [List.mem_singleton.1 hr];exact h2
 ·exact h1 r (List.mem_of_mem_drop hr)
theorem ins_gen (z b : Nat) (ZL : List D) (ov rr f : FuncId) (hc : cfun Tryz.prog [] f = some ⟨(.seq (.region 0 [⟨(some 6),(.mov (.k .nil0)),none⟩]) (.seq (.region 1 [⟨(some 10),(.mov (.t 0)),none⟩,⟨(some 11),(.mov (.t 1)),none⟩,⟨(some 12),(.slc z (.t 10) (some (.t 11)) none none),none⟩]) (.seq (.region 2 [⟨(some 13),(.mov (.t 2)),none⟩,⟨(some 14),(.len (.t 13)),none⟩,⟨(some 7),(.mov (.t 14)),none⟩]) (.seq (.seq (.region 3 [⟨(some 15),(.mov (.t 7)),none⟩,⟨(some 16),(.bin .eql (.t 15) (.k (.int .i64 0))),none⟩]) (.cond 16 (.seq (.region 4 [⟨(some 17),(.mov (.t 0)),none⟩,⟨(some 6),(.mov (.t 17)),none⟩]) .ret) .skip)) (.seq (.region 5 [⟨(some 18),(.mov (.t 0)),none⟩,⟨(some 19),(.len (.t 18)),none⟩,⟨(some 8),(.mov (.t 19)),none⟩]) (.seq (.seq (.region 6 [⟨(some 20),(.mov (.t 1)),none⟩,⟨(some 21),(.mov (.t 8)),none⟩,⟨(some 22),(.bin .eql (.t 20) (.t 21)),none⟩]) (.cond 22 (.seq (.region 7 [⟨(some 23),(.mov (.t 0)),none⟩,⟨(some 24),(.mov (.t 2)),none⟩,⟨(some 25),(.app z b ZL (.t 23) (.t 24)),none⟩,⟨(some 6),(.mov (.t 25)),none⟩]) .ret) .skip)) (.seq (.seq (.region 8 [⟨(some 26),(.mov (.t 8)),none⟩,⟨(some 27),(.mov (.t 7)),none⟩,⟨(some 28),(.bin .add (.t 26) (.t 27)),none⟩,⟨(some 29),(.mov (.t 0)),none⟩,⟨(some 30),(.xop 8 [] [(.t 29)]),none⟩,⟨(some 31),(.bin .gtr (.t 28) (.t 30)),none⟩]) (.cond 31 (.seq (.region 9 [⟨(some 32),(.mov (.t 0)),none⟩,⟨(some 33),(.mov (.t 1)),none⟩,⟨(some 34),(.slc z (.t 32) none (some (.t 33)) none),none⟩,⟨(some 35),(.mov (.t 8)),none⟩,⟨(some 36),(.mov (.t 7)),none⟩,⟨(some 37),(.bin .add (.t 35) (.t 36)),none⟩,⟨(some 38),(.mov (.t 1)),none⟩,⟨(some 39),(.bin .sub (.t 37) (.t 38)),none⟩,⟨(some 40),(.xop 11 [z,b] [(.t 34),(.t 39)]),none⟩,⟨(some 9),(.mov (.t 40)),none⟩]) (.seq (.region 10 [⟨(some 41),(.mov (.t 9)),none⟩,⟨(some 42),(.mov (.t 1)),none⟩,⟨(some 43),(.slc z (.t 41) (some (.t 42)) none none),none⟩,⟨(some 44),(.mov (.t 2)),none⟩,⟨(some 45),(.xop 9 [z] [(.t 43),(.t 44)]),none⟩]) (.seq (.draw 11 (.one true ⟨(some 46),(.mov (.t 9)),none⟩ (.one true ⟨(some 47),(.mov (.t 1)),none⟩ (.one true ⟨(some 48),(.mov (.t 7)),none⟩ (.one true ⟨(some 49),(.bin .add (.t 47) (.t 48)),none⟩ (.one true ⟨(some 50),(.slc z (.t 46) (some (.t 49)) none none),none⟩ (.one true ⟨(some 51),(.mov (.t 0)),none⟩ (.one true ⟨(some 52),(.mov (.t 1)),none⟩ (.one true ⟨(some 53),(.slc z (.t 51) (some (.t 52)) none none),none⟩ (.one false ⟨(some 54),(.xop 9 [z] [(.t 50),(.t 53)]),none⟩ .done)))))))))) (.seq (.region 12 [⟨(some 55),(.mov (.t 9)),none⟩,⟨(some 6),(.mov (.t 55)),none⟩]) .ret)))) .skip)) (.seq (.region 13 [⟨(some 56),(.mov (.t 0)),none⟩,⟨(some 57),(.mov (.t 8)),none⟩,⟨(some 58),(.mov (.t 7)),none⟩,⟨(some 59),(.bin .add (.t 57) (.t 58)),none⟩,⟨(some 60),(.slc z (.t 56) none (some (.t 59)) none),none⟩,⟨(some 0),(.mov (.t 60)),none⟩]) (.seq (.seq (.region 14 [⟨(some 61),(.mov (.t 2)),none⟩,⟨(some 62),(.mov (.t 0)),none⟩,⟨(some 63),(.mov (.t 1)),none⟩,⟨(some 64),(.mov (.t 7)),none⟩,⟨(some 65),(.bin .add (.t 63) (.t 64)),none⟩,⟨(some 66),(.slc z (.t 62) (some (.t 65)) none none),none⟩,⟨(some 67),(.call ov [(.t 61),(.t 66)]),none⟩,⟨(some 68),(.not (.t 67)),none⟩]) (.cond 68 (.seq (.draw 15 (.one true ⟨(some 69),(.mov (.t 0)),none⟩ (.one true ⟨(some 70),(.mov (.t 1)),none⟩ (.one true ⟨(some 71),(.mov (.t 7)),none⟩ (.one true ⟨(some 72),(.bin .add (.t 70) (.t 71)),none⟩ (.one true ⟨(some 73),(.slc z (.t 69) (some (.t 72)) none none),none⟩ (.one true ⟨(some 74),(.mov (.t 0)),none⟩ (.one true ⟨(some 75),(.mov (.t 1)),none⟩ (.one true ⟨(some 76),(.slc z (.t 74) (some (.t 75)) none none),none⟩ (.one false ⟨(some 77),(.xop 9 [z] [(.t 73),(.t 76)]),none⟩ .done)))))))))) (.seq (.region 16 [⟨(some 78),(.mov (.t 0)),none⟩,⟨(some 79),(.mov (.t 1)),none⟩,⟨(some 80),(.slc z (.t 78) (some (.t 79)) none none),none⟩,⟨(some 81),(.mov (.t 2)),none⟩,⟨(some 82),(.xop 9 [z] [(.t 80),(.t 81)]),none⟩]) (.seq (.region 17 [⟨(some 83),(.mov (.t 0)),none⟩,⟨(some 6),(.mov (.t 83)),none⟩]) .ret))) .skip)) (.seq (.region 18 [⟨(some 84),(.mov (.t 0)),none⟩,⟨(some 85),(.mov (.t 8)),none⟩,⟨(some 86),(.slc z (.t 84) (some (.t 85)) none none),none⟩,⟨(some 87),(.mov (.t 2)),none⟩,⟨(some 88),(.xop 9 [z] [(.t 86),(.t 87)]),none⟩]) (.seq (.region 19 [⟨(some 89),(.mov (.t 0)),none⟩,⟨(some 90),(.mov (.t 1)),none⟩,⟨(some 91),(.slc z (.t 89) (some (.t 90)) none none),none⟩,⟨(some 92),(.mov (.t 7)),none⟩,⟨(some 93),(.call rr [(.t 91),(.t 92)]),none⟩]) (.seq (.region 20 [⟨(some 94),(.mov (.t 0)),none⟩,⟨(some 6),(.mov (.t 94)),none⟩]) .ret)))))))))))),[(.t 6)],95⟩) (hb : b ≤ 1000) (hz : 0 < z) (hb0 : 0 < b) {tS tR e : TypeId} (hov : ∀ args w,(callFunc ov args).run Tryz.prog w = ((Extern.SlicesOverlaps.overlaps #[tS,tS] #[tR] args).run Tryz.prog w).andThen fun v w' => .ok (.value v) w')
  (hun : Tryz.prog.underlying tS = some (.slice e)) (hsz : szT Tryz.prog e = some z) (xs : List (List D)) (i : Nat) (row : List D) (hi : i ≤ xs.length) (hl : xs.length < 1000000) (hrow : row.length = z) (hxs : ∀ r ∈ xs,r.length = z) (hT : ∀ r ∈ xs,∀ d ∈ r,isT d = true) (hTr : ∀ d ∈ row,isT d = true) :
  HF Tryz.prog f [.own 0,I i,.own 1] [(1,.row z [row]),(0,.row z xs)] 2 (fun d H' nx' => d = .own 2 ∧ H' = [(2,.row z (xs.take i ++ [row] ++ xs.drop i))] ∧ nx' = 3) := by
 refine HF.one (fun _ => rfl) (fun _ => trivial) ?_
 refine hO hc [0,1,2,6,7,8,9,16,22,31,68] [8,12,17] fun B hBN hB0 => ?_
 have hcap : (xs.length + 1) * b ≤ 140737488355328 := Nat.le_trans (Nat.mul_le_mul (show xs.length + 1 ≤ 1000000 by omega) hb) (by omega)
 by_cases hin : i = xs.length
 ·subst hin
  simp [hcap,hrow,hb0,hz]
 have hzi : ¬ ((i : Int) = xs.length) := by omega
 have h0 : xs ≠ [] := by
  rintro rfl
  simp at hi hin;omega
 have hlt : i < xs.length := by omega
 have i1 : InR ((xs.length : Int) + 1) := inW (by omega) (by omega)
 have i2 : InR ((xs.length : Int) + 1 - i) := inW (by omega) (by omega)
 have i3 : InR ((i : Int) + 1) := inW (by omega) (by omega)
 have p1 : (0 : Int) ≤ (xs.length : Int) + 1 := by omega
 have p3 : (0 : Int) ≤ (i : Int) + 1 := by omega
 have hnv : ∀ {d : D},isT d = true → d ≠ .any := fun h e => by rw [e] at h;cases h
 simp [hin,hzi,hi]
 refine W.openR (t := 0) (id := 0) (sz := z) (xs := xs) (by simp) (by simp) h0 fun k => ?_
 simp only [eput]
 refine acode_sound [0,1,2,6,7,8,9,16,22,31,68] [] _ _ _ ?_
 have hA : (xs.take i).length = i := by simp;omega
 have hB : (xs.drop i).length = xs.length - i := by simp
 cases k with
 | zero =>
  have c0 : (xs.length : Int) < xs.length + 1 := by omega
  obtain ⟨m,hm⟩ : ∃ m,m = xs.length + 1 - i := ⟨_,rfl⟩
  have hmz : (xs.length : Int) + 1 - i = (m : Nat) := by omega
  have him : i + m = xs.length + 1 := by omega
  have hm1 : 1 ≤ m := by omega
  have i2' : InR (m : Int) := by rw [← hmz];exact i2
  simp [i1]
  refine XCall.cap (id := 0) (sz := z) (off := 0) (len := xs.length) (cp := xs.length) (by simp) (by simp) ?_
  simp [i1,hmz,i2',c0,hi]
  refine XCall.appmake (id := 0) (off := 0) (len := i) (cp := xs.length) (xs := xs) (n := m) (by simp) (by simp) (by simp) (by simp) (by omega) hz hb0 (by rw [him];exact hcap) fun k => ?_
  rw [List.drop_zero,him]
  obtain ⟨W1,hW1⟩ : ∃ W1,W1 = xs.take i ++ List.replicate (m + k) (anyRow z) := ⟨_,rfl⟩
  have hW2 := ins_a (xs.take i) row i m k z hA hm1
  rw [← hW1] at hW2 ⊢
  obtain ⟨W2,hW2'⟩ : ∃ W2,W2 = xs.take i ++ [row] ++ List.replicate (m + k - 1) (anyRow z) := ⟨_,rfl⟩
  rw [← hW2'] at hW2
  have hW3 := ins_b (xs.take i) (xs.drop i) row i (m + k - 1) z hA (by omega)
  rw [← hW2'] at hW3
  have hk3 : m + k - 1 - (xs.drop i).length = k := by omega
  rw [hk3] at hW3
  obtain ⟨W3,hW3'⟩ : ∃ W3,W3 = xs.take i ++ [row] ++ xs.drop i ++ List.replicate k (anyRow z) := ⟨_,rfl⟩
  rw [← hW3'] at hW3
  have l3 : W3.length = xs.length + 1 + k := by rw [hW3'];simp;omega
  have t3 : W3.take (xs.length + 1) = xs.take i ++ [row] ++ xs.drop i := by rw [hW3'];exact ins_t xs row i k z hi
  have hle1 : i ≤ xs.length + 1 := by omega
  have hle2 : i + 1 ≤ xs.length + 1 := by omega
  have hle3 : xs.length + 1 ≤ xs.length + 1 + k := by omega
  simp [hle1,hle3]
  refine XCall.copy (id := 2) (off := i) (len := xs.length + 1 - i) (xs := W1) (ys := [row]) (cp := xs.length + 1 + k - i) (by simp) rfl (by simp) (by simp) (by simp [srcD]) (fun r hr => ?_) (fun r hr d hd => ?_) ?_
  ·rw [List.mem_singleton.1 (List.mem_of_mem_take hr)];exact hrow
  ·rw [List.mem_singleton.1 (List.mem_of_mem_take hr)] at hd;exact hnv (hTr d hd)
  rw [← hm,hW2]
  simp [i3,hle2,hle3,hi,p3]
  have hdt0 : (xs.drop i).take (xs.length - i) = xs.drop i := List.take_of_length_le (by simp)
  refine XCall.copy (id := 2) (off := i + 1) (len := xs.length + 1 - (i + 1)) (xs := W2) (ys := xs.drop i) (cp := xs.length + 1 + k - (i + 1)) (by simp) rfl (by simp) (by simp) (by simp [srcD,hdt0]) (fun r hr => ?_) (fun r hr d hd => ?_) ?_
  ·exact hxs r (List.mem_of_mem_drop (List.mem_of_mem_take hr))
  ·exact hnv (hT r (List.mem_of_mem_drop (List.mem_of_mem_take hr)) d hd)
  have hdt : (xs.drop i).take (xs.length + 1 - (i + 1)) = xs.drop i := List.take_of_length_le (by simp)
  rw [hdt,hW3]
  simp
  refine W.gh (Gh.closeR (t := 9) (id := 2) (sz := z) (len := xs.length + 1) (xs := W3) (by simp [l3]) (by simp) (by rw [t3];exact ins_mem hT hTr)) ?_
  rw [t3]
  simp only [eput,herase]
  refine acode_sound [0,1,2,6,7,8,9,16,22,31,68] [] _ _ _ ?_
  simp
 | succ k =>
  have c0 : ¬ ((k : Int) + 1 < 1) := by omega
  have c1 : xs.length + 1 ≤ xs.length + (k + 1) := by omega
  have hle1 : i ≤ xs.length + 1 := by omega
  have hle2 : i + 1 ≤ xs.length + 1 := by omega
  simp [i1]
  refine XCall.cap (id := 0) (sz := z) (off := 0) (len := xs.length) (cp := xs.length + (k + 1)) (by simp) (by simp) ?_
  simp [i1,i3,c0,c1,hle1,hle2,p1,p3]
  obtain ⟨U,hU⟩ : ∃ U,U = xs ++ List.replicate (k + 1) (anyRow z) := ⟨_,rfl⟩
  have hC := ins_c xs i k z hlt
  have hD := ins_d xs i k z hlt
  rw [← hU] at hC hD
  obtain ⟨V,hV⟩ : ∃ V,V = xs.take (i + 1) ++ xs.drop i ++ List.replicate k (anyRow z) := ⟨_,rfl⟩
  have hE := ins_e xs row i k z (xs.length + 1 - i) hlt (by omega)
  rw [← hV] at hD hE
  obtain ⟨W3,hW3'⟩ : ∃ W3,W3 = xs.take i ++ [row] ++ xs.drop i ++ List.replicate k (anyRow z) := ⟨_,rfl⟩
  rw [← hW3'] at hE
  have l3 : W3.length = xs.length + (k + 1) := by rw [hW3'];simp;omega
  have t3 : W3.take (xs.length + 1) = xs.take i ++ [row] ++ xs.drop i := by rw [hW3'];exact ins_t xs row i k z hi
  rw [← hU]
  refine WCall.overlaps (sz := z) (off := i + 1) (len := xs.length + 1 - (i + 1)) (cp := xs.length + (k + 1) - (i + 1)) (id1 := 1) (sz1 := z) (id := 0) (zs := [row]) (xs := U) hov hun hsz (by simp) (by simp) (by simp) (by simp) (by simp) (by simp) (by omega) ?_
  simp [i3,p3,hle1,hle2]
  refine XCall.copy (id := 0) (off := i + 1) (len := xs.length + 1 - (i + 1)) (xs := U) (ys := (U.drop i).take (xs.length + 1 - i)) (cp := xs.length + (k + 1) - (i + 1)) (by simp) rfl (by simp) (by simp) (by simp [srcD]) (fun r hr => ?_) (fun r hr d hd => ?_) ?_
  ·rw [show xs.length + 1 - (i + 1) = xs.length - i by omega,hC] at hr
   exact hxs r (List.mem_of_mem_drop hr)
  ·rw [show xs.length + 1 - (i + 1) = xs.length - i by omega,hC] at hr
   exact hnv (hT r (List.mem_of_mem_drop hr) d hd)
  rw [show xs.length + 1 - (i + 1) = xs.length - i by omega,hC,hD]
  simp [i3,p3,hle1,hle2]
  refine XCall.copy (id := 0) (off := i) (len := xs.length + 1 - i) (xs := V) (ys := [row]) (cp := xs.length + (k + 1) - i) (by simp) rfl (by simp) (by simp) (by simp [srcD]) (fun r hr => ?_) (fun r hr d hd => ?_) ?_
  ·rw [List.mem_singleton.1 (List.mem_of_mem_take hr)];exact hrow
  ·rw [List.mem_singleton.1 (List.mem_of_mem_take hr)] at hd;exact hnv (hTr d hd)
  rw [hE]
  simp
  refine W.gh (Gh.closeR (t := 0) (id := 0) (sz := z) (len := xs.length + 1) (xs := W3) (by simp [l3]) (by simp) (by rw [t3];exact ins_mem hT hTr)) ?_
  rw [t3]
  simp only [eput,herase]
  refine acode_sound [0,1,2,6,7,8,9,16,22,31,68] [] _ _ _ ?_
  simp
theorem lov_ext (args : Array Value) (w : World) : (callFunc 181 args).run Tryz.prog w = ((Extern.SlicesOverlaps.overlaps #[40,40] #[4] args).run Tryz.prog w).andThen fun v w' => .ok (.value v) w' :=
 run_callFunc_extern Tryz.func181 (by kernel_rfl) (by kernel_rfl) (by kernel_rfl) (e := Extern.SlicesOverlaps.overlaps #[40,40] #[4]) (by kernel_rfl) args w
theorem lins_hf (xs : List (List D)) (i : Nat) (row : List D) (hi : i ≤ xs.length) (hl : xs.length < 1000000) (hrow : row.length = 6) (hxs : ∀ r ∈ xs,r.length = 6) (hT : ∀ r ∈ xs,∀ d ∈ r,isT d = true) (hTr : ∀ d ∈ row,isT d = true) :
  HF Tryz.prog 161 [.own 0,I i,.own 1] [(1,.row 6 [row]),(0,.row 6 xs)] 2 (fun d H' nx' => d = .own 2 ∧ H' = [(2,.row 6 (xs.take i ++ [row] ++ xs.drop i))] ∧ nx' = 3) :=
 ins_gen 6 48 [(.int .i64 0),(.int .i64 0),(.int .i64 0),(.int .i64 0),(.int .i64 0),(.int .i64 0)] 181 182 _ (by kernel_rfl) (by omega) (by omega) (by omega) lov_ext Tryz.underlying40 (by kernel_rfl) xs i row hi hl hrow hxs hT hTr
theorem tov_ext (args : Array Value) (w : World) : (callFunc 183 args).run Tryz.prog w = ((Extern.SlicesOverlaps.overlaps #[164,164] #[4] args).run Tryz.prog w).andThen fun v w' => .ok (.value v) w' :=
 run_callFunc_extern Tryz.func183 (by kernel_rfl) (by kernel_rfl) (by kernel_rfl) (e := Extern.SlicesOverlaps.overlaps #[164,164] #[4]) (by kernel_rfl) args w
theorem tins_hf (xs : List (List D)) (i : Nat) (row : List D) (hi : i ≤ xs.length) (hl : xs.length < 1000000) (hrow : row.length = 2) (hxs : ∀ r ∈ xs,r.length = 2) (hT : ∀ r ∈ xs,∀ d ∈ r,isT d = true) (hTr : ∀ d ∈ row,isT d = true) :
  HF Tryz.prog 164 [.own 0,I i,.own 1] [(1,.row 2 [row]),(0,.row 2 xs)] 2 (fun d H' nx' => d = .own 2 ∧ H' = [(2,.row 2 (xs.take i ++ [row] ++ xs.drop i))] ∧ nx' = 3) :=
 ins_gen 2 16 [(.int .i64 0),(.int .i64 0)] 183 184 _ (by kernel_rfl) (by omega) (by omega) (by omega) tov_ext Tryz.underlying164 (by kernel_rfl) xs i row hi hl hrow hxs hT hTr
theorem fov_ext (args : Array Value) (w : World) : (callFunc 121 args).run Tryz.prog w = ((Extern.SlicesOverlaps.overlaps #[39,39] #[4] args).run Tryz.prog w).andThen fun v w' => .ok (.value v) w' :=
 run_callFunc_extern Tryz.func121 (by kernel_rfl) (by kernel_rfl) (by kernel_rfl) (e := Extern.SlicesOverlaps.overlaps #[39,39] #[4]) (by kernel_rfl) args w
theorem fins_hf (xs : List (List D)) (i : Nat) (row : List D) (hi : i ≤ xs.length) (hl : xs.length < 1000000) (hrow : row.length = 7) (hxs : ∀ r ∈ xs,r.length = 7) (hT : ∀ r ∈ xs,∀ d ∈ r,isT d = true) (hTr : ∀ d ∈ row,isT d = true) :
  HF Tryz.prog 86 [.own 0,I i,.own 1] [(1,.row 7 [row]),(0,.row 7 xs)] 2 (fun d H' nx' => d = .own 2 ∧ H' = [(2,.row 7 (xs.take i ++ [row] ++ xs.drop i))] ∧ nx' = 3) :=
 ins_gen 7 56 [(.int .i64 0),(.int .i64 0),(.int .i64 0),(.int .i64 0),(.bool false),(.int .i64 0),(.int .i64 0)] 121 122 _ (by kernel_rfl) (by omega) (by omega) (by omega) fov_ext Tryz.underlying39 (by kernel_rfl) xs i row hi hl hrow hxs hT hTr
end Go.Proofs.YtibemmkfcjlmpaaGreat
