/- This text holds, one behind the other, the texts that say what the program computes, step by step, and the rules that they need. They have no condition of their own. -/
import Derived.Test.YtibemmkfcjlmpaaGreatZaa
import Derived.OrdersHeld
import Derived.Deep.RegionHeld
import Derived.Scope
import Derived.KernelRfl
import Derived.Maps.Keyed
import Derived.Maps.RangeRun
import Derived.MapKept
import Derived.Lib.AppendZerosOnto
import Derived.Laws.CopyRow
import Derived.Laws.IdiomCopy
import Derived.Lib.Overlaps
import Derived.Deep.AppendLies
import Derived.Deep.OwnShut
import Derived.Deep.Slices
import Derived.Deep.Onto
import Derived.Laws.AppendOwnNone
import Derived.Test.YtibemmkfcjlmpaaGreatProg
import Derived.DeepKeys4
set_option linter.unusedSimpArgs false
set_option linter.unusedVariables false
set_option maxRecDepth 100000
set_option maxHeartbeats 8000000
namespace Go.Proofs.YtibemmkfcjlmpaaGreat
open Go.RowKit
section
variable {P : Program} {sb : Bool} {B : Base} {w w' : World} {s s' : Nat → Value} {Z Z' : Cells} {st : St} {a : Act} {o : Oper} {K : St → Prop} {K' : Act → World → Prop} {Q : Exit → Act → World → Prop}
theorem cop_call {o : Op} {f : FuncId} {as_ : List Opd} (hc : cop P o = some (.call f as_)) : ∃ c,o = .call c ∧ c.callee = .value (.func f) ∧ opdsC c.args.toList = some as_ := by
 by_cases hl : opLoud o
 ·cases o with
  | call c =>
   refine ⟨c,rfl,?_⟩
   simp only [cop] at hc
   split at hc
   ·rename_i g hg
    split at hc <;> simp at hc
    rename_i f' ys hys
    obtain ⟨rfl,rfl⟩ := hc
    exact ⟨hg,hys⟩
   ·rename_i b hb
    split at hc
    ·split at hc <;> (try split at hc) <;> simp at hc
    ·simp at hc
    ·simp at hc
    ·split at hc
     ·split at hc
      ·split at hc
       ·split at hc <;> simp at hc
       ·cases hc
      ·cases hc
     ·cases hc
    ·cases hc
   ·cases hc
  | alloc t => simp [cop] at hc
  | box t x => simp [cop] at hc
  | store t x y => simp only [cop] at hc;split at hc <;> simp at hc
  | buildSlice t n qs =>
   simp only [cop] at hc
   split at hc
   ·split at hc
    ·split at hc <;> simp at hc
    ·cases hc
   ·cases hc
  | makeSlice t l c =>
   simp only [cop] at hc
   split at hc
   ·split at hc
    ·split at hc <;> simp at hc
    ·cases hc
   ·cases hc
  | _ => exact hl.elim
 ·have := cop_quiet hl hc
  cases this
theorem cop_callv {o : Op} {x : Opd} {as_ : List Opd} (hc : cop P o = some (.callv x as_)) : ∃ c t,o = .call c ∧ x = .t t ∧ c.callee = .value (.tmp t) ∧ opdsC c.args.toList = some as_ := by
 by_cases hl : opLoud o
 ·cases o with
  | call c =>
   simp only [cop] at hc
   split at hc
   ·rename_i g hg
    split at hc <;> simp at hc
    rename_i t ys hys
    obtain ⟨rfl,rfl⟩ := hc
    exact ⟨c,t,rfl,rfl,hg,hys⟩
   ·rename_i b hb
    split at hc
    ·split at hc <;> (try split at hc) <;> simp at hc
    ·simp at hc
    ·simp at hc
    ·split at hc
     ·split at hc
      ·split at hc
       ·split at hc <;> simp at hc
       ·cases hc
      ·cases hc
     ·cases hc
    ·cases hc
   ·cases hc
  | alloc t => simp [cop] at hc
  | box t x => simp [cop] at hc
  | store t x y => simp only [cop] at hc;split at hc <;> simp at hc
  | buildSlice t n qs =>
   simp only [cop] at hc
   split at hc
   ·split at hc
    ·split at hc <;> simp at hc
    ·cases hc
   ·cases hc
  | makeSlice t l c =>
   simp only [cop] at hc
   split at hc
   ·split at hc
    ·split at hc <;> simp at hc
    ·cases hc
   ·cases hc
  | _ => exact hl.elim
 ·have := cop_quiet hl hc
  cases this
theorem WCall.of {f : FuncId} {as_ : List Opd} {dst : Option Nat} (hok : oks st.env (.call f as_) = true) (hc : CallOk P sb B f (as_.map (evS st.env)) dst st K) : WCall P sb B (.call f as_) dst st K := by
 intro o s Z a w K' Q hcop hd hdst h hG
 obtain ⟨hcal,hc⟩ := hc
 obtain ⟨⟨cal,ars,ats⟩,ho,hcl,hys⟩ := cop_call hcop
 obtain ⟨ars⟩ := ars
 simp only at hcl hys
 subst hcl
 obtain ⟨g1,g2⟩ := args_sound h hys (fun y hy => oks_mem hok hy)
 have hcalls := hc s Z w (ars.map a.eval).toArray h.h (by simp [g1]) (fun j x hx => by simpa [Array.getD_eq_getD_getElem?] using g2 j x hx)
 refine wp_enter (f := f) (vs := (ars.map a.eval).toArray) ?_ (hcalls.mono fun e w' ⟨v,he,hbl,hL⟩ => ⟨v,he,goes_call h (by rw [hd];exact hdst) hbl (by rw [hd];exact hL) hG⟩)
 unfold execOp;rw [ho]
 have := callFunc_run (P := P) (w := w) hcal (ars.map a.eval).toArray
 simpa [resolve,invoke,Act.eval,Deferred.ofValue] using this
theorem WCall.ofv {x : Opd} {f : FuncId} {as_ : List Opd} {cs : List D} {dst : Option Nat} (hok : oks st.env (.callv x as_) = true) (hf : evS st.env x = .fn f cs) (hc : CallOk P sb B f (as_.map (evS st.env) ++ cs) dst st K) : WCall P sb B (.callv x as_) dst st K := by
 intro o s Z a w K' Q hcop hd hdst h hG
 obtain ⟨hcal,hc⟩ := hc
 obtain ⟨⟨cal,ars,ats⟩,t,ho,rfl,hcl,hys⟩ := cop_callv hcop
 obtain ⟨ars⟩ := ars
 simp only at hcl hys
 subst hcl
 obtain ⟨g1,g2⟩ := args_sound h hys (fun y hy => oks_mem hok (List.mem_cons_of_mem _ hy))
 have hvf := h.vr (x := .tmp t) (y := .t t) rfl (oks_mem hok (by simp [opnds]))
 rw [hf] at hvf
 generalize hav : a.eval (.tmp t) = fv at hvf
 cases hvf with
 | fn _ _ us hul huc =>
 have hcalls := hc s Z w ((ars.map a.eval).toArray ++ us) h.h (by simp [g1,hul]) (fun j x hx => by
  rw [Array.getD_eq_getD_getElem?]
  by_cases hj : j < as_.length
  ·rw [List.getElem?_append_left (by simpa using hj)] at hx
   rw [Array.getElem?_append_left (by simp;omega)]
   simpa using g2 j x hx
  ·rw [List.getElem?_append_right (by simpa using hj)] at hx
   rw [Array.getElem?_append_right (by simp;omega)]
   have := huc _ x hx
   rw [Array.getD_eq_getD_getElem?] at this
   simp only [List.length_map,List.size_toArray] at this ⊢
   rw [← g1]
   exact VR.of_vc (VC.of_vt this))
 refine wp_enter (f := f) (vs := (ars.map a.eval).toArray ++ us) ?_ (hcalls.mono fun e w' ⟨v,he,hbl,hL⟩ => ⟨v,he,goes_call h (by rw [hd];exact hdst) hbl (by rw [hd];exact hL) hG⟩)
 unfold execOp;rw [ho]
 have := callFunc_run (P := P) (w := w) hcal ((ars.map a.eval).toArray ++ us)
 simpa [resolve,invoke,hav,Deferred.ofValue] using this
theorem brwV_vv {H : List (Nat × Ob)} {x y : D} (hb : brwV H x = some y) {v : Value} (h : VR s Z x v) : VV s Z x v := by
 cases x <;> simp only [brwV,brwC,reduceCtorEq] at hb <;> exact h
theorem CallOk.pf {f : FuncId} {ds es : List D} {d : D} {dst : Option Nat} (hpf : PF P f es d) (hes : match omap (brwV st.heap) ds with | some e => leVL e es | none => False) (hno : (ds.all noV || flatR d) = true) (hK : K ⟨putO st.env dst d,st.heap,st.nx⟩) : CallOk P sb B f ds dst st K := by
 obtain ⟨hcal,hpf⟩ := hpf
 refine ⟨hcal,fun s Z w vs h hl hv0 => ?_⟩
 split at hes
 case h_2 => exact hes.elim
 rename_i es' hes'
 obtain ⟨g1,g2⟩ := omap_some hes'
 obtain ⟨l1,l2⟩ := leVL_get hes
 have hv : ∀ j x,ds[j]? = some x → VV s Z x (vs.getD j undef) := fun j x hx => by
  have hlt : j < es'.length := by rw [g1];exact (List.getElem?_eq_some_iff.1 hx).1
  obtain ⟨y,hy,hb⟩ := g2 j _ (List.getElem?_eq_getElem hlt)
  rw [hx] at hy
  cases hy
  exact brwV_vv hb (hv0 j x hx)
 by_cases hall : ds.all noV = true
 ·have hee : es' = ds := List.ext_getElem? fun j => by
   cases hj : es'[j]? with
   | none => rw [List.getElem?_eq_none_iff] at hj;rw [List.getElem?_eq_none (by omega)]
   | some x =>
    obtain ⟨y,hy,hb⟩ := g2 j x hj
    rw [hy,brwV_no hb (List.all_eq_true.1 hall y (List.mem_of_getElem? hy))]
  subst hee
  refine (hpf Z w vs h.zok (by omega) fun j x hx => by
   obtain ⟨y,hy,hle⟩ := l2 j x hx
   exact leV_sound hle ((hv j y hy).no (List.all_eq_true.1 hall y (List.mem_of_getElem? hy)))).mono fun e w' ⟨v,Z',he,hr,hzx,hb⟩ => ⟨v,he,fun _ => hb,d,st.heap,st.nx,s,Z',hr.of0.1,hr.lt0.mono (Nat.zero_le _),h.call hb hzx,Nat.le_refl _,fun _ _ => rfl,hzx.old,hK⟩
 ·have hf : flatR d = true := by simpa [hall] using hno
  refine (hpf (allZ w) w vs (fun b o v h => h) (by omega) fun j x hx => ?_).mono fun e w' ⟨v,Z',he,hr,hzx,hb⟩ => ⟨v,he,fun _ => hb,d,st.heap,st.nx,s,Z,hr.flat hf,hr.lt0.mono (Nat.zero_le _),h.call hb (Zx.refl h.zok hb),Nat.le_refl _,fun _ _ => rfl,fun _ _ _ h => h,hK⟩
  obtain ⟨x',hx',hle⟩ := l2 j x hx
  obtain ⟨y,hy,hb⟩ := g2 j x' hx'
  exact leV_sound hle (brwV_sound h.know (fun b o v hz => h.zok b o v hz) (fun _ _ _ _ _ o v hc => hc) hb (hv j y hy))
theorem CallOk.pfn {f : FuncId} {ds es : List D} {d : D} {dst : Option Nat} (hpf : PFn P f es d) (hes : match omap (brwV st.heap) ds with | some e => leVL e es | none => False) (hK : K ⟨putO st.env dst d,st.heap,st.nx⟩) : CallOk P sb B f ds dst st K := by
 obtain ⟨hcal,hpf⟩ := hpf
 refine ⟨hcal,fun s Z w vs h hl hv0 => ?_⟩
 split at hes
 case h_2 => exact hes.elim
 rename_i es' hes'
 obtain ⟨g1,g2⟩ := omap_some hes'
 obtain ⟨l1,l2⟩ := leVL_get hes
 have hv : ∀ j x,ds[j]? = some x → VV s Z x (vs.getD j undef) := fun j x hx => by
  have hlt : j < es'.length := by rw [g1];exact (List.getElem?_eq_some_iff.1 hx).1
  obtain ⟨y,hy,hb⟩ := g2 j _ (List.getElem?_eq_getElem hlt)
  rw [hx] at hy
  cases hy
  exact brwV_vv hb (hv0 j x hx)
 refine (hpf (allZ w) w vs (fun b o v h => h) (by omega) fun j x hx => ?_).mono ?_
 ·obtain ⟨x',hx',hle⟩ := l2 j x hx
  obtain ⟨y,hy,hb⟩ := g2 j x' hx'
  exact leV_sound hle (brwV_sound h.know (fun b o v hz => h.zok b o v hz) (fun _ _ _ _ _ o v hc => hc) hb (hv j y hy))
 rintro e w' ⟨v,Zn,he,hr,hn,hb⟩
 have hZ : ∀ b o u,Z b o = some u → b < w.heap.size := fun b o u hu => World.block_lt_of_cell? w _ (h.zok b o u hu)
 have hzx : Zx Z (fun b o => match Z b o with | some u => some u | none => Zn b o) w w' := by
  refine ⟨fun b o u hu => by simp only [hu],fun b o u hu => ?_,fun b o u hu => ?_⟩
  ·cases hq : Z b o with
   | none => simp only [hq] at hu;exact .inr (hn b o u hu).1
   | some u' => simp only [hq] at hu;exact .inl (by rw [← hu])
  ·cases hq : Z b o with
   | none => simp only [hq] at hu;exact (hn b o u hu).2
   | some u' =>
    simp only [hq,Option.some.injEq] at hu
    subst hu
    have := h.zok b o u' hq
    rw [hb.cell (p := ⟨b,o,none⟩) (World.block_lt_of_cell? w _ this)];exact this
 refine ⟨v,he,fun _ => hb,d,st.heap,st.nx,s,_,?_,hr.lt0.mono (Nat.zero_le _),h.call hb hzx,Nat.le_refl _,fun _ _ => rfl,hzx.old,hK⟩
 refine VR.mono (n := 0) (fun b o u hu => ?_) (fun _ h => by omega) hr.lt0 (hr.of0 (s := s)).1
 cases hq : Z b o with
 | none => simp only [hu]
 | some u' => have := hZ b o u' hq;have := (hn b o u hu).1;omega
end
theorem wcS {P : Program} {sb : Bool} {B : Base} {op : AOp} {dst : Option Nat} {st : St} {K : St → Prop} (h : WCall P sb B op dst st K) : WCall P sb B op dst st K := h
theorem aI {a b c : Prop} (x : a) (y : b) (z : c) : (a ∧ b) ∧ c := ⟨⟨x, y⟩, z⟩
def rnC (ρ : Nat → Nat) : D → D
 | .own id => .own (ρ id)
 | .ptr id j => .ptr (ρ id) j
 | .pel id i sz j => .pel (ρ id) i sz j
 | .sl id sz off len cap => .sl (ρ id) sz off len cap
 | .clo f ids => .clo f (ids.map ρ)
 | d => d
def rnV (ρ : Nat → Nat) : D → D
 | .agg ds => .agg (ds.map (rnC ρ))
 | d => rnC ρ d
def rnR (ρ : Nat → Nat) : D → D
 | .tup ds => .tup (ds.map (rnV ρ))
 | d => rnV ρ d
def rnO (ρ : Nat → Nat) : Ob → Ob
 | .cells ds => .cells (ds.map (rnC ρ))
 | .row sz xs => .row sz xs
 | .rowd sz xs => .rowd sz (xs.map (·.map (rnC ρ)))
 | .blk sz xs => .blk sz (xs.map (·.map (rnC ρ)))
 | .mp bare es ck => .mp bare es ck
 | .it m since seen last => .it (ρ m) since seen last
section
variable {s s' : Nat → Value} {Z : Cells} {w : World} {ρ : Nat → Nat} {n m : Nat}
theorem VC.rn (hs : ∀ id,id < n → s' (ρ id) = s id) {d : D} {v : Value} (hl : LtC n d) : VC s' Z (rnC ρ d) v ↔ VC s Z d v := by
 cases d with
 | own id => simp only [rnC,VC,hs id hl]
 | ptr id j => simp only [rnC,VC,hs id hl]
 | pel id i sz j => simp only [rnC,VC,hs id hl]
 | sl id sz off len cap => simp only [rnC,VC,hs id hl]
 | clo f ids =>
  constructor
  ·rintro ⟨vs,h1,h2,h3⟩
   refine ⟨vs,h1,by simpa using h2,fun j id hj => ?_⟩
   obtain ⟨b,g1,g2⟩ := h3 j (ρ id) (by rw [List.getElem?_map,hj];rfl)
   exact ⟨b,by rw [← hs id (hl id (List.mem_of_getElem? hj))];exact g1,g2⟩
  ·rintro ⟨vs,h1,h2,h3⟩
   refine ⟨vs,h1,by simpa using h2,fun j id hj => ?_⟩
   rw [List.getElem?_map] at hj
   cases hi : ids[j]? with
   | none => rw [hi] at hj;cases hj
   | some i =>
    rw [hi] at hj
    simp only [Option.map_some,Option.some.injEq] at hj
    subst hj
    obtain ⟨b,g1,g2⟩ := h3 j i hi
    exact ⟨b,by rw [hs i (hl i (List.mem_of_getElem? hi))];exact g1,g2⟩
 | _ => exact Iff.rfl
theorem map_get {α β : Type} (f : α → β) (l : List α) (j : Nat) (y : β) : (l.map f)[j]? = some y ↔ ∃ x,l[j]? = some x ∧ f x = y := by
 rw [List.getElem?_map];cases l[j]? <;> simp
theorem VV.rn (hs : ∀ id,id < n → s' (ρ id) = s id) {d : D} {v : Value} (hl : LtV n d) : VV s' Z (rnV ρ d) v ↔ VV s Z d v := by
 cases d with
 | agg ds =>
  constructor
  ·rintro ⟨vs,rfl,h1,h2⟩
   refine ⟨vs,rfl,by simpa using h1,fun j x hx => ?_⟩
   exact (VC.rn hs (hl x (List.mem_of_getElem? hx))).1 (h2 j _ ((map_get _ _ _ _).2 ⟨x,hx,rfl⟩))
  ·rintro ⟨vs,rfl,h1,h2⟩
   refine ⟨vs,rfl,by simpa using h1,fun j y hy => ?_⟩
   obtain ⟨x,hx,rfl⟩ := (map_get _ _ _ _).1 hy
   exact (VC.rn hs (hl x (List.mem_of_getElem? hx))).2 (h2 j x hx)
 | own id => exact VC.rn (Z := Z) (d := .own id) hs hl
 | ptr id j => exact VC.rn (Z := Z) (d := .ptr id j) hs hl
 | pel id i sz j => exact VC.rn (Z := Z) (d := .pel id i sz j) hs hl
 | sl id sz off len cap => exact VC.rn (Z := Z) (d := .sl id sz off len cap) hs hl
 | clo f ids => exact VC.rn (Z := Z) (d := .clo f ids) hs hl
 | _ => exact Iff.rfl
theorem VR.rn (hs : ∀ id,id < n → s' (ρ id) = s id) {d : D} {v : Value} (hl : LtR n d) : VR s' Z (rnR ρ d) v ↔ VR s Z d v := by
 cases d with
 | tup ds =>
  constructor
  ·rintro ⟨vs,rfl,h1,h2⟩
   refine ⟨vs,rfl,by simpa using h1,fun j x hx => ?_⟩
   exact (VV.rn hs (hl x (List.mem_of_getElem? hx))).1 (h2 j _ ((map_get _ _ _ _).2 ⟨x,hx,rfl⟩))
  ·rintro ⟨vs,rfl,h1,h2⟩
   refine ⟨vs,rfl,by simpa using h1,fun j y hy => ?_⟩
   obtain ⟨x,hx,rfl⟩ := (map_get _ _ _ _).1 hy
   exact (VV.rn hs (hl x (List.mem_of_getElem? hx))).2 (h2 j x hx)
 | agg ds => exact VV.rn (Z := Z) (d := .agg ds) hs hl
 | own id => exact VC.rn (Z := Z) (d := .own id) hs hl
 | ptr id j => exact VC.rn (Z := Z) (d := .ptr id j) hs hl
 | pel id i sz j => exact VC.rn (Z := Z) (d := .pel id i sz j) hs hl
 | sl id sz off len cap => exact VC.rn (Z := Z) (d := .sl id sz off len cap) hs hl
 | clo f ids => exact VC.rn (Z := Z) (d := .clo f ids) hs hl
 | _ => exact Iff.rfl
theorem LtC.rn (hm : ∀ id,id < n → ρ id < m) {d : D} (hl : LtC n d) : LtC m (rnC ρ d) := by
 cases d with
 | clo f ids =>
  intro id hid
  obtain ⟨i,hi,rfl⟩ := List.mem_map.1 hid
  exact hm i (hl i hi)
 | _ => first | exact hm _ hl | trivial
theorem LtV.rn (hm : ∀ id,id < n → ρ id < m) {d : D} (hl : LtV n d) : LtV m (rnV ρ d) := by
 cases d with
 | agg ds => intro y hy;obtain ⟨x,hx,rfl⟩ := List.mem_map.1 hy;exact LtC.rn hm (hl x hx)
 | own id => exact hm _ hl
 | ptr id j => exact hm _ hl
 | pel id i sz j => exact hm _ hl
 | sl id sz off len cap => exact hm _ hl
 | clo f ids => exact LtC.rn (d := .clo f ids) hm hl
 | _ => trivial
theorem LtR.rn (hm : ∀ id,id < n → ρ id < m) {d : D} (hl : LtR n d) : LtR m (rnR ρ d) := by
 cases d with
 | tup ds => intro y hy;obtain ⟨x,hx,rfl⟩ := List.mem_map.1 hy;exact LtV.rn hm (hl x hx)
 | agg ds => exact LtV.rn (d := .agg ds) hm hl
 | own id => exact hm _ hl
 | ptr id j => exact hm _ hl
 | pel id i sz j => exact hm _ hl
 | sl id sz off len cap => exact hm _ hl
 | clo f ids => exact LtC.rn (d := .clo f ids) hm hl
 | _ => trivial
theorem LtO.rn (hm : ∀ id,id < n → ρ id < m) {ob : Ob} (hl : LtO n ob) : LtO m (rnO ρ ob) := by
 cases ob with
 | cells ds => intro y hy;obtain ⟨x,hx,rfl⟩ := List.mem_map.1 hy;exact LtC.rn hm (hl x hx)
 | row sz xs => trivial
 | mp bare es ck => trivial
 | it m since seen last => exact hm _ hl
 | rowd sz xs =>
  intro r hr y hy
  obtain ⟨r',hr',rfl⟩ := List.mem_map.1 hr
  obtain ⟨x,hx,rfl⟩ := List.mem_map.1 hy
  exact LtC.rn hm (hl r' hr' x hx)
 | blk sz xs =>
  intro r hr y hy
  obtain ⟨r',hr',rfl⟩ := List.mem_map.1 hr
  obtain ⟨x,hx,rfl⟩ := List.mem_map.1 hy
  exact LtC.rn hm (hl r' hr' x hx)
theorem rnC_any {ρ : Nat → Nat} {d : D} : rnC ρ d = .any ↔ d = .any := by
 cases d <;> simp [rnC]
theorem ObOk.rn (hs : ∀ id,id < n → s' (ρ id) = s id) {ob : Ob} {v : Value} (hl : LtO n ob) : ObOk s' Z w (rnO ρ ob) v ↔ ObOk s Z w ob v := by
 cases ob with
 | cells ds =>
  constructor
  ·rintro ⟨b,T,cs,rfl,h1,h2,h3⟩
   refine ⟨b,T,cs,rfl,h1,by simpa using h2,fun j x hx => ?_⟩
   exact (VC.rn hs (hl x (List.mem_of_getElem? hx))).1 (h3 j _ ((map_get _ _ _ _).2 ⟨x,hx,rfl⟩))
  ·rintro ⟨b,T,cs,rfl,h1,h2,h3⟩
   refine ⟨b,T,cs,rfl,h1,by simpa using h2,fun j y hy => ?_⟩
   obtain ⟨x,hx,rfl⟩ := (map_get _ _ _ _).1 hy
   exact (VC.rn hs (hl x (List.mem_of_getElem? hx))).2 (h3 j x hx)
 | row sz xs => exact Iff.rfl
 | mp bare es ck => exact Iff.rfl
 | it m since seen last => have := hs m hl;simp only [rnO,ObOk,this]
 | rowd sz xs =>
  constructor
  ·rintro ⟨h1,h2,h3⟩
   refine ⟨h1,fun row hr => by simpa using h2 _ (List.mem_map.2 ⟨row,hr,rfl⟩),?_⟩
   rcases h3 with ⟨h3,h4⟩ | ⟨g,cap,cur,e,h3,h4,h5,h6,h7,h8⟩
   ·exact .inl ⟨by simpa using h3,h4⟩
   ·refine .inr ⟨g,cap,cur,e,by simpa using h3,h4,by simpa using h5,h6,h7,fun i row j d hi hj => ?_⟩
    exact (VC.rn hs (hl row (List.mem_of_getElem? hi) d (List.mem_of_getElem? hj))).1 (h8 i _ j _ ((map_get _ _ _ _).2 ⟨row,hi,rfl⟩) ((map_get _ _ _ _).2 ⟨d,hj,rfl⟩))
  ·rintro ⟨h1,h2,h3⟩
   refine ⟨h1,fun row hr => ?_,?_⟩
   ·obtain ⟨r,hr',rfl⟩ := List.mem_map.1 hr
    simpa using h2 r hr'
   ·rcases h3 with ⟨h3,h4⟩ | ⟨g,cap,cur,e,h3,h4,h5,h6,h7,h8⟩
    ·exact .inl ⟨by simpa using h3,h4⟩
    ·refine .inr ⟨g,cap,cur,e,by simpa using h3,h4,by simpa using h5,h6,h7,fun i row j d hi hj => ?_⟩
     obtain ⟨r,hr',rfl⟩ := (map_get _ _ _ _).1 hi
     obtain ⟨x,hx,rfl⟩ := (map_get _ _ _ _).1 hj
     exact (VC.rn hs (hl r (List.mem_of_getElem? hr') x (List.mem_of_getElem? hx))).2 (h8 i r j x hr' hx)
 | blk sz xs =>
  constructor
  ·rintro ⟨h1,h2,g,n',cur,e,h3,h4,h5,h6,h7,h8⟩
   refine ⟨h1,fun row hr => by simpa using h2 _ (List.mem_map.2 ⟨row,hr,rfl⟩),g,n',cur,e,by simpa using h3,h4,by simpa using h5,by simpa using h6,by simpa using h7,fun i row j d hi hj hd => ?_⟩
   exact (VC.rn hs (hl row (List.mem_of_getElem? hi) d (List.mem_of_getElem? hj))).1 (h8 i _ j _ ((map_get _ _ _ _).2 ⟨row,hi,rfl⟩) ((map_get _ _ _ _).2 ⟨d,hj,rfl⟩) fun h => hd (rnC_any.1 h))
  ·rintro ⟨h1,h2,g,n',cur,e,h3,h4,h5,h6,h7,h8⟩
   refine ⟨h1,fun row hr => ?_,g,n',cur,e,by simpa using h3,h4,by simpa using h5,by simpa using h6,by simpa using h7,fun i row j d hi hj hd => ?_⟩
   ·obtain ⟨r,hr',rfl⟩ := List.mem_map.1 hr
    simpa using h2 r hr'
   ·obtain ⟨r,hr',rfl⟩ := (map_get _ _ _ _).1 hi
    obtain ⟨x,hx,rfl⟩ := (map_get _ _ _ _).1 hj
    exact (VC.rn hs (hl r (List.mem_of_getElem? hr') x (List.mem_of_getElem? hx))).2 (h8 i r j x hr' hx fun h => hd (by rw [h];rfl))
end
def rho (l : List Nat) (n0 nx id : Nat) : Nat := if id < n0 then l.getD id 0 else nx + (id - n0)
def hputs (ρ : Nat → Nat) : List (Nat × Ob) → List (Nat × Ob) → List (Nat × Ob)
 | [],H => H
 | (id,ob) :: L,H => eput (hputs ρ L H) (ρ id) (rnO ρ ob)
def herases : List Nat → List (Nat × Ob) → List (Nat × Ob)
 | [],H => H
 | k :: ks,H => herases ks (herase H k)
theorem hget_hputs {ρ : Nat → Nat} {H : List (Nat × Ob)} {k : Nat} {ob : Ob} : ∀ {L : List (Nat × Ob)},hget (hputs ρ L H) k = some ob → (∃ id ob',hget L id = some ob' ∧ k = ρ id ∧ ob = rnO ρ ob') ∨ hget H k = some ob
 | [],h => .inr h
 | (id,o) :: L,h => by
  simp only [hputs,hget_eput] at h
  split at h
  ·rename_i hk
   cases h
   exact .inl ⟨id,o,by simp [hget],hk,rfl⟩
  ·rename_i hk
   rcases hget_hputs h with ⟨id',o',h1,h2,h3⟩ | h
   ·refine .inl ⟨id',o',?_,h2,h3⟩
    have : id' ≠ id := by rintro rfl;exact hk h2
    simp [hget,this,h1]
   ·exact .inr h
theorem hget_herases {k : Nat} {ob : Ob} : ∀ {l : List Nat} {H : List (Nat × Ob)},hget (herases l H) k = some ob → hget H k = some ob ∧ k ∉ l
 | [],H,h => ⟨h,by simp⟩
 | j :: l,H,h => by
  obtain ⟨h1,h2⟩ := hget_herases (l := l) h
  rw [hget_herase] at h1
  split at h1
  ·cases h1
  ·rename_i hj;exact ⟨h1,by simp [hj,h2]⟩
theorem hget_mem {id : Nat} {ob : Ob} : ∀ {H : List (Nat × Ob)},hget H id = some ob → (id,ob) ∈ H
 | [],h => by cases h
 | (k,o) :: H,h => by
  simp only [hget] at h
  split at h
  ·rename_i e;cases h;subst e;simp
  ·exact List.mem_cons_of_mem _ (hget_mem h)
section
variable {P : Program} {sb : Bool} {B : Base} {st : St} {K : St → Prop}
theorem CallOk.hf {f : FuncId} {ds ds0 : List D} {dst : Option Nat} {H0 : List (Nat × Ob)} {n0 : Nat} {R : D → List (Nat × Ob) → Nat → Prop} (hf : HF P f ds0 H0 n0 R) (hsb : sb = true → H0 = []) (l : List Nat)
  (hl : l.length = n0) (hnd : l.Nodup) (hlt : ∀ k ∈ l,k < st.nx) (hds : ds = ds0.map (rnV (rho l n0 st.nx))) (hao : ds0.all argOk = true) (hdl : ∀ d ∈ ds0,LtV n0 d)
  (hH0 : ∀ p ∈ H0,p.1 < n0 ∧ LtO n0 p.2 ∧ hget st.heap (rho l n0 st.nx p.1) = some (rnO (rho l n0 st.nx) p.2))
  (hK : ∀ d H' nx',n0 ≤ nx' → R d H' nx' → K ⟨putO st.env dst (rnR (rho l n0 st.nx) d),hputs (rho l n0 st.nx) H' (herases l st.heap),st.nx + (nx' - n0)⟩) : CallOk P sb B f ds dst st K := by
 obtain ⟨hcal,hf⟩ := hf
 refine ⟨hcal,fun s Z w vs h hvl hv0 => ?_⟩
 subst hds
 have hlow : ∀ id,id < n0 → rho l n0 st.nx id = l.getD id 0 ∧ rho l n0 st.nx id ∈ l ∧ rho l n0 st.nx id < st.nx := fun id hid => by
  have h1 : rho l n0 st.nx id = l.getD id 0 := by simp [rho,hid]
  have h2 : l.getD id 0 ∈ l := by
   rw [List.getD_eq_getElem?_getD,List.getElem?_eq_getElem (by omega)]
   exact List.getElem_mem _
  exact ⟨h1,by rw [h1];exact h2,by rw [h1];exact hlt _ h2⟩
 have hinj0 : ∀ i j,i < n0 → j < n0 → rho l n0 st.nx i = rho l n0 st.nx j → i = j := fun i j hi hj e => by
  rw [(hlow i hi).1,(hlow j hj).1] at e
  rw [List.getD_eq_getElem?_getD,List.getD_eq_getElem?_getD,List.getElem?_eq_getElem (by omega),List.getElem?_eq_getElem (by omega)] at e
  exact (List.getElem_inj hnd).1 e
 generalize hρ : rho l n0 st.nx = ρ at *
 have hhigh : ∀ id,¬ id < n0 → ρ id = st.nx + (id - n0) := fun id hid => by rw [← hρ];simp [rho,hid]
 let t0 : Nat → Value := fun id => s (ρ id)
 let F0 : Nat → Prop := fun b => ∃ id ob,hget H0 id = some ob ∧ blk (s (ρ id)) = some b
 have hH : ∀ id ob,hget H0 id = some ob → id < n0 ∧ LtO n0 ob ∧ hget st.heap (ρ id) = some (rnO ρ ob) := fun id ob hh => hH0 _ (hget_mem hh)
 have rel0 : RelH ⟨0,F0,w,n0,t0,Z⟩ t0 Z H0 n0 w := by
  refine ⟨fun id ob hh => ?_,fun id ob hh => ⟨(hH id ob hh).1,(hH id ob hh).2.1⟩,fun id id' ob ob' b hh hh' hne hb => ?_,h.zok,fun id ob b o hh hb => ?_,fun id ob b hh hb => .inr ⟨id,ob,hh,hb⟩,Fr.refl _ _,Nat.le_refl _,fun _ _ => rfl,fun _ _ _ h => h,fun _ _ _ h => .inl h⟩
  ·obtain ⟨h1,h2,h3⟩ := hH id ob hh
   exact (ObOk.rn (n := n0) (s := t0) (s' := s) (fun _ _ => rfl) h2).1 (h.ob _ _ h3)
  ·obtain ⟨h1,h2,h3⟩ := hH id ob hh
   obtain ⟨g1,g2,g3⟩ := hH id' ob' hh'
   exact h.apart _ _ _ _ b h3 g3 (fun e => hne (hinj0 _ _ h1 g1 e)) hb
  ·obtain ⟨h1,h2,h3⟩ := hH id ob hh
   exact h.zap _ _ b o h3 hb
 have hargs : ∀ j x,ds0[j]? = some x → VV t0 Z x (vs.getD j undef) := fun j x hx => by
  have h1 := hv0 j _ ((map_get _ _ _ _).2 ⟨x,hx,rfl⟩)
  have hmem := List.mem_of_getElem? hx
  have ha := List.all_eq_true.1 hao x hmem
  have h2 : VV s Z (rnV ρ x) (vs.getD j undef) := by
   cases x <;> first | exact h1 | cases ha
  exact (VV.rn (n := n0) (s := t0) (s' := s) (fun _ _ => rfl) (hdl x hmem)).1 h2
 refine (hf F0 t0 Z w vs rel0 (by simpa using hvl) hargs).mono ?_
 rintro e w' ⟨v,d,H',nx',s',Z',he,hr,hrl,hR,hpost⟩
 let s1 : Nat → Value := fun k => if k < st.nx then s k else s' (n0 + (k - st.nx))
 have hn0 : n0 ≤ nx' := hR.n0
 have hs1 : ∀ id,id < nx' → s1 (ρ id) = s' id := fun id hid => by
  by_cases h1 : id < n0
  ·have h2 := (hlow id h1).2.2
   show (if ρ id < st.nx then s (ρ id) else _) = _
   rw [if_pos h2]
   exact (hR.bs id h1).symm
  ·have h2 := hhigh id h1
   show (if ρ id < st.nx then _ else s' (n0 + (ρ id - st.nx))) = _
   rw [if_neg (by omega),h2]
   congr 1;omega
 have hlt1 : ∀ id,id < nx' → ρ id < st.nx + (nx' - n0) := fun id hid => by
  by_cases h1 : id < n0
  ·have := (hlow id h1).2.2;omega
  ·have := hhigh id h1;omega
 have hold : ∀ id,id < st.nx → s1 id = s id := fun id hid => if_pos hid
 have hcase : ∀ k ob,hget (hputs ρ H' (herases l st.heap)) k = some ob → (∃ id ob',hget H' id = some ob' ∧ k = ρ id ∧ ob = rnO ρ ob') ∨ (hget st.heap k = some ob ∧ k ∉ l) := fun k ob hk => by
  rcases hget_hputs hk with h1 | h1
  ·exact .inl h1
  ·exact .inr (hget_herases h1)
 have away : ∀ k ob,hget st.heap k = some ob → k ∉ l → ∀ b,blk (s k) = some b → b < w.heap.size ∧ ¬ F0 b := fun k ob hk hkl b hb => by
  refine ⟨(h.ob k ob hk).lt b hb,fun ⟨id,ob',hid,hb'⟩ => ?_⟩
  obtain ⟨h1,h2,h3⟩ := hH id ob' hid
  have h4 : k ≠ ρ id := fun e => hkl (by rw [e];exact (hlow id h1).2.1)
  exact h.apart _ _ _ _ b hk h3 h4 hb hb'
 have hbel : sb = true → Below w.heap.size w w' := fun hb => by
  have := hsb hb
  subst this
  exact ⟨hR.fr.os,hR.fr.tape,hR.fr.output,hR.fr.size,fun k hk => hR.fr.block k hk (fun ⟨id',o2,h5,_⟩ => by cases h5)⟩
 refine ⟨v,he,hbel,rnR ρ d,hputs ρ H' (herases l st.heap),st.nx + (nx' - n0),s1,Z',(VR.rn hs1 hrl).2 hr,LtR.rn hlt1 hrl,?_,by omega,hold,hR.bz,hK d H' nx' hn0 hpost⟩
 constructor
 ·intro k ob hk
  rcases hcase k ob hk with ⟨id,ob',h1,rfl,rfl⟩ | ⟨h1,h2⟩
  ·have h3 := hR.lt id ob' h1
   rw [hs1 id h3.1]
   exact (ObOk.rn hs1 h3.2).2 (hR.ob id ob' h1)
  ·have h3 := h.lt k ob h1
   rw [hold k h3.1]
   exact (h.ob k ob h1).mono hR.bz hold h3.2 fun b hb => by
    obtain ⟨g1,g2⟩ := away k ob h1 h2 b hb
    exact hR.fr.block b g1 g2
 ·intro k ob hk
  rcases hcase k ob hk with ⟨id,ob',h1,rfl,rfl⟩ | ⟨h1,h2⟩
  ·have h3 := hR.lt id ob' h1
   exact ⟨hlt1 id h3.1,LtO.rn hlt1 h3.2⟩
  ·have h3 := h.lt k ob h1
   exact ⟨by omega,h3.2.mono (by omega)⟩
 ·intro k k' ob ob' b hk hk' hne hb
  rcases hcase k ob hk with ⟨id,o1,h1,rfl,rfl⟩ | ⟨h1,h2⟩
  ·have h3 := hR.lt id o1 h1
   rw [hs1 id h3.1] at hb
   rcases hcase k' ob' hk' with ⟨id',o2,g1,rfl,rfl⟩ | ⟨g1,g2⟩
   ·have g3 := hR.lt id' o2 g1
    rw [hs1 id' g3.1]
    exact hR.apart id id' o1 o2 b h1 g1 (fun e => hne (by rw [e])) hb
   ·rw [hold k' (h.lt k' ob' g1).1]
    intro hb2
    obtain ⟨q1,q2⟩ := away k' ob' g1 g2 b hb2
    rcases hR.mine id o1 b h1 hb with h5 | h5
    ·simp only at h5;omega
    ·exact q2 h5
  ·rw [hold k (h.lt k ob h1).1] at hb
   rcases hcase k' ob' hk' with ⟨id',o2,g1,rfl,rfl⟩ | ⟨g1,g2⟩
   ·have g3 := hR.lt id' o2 g1
    rw [hs1 id' g3.1]
    intro hb2
    obtain ⟨q1,q2⟩ := away k ob h1 h2 b hb
    rcases hR.mine id' o2 b g1 hb2 with h5 | h5
    ·simp only at h5;omega
    ·exact q2 h5
   ·rw [hold k' (h.lt k' ob' g1).1]
    exact h.apart k k' ob ob' b h1 g1 hne hb
 ·exact hR.zok
 ·intro k ob b o hk hb
  rcases hcase k ob hk with ⟨id,o1,h1,rfl,rfl⟩ | ⟨h1,h2⟩
  ·rw [hs1 id (hR.lt id o1 h1).1] at hb
   exact hR.zap id o1 b o h1 hb
  ·rw [hold k (h.lt k ob h1).1] at hb
   obtain ⟨q1,q2⟩ := away k ob h1 h2 b hb
   cases hq : Z' b o with
   | none => rfl
   | some u =>
    rcases hR.bn b o u hq with h5 | h5 | h5
    ·have h6 := h.zap k ob b o h1 hb
     simp only at h5
     rw [h6] at h5;cases h5
    ·simp only at h5;omega
    ·exact absurd h5 q2
 ·intro k ob b hk hb
  rcases hcase k ob hk with ⟨id,o1,h1,rfl,rfl⟩ | ⟨h1,h2⟩
  ·rw [hs1 id (hR.lt id o1 h1).1] at hb
   rcases hR.mine id o1 b h1 hb with h5 | ⟨id',o2,h5,h6⟩
   ·exact .inl (Nat.le_trans h.fr.size h5)
   ·obtain ⟨g1,g2,g3⟩ := hH id' o2 h5
    exact h.mine _ _ b g3 h6
  ·rw [hold k (h.lt k ob h1).1] at hb
   exact h.mine k ob b h1 hb
 ·refine ⟨hR.fr.os.trans h.fr.os,hR.fr.tape.trans h.fr.tape,hR.fr.output.trans h.fr.output,Nat.le_trans h.fr.size hR.fr.size,fun k hk hf => ?_⟩
  have hnf : ¬ F0 k := fun ⟨id',o2,h5,h6⟩ => by
   obtain ⟨g1,g2,g3⟩ := hH id' o2 h5
   rcases h.mine _ _ k g3 h6 with h7 | h7
   ·omega
   ·exact hf h7
  rw [hR.fr.block k (Nat.lt_of_lt_of_le hk h.fr.size) hnf]
  exact h.fr.block k hk hf
 ·have := h.n0;omega
 ·intro id hid
  rw [hold id (Nat.lt_of_lt_of_le hid h.n0)]
  exact h.bs id hid
 ·exact fun b o v hv => hR.bz b o v (h.bz b o v hv)
 ·intro b o u hu
  rcases hR.bn b o u hu with h5 | h5 | ⟨id',o2,h5,h6⟩
  ·exact h.bn b o u h5
  ·exact .inr (.inl (Nat.le_trans h.fr.size h5))
  ·obtain ⟨g1,g2,g3⟩ := hH id' o2 h5
   exact .inr (h.mine _ _ b g3 h6)
end
section
variable {P : Program} {ops : Array Oper} {Q : Exit → Act → World → Prop} {md : Region.Mode} {late : Nat → Bool} {w0 : World}
def Kept (late : Nat → Bool) (w0 : World) (listed : Array Bool) (w : World) : Prop :=
 Below w0.heap.size w0 w ∨ ∃ t,late t = true ∧ listed.getD t false = true
def Closed (md : Region.Mode) (ops : Array Oper) (listed : Array Bool) : Prop :=
 ∀ j oj,ops[j]? = some oj → listed.getD j false = true → ∀ e ∈ oj.after,Region.binds md e = true → listed.getD e.on false = true
def AnyK (P : Program) (md : Region.Mode) (ops : Array Oper) (Q : Exit → Act → World → Prop) (late : Nat → Bool) (w0 : World) : Nat → Array Bool → Act → World → Prop
 | 0,listed,a,w => Region.ready md ops listed = [] ∧ Q .normal a w
 | fuel + 1,listed,a,w =>
  (Region.ready md ops listed = [] → Q .normal a w) ∧
  ∀ i ∈ Region.ready md ops listed,wpOp P ops Q i (fun a' w' => Kept late w0 (listed.setIfInBounds i true) w' ∧ AnyK P md ops Q late w0 fuel (listed.setIfInBounds i true) a' w') a w
theorem any_of_K : ∀ (fuel : Nat) (listed : Array Bool) (a : Act) (w : World),AnyK P md ops Q late w0 fuel listed a w → wpAny P md ops Q fuel listed a w
 | 0,_,_,_,h => h
 | fuel + 1,_,_,_,h => ⟨h.1,fun i hi => wpOp_mono (fun a' w' h' => any_of_K fuel _ a' w' h'.2) (h.2 i hi)⟩
theorem Closed.set {i : Nat} {listed : Array Bool} (h : Closed md ops listed) (hi : i ∈ Region.ready md ops listed) : Closed md ops (listed.setIfInBounds i true) := by
 obtain ⟨_,oi,hoi,hall⟩ := mem_ready.1 hi
 intro j oj hj hl e he hb
 by_cases hij : i = j
 ·subst hij
  obtain rfl : oj = oi := Option.some.inj (hj.symm.trans hoi)
  exact getD_set_true (hall e he hb)
 ·rw [getD_set_ne false hij] at hl
  exact getD_set_true (h j oj hj hl e he hb)
theorem Kept.below {i : Nat} {listed : Array Bool} {w : World} (hk : Kept late w0 listed w) (hun : listed.getD i true = false)
  (hl : ∀ t,late t = true → listed.getD t false = true → listed.getD i false = true) : Below w0.heap.size w0 w := by
 rcases hk with h | ⟨t,h1,h2⟩
 ·exact h
 ·have h3 := hl t h1 h2
  rcases Nat.lt_or_ge i listed.size with h' | h'
  ·simp [h'] at hun h3;rw [hun] at h3;cases h3
  ·simp [Array.getElem?_eq_none h'] at h3
theorem Kept.more {i : Nat} {listed : Array Bool} {w : World} (hk : Kept late w0 listed w) : Kept late w0 (listed.setIfInBounds i true) w := by
 rcases hk with h | ⟨t,h1,h2⟩
 ·exact .inl h
 ·exact .inr ⟨t,h1,getD_set_true h2⟩
theorem anyK_first {i : Nat} {oi : Oper} {v : Value} (hi : ops[i]? = some oi) (hsel : ∀ (j : Nat) (o : Oper) cs b,ops[j]? = some o → o.op ≠ .select cs b)
  (hQ : ∀ c a w,Q (.panic c) (a.put oi.dst v) w → Q (.panic c) a w)
  (S : World → Prop) (hl : ∀ listed w,Closed md ops listed → listed.getD i true = false → Kept late w0 listed w → S w) (hli : late i = false) :
  ∀ (fuel : Nat) (listed : Array Bool) (a : Act) (w : World),Closed md ops listed →
   (∀ j oj,ops[j]? = some oj → j ≠ i → listed.getD j true = false → (∀ e ∈ oj.after,Region.binds md e = true → e.on ≠ i) → oi.apart ops oj = true) →
   i ∈ Region.ready md ops listed → YieldsIf P ops S oi v a → Kept late w0 listed w →
   AnyK P md ops Q late w0 fuel (listed.setIfInBounds i true) (a.put oi.dst v) w → AnyK P md ops Q late w0 (fuel + 1) listed a w := by
 intro fuel
 induction fuel with
 | zero =>
  intro listed a w hcl _ hr hy hS H
  have hun := (mem_ready.1 hr).1
  refine ⟨fun h => (by rw [h] at hr;cases hr),fun j hj => ?_⟩
  by_cases hji : j = i
  ·subst hji
   exact hy.wpOp hi (hl _ _ hcl hun hS) ⟨hS.more,H⟩
  ·have := ready_mono hj hji
   rw [H.1] at this
   cases this
 | succ fuel ih =>
  intro listed a w hcl hfree hr hy hS H
  have hun := (mem_ready.1 hr).1
  refine ⟨fun h => (by rw [h] at hr;cases hr),fun j hj => ?_⟩
  by_cases hji : j = i
  ·subst hji;exact hy.wpOp hi (hl _ _ hcl hun hS) ⟨hS.more,H⟩
  ·have h1 := H.2 j (ready_mono hj hji)
   obtain ⟨hjun,oj,hoj,hall⟩ := mem_ready.1 hj
   have hnot : ∀ e ∈ oj.after,Region.binds md e = true → e.on ≠ i := fun e he hb' heq => by
    have h1 := hall e he hb'
    rw [heq] at h1
    rcases Nat.lt_or_ge i listed.size with h' | h'
    ·simp [h'] at hun h1;rw [hun] at h1;cases h1
    ·simp [Array.getElem?_eq_none h'] at h1
   have h2 := wpOp_putIf hoj (hfree j oj hoj hji hjun hnot) (fun cs b => hsel i oi cs b hi) (fun cs b => hsel j oj cs b hoj) hQ hy h1
   have hfree' : ∀ k ok,ops[k]? = some ok → k ≠ i → (listed.setIfInBounds j true).getD k true = false →
     (∀ e ∈ ok.after,Region.binds md e = true → e.on ≠ i) → oi.apart ops ok = true := fun k ok hk hki hun hno => by
    refine hfree k ok hk hki ?_ hno
    by_cases hjk : j = k
    ·subst hjk;exact hjun
    ·rw [getD_set_ne true hjk] at hun;exact hun
   have hcl' := hcl.set hj
   have hki : ∀ w',Kept late w0 ((listed.setIfInBounds i true).setIfInBounds j true) w' → Kept late w0 (listed.setIfInBounds j true) w' := fun w' hk => by
    rcases hk with hk | ⟨t,ht,hlt⟩
    ·exact .inl hk
    ·refine .inr ⟨t,ht,?_⟩
     have hti : i ≠ t := fun h => by rw [← h,hli] at ht;cases ht
     rw [Array.setIfInBounds_comm _ _ (Ne.symm hji),getD_set_ne false hti] at hlt
     exact hlt
   refine wpOp_mono (fun a' w' h3 => ⟨hki w' h3.2.1,ih (listed.setIfInBounds j true) a' w' hcl' hfree' (ready_mono hr (Ne.symm hji)) h3.1 (hki w' h3.2.1) ?_⟩) h2
   rw [Array.setIfInBounds_comm _ _ hji]
   exact h3.2.2
theorem anyK_base {late' : Nat → Bool} {w1 : World} (hk : ∀ listed w,Kept late' w1 listed w → Kept late w0 listed w) : ∀ {fuel : Nat} {listed : Array Bool} {a : Act} {w : World},AnyK P md ops Q late' w1 fuel listed a w → AnyK P md ops Q late w0 fuel listed a w
 | 0,_,_,_,h => h
 | _ + 1,_,_,_,h => ⟨h.1,fun i hi => wpOp_mono (fun _ _ h' => ⟨hk _ _ h'.1,anyK_base hk h'.2⟩) (h.2 i hi)⟩
theorem anyK_late {late' : Nat → Bool} {w1 : World} : ∀ {fuel : Nat} {listed : Array Bool} {a : Act} {w : World},(∃ t,late t = true ∧ listed.getD t false = true) → AnyK P md ops Q late' w1 fuel listed a w → AnyK P md ops Q late w0 fuel listed a w
 | 0,_,_,_,_,h => h
 | _ + 1,_,_,_,⟨t,ht,hl⟩,h => ⟨h.1,fun i hi => wpOp_mono (fun _ _ h' => ⟨.inr ⟨t,ht,getD_set_true hl⟩,anyK_late ⟨t,ht,getD_set_true hl⟩ h'.2⟩) (h.2 i hi)⟩
def waitsB (ops : Array Oper) (y x : Nat) : Bool :=
 match ops[y]? with
 | some o => o.after.any fun e => Region.binds .any e && e.on == x
 | none => false
def aheadL (ops : Array Oper) : Nat → List Nat → List Nat
 | 0,U => U
 | x + 1,U => aheadL ops x (if U.any fun y => waitsB ops y x then x :: U else U)
theorem aheadL_listed {ops : Array Oper} {listed : Array Bool} (hc : Closed .any ops listed) : ∀ (x : Nat) (U : List Nat),(∀ y ∈ U,listed.getD y false = true) → ∀ y ∈ aheadL ops x U,listed.getD y false = true
 | 0,_,h => h
 | x + 1,U,h => by
  refine aheadL_listed hc x _ ?_
  split
  ·rename_i hU
   intro y hy
   rcases List.mem_cons.1 hy with rfl | hy
   ·obtain ⟨z,hz,hw⟩ := List.any_eq_true.1 hU
    unfold waitsB at hw
    cases ho : ops[z]? with
    | none => rw [ho] at hw;cases hw
    | some o =>
     rw [ho] at hw
     obtain ⟨e,he,hb⟩ := Array.any_eq_true'.1 hw
     simp only [Bool.and_eq_true,beq_iff_eq] at hb
     have := hc z o ho (h z hz) e he hb.1
     rw [hb.2] at this
     exact this
   ·exact h y hy
  ·exact h
end
inductive ASch where
 | done
 | one (sb : Bool) (o : AO) (r : ASch)
 | two (l r : ASch)
 | top
def asch (P : Program) (B : Base) : ASch → St → (St → Prop) → Prop
 | .done,st,K => K st
 | .one sb o r,st,K => astep P sb B o st fun st' => asch P B r st' K
 | .two l r,st,K => asch P B l st K ∧ asch P B r st K
 | .top,_,_ => True
def lateOp (hw : List FuncId) : Op → Bool
 | .store .. => true
 | .call c => match c.callee with
  | .value (.func f) => hw.contains f
  | .value _ => true
  | .builtin .append => true
  | .builtin .copy => true
  | .builtin .clear => true
  | .builtin _ => false
  | _ => true
 | _ => false
def lates (hw : List FuncId) (ops : Array Oper) : List Nat := (List.range ops.size).filter fun i => ((ops[i]?).map fun o => lateOp hw o.op).getD false
def takeQ (P : Program) (N : Nat) (ops : Array Oper) (listed : Array Bool) (ls : List Nat) (i : Nat) : Bool :=
 match ops[i]? with
 | some o => match coper P N ops o with
  | some a => !isLoud a.op && !ls.contains i && Region.free .any ops listed i && (!isLd o.op || ls.all fun t => (aheadL ops t [t]).contains i)
  | none => false
 | none => false
def stepS (P : Program) (N : Nat) (ops : Array Oper) (sb : Bool) (i : Nat) (r : Option ASch) : Option ASch :=
 match ops[i]? with
 | some o => match coper P N ops o,r with
  | some a,some t => some (.one sb a t)
  | _,_ => none
 | none => none
def foldS : List (Option ASch) → Option ASch
 | [] => some .top
 | x :: l => match x,foldS l with
  | some t,some u => some (.two t u)
  | _,_ => none
def planS (P : Program) (N : Nat) (ops : Array Oper) : Nat → Array Bool → List Nat → Option ASch
 | 0,listed,_ => if (Region.ready .any ops listed).isEmpty then some .done else none
 | fuel + 1,listed,ls =>
  let rs := Region.ready .any ops listed
  if rs.isEmpty then some .done else
  match rs.find? (takeQ P N ops listed ls) with
  | some i => stepS P N ops true i (planS P N ops fuel (listed.setIfInBounds i true) ls)
  | none => match rs with
   | [i] => stepS P N ops (!ls.contains i) i (planS P N ops fuel (listed.setIfInBounds i true) (ls.filter (· != i)))
   | rs => foldS (rs.map fun i => stepS P N ops (!ls.contains i) i (planS P N ops fuel (listed.setIfInBounds i true) (ls.filter (· != i))))
section
variable {P : Program} {B : Base} {ops : Array Oper} {Q : Exit → Act → World → Prop} {K : St → Prop}
theorem foldS_mem : ∀ {l : List (Option ASch)} {t : ASch},foldS l = some t → ∀ x ∈ l,∃ t',x = some t' ∧ ∀ st K,asch P B t st K → asch P B t' st K
 | [],t,h,x,hx => by cases hx
 | y :: l,t,h,x,hx => by
  cases y with
  | none => simp [foldS] at h
  | some t1 =>
   cases hl : foldS l with
   | none => simp [foldS,hl] at h
   | some t2 =>
    simp only [foldS,hl,Option.some.injEq] at h
    subst h
    rcases List.mem_cons.1 hx with rfl | hx
    ·exact ⟨t1,rfl,fun _ _ h => h.1⟩
    ·obtain ⟨t',h1,h2⟩ := foldS_mem hl x hx
     exact ⟨t',h1,fun st K h => h2 st K h.2⟩
theorem stepS_some {N : Nat} {sb : Bool} {i : Nat} {r : Option ASch} {t : ASch} (h : stepS P N ops sb i r = some t) : ∃ o ao t',ops[i]? = some o ∧ coper P N ops o = some ao ∧ r = some t' ∧ t = .one sb ao t' := by
 unfold stepS at h
 cases ho : ops[i]? with
 | none => rw [ho] at h;cases h
 | some o =>
  rw [ho] at h
  simp only at h
  cases hao : coper P N ops o with
  | none => rw [hao] at h;simp at h
  | some ao =>
   rw [hao] at h
   cases r with
   | none => simp at h
   | some t' =>
    simp only [Option.some.injEq] at h
    exact ⟨o,ao,t',rfl,hao,rfl,h.symm⟩
theorem step_sound {hw : List Nat} {w : World} {fuel : Nat} {listed : Array Bool} {i : Nat} {r : Option ASch} {t : ASch} {st : St} {s : Nat → Value} {Z : Cells} {a : Act} (hsz : listed.size = ops.size)
  (h : stepS P B.N ops (!hw.contains i) i r = some t) (hR : Rel B s Z st a w) (hs : asch P B t st K)
  (next : ∀ t',r = some t' → ∀ (st' : St) (s' : Nat → Value) (Z' : Cells) (a' : Act) (w' : World),Rel B s' Z' st' a' w' → asch P B t' st' K → AnyK P .any ops Q ((hw.filter (· != i)).contains ·) w' fuel (listed.setIfInBounds i true) a' w') :
  wpOp P ops Q i (fun a' w' => Kept (hw.contains ·) w (listed.setIfInBounds i true) w' ∧ AnyK P .any ops Q (hw.contains ·) w fuel (listed.setIfInBounds i true) a' w') a w := by
 obtain ⟨o,ao,t',ho,hao,rfl,rfl⟩ := stepS_some h
 have hlt : i < listed.size := by rw [hsz];exact (Array.getElem?_eq_some_iff.1 ho).1
 have hset : (listed.setIfInBounds i true).getD i false = true := by simp [hlt]
 simp only [asch] at hs
 have hG : Goes (!hw.contains i) B w (fun st' => asch P B t' st' K) (fun a' w' => Kept (hw.contains ·) w (listed.setIfInBounds i true) w' ∧ AnyK P .any ops Q (hw.contains ·) w fuel (listed.setIfInBounds i true) a' w') := fun st' s' Z' a' w' hb hK hR' => by
  have hn := next t' rfl st' s' Z' a' w' hR' hK
  cases hl : hw.contains i with
  | true => exact ⟨.inr ⟨i,hl,hset⟩,anyK_late ⟨i,hl,hset⟩ hn⟩
  | false =>
   have hb := hb (by rw [hl];rfl)
   refine ⟨.inl hb,?_⟩
   have hf : hw.filter (· != i) = hw := List.filter_eq_self.2 fun x hx => by
    have : x ≠ i := by rintro rfl;rw [List.contains_iff_mem.2 hx] at hl;cases hl
    simpa using this
   rw [hf] at hn
   exact anyK_base (fun listed' w2 hk => hk.imp (fun h2 => hb.trans (h2.mono hb.size)) id) hn
 obtain ⟨k1,k2⟩ := astep_sound (Q := Q) hR hao hs hG
 unfold wpOp
 simp only [ho]
 cases hw' : Region.wanted o (yielded ops a.tmps) with
 | true => simp only [if_true];exact .inl (k1 hw')
 | false => simp only [Bool.false_eq_true,if_false];exact k2 hw'
theorem planS_sound (hns : Region.noSelect ops = true) (hQ : ∀ c a d v w,Q (.panic c) (Act.put a d v) w → Q (.panic c) a w) (hfin : ∀ st' s' Z' a' w',K st' → Rel B s' Z' st' a' w' → Q .normal a' w') :
  ∀ (fuel : Nat) (listed : Array Bool) (hw : List Nat) (t : ASch) (st : St) (s : Nat → Value) (Z : Cells) (a : Act) (w : World),planS P B.N ops fuel listed hw = some t → listed.size = ops.size → Closed .any ops listed → Rel B s Z st a w → asch P B t st K →
   AnyK P .any ops Q (hw.contains ·) w fuel listed a w
 | 0,listed,hw,t,st,s,Z,a,w,h,hsz,hcl,hR,hs => by
  simp only [planS] at h
  split at h
  case isFalse => cases h
  rename_i he
  simp only [Option.some.injEq] at h
  subst h
  exact ⟨List.isEmpty_iff.1 he,hfin _ _ _ _ _ hs hR⟩
 | fuel + 1,listed,hw,t,st,s,Z,a,w,h,hsz,hcl,hR,hs => by
  simp only [planS] at h
  split at h
  ·rename_i he
   simp only [Option.some.injEq] at h
   subst h
   have he := List.isEmpty_iff.1 he
   exact ⟨fun _ => hfin _ _ _ _ _ hs hR,fun i hi => by rw [he] at hi;cases hi⟩
  rename_i hne
  have hne : Region.ready .any ops listed ≠ [] := fun e => hne (by rw [e];rfl)
  have hszs : ∀ i,(listed.setIfInBounds i true).size = ops.size := fun i => by simpa using hsz
  split at h
  ·-- one that may be taken first
   rename_i i hfind
   have hir := List.mem_of_find?_eq_some hfind
   have htk := List.find?_some hfind
   obtain ⟨o,ao,t',ho,hao,hr,rfl⟩ := stepS_some h
   unfold takeQ at htk
   simp only [ho,hao,Bool.and_eq_true,Bool.not_eq_true',Bool.or_eq_true] at htk
   obtain ⟨⟨⟨hq,hli⟩,hfree⟩,hld⟩ := htk
   simp only [asch] at hs
   obtain ⟨hdst,op,hop,g,hg,hcase⟩ := astep_cases hR hao hs
   have hqo : isLoud op = false := by
    unfold coper at hao
    split at hao
    case isFalse => cases hao
    rw [hop] at hao
    simp only at hao
    split at hao
    ·simp only [Option.some.injEq] at hao;subst hao;exact hq
    ·split at hao
     ·simp only [Option.some.injEq] at hao;subst hao;exact hq
     ·cases hao
   obtain ⟨e1,e2⟩ := quiet_eff hR hdst (copX_quiet hop hqo) hqo hg
   have hun := (mem_ready.1 hir).1
   have hkept : Kept (hw.contains ·) w listed w := .inl (Below.refl _ _)
   obtain ⟨v,st',hK',hR',hy⟩ : ∃ v st',asch P B t' st' K ∧ Rel B s Z st' (a.put o.dst v) w ∧ YieldsIf P ops (fun w' => Ok4 w o w') o v a := by
    rcases hcase with ⟨h1,h2⟩ | ⟨h1,h2⟩
    ·obtain ⟨u,st',k1,k2,k3⟩ := e1 h2
     exact ⟨u,st',k1,k2,.inl ⟨h1,k3⟩⟩
    ·obtain ⟨st',k1,k2⟩ := e2 h2
     exact ⟨undef,st',k1,k2,.inr ⟨h1,rfl⟩⟩
   have next := planS_sound hns hQ hfin fuel (listed.setIfInBounds i true) hw t' st' s Z (a.put o.dst v) w hr (hszs i) (hcl.set hir) hR' hK'
   refine anyK_first ho (Region.noSelect_spec hns) (fun c a w h => hQ c a _ _ w h) (fun w' => Ok4 w o w') (fun listed' w' hc hu hk => ?_) (by simpa using hli) fuel listed a w hcl (Region.free_spec ho hfree) hir hy hkept next
   rcases hld with hld | hld
   ·exact .inr hld
   ·refine .inl (More.below (hk.below hu fun t ht hlt => ?_))
    have h3 := List.all_eq_true.1 hld t (by simpa using ht)
    exact aheadL_listed hc t [t] (fun y hy => by rw [List.mem_singleton.1 hy];exact hlt) i (by simpa using h3)
  ·split at h
   ·-- the only one
    rename_i i hri
    refine ⟨fun e => absurd e hne,fun j hj => ?_⟩
    have hji : j = i := by rw [hri] at hj;simpa using hj
    subst hji
    exact step_sound hsz h hR hs fun t' ht' st' s' Z' a' w' hR' hs' => planS_sound hns hQ hfin fuel _ _ t' st' s' Z' a' w' ht' (hszs j) (hcl.set hj) hR' hs'
   ·refine ⟨fun e => absurd e hne,fun j hj => ?_⟩
    obtain ⟨t',ht',himp⟩ := foldS_mem (P := P) (B := B) h _ (List.mem_map.2 ⟨j,hj,rfl⟩)
    exact step_sound hsz ht' hR (himp _ _ hs) fun t' ht' st' s' Z' a' w' hR' hs' => planS_sound hns hQ hfin fuel _ _ t' st' s' Z' a' w' ht' (hszs j) (hcl.set hj) hR' hs'
theorem draw_sound {id : Nat} {hw : List FuncId} {t : ASch} {st : St} {s : Nat → Value} {Z : Cells} {a : Act} {w : World} (hm : P.follows .mixedOrders = true) (hns : Region.noSelect ops = true) (hp : planS P B.N ops ops.size (Array.replicate ops.size false) (lates hw ops) = some t)
  (hQ : ∀ c a d v w,Q (.panic c) (Act.put a d v) w → Q (.panic c) a w) (hfin : ∀ st' s' Z' a' w',K st' → Rel B s' Z' st' a' w' → Q .normal a' w') (hR : Rel B s Z st a w) (hs : asch P B t st K) : (Code.region id ops true).wp P Q a w := by
 have hR' : Rel B s Z st a w.drew := ⟨hR.env,hR.elt,hR.size,hR.defers,hR.h.call (Below.refl _ _).drew (Zx.refl hR.h.zok (Below.refl _ _).drew)⟩
 refine wp_region_any hm ?_
 refine any_of_K _ _ _ _ (planS_sound hns hQ hfin _ _ _ t st s Z a w.drew hp (by simp) (fun j oj _ hl => ?_) hR' hs)
 exfalso
 rcases Nat.lt_or_ge j ops.size with h' | h'
 ·simp [h'] at hl
 ·simp [h'] at hl
end
inductive AC where
 | skip
 | region (id : Nat) (ops : List AO)
 | draw (id : Nat) (t : ASch)
 | seq (a b : AC)
 | cond (c : Nat) (a b : AC)
 | block (id : Nat) (a : AC)
 | loop (a : AC)
 | exit (id : Nat)
 | scope (a : AC)
 | ret
def cco (P : Program) (N : Nat) (hw : List FuncId) : Code → Option AC
 | .skip => some .skip
 | .label _ => some .skip
 | .region id ops false => (copers P N ops ops.toList).map fun r => .region id r
 | .region id ops true => if Region.noSelect ops then (planS P N ops ops.size (Array.replicate ops.size false) (lates hw ops)).map fun t => .draw id t else none
 | .seq a b => match cco P N hw a,cco P N hw b with
  | some x,some y => some (.seq x y)
  | _,_ => none
 | .cond (.tmp t) a b => match cco P N hw a,cco P N hw b with
  | some x,some y => some (.cond t x y)
  | _,_ => none
 | .block id a => (cco P N hw a).map (.block id)
 | .loop a => (cco P N hw a).map .loop
 | .exit id => some (.exit id)
 | .scope a => (cco P N hw a).map .scope
 | .ret => some .ret
 | _ => none
inductive AR where
 | t (n : Nat)
 | c (p : Nat) (ag : Bool) (n : Nat)
def cres (P : Program) : List ResultVar → Option (List AR)
 | [] => some []
 | .tmp t :: r => (cres P r).map (.t t :: ·)
 | .cell p ty :: r => match agT P ty,szT P ty,cres P r with
  | some a,some n,some l => some (.c p a n :: l)
  | _,_,_ => none
structure AF where
 code : AC
 res : List AR
 n : Nat
def cfun (P : Program) (hw : List FuncId) (f : FuncId) : Option AF :=
 match P.funcs[f]? with
 | some fn => if fn.name == "runtime.NumGoroutine" then none else match fn.body with
  | some c => match cco P fn.ntmps hw c,cres P fn.results.toList with
   | some c,some r => some ⟨c,r,fn.ntmps⟩
   | _,_ => none
  | none => none
 | none => none
inductive Ex where
 | normal
 | exit (id : Nat)
 | ret
def Lift (B : Base) (Q : Ex → St → Prop) : Exit → Act → World → Prop
 | .normal,a,w => ∃ st s Z,Q .normal st ∧ Rel B s Z st a w
 | .exit id,a,w => ∃ st s Z,Q (.exit id) st ∧ Rel B s Z st a w
 | .ret,a,w => ∃ st s Z,Q .ret st ∧ Rel B s Z st a w
 | _,_,_ => False
def W (P : Program) (B : Base) (hw : List FuncId) (c : AC) (Q : Ex → St → Prop) (st : St) : Prop :=
 P.follows .mixedOrders = true → ∀ code,cco P B.N hw code = some c → ∀ s Z a w,Rel B s Z st a w → code.wp P (Lift B Q) a w
def Gh (B : Base) (st st1 : St) : Prop := ∀ s Z a w,Rel B s Z st a w → ∃ s' Z',Rel B s' Z' st1 a w
def keep (ks : List Nat) : List (Nat × D) → List (Nat × D)
 | [] => []
 | (k,d) :: l => if ks.contains k then (k,d) :: keep ks l else keep ks l
def trim (ks : List Nat) (st : St) : St := ⟨keep ks st.env,st.heap,st.nx⟩
theorem eget_keep (ks : List Nat) (k : Nat) : ∀ (l : List (Nat × D)),eget (keep ks l) k = eget l k ∨ eget (keep ks l) k = .any
 | [] => .inr rfl
 | (j,d) :: l => by
  simp only [keep]
  split
  ·simp only [eget]
   split
   ·exact .inl rfl
   ·exact eget_keep ks k l
  ·rename_i hj
   by_cases h : k = j
   ·subst h
    right
    have : ∀ l : List (Nat × D),eget (keep ks l) k = .any := fun l => by
     induction l with
     | nil => rfl
     | cons p l ih =>
      obtain ⟨i,e⟩ := p
      simp only [keep]
      split
      ·rename_i hi
       have : k ≠ i := by rintro rfl;exact hj hi
       simp only [eget,if_neg this,ih]
      ·exact ih
    exact this l
   ·simp only [eget,if_neg h];exact eget_keep ks k l
section
variable {P : Program} {B : Base} {hw : List FuncId} {Q Q' : Ex → St → Prop} {st st1 : St} {s : Nat → Value} {Z : Cells} {a : Act} {w : World}
theorem Rel.trim (h : Rel B s Z st a w) (ks : List Nat) : Rel B s Z (Go.Proofs.YtibemmkfcjlmpaaGreat.trim ks st) a w where
 env k := by
  rcases eget_keep ks k st.env with h1 | h1
  ·simp only [Go.Proofs.YtibemmkfcjlmpaaGreat.trim,h1];exact h.env k
  ·simp only [Go.Proofs.YtibemmkfcjlmpaaGreat.trim,h1];trivial
 elt k := by
  rcases eget_keep ks k st.env with h1 | h1
  ·simp only [Go.Proofs.YtibemmkfcjlmpaaGreat.trim,h1];exact h.elt k
  ·simp only [Go.Proofs.YtibemmkfcjlmpaaGreat.trim,h1];trivial
 size := h.size
 defers := h.defers
 h := h.h
theorem Gh.refl (st : St) : Gh B st st := fun s Z _ _ h => ⟨s,Z,h⟩
theorem Gh.trans {st2 : St} (h : Gh B st st1) (g : Gh B st1 st2) : Gh B st st2 := fun s Z a w hr => by
 obtain ⟨s',Z',h'⟩ := h s Z a w hr
 exact g s' Z' a w h'
theorem Gh.trim (ks : List Nat) : Gh B st (trim ks st) := fun s Z _ _ h => ⟨s,Z,h.trim ks⟩
theorem Lift.mono (hq : ∀ e st,Q e st → Q' e st) {e : Exit} {a : Act} {w : World} (h : Lift B Q e a w) : Lift B Q' e a w := by
 cases e <;> first | exact h.elim | (obtain ⟨st,s,Z,h1,h2⟩ := h;exact ⟨st,s,Z,hq _ _ h1,h2⟩)
theorem W.mono {c : AC} (h : W P B hw c Q st) (hq : ∀ e st,Q e st → Q' e st) : W P B hw c Q' st := fun hm code hc s Z a w hr => wp_mono (h hm code hc s Z a w hr) fun _ _ _ => Lift.mono hq
theorem W.gh {c : AC} (hg : Gh B st st1) (h : W P B hw c Q st1) : W P B hw c Q st := fun hm code hc s Z a w hr => by
 obtain ⟨s',Z',hr'⟩ := hg s Z a w hr
 exact h hm code hc s' Z' a w hr'
def seqQ (next : St → Prop) (Q : Ex → St → Prop) : Ex → St → Prop
 | .normal,st => next st
 | e,st => Q e st
def blockQ (id : Nat) (Q : Ex → St → Prop) : Ex → St → Prop
 | .exit id',st => if id' = id then Q .normal st else Q (.exit id') st
 | e,st => Q e st
theorem W.skip (h : Q .normal st) : W P B hw .skip Q st := fun _ code hc s Z a w hr => by
 cases code with
 | skip => exact wp_skip ⟨st,s,Z,h,hr⟩
 | label l => exact wp_label ⟨st,s,Z,h,hr⟩
 | region id ops d => cases d <;> simp only [cco] at hc <;> (try split at hc) <;> simp at hc
 | seq x y => simp only [cco] at hc;split at hc <;> simp at hc
 | cond c x y => cases c <;> simp only [cco] at hc <;> (try split at hc) <;> simp at hc
 | block id x => simp [cco] at hc
 | loop x => simp [cco] at hc
 | scope x => simp [cco] at hc
 | _ => simp [cco] at hc
theorem W.ret (h : Q .ret st) : W P B hw .ret Q st := fun _ code hc s Z a w hr => by
 cases code with
 | ret => exact wp_ret ⟨st,s,Z,h,hr⟩
 | region id ops d => cases d <;> simp only [cco] at hc <;> (try split at hc) <;> simp at hc
 | seq x y => simp only [cco] at hc;split at hc <;> simp at hc
 | cond c x y => cases c <;> simp only [cco] at hc <;> (try split at hc) <;> simp at hc
 | _ => simp [cco] at hc
theorem W.exit {id : Nat} (h : Q (.exit id) st) : W P B hw (.exit id) Q st := fun _ code hc s Z a w hr => by
 cases code with
 | exit i => simp only [cco,Option.some.injEq,AC.exit.injEq] at hc;subst hc;exact wp_exit ⟨st,s,Z,h,hr⟩
 | region id ops d => cases d <;> simp only [cco] at hc <;> (try split at hc) <;> simp at hc
 | seq x y => simp only [cco] at hc;split at hc <;> simp at hc
 | cond c x y => cases c <;> simp only [cco] at hc <;> (try split at hc) <;> simp at hc
 | _ => simp [cco] at hc
theorem W.seq {x y : AC} (h : W P B hw x (seqQ (W P B hw y Q) Q) st) : W P B hw (.seq x y) Q st := fun hm code hc s Z a w hr => by
 cases code with
 | seq c d =>
  simp only [cco] at hc
  split at hc <;> simp only [Option.some.injEq,reduceCtorEq,AC.seq.injEq] at hc
  rename_i hx hy
  obtain ⟨rfl,rfl⟩ := hc
  refine wp_seq (wp_mono (h hm c hx s Z a w hr) fun e a' w' hl => ?_)
  cases e with
  | normal => obtain ⟨st',s',Z',h1,h2⟩ := hl;exact h1 hm d hy s' Z' a' w' h2
  | _ => exact hl
 | region id ops d => cases d <;> simp only [cco] at hc <;> (try split at hc) <;> simp at hc
 | cond c x y => cases c <;> simp only [cco] at hc <;> (try split at hc) <;> simp at hc
 | _ => simp [cco] at hc
theorem W.cond {c : Nat} {t : Bool} {x y : AC} (ht : eget st.env c = .bool t) (h1 : t = true → W P B hw x Q st) (h2 : t = false → W P B hw y Q st) : W P B hw (.cond c x y) Q st := fun hm code hc s Z a w hr => by
 cases code with
 | cond o p q =>
  cases o with
  | tmp k =>
   simp only [cco] at hc
   split at hc <;> simp only [Option.some.injEq,reduceCtorEq,AC.cond.injEq] at hc
   rename_i hx hy
   obtain ⟨rfl,rfl,rfl⟩ := hc
   have hv := hr.env k
   rw [ht] at hv
   have hb : a.eval (.tmp k) = .bool t := VR.bool_inv (s := s) (Z := Z) hv
   exact wp_cond_split hb (fun e => h1 e hm p hx s Z a w hr) (fun e => h2 e hm q hy s Z a w hr)
  | _ => simp [cco] at hc
 | region id ops d => cases d <;> simp only [cco] at hc <;> (try split at hc) <;> simp at hc
 | seq x y => simp only [cco] at hc;split at hc <;> simp at hc
 | _ => simp [cco] at hc
theorem W.block {id : Nat} {x : AC} (h : W P B hw x (blockQ id Q) st) : W P B hw (.block id x) Q st := fun hm code hc s Z a w hr => by
 cases code with
 | block i c =>
  simp only [cco,Option.map_eq_some_iff,AC.block.injEq] at hc
  obtain ⟨x',hx,rfl,rfl⟩ := hc
  refine wp_block (wp_mono (h hm c hx s Z a w hr) fun e a' w' hl => ?_)
  cases e with
  | exit j =>
   obtain ⟨st',s',Z',h1,h2⟩ := hl
   simp only [blockQ] at h1
   simp only [Exit.inBlock]
   split at h1
   ·rename_i e;rw [if_pos e];exact ⟨st',s',Z',h1,h2⟩
   ·rename_i e;rw [if_neg e];exact ⟨st',s',Z',h1,h2⟩
  | _ => exact hl
 | region id ops d => cases d <;> simp only [cco] at hc <;> (try split at hc) <;> simp at hc
 | seq x y => simp only [cco] at hc;split at hc <;> simp at hc
 | cond c x y => cases c <;> simp only [cco] at hc <;> (try split at hc) <;> simp at hc
 | _ => simp [cco] at hc
theorem W.scope {x : AC} (h : W P B hw x Q st) : W P B hw (.scope x) Q st := fun hm code hc s Z a w hr => by
 cases code with
 | scope c =>
  simp only [cco,Option.map_eq_some_iff,AC.scope.injEq] at hc
  obtain ⟨x',hx,rfl⟩ := hc
  refine wp_scope_straight (wp_mono (h hm c hx s Z a w hr) fun e a' w' hl => ?_)
  cases e <;> first | exact hl | exact hl.elim
 | region id ops d => cases d <;> simp only [cco] at hc <;> (try split at hc) <;> simp at hc
 | seq x y => simp only [cco] at hc;split at hc <;> simp at hc
 | cond c x y => cases c <;> simp only [cco] at hc <;> (try split at hc) <;> simp at hc
 | _ => simp [cco] at hc
theorem W.region {id : Nat} {ops : List AO} {K : St → Prop} (h : aops P B ops st K) (hK : ∀ st',K st' → ∃ st1,Gh B st' st1 ∧ Q .normal st1) : W P B hw (.region id ops) Q st := fun hm code hc s Z a w hr => by
 have fin : ∀ st' s' Z' a' w',K st' → Rel B s' Z' st' a' w' → Lift B Q .normal a' w' := fun st' s' Z' a' w' h1 h2 => by
  obtain ⟨st1,hg,hq⟩ := hK st' h1
  obtain ⟨s1,Z1,hr1⟩ := hg s' Z' a' w' h2
  exact ⟨st1,s1,Z1,hq,hr1⟩
 cases code with
 | region i os d =>
  cases d with
  | false =>
   simp only [cco,Option.map_eq_some_iff,AC.region.injEq] at hc
   obtain ⟨r,hr',rfl,rfl⟩ := hc
   exact wp_region_list (aops_sound os.toList r st s Z a w hr' hr h fin)
  | true => simp only [cco] at hc;split at hc <;> simp at hc
 | seq x y => simp only [cco] at hc;split at hc <;> simp at hc
 | cond c x y => cases c <;> simp only [cco] at hc <;> (try split at hc) <;> simp at hc
 | _ => simp [cco] at hc
theorem W.draw {id : Nat} {t : ASch} {K : St → Prop} (h : asch P B t st K) (hK : ∀ st',K st' → ∃ st1,Gh B st' st1 ∧ Q .normal st1) : W P B hw (.draw id t) Q st := fun hm code hc s Z a w hr => by
 have fin : ∀ st' s' Z' a' w',K st' → Rel B s' Z' st' a' w' → Lift B Q .normal a' w' := fun st' s' Z' a' w' h1 h2 => by
  obtain ⟨st1,hg,hq⟩ := hK st' h1
  obtain ⟨s1,Z1,hr1⟩ := hg s' Z' a' w' h2
  exact ⟨st1,s1,Z1,hq,hr1⟩
 cases code with
 | region i os d =>
  cases d with
  | false => simp [cco] at hc
  | true =>
   simp only [cco] at hc
   split at hc
   case isFalse => cases hc
   rename_i hns
   simp only [Option.map_eq_some_iff,AC.draw.injEq] at hc
   obtain ⟨r,hr',rfl,rfl⟩ := hc
   exact draw_sound hm hns hr' (fun c a d v w h => h.elim) fin hr h
 | seq x y => simp only [cco] at hc;split at hc <;> simp at hc
 | cond c x y => cases c <;> simp only [cco] at hc <;> (try split at hc) <;> simp at hc
 | _ => simp [cco] at hc
theorem least {p : Nat → Prop} (h : ∃ n,p n) : ∃ n,p n ∧ ∀ m,p m → n ≤ m := by
 obtain ⟨n,hn⟩ := h
 induction n using Nat.strongRecOn with
 | _ n ih =>
  by_cases h : ∃ m,m < n ∧ p m
  ·obtain ⟨m,h1,h2⟩ := h;exact ih m h1 h2
  ·exact ⟨n,hn,fun m hm => Nat.le_of_not_lt fun hl => h ⟨m,hl,hm⟩⟩
theorem W.loop {x : AC} (I : Nat → St → Prop) (h0 : ∃ n st1,Gh B st st1 ∧ I n st1) (hround : ∀ n st,I n st → W P B hw x (seqQ (fun st' => ∃ m st1,Gh B st' st1 ∧ m < n ∧ I m st1) Q) st) : W P B hw (.loop x) Q st := fun hm code hc s Z a w hr => by
 cases code with
 | loop c =>
  simp only [cco,Option.map_eq_some_iff,AC.loop.injEq] at hc
  obtain ⟨x',hx,rfl⟩ := hc
  classical
  let J : Nat → Act → World → Prop := fun n a w => ∃ st s Z,I n st ∧ Rel B s Z st a w
  let mu : Act → World → Nat := fun a w => if h : ∃ n,J n a w then Classical.choose (least h) else 0
  have hmu : ∀ a w (_ : ∃ n,J n a w),J (mu a w) a w ∧ ∀ n,J n a w → mu a w ≤ n := fun a w h => by
   have e : mu a w = Classical.choose (least h) := dif_pos h
   rw [e]
   exact Classical.choose_spec (least h)
  refine wp_loop (fun a w => ∃ n,J n a w) mu ?_ ?_
  ·obtain ⟨n,st1,hg,hI⟩ := h0
   obtain ⟨s',Z',hr'⟩ := hg s Z a w hr
   exact ⟨n,st1,s',Z',hI,hr'⟩
  ·intro a w hJ
   obtain ⟨⟨st1,s1,Z1,hI,hR1⟩,_⟩ := hmu a w hJ
   refine wp_mono (hround _ st1 hI hm c hx s1 Z1 a w hR1) fun e a' w' hl => ?_
   cases e with
   | normal =>
    obtain ⟨st',s',Z',⟨m,st2,hg,hlt,hI2⟩,h2⟩ := hl
    obtain ⟨s2,Z2,hr2⟩ := hg s' Z' a' w' h2
    have hJ' : ∃ n,J n a' w' := ⟨m,st2,s2,Z2,hI2,hr2⟩
    exact ⟨hJ',Nat.lt_of_le_of_lt ((hmu a' w' hJ').2 m ⟨st2,s2,Z2,hI2,hr2⟩) hlt⟩
   | _ => exact hl
 | region id ops d => cases d <;> simp only [cco] at hc <;> (try split at hc) <;> simp at hc
 | seq x y => simp only [cco] at hc;split at hc <;> simp at hc
 | cond c x y => cases c <;> simp only [cco] at hc <;> (try split at hc) <;> simp at hc
 | _ => simp [cco] at hc
def acode (P : Program) (B : Base) (hw : List FuncId) (ks stops : List Nat) : AC → (Ex → St → Prop) → St → Prop
 | .skip,Q,st => Q .normal st
 | .region id ops,Q,st => if stops.contains id then W P B hw (.region id ops) Q st else aops P B ops st (fun st' => Q .normal (trim ks st'))
 | .draw id t,Q,st => if stops.contains id then W P B hw (.draw id t) Q st else asch P B t st (fun st' => Q .normal (trim ks st'))
 | .seq a b,Q,st => acode P B hw ks stops a (seqQ (acode P B hw ks stops b Q) Q) st
 | .cond c a b,Q,st => match eget st.env c with
  | .bool t => (t = true → acode P B hw ks stops a Q st) ∧ (t = false → acode P B hw ks stops b Q st)
  | _ => False
 | .block id a,Q,st => acode P B hw ks stops a (blockQ id Q) st
 | .loop a,Q,st => W P B hw (.loop a) Q st
 | .exit id,Q,st => Q (.exit id) st
 | .scope a,Q,st => acode P B hw ks stops a Q st
 | .ret,Q,st => Q .ret st
def TK (ks : List Nat) (Q : Ex → St → Prop) (st : St) : Prop := Q .normal (trim ks st)
theorem TK_at (ks : List Nat) (Q : Ex → St → Prop) (env : List (Nat × D)) (H : List (Nat × Ob)) (nx : Nat) : TK ks Q ⟨env,H,nx⟩ = Q .normal (trim ks ⟨env,H,nx⟩) := rfl
def OK (P : Program) (B : Base) (os : List AO) (K : St → Prop) (st : St) : Prop := aops P B os st K
theorem OK_at (os : List AO) (K : St → Prop) (env : List (Nat × D)) (H : List (Nat × Ob)) (nx : Nat) : OK P B os K ⟨env,H,nx⟩ = aops P B os ⟨env,H,nx⟩ K := rfl
theorem aops_nil (st : St) (K : St → Prop) : aops P B [] st K = K st := rfl
theorem aops_cons (o : AO) (os : List AO) (st : St) (K : St → Prop) : aops P B (o :: os) st K = astep P false B o st (OK P B os K) := rfl
def SK (P : Program) (B : Base) (r : ASch) (K : St → Prop) (st : St) : Prop := asch P B r st K
theorem SK_at (r : ASch) (K : St → Prop) (env : List (Nat × D)) (H : List (Nat × Ob)) (nx : Nat) : SK P B r K ⟨env,H,nx⟩ = asch P B r ⟨env,H,nx⟩ K := rfl
theorem asch_done (st : St) (K : St → Prop) : asch P B .done st K = K st := rfl
theorem asch_one (sb : Bool) (o : AO) (r : ASch) (st : St) (K : St → Prop) : asch P B (.one sb o r) st K = astep P sb B o st (SK P B r K) := rfl
theorem asch_two (l r : ASch) (st : St) (K : St → Prop) : asch P B (.two l r) st K = (asch P B l st K ∧ asch P B r st K) := rfl
theorem asch_top (st : St) (K : St → Prop) : asch P B .top st K = True := rfl
def AK (P : Program) (B : Base) (hw : List FuncId) (ks stops : List Nat) (c : AC) (Q : Ex → St → Prop) (st : St) : Prop := acode P B hw ks stops c Q st
theorem AK_at (c : AC) (Q : Ex → St → Prop) (ks stops : List Nat) (env : List (Nat × D)) (H : List (Nat × Ob)) (nx : Nat) : AK P B hw ks stops c Q ⟨env,H,nx⟩ = acode P B hw ks stops c Q ⟨env,H,nx⟩ := rfl
theorem acode_seq (a b : AC) (Q : Ex → St → Prop) (ks stops : List Nat) (st : St) : acode P B hw ks stops (.seq a b) Q st = acode P B hw ks stops a (seqQ (AK P B hw ks stops b Q) Q) st := rfl
theorem acode_region (id : Nat) (ops : List AO) (Q : Ex → St → Prop) (ks stops : List Nat) (st : St) : acode P B hw ks stops (.region id ops) Q st = if stops.contains id then W P B hw (.region id ops) Q st else aops P B ops st (TK ks Q) := rfl
theorem acode_draw (id : Nat) (t : ASch) (Q : Ex → St → Prop) (ks stops : List Nat) (st : St) : acode P B hw ks stops (.draw id t) Q st = if stops.contains id then W P B hw (.draw id t) Q st else asch P B t st (TK ks Q) := rfl
def CB (t : Bool) (a b : Prop) : Prop := (t = true → a) ∧ (t = false → b)
theorem CB_t (a b : Prop) : CB true a b = a := by simp [CB]
theorem CB_f (a b : Prop) : CB false a b = b := by simp [CB]
theorem CB_u (t : Bool) (a b : Prop) : CB t a b = ((t = true → a) ∧ (t = false → b)) := rfl
theorem acode_cond (c : Nat) (a b : AC) (Q : Ex → St → Prop) (ks stops : List Nat) (st : St) : acode P B hw ks stops (.cond c a b) Q st = match eget st.env c with
  | .bool t => CB t (acode P B hw ks stops a Q st) (acode P B hw ks stops b Q st)
  | _ => False := rfl
theorem aop_eq (sb : Bool) (g : Option Bool) (dst : Option Nat) (op : AOp) (st : St) (K : St → Prop) : aop P sb B g dst op st K =
 if isLoud op then
  match g with
  | none => aloud P sb B dst op st K
  | some c => CB c (aloud P sb B dst op st K) (K ⟨putO st.env dst (.opt false .any),st.heap,st.nx⟩)
 else
  match op with
  | .pick c x y => match evS st.env c with
   | .bool b => match pickV b (evS st.env x) (evS st.env y) with
    | some (p,d) => afin g dst ((gS st.env c = true ∧ (b = true → gS st.env x = true) ∧ (b = false → gS st.env y = true)) ∧ p) d st K
    | none => afin0 g dst st K
   | _ => afin0 g dst st K
  | .isnil ne x => match lenD st.heap (evS st.env x) with
   | some n => ∀ b : Bool,(0 < n → b = ne) → afin g dst (gS st.env x = true) (.bool b) st K
   | none => afin0 g dst st K
  | op => match qv (evS st.env) st.heap op with
   | some (p,d) => afin g dst (oks st.env op = true ∧ p) d st K
   | none => afin0 g dst st K := by cases g <;> cases op <;> rfl
theorem acode_block (id : Nat) (a : AC) (Q : Ex → St → Prop) (ks stops : List Nat) (st : St) : acode P B hw ks stops (.block id a) Q st = acode P B hw ks stops a (blockQ id Q) st := rfl
theorem acode_loop (a : AC) (Q : Ex → St → Prop) (ks stops : List Nat) (st : St) : acode P B hw ks stops (.loop a) Q st = W P B hw (.loop a) Q st := rfl
theorem acode_exit (id : Nat) (Q : Ex → St → Prop) (ks stops : List Nat) (st : St) : acode P B hw ks stops (.exit id) Q st = Q (.exit id) st := rfl
theorem acode_scope (a : AC) (Q : Ex → St → Prop) (ks stops : List Nat) (st : St) : acode P B hw ks stops (.scope a) Q st = acode P B hw ks stops a Q st := rfl
theorem acode_ret (Q : Ex → St → Prop) (ks stops : List Nat) (st : St) : acode P B hw ks stops .ret Q st = Q .ret st := rfl
theorem acode_skip (Q : Ex → St → Prop) (ks stops : List Nat) (st : St) : acode P B hw ks stops .skip Q st = Q .normal st := rfl
theorem seqQ_n (next : St → Prop) (Q : Ex → St → Prop) (st : St) : seqQ next Q .normal st = next st := rfl
theorem seqQ_e (next : St → Prop) (Q : Ex → St → Prop) (i : Nat) (st : St) : seqQ next Q (.exit i) st = Q (.exit i) st := rfl
theorem seqQ_r (next : St → Prop) (Q : Ex → St → Prop) (st : St) : seqQ next Q .ret st = Q .ret st := rfl
theorem blockQ_n (id : Nat) (Q : Ex → St → Prop) (st : St) : blockQ id Q .normal st = Q .normal st := rfl
theorem blockQ_e (id i : Nat) (Q : Ex → St → Prop) (st : St) : blockQ id Q (.exit i) st = if i = id then Q .normal st else Q (.exit i) st := rfl
theorem blockQ_r (id : Nat) (Q : Ex → St → Prop) (st : St) : blockQ id Q .ret st = Q .ret st := rfl
theorem acode_sound (ks stops : List Nat) : ∀ (c : AC) (Q : Ex → St → Prop) (st : St),acode P B hw ks stops c Q st → W P B hw c Q st
 | .skip,Q,st,h => W.skip h
 | .region id ops,Q,st,h => by
  simp only [acode] at h
  split at h
  ·exact h
  ·exact W.region h fun st' h => ⟨_,Gh.trim ks,h⟩
 | .draw id t,Q,st,h => by
  simp only [acode] at h
  split at h
  ·exact h
  ·exact W.draw h fun st' h => ⟨_,Gh.trim ks,h⟩
 | .seq a b,Q,st,h => W.seq ((acode_sound ks stops a _ st h).mono fun e st' h' => by
   cases e with
   | normal => exact acode_sound ks stops b Q st' h'
   | _ => exact h')
 | .cond c a b,Q,st,h => by
  simp only [acode] at h
  split at h
  ·rename_i t ht
   exact W.cond ht (fun e => acode_sound ks stops a Q st (h.1 e)) (fun e => acode_sound ks stops b Q st (h.2 e))
  ·exact h.elim
 | .block id a,Q,st,h => W.block (acode_sound ks stops a _ st h)
 | .loop a,Q,st,h => h
 | .exit id,Q,st,h => W.exit h
 | .scope a,Q,st,h => W.scope (acode_sound ks stops a Q st h)
 | .ret,Q,st,h => W.ret h
def aresv (env : List (Nat × D)) (H : List (Nat × Ob)) : AR → Option (Prop × D)
 | .t n => some (gof (eget env n) = true,strip (eget env n))
 | .c p ag n => match qv (evS env) H (.load ag n (.t p)) with
  | some (q,d) => some (gof (eget env p) = true ∧ q,d)
  | none => none
def aresl (env : List (Nat × D)) (H : List (Nat × Ob)) : List AR → Option (Prop × List D)
 | [] => some (True,[])
 | r :: rs => match aresv env H r,aresl env H rs with
  | some (p,d),some (q,ds) => some (p ∧ q,d :: ds)
  | _,_ => none
def resD : List D → D
 | [d] => d
 | ds => .tup ds
def Fin (res : List AR) (R : D → List (Nat × Ob) → Nat → Prop) : Ex → St → Prop
 | .exit _,_ => False
 | _,st => match aresl st.env st.heap res with
  | some (p,ds) => (p ∧ ds.all argOk = true) ∧ R (resD ds) st.heap st.nx
  | none => False
def envOf : Nat → List D → List (Nat × D)
 | _,[] => []
 | i,d :: ds => eput (envOf (i + 1) ds) i d
theorem eget_envOf : ∀ (ds : List D) (i k : Nat),eget (envOf i ds) k = if i ≤ k then ds.getD (k - i) .any else .any
 | [],i,k => by simp [envOf,eget]
 | d :: ds,i,k => by
  simp only [envOf,eget_eput,eget_envOf ds (i + 1) k]
  by_cases h : k = i
  ·subst h;simp
  ·rw [if_neg h]
   by_cases h1 : i + 1 ≤ k
   ·rw [if_pos h1,if_pos (by omega)]
    have : k - i = (k - (i + 1)) + 1 := by omega
    rw [this,List.getD_cons_succ]
   ·rw [if_neg h1,if_neg (by omega)]
theorem load_var {ty : TypeId} {q : Addr} {w : World} : (do loadVar ty (← asAddr (.pointer (some q))) : Sem Value).run P w = (Instr.loadAt ty (.pointer (some q))).run P w := by
 simp [Instr.loadAt,Instr.sureAddr,asAddr]
theorem res_run (h : Rel B s Z st a w) : ∀ (rs : List ResultVar) (ars : List AR) (p : Prop) (ds : List D),cres P rs = some ars → aresl st.env st.heap ars = some (p,ds) → p →
  ∃ vs : List Value,vs.length = ds.length ∧ (∀ j x,ds[j]? = some x → VR s Z x (vs.getD j undef)) ∧ (∀ d ∈ ds,LtR st.nx d) ∧
   (rs.mapM (m := Sem) fun | .tmp t => pure (a.tmps.getD t undef) | .cell q t => do loadVar t (← asAddr (a.tmps.getD q undef))).run P w = .ok vs w
 | [],ars,p,ds,hc,hr,hp => by
  simp only [cres,Option.some.injEq] at hc
  subst hc
  simp only [aresl,Option.some.injEq,Prod.mk.injEq] at hr
  obtain ⟨_,rfl⟩ := hr
  exact ⟨[],rfl,(fun j x hx => by simp at hx),(fun d hd => by simp at hd),by simp⟩
 | r :: rs,ars,p,ds,hc,hr,hp => by
  have key : ∃ ar ars',ars = ar :: ars' ∧ cres P rs = some ars' ∧ ∀ q d,aresv st.env st.heap ar = some (q,d) → q → ∃ v,VR s Z d v ∧ LtR st.nx d ∧ ((match r with | .tmp t => pure (a.tmps.getD t undef) | .cell q t => do loadVar t (← asAddr (a.tmps.getD q undef)) : Sem Value)).run P w = .ok v w := by
   cases r with
   | tmp t =>
    simp only [cres,Option.map_eq_some_iff] at hc
    obtain ⟨l,hl,rfl⟩ := hc
    refine ⟨_,_,rfl,hl,fun q d hq hqp => ?_⟩
    simp only [aresv,Option.some.injEq,Prod.mk.injEq] at hq
    obtain ⟨rfl,rfl⟩ := hq
    have := h.vr (x := .tmp t) (y := .t t) rfl hqp
    exact ⟨_,this,h.lr (x := .tmp t) (y := .t t) rfl hqp,by simp [Act.eval]⟩
   | cell t ty =>
    simp only [cres] at hc
    split at hc <;> simp only [Option.some.injEq,reduceCtorEq] at hc
    rename_i ag n l h1 h2 h3
    subst hc
    refine ⟨_,_,rfl,h3,fun q d hq hqp => ?_⟩
    simp only [aresv] at hq
    split at hq <;> simp only [Option.some.injEq,Prod.mk.injEq,reduceCtorEq] at hq
    rename_i q' d' hqv
    obtain ⟨rfl,rfl⟩ := hq
    have hv := h.vr (x := .tmp t) (y := .t t) rfl hqp.1
    obtain ⟨es,p',hr,ht,hp'⟩ := reads_of (ev := evS st.env) h.h.know hv rfl hqv hqp.2
    obtain ⟨u,hu,hrun⟩ := load_sound h1 h2 hr ht hp'
    obtain ⟨b,o,he,_⟩ := hr
    refine ⟨u,hu,?_,?_⟩
    ·exact qv_lt (P := P) (s := s) (Z := Z) (o := .load ty (.tmp t)) (ao := .load ag n (.t t)) h.h.know (fun id ob hh => (h.h.lt id ob hh).2) (by simp [cop,h1,h2,opdC]) (fun x hx => by simp [opnds] at hx;subst hx;exact h.lr (x := .tmp t) rfl hqp.1) (fun x hx => by simp [opnds] at hx;subst hx;exact ⟨_,hv⟩) hqv hqp.2
    ·have := hrun w (More.refl w)
     have he' : a.tmps.getD t undef = .pointer (some ⟨b,o,none⟩) := he
     simp only [he']
     rw [← this,he]
     exact load_var
  obtain ⟨ar,ars',rfl,hcr,hkey⟩ := key
  simp only [aresl] at hr
  cases h1 : aresv st.env st.heap ar with
  | none => rw [h1] at hr;simp at hr
  | some qd =>
   obtain ⟨q,d⟩ := qd
   rw [h1] at hr
   cases h2 : aresl st.env st.heap ars' with
   | none => rw [h2] at hr;simp at hr
   | some qds =>
    obtain ⟨q',ds'⟩ := qds
    rw [h2] at hr
    simp only [Option.some.injEq,Prod.mk.injEq] at hr
    obtain ⟨rfl,rfl⟩ := hr
    obtain ⟨v,hv,hlt,hrun⟩ := hkey q d h1 hp.1
    obtain ⟨vs,g1,g2,g3,g4⟩ := res_run h rs ars' q' ds' hcr h2 hp.2
    refine ⟨v :: vs,by simp [g1],fun j x hx => ?_,fun x hx => ?_,?_⟩
    ·cases j with
     | zero => simp at hx;subst hx;exact hv
     | succ j => simpa using g2 j x (by simpa using hx)
    ·rcases List.mem_cons.1 hx with rfl | hx
     ·exact hlt
     ·exact g3 x hx
    ·rw [List.mapM_cons]
     simp only [Sem.run_bind]
     cases r <;> simp only [hrun,Result.andThen_ok,g4,Sem.run_pure]
end
section
variable {P : Program} {hw : List FuncId} {f : FuncId} {code : AC} {res : List AR} {n : Nat} {ds : List D} {H : List (Nat × Ob)} {nx : Nat} {R : D → List (Nat × Ob) → Nat → Prop}
theorem RelH.toN {F : Nat → Prop} {w0 : World} {n0 : Nat} {sb : Nat → Value} {Zb : Cells} {n : Nat} (m : Nat) {s : Nat → Value} {Z : Cells} {w : World} (h : RelH ⟨n,F,w0,n0,sb,Zb⟩ s Z H nx w) : RelH ⟨m,F,w0,n0,sb,Zb⟩ s Z H nx w :=
 ⟨h.ob,h.lt,h.apart,h.zok,h.zap,h.mine,h.fr,h.n0,h.bs,h.bz,h.bn⟩
theorem cfun_some (hc : cfun P hw f = some ⟨code,res,n⟩) : ∃ fn c,P.funcs[f]? = some fn ∧ fn.body = some c ∧ cco P n hw c = some code ∧ cres P fn.results.toList = some res ∧ fn.ntmps = n ∧ callable P f = true := by
 unfold cfun at hc
 split at hc
 case h_2 => cases hc
 rename_i fn hf
 split at hc
 ·cases hc
 rename_i hnm
 split at hc
 case h_2 => cases hc
 rename_i c hb
 split at hc
 case h_2 => cases hc
 rename_i c' r' h1 h2
 simp only [Option.some.injEq,AF.mk.injEq] at hc
 obtain ⟨rfl,rfl,rfl⟩ := hc
 refine ⟨fn,c,hf,hb,h1,h2,rfl,?_⟩
 unfold callable
 rw [hf]
 simp only [hb,Option.isSome_some,Bool.true_and]
 simpa using hnm
theorem body_sound {B : Base} {s : Nat → Value} {Z : Cells} {w : World} {vs : Array Value} (hm : P.follows .mixedOrders = true) (hc : cfun P hw f = some ⟨code,res,n⟩) (hBN : B.N = n) (hlen : ds.length ≤ n) (hno : ds.all argOk = true)
  (hlt : ∀ d ∈ ds,LtV nx d) (h : W P B hw code (Fin res R) ⟨envOf 0 ds,H,nx⟩) (hR : RelH B s Z H nx w) (hl : vs.size = ds.length) (hv : ∀ j x,ds[j]? = some x → VV s Z x (vs.getD j undef)) :
  Calls P f vs w fun e w' => ∃ v d H' nx' s' Z',e = .returned v ∧ VR s' Z' d v ∧ LtR nx' d ∧ RelH B s' Z' H' nx' w' ∧ R d H' nx' := by
 obtain ⟨fn,c,hf,hb,h1,h2,h3,hcal⟩ := cfun_some hc
 refine calls_of_wp hf hb ?_
 have rel : Rel B s Z ⟨envOf 0 ds,H,nx⟩ { tmps := vs ++ Array.replicate (fn.ntmps - vs.size) undef,defers := [] } w := by
  refine ⟨fun k => ?_,fun k => ?_,?_,rfl,hR⟩
  ·simp only [eget_envOf,Nat.zero_le,if_true,Nat.sub_zero]
   by_cases hk : k < ds.length
   ·have hx : ds[k]? = some (ds.getD k .any) := by rw [List.getD_eq_getElem?_getD,List.getElem?_eq_getElem hk];rfl
    have := hv k _ hx
    rw [Array.getD_eq_getD_getElem?,Array.getElem?_append_left (by omega),← Array.getD_eq_getD_getElem?]
    exact VS.of_vr (VR.of_vv this)
   ·rw [List.getD_eq_getElem?_getD,List.getElem?_eq_none (by omega)];trivial
  ·simp only [eget_envOf,Nat.zero_le,if_true,Nat.sub_zero]
   by_cases hk : k < ds.length
   ·have hx : ds[k]? = some (ds.getD k .any) := by rw [List.getD_eq_getElem?_getD,List.getElem?_eq_getElem hk];rfl
    have hmem := List.mem_of_getElem? hx
    have h4 := hlt _ hmem
    have h5 := List.all_eq_true.1 hno _ hmem
    generalize ds.getD k .any = d at *
    cases d <;> first | exact h4 | cases h5
   ·rw [List.getD_eq_getElem?_getD,List.getElem?_eq_none (by omega)];trivial
  ·simp only [Array.size_append,Array.size_replicate];omega
 have hbody := h hm c (by rw [hBN];exact h1) s Z _ w rel
 have key : ∀ (e : Ex) (st : St) (s' : Nat → Value) (Z' : Cells) (a : Act) (w' : World),(e = .ret ∨ e = .normal) → Fin res R e st → Rel B s' Z' st a w' → a.defers = [] ∧ ∃ v,(results fn a.tmps).run P w' = .ok v w' ∧ ∃ v' d H' nx' s' Z',(.returned v : Ending) = .returned v' ∧ VR s' Z' d v' ∧ LtR nx' d ∧ RelH B s' Z' H' nx' w' ∧ R d H' nx' := by
  intro e st s' Z' a w' he hfin hr
  have hfin : match aresl st.env st.heap res with
    | some (p,ds) => (p ∧ ds.all argOk = true) ∧ R (resD ds) st.heap st.nx
    | none => False := by rcases he with rfl | rfl <;> exact hfin
  refine ⟨hr.defers,?_⟩
  split at hfin
  case h_2 => exact hfin.elim
  rename_i p es hes
  obtain ⟨⟨hp,hall⟩,hRd⟩ := hfin
  obtain ⟨us,g1,g2,g3,g4⟩ := res_run hr _ _ p es h2 hes hp
  have hrun : (fn.results.mapM (m := Sem) fun | .tmp t => pure (a.tmps.getD t undef) | .cell q t => do loadVar t (← asAddr (a.tmps.getD q undef))).run P w' = .ok us.toArray w' := by
   rw [Array.mapM_eq_mapM_toList,Sem.run_map]
   exact congrArg (fun r => Result.andThen r _) g4
  have hres : (results fn a.tmps).run P w' = (do let vs ← (fn.results.mapM (m := Sem) fun | .tmp t => pure (a.tmps.getD t undef) | .cell q t => do loadVar t (← asAddr (a.tmps.getD q undef)));pure (if h : vs.size = 1 then vs[0] else .tuple vs) : Sem Value).run P w' := rfl
  have hV : ∀ j x,es[j]? = some x → VV s' Z' x (us.getD j undef) := fun j x hx => by
   have q1 := g2 j x hx
   have q2 := List.all_eq_true.1 hall x (List.mem_of_getElem? hx)
   cases x <;> first | exact q1 | cases q2
  have hLV : ∀ d ∈ es,LtV st.nx d := fun d hd => by
   have q1 := g3 d hd
   have q2 := List.all_eq_true.1 hall d hd
   cases d <;> first | exact q1 | cases q2
  match es,us,g1,hV,hLV,hRd,hrun with
  | [d],[u],_,hV,hLV,hRd,hrun =>
   refine ⟨u,?_,u,d,st.heap,st.nx,s',Z',rfl,VR.of_vv (hV 0 d rfl),?_,hr.h,hRd⟩
   ·rw [hres,Sem.run_bind,hrun]
    simp
   ·have := hLV d (by simp)
    cases d <;> first | exact this | (have q := hV 0 _ rfl;cases q;done)
  | [],[],_,hV,hLV,hRd,hrun =>
   refine ⟨.tuple #[],?_,.tuple #[],.tup [],st.heap,st.nx,s',Z',rfl,⟨#[],rfl,rfl,fun j x hx => by simp at hx⟩,fun d hd => by simp at hd,hr.h,hRd⟩
   rw [hres,Sem.run_bind,hrun]
   simp
  | d :: d' :: es,u :: u' :: us,g1,hV,hLV,hRd,hrun =>
   refine ⟨.tuple (u :: u' :: us).toArray,?_,_,.tup (d :: d' :: es),st.heap,st.nx,s',Z',rfl,⟨_,rfl,by simpa using g1,fun j x hx => ?_⟩,hLV,hr.h,hRd⟩
   ·rw [hres,Sem.run_bind,hrun]
    simp
   ·simpa [Array.getD_eq_getD_getElem?,List.getD_eq_getElem?_getD] using hV j x hx
 refine wp_mono hbody fun e a w' hl => ?_
 cases e with
 | normal => obtain ⟨st,s',Z',q1,q2⟩ := hl;exact key .normal st s' Z' a w' (.inr rfl) q1 q2
 | ret => obtain ⟨st,s',Z',q1,q2⟩ := hl;exact key .ret st s' Z' a w' (.inl rfl) q1 q2
 | exit id => obtain ⟨st,s',Z',q1,q2⟩ := hl;exact q1.elim
 | _ => exact hl.elim
theorem HF.of (hm : P.follows .mixedOrders = true) (hc : cfun P hw f = some ⟨code,res,n⟩) (hlen : ds.length ≤ n) (hno : ds.all argOk = true) (hlt : ∀ d ∈ ds,LtV nx d) (h : ∀ B : Base,B.N = n → B.n0 = nx → W P B hw code (Fin res R) ⟨envOf 0 ds,H,nx⟩) : HF P f ds H nx R := by
 obtain ⟨fn,c,hf,hb,h1,h2,h3,hcal⟩ := cfun_some hc
 refine ⟨hcal,fun F s Z w vs hR hl hv => ?_⟩
 refine (body_sound (B := ⟨n,F,w,nx,s,Z⟩) hm hc rfl hlen hno hlt (h _ rfl rfl) (hR.toN n) hl hv).mono ?_
 rintro e w' ⟨v,d,H',nx',s',Z',he,q1,q2,q3,q4⟩
 exact ⟨v,d,H',nx',s',Z',he,q1,q2,q3.toN 0,q4⟩
theorem noV_lt {d : D} (h : noV d = true) : LtV 0 d := by
 cases d with
 | agg ds => exact fun x hx => by have := List.all_eq_true.1 h x hx;cases x <;> first | trivial | cases this
 | own _ => cases h
 | ptr _ _ => cases h
 | pel _ _ _ _ => cases h
 | sl _ _ _ _ _ => cases h
 | clo _ _ => cases h
 | _ => trivial
theorem empty_rel (n : Nat) (Z : Cells) (w : World) (hz : ∀ b o v,Z b o = some v → w.cell? ⟨b,o,none⟩ = some v) : RelH ⟨n,fun _ => False,w,0,s0,Z⟩ s0 Z [] 0 w :=
 ⟨(fun _ _ h => by cases h),(fun _ _ h => by cases h),(fun _ _ _ _ _ h => by cases h),hz,(fun _ _ _ _ h => by cases h),(fun _ _ _ h => by cases h),Fr.refl _ _,Nat.le_refl _,fun _ _ => rfl,fun _ _ _ h => h,fun _ _ _ h => .inl h⟩
noncomputable def Zown (Z : Cells) (H : List (Nat × Ob)) (s : Nat → Value) (w : World) : Cells := open Classical in fun b o => if ∃ id ob,hget H id = some ob ∧ blk (s id) = some b then w.cell? ⟨b,o,none⟩ else Z b o
def Rbr (e : D) (d : D) (H : List (Nat × Ob)) (_ : Nat) : Prop := match brwR H d with | some e' => leR e' e | none => False
theorem Rbr_at (e d : D) (H : List (Nat × Ob)) (nx : Nat) : Rbr e d H nx = (match brwR H d with | some e' => leR e' e | none => False) := rfl
theorem PF.of {e : D} (hm : P.follows .mixedOrders = true) (hc : cfun P hw f = some ⟨code,res,n⟩) (hlen : ds.length ≤ n) (hno : ds.all argOk = true) (hnv : ds.all noV = true)
  (h : ∀ B : Base,B.N = n → B.n0 = 0 → W P B hw code (Fin res (Rbr e)) ⟨envOf 0 ds,[],0⟩) : PF P f ds e := by
 obtain ⟨fn,c,hf,hb,h1,h2,h3,hcal⟩ := cfun_some hc
 refine ⟨hcal,fun Z w vs hz hl hv => ?_⟩
 refine (body_sound (B := ⟨n,fun _ => False,w,0,s0,Z⟩) hm hc rfl hlen hno (fun d hd => noV_lt (List.all_eq_true.1 hnv d hd)) (h _ rfl rfl) (empty_rel n Z w hz) hl hv).mono ?_
 rintro x w' ⟨v,d,H',nx',s',Z',he,q1,q2,q3,q4⟩
 have hbel : Below w.heap.size w w' := ⟨q3.fr.os,q3.fr.tape,q3.fr.output,q3.fr.size,fun k hk => q3.fr.block k hk (fun h => h)⟩
 unfold Rbr at q4
 split at q4
 case h_2 => exact q4.elim
 rename_i e' he'
 refine ⟨v,Zown Z' H' s' w',he,leR_sound q4 (brwR_sound q3.know (fun b o u hu => ?_) (fun id ob b hid hb o u hu => ?_) he' q1),⟨fun b o u hu => ?_,fun b o u hu => ?_,fun b o u hu => ?_⟩,hbel⟩
 ·unfold Zown
  split
  ·exact q3.zok b o u hu
  ·exact hu
 ·unfold Zown
  rw [if_pos ⟨id,ob,hid,hb⟩]
  exact hu
 ·unfold Zown
  split
  ·exact q3.zok b o u (q3.bz b o u hu)
  ·exact q3.bz b o u hu
 ·unfold Zown at hu
  split at hu
  ·rename_i hx
   obtain ⟨id,ob,hid,hb⟩ := hx
   rcases q3.mine id ob b hid hb with h5 | h5
   ·exact .inr h5
   ·exact h5.elim
  ·rcases q3.bn b o u hu with h5 | h5 | h5
   ·exact .inl h5
   ·exact .inr h5
   ·exact h5.elim
 ·unfold Zown at hu
  split at hu
  ·exact hu
  ·exact q3.zok b o u hu
def frC (H : List (Nat × Ob)) : Nat → D → Prop
 | n,.own id => match n with
  | 0 => False
  | n + 1 => match hget H id with
   | some (.row _ xs) => ∀ row ∈ xs,∀ d ∈ row,flatC d = true
   | some (.rowd _ xs) => ∀ row ∈ xs,∀ d ∈ row,frC H n d
   | _ => False
 | n,.ptr id _ => match n with
  | 0 => False
  | n + 1 => match hget H id with
   | some (.cells ds) => ∀ d ∈ ds,frC H n d
   | _ => False
 | _,.nil0 => True
 | _,d => flatC d = true
def frV (H : List (Nat × Ob)) : D → Prop
 | .agg ds => ∀ d ∈ ds,frC H 4 d
 | d => frC H 4 d
def frR (H : List (Nat × Ob)) : D → Prop
 | .tup ds => ∀ d ∈ ds,frV H d
 | d => frV H d
section
variable {B : Base} {s : Nat → Value} {Z Zn : Cells} {w : World}
theorem flatC_VT {d : D} {v : Value} (h : VC s Z d v) (hf : flatC d = true) : VT Zn d v := by
 cases d <;> first | (cases hf;done) | (cases h;constructor)
theorem frC_sound (hk : Know s Z H w) (hp : ∀ id ob b,hget H id = some ob → blk (s id) = some b → ∀ o v,w.cell? ⟨b,o,none⟩ = some v → Zn b o = some v) :
  ∀ (n : Nat) (d e : D) (v : Value),brwC H n d = some e → frC H n d → VC s Z d v → VT Zn e v := by
 have rowv : ∀ (R : D → Value → Prop) (id sz : Nat) (xs ys : List (List D)) ob,hget H id = some ob → RowOk R w sz xs (s id) → ys.length = xs.length → (∀ (i : Nat) (row : List D) (j : Nat) (e : D),ys[i]? = some row → row[j]? = some e → j < sz ∧ ∃ row' d,xs[i]? = some row' ∧ row'[j]? = some d ∧ ∀ v,R d v → VT Zn e v) → VT Zn (.rows sz ys) (s id) := by
  intro R id sz xs ys ob hh ho hl hc
  obtain ⟨h0,hrow,ho⟩ := ho
  rcases ho with ⟨rfl,a,hv⟩ | ⟨g,cap,cur,e,hv,hg,hcap,hm,hcs,hcc⟩
  ·have : ys = [] := List.eq_nil_of_length_eq_zero (by simpa using hl)
   subst this
   rw [hv]
   exact VT.rnil sz a 0
  ·rw [hv,← hl]
   refine VT.rows sz ys g 0 cap (fun i j => cur.getD (i * sz + j) undef) (by omega) (fun i row j d hi hj => ?_) (fun i row j d hi hj => ?_)
   ·obtain ⟨hj',row',x,hx,hxj,_⟩ := hc i row j d hi hj
    refine ⟨hj',?_⟩
    have hil : i < xs.length := (List.getElem?_eq_some_iff.1 hx).1
    have hlt : i * sz + j < cur.size := by
     rw [hcs]
     have : (i + 1) * sz ≤ cap * sz := Nat.mul_le_mul_right _ (by omega)
     rw [Nat.add_mul] at this;omega
    have hcap0 : cap ≠ 0 := by omega
    refine hp id ob g hh (by rw [hv];simp [blk,hcap0]) _ _ ?_
    rw [Nat.zero_add,cell_of_row w g _ cur e (0,0) hg]
    simp [hlt]
   ·obtain ⟨hj',row',x,hx,hxj,hR⟩ := hc i row j d hi hj
    exact hR _ (hcc i row' j x hx hxj)
 have leaf : ∀ (d e : D) (v : Value),e = d → (flatC d = true ∨ d = .nil0) → VC s Z d v → VT Zn e v := fun d e v he hf hv => by
  subst he
  rcases hf with hf | rfl
  ·exact flatC_VT hv hf
  ·cases hv;exact VT.nil0 _
 intro n
 induction n with
 | zero =>
  intro d e v h hf hv
  cases d <;> simp only [brwC,Option.some.injEq,reduceCtorEq] at h <;> simp only [frC] at hf <;> first | exact leaf _ _ _ h.symm (.inl hf) hv | exact leaf _ _ _ h.symm (.inr rfl) hv
 | succ n ih =>
  intro d e v h hf hv
  cases d with
  | own id =>
   simp only [brwC] at h
   simp only [frC] at hf
   obtain ⟨rfl,_⟩ := hv
   split at h
   ·rename_i sz xs hh
    simp only [Option.some.injEq] at h
    subst h
    simp only [hh] at hf
    have ho := hk.ob _ _ hh
    refine rowv _ id sz xs xs _ hh ho rfl fun i row j e hi hj => ⟨?_,row,e,hi,hj,fun v h => flatC_VT (s := s) (VC.of_vt h) (hf row (List.mem_of_getElem? hi) e (List.mem_of_getElem? hj))⟩
    have := (List.getElem?_eq_some_iff.1 hj).1
    rwa [ho.2.1 _ (List.mem_of_getElem? hi)] at this
   ·rename_i sz xs hh
    simp only [hh] at hf
    cases hm : omap (omap (brwC H n)) xs with
    | none => rw [hm] at h;cases h
    | some ys =>
     rw [hm] at h
     simp only [Option.map_some,Option.some.injEq] at h
     subst h
     obtain ⟨g1,g2⟩ := omap_some hm
     have ho := hk.ob _ _ hh
     refine rowv _ id sz xs ys _ hh ho g1 fun i row j e hi hj => ?_
     obtain ⟨row',hx,hr⟩ := g2 i row hi
     obtain ⟨f1,f2⟩ := omap_some hr
     obtain ⟨d,hd,hb⟩ := f2 j e hj
     have : j < row'.length := (List.getElem?_eq_some_iff.1 hd).1
     rw [ho.2.1 _ (List.mem_of_getElem? hx)] at this
     exact ⟨this,row',d,hx,hd,fun v h => ih d e v hb (hf row' (List.mem_of_getElem? hx) d (List.mem_of_getElem? hd)) h⟩
   ·cases h
  | ptr id j =>
   simp only [brwC] at h
   simp only [frC] at hf
   split at h
   ·rename_i ds hh
    simp only [hh] at hf
    cases hm : omap (brwC H n) (ds.drop j) with
    | none => rw [hm] at h;cases h
    | some es =>
     rw [hm] at h
     simp only [Option.map_some,Option.some.injEq] at h
     subst h
     obtain ⟨g1,g2⟩ := omap_some hm
     obtain ⟨b,hs,rfl⟩ := hv
     obtain ⟨b',T,cs,hs',hg,hsz,hc⟩ := hk.ob _ _ hh
     rw [hs] at hs'
     injection hs' with e;injection e with e;injection e with e _;subst e
     refine VT.pc es b j (fun k => cs.getD (j + k) undef) (fun k e he => ?_) (fun k e he => ?_)
     ·obtain ⟨d,hd,_⟩ := g2 k e he
      rw [List.getElem?_drop] at hd
      have hlt : j + k < cs.size := by rw [hsz];exact (List.getElem?_eq_some_iff.1 hd).1
      refine hp id _ b hh (by rw [hs];rfl) _ _ ?_
      rw [cell_of_row w b _ cs T (0,0) hg]
      simp [hlt]
     ·obtain ⟨d,hd,hb⟩ := g2 k e he
      have hd' := hd
      rw [List.getElem?_drop] at hd
      exact ih d e _ hb (hf d (List.mem_of_mem_drop (List.mem_of_getElem? hd'))) (hc _ d hd)
   ·cases h
  | pel _ _ _ _ => simp [brwC] at h
  | sl _ _ _ _ _ => simp [brwC] at h
  | clo f ids => simp [frC,flatC] at hf
  | agg _ => simp [brwC] at h
  | tup _ => simp [brwC] at h
  | opt _ _ => simp [brwC] at h
  | nil0 => simp only [brwC,Option.some.injEq] at h;exact leaf _ _ _ h.symm (.inr rfl) hv
  | _ => simp only [brwC,Option.some.injEq] at h;simp only [frC] at hf;exact leaf _ _ _ h.symm (.inl hf) hv
theorem frV_sound (hk : Know s Z H w) (hp : ∀ id ob b,hget H id = some ob → blk (s id) = some b → ∀ o v,w.cell? ⟨b,o,none⟩ = some v → Zn b o = some v) {d e : D} {v : Value} (h : brwV H d = some e) (hf : frV H d) (hv : VV s Z d v) : VV s0 Zn e v := by
 have one : brwC H 4 d = some e → frC H 4 d → VC s Z d v → VV s0 Zn e v := fun h1 h2 h3 => VV.of_vc (VC.of_vt (frC_sound hk hp 4 d e v h1 h2 h3))
 cases d with
 | agg ds =>
  simp only [brwV] at h
  cases hm : omap (brwC H 4) ds with
  | none => rw [hm] at h;cases h
  | some es =>
   rw [hm] at h
   simp only [Option.map_some,Option.some.injEq] at h
   subst h
   obtain ⟨vs,rfl,hl,hc⟩ := hv
   obtain ⟨g1,g2⟩ := omap_some hm
   refine ⟨vs,rfl,by omega,fun j x hx => ?_⟩
   obtain ⟨y,hy,hb⟩ := g2 j x hx
   exact VC.of_vt (frC_sound hk hp 4 y x _ hb (hf y (List.mem_of_getElem? hy)) (hc j y hy))
 | any => simp only [brwV,reduceCtorEq] at h
 | _ => exact one h hf hv
theorem frR_sound (hk : Know s Z H w) (hp : ∀ id ob b,hget H id = some ob → blk (s id) = some b → ∀ o v,w.cell? ⟨b,o,none⟩ = some v → Zn b o = some v) {d e : D} {v : Value} (h : brwR H d = some e) (hf : frR H d) (hv : VR s Z d v) : VR s0 Zn e v := by
 cases d with
 | tup ds =>
  simp only [brwR] at h
  cases hm : omap (brwV H) ds with
  | none => rw [hm] at h;cases h
  | some es =>
   rw [hm] at h
   simp only [Option.map_some,Option.some.injEq] at h
   subst h
   obtain ⟨vs,rfl,hl,hc⟩ := hv
   obtain ⟨g1,g2⟩ := omap_some hm
   refine ⟨vs,rfl,by omega,fun j x hx => ?_⟩
   obtain ⟨y,hy,hb⟩ := g2 j x hx
   exact frV_sound hk hp hb (hf y (List.mem_of_getElem? hy)) (hc j y hy)
 | any => simp only [brwR,brwV,reduceCtorEq] at h
 | _ => simp only [brwR] at h;simp only [VR] at hv;exact VR.of_vv (frV_sound hk hp h hf hv)
end
def Rfr (e : D) (d : D) (H : List (Nat × Ob)) (_ : Nat) : Prop := (match brwR H d with | some e' => leR e' e | none => False) ∧ frR H d
theorem Rfr_at (e d : D) (H : List (Nat × Ob)) (nx : Nat) : Rfr e d H nx = ((match brwR H d with | some e' => leR e' e | none => False) ∧ frR H d) := rfl
theorem PFn.of {e : D} (hm : P.follows .mixedOrders = true) (hc : cfun P hw f = some ⟨code,res,n⟩) (hlen : ds.length ≤ n) (hno : ds.all argOk = true) (hnv : ds.all noV = true)
  (h : ∀ B : Base,B.N = n → B.n0 = 0 → W P B hw code (Fin res (Rfr e)) ⟨envOf 0 ds,[],0⟩) : PFn P f ds e := by
 obtain ⟨fn,c,hf,hb,h1,h2,h3,hcal⟩ := cfun_some hc
 refine ⟨hcal,fun Z w vs hz hl hv => ?_⟩
 refine (body_sound (B := ⟨n,fun _ => False,w,0,s0,Z⟩) hm hc rfl hlen hno (fun d hd => noV_lt (List.all_eq_true.1 hnv d hd)) (h _ rfl rfl) (empty_rel n Z w hz) hl hv).mono ?_
 rintro x w' ⟨v,d,H',nx',s',Z',he,q1,q2,q3,q4,q5⟩
 have hbel : Below w.heap.size w w' := ⟨q3.fr.os,q3.fr.tape,q3.fr.output,q3.fr.size,fun k hk => q3.fr.block k hk (fun h => h)⟩
 split at q4
 case h_2 => exact q4.elim
 rename_i e' he'
 refine ⟨v,Zown (fun _ _ => none) H' s' w',he,leR_sound q4 (frR_sound q3.know (fun id ob b hid hb o u hu => ?_) he' q5 q1),fun b o u hu => ?_,hbel⟩
 ·unfold Zown
  rw [if_pos ⟨id,ob,hid,hb⟩]
  exact hu
 ·unfold Zown at hu
  split at hu
  ·rename_i hx
   obtain ⟨id,ob,hid,hb⟩ := hx
   rcases q3.mine id ob b hid hb with h5 | h5
   ·exact ⟨h5,hu⟩
   ·exact h5.elim
  ·cases hu
end
def rnS (ρ : Nat → Nat) : D → D
 | .opt g d => .opt g (rnR ρ d)
 | d => rnR ρ d
theorem VS.rn {s s' : Nat → Value} {Z : Cells} {ρ : Nat → Nat} {n : Nat} (hs : ∀ id,id < n → s' (ρ id) = s id) {d : D} {v : Value} (hl : LtS n d) : VS s' Z (rnS ρ d) v ↔ VS s Z d v := by
 cases d with
 | opt g d => exact ⟨fun h => ⟨fun hg => (VR.rn hs (hl hg)).1 (h.1 hg),h.2⟩,fun h => ⟨fun hg => (VR.rn hs (hl hg)).2 (h.1 hg),h.2⟩⟩
 | tup ds => exact VR.rn (Z := Z) (d := .tup ds) hs hl
 | agg ds => exact VR.rn (Z := Z) (d := .agg ds) hs hl
 | own id => exact VR.rn (Z := Z) (d := .own id) hs hl
 | ptr id j => exact VR.rn (Z := Z) (d := .ptr id j) hs hl
 | pel id i sz j => exact VR.rn (Z := Z) (d := .pel id i sz j) hs hl
 | sl id sz off len cap => exact VR.rn (Z := Z) (d := .sl id sz off len cap) hs hl
 | clo f ids => exact VR.rn (Z := Z) (d := .clo f ids) hs hl
 | _ => exact Iff.rfl
def lget (l : List Nat) (id : Nat) : Nat := l.getD id id
section
variable {P : Program} {B : Base} {hw : List FuncId} {Q Q' : Ex → St → Prop} {st st1 : St} {sb : Bool} {K : St → Prop}
theorem Gh.ren (l : List Nat) (h0 : B.n0 ≤ st1.nx) (hl : ∀ id,id < B.n0 → lget l id = id) (he : ∀ p ∈ st1.env,eget st.env p.1 = rnS (lget l) p.2 ∧ LtS st1.nx p.2)
  (hh : ∀ p ∈ st1.heap,p.1 < st1.nx ∧ LtO st1.nx p.2 ∧ hget st.heap (lget l p.1) = some (rnO (lget l) p.2)) (hnd : (st1.heap.map fun p => lget l p.1).Nodup ∨ l = []) : Gh B st st1 := by
 intro s Z a w hr
 have hE : ∀ k,eget st1.env k = .any ∨ (k,eget st1.env k) ∈ st1.env := fun k => by
  have : ∀ l : List (Nat × D),eget l k = .any ∨ (k,eget l k) ∈ l := fun l => by
   induction l with
   | nil => exact .inl rfl
   | cons p l ih =>
    obtain ⟨j,d⟩ := p
    simp only [eget]
    split
    ·rename_i e;subst e;exact .inr (List.mem_cons_self ..)
    ·exact ih.imp id (List.mem_cons_of_mem _)
  exact this _
 refine ⟨fun id => s (lget l id),Z,⟨fun k => ?_,fun k => ?_,hr.size,hr.defers,?_⟩⟩
 ·rcases hE k with h | h
  ·rw [h];trivial
  ·obtain ⟨h1,h2⟩ := he _ h
   exact (VS.rn (s' := s) (fun _ _ => rfl) h2).1 (by rw [← h1];exact hr.env k)
 ·rcases hE k with h | h
  ·rw [h];trivial
  ·exact (he _ h).2
 ·have hH : ∀ id ob,hget st1.heap id = some ob → id < st1.nx ∧ LtO st1.nx ob ∧ hget st.heap (lget l id) = some (rnO (lget l) ob) := fun id ob h => hh _ (hget_mem h)
  have inj : ∀ id id' ob ob',hget st1.heap id = some ob → hget st1.heap id' = some ob' → id ≠ id' → lget l id ≠ lget l id' := fun id id' ob ob' h1 h2 hne e => by
   rcases hnd with hnd | rfl
   ·have m1 := hget_mem h1
    have m2 := hget_mem h2
    obtain ⟨i,hi⟩ := List.getElem?_of_mem m1
    obtain ⟨j,hj⟩ := List.getElem?_of_mem m2
    have g1 : (st1.heap.map fun p => lget l p.1)[i]? = some (lget l id) := by rw [List.getElem?_map,hi];rfl
    have g2 : (st1.heap.map fun p => lget l p.1)[j]? = some (lget l id') := by rw [List.getElem?_map,hj];rfl
    obtain ⟨l1,e1⟩ := List.getElem?_eq_some_iff.1 g1
    obtain ⟨l2,e2⟩ := List.getElem?_eq_some_iff.1 g2
    have : i = j := (List.getElem_inj hnd).1 (by rw [e1,e2];exact e)
    subst this
    rw [hi] at hj
    cases hj
    exact hne rfl
   ·exact hne (by simpa [lget] using e)
  refine ⟨fun id ob h => ?_,fun id ob h => ?_,fun id id' ob ob' b h h' hne hb => ?_,hr.h.zok,fun id ob b o h hb => ?_,fun id ob b h hb => ?_,hr.h.fr,h0,fun id hid => ?_,hr.h.bz,hr.h.bn⟩
  ·obtain ⟨h1,h2,h3⟩ := hH id ob h
   exact (ObOk.rn (s' := s) (fun _ _ => rfl) h2).1 (hr.h.ob _ _ h3)
  ·obtain ⟨h1,h2,h3⟩ := hH id ob h
   exact ⟨h1,h2⟩
  ·exact hr.h.apart _ _ _ _ b (hH id ob h).2.2 (hH id' ob' h').2.2 (inj id id' ob ob' h h' hne) hb
  ·exact hr.h.zap _ _ b o (hH id ob h).2.2 hb
  ·exact hr.h.mine _ _ b (hH id ob h).2.2 hb
  ·rw [hl id hid];exact hr.h.bs id hid
theorem Gh.of_eq (h : st = st1) : Gh B st st1 := h ▸ Gh.refl st
def LK {α : Type} (B : Base) (S : α → St) (I : Nat → α → Prop) (n : Nat) (st : St) : Prop := ∃ m y',Gh B st (S y') ∧ m < n ∧ I m y'
theorem W.loopS {α : Type} {x : AC} (S : α → St) (I : Nat → α → Prop) (h0 : ∃ n y,Gh B st (S y) ∧ I n y)
  (hround : ∀ n y,I n y → W P B hw x (seqQ (LK B S I n) Q) (S y)) : W P B hw (.loop x) Q st := by
 refine W.loop (fun n st => ∃ y,st = S y ∧ I n y) ?_ ?_
 ·obtain ⟨n,y,h1,h2⟩ := h0
  exact ⟨n,S y,h1,y,rfl,h2⟩
 ·rintro n _ ⟨y,rfl,h⟩
  refine (hround n y h).mono fun e st' h' => ?_
  cases e with
  | normal => obtain ⟨m,y',h1,h2,h3⟩ := h';exact ⟨m,S y',h1,h2,y',rfl,h3⟩
  | _ => exact h'
theorem WCall.pf {f : FuncId} {as_ : List Opd} {es : List D} {d : D} {dst : Option Nat} (hpf : PF P f es d) (hok : oks st.env (.call f as_) = true) (hes : match omap (brwV st.heap) (as_.map (evS st.env)) with | some e => leVL e es | none => False) (hno : ((as_.map (evS st.env)).all noV || flatR d) = true)
  (hK : K ⟨putO st.env dst d,st.heap,st.nx⟩) : WCall P sb B (.call f as_) dst st K := WCall.of hok (CallOk.pf hpf hes hno hK)
theorem WCall.pfn {f : FuncId} {as_ : List Opd} {es : List D} {d : D} {dst : Option Nat} (hpf : PFn P f es d) (hok : oks st.env (.call f as_) = true) (hes : match omap (brwV st.heap) (as_.map (evS st.env)) with | some e => leVL e es | none => False)
  (hK : K ⟨putO st.env dst d,st.heap,st.nx⟩) : WCall P sb B (.call f as_) dst st K := WCall.of hok (CallOk.pfn hpf hes hK)
end
section
variable {B : Base} {st : St}
theorem Gh.adopt (k sz : Nat) (h0 : 0 < sz) (hk : eget st.env k = .nil0) : Gh B st ⟨eput st.env k (.own st.nx),eput st.heap st.nx (.row sz []),st.nx + 1⟩ := by
 intro s Z a w hr
 have hv := hr.env k
 rw [hk] at hv
 have hv : VT Z .nil0 (a.tmps.getD k undef) := hv
 generalize hav : a.tmps.getD k undef = v at hv
 cases hv with
 | nil0 q =>
 have hH := hr.h.new (w' := w) (v := .slice q 0 0) (ob := .row sz []) (Below.refl _ _) ⟨h0,(fun _ h => by cases h),.inl ⟨rfl,q,rfl⟩⟩ trivial (fun k hk => by cases q <;> simp [blk] at hk)
 refine ⟨_,Z,fun j => ?_,fun j => ?_,hr.size,hr.defers,hH⟩
 ·rw [eget_eput]
  split
  ·rename_i e;subst e;rw [hav];exact ⟨(upd_same _ _ _).symm,.inl ⟨q,0,0,rfl⟩⟩
  ·exact (hr.env j).mono (fun _ _ _ h => h) (upd_lt s st.nx _) (hr.elt j)
 ·rw [eget_eput]
  split
  ·exact Nat.lt_succ_self _
  ·exact (hr.elt j).mono (Nat.le_succ _)
theorem Gh.adoptC (id j sz : Nat) (h0 : 0 < sz) (ds : List D) (hh : hget st.heap id = some (.cells ds)) (hk : ds[j]? = some .nil0) : Gh B st ⟨st.env,eput (eput st.heap st.nx (.row sz [])) id (.cells (ds.set j (.own st.nx))),st.nx + 1⟩ := by
 intro s Z a w hr
 obtain ⟨b,T,cs,hb,hg,hsz,hc⟩ := hr.h.ob _ _ hh
 have hv := hc j _ hk
 have hv : VT Z .nil0 (cs.getD j undef) := hv
 generalize hav : cs.getD j undef = v at hv
 cases hv with
 | nil0 q =>
 have hlt := hr.h.lt _ _ hh
 have hne : id ≠ st.nx := by omega
 have hH := hr.h.new (w' := w) (v := .slice q 0 0) (ob := .row sz []) (Below.refl _ _) ⟨h0,(fun _ h => by cases h),.inl ⟨rfl,q,rfl⟩⟩ trivial (fun k hk => by cases q <;> simp [blk] at hk)
 have hh' : hget (eput st.heap st.nx (.row sz [])) id = some (.cells ds) := by rw [hget_eput,if_neg hne];exact hh
 have hs : upd s st.nx (.slice q 0 0) id = s id := upd_lt _ _ _ _ hlt.1
 have hH2 : RelH B (upd s st.nx (.slice q 0 0)) Z (eput (eput st.heap st.nx (.row sz [])) id (.cells (ds.set j (.own st.nx)))) (st.nx + 1) w := by
  refine hH.write (k := b) hh' (by rw [hs,hb];rfl) ⟨rfl,rfl,rfl,rfl,fun _ _ => rfl⟩ ?_ ?_
  ·refine ⟨b,T,cs,by rw [hs];exact hb,hg,by simpa using hsz,fun i x hx => ?_⟩
   rw [List.getElem?_set] at hx
   split at hx
   ·rename_i e
    subst e
    split at hx
    ·simp only [Option.some.injEq] at hx;subst hx;rw [hav];exact ⟨(upd_same _ _ _).symm,.inl ⟨q,0,0,rfl⟩⟩
    ·cases hx
   ·exact VC.mono (fun _ _ _ h => h) (upd_lt s st.nx _) (hlt.2 x (List.mem_of_getElem? hx)) (hc i x hx)
  ·intro x hx
   rcases List.mem_or_eq_of_mem_set hx with hx | rfl
   ·exact (hlt.2 x hx).mono (Nat.le_succ _)
   ·exact Nat.lt_succ_self _
 exact ⟨_,Z,fun j => (hr.env j).mono (fun _ _ _ h => h) (upd_lt s st.nx _) (hr.elt j),fun j => (hr.elt j).mono (Nat.le_succ _),hr.size,hr.defers,hH2⟩
end
theorem mn_min (a b : Int) : (if b < a then b else a) = min a b := by split <;> omega
theorem mx_max (a b : Int) : (if a < b then b else a) = max a b := by split <;> omega
abbrev I (z : Int) : D := .int .i64 z
theorem splice_one (l : List D) (j : Nat) (v : D) (h : j < l.length) : splice l j [v] = l.set j v := by
 unfold splice
 rw [List.set_eq_take_append_cons_drop,if_pos h]
 simp
theorem splice_more (l : List D) (j : Nat) (x y : D) (es : List D) : splice l j (x :: y :: es) = l.take j ++ (x :: y :: es) ++ l.drop (j + (es.length + 1 + 1)) := rfl
theorem gr0 {B : Base} {st st1 : St} (l : List Nat) (hB : B.n0 = 0) (he : ∀ p ∈ st1.env, eget st.env p.1 = rnS (lget l) p.2 ∧ LtS st1.nx p.2)
  (hh : ∀ p ∈ st1.heap, p.1 < st1.nx ∧ LtO st1.nx p.2 ∧ hget st.heap (lget l p.1) = some (rnO (lget l) p.2)) (hnd : (st1.heap.map fun p => lget l p.1).Nodup ∨ l = []) : Gh B st st1 :=
  Gh.ren l (by rw [hB]; exact Nat.zero_le _) (fun id h => by rw [hB] at h; exact absurd h (Nat.not_lt_zero _)) he hh hnd
def hkeep (ids : List Nat) : List (Nat × Ob) → List (Nat × Ob)
 | [] => []
 | (k,o) :: t => if ids.contains k then (k,o) :: hkeep ids t else hkeep ids t
def hdrop (ids : List Nat) : List (Nat × Ob) → List (Nat × Ob)
 | [] => []
 | (k,o) :: t => if ids.contains k then hdrop ids t else (k,o) :: hdrop ids t
theorem hget_hkeep (ids : List Nat) (id : Nat) : ∀ H,hget (hkeep ids H) id = if ids.contains id then hget H id else none
 | [] => by simp [hkeep,hget]
 | (k,o) :: t => by
  simp only [hkeep]
  split
  ·rename_i hk
   simp only [hget,hget_hkeep ids id t]
   by_cases h : id = k
   ·subst h;rw [if_pos rfl,if_pos hk,if_pos rfl]
   ·rw [if_neg h,if_neg h]
  ·rename_i hk
   rw [hget_hkeep ids id t]
   by_cases h : id = k
   ·subst h;rw [if_neg hk,if_neg hk]
   ·simp only [hget,if_neg h]
theorem hget_hdrop (ids : List Nat) (id : Nat) : ∀ H,hget (hdrop ids H) id = if ids.contains id then none else hget H id
 | [] => by simp [hdrop,hget]
 | (k,o) :: t => by
  simp only [hdrop]
  split
  ·rename_i hk
   rw [hget_hdrop ids id t]
   by_cases h : id = k
   ·subst h;rw [if_pos hk,if_pos hk]
   ·simp only [hget,if_neg h]
  ·rename_i hk
   simp only [hget,hget_hdrop ids id t]
   by_cases h : id = k
   ·subst h;rw [if_pos rfl,if_neg hk,if_pos rfl]
   ·rw [if_neg h,if_neg h]
def fzC (H : List (Nat × Ob)) (d : D) : D := match brwC H 4 d with | some e => e | none => d
def fzV (H : List (Nat × Ob)) : D → D
 | .agg ds => .agg (ds.map (fzC H))
 | d => fzC H d
def fzR (H : List (Nat × Ob)) : D → D
 | .tup ds => .tup (ds.map (fzV H))
 | .any => .any
 | d => fzV H d
def fzS (H : List (Nat × Ob)) : D → D
 | .opt g d => .opt g (fzR H d)
 | d => fzR H d
def fzO (H : List (Nat × Ob)) : Ob → Ob
 | .cells ds => .cells (ds.map (fzC H))
 | .rowd sz xs => .rowd sz (xs.map (List.map (fzC H)))
 | o => o
def freeze (ids : List Nat) (st : St) : St :=
 ⟨st.env.map fun p => (p.1,fzS (hkeep ids st.heap) p.2),(hdrop ids st.heap).map fun p => (p.1,fzO (hkeep ids st.heap) p.2),st.nx⟩
theorem eget_map (f : D → D) (hf : f .any = .any) (k : Nat) : ∀ (l : List (Nat × D)),eget (l.map fun p => (p.1,f p.2)) k = f (eget l k)
 | [] => by simp [eget,hf]
 | (j,d) :: t => by
  simp only [List.map_cons,eget]
  split
  ·rfl
  ·exact eget_map f hf k t
theorem hget_map (f : Ob → Ob) (k : Nat) : ∀ (l : List (Nat × Ob)),hget (l.map fun p => (p.1,f p.2)) k = (hget l k).map f
 | [] => rfl
 | (j,d) :: t => by
  simp only [List.map_cons,hget]
  split
  ·rfl
  ·exact hget_map f k t
theorem VT.ltN {Z : Cells} {d : D} {v : Value} (n : Nat) (h : VT Z d v) : LtC n d := by cases h <;> trivial
theorem VC.vt_agg {s : Nat → Value} {Z : Cells} {ds : List D} {v : Value} (h : VC s Z (.agg ds) v) : False := by cases h
theorem VC.vt_tup {s : Nat → Value} {Z : Cells} {ds : List D} {v : Value} (h : VC s Z (.tup ds) v) : False := by cases h
theorem RowOk.map {R R' : D → Value → Prop} {w : World} {sz : Nat} {xs : List (List D)} {v : Value} (f : D → D) (h : RowOk R w sz xs v) (hR : ∀ row ∈ xs,∀ d ∈ row,∀ u,R d u → R' (f d) u) : RowOk R' w sz (xs.map (List.map f)) v := by
 obtain ⟨h1,h2,h3⟩ := h
 refine ⟨h1,fun row hr => ?_,?_⟩
 ·obtain ⟨r,hr',rfl⟩ := List.mem_map.1 hr
  simpa using h2 r hr'
 ·rcases h3 with ⟨rfl,a,h4⟩ | ⟨g,cap,cur,e,h3,h4,h5,h6,h7,h8⟩
  ·exact .inl ⟨rfl,a,h4⟩
  ·refine .inr ⟨g,cap,cur,e,by simpa using h3,h4,by simpa using h5,h6,h7,fun i row j d hi hj => ?_⟩
   obtain ⟨r,hr',rfl⟩ := (map_get _ _ _ _).1 hi
   obtain ⟨x,hx,rfl⟩ := (map_get _ _ _ _).1 hj
   exact hR r (List.mem_of_getElem? hr') x (List.mem_of_getElem? hx) _ (h8 i r j x hr' hx)
section
variable {B : Base} {st : St}
theorem Gh.freeze (ids : List Nat) : Gh B st (freeze ids st) := by
 intro s Z a w hr
 obtain ⟨Hf,hHf⟩ : ∃ Hf,Hf = hkeep ids st.heap := ⟨_,rfl⟩
 have hsub : ∀ id ob,hget Hf id = some ob → hget st.heap id = some ob ∧ ids.contains id = true := fun id ob h => by
  rw [hHf,hget_hkeep] at h
  split at h
  ·rename_i hc;exact ⟨h,hc⟩
  ·cases h
 have hknow : Know s Z Hf w := ⟨fun id ob h => hr.h.ob id ob (hsub id ob h).1,hr.h.zok⟩
 classical
 let Zp : Cells := fun b o => if ∃ id ob,hget Hf id = some ob ∧ blk (s id) = some b then w.cell? ⟨b,o,none⟩ else Z b o
 have hz : ∀ b o v,Z b o = some v → Zp b o = some v := fun b o v hv => by
  show (if _ then _ else _) = _
  split
  ·rename_i h
   obtain ⟨id,ob,h1,h2⟩ := h
   have := hr.h.zap id ob b o (hsub id ob h1).1 h2
   rw [this] at hv;cases hv
  ·exact hv
 have hp : ∀ id ob b,hget Hf id = some ob → blk (s id) = some b → ∀ o v,w.cell? ⟨b,o,none⟩ = some v → Zp b o = some v := fun id ob b h1 h2 o v hv => by
  show (if _ then _ else _) = _
  rw [if_pos ⟨id,ob,h1,h2⟩];exact hv
 have kC : ∀ d v,LtC st.nx d → VC s Z d v → VC s Zp (fzC Hf d) v ∧ LtC st.nx (fzC Hf d) := fun d v hl hv => by
  unfold fzC
  cases hb : brwC Hf 4 d with
  | some e =>
   have := brwC_sound hknow hz hp 4 d e v hb hv
   exact ⟨VC.of_vt this,VT.ltN _ this⟩
  | none => exact ⟨VC.mono hz (fun _ _ => rfl) hl hv,hl⟩
 have toV : ∀ e v,VC s Zp e v → LtC st.nx e → VV s Zp e v ∧ LtV st.nx e := fun e v h1 h2 => by
  refine ⟨VV.of_vc h1,?_⟩
  cases e <;> first | exact h2 | exact (VC.vt_agg (s := s) (Z := Zp) h1).elim
 have kV : ∀ d v,LtV st.nx d → VV s Z d v → VV s Zp (fzV Hf d) v ∧ LtV st.nx (fzV Hf d) := fun d v hl hv => by
  have one : LtC st.nx d → VC s Z d v → VV s Zp (fzC Hf d) v ∧ LtV st.nx (fzC Hf d) := fun h1 h2 => by
   obtain ⟨g1,g2⟩ := kC d v h1 h2
   exact toV _ _ g1 g2
  cases d with
  | agg ds =>
   obtain ⟨vs,rfl,h1,h2⟩ := hv
   refine ⟨⟨vs,rfl,by simpa using h1,fun j x hx => ?_⟩,fun x hx => ?_⟩
   ·obtain ⟨y,hy,rfl⟩ := (map_get _ _ _ _).1 hx
    exact (kC y _ (hl y (List.mem_of_getElem? hy)) (h2 j y hy)).1
   ·obtain ⟨y,hy,rfl⟩ := List.mem_map.1 hx
    obtain ⟨j,hj⟩ := List.getElem?_of_mem hy
    exact (kC y _ (hl y hy) (h2 j y hj)).2
  | _ => exact one hl hv
 have toR : ∀ e v,VV s Zp e v → LtV st.nx e → VR s Zp e v ∧ LtR st.nx e := fun e v h1 h2 => by
  refine ⟨VR.of_vv h1,?_⟩
  cases e <;> first | exact h2 | exact (VC.vt_tup (s := s) (Z := Zp) h1).elim
 have kR : ∀ d v,LtR st.nx d → VR s Z d v → VR s Zp (fzR Hf d) v ∧ LtR st.nx (fzR Hf d) := fun d v hl hv => by
  have one : LtV st.nx d → VV s Z d v → VR s Zp (fzV Hf d) v ∧ LtR st.nx (fzV Hf d) := fun h1 h2 => by
   obtain ⟨g1,g2⟩ := kV d v h1 h2
   exact toR _ _ g1 g2
  cases d with
  | tup ds =>
   obtain ⟨vs,rfl,h1,h2⟩ := hv
   refine ⟨⟨vs,rfl,by simpa using h1,fun j x hx => ?_⟩,fun x hx => ?_⟩
   ·obtain ⟨y,hy,rfl⟩ := (map_get _ _ _ _).1 hx
    exact (kV y _ (hl y (List.mem_of_getElem? hy)) (h2 j y hy)).1
   ·obtain ⟨y,hy,rfl⟩ := List.mem_map.1 hx
    obtain ⟨j,hj⟩ := List.getElem?_of_mem hy
    exact (kV y _ (hl y hy) (h2 j y hj)).2
  | any => exact ⟨trivial,trivial⟩
  | _ => exact one hl hv
 have kS : ∀ d v,LtS st.nx d → VS s Z d v → VS s Zp (fzS Hf d) v ∧ LtS st.nx (fzS Hf d) := fun d v hl hv => by
  have one : LtR st.nx d → VR s Z d v → VS s Zp (fzR Hf d) v ∧ LtS st.nx (fzR Hf d) := fun h1 h2 => by
   obtain ⟨g1,g2⟩ := kR d v h1 h2
   exact ⟨VS.of_vr g1,LtS.of_r g2 (VR.no_opt g1)⟩
  cases d with
  | opt g d => exact ⟨⟨fun hg => (kR d v (hl hg) (hv.1 hg)).1,hv.2⟩,fun hg => (kR d v (hl hg) (hv.1 hg)).2⟩
  | _ => exact one hl hv
 have hgo : ∀ id ob,hget (Go.Proofs.YtibemmkfcjlmpaaGreat.freeze ids st).heap id = some ob → ∃ ob0,hget st.heap id = some ob0 ∧ ids.contains id = false ∧ ob = fzO Hf ob0 := fun id ob h => by
  have h : hget ((hdrop ids st.heap).map fun p => (p.1,fzO (hkeep ids st.heap) p.2)) id = some ob := h
  rw [hget_map,hget_hdrop,← hHf] at h
  cases hc : ids.contains id with
  | true => rw [if_pos hc] at h;cases h
  | false =>
   rw [if_neg (by rw [hc];exact Bool.false_ne_true)] at h
   cases hq : hget st.heap id with
   | none => rw [hq] at h;cases h
   | some ob0 =>
    rw [hq] at h
    simp only [Option.map_some,Option.some.injEq] at h
    exact ⟨ob0,rfl,rfl,h.symm⟩
 refine ⟨s,Zp,⟨fun k => ?_,fun k => ?_,hr.size,hr.defers,?_⟩⟩
 ·show VS s Zp (eget (st.env.map fun p => (p.1,fzS (hkeep ids st.heap) p.2)) k) _
  rw [eget_map _ rfl,← hHf]
  exact (kS _ _ (hr.elt k) (hr.env k)).1
 ·show LtS st.nx (eget (st.env.map fun p => (p.1,fzS (hkeep ids st.heap) p.2)) k)
  rw [eget_map _ rfl,← hHf]
  exact (kS _ _ (hr.elt k) (hr.env k)).2
 ·constructor
  ·intro id ob h
   obtain ⟨ob0,h1,h2,rfl⟩ := hgo id ob h
   have h3 := hr.h.ob id ob0 h1
   have h4 := (hr.h.lt id ob0 h1).2
   cases ob0 with
   | cells ds =>
    obtain ⟨b,T,cs,g1,g2,g3,g4⟩ := h3
    refine ⟨b,T,cs,g1,g2,by simpa using g3,fun j x hx => ?_⟩
    obtain ⟨y,hy,rfl⟩ := (map_get _ _ _ _).1 hx
    exact (kC y _ (h4 y (List.mem_of_getElem? hy)) (g4 j y hy)).1
   | row sz xs => exact RowOk.mono h3 (fun _ _ => rfl) (fun _ _ _ _ _ h => VT.mono hz h)
   | rowd sz xs => exact RowOk.map _ h3 fun row hrow d hd u hu => (kC d u (h4 row hrow d hd) hu).1
   | blk sz xs => exact BlkOk.mono h3 (fun _ _ => rfl) (fun row hrow d hd u hu => VC.mono hz (fun _ _ => rfl) (h4 row hrow d hd) hu)
   | mp bare es ck => exact h3
   | it m since seen last => exact h3
  ·intro id ob h
   obtain ⟨ob0,h1,h2,rfl⟩ := hgo id ob h
   have h3 := hr.h.ob id ob0 h1
   have h4 := hr.h.lt id ob0 h1
   refine ⟨h4.1,?_⟩
   cases ob0 with
   | cells ds =>
    obtain ⟨b,T,cs,g1,g2,g3,g5⟩ := h3
    intro x hx
    obtain ⟨y,hy,rfl⟩ := List.mem_map.1 hx
    obtain ⟨j,hj⟩ := List.getElem?_of_mem hy
    exact (kC y _ (h4.2 y hy) (g5 j y hj)).2
   | row sz xs => trivial
   | rowd sz xs =>
    intro row hrow x hx
    obtain ⟨r,hr',rfl⟩ := List.mem_map.1 hrow
    obtain ⟨y,hy,rfl⟩ := List.mem_map.1 hx
    rcases h3.2.2 with ⟨rfl,_⟩ | ⟨g,cap,cur,e,_,_,_,_,_,h8⟩
    ·cases hr'
    ·obtain ⟨i,hi⟩ := List.getElem?_of_mem hr'
     obtain ⟨j,hj⟩ := List.getElem?_of_mem hy
     exact (kC y _ (h4.2 r hr' y hy) (h8 i r j y hi hj)).2
   | blk sz xs => exact h4.2
   | mp bare es ck => trivial
   | it m since seen last => exact h4.2
  ·intro id id' ob ob' b h h' hne hb
   obtain ⟨o1,h1,_,_⟩ := hgo id ob h
   obtain ⟨o2,h2,_,_⟩ := hgo id' ob' h'
   exact hr.h.apart id id' o1 o2 b h1 h2 hne hb
  ·intro b o v hv
   have hv : (if ∃ id ob,hget Hf id = some ob ∧ blk (s id) = some b then w.cell? ⟨b,o,none⟩ else Z b o) = some v := hv
   split at hv
   ·exact hv
   ·exact hr.h.zok b o v hv
  ·intro id ob b o h hb
   obtain ⟨o1,h1,h2,_⟩ := hgo id ob h
   show (if _ then _ else _) = _
   rw [if_neg,hr.h.zap id o1 b o h1 hb]
   rintro ⟨id',ob',h3,h4⟩
   obtain ⟨h5,h6⟩ := hsub id' ob' h3
   refine hr.h.apart id id' o1 ob' b h1 h5 ?_ hb h4
   rintro rfl
   rw [h2] at h6;cases h6
  ·intro id ob b h hb
   obtain ⟨o1,h1,_,_⟩ := hgo id ob h
   exact hr.h.mine id o1 b h1 hb
  ·exact hr.h.fr
  ·exact hr.h.n0
  ·exact hr.h.bs
  ·exact fun b o v hv => hz b o v (hr.h.bz b o v hv)
  ·intro b o v hv
   have hv : (if ∃ id ob,hget Hf id = some ob ∧ blk (s id) = some b then w.cell? ⟨b,o,none⟩ else Z b o) = some v := hv
   split at hv
   ·rename_i h
    obtain ⟨id,ob,h1,h2⟩ := h
    exact .inr (hr.h.mine id ob b (hsub id ob h1).1 h2)
   ·exact hr.h.bn b o v hv
theorem W.freeze {P : Program} {hw : List FuncId} {c : AC} {Q : Ex → St → Prop} (ids : List Nat) (h : W P B hw c Q (Go.Proofs.YtibemmkfcjlmpaaGreat.freeze ids st)) : W P B hw c Q st := W.gh (Gh.freeze ids) h
end
theorem rho_0 (nx id : Nat) : rho [] 0 nx id = nx + id := by simp [rho]
theorem WCall.hf0 {P : Program} {sb : Bool} {B : Base} {st : St} {K : St → Prop} {f : FuncId} {as_ : List Opd} {ds0 : List D} {dst : Option Nat} {R : D → List (Nat × Ob) → Nat → Prop} (hf : HF P f ds0 [] 0 R) (hok : oks st.env (.call f as_) = true)
  (hds : as_.map (evS st.env) = ds0) (hao : ds0.all argOk = true) (hno : ds0.all noV = true)
  (hK : ∀ d H' nx',R d H' nx' → K ⟨putO st.env dst (rnR (rho [] 0 st.nx) d),hputs (rho [] 0 st.nx) H' st.heap,st.nx + nx'⟩) : WCall P sb B (.call f as_) dst st K := by
 have hlt : ∀ d ∈ ds0,LtV 0 d := fun d hd => noV_lt (List.all_eq_true.1 hno d hd)
 have hid : ∀ d ∈ ds0,rnV (rho [] 0 st.nx) d = d := fun d hd => by
  have h := List.all_eq_true.1 hno d hd
  have hc : ∀ x,noC x = true → rnC (rho [] 0 st.nx) x = x := fun x hx => by cases x <;> first | rfl | cases hx
  cases d with
  | agg ds =>
   simp only [rnV]
   congr 1
   refine (List.map_congr_left fun x hx => ?_).trans (List.map_id ds)
   exact hc x (List.all_eq_true.1 h x hx)
  | _ => first | rfl | cases h
 refine WCall.of hok (CallOk.hf hf (fun _ => rfl) [] rfl List.nodup_nil (fun k hk => by cases hk) ?_ hao hlt (fun p hp => by cases hp) fun d H' nx' _ hR => hK d H' nx' hR)
 rw [hds]
 conv => lhs;rw [← List.map_id ds0]
 exact List.map_congr_left fun d hd => (hid d hd).symm
abbrev Ent := List Int × List Int × Nat
def goodK (n : Nat) (ks : List Int) : Prop := ks.length = (if n = 0 then 1 else n) ∧ ∀ z ∈ ks,InR z
def keyD (n : Nat) (ks : List Int) : D := if n = 0 then .int .i64 (ks.headD 0) else .agg (ks.map (.int .i64))
def MapsOk (P : Program) (n : Nat) : Prop := ∀ t kt e,P.underlying t = some (.map kt e) → mapK P kt = some n → Maps.Keyed P kt ∧ ∀ ks,goodK n ks → ∃ l,keyOf P kt (vInts (n == 0) ks) = some l
def mput (es : List Ent) (ks vs : List Int) (ck : Nat) : List Ent × Nat :=
 if ∃ e ∈ es,e.1 = ks then (es.map fun e => if e.1 = ks then (ks,vs,e.2.2) else e,ck) else (es ++ [(ks,vs,ck)],ck + 1)
theorem aggI_inv {s : Nat → Value} {Z : Cells} {ks : List Int} {v : Value} (h : VR s Z (.agg (ks.map (.int .i64))) v) : v = vInts false ks := by
 obtain ⟨vs,rfl,hl,hc⟩ := h.agg_inv
 obtain ⟨vs⟩ := vs
 simp only [vInts,Bool.false_eq_true,if_false]
 congr 2
 refine List.ext_getElem? fun j => ?_
 have hl2 : vs.length = ks.length := by simpa using hl
 by_cases hj : j < ks.length
 ·have h1 := hc j (.int .i64 ks[j]) (by simp [List.getElem?_eq_getElem hj])
  have hj2 : j < vs.length := by omega
  have h2 : vs[j] = .int .i64 ks[j] := by
   have h1 : VT Z (.int .i64 ks[j]) (vs.toArray.getD j undef) := h1
   simp only [Array.getD_eq_getD_getElem?,List.getElem?_toArray,List.getElem?_eq_getElem hj2,Option.getD_some] at h1
   generalize vs[j] = q at h1
   cases h1;rfl
  rw [List.getElem?_eq_getElem hj2,h2]
  simp [List.getElem?_eq_getElem hj]
 ·rw [List.getElem?_eq_none (by omega),List.getElem?_eq_none (by simpa using hj)]
theorem keyD_inv {s : Nat → Value} {Z : Cells} {n : Nat} {ks : List Int} {v : Value} (h : VR s Z (keyD n ks) v) : v = vInts (n == 0) ks := by
 unfold keyD at h
 split at h
 ·subst_vars
  have := h.int_inv
  rw [this];rfl
 ·rename_i hn
  have : (n == 0) = false := by simpa using hn
  rw [this]
  exact aggI_inv h
theorem vInts_inj {n : Nat} {a b : List Int} (ha : goodK n a) (hb : goodK n b) (h : vInts (n == 0) a = vInts (n == 0) b) : a = b := by
 obtain ⟨ha,_⟩ := ha
 obtain ⟨hb,_⟩ := hb
 by_cases hn : n = 0
 ·subst hn
  simp only [if_true] at ha hb
  match a,b,ha,hb with
  | [x],[y],_,_ => simpa [vInts] using h
 ·have : (n == 0) = false := by simpa using hn
  rw [this] at h
  simp only [vInts,Bool.false_eq_true,if_false,Value.agg.injEq] at h
  have h' : a.map (Value.int .i64) = b.map (Value.int .i64) := by simpa using congrArg Array.toList h
  exact (List.map_inj_right fun x y hxy => by simpa using hxy).1 h'
theorem opdsC_one : ∀ {l : List Operand} {a : Opd},opdsC l = some [a] → ∃ x,l = [x] ∧ opdC x = some a
 | [],a,h => by simp [opdsC] at h
 | x :: l,a,h => by
  simp only [opdsC] at h
  split at h <;> simp at h
  rename_i y ys h1 h2
  obtain ⟨rfl,rfl⟩ := h
  match l,h2 with
  | [],_ => exact ⟨x,rfl,h1⟩
  | z :: l,h2 =>
   simp only [opdsC] at h2
   split at h2 <;> simp at h2
theorem opdsC_two : ∀ {l : List Operand} {a b : Opd},opdsC l = some [a,b] → ∃ x y,l = [x,y] ∧ opdC x = some a ∧ opdC y = some b
 | [],a,b,h => by simp [opdsC] at h
 | x :: l,a,b,h => by
  simp only [opdsC] at h
  split at h <;> simp at h
  rename_i y ys h1 h2
  obtain ⟨rfl,rfl⟩ := h
  obtain ⟨z,rfl,h3⟩ := opdsC_one h2
  exact ⟨x,z,rfl,h1,h3⟩
section
variable {P : Program}
theorem xcop_0 {o : Op} {n : Nat} {xs : List Opd} (h : xcop P o = some (.xop 0 [n] xs)) : ∃ t kt e,o = .makeMap t none ∧ P.underlying t = some (.map kt e) ∧ mapK P kt = some n := by
 unfold xcop at h
 split at h
 ·split at h
  ·rename_i kt e he
   simp at h
   obtain ⟨_,h1,rfl,_⟩ := h
   exact ⟨_,kt,e,rfl,he,h1⟩
  ·simp at h
 all_goals (repeat' split at h) <;> simp at h
theorem xcop_1 {o : Op} {n : Nat} {xs : List Opd} (h : xcop P o = some (.xop 1 [n] xs)) : ∃ t m k v kt e xm xk xv,o = .mapUpdate t m k v ∧ P.underlying t = some (.map kt e) ∧ opdC m = some xm ∧ opdC k = some xk ∧ opdC v = some xv ∧ mapK P kt = some n ∧ xs = [xm,xk,xv] := by
 unfold xcop at h
 split at h
 ·split at h <;> simp at h
 ·split at h
  ·rename_i kt e xm xk xv he hm hk hv
   simp at h
   obtain ⟨_,h1,rfl,h2⟩ := h
   exact ⟨_,_,_,_,kt,e,xm,xk,xv,rfl,he,hm,hk,hv,h1,h2.symm⟩
  ·simp at h
 all_goals (repeat' split at h) <;> simp at h
theorem xcop_3 {o : Op} {n : Nat} {xs : List Opd} (h : xcop P o = some (.xop 3 [n] xs)) : ∃ c t kt e m xm,o = .call c ∧ c.callee = .builtin .len ∧ c.args.toList = [m] ∧ c.argTypes.toList = [t] ∧ P.underlying t = some (.map kt e) ∧ opdC m = some xm ∧ mapK P kt = some n ∧ xs = [xm] := by
 unfold xcop at h
 split at h
 ·split at h <;> simp at h
 ·split at h <;> simp at h
 ·split at h <;> simp at h
 ·split at h
  ·split at h <;> simp at h
  ·simp at h
 ·simp at h
 ·simp at h
 ·rename_i c
  split at h
  ·(repeat' split at h) <;> simp at h
  ·rename_i hcal
   split at h
   ·rename_i xm t hargs hat
    split at h
    ·rename_i kt e he
     simp at h
     obtain ⟨m,h1,h2⟩ := opdsC_one hargs
     obtain ⟨_,g1,rfl,g2⟩ := h
     exact ⟨c,t,kt,e,m,xm,rfl,hcal,h1,hat,he,h2,g1,g2.symm⟩
    ·simp at h
   ·simp at h
  all_goals ((repeat' split at h) <;> simp at h)
 ·simp at h
end
theorem mput_new {es : List Ent} {ks vs : List Int} {ck : Nat} (h : ∀ e ∈ es,e.1 ≠ ks) : mput es ks vs ck = (es ++ [(ks,vs,ck)],ck + 1) := by
 unfold mput
 rw [if_neg]
 rintro ⟨e,he,rfl⟩
 exact h e he rfl
theorem mput_old {es : List Ent} {ks vs : List Int} {ck j : Nat} {e : Ent} (hj : es[j]? = some e) (he : e.1 = ks) (hnd : (es.map (·.1)).Nodup) : mput es ks vs ck = (es.set j (ks,vs,e.2.2),ck) := by
 unfold mput
 rw [if_pos ⟨e,List.mem_of_getElem? hj,he⟩]
 congr 1
 obtain ⟨hjl,hje⟩ := List.getElem?_eq_some_iff.1 hj
 refine List.ext_getElem (by simp) fun i h1 h2 => ?_
 rw [List.getElem_map,List.getElem_set]
 have hil : i < es.length := by simpa using h1
 by_cases hij : j = i
 ·subst hij
  rw [if_pos rfl,hje,if_pos he]
 ·rw [if_neg hij,if_neg]
  intro hk
  have : (es.map (·.1))[j]'(by simpa using hjl) = (es.map (·.1))[i]'(by simpa using hil) := by simp [hje,he,hk]
  exact hij ((List.getElem_inj hnd).1 this)
theorem only_set (w : World) (b : Nat) (o : Obj) : Only b w (ChangeMaps.setBlock w b o) := ⟨rfl,rfl,rfl,by simp [ChangeMaps.setBlock],fun k hk => by simp [ChangeMaps.setBlock,Ne.symm hk]⟩
section
variable {P : Program} {sb : Bool} {B : Base} {st : St} {K : St → Prop} {dst : Option Nat} {n : Nat} {id : Nat} {es : List Ent} {ck : Nat} {ks vs : List Int} {xm xk xv : Opd}
theorem XCall.mk (h : K ⟨putO st.env dst (.own st.nx),eput st.heap st.nx (.mp (n == 0) [] 0),st.nx + 1⟩) : XCall P sb B (.xop 0 [n] []) dst st K := by
 intro o s Z a w K' Q hx hd hdst hr hG
 subst hd
 obtain ⟨t,kt,e,ho,ht,hm⟩ := xcop_0 hx
 refine wp_value (v := .map (some w.heap.size)) (w' := w.alloc (.map #[] 0)) ?_ ?_
 ·unfold execOp;rw [ho]
  simp [Instr.makeMap,newObj,Sem.run,Result.andThen]
 ·have hbel : Below w.heap.size w (w.alloc (.map #[] 0)) := (Below.refl _ _).alloc (Nat.le_refl _) _
  refine hG _ _ _ _ _ (fun _ => hbel) h (hr.step hdst (upd_lt s st.nx _) (fun _ _ _ h => h) (by omega) (v := .map (some w.heap.size)) ?_ ?_ (hr.h.new hbel (v := .map (some w.heap.size)) ⟨w.heap.size,rfl,?_⟩ trivial (fun k hk => ?_)))
  ·exact ⟨(upd_same _ _ _).symm,.inr ⟨_,rfl⟩⟩
  ·exact Nat.lt_succ_self _
  ·exact (MapKept.heap_alloc w _).1
  ·cases hk;exact Nat.le_refl _
theorem map_at {s : Nat → Value} {Z : Cells} {a : Act} {w : World} (hr : Rel B s Z st a w) {m : Operand} (hop : opdC m = some xm) (hg : gS st.env xm = true) (hm : evS st.env xm = .own id) {bare : Bool} (hh : hget st.heap id = some (.mp bare es ck)) :
  ∃ b,a.eval m = .map (some b) ∧ s id = .map (some b) ∧ w.heap[b]? = some (.map (es.map (mEnt bare)).toArray ck) := by
 have h1 := hr.vr hop hg
 rw [hm] at h1
 obtain ⟨h1,_⟩ := h1
 obtain ⟨b,h2,h3⟩ := hr.h.ob id _ hh
 exact ⟨b,h1.trans h2,h2,h3⟩
theorem keys_ok (hM : MapsOk P n) {t kt e : TypeId} (ht : P.underlying t = some (.map kt e)) (hkt : mapK P kt = some n) (hes : ∀ e ∈ es,goodK n e.1) : ∀ x ∈ (es.map (mEnt (n == 0))),∃ l,keyOf P kt x.key = some l := fun x hx => by
 obtain ⟨e,he,rfl⟩ := List.mem_map.1 hx
 exact (hM t kt _ ht hkt).2 e.1 (hes e he)
theorem XCall.upd (hM : MapsOk P n) (hok : oks st.env (.xop 1 [n] [xm,xk,xv]) = true) (hsb : sb = false) (hm : evS st.env xm = .own id) (hh : hget st.heap id = some (.mp (n == 0) es ck))
  (hk : evS st.env xk = keyD n ks) (hv : evS st.env xv = .agg (vs.map (.int .i64))) (hgk : goodK n ks) (hes : ∀ e ∈ es,goodK n e.1) (hnd : (es.map (·.1)).Nodup)
  (h : K ⟨putO st.env dst .any,eput st.heap id (.mp (n == 0) (mput es ks vs ck).1 (mput es ks vs ck).2),st.nx⟩) : XCall P sb B (.xop 1 [n] [xm,xk,xv]) dst st K := by
 intro o s Z a w K' Q hx hd hdst hr hG
 subst hd
 obtain ⟨t,m,k,v,kt,e,xm',xk',xv',ho,ht,h1,h2,h3,hkt,hxs⟩ := xcop_1 hx
 simp only [List.cons.injEq,and_true] at hxs
 obtain ⟨rfl,rfl,rfl⟩ := hxs
 have hg : ∀ x ∈ [xm,xk,xv],gS st.env x = true := fun x hx => oks_mem hok hx
 obtain ⟨b,hb1,hb2,hb3⟩ := map_at hr h1 (hg _ (by simp)) hm hh
 have hkv := hr.vr h2 (hg _ (by simp))
 rw [hk] at hkv
 have hkv := keyD_inv hkv
 have hvv := hr.vr h3 (hg _ (by simp))
 rw [hv] at hvv
 have hvv := aggI_inv hvv
 obtain ⟨KK,hK2⟩ := hM t kt e ht hkt
 obtain ⟨kl,hkl⟩ := hK2 ks hgk
 have hrun : (Instr.mapUpdate t (.map (some b)) (vInts (n == 0) ks) (vInts false vs)).run P w = .ok () (ChangeMaps.setBlock w b (.map ((mput es ks vs ck).1.map (mEnt (n == 0))).toArray (mput es ks vs ck).2)) := by
  rcases KK.find w hkl _ (keys_ok hM ht hkt hes) with ⟨g1,g2⟩ | ⟨j,e0,g1,g2,g3⟩
  ·have hne : ∀ e ∈ es,e.1 ≠ ks := fun e he hk => g2 (mEnt (n == 0) e) (List.mem_map.2 ⟨e,he,rfl⟩) (by rw [← hk];rfl)
   rw [mput_new hne]
   simp [Instr.mapUpdate,run_underlying ht,MapKept.run_getObj_map hb3,KK.check w false hkl,g1,MapKept.run_setObj_map _ hb3,Result.andThen,ChangeMaps.setBlock,mEnt]
  ·obtain ⟨e1,he1,rfl⟩ := (map_get _ _ _ _).1 g2
   have hek : e1.1 = ks := vInts_inj (hes e1 (List.mem_of_getElem? he1)) hgk g3
   rw [mput_old he1 hek hnd]
   have g3' : vInts (n == 0) e1.1 = vInts (n == 0) ks := by rw [hek]
   have hmod : (List.map (mEnt (n == 0)) es).modify j (fun e => { key := vInts (n == 0) ks,val := vInts false vs,born := e.born }) = (List.map (mEnt (n == 0)) es).set j { key := vInts (n == 0) ks,val := vInts false vs,born := e1.2.2 } := by
    refine List.ext_getElem? fun i => ?_
    rw [List.getElem?_modify,List.getElem?_set,List.getElem?_map]
    have hl := (List.getElem?_eq_some_iff.1 he1).1
    by_cases hij : j = i
    ·subst hij
     simp only [he1,Option.map_some,if_true,List.length_map,hl,Option.map_eq_map,mEnt]
    ·simp [hij]
   simp [Instr.mapUpdate,run_underlying ht,MapKept.run_getObj_map hb3,KK.check w false hkl,g1,he1,mEnt,g3',KK.stays w hkl,MapKept.run_setObj_map _ hb3,Result.andThen,ChangeMaps.setBlock,hmod]
 refine wp_skp (w' := ChangeMaps.setBlock w b (.map ((mput es ks vs ck).1.map (mEnt (n == 0))).toArray (mput es ks vs ck).2)) ?_ ?_
 ·unfold execOp;rw [ho]
  simp only [hb1,hkv,hvv,Sem.run_bind,hrun,Result.andThen_ok,Sem.run_pure]
 ·refine hG _ _ _ _ _ (fun hs => by rw [hsb] at hs;cases hs) h (hr.step hdst (fun _ _ => rfl) (fun _ _ _ h => h) (Nat.le_refl _) (v := undef) (d := .any) trivial trivial ?_)
  refine hr.h.write hh (k := b) (by rw [hb2];rfl) (only_set w b _) ⟨b,hb2,?_⟩ trivial
  exact (MapKept.heap_set hb3).1
theorem XCall.len (hok : oks st.env (.xop 3 [n] [xm]) = true) (hm : evS st.env xm = .own id) {bare : Bool} (hh : hget st.heap id = some (.mp bare es ck))
  (h : K ⟨putO st.env dst (.int .i64 es.length),st.heap,st.nx⟩) : XCall P sb B (.xop 3 [n] [xm]) dst st K := by
 intro o s Z a w K' Q hx hd hdst hr hG
 subst hd
 obtain ⟨c,t,kt,e,m,xm',ho,hcal,hargs,hat,ht,h1,hkt,hxs⟩ := xcop_3 hx
 simp only [List.cons.injEq,and_true] at hxs
 subst hxs
 obtain ⟨b,hb1,hb2,hb3⟩ := map_at hr h1 (oks_mem hok (by simp [opnds])) hm hh
 refine wp_value (v := .int .i64 es.length) (w' := w) ?_ ?_
 ·obtain ⟨cal,ars,ats⟩ := c
  obtain ⟨ars⟩ := ars
  obtain ⟨ats⟩ := ats
  simp only at hargs hat hcal
  subst hargs hat hcal
  unfold execOp;rw [ho]
  simp [resolve,invoke,builtin,Builtin.len_,run_underlying ht,goInt,hb1,MapKept.run_getObj_map hb3,Result.andThen]
 ·exact hG _ _ _ _ _ (fun _ => Below.refl _ _) h (hr.put hdst (VT.int .i64 _) trivial)
end
section
variable {P : Program}
theorem xcop_call {o : Op} {k : Nat} {ns : List Nat} {xs : List Opd} (hk : 8 ≤ k) (h : xcop P o = some (.xop k ns xs)) : ∃ c,o = .call c := by
 unfold xcop at h
 split at h
 case h_8 => exact nomatch h
 case h_7 => exact ⟨_,rfl⟩
 all_goals
  exfalso
  (repeat' split at h) <;> simp at h <;> omega
theorem xcop_8 {o : Op} {xs : List Opd} (h : xcop P o = some (.xop 8 [] xs)) : ∃ c t e x X,o = .call c ∧ c.callee = .builtin .cap ∧ c.args.toList = [x] ∧ c.argTypes.toList = [t] ∧ sliceT P t = some e ∧ opdC x = some X ∧ xs = [X] := by
 obtain ⟨c,rfl⟩ := xcop_call (by omega) h
 simp only [xcop] at h
 split at h
 case h_3 =>
  rename_i hcal
  split at h
  ·rename_i X t hargs hat
   simp at h
   obtain ⟨x,h1,h2⟩ := opdsC_one hargs
   obtain ⟨⟨e,he⟩,h3⟩ := h
   exact ⟨c,t,e,x,X,rfl,hcal,h1,hat,he,h2,h3.symm⟩
  ·simp at h
 all_goals
  exfalso
  (repeat' split at h) <;> simp at h
theorem xcop_9 {o : Op} {n : Nat} {xs : List Opd} (h : xcop P o = some (.xop 9 [n] xs)) : ∃ c t t' e x y X Y,o = .call c ∧ c.callee = .builtin .copy ∧ c.args.toList = [x,y] ∧ c.argTypes.toList = [t,t'] ∧ sliceT P t = some e ∧ szT P e = some n ∧ opdC x = some X ∧ opdC y = some Y ∧ xs = [X,Y] := by
 obtain ⟨c,rfl⟩ := xcop_call (by omega) h
 simp only [xcop] at h
 split at h
 case h_4 =>
  rename_i hcal
  split at h
  ·rename_i X Y t t' hargs hat
   split at h
   ·rename_i e he
    simp at h
    obtain ⟨x,y,h1,h2,h3⟩ := opdsC_two hargs
    obtain ⟨_,g1,rfl,g2⟩ := h
    exact ⟨c,t,t',e,x,y,X,Y,rfl,hcal,h1,hat,he,g1,h2,h3,g2.symm⟩
   ·simp at h
  ·simp at h
 all_goals
  exfalso
  (repeat' split at h) <;> simp at h
theorem xcop_10 {o : Op} {n : Nat} {xs : List Opd} (h : xcop P o = some (.xop 10 [n] xs)) : ∃ c t e z x X,o = .call c ∧ c.callee = .builtin .clear ∧ c.args.toList = [x] ∧ c.argTypes.toList = [t] ∧ sliceT P t = some e ∧ szT P e = some n ∧ zeroT P e = some z ∧ opdC x = some X ∧ xs = [X] := by
 obtain ⟨c,rfl⟩ := xcop_call (by omega) h
 simp only [xcop] at h
 split at h
 case h_5 =>
  rename_i hcal
  split at h
  ·rename_i X t hargs hat
   split at h
   ·rename_i e he
    split at h
    ·rename_i n' z hn hz
     simp at h
     obtain ⟨x,h1,h2⟩ := opdsC_one hargs
     obtain ⟨rfl,g2⟩ := h
     exact ⟨c,t,e,z,x,X,rfl,hcal,h1,hat,he,hn,hz,h2,g2.symm⟩
    ·simp at h
   ·simp at h
  ·simp at h
 all_goals
  exfalso
  (repeat' split at h) <;> simp at h
theorem xcop_11 {o : Op} {n m : Nat} {xs : List Opd} (h : xcop P o = some (.xop 11 [n,m] xs)) : ∃ c t t' e i z x y X Y,o = .call c ∧ c.callee = .builtin .append ∧ c.args.toList = [x,y] ∧ c.argTypes.toList = [t,t'] ∧ P.underlying t' = some (.int .i64) ∧ sliceT P t = some e ∧ P.info? e = some i ∧ i.size = n ∧ i.bytes = m ∧ zeroT P e = some z ∧ opdC x = some X ∧ opdC y = some Y ∧ xs = [X,Y] := by
 obtain ⟨c,rfl⟩ := xcop_call (by omega) h
 simp only [xcop] at h
 split at h
 case h_6 =>
  rename_i hcal
  split at h
  ·rename_i X Y t t' hargs hat
   split at h
   ·rename_i e ht' he
    split at h
    ·rename_i i z hi hz
     simp at h
     obtain ⟨x,y,h1,h2,h3⟩ := opdsC_two hargs
     obtain ⟨⟨rfl,rfl⟩,g2⟩ := h
     exact ⟨c,t,t',e,i,z,x,y,X,Y,rfl,hcal,h1,hat,ht',he,hi,rfl,rfl,hz,h2,h3,g2.symm⟩
    ·simp at h
   ·simp at h
  ·simp at h
 all_goals
  exfalso
  (repeat' split at h) <;> simp at h
end
def srcD (H : List (Nat × Ob)) (d : D) : Option (Nat × List (List D)) :=
 match d with
 | .sl id sz off len _ => match hget H id with
  | some (.blk sz' xs) => if sz = sz' then some (sz,(xs.drop off).take len) else none
  | _ => none
 | d => (slD H d).map fun t => (t.2.1,t.2.2)
def SrcAt (s : Nat → Value) (Z : Cells) (nx : Nat) (w : World) (sz : Nat) (ys : List (List D)) (v : Value) : Prop :=
 (∀ row ∈ ys,∀ d ∈ row,LtC nx d) ∧ ∃ a cap,v = .slice a ys.length cap ∧ (0 < ys.length → ∃ b off,a = some ⟨b,off,none⟩ ∧ ∀ i row j d,ys[i]? = some row → row[j]? = some d → d ≠ .any → ∃ u,w.cell? ⟨b,off + i * sz + j,none⟩ = some u ∧ VC s Z d u)
section
variable {P : Program} {B : Base} {s : Nat → Value} {Z : Cells} {H : List (Nat × Ob)} {nx : Nat} {w : World}
theorem SlAt.src {R : D → Value → Prop} {sz : Nat} {ys : List (List D)} {v : Value} (h : SlAt R w sz ys v) (hR : ∀ d u,R d u → VC s Z d u) (hl : ∀ row ∈ ys,∀ d ∈ row,LtC nx d) : SrcAt s Z nx w sz ys v := by
 obtain ⟨a,cap,h1,h2,h3⟩ := h
 refine ⟨hl,a,cap,h1,fun h0 => ?_⟩
 obtain ⟨b,off,h4,h5⟩ := h3 h0
 exact ⟨b,off,h4,fun i row j d hi hj _ => by
  obtain ⟨u,g1,g2⟩ := h5 i row j d hi hj
  exact ⟨u,g1,hR d u g2⟩⟩
theorem blk_at {id sz : Nat} {xs : List (List D)} (h : RelH B s Z H nx w) (hh : hget H id = some (.blk sz xs)) {off len cap : Nat} {sz' : Nat} {v : Value} (hv : VC s Z (.sl id sz' off len cap) v) :
  ∃ g n cur e o,s id = .slice (some ⟨g,0,none⟩) n xs.length ∧ blk (s id) = some g ∧ w.heap[g]? = some (.cells cur e (0,0)) ∧ cur.size = xs.length * sz ∧ v = .slice (some ⟨g,o,none⟩) len cap ∧ (0 < cap → o = off * sz') ∧ len ≤ cap ∧ off + cap ≤ xs.length ∧ BlkOk (VC s Z) w sz xs (s id) := by
 have ho := h.ob _ _ hh
 obtain ⟨b,n',c',o,h1,h2,h3,h4,h5⟩ := hv
 obtain ⟨g1,g2,g,n,cur,e,g3,g4,g5,g6,g7,g8⟩ := (show BlkOk (VC s Z) w sz xs (s id) from ho)
 rw [h1] at g3
 simp only [Value.slice.injEq,Option.some.injEq,Addr.mk.injEq,and_true] at g3
 obtain ⟨rfl,rfl,rfl⟩ := g3
 exact ⟨b,n',cur,e,o,h1,by rw [h1];simp only [blk];rw [if_neg (by omega)],g4,g7,h2,h3,h4,h5,ho⟩
theorem srcD_at (h : RelH B s Z H nx w) {d : D} {v : Value} (hv : VR s Z d v) {sz : Nat} {ys : List (List D)} (hs : srcD H d = some (sz,ys)) : SrcAt s Z nx w sz ys v := by
 cases d with
 | sl id sz' off len cap =>
  simp only [srcD] at hs
  split at hs
  ·rename_i sz'' xs hh
   split at hs
   ·rename_i e
    subst e
    simp only [Option.some.injEq,Prod.mk.injEq] at hs
    obtain ⟨rfl,rfl⟩ := hs
    obtain ⟨g,n,cur,e,o,h1,h2,h3,h4,h5,h6,h7,h8,h9⟩ := blk_at h hh hv
    obtain ⟨b1,b2,g',n',cur',e',b3,b4,b5,b6,b7,b8⟩ := h9
    rw [h1] at b3
    simp only [Value.slice.injEq,Option.some.injEq,Addr.mk.injEq,and_true] at b3
    obtain ⟨rfl,rfl⟩ := b3
    rw [h3] at b4
    simp only [Option.some.injEq,Obj.cells.injEq,and_true] at b4
    obtain ⟨rfl,rfl⟩ := b4
    have hlen : ((xs.drop off).take len).length = len := by rw [List.length_take,List.length_drop];omega
    refine ⟨fun row hr x hx => (h.lt _ _ hh).2 row (List.mem_of_mem_drop (List.mem_of_mem_take hr)) x hx,_,cap,by rw [hlen];exact h5,fun h0 => ⟨g,o,rfl,fun i row j d hi hj hd => ?_⟩⟩
    rw [hlen] at h0
    have ho := h6 (by omega)
    rw [List.getElem?_take] at hi
    split at hi
    ·rename_i hil
     rw [List.getElem?_drop] at hi
     have hjl : j < sz' := by
      have := (List.getElem?_eq_some_iff.1 hj).1
      rwa [b2 _ (List.mem_of_getElem? hi)] at this
     have hlt : (off + i) * sz' + j < cur.size := by
      rw [h4]
      have : (off + i + 1) * sz' ≤ xs.length * sz' := Nat.mul_le_mul_right _ (by omega)
      rw [Nat.add_mul,Nat.one_mul] at this;omega
     refine ⟨cur.getD ((off + i) * sz' + j) undef,?_,b8 _ row j d hi hj hd⟩
     rw [ho,show off * sz' + i * sz' + j = (off + i) * sz' + j by rw [Nat.add_mul],cell_of_row w g _ cur e (0,0) h3]
     simp [hlt]
    ·cases hi
   ·cases hs
  ·cases hs
 | rows sz' xs =>
  simp only [srcD,slD,Option.map_some,Option.some.injEq,Prod.mk.injEq] at hs
  obtain ⟨rfl,rfl⟩ := hs
  have := slD_at h.know hv (t := true) (sz := sz') (xs := xs) rfl
  refine SlAt.src this (fun d u h => VC.of_vt h) fun row hr x hx => ?_
  cases hv with
  | rnil _ a cap => cases hr
  | rows _ _ b off cap c hcap h1 h2 =>
   obtain ⟨i,hi⟩ := List.getElem?_of_mem hr
   obtain ⟨j,hj⟩ := List.getElem?_of_mem hx
   exact VT.ltN _ (h2 i row j x hi hj)
 | own id =>
  simp only [srcD,Option.map_eq_some_iff] at hs
  obtain ⟨⟨t,sz',xs⟩,hs,e⟩ := hs
  simp only [Prod.mk.injEq] at e
  obtain ⟨rfl,rfl⟩ := e
  have h1 := slD_at h.know hv hs
  simp only [slD] at hs
  split at hs
  ·rename_i sz'' xs' hh
   simp only [Option.some.injEq,Prod.mk.injEq] at hs
   obtain ⟨rfl,rfl,rfl⟩ := hs
   refine SlAt.src h1 (fun d u h => VC.of_vt h) fun row hr x hx => ?_
   have ho := h.ob _ _ hh
   rcases ho.2.2 with ⟨rfl,_⟩ | ⟨g,cap,cur,e,_,_,_,_,_,h8⟩
   ·cases hr
   ·obtain ⟨i,hi⟩ := List.getElem?_of_mem hr
    obtain ⟨j,hj⟩ := List.getElem?_of_mem hx
    exact VT.ltN _ (h8 i row j x hi hj)
  ·rename_i sz'' xs' hh
   simp only [Option.some.injEq,Prod.mk.injEq] at hs
   obtain ⟨rfl,rfl,rfl⟩ := hs
   exact SlAt.src h1 (fun d u h => h) (h.lt _ _ hh).2
  ·cases hs
 | nil0 =>
  simp only [srcD,slD,Option.map_some,Option.some.injEq,Prod.mk.injEq] at hs
  obtain ⟨rfl,rfl⟩ := hs
  cases hv with
  | nil0 a => exact ⟨(fun _ h => by cases h),a,0,rfl,fun h => by simp at h⟩
 | _ => simp [srcD,slD] at hs
theorem SrcAt.news {sz : Nat} {ys : List (List D)} {v : Value} (h : SrcAt s Z nx w sz ys v) (n : Nat) (hrow : ∀ row ∈ ys.take n,row.length = sz) (hany : ∀ row ∈ ys.take n,∀ d ∈ row,d ≠ .any) :
  ∃ a cap,∃ news : List Value,v = .slice a ys.length cap ∧ news.length = (ys.take n).length * sz ∧ (Builtin.firstCells sz (ys.take n).length v).run P w = .ok news.toArray w ∧ (∀ u ∈ news,u.oneCell' = true) ∧
   ∀ i row j d,(ys.take n)[i]? = some row → row[j]? = some d → VC s Z d (news.getD (i * sz + j) undef) := by
 obtain ⟨hl,a,cap,rfl,h3⟩ := h
 by_cases h0 : 0 < (ys.take n).length
 ·obtain ⟨b,off,rfl,h4⟩ := h3 (by rw [List.length_take] at h0;omega)
  obtain ⟨news,g1,g2,g3⟩ := SlAt.news (w := w) (R := VC s Z) (b := b) (off := off) hrow (fun i row j d hi hj => by
   have hi' : ys[i]? = some row := by
    rw [List.getElem?_take] at hi
    split at hi
    ·exact hi
    ·cases hi
   exact h4 i row j d hi' hj (hany row (List.mem_of_getElem? hi) d (List.mem_of_getElem? hj)))
  refine ⟨_,cap,news,rfl,g1,run_firstCells_some w sz _ ⟨b,off,none⟩ _ cap news g1 (fun j u hu => by rw [add_mid'];exact g2 j u hu),fun u hu => ?_,g3⟩
  obtain ⟨k,hk⟩ := List.getElem?_of_mem hu
  have hkl : k < (ys.take n).length * sz := by rw [← g1];exact (List.getElem?_eq_some_iff.1 hk).1
  have hsz : 0 < sz := by
   rcases Nat.eq_zero_or_pos sz with h0 | h0
   ·rw [h0] at hkl;simp at hkl
   ·exact h0
  have hi' : k / sz < (ys.take n).length := Nat.div_lt_of_lt_mul (by rwa [Nat.mul_comm] at hkl)
  have hx : (ys.take n)[k / sz]? = some (ys.take n)[k / sz] := List.getElem?_eq_getElem hi'
  have hj' : k % sz < (ys.take n)[k / sz].length := by rw [hrow _ (List.getElem_mem hi')];exact Nat.mod_lt _ hsz
  have := g3 _ _ _ _ hx (List.getElem?_eq_getElem hj')
  have hdm := Nat.div_add_mod k sz
  rw [show k / sz * sz + k % sz = k by rw [Nat.mul_comm];omega,List.getD_eq_getElem?_getD,hk,Option.getD_some] at this
  exact VC.one this
 ·have e : ys.take n = [] := List.eq_nil_of_length_eq_zero (by omega)
  rw [e]
  refine ⟨a,cap,[],rfl,by simp,?_,(fun u hu => by cases hu),fun i row j d hi => by simp at hi⟩
  cases a with
  | none => exact run_firstCells_none w sz _ _ cap
  | some ad => exact run_firstCells_some w sz _ ad _ cap [] (by simp) (fun j v hv => by simp at hv)
theorem BlkOk.paste {sz : Nat} {xs : List (List D)} {v : Value} (h : BlkOk (VC s Z) w sz xs v) {g : Nat} (hg : Go.Proofs.YtibemmkfcjlmpaaGreat.blk v = some g) {off : Nat} {ys : List (List D)} {news : List Value} (hl : news.length = ys.length * sz) (hfit : off + ys.length ≤ xs.length)
  (hrow : ∀ row ∈ ys,row.length = sz) (hn : ∀ i row j d,ys[i]? = some row → row[j]? = some d → d ≠ .any → VC s Z d (news.getD (i * sz + j) undef)) :
  BlkOk (VC s Z) (w.setCells g (off * sz) news) sz (xs.take off ++ ys ++ xs.drop (off + ys.length)) v := by
 obtain ⟨h1,h2,g',n,cur,e,rfl,h4,h5,h6,h7,h8⟩ := h
 have hgg : g' = g := by simp only [Go.Proofs.YtibemmkfcjlmpaaGreat.blk] at hg;rw [if_neg (by omega)] at hg;exact Option.some.inj hg
 subst hgg
 have hfit' : off * sz + news.length ≤ cur.size := by rw [hl,h7,← Nat.add_mul];exact Nat.mul_le_mul_right _ hfit
 obtain ⟨cs',g1,g2,g3⟩ := heap_setCells g' e news (off * sz) w cur h4 hfit'
 have hlen : (xs.take off ++ ys ++ xs.drop (off + ys.length)).length = xs.length := by simp;omega
 refine ⟨h1,fun row hr => ?_,g',n,cs',e,by rw [hlen],g1,by rw [hlen];exact h5,by rw [hlen];exact h6,by rw [g2,hlen,h7],fun i row j d hi hj hd => ?_⟩
 ·rcases List.mem_append.1 hr with hr | hr
  ·rcases List.mem_append.1 hr with hr | hr
   ·exact h2 row (List.mem_of_mem_take hr)
   ·exact hrow row hr
  ·exact h2 row (List.mem_of_mem_drop hr)
 ·rw [g3]
  rw [List.append_assoc] at hi
  by_cases c1 : i < off
  ·rw [List.getElem?_append_left (by simp;omega),List.getElem?_take,if_pos c1] at hi
   have hjl : j < sz := by
    have := (List.getElem?_eq_some_iff.1 hj).1
    rwa [h2 _ (List.mem_of_getElem? hi)] at this
   have : (i + 1) * sz ≤ off * sz := Nat.mul_le_mul_right _ c1
   rw [Nat.add_mul,Nat.one_mul] at this
   rw [if_neg (by omega)]
   exact h8 i row j d hi hj hd
  ·rw [List.getElem?_append_right (by simp;omega),List.length_take,Nat.min_eq_left (by omega)] at hi
   by_cases c2 : i < off + ys.length
   ·rw [List.getElem?_append_left (by omega)] at hi
    have hjl : j < sz := by
     have := (List.getElem?_eq_some_iff.1 hj).1
     rwa [hrow _ (List.mem_of_getElem? hi)] at this
    have e1 : i * sz = off * sz + (i - off) * sz := by rw [← Nat.add_mul];congr 1;omega
    have : (i - off + 1) * sz ≤ ys.length * sz := Nat.mul_le_mul_right _ (by omega)
    rw [Nat.add_mul,Nat.one_mul] at this
    rw [if_pos (by rw [hl];omega)]
    have := hn _ row j d hi hj hd
    rwa [show i * sz + j - off * sz = (i - off) * sz + j by omega]
   ·rw [List.getElem?_append_right (by omega),List.getElem?_drop] at hi
    have e2 : off + ys.length + (i - off - ys.length) = i := by omega
    rw [e2] at hi
    have : (off + ys.length) * sz ≤ i * sz := Nat.mul_le_mul_right _ (by omega)
    rw [Nat.add_mul] at this
    rw [if_neg (by rw [hl];omega)]
    exact h8 i row j d hi hj hd
theorem paste_lt {sz off : Nat} {xs ys : List (List D)} (h1 : ∀ row ∈ xs,∀ d ∈ row,LtC nx d) (h2 : ∀ row ∈ ys,∀ d ∈ row,LtC nx d) : LtO nx (.blk sz (xs.take off ++ ys ++ xs.drop (off + ys.length))) := by
 intro row hr d hd
 rcases List.mem_append.1 hr with hr | hr
 ·rcases List.mem_append.1 hr with hr | hr
  ·exact h1 row (List.mem_of_mem_take hr) d hd
  ·exact h2 row hr d hd
 ·exact h1 row (List.mem_of_mem_drop hr) d hd
end
section
variable {P : Program} {sb : Bool} {B : Base} {st : St} {K : St → Prop} {dst : Option Nat} {X Y : Opd} {id sz off len cp : Nat}
theorem XCall.cap (hok : oks st.env (.xop 8 [] [X]) = true) (hx : evS st.env X = .sl id sz off len cp) (h : K ⟨putO st.env dst (.int .i64 cp),st.heap,st.nx⟩) : XCall P sb B (.xop 8 [] [X]) dst st K := by
 intro o s Z a w K' Q hxc hd hdst hr hG
 subst hd
 obtain ⟨c,t,e,x,X',ho,hcal,hargs,hat,ht,h1,hxs⟩ := xcop_8 hxc
 simp only [List.cons.injEq,and_true] at hxs
 subst hxs
 have hv := hr.vr h1 (oks_mem hok (by simp [opnds]))
 rw [hx] at hv
 obtain ⟨b,n',c',q,_,h2,_⟩ := hv
 refine wp_value (v := .int .i64 cp) (w' := w) ?_ ?_
 ·unfold execOp;rw [ho]
  obtain ⟨cal,ars,ats⟩ := c
  obtain ⟨ars⟩ := ars
  obtain ⟨ats⟩ := ats
  simp only at hargs hat hcal
  subst hargs hat hcal
  simp [resolve,invoke,builtin,Builtin.cap_,run_underlying (sliceT_some ht),goInt,h2]
 ·exact hG _ _ _ _ _ (fun _ => Below.refl _ _) h (hr.put hdst (VT.int .i64 _) trivial)
theorem store_run {b o : Nat} {vs : List Value} {w : World} {cur : Array Value} {e : TypeId} (hb : w.heap[b]? = some (.cells cur e (0,0))) (hl : vs ≠ [] → o + vs.length ≤ cur.size) (h1 : ∀ u ∈ vs,u.oneCell' = true) :
  (storeCells ⟨b,o,none⟩ vs 0).run P w = .ok () (w.setCells b o vs) := by
 by_cases hv : vs = []
 ·subst hv;rfl
 ·have hl := hl hv
  have := run_storeCells_cells (P := P) b o vs 0 w (fun j hj => by
   rw [cell_of_row w b _ cur e (0,0) hb];simp;omega) (fun j hj => frozen_of_row w b _ cur e hb) h1
  simpa using this
theorem XCall.copy {xs ys : List (List D)} (hok : oks st.env (.xop 9 [sz] [X,Y]) = true) (hsb : sb = false) (hx : evS st.env X = .sl id sz off len cp) (hh : hget st.heap id = some (.blk sz xs)) (hy : srcD st.heap (evS st.env Y) = some (sz,ys))
  (hrow : ∀ row ∈ ys.take len,row.length = sz) (hany : ∀ row ∈ ys.take len,∀ d ∈ row,d ≠ .any)
  (h : K ⟨putO st.env dst (.int .i64 ((ys.take len).length : Nat)),eput st.heap id (.blk sz (xs.take off ++ ys.take len ++ xs.drop (off + (ys.take len).length))),st.nx⟩) : XCall P sb B (.xop 9 [sz] [X,Y]) dst st K := by
 intro o s Z a w K' Q hxc hd hdst hr hG
 subst hd
 obtain ⟨c,t,t',e,x,y,X',Y',ho,hcal,hargs,hat,ht,hn,h1,h2,hxs⟩ := xcop_9 hxc
 simp only [List.cons.injEq,and_true] at hxs
 obtain ⟨rfl,rfl⟩ := hxs
 have hg : ∀ x ∈ [X,Y],gS st.env x = true := fun x hx => oks_mem hok hx
 have hv := hr.vr h1 (hg _ (by simp))
 rw [hx] at hv
 obtain ⟨g,n',cur,e',q,k1,k2,k3,k4,k5,k6,k7,k8,k9⟩ := blk_at hr.h hh hv
 have hsrc := srcD_at hr.h (hr.vr h2 (hg _ (by simp))) hy
 obtain ⟨sa,scap,news,m1,m2,m3,m4,m5⟩ := hsrc.news (P := P) len hrow hany
 have hlen : (ys.take len).length = Nat.min ys.length len := by rw [List.length_take];exact Nat.min_comm _ _
 have hcap0 : news ≠ [] → q = off * sz := fun hne => k6 (by
  rcases Nat.eq_zero_or_pos cp with h0 | h0
  ·exfalso
   have : ys.take len = [] := by rw [show len = 0 by omega];rfl
   rw [this] at m2
   exact hne (List.eq_nil_of_length_eq_zero (by simpa using m2))
  ·exact h0)
 have hset : w.setCells g q news = w.setCells g (off * sz) news := by
  by_cases hne : news = []
  ·subst hne;rfl
  ·rw [hcap0 hne]
 have hfit : off + (ys.take len).length ≤ xs.length := by rw [List.length_take];omega
 have hst : (storeCells ⟨g,q,none⟩ news 0).run P w = .ok () (w.setCells g q news) := store_run k3 (fun hne => by
  rw [hcap0 hne,m2,k4,← Nat.add_mul];exact Nat.mul_le_mul_right _ hfit) m4
 refine wp_value (v := .int .i64 ((ys.take len).length : Nat)) (w' := w.setCells g (off * sz) news) ?_ ?_
 ·unfold execOp;rw [ho]
  obtain ⟨cal,ars,ats⟩ := c
  obtain ⟨ars⟩ := ars
  obtain ⟨ats⟩ := ats
  simp only at hargs hat hcal
  subst hargs hat hcal
  rw [← hset]
  have hn' := hn
  unfold szT at hn'
  obtain ⟨i,hi,hi2⟩ := Option.map_eq_some_iff.1 hn'
  rw [hlen] at m3 ⊢
  rw [m1] at m3
  simp only [resolve,List.map_cons,List.map_nil,List.map_toArray,invoke,builtin,Builtin.copy_,Sem.run_bind,Sem.run_pure,Result.andThen_ok,k5,m1]
  simp [run_underlying (sliceT_some ht),Builtin.lenOf,sizeOf,typeInfo,hi,hi2,m3,hst,goInt]
 ·refine hG _ _ _ _ _ (fun hs => by rw [hsb] at hs;cases hs) h (hr.step hdst (fun _ _ => rfl) (fun _ _ _ h => h) (Nat.le_refl _) (v := .int .i64 ((ys.take len).length : Nat)) (VT.int .i64 _) trivial ?_)
  exact hr.h.write hh k2 (Only.setCells g news (off * sz) w) (k9.paste k2 m2 hfit hrow fun i row j d hi hj _ => m5 i row j d hi hj) (paste_lt (hr.h.lt _ _ hh).2 fun row hr' d hd => hsrc.1 row (List.mem_of_mem_take hr') d hd)
end
def anyRow (sz : Nat) : List D := List.replicate sz .any
theorem zero_one {P : Program} {e : TypeId} {z : List D} (h : zeroT P e = some z) : ∃ i v,P.info? e = some i ∧ i.zero = some v ∧ i.size = z.length ∧ v.cells.size = z.length ∧ ∀ u ∈ v.cells.toList,u.oneCell' = true := by
 obtain ⟨i,v,h1,h2,h3,h4,h5⟩ := zeroT_sound (s := s0) (Z := fun _ _ => none) h
 refine ⟨i,v,h1,h2,h3,h4,fun u hu => ?_⟩
 obtain ⟨j,hj⟩ := List.getElem?_of_mem hu
 have hjl : j < z.length := by
  have := (List.getElem?_eq_some_iff.1 hj).1
  rw [← h4];simpa using this
 have := h5 j z[j] (List.getElem?_eq_getElem hjl)
 have e1 : v.cells.getD j undef = u := by
  rw [Array.getD_eq_getD_getElem?,← Array.getElem?_toList,hj];rfl
 rw [e1] at this
 exact VC.one this
theorem zeroCells_one {z : Array Value} {n : Nat} (h : ∀ u ∈ z.toList,u.oneCell' = true) : ∀ u ∈ (Builtin.zeroCells z n).toList,u.oneCell' = true := by
 intro u hu
 simp only [Builtin.zeroCells,Array.toList_map,Array.toList_range,List.mem_map,List.mem_range] at hu
 obtain ⟨i,hi,rfl⟩ := hu
 have h0 : 0 < z.size := by
  rcases Nat.eq_zero_or_pos z.size with h0 | h0
  ·rw [h0] at hi;simp at hi
  ·exact h0
 have : i % z.size < z.size := Nat.mod_lt _ h0
 rw [getElem!_pos z _ this]
 exact h _ (by simp)
theorem anyRow_ne {sz n : Nat} {i j : Nat} {row : List D} {d : D} (hi : (List.replicate n (anyRow sz))[i]? = some row) (hj : row[j]? = some d) : d = .any := by
 have h1 := List.eq_of_mem_replicate (List.mem_of_getElem? hi)
 subst h1
 exact List.eq_of_mem_replicate (List.mem_of_getElem? hj)
theorem anyRow_lt {sz n nx : Nat} : ∀ row ∈ List.replicate n (anyRow sz),∀ d ∈ row,LtC nx d := by
 intro row hr d hd
 have h1 := List.eq_of_mem_replicate hr
 subst h1
 have h2 := List.eq_of_mem_replicate hd
 subst h2
 trivial
theorem cop_app {P : Program} {o : Op} {sz bytes : Nat} {z : List D} {X Y : Opd} (hc : cop P o = some (.app sz bytes z X Y)) : ∃ c t e i x y,o = .call c ∧ c.callee = .builtin .append ∧ c.args.toList = [x,y] ∧ c.argTypes.toList = [t,t] ∧ sliceT P t = some e ∧ P.info? e = some i ∧ i.size = sz ∧ i.bytes = bytes ∧ 0 < sz ∧ zeroT P e = some z ∧ opdC x = some X ∧ opdC y = some Y := by
 by_cases hl : opLoud o
 ·cases o with
  | call c =>
   refine ⟨c,?_⟩
   simp only [cop] at hc
   split at hc
   ·split at hc <;> simp at hc
   ·rename_i b hb
    split at hc
    ·split at hc
     ·simp at hc
     ·simp at hc
     ·split at hc <;> (try split at hc) <;> simp at hc
     ·simp at hc
    ·simp at hc
    ·simp at hc
    ·rename_i X' Y' t t' hargs hat
     split at hc
     ·rename_i htt
      subst htt
      split at hc
      ·rename_i e he
       split at hc
       ·rename_i i z' hi hz
        split at hc
        ·rename_i h0
         simp at hc
         obtain ⟨rfl,rfl,rfl,rfl,rfl⟩ := hc
         obtain ⟨x,y,h1,h2,h3⟩ := opdsC_two hargs
         exact ⟨t,e,i,x,y,rfl,hb,h1,hat,he,hi,rfl,rfl,h0,hz,h2,h3⟩
        ·simp at hc
       ·simp at hc
      ·simp at hc
     ·simp at hc
    ·simp at hc
   ·simp at hc
  | _ => first | exact hl.elim | (simp only [cop] at hc;(repeat' split at hc) <;> simp at hc)
 ·have := cop_quiet hl hc
  cases this
section
variable {P : Program} {sb : Bool} {B : Base} {st : St} {K : St → Prop} {dst : Option Nat} {X Y : Opd} {id sz off len cp : Nat}
theorem XCall.clear {xs : List (List D)} (hok : oks st.env (.xop 10 [sz] [X]) = true) (hsb : sb = false) (hx : evS st.env X = .sl id sz off len cp) (hh : hget st.heap id = some (.blk sz xs))
  (h : K ⟨putO st.env dst .any,eput st.heap id (.blk sz (xs.take off ++ List.replicate len (anyRow sz) ++ xs.drop (off + (List.replicate len (anyRow sz)).length))),st.nx⟩) : XCall P sb B (.xop 10 [sz] [X]) dst st K := by
 intro o s Z a w K' Q hxc hd hdst hr hG
 subst hd
 obtain ⟨c,t,e,z,x,X',ho,hcal,hargs,hat,ht,hn,hz,h1,hxs⟩ := xcop_10 hxc
 simp only [List.cons.injEq,and_true] at hxs
 subst hxs
 have hv := hr.vr h1 (oks_mem hok (by simp [opnds]))
 rw [hx] at hv
 obtain ⟨g,n',cur,e',q,k1,k2,k3,k4,k5,k6,k7,k8,k9⟩ := blk_at hr.h hh hv
 obtain ⟨i,zv,hi,hz1,hz2,hz3,hz4⟩ := zero_one hz
 have hsz : z.length = sz := by
  unfold szT at hn
  rw [hi] at hn
  simp only [Option.map_some,Option.some.injEq] at hn
  omega
 obtain ⟨news,hnews⟩ : ∃ news,news = (Builtin.zeroCells zv.cells len).toList := ⟨_,rfl⟩
 have hnl : news.length = (List.replicate len (anyRow sz)).length * sz := by rw [hnews];simp [size_zeroCells,hz3,hsz]
 have hone : ∀ u ∈ news,u.oneCell' = true := by rw [hnews];exact zeroCells_one hz4
 have hcap0 : news ≠ [] → q = off * sz := fun hne => k6 (by
  rcases Nat.eq_zero_or_pos cp with h0 | h0
  ·exfalso
   have hl0 : len = 0 := by omega
   subst hl0
   exact hne (List.eq_nil_of_length_eq_zero (by simpa using hnl))
  ·exact h0)
 have hset : w.setCells g q news = w.setCells g (off * sz) news := by
  by_cases hne : news = []
  ·rw [hne];rfl
  ·rw [hcap0 hne]
 have hfit : off + (List.replicate len (anyRow sz)).length ≤ xs.length := by rw [List.length_replicate];omega
 have hst : (storeCells ⟨g,q,none⟩ news 0).run P w = .ok () (w.setCells g q news) := store_run k3 (fun hne => by
  rw [hcap0 hne,hnl,k4,← Nat.add_mul];exact Nat.mul_le_mul_right _ hfit) hone
 refine wp_value (v := .tuple #[]) (w' := w.setCells g (off * sz) news) ?_ ?_
 ·unfold execOp;rw [ho]
  obtain ⟨cal,ars,ats⟩ := c
  obtain ⟨ars⟩ := ars
  obtain ⟨ats⟩ := ats
  simp only at hargs hat hcal
  subst hargs hat hcal
  rw [← hset]
  rcases Nat.eq_zero_or_pos len with h0 | h0
  ·subst h0
   have hn0 : news = [] := List.eq_nil_of_length_eq_zero (by simpa using hnl)
   rw [hn0]
   simp [resolve,invoke,builtin,Builtin.clear_,run_underlying (sliceT_some ht),k5]
   rfl
  ·obtain ⟨m,rfl⟩ : ∃ m,len = m + 1 := ⟨len - 1,by omega⟩
   rw [hnews] at hst ⊢
   simp [resolve,invoke,builtin,Builtin.clear_,run_underlying (sliceT_some ht),k5,zeroValue,typeInfo,hi,hz1,hst]
 ·refine hG _ _ _ _ _ (fun hs => by rw [hsb] at hs;cases hs) h (hr.step hdst (fun _ _ => rfl) (fun _ _ _ h => h) (Nat.le_refl _) (v := .tuple #[]) (d := .any) trivial trivial ?_)
  exact hr.h.write hh k2 (Only.setCells g news (off * sz) w) (k9.paste k2 hnl hfit (fun row hr' => by rw [List.eq_of_mem_replicate hr'];simp [anyRow]) fun i row j d hi hj hd => absurd (anyRow_ne hi hj) hd) (paste_lt (hr.h.lt _ _ hh).2 anyRow_lt)
theorem WCall.appSl {xs ys : List (List D)} {bytes : Nat} {z : List D} (hok : oks st.env (.app sz bytes z X Y) = true) (hsb : sb = false) (hx : evS st.env X = .sl id sz off len cp) (hh : hget st.heap id = some (.blk sz xs)) (hy : srcD st.heap (evS st.env Y) = some (sz,ys))
  (hroom : len + ys.length ≤ cp) (hrow : ∀ row ∈ ys,row.length = sz) (hany : ∀ row ∈ ys,∀ d ∈ row,d ≠ .any)
  (h : K ⟨putO st.env dst (.sl id sz off (len + ys.length) cp),eput st.heap id (.blk sz (xs.take (off + len) ++ ys ++ xs.drop (off + len + ys.length))),st.nx⟩) : WCall P sb B (.app sz bytes z X Y) dst st K := by
 intro o s Z a w K' Q hxc hd hdst hr hG
 subst hd
 obtain ⟨c,t,e,i,x,y,ho,hcal,hargs,hat,ht,hi,hi2,_,h0,hz,h1,h2⟩ := cop_app hxc
 have hg : ∀ x ∈ [X,Y],gS st.env x = true := fun x hx => oks_mem hok hx
 have hv := hr.vr h1 (hg _ (by simp))
 rw [hx] at hv
 obtain ⟨g,n',cur,e',q,k1,k2,k3,k4,k5,k6,k7,k8,k9⟩ := blk_at hr.h hh hv
 have hsrc := srcD_at hr.h (hr.vr h2 (hg _ (by simp))) hy
 have htk : ys.take ys.length = ys := List.take_length
 obtain ⟨sa,scap,news,m1,m2,m3,m4,m5⟩ := hsrc.news (P := P) ys.length (by rw [htk];exact hrow) (by rw [htk];exact hany)
 rw [htk] at m2 m3 m5
 have hcap0 : news ≠ [] → q = off * sz := fun hne => k6 (by
  rcases Nat.eq_zero_or_pos cp with h0 | h0
  ·exfalso
   have : ys = [] := List.eq_nil_of_length_eq_zero (by omega)
   rw [this] at m2
   exact hne (List.eq_nil_of_length_eq_zero (by simpa using m2))
  ·exact h0)
 have hset : w.setCells g (q + len * sz) news = w.setCells g ((off + len) * sz) news := by
  by_cases hne : news = []
  ·rw [hne];rfl
  ·rw [hcap0 hne,Nat.add_mul]
 have hfit : off + len + ys.length ≤ xs.length := by omega
 have hst : (storeCells ⟨g,q + len * sz,none⟩ news 0).run P w = .ok () (w.setCells g (q + len * sz) news) := store_run k3 (fun hne => by
  rw [hcap0 hne,m2,k4,← Nat.add_mul,← Nat.add_mul];exact Nat.mul_le_mul_right _ hfit) m4
 refine wp_value (v := .slice (some ⟨g,q,none⟩) (len + ys.length) cp) (w' := w.setCells g ((off + len) * sz) news) ?_ ?_
 ·unfold execOp;rw [ho]
  obtain ⟨cal,ars,ats⟩ := c
  obtain ⟨ars⟩ := ars
  obtain ⟨ats⟩ := ats
  simp only at hargs hat hcal
  subst hargs hat hcal
  rw [← hset]
  rw [m1] at m3
  simp only [resolve,List.map_cons,List.map_nil,List.map_toArray,invoke,builtin,Sem.run_bind,Sem.run_pure,Result.andThen_ok,k5,m1]
  simp [Builtin.append_,run_underlying (sliceT_some ht),Builtin.lenOf,sizeOf,typeInfo,hi,hi2,hroom,m3,Addr.add_lit,hst]
 ·refine hG _ _ _ _ _ (fun hs => by rw [hsb] at hs;cases hs) h (hr.step hdst (fun _ _ => rfl) (fun _ _ _ h => h) (Nat.le_refl _) (v := .slice (some ⟨g,q,none⟩) (len + ys.length) cp) (d := .sl id sz off (len + ys.length) cp) ?_ ?_ ?_)
  ·exact ⟨g,n',xs.length,q,k1,rfl,k6,hroom,k8⟩
  ·exact (hr.h.lt _ _ hh).1
  ·exact hr.h.write hh k2 (Only.setCells g news ((off + len) * sz) w) (k9.paste k2 m2 hfit hrow fun i row j d hi hj _ => m5 i row j d hi hj) (paste_lt (hr.h.lt _ _ hh).2 hsrc.1)
end
section
variable {P : Program} {sb : Bool} {B : Base} {st : St} {K : St → Prop} {dst : Option Nat} {X Y : Opd} {id sz off len cp : Nat}
theorem XCall.appmake {xs : List (List D)} {bytes n : Nat} (hok : oks st.env (.xop 11 [sz,bytes] [X,Y]) = true) (hx : evS st.env X = .sl id sz off len cp) (hh : hget st.heap id = some (.blk sz xs)) (hy : evS st.env Y = .int .i64 (n : Nat))
  (hgrow : cp < len + n) (h0 : 0 < sz) (hby : 0 < bytes) (hbig : (len + n) * bytes ≤ 140737488355328)
  (h : ∀ k,K ⟨putO st.env dst (.sl st.nx sz 0 (len + n) (len + n + k)),eput st.heap st.nx (.blk sz ((xs.drop off).take len ++ List.replicate (n + k) (anyRow sz))),st.nx + 1⟩) : XCall P sb B (.xop 11 [sz,bytes] [X,Y]) dst st K := by
 intro o s Z a w K' Q hxc hd hdst hr hG
 subst hd
 obtain ⟨c,t,t',e,i,z,x,y,X',Y',ho,hcal,hargs,hat,ht',ht,hi,hi2,hi3,hz,h1,h2,hxs⟩ := xcop_11 hxc
 simp only [List.cons.injEq,and_true] at hxs
 obtain ⟨rfl,rfl⟩ := hxs
 have hg : ∀ x ∈ [X,Y],gS st.env x = true := fun x hx => oks_mem hok hx
 have hv := hr.vr h1 (hg _ (by simp))
 rw [hx] at hv
 have hvn := hr.vr h2 (hg _ (by simp))
 rw [hy] at hvn
 have hvn := hvn.int_inv
 obtain ⟨g,n',cur,e',q,k1,k2,k3,k4,k5,k6,k7,k8,k9⟩ := blk_at hr.h hh hv
 obtain ⟨i',zv,hi',hz1,hz2,hz3,hz4⟩ := zero_one hz
 rw [hi] at hi'
 simp only [Option.some.injEq] at hi'
 subst hi'
 obtain ⟨b1,b2,g',m',cur',e2,b3,b4,b5,b6,b7,b8⟩ := k9
 rw [k1] at b3
 simp only [Value.slice.injEq,Option.some.injEq,Addr.mk.injEq,and_true] at b3
 obtain ⟨rfl,rfl⟩ := b3
 rw [k3] at b4
 simp only [Option.some.injEq,Obj.cells.injEq,and_true] at b4
 obtain ⟨rfl,rfl⟩ := b4
 have hqo : 0 < len → q = off * sz := fun hl => k6 (by omega)
 obtain ⟨olds,holds⟩ : ∃ olds,olds = (cur.toList.drop (off * sz)).take (len * sz) := ⟨_,rfl⟩
 have hfit : off * sz + len * sz ≤ cur.size := by rw [k4,← Nat.add_mul];exact Nat.mul_le_mul_right _ (by omega)
 have hol : olds.length = len * sz := by rw [holds];simp;omega
 have hold : (Builtin.firstCells sz len (.slice (some ⟨g,q,none⟩) len cp)).run P w.drew = .ok olds.toArray w.drew := by
  refine run_firstCells_some w.drew sz len ⟨g,q,none⟩ len cp olds hol (fun j v hj => ?_)
  have hjl : j < len * sz := by rw [← hol];exact (List.getElem?_eq_some_iff.1 hj).1
  have hq := hqo (by
   rcases Nat.eq_zero_or_pos len with h0 | h0
   ·rw [h0,Nat.zero_mul] at hjl;omega
   ·exact h0)
  rw [add_mid',World.cell?_drew,cell_of_row w g _ cur e' (0,0) k3]
  rw [holds,List.getElem?_take,if_pos hjl,List.getElem?_drop] at hj
  rw [hq]
  simpa using hj
 have hr0 := Lib.run_append_grow_zeros (P := P) w t t' o.type e i zv .i64 .i64 (sliceT_some ht) ht' hi hz1 (some ⟨g,q,none⟩) len cp olds (by rw [hi2];exact hold) n (by omega) (by omega) hgrow (by
   have : (len + n) * 1 ≤ (len + n) * bytes := Nat.mul_le_mul_left _ hby
   omega) (by rw [hi3];rw [Nat.add_mul] at hbig;omega) (by rw [hi3];exact growslice_fits hgrow hbig)
 obtain ⟨gc,hgc⟩ : ∃ gc,gc = grownCap w (len + n) cp e := ⟨_,rfl⟩
 have hgc1 : len + n ≤ gc := by rw [hgc];exact grownCap_ge ..
 have hgc2 : gc ≤ maxLen := by
  rw [hgc];refine grownCap_le_maxLen _ _ _ _ ?_
  have : (len + n) * 1 ≤ (len + n) * bytes := Nat.mul_le_mul_left _ hby
  unfold maxLen;omega
 rw [← hgc] at hr0
 obtain ⟨k,rfl⟩ : ∃ k,gc = len + n + k := ⟨gc - (len + n),by omega⟩
 refine wp_value (v := .slice (some ⟨w.heap.size,0,none⟩) (len + n) (len + n + k)) (w' := w.drew.alloc (.cells (olds.toArray ++ Builtin.zeroCells zv.cells n ++ Builtin.zeroCells zv.cells (len + n + k - (len + n))) e)) ?_ ?_
 ·unfold execOp;rw [ho]
  obtain ⟨cal,ars,ats⟩ := c
  obtain ⟨ars⟩ := ars
  obtain ⟨ats⟩ := ats
  simp only at hargs hat hcal
  subst hargs hat hcal
  simp only [resolve,List.map_cons,List.map_nil,List.map_toArray,invoke,builtin,Sem.run_bind,Sem.run_pure,Result.andThen_ok,k5,hvn]
  simp [hr0]
 ·have hbel : Below w.heap.size w (w.drew.alloc (.cells (olds.toArray ++ Builtin.zeroCells zv.cells n ++ Builtin.zeroCells zv.cells (len + n + k - (len + n))) e)) := ((Below.refl _ _).drew).alloc (Nat.le_refl _) _
  have hwlen : ((xs.drop off).take len).length = len := by rw [List.length_take,List.length_drop];omega
  have hxl : ((xs.drop off).take len ++ List.replicate (n + k) (anyRow sz)).length = len + n + k := by rw [List.length_append,hwlen,List.length_replicate];omega
  refine hG _ _ _ _ _ (fun _ => hbel) (h k) (hr.step hdst (upd_lt s st.nx _) (fun _ _ _ h => h) (by omega) (v := .slice (some ⟨w.heap.size,0,none⟩) (len + n) (len + n + k)) ?_ ?_ (hr.h.new hbel (v := .slice (some ⟨w.heap.size,0,none⟩) (len + n) (len + n + k)) ?_ ?_ (fun k' hk => ?_)))
  ·exact ⟨w.heap.size,len + n,len + n + k,0,upd_same _ _ _,rfl,fun _ => by simp,by omega,by omega⟩
  ·exact Nat.lt_succ_self _
  ·refine ⟨h0,fun row hr' => ?_,w.heap.size,len + n,_,e,by rw [hxl],heap_alloc_new w.drew _,by omega,by rw [hxl];exact hgc2,?_,fun i' row j d hi' hj hd => ?_⟩
   ·rcases List.mem_append.1 hr' with hr' | hr'
    ·exact b2 row (List.mem_of_mem_drop (List.mem_of_mem_take hr'))
    ·rw [List.eq_of_mem_replicate hr'];simp [anyRow]
   ·rw [hxl]
    simp only [Array.size_append,List.size_toArray,size_zeroCells,hz3,hol]
    rw [← hz2,hi2,← Nat.add_mul,← Nat.add_mul];congr 1;omega
   ·by_cases c1 : i' < len
    ·rw [List.getElem?_append_left (by omega),List.getElem?_take,if_pos c1,List.getElem?_drop] at hi'
     have hjl : j < sz := by
      have := (List.getElem?_eq_some_iff.1 hj).1
      rwa [b2 _ (List.mem_of_getElem? hi')] at this
     have hlt : i' * sz + j < len * sz := by
      have : (i' + 1) * sz ≤ len * sz := Nat.mul_le_mul_right _ c1
      rw [Nat.add_mul,Nat.one_mul] at this;omega
     have h8 := b8 _ row j d hi' hj hd
     have e3 : (olds.toArray ++ Builtin.zeroCells zv.cells n ++ Builtin.zeroCells zv.cells (len + n + k - (len + n))).getD (i' * sz + j) undef = cur.getD ((off + i') * sz + j) undef := by
      rw [Array.getD_eq_getD_getElem?,Array.append_assoc,Array.getElem?_append_left (by simpa [hol] using hlt),Array.getD_eq_getD_getElem?]
      congr 1
      rw [List.getElem?_toArray,holds,List.getElem?_take,if_pos hlt,List.getElem?_drop,show off * sz + (i' * sz + j) = (off + i') * sz + j by rw [Nat.add_mul];omega]
      simp
     rw [e3]
     exact VC.mono (fun _ _ _ h => h) (upd_lt s st.nx _) ((hr.h.lt _ _ hh).2 row (List.mem_of_getElem? hi') d (List.mem_of_getElem? hj)) h8
    ·rw [List.getElem?_append_right (by omega)] at hi'
     exact absurd (anyRow_ne hi' hj) hd
  ·intro row hr' d hd
   rcases List.mem_append.1 hr' with hr' | hr'
   ·exact ((hr.h.lt _ _ hh).2 row (List.mem_of_mem_drop (List.mem_of_mem_take hr')) d hd).mono (Nat.le_succ _)
   ·exact anyRow_lt row hr' d hd
  ·simp only [blk] at hk
   split at hk
   ·cases hk
   ·cases hk;exact Nat.le_refl _
theorem WCall.overlaps {f : FuncId} {tS tR e : TypeId} {id1 sz1 : Nat} {zs xs : List (List D)} (hE : ∀ args w,(callFunc f args).run P w = ((Extern.SlicesOverlaps.overlaps #[tS,tS] #[tR] args).run P w).andThen fun v w' => .ok (.value v) w')
  (ht : P.underlying tS = some (.slice e)) (hsz : szT P e = some sz) (hok : oks st.env (.call f [X,Y]) = true) (hx : evS st.env X = .own id1) (hh1 : hget st.heap id1 = some (.row sz1 zs)) (hz0 : zs ≠ []) (hy : evS st.env Y = .sl id sz off len cp) (hh : hget st.heap id = some (.blk sz xs)) (hne : id1 ≠ id)
  (h : K ⟨putO st.env dst (.bool false),st.heap,st.nx⟩) : WCall P sb B (.call f [X,Y]) dst st K := by
 intro o s Z a w K' Q hcop hd hdst hr hG
 subst hd
 obtain ⟨⟨cal,ars,ats⟩,ho,hcl,hys⟩ := cop_call hcop
 obtain ⟨ars⟩ := ars
 simp only at hcl hys
 subst hcl
 obtain ⟨x,y,rfl,h1,h2⟩ := opdsC_two hys
 have hg : ∀ x ∈ [X,Y],gS st.env x = true := fun x hx => oks_mem hok hx
 have hvx := hr.vr h1 (hg _ (by simp))
 rw [hx] at hvx
 have hvy := hr.vr h2 (hg _ (by simp))
 rw [hy] at hvy
 obtain ⟨g,n',cur,e',q,k1,k2,k3,k4,k5,k6,k7,k8,k9⟩ := blk_at hr.h hh hvy
 have ho1 := hr.h.ob _ _ hh1
 obtain ⟨p1,p2,p3⟩ := (show RowOk (VT Z) w sz1 zs (s id1) from ho1)
 rcases p3 with ⟨rfl,_⟩ | ⟨g1,cap1,cur1,e1,p4,p5,p6,p7,p8,p9⟩
 ·exact absurd rfl hz0
 have hzl : 0 < zs.length := List.length_pos_iff.2 hz0
 have hb1 : blk (s id1) = some g1 := by rw [p4];simp only [blk];rw [if_neg (by omega)]
 have hgg : g1 ≠ g := fun hh' => hr.h.apart id1 id _ _ g1 hh1 hh hne hb1 (by rw [k2,hh'])
 have hkB : cur.size ≠ 0 := by
  have hx0 : 0 < xs.length := k9.2.2.choose_spec.choose_spec.choose_spec.choose_spec.2.2.1
  have := Nat.mul_pos hx0 k9.1
  omega
 have hrun := Lib.run_overlaps_apart (P := P) w tS tR e ht sz (fun w => run_sizeOf' hsz w) ⟨g1,0,none⟩ ⟨g,q,none⟩ zs.length cap1 len cp hgg e1 e' cur1.size cur.size (by simp [World.shape?,p5]) (by simp [World.shape?,k3]) hkB (frozen_of_row w g1 _ cur1 e1 p5) (frozen_of_row w g1 _ cur1 e1 p5)
 refine wp_value (v := .bool false) (w' := w) ?_ ?_
 ·unfold execOp;rw [ho]
  have hE' := hE #[.slice (some ⟨g1,0,none⟩) zs.length cap1,.slice (some ⟨g,q,none⟩) len cp] w
  rw [hrun] at hE'
  have hxv : a.eval x = .slice (some ⟨g1,0,none⟩) zs.length cap1 := hvx.1.trans p4
  have hcf : a.eval (.func f) = .func (.func f) #[] #[] := rfl
  simpa [resolve,invoke,hcf,Deferred.ofValue,hxv,k5] using hE'
 ·exact hG _ _ _ _ _ (fun _ => Below.refl _ _) h (hr.put hdst (VT.bool _) trivial)
end
section
variable {P : Program} {B : Base} {hw : List FuncId} {c : AC} {Q : Ex → St → Prop} {st : St}
theorem W.openR {t id sz : Nat} {xs : List (List D)} (ht : eget st.env t = .own id) (hh : hget st.heap id = some (.row sz xs)) (h0 : xs ≠ [])
  (h : ∀ k,W P B hw c Q ⟨eput st.env t (.sl id sz 0 xs.length (xs.length + k)),eput st.heap id (.blk sz (xs ++ List.replicate k (anyRow sz))),st.nx⟩) : W P B hw c Q st := by
 intro hm code hc s Z a w hr
 have hv := hr.env t
 rw [ht] at hv
 obtain ⟨hv1,_⟩ := hv
 obtain ⟨p1,p2,p3⟩ := (show RowOk (VT Z) w sz xs (s id) from hr.h.ob _ _ hh)
 rcases p3 with ⟨rfl,_⟩ | ⟨g,cap,cur,e,p4,p5,p6,p7,p8,p9⟩
 ·exact absurd rfl h0
 have hxl : 0 < xs.length := List.length_pos_iff.2 h0
 obtain ⟨k,rfl⟩ : ∃ k,cap = xs.length + k := ⟨cap - xs.length,by omega⟩
 have hb : blk (s id) = some g := by rw [p4];simp only [blk];rw [if_neg (by omega)]
 have hlen : (xs ++ List.replicate k (anyRow sz)).length = xs.length + k := by simp
 refine h k hm code hc s Z a w ⟨fun j => ?_,fun j => ?_,hr.size,hr.defers,?_⟩
 ·rw [eget_eput]
  split
  ·rename_i ej
   subst ej
   rw [hv1]
   exact ⟨g,xs.length,xs.length + k,0,p4,p4,fun _ => by simp,by omega,by omega⟩
  ·exact hr.env j
 ·rw [eget_eput]
  split
  ·exact (hr.h.lt _ _ hh).1
  ·exact hr.elt j
 ·refine hr.h.write hh hb ⟨rfl,rfl,rfl,rfl,fun _ _ => rfl⟩ ?_ ?_
  ·refine ⟨p1,fun row hr' => ?_,g,xs.length,cur,e,by rw [hlen];exact p4,p5,by omega,by rw [hlen];exact p7,by rw [hlen];exact p8,fun i row j d hi hj hd => ?_⟩
   ·rcases List.mem_append.1 hr' with hr' | hr'
    ·exact p2 row hr'
    ·rw [List.eq_of_mem_replicate hr'];simp [anyRow]
   ·by_cases c1 : i < xs.length
    ·rw [List.getElem?_append_left c1] at hi
     exact VC.of_vt (p9 i row j d hi hj)
    ·rw [List.getElem?_append_right (by omega)] at hi
     exact absurd (anyRow_ne hi hj) hd
  ·intro row hr' d hd
   rcases List.mem_append.1 hr' with hr' | hr'
   ·obtain ⟨i,hi⟩ := List.getElem?_of_mem hr'
    obtain ⟨j,hj⟩ := List.getElem?_of_mem hd
    exact VT.ltN _ (p9 i row j d hi hj)
   ·exact anyRow_lt row hr' d hd
theorem Gh.closeR {t id sz len : Nat} {xs : List (List D)} (ht : eget st.env t = .sl id sz 0 len xs.length) (hh : hget st.heap id = some (.blk sz xs)) (hT : ∀ row ∈ xs.take len,∀ d ∈ row,isT d = true) :
  Gh B st ⟨eput st.env t (.own st.nx),eput (herase st.heap id) st.nx (.row sz (xs.take len)),st.nx + 1⟩ := by
 intro s Z a w hr
 have hv := hr.env t
 rw [ht] at hv
 obtain ⟨g,n',cur,e',q,k1,k2,k3,k4,k5,k6,k7,k8,k9⟩ := blk_at hr.h hh hv
 have hx0 : 0 < xs.length := k9.2.2.choose_spec.choose_spec.choose_spec.choose_spec.2.2.1
 have hq : q = 0 := by rw [k6 hx0];simp
 subst hq
 obtain ⟨b1,b2,g',m',cur',e2,b3,b4,b5,b6,b7,b8⟩ := k9
 rw [k1] at b3
 simp only [Value.slice.injEq,Option.some.injEq,Addr.mk.injEq,and_true] at b3
 obtain ⟨rfl,rfl⟩ := b3
 rw [k3] at b4
 simp only [Option.some.injEq,Obj.cells.injEq,and_true] at b4
 obtain ⟨rfl,rfl⟩ := b4
 have hlen : (xs.take len).length = len := by rw [List.length_take];omega
 have hH := hr.h.move (w' := w) (v := .slice (some ⟨g,0,none⟩) len xs.length) (ob' := .row sz (xs.take len)) hh ⟨rfl,rfl,rfl,Nat.le_refl _,fun _ _ _ => rfl⟩ (by
  refine ⟨b1,fun row hr' => b2 row (List.mem_of_mem_take hr'),.inr ⟨g,xs.length,cur,e',by rw [hlen],k3,by rw [hlen];exact k7,b6,b7,fun i row j d hi hj => ?_⟩⟩
  have hi' : xs[i]? = some row := by
   rw [List.getElem?_take] at hi
   split at hi
   ·exact hi
   ·cases hi
  have hd := hT row (List.mem_of_getElem? hi) d (List.mem_of_getElem? hj)
  exact VC.vt (b8 i row j d hi' hj (fun e => by rw [e] at hd;cases hd)) hd) trivial (fun k' hk => .inr (by
   simp only [blk] at hk
   rw [if_neg (by omega)] at hk
   rw [k2,← hk]))
 refine ⟨_,Z,fun j => ?_,fun j => ?_,hr.size,hr.defers,hH⟩
 ·rw [eget_eput]
  split
  ·rename_i ej;subst ej;rw [k5];exact ⟨(upd_same _ _ _).symm,.inl ⟨_,_,_,rfl⟩⟩
  ·exact (hr.env j).mono (fun _ _ _ h => h) (upd_lt s st.nx _) (hr.elt j)
 ·rw [eget_eput]
  split
  ·exact Nat.lt_succ_self _
  ·exact (hr.elt j).mono (Nat.le_succ _)
end
section
variable {P : Program} {f : FuncId} {ds : List D} {H : List (Nat × Ob)} {nx : Nat} {R R' : D → List (Nat × Ob) → Nat → Prop}
theorem HF.gh (h : HF P f ds H nx R) (hg : ∀ B : Base,B.n0 = nx → ∀ d H' nx',R d H' nx' → ∃ d1 H1 nx1,Gh B ⟨[(0,d)],H',nx'⟩ ⟨[(0,d1)],H1,nx1⟩ ∧ (∀ g e,d1 ≠ .opt g e) ∧ R' d1 H1 nx1) : HF P f ds H nx R' := by
 refine ⟨h.1,fun F s Z w vs hR hl hv => (h.2 F s Z w vs hR hl hv).mono ?_⟩
 rintro e w' ⟨v,d,H',nx',s',Z',he,q1,q2,q3,q4⟩
 obtain ⟨d1,H1,nx1,g1,g2,g3⟩ := hg ⟨1,F,w,nx,s,Z⟩ rfl d H' nx' q4
 have hrel : Rel ⟨1,F,w,nx,s,Z⟩ s' Z' ⟨[(0,d)],H',nx'⟩ { tmps := #[v],defers := [] } w' := by
  refine ⟨fun k => ?_,fun k => ?_,rfl,rfl,q3.toN 1⟩
  ·simp only [eget]
   split
   ·rename_i e;subst e;exact VS.of_vr q1
   ·trivial
  ·simp only [eget]
   split
   ·exact LtS.of_r q2 (VR.no_opt q1)
   ·trivial
 obtain ⟨s1,Z1,hrel1⟩ := g1 _ _ _ _ hrel
 have hv1 := hrel1.env 0
 have hl1 := hrel1.elt 0
 simp only [eget,if_true] at hv1 hl1
 have hv1 : VR s1 Z1 d1 v := by
  cases d1 with
  | opt g e => exact absurd rfl (g2 g e)
  | _ => exact hv1
 have hl1 : LtR nx1 d1 := by
  cases d1 with
  | opt g e => exact absurd rfl (g2 g e)
  | _ => exact hl1
 exact ⟨v,d1,H1,nx1,s1,Z1,he,hv1,hl1,hrel1.h.toN 0,g3⟩
theorem lget_id (id : Nat) : lget [] id = id := rfl
theorem lget_fun : lget [] = id := rfl
theorem rnC_id (d : D) : rnC (lget []) d = d := by
 cases d with
 | clo f ids => simp only [rnC,lget_fun,List.map_id]
 | _ => rfl
theorem rnV_id (d : D) : rnV (lget []) d = d := by
 cases d with
 | agg ds =>
  have : ds.map (rnC (lget [])) = ds := by
   rw [show rnC (lget []) = id from funext rnC_id,List.map_id]
  simp only [rnV,this]
 | clo f ids => exact rnC_id (.clo f ids)
 | _ => rfl
theorem rnR_id (d : D) : rnR (lget []) d = d := by
 cases d with
 | tup ds =>
  have : ds.map (rnV (lget [])) = ds := by
   rw [show rnV (lget []) = id from funext rnV_id,List.map_id]
  simp only [rnR,this]
 | agg ds => exact rnV_id (.agg ds)
 | clo f ids => exact rnC_id (.clo f ids)
 | _ => rfl
theorem rnO_id (ob : Ob) : rnO (lget []) ob = ob := by
 have h1 : rnC (lget []) = id := funext rnC_id
 have h2 : List.map (rnC (lget [])) = id := by rw [h1];funext l;exact List.map_id l
 cases ob with
 | cells ds => simp only [rnO,h2,id]
 | rowd sz xs =>
  have : xs.map (·.map (rnC (lget []))) = xs := by
   rw [show (fun x : List D => x.map (rnC (lget []))) = id from h2,List.map_id]
  simp only [rnO,this]
 | blk sz xs =>
  have : xs.map (·.map (rnC (lget []))) = xs := by
   rw [show (fun x : List D => x.map (rnC (lget []))) = id from h2,List.map_id]
  simp only [rnO,this]
 | _ => rfl
theorem rnS_id (d : D) : rnS (lget []) d = d := by
 cases d with
 | opt g e => simp only [rnS,rnR_id]
 | tup ds => exact rnR_id (.tup ds)
 | agg ds => exact rnR_id (.agg ds)
 | clo f ids => exact rnC_id (.clo f ids)
 | _ => rfl
theorem HF.tidy {d1 : D} {H1 : List (Nat × Ob)} {nx1 : Nat} (hn : nx ≤ nx1) (hno : ∀ g e,d1 ≠ .opt g e) (hlt : LtS nx1 d1) (hheap : ∀ p ∈ H1,p.1 < nx1 ∧ LtO nx1 p.2) (h : HF P f ds H nx (fun d H' _ => d = d1 ∧ ∀ p ∈ H1,hget H' p.1 = some p.2)) :
  HF P f ds H nx (fun d H' nx' => d = d1 ∧ H' = H1 ∧ nx' = nx1) := by
 refine h.gh fun B hB d H' nx' hR => ?_
 obtain ⟨rfl,hH⟩ := hR
 refine ⟨d,H1,nx1,Gh.ren [] (by show B.n0 ≤ nx1;omega) (fun _ _ => rfl) ?_ ?_ (.inr rfl),hno,rfl,rfl,rfl⟩
 ·intro p hp
  obtain rfl := List.mem_singleton.1 hp
  exact ⟨(rnS_id d).symm,hlt⟩
 ·intro p hp
  obtain ⟨h1,h2⟩ := hheap p hp
  exact ⟨h1,h2,by rw [lget_id,rnO_id];exact hH p hp⟩
theorem HF.one {ob : Ob} (hob : ∀ ρ,rnO ρ ob = ob) (hl : ∀ n,LtO n ob) (h : HF P f ds H nx (fun d H' nx' => ∃ k,d = .own k ∧ hget H' k = some ob)) : HF P f ds H nx (fun d H' nx' => d = .own nx ∧ H' = [(nx,ob)] ∧ nx' = nx + 1) := by
 refine h.gh fun B hB d H' nx' hR => ?_
 obtain ⟨k,rfl,hh⟩ := hR
 refine ⟨.own nx,[(nx,ob)],nx + 1,Gh.ren (List.range nx ++ [k]) (by simp [hB]) (fun id hid => ?_) ?_ ?_ (.inl (by simp)),(fun g e => by simp),rfl,rfl,rfl⟩
 ·rw [hB] at hid
  simp [lget,List.getD_eq_getElem?_getD,List.getElem?_append,hid]
 ·intro p hp
  obtain rfl := List.mem_singleton.1 hp
  have : lget (List.range nx ++ [k]) nx = k := by simp [lget,List.getD_eq_getElem?_getD,List.getElem?_append]
  exact ⟨by simp [eget,rnS,rnR,rnV,rnC,this],Nat.lt_succ_self _⟩
 ·intro p hp
  obtain rfl := List.mem_singleton.1 hp
  have : lget (List.range nx ++ [k]) nx = k := by simp [lget,List.getD_eq_getElem?_getD,List.getElem?_append]
  exact ⟨Nat.lt_succ_self _,hl _,by rw [this,hob];exact hh⟩
end
theorem owns_call {w w' : World} {base : Nat} {e : TypeId} {sz n : Nat} {v : Value} {xs : List Value} (h : w.ownsRow base e sz v n xs) (hb : Below w.heap.size w w') : w'.ownsRow base e sz v n xs := by
 obtain ⟨h1,h2⟩ := h
 refine ⟨h1,?_⟩
 rcases h2 with h2 | ⟨g,cap,cur,hv,hg,hh,r⟩
 ·exact Or.inl h2
 ·refine Or.inr ⟨g,cap,cur,hv,hg,?_,r⟩
  rw [hb.block g ?_]
  ·exact hh
  ·rcases Nat.lt_or_ge g w.heap.size with h1 | h1
   ·exact h1
   ·rw [Array.getElem?_eq_none h1] at hh;cases hh
end Go.Proofs.YtibemmkfcjlmpaaGreat
namespace Go.Proofs.YtibemmkfcjlmpaaGreat
open Go.RowKit
abbrev oM (d a : Nat) : AO := ⟨some d, .mov (.t a), none⟩
abbrev oF (d o a : Nat) : AO := ⟨some d, .fad o (.t a), none⟩
abbrev oL (d n a : Nat) : AO := ⟨some d, .load false n (.t a), none⟩
abbrev oA (d n a : Nat) : AO := ⟨some d, .load true n (.t a), none⟩
abbrev oS (n a b : Nat) : AO := ⟨none, .store n (.t a) (.t b), none⟩
abbrev oN (d a : Nat) : AO := ⟨some d, .nchk (.t a), none⟩
abbrev oE (d a i : Nat) : AO := ⟨some d, .ext (.t a) i, none⟩
abbrev oH (d a : Nat) : AO := ⟨some d, .len (.t a), none⟩
abbrev oB (d a : Nat) : AO := ⟨some d, .box (.t a), none⟩
abbrev oI (d z a b : Nat) : AO := ⟨some d, .iads z (.t a) (.t b), none⟩
abbrev oK (d : Nat) (z : Int) : AO := ⟨some d, .mov (.k (.int .i64 z)), none⟩
abbrev oX (d : Nat) (o : AOp) : AO := ⟨some d, o, none⟩
abbrev oY (o : AOp) : AO := ⟨none, o, none⟩
abbrev oG (d : Nat) (o : AOp) (g : Nat) (b : Bool) : AO := ⟨some d, o, some (g, b)⟩
abbrev kI (z : Int) : Opd := .k (.int .i64 z)
abbrev dI (z : Int) : D := .int .i64 z
attribute [local simp] AK_at acode_seq acode_region acode_draw acode_cond CB_u acode_block acode_loop acode_exit acode_scope acode_ret acode_skip seqQ_n seqQ_e seqQ_r blockQ_n blockQ_e blockQ_r TK_at OK_at SK_at aops_nil aops_cons asch_done asch_one asch_two asch_top astep aop_eq isLoud aloud aloud1 isWrite qv evS strip gof eget hget putO eput herase oks opnds gS afin afin0 binD arith D.cells takeD fillD keep trim envOf Fin aresl aresv resD argOk pickV isP deq deqs boundD slD lenD isT isSl ptrIds chunks mn_min mx_max splice_one splice_more Rbr_at Rfr_at frR frV frC flatC brwR brwV brwC omap leR leV leC leL leVL rnR rnV rnC rnO rho_0 hputs herases rnS LtS LtR LtV LtC LtO lget noV noC flatR flatV rho
attribute [local simp ↓] CB_t CB_f
theorem follows_ok : Tryz.prog.follows .mixedOrders = true := by kernel_rfl
theorem picked_code : cfun Tryz.prog [] 31 = some ⟨(.seq (.region 0 [oK 4 0]) (.seq (.seq (.region 1 [oM 5 0,oX 6 (.bin .lss (.t 5) (kI 0))]) (.cond 6 (.region 2 [oM 7 0,oX 8 (.bin .add (.t 7) (kI 1)),oX 9 (.neg (.t 8)),oM 0 9]) .skip)) (.seq (.region 3 [oM 10 0,oM 11 1,oX 12 (.bin .rem (.t 10) (.t 11)),oM 4 12]) .ret))),[(.t 4)],13⟩ := by kernel_rfl
theorem picked_pf (n m : Int) (hn : InR n) (hm : 1 ≤ m) : PF Tryz.prog 31 [.int .i64 n,.int .i64 m] (.int .i64 (pickedZ n m)) := by
 refine PF.of follows_ok picked_code (by simp) (by simp) (by simp) fun B _ _ => acode_sound [0,1,4,6] [] _ _ _ ?_
 simp
 refine ⟨fun h => ⟨?_,?_,by omega,?_⟩,fun h => ⟨by omega,?_⟩⟩
 ·unfold InR at *;omega
 ·unfold InR at *;omega
 ·have h2 : ¬ 0 < n + 1 := by omega
  simp [pickedZ,h,h2]
 ·have : ¬ n < 0 := by omega
  simp [pickedZ,this]
theorem law_of_pf {f : FuncId} {ds : List D} (h : PF Tryz.prog f ds (.bool true)) (W : World) (vs : Array Value) (hl : vs.size = ds.length) (hv : ∀ j x,ds[j]? = some x → VV s0 (allZ W) x (vs.getD j undef)) :
  Calls Tryz.prog f vs W fun e W' => e = .returned (.bool true) ∧ Below W.heap.size W W' :=
 (h.2 (allZ W) W vs (fun b o v h => h) hl hv).mono fun e w' ⟨v,Z',he,hr,_,hb⟩ => ⟨by rw [he,hr.bool_inv],hb⟩
theorem args_nil {Z : Cells} : ∀ (j : Nat) (x : D),([] : List D)[j]? = some x → VV s0 Z x ((#[] : Array Value).getD j undef) := fun j x h => by simp at h
theorem args_cons {Z : Cells} {d : D} {ds : List D} {v : Value} {vs : List Value} (h : VV s0 Z d v) (ht : ∀ j x,ds[j]? = some x → VV s0 Z x (vs.toArray.getD j undef)) : ∀ (j : Nat) (x : D),(d :: ds)[j]? = some x → VV s0 Z x ((v :: vs).toArray.getD j undef) := fun j x hx => by
 cases j with
 | zero => simp at hx;subst hx;exact h
 | succ j => simpa using ht j x (by simpa using hx)
end Go.Proofs.YtibemmkfcjlmpaaGreat
namespace Go.Proofs.YtibemmkfcjlmpaaGreat
open Go.RowKit
theorem WCall.pfv {P : Program} {sb : Bool} {B : Base} {st : St} {K : St → Prop} {x : Opd} {f : FuncId} {cs : List D} {as_ : List Opd} {es : List D} {d : D} {dst : Option Nat} (hpf : PF P f es d) (hok : oks st.env (.callv x as_) = true) (hf : evS st.env x = .fn f cs)
  (hes : match omap (brwV st.heap) (as_.map (evS st.env) ++ cs) with | some e => leVL e es | none => False) (hno : ((as_.map (evS st.env) ++ cs).all noV || flatR d) = true)
  (hK : K ⟨putO st.env dst d,st.heap,st.nx⟩) : WCall P sb B (.callv x as_) dst st K := WCall.ofv hok hf (CallOk.pf hpf hes hno hK)
theorem inW {z : Int} (h1 : -9223372036854775808 ≤ z) (h2 : z ≤ 9223372036854775807) : InR z := ⟨h1,h2⟩
theorem WCall.hf {P : Program} {sb : Bool} {B : Base} {st : St} {K : St → Prop} {f : FuncId} {as_ : List Opd} {ds0 : List D} {dst : Option Nat} {H0 : List (Nat × Ob)} {n0 : Nat} {R : D → List (Nat × Ob) → Nat → Prop} (l : List Nat) (hf : HF P f ds0 H0 n0 R)
  (hok : oks st.env (.call f as_) = true) (hsb : sb = false) (hl : l.length = n0) (hnd : l.Nodup) (hlt : ∀ k ∈ l,k < st.nx)
  (hds : as_.map (evS st.env) = ds0.map (rnV (rho l n0 st.nx))) (hao : ds0.all argOk = true) (hdl : ∀ d ∈ ds0,LtV n0 d)
  (hH0 : ∀ p ∈ H0,p.1 < n0 ∧ LtO n0 p.2 ∧ hget st.heap (rho l n0 st.nx p.1) = some (rnO (rho l n0 st.nx) p.2))
  (hK : ∀ d H' nx',R d H' nx' → K ⟨putO st.env dst (rnR (rho l n0 st.nx) d),hputs (rho l n0 st.nx) H' (herases l st.heap),st.nx + (nx' - n0)⟩) : WCall P sb B (.call f as_) dst st K :=
 WCall.of hok (CallOk.hf hf (fun h => by rw [hsb] at h;cases h) l hl hnd hlt hds hao hdl hH0 fun d H' nx' _ hR => hK d H' nx' hR)
end Go.Proofs.YtibemmkfcjlmpaaGreat
namespace Go.Proofs.YtibemmkfcjlmpaaGreat
open Go.RowKit
attribute [local simp] AK_at acode_seq acode_region acode_draw acode_cond CB_u acode_block acode_loop acode_exit acode_scope acode_ret acode_skip seqQ_n seqQ_e seqQ_r blockQ_n blockQ_e blockQ_r TK_at OK_at SK_at aops_nil aops_cons asch_done asch_one asch_two asch_top astep aop_eq isLoud aloud aloud1 isWrite qv evS strip gof eget hget putO eput herase oks opnds gS afin afin0 binD arith D.cells takeD fillD keep trim envOf Fin aresl aresv resD argOk pickV isP deq deqs boundD slD lenD isT isSl ptrIds chunks mn_min mx_max splice_one splice_more Rbr_at Rfr_at frR frV frC flatC brwR brwV brwC omap leR leV leC leL leVL rnR rnV rnC rnO rho_0 hputs herases rnS LtS LtR LtV LtC LtO lget noV noC flatR flatV rho
attribute [local simp ↓] CB_t CB_f
theorem ins_a (A : List (List D)) (row : List D) (i m k z : Nat) (hA : A.length = i) (hm : 1 ≤ m) :
  (A ++ List.replicate (m + k) (anyRow z)).take i ++ [row].take m ++ (A ++ List.replicate (m + k) (anyRow z)).drop (i + ([row].take m).length) = A ++ [row] ++ List.replicate (m + k - 1) (anyRow z) := by
 obtain ⟨m,rfl⟩ : ∃ m',m = m' + 1 := ⟨m - 1,by omega⟩
 subst hA
 rw [List.take_left,List.take_of_length_le (by simp),List.drop_append,List.drop_eq_nil_of_le (by simp),List.drop_replicate]
 simp
theorem ins_b (A B : List (List D)) (row : List D) (i r z : Nat) (hA : A.length = i) (hr : B.length ≤ r) :
  (A ++ [row] ++ List.replicate r (anyRow z)).take (i + 1) ++ B ++ (A ++ [row] ++ List.replicate r (anyRow z)).drop (i + 1 + B.length) = A ++ [row] ++ B ++ List.replicate (r - B.length) (anyRow z) := by
 subst hA
 have e : A.length + 1 = (A ++ [row]).length := by simp
 rw [e,List.take_left,List.drop_append,List.drop_eq_nil_of_le (by simp),List.drop_replicate]
 simp only [List.nil_append]
 congr 2;simp
theorem ins_c (xs : List (List D)) (i k z : Nat) (hi : i < xs.length) : (((xs ++ List.replicate (k + 1) (anyRow z)).drop i).take (xs.length + 1 - i)).take (xs.length - i) = xs.drop i := by
 rw [List.take_take,Nat.min_eq_left (by omega),List.drop_append_of_le_length (by omega),List.take_append_of_le_length (by simp),List.take_of_length_le (by simp)]
theorem ins_d (xs : List (List D)) (i k z : Nat) (hi : i < xs.length) :
  (xs ++ List.replicate (k + 1) (anyRow z)).take (i + 1) ++ xs.drop i ++ (xs ++ List.replicate (k + 1) (anyRow z)).drop (i + 1 + (xs.drop i).length) = xs.take (i + 1) ++ xs.drop i ++ List.replicate k (anyRow z) := by
 have h1 : xs.drop (i + 1 + (xs.drop i).length) = [] := List.drop_eq_nil_of_le (by simp;omega)
 rw [List.take_append_of_le_length (by omega),List.drop_append (l₁ := xs),h1,List.drop_replicate]
 simp only [List.nil_append]
 congr 2;simp;omega
theorem ins_e (xs : List (List D)) (row : List D) (i k z m : Nat) (hi : i < xs.length) (hm : 1 ≤ m) :
  (xs.take (i + 1) ++ xs.drop i ++ List.replicate k (anyRow z)).take i ++ [row].take m ++ (xs.take (i + 1) ++ xs.drop i ++ List.replicate k (anyRow z)).drop (i + ([row].take m).length) = xs.take i ++ [row] ++ xs.drop i ++ List.replicate k (anyRow z) := by
 have h1 : (xs.take (i + 1)).length = i + 1 := by simp;omega
 rw [List.take_of_length_le (l := [row]) (by simp;omega),List.append_assoc (xs.take (i + 1)),List.take_append_of_le_length (by omega),List.take_take,Nat.min_eq_left (by omega)]
 have e : i + [row].length = (xs.take (i + 1)).length := by simp;omega
 rw [e,List.drop_left]
 simp
theorem ins_t (xs : List (List D)) (row : List D) (i k z : Nat) (hi : i ≤ xs.length) : (xs.take i ++ [row] ++ xs.drop i ++ List.replicate k (anyRow z)).take (xs.length + 1) = xs.take i ++ [row] ++ xs.drop i := by
 have e : xs.length + 1 = (xs.take i ++ [row] ++ xs.drop i).length := by simp;omega
 rw [e,List.take_left]
theorem ins_mem {xs : List (List D)} {row : List D} {i : Nat} {q : List D → Prop} (h1 : ∀ r ∈ xs,q r) (h2 : q row) : ∀ r ∈ xs.take i ++ [row] ++ xs.drop i,q r := by
 intro r hr
 rcases List.mem_append.1 hr with hr | hr
 ·rcases List.mem_append.1 hr with hr | hr
  ·exact h1 r (List.mem_of_mem_take hr)
  ·rw [List.mem_singleton.1 hr];exact h2
 ·exact h1 r (List.mem_of_mem_drop hr)
theorem lins_code : cfun Tryz.prog [] 161 = some ⟨(.seq (.region 0 [oX 6 (.mov (.k .nil0))]) (.seq (.region 1 [oM 10 0,oM 11 1,oX 12 (.slc 6 (.t 10) (some (.t 11)) none none)]) (.seq (.region 2 [oM 13 2,oH 14 13,oM 7 14]) (.seq (.seq (.region 3 [oM 15 7,oX 16 (.bin .eql (.t 15) (kI 0))]) (.cond 16 (.seq (.region 4 [oM 17 0,oM 6 17]) .ret) .skip)) (.seq (.region 5 [oM 18 0,oH 19 18,oM 8 19]) (.seq (.seq (.region 6 [oM 20 1,oM 21 8,oX 22 (.bin .eql (.t 20) (.t 21))]) (.cond 22 (.seq (.region 7 [oM 23 0,oM 24 2,oX 25 (.app 6 48 [(.int .i64 0),(.int .i64 0),(.int .i64 0),(.int .i64 0),(.int .i64 0),(.int .i64 0)] (.t 23) (.t 24)),oM 6 25]) .ret) .skip)) (.seq (.seq (.region 8 [oM 26 8,oM 27 7,oX 28 (.bin .add (.t 26) (.t 27)),oM 29 0,oX 30 (.xop 8 [] [(.t 29)]),oX 31 (.bin .gtr (.t 28) (.t 30))]) (.cond 31 (.seq (.region 9 [oM 32 0,oM 33 1,oX 34 (.slc 6 (.t 32) none (some (.t 33)) none),oM 35 8,oM 36 7,oX 37 (.bin .add (.t 35) (.t 36)),oM 38 1,oX 39 (.bin .sub (.t 37) (.t 38)),oX 40 (.xop 11 [6,48] [(.t 34),(.t 39)]),oM 9 40]) (.seq (.region 10 [oM 41 9,oM 42 1,oX 43 (.slc 6 (.t 41) (some (.t 42)) none none),oM 44 2,oX 45 (.xop 9 [6] [(.t 43),(.t 44)])]) (.seq (.draw 11 (.one true (oM 46 9) (.one true (oM 47 1) (.one true (oM 48 7) (.one true (oX 49 (.bin .add (.t 47) (.t 48))) (.one true (oX 50 (.slc 6 (.t 46) (some (.t 49)) none none)) (.one true (oM 51 0) (.one true (oM 52 1) (.one true (oX 53 (.slc 6 (.t 51) (some (.t 52)) none none)) (.one false (oX 54 (.xop 9 [6] [(.t 50),(.t 53)])) .done)))))))))) (.seq (.region 12 [oM 55 9,oM 6 55]) .ret)))) .skip)) (.seq (.region 13 [oM 56 0,oM 57 8,oM 58 7,oX 59 (.bin .add (.t 57) (.t 58)),oX 60 (.slc 6 (.t 56) none (some (.t 59)) none),oM 0 60]) (.seq (.seq (.region 14 [oM 61 2,oM 62 0,oM 63 1,oM 64 7,oX 65 (.bin .add (.t 63) (.t 64)),oX 66 (.slc 6 (.t 62) (some (.t 65)) none none),oX 67 (.call 181 [(.t 61),(.t 66)]),oX 68 (.not (.t 67))]) (.cond 68 (.seq (.draw 15 (.one true (oM 69 0) (.one true (oM 70 1) (.one true (oM 71 7) (.one true (oX 72 (.bin .add (.t 70) (.t 71))) (.one true (oX 73 (.slc 6 (.t 69) (some (.t 72)) none none)) (.one true (oM 74 0) (.one true (oM 75 1) (.one true (oX 76 (.slc 6 (.t 74) (some (.t 75)) none none)) (.one false (oX 77 (.xop 9 [6] [(.t 73),(.t 76)])) .done)))))))))) (.seq (.region 16 [oM 78 0,oM 79 1,oX 80 (.slc 6 (.t 78) (some (.t 79)) none none),oM 81 2,oX 82 (.xop 9 [6] [(.t 80),(.t 81)])]) (.seq (.region 17 [oM 83 0,oM 6 83]) .ret))) .skip)) (.seq (.region 18 [oM 84 0,oM 85 8,oX 86 (.slc 6 (.t 84) (some (.t 85)) none none),oM 87 2,oX 88 (.xop 9 [6] [(.t 86),(.t 87)])]) (.seq (.region 19 [oM 89 0,oM 90 1,oX 91 (.slc 6 (.t 89) (some (.t 90)) none none),oM 92 7,oX 93 (.call 182 [(.t 91),(.t 92)])]) (.seq (.region 20 [oM 94 0,oM 6 94]) .ret)))))))))))),[(.t 6)],95⟩ := by kernel_rfl
theorem lov_ext (args : Array Value) (w : World) : (callFunc 181 args).run Tryz.prog w = ((Extern.SlicesOverlaps.overlaps #[40,40] #[4] args).run Tryz.prog w).andThen fun v w' => .ok (.value v) w' :=
 run_callFunc_extern Tryz.func181 (by kernel_rfl) (by kernel_rfl) (by kernel_rfl) (e := Extern.SlicesOverlaps.overlaps #[40,40] #[4]) (by kernel_rfl) args w
theorem lins_hf (xs : List (List D)) (i : Nat) (row : List D) (hi : i ≤ xs.length) (hl : xs.length < 1000000) (hrow : row.length = 6) (hxs : ∀ r ∈ xs,r.length = 6) (hT : ∀ r ∈ xs,∀ d ∈ r,isT d = true) (hTr : ∀ d ∈ row,isT d = true) :
  HF Tryz.prog 161 [.own 0,I i,.own 1] [(1,.row 6 [row]),(0,.row 6 xs)] 2 (fun d H' nx' => d = .own 2 ∧ H' = [(2,.row 6 (xs.take i ++ [row] ++ xs.drop i))] ∧ nx' = 3) := by
 refine HF.one (fun _ => rfl) (fun _ => trivial) ?_
 refine HF.of follows_ok lins_code (by simp) (by simp) (by simp) fun B hBN hB0 => acode_sound [0,1,2,6,7,8,9,16,22,31,68] [8,12,17] _ _ _ ?_
 by_cases hin : i = xs.length
 ·subst hin
  have hcap : (xs.length + 1) * 48 ≤ 140737488355328 := by omega
  simp [hcap,hrow]
 have hz : ¬ ((i : Int) = xs.length) := by omega
 have h0 : xs ≠ [] := by
  rintro rfl
  simp at hi hin;omega
 have hlt : i < xs.length := by omega
 have i1 : InR ((xs.length : Int) + 1) := inW (by omega) (by omega)
 have i2 : InR ((xs.length : Int) + 1 - i) := inW (by omega) (by omega)
 have i3 : InR ((i : Int) + 1) := inW (by omega) (by omega)
 have p1 : (0 : Int) ≤ (xs.length : Int) + 1 := by omega
 have p3 : (0 : Int) ≤ (i : Int) + 1 := by omega
 have hnv : ∀ {d : D},isT d = true → d ≠ .any := fun h e => by rw [e] at h;cases h
 simp [hin,hz,hi]
 refine W.openR (t := 0) (id := 0) (sz := 6) (xs := xs) (by simp) (by simp) h0 fun k => ?_
 simp only [eput]
 refine acode_sound [0,1,2,6,7,8,9,16,22,31,68] [] _ _ _ ?_
 have hA : (xs.take i).length = i := by simp;omega
 have hB : (xs.drop i).length = xs.length - i := by simp
 cases k with
 | zero =>
  have c0 : (xs.length : Int) < xs.length + 1 := by omega
  obtain ⟨m,hm⟩ : ∃ m,m = xs.length + 1 - i := ⟨_,rfl⟩
  have hmz : (xs.length : Int) + 1 - i = (m : Nat) := by omega
  have him : i + m = xs.length + 1 := by omega
  have hm1 : 1 ≤ m := by omega
  have i2' : InR (m : Int) := by rw [← hmz];exact i2
  simp [i1]
  refine XCall.cap (id := 0) (sz := 6) (off := 0) (len := xs.length) (cp := xs.length) (by simp) (by simp) ?_
  simp [i1,hmz,i2',c0,hi]
  refine XCall.appmake (id := 0) (off := 0) (len := i) (cp := xs.length) (xs := xs) (n := m) (by simp) (by simp) (by simp) (by simp) (by omega) (by omega) (by omega) (by omega) fun k => ?_
  rw [List.drop_zero,him]
  obtain ⟨W1,hW1⟩ : ∃ W1,W1 = xs.take i ++ List.replicate (m + k) (anyRow 6) := ⟨_,rfl⟩
  have hW2 := ins_a (xs.take i) row i m k 6 hA hm1
  rw [← hW1] at hW2 ⊢
  obtain ⟨W2,hW2'⟩ : ∃ W2,W2 = xs.take i ++ [row] ++ List.replicate (m + k - 1) (anyRow 6) := ⟨_,rfl⟩
  rw [← hW2'] at hW2
  have hW3 := ins_b (xs.take i) (xs.drop i) row i (m + k - 1) 6 hA (by omega)
  rw [← hW2'] at hW3
  have hk3 : m + k - 1 - (xs.drop i).length = k := by omega
  rw [hk3] at hW3
  obtain ⟨W3,hW3'⟩ : ∃ W3,W3 = xs.take i ++ [row] ++ xs.drop i ++ List.replicate k (anyRow 6) := ⟨_,rfl⟩
  rw [← hW3'] at hW3
  have l3 : W3.length = xs.length + 1 + k := by rw [hW3'];simp;omega
  have t3 : W3.take (xs.length + 1) = xs.take i ++ [row] ++ xs.drop i := by rw [hW3'];exact ins_t xs row i k 6 hi
  have hle1 : i ≤ xs.length + 1 := by omega
  have hle2 : i + 1 ≤ xs.length + 1 := by omega
  have hle3 : xs.length + 1 ≤ xs.length + 1 + k := by omega
  simp [hle1,hle3]
  refine XCall.copy (id := 2) (off := i) (len := xs.length + 1 - i) (xs := W1) (ys := [row]) (cp := xs.length + 1 + k - i) (by simp) rfl (by simp) (by simp) (by simp [srcD]) (fun r hr => ?_) (fun r hr d hd => ?_) ?_
  ·rw [List.mem_singleton.1 (List.mem_of_mem_take hr)];exact hrow
  ·rw [List.mem_singleton.1 (List.mem_of_mem_take hr)] at hd;exact hnv (hTr d hd)
  rw [← hm,hW2]
  simp [i3,hle2,hle3,hi,p3]
  have hdt0 : (xs.drop i).take (xs.length - i) = xs.drop i := List.take_of_length_le (by simp)
  refine XCall.copy (id := 2) (off := i + 1) (len := xs.length + 1 - (i + 1)) (xs := W2) (ys := xs.drop i) (cp := xs.length + 1 + k - (i + 1)) (by simp) rfl (by simp) (by simp) (by simp [srcD,hdt0]) (fun r hr => ?_) (fun r hr d hd => ?_) ?_
  ·exact hxs r (List.mem_of_mem_drop (List.mem_of_mem_take hr))
  ·exact hnv (hT r (List.mem_of_mem_drop (List.mem_of_mem_take hr)) d hd)
  have hdt : (xs.drop i).take (xs.length + 1 - (i + 1)) = xs.drop i := List.take_of_length_le (by simp)
  rw [hdt,hW3]
  simp
  refine W.gh (Gh.closeR (t := 9) (id := 2) (sz := 6) (len := xs.length + 1) (xs := W3) (by simp [l3]) (by simp) (by rw [t3];exact ins_mem hT hTr)) ?_
  rw [t3]
  simp only [eput,herase]
  refine acode_sound [0,1,2,6,7,8,9,16,22,31,68] [] _ _ _ ?_
  simp
 | succ k =>
  have c0 : ¬ ((k : Int) + 1 < 1) := by omega
  have c1 : xs.length + 1 ≤ xs.length + (k + 1) := by omega
  have hle1 : i ≤ xs.length + 1 := by omega
  have hle2 : i + 1 ≤ xs.length + 1 := by omega
  simp [i1]
  refine XCall.cap (id := 0) (sz := 6) (off := 0) (len := xs.length) (cp := xs.length + (k + 1)) (by simp) (by simp) ?_
  simp [i1,i3,c0,c1,hle1,hle2,p1,p3]
  obtain ⟨U,hU⟩ : ∃ U,U = xs ++ List.replicate (k + 1) (anyRow 6) := ⟨_,rfl⟩
  have hC := ins_c xs i k 6 hlt
  have hD := ins_d xs i k 6 hlt
  rw [← hU] at hC hD
  obtain ⟨V,hV⟩ : ∃ V,V = xs.take (i + 1) ++ xs.drop i ++ List.replicate k (anyRow 6) := ⟨_,rfl⟩
  have hE := ins_e xs row i k 6 (xs.length + 1 - i) hlt (by omega)
  rw [← hV] at hD hE
  obtain ⟨W3,hW3'⟩ : ∃ W3,W3 = xs.take i ++ [row] ++ xs.drop i ++ List.replicate k (anyRow 6) := ⟨_,rfl⟩
  rw [← hW3'] at hE
  have l3 : W3.length = xs.length + (k + 1) := by rw [hW3'];simp;omega
  have t3 : W3.take (xs.length + 1) = xs.take i ++ [row] ++ xs.drop i := by rw [hW3'];exact ins_t xs row i k 6 hi
  rw [← hU]
  refine WCall.overlaps (sz := 6) (off := i + 1) (len := xs.length + 1 - (i + 1)) (cp := xs.length + (k + 1) - (i + 1)) (id1 := 1) (sz1 := 6) (id := 0) (zs := [row]) (xs := U) (lov_ext) Tryz.underlying40 (by kernel_rfl) (by simp) (by simp) (by simp) (by simp) (by simp) (by simp) (by omega) ?_
  simp [i3,p3,hle1,hle2]
  refine XCall.copy (id := 0) (off := i + 1) (len := xs.length + 1 - (i + 1)) (xs := U) (ys := (U.drop i).take (xs.length + 1 - i)) (cp := xs.length + (k + 1) - (i + 1)) (by simp) rfl (by simp) (by simp) (by simp [srcD]) (fun r hr => ?_) (fun r hr d hd => ?_) ?_
  ·rw [show xs.length + 1 - (i + 1) = xs.length - i by omega,hC] at hr
   exact hxs r (List.mem_of_mem_drop hr)
  ·rw [show xs.length + 1 - (i + 1) = xs.length - i by omega,hC] at hr
   exact hnv (hT r (List.mem_of_mem_drop hr) d hd)
  rw [show xs.length + 1 - (i + 1) = xs.length - i by omega,hC,hD]
  simp [i3,p3,hle1,hle2]
  refine XCall.copy (id := 0) (off := i) (len := xs.length + 1 - i) (xs := V) (ys := [row]) (cp := xs.length + (k + 1) - i) (by simp) rfl (by simp) (by simp) (by simp [srcD]) (fun r hr => ?_) (fun r hr d hd => ?_) ?_
  ·rw [List.mem_singleton.1 (List.mem_of_mem_take hr)];exact hrow
  ·rw [List.mem_singleton.1 (List.mem_of_mem_take hr)] at hd;exact hnv (hTr d hd)
  rw [hE]
  simp
  refine W.gh (Gh.closeR (t := 0) (id := 0) (sz := 6) (len := xs.length + 1) (xs := W3) (by simp [l3]) (by simp) (by rw [t3];exact ins_mem hT hTr)) ?_
  rw [t3]
  simp only [eput,herase]
  refine acode_sound [0,1,2,6,7,8,9,16,22,31,68] [] _ _ _ ?_
  simp
theorem tins_code : cfun Tryz.prog [] 164 = some ⟨(.seq (.region 0 [oX 6 (.mov (.k .nil0))]) (.seq (.region 1 [oM 10 0,oM 11 1,oX 12 (.slc 2 (.t 10) (some (.t 11)) none none)]) (.seq (.region 2 [oM 13 2,oH 14 13,oM 7 14]) (.seq (.seq (.region 3 [oM 15 7,oX 16 (.bin .eql (.t 15) (kI 0))]) (.cond 16 (.seq (.region 4 [oM 17 0,oM 6 17]) .ret) .skip)) (.seq (.region 5 [oM 18 0,oH 19 18,oM 8 19]) (.seq (.seq (.region 6 [oM 20 1,oM 21 8,oX 22 (.bin .eql (.t 20) (.t 21))]) (.cond 22 (.seq (.region 7 [oM 23 0,oM 24 2,oX 25 (.app 2 16 [(.int .i64 0),(.int .i64 0)] (.t 23) (.t 24)),oM 6 25]) .ret) .skip)) (.seq (.seq (.region 8 [oM 26 8,oM 27 7,oX 28 (.bin .add (.t 26) (.t 27)),oM 29 0,oX 30 (.xop 8 [] [(.t 29)]),oX 31 (.bin .gtr (.t 28) (.t 30))]) (.cond 31 (.seq (.region 9 [oM 32 0,oM 33 1,oX 34 (.slc 2 (.t 32) none (some (.t 33)) none),oM 35 8,oM 36 7,oX 37 (.bin .add (.t 35) (.t 36)),oM 38 1,oX 39 (.bin .sub (.t 37) (.t 38)),oX 40 (.xop 11 [2,16] [(.t 34),(.t 39)]),oM 9 40]) (.seq (.region 10 [oM 41 9,oM 42 1,oX 43 (.slc 2 (.t 41) (some (.t 42)) none none),oM 44 2,oX 45 (.xop 9 [2] [(.t 43),(.t 44)])]) (.seq (.draw 11 (.one true (oM 46 9) (.one true (oM 47 1) (.one true (oM 48 7) (.one true (oX 49 (.bin .add (.t 47) (.t 48))) (.one true (oX 50 (.slc 2 (.t 46) (some (.t 49)) none none)) (.one true (oM 51 0) (.one true (oM 52 1) (.one true (oX 53 (.slc 2 (.t 51) (some (.t 52)) none none)) (.one false (oX 54 (.xop 9 [2] [(.t 50),(.t 53)])) .done)))))))))) (.seq (.region 12 [oM 55 9,oM 6 55]) .ret)))) .skip)) (.seq (.region 13 [oM 56 0,oM 57 8,oM 58 7,oX 59 (.bin .add (.t 57) (.t 58)),oX 60 (.slc 2 (.t 56) none (some (.t 59)) none),oM 0 60]) (.seq (.seq (.region 14 [oM 61 2,oM 62 0,oM 63 1,oM 64 7,oX 65 (.bin .add (.t 63) (.t 64)),oX 66 (.slc 2 (.t 62) (some (.t 65)) none none),oX 67 (.call 183 [(.t 61),(.t 66)]),oX 68 (.not (.t 67))]) (.cond 68 (.seq (.draw 15 (.one true (oM 69 0) (.one true (oM 70 1) (.one true (oM 71 7) (.one true (oX 72 (.bin .add (.t 70) (.t 71))) (.one true (oX 73 (.slc 2 (.t 69) (some (.t 72)) none none)) (.one true (oM 74 0) (.one true (oM 75 1) (.one true (oX 76 (.slc 2 (.t 74) (some (.t 75)) none none)) (.one false (oX 77 (.xop 9 [2] [(.t 73),(.t 76)])) .done)))))))))) (.seq (.region 16 [oM 78 0,oM 79 1,oX 80 (.slc 2 (.t 78) (some (.t 79)) none none),oM 81 2,oX 82 (.xop 9 [2] [(.t 80),(.t 81)])]) (.seq (.region 17 [oM 83 0,oM 6 83]) .ret))) .skip)) (.seq (.region 18 [oM 84 0,oM 85 8,oX 86 (.slc 2 (.t 84) (some (.t 85)) none none),oM 87 2,oX 88 (.xop 9 [2] [(.t 86),(.t 87)])]) (.seq (.region 19 [oM 89 0,oM 90 1,oX 91 (.slc 2 (.t 89) (some (.t 90)) none none),oM 92 7,oX 93 (.call 184 [(.t 91),(.t 92)])]) (.seq (.region 20 [oM 94 0,oM 6 94]) .ret)))))))))))),[(.t 6)],95⟩ := by kernel_rfl
theorem tov_ext (args : Array Value) (w : World) : (callFunc 183 args).run Tryz.prog w = ((Extern.SlicesOverlaps.overlaps #[164,164] #[4] args).run Tryz.prog w).andThen fun v w' => .ok (.value v) w' :=
 run_callFunc_extern Tryz.func183 (by kernel_rfl) (by kernel_rfl) (by kernel_rfl) (e := Extern.SlicesOverlaps.overlaps #[164,164] #[4]) (by kernel_rfl) args w
theorem tins_hf (xs : List (List D)) (i : Nat) (row : List D) (hi : i ≤ xs.length) (hl : xs.length < 1000000) (hrow : row.length = 2) (hxs : ∀ r ∈ xs,r.length = 2) (hT : ∀ r ∈ xs,∀ d ∈ r,isT d = true) (hTr : ∀ d ∈ row,isT d = true) :
  HF Tryz.prog 164 [.own 0,I i,.own 1] [(1,.row 2 [row]),(0,.row 2 xs)] 2 (fun d H' nx' => d = .own 2 ∧ H' = [(2,.row 2 (xs.take i ++ [row] ++ xs.drop i))] ∧ nx' = 3) := by
 refine HF.one (fun _ => rfl) (fun _ => trivial) ?_
 refine HF.of follows_ok tins_code (by simp) (by simp) (by simp) fun B hBN hB0 => acode_sound [0,1,2,6,7,8,9,16,22,31,68] [8,12,17] _ _ _ ?_
 by_cases hin : i = xs.length
 ·subst hin
  have hcap : (xs.length + 1) * 16 ≤ 140737488355328 := by omega
  simp [hcap,hrow]
 have hz : ¬ ((i : Int) = xs.length) := by omega
 have h0 : xs ≠ [] := by
  rintro rfl
  simp at hi hin;omega
 have hlt : i < xs.length := by omega
 have i1 : InR ((xs.length : Int) + 1) := inW (by omega) (by omega)
 have i2 : InR ((xs.length : Int) + 1 - i) := inW (by omega) (by omega)
 have i3 : InR ((i : Int) + 1) := inW (by omega) (by omega)
 have p1 : (0 : Int) ≤ (xs.length : Int) + 1 := by omega
 have p3 : (0 : Int) ≤ (i : Int) + 1 := by omega
 have hnv : ∀ {d : D},isT d = true → d ≠ .any := fun h e => by rw [e] at h;cases h
 simp [hin,hz,hi]
 refine W.openR (t := 0) (id := 0) (sz := 2) (xs := xs) (by simp) (by simp) h0 fun k => ?_
 simp only [eput]
 refine acode_sound [0,1,2,6,7,8,9,16,22,31,68] [] _ _ _ ?_
 have hA : (xs.take i).length = i := by simp;omega
 have hB : (xs.drop i).length = xs.length - i := by simp
 cases k with
 | zero =>
  have c0 : (xs.length : Int) < xs.length + 1 := by omega
  obtain ⟨m,hm⟩ : ∃ m,m = xs.length + 1 - i := ⟨_,rfl⟩
  have hmz : (xs.length : Int) + 1 - i = (m : Nat) := by omega
  have him : i + m = xs.length + 1 := by omega
  have hm1 : 1 ≤ m := by omega
  have i2' : InR (m : Int) := by rw [← hmz];exact i2
  simp [i1]
  refine XCall.cap (id := 0) (sz := 2) (off := 0) (len := xs.length) (cp := xs.length) (by simp) (by simp) ?_
  simp [i1,hmz,i2',c0,hi]
  refine XCall.appmake (id := 0) (off := 0) (len := i) (cp := xs.length) (xs := xs) (n := m) (by simp) (by simp) (by simp) (by simp) (by omega) (by omega) (by omega) (by omega) fun k => ?_
  rw [List.drop_zero,him]
  obtain ⟨W1,hW1⟩ : ∃ W1,W1 = xs.take i ++ List.replicate (m + k) (anyRow 2) := ⟨_,rfl⟩
  have hW2 := ins_a (xs.take i) row i m k 2 hA hm1
  rw [← hW1] at hW2 ⊢
  obtain ⟨W2,hW2'⟩ : ∃ W2,W2 = xs.take i ++ [row] ++ List.replicate (m + k - 1) (anyRow 2) := ⟨_,rfl⟩
  rw [← hW2'] at hW2
  have hW3 := ins_b (xs.take i) (xs.drop i) row i (m + k - 1) 2 hA (by omega)
  rw [← hW2'] at hW3
  have hk3 : m + k - 1 - (xs.drop i).length = k := by omega
  rw [hk3] at hW3
  obtain ⟨W3,hW3'⟩ : ∃ W3,W3 = xs.take i ++ [row] ++ xs.drop i ++ List.replicate k (anyRow 2) := ⟨_,rfl⟩
  rw [← hW3'] at hW3
  have l3 : W3.length = xs.length + 1 + k := by rw [hW3'];simp;omega
  have t3 : W3.take (xs.length + 1) = xs.take i ++ [row] ++ xs.drop i := by rw [hW3'];exact ins_t xs row i k 2 hi
  have hle1 : i ≤ xs.length + 1 := by omega
  have hle2 : i + 1 ≤ xs.length + 1 := by omega
  have hle3 : xs.length + 1 ≤ xs.length + 1 + k := by omega
  simp [hle1,hle3]
  refine XCall.copy (id := 2) (off := i) (len := xs.length + 1 - i) (xs := W1) (ys := [row]) (cp := xs.length + 1 + k - i) (by simp) rfl (by simp) (by simp) (by simp [srcD]) (fun r hr => ?_) (fun r hr d hd => ?_) ?_
  ·rw [List.mem_singleton.1 (List.mem_of_mem_take hr)];exact hrow
  ·rw [List.mem_singleton.1 (List.mem_of_mem_take hr)] at hd;exact hnv (hTr d hd)
  rw [← hm,hW2]
  simp [i3,hle2,hle3,hi,p3]
  have hdt0 : (xs.drop i).take (xs.length - i) = xs.drop i := List.take_of_length_le (by simp)
  refine XCall.copy (id := 2) (off := i + 1) (len := xs.length + 1 - (i + 1)) (xs := W2) (ys := xs.drop i) (cp := xs.length + 1 + k - (i + 1)) (by simp) rfl (by simp) (by simp) (by simp [srcD,hdt0]) (fun r hr => ?_) (fun r hr d hd => ?_) ?_
  ·exact hxs r (List.mem_of_mem_drop (List.mem_of_mem_take hr))
  ·exact hnv (hT r (List.mem_of_mem_drop (List.mem_of_mem_take hr)) d hd)
  have hdt : (xs.drop i).take (xs.length + 1 - (i + 1)) = xs.drop i := List.take_of_length_le (by simp)
  rw [hdt,hW3]
  simp
  refine W.gh (Gh.closeR (t := 9) (id := 2) (sz := 2) (len := xs.length + 1) (xs := W3) (by simp [l3]) (by simp) (by rw [t3];exact ins_mem hT hTr)) ?_
  rw [t3]
  simp only [eput,herase]
  refine acode_sound [0,1,2,6,7,8,9,16,22,31,68] [] _ _ _ ?_
  simp
 | succ k =>
  have c0 : ¬ ((k : Int) + 1 < 1) := by omega
  have c1 : xs.length + 1 ≤ xs.length + (k + 1) := by omega
  have hle1 : i ≤ xs.length + 1 := by omega
  have hle2 : i + 1 ≤ xs.length + 1 := by omega
  simp [i1]
  refine XCall.cap (id := 0) (sz := 2) (off := 0) (len := xs.length) (cp := xs.length + (k + 1)) (by simp) (by simp) ?_
  simp [i1,i3,c0,c1,hle1,hle2,p1,p3]
  obtain ⟨U,hU⟩ : ∃ U,U = xs ++ List.replicate (k + 1) (anyRow 2) := ⟨_,rfl⟩
  have hC := ins_c xs i k 2 hlt
  have hD := ins_d xs i k 2 hlt
  rw [← hU] at hC hD
  obtain ⟨V,hV⟩ : ∃ V,V = xs.take (i + 1) ++ xs.drop i ++ List.replicate k (anyRow 2) := ⟨_,rfl⟩
  have hE := ins_e xs row i k 2 (xs.length + 1 - i) hlt (by omega)
  rw [← hV] at hD hE
  obtain ⟨W3,hW3'⟩ : ∃ W3,W3 = xs.take i ++ [row] ++ xs.drop i ++ List.replicate k (anyRow 2) := ⟨_,rfl⟩
  rw [← hW3'] at hE
  have l3 : W3.length = xs.length + (k + 1) := by rw [hW3'];simp;omega
  have t3 : W3.take (xs.length + 1) = xs.take i ++ [row] ++ xs.drop i := by rw [hW3'];exact ins_t xs row i k 2 hi
  rw [← hU]
  refine WCall.overlaps (sz := 2) (off := i + 1) (len := xs.length + 1 - (i + 1)) (cp := xs.length + (k + 1) - (i + 1)) (id1 := 1) (sz1 := 2) (id := 0) (zs := [row]) (xs := U) (tov_ext) Tryz.underlying164 (by kernel_rfl) (by simp) (by simp) (by simp) (by simp) (by simp) (by simp) (by omega) ?_
  simp [i3,p3,hle1,hle2]
  refine XCall.copy (id := 0) (off := i + 1) (len := xs.length + 1 - (i + 1)) (xs := U) (ys := (U.drop i).take (xs.length + 1 - i)) (cp := xs.length + (k + 1) - (i + 1)) (by simp) rfl (by simp) (by simp) (by simp [srcD]) (fun r hr => ?_) (fun r hr d hd => ?_) ?_
  ·rw [show xs.length + 1 - (i + 1) = xs.length - i by omega,hC] at hr
   exact hxs r (List.mem_of_mem_drop hr)
  ·rw [show xs.length + 1 - (i + 1) = xs.length - i by omega,hC] at hr
   exact hnv (hT r (List.mem_of_mem_drop hr) d hd)
  rw [show xs.length + 1 - (i + 1) = xs.length - i by omega,hC,hD]
  simp [i3,p3,hle1,hle2]
  refine XCall.copy (id := 0) (off := i) (len := xs.length + 1 - i) (xs := V) (ys := [row]) (cp := xs.length + (k + 1) - i) (by simp) rfl (by simp) (by simp) (by simp [srcD]) (fun r hr => ?_) (fun r hr d hd => ?_) ?_
  ·rw [List.mem_singleton.1 (List.mem_of_mem_take hr)];exact hrow
  ·rw [List.mem_singleton.1 (List.mem_of_mem_take hr)] at hd;exact hnv (hTr d hd)
  rw [hE]
  simp
  refine W.gh (Gh.closeR (t := 0) (id := 0) (sz := 2) (len := xs.length + 1) (xs := W3) (by simp [l3]) (by simp) (by rw [t3];exact ins_mem hT hTr)) ?_
  rw [t3]
  simp only [eput,herase]
  refine acode_sound [0,1,2,6,7,8,9,16,22,31,68] [] _ _ _ ?_
  simp
theorem fins_code : cfun Tryz.prog [] 86 = some ⟨(.seq (.region 0 [oX 6 (.mov (.k .nil0))]) (.seq (.region 1 [oM 10 0,oM 11 1,oX 12 (.slc 7 (.t 10) (some (.t 11)) none none)]) (.seq (.region 2 [oM 13 2,oH 14 13,oM 7 14]) (.seq (.seq (.region 3 [oM 15 7,oX 16 (.bin .eql (.t 15) (kI 0))]) (.cond 16 (.seq (.region 4 [oM 17 0,oM 6 17]) .ret) .skip)) (.seq (.region 5 [oM 18 0,oH 19 18,oM 8 19]) (.seq (.seq (.region 6 [oM 20 1,oM 21 8,oX 22 (.bin .eql (.t 20) (.t 21))]) (.cond 22 (.seq (.region 7 [oM 23 0,oM 24 2,oX 25 (.app 7 56 [(.int .i64 0),(.int .i64 0),(.int .i64 0),(.int .i64 0),(.bool false),(.int .i64 0),(.int .i64 0)] (.t 23) (.t 24)),oM 6 25]) .ret) .skip)) (.seq (.seq (.region 8 [oM 26 8,oM 27 7,oX 28 (.bin .add (.t 26) (.t 27)),oM 29 0,oX 30 (.xop 8 [] [(.t 29)]),oX 31 (.bin .gtr (.t 28) (.t 30))]) (.cond 31 (.seq (.region 9 [oM 32 0,oM 33 1,oX 34 (.slc 7 (.t 32) none (some (.t 33)) none),oM 35 8,oM 36 7,oX 37 (.bin .add (.t 35) (.t 36)),oM 38 1,oX 39 (.bin .sub (.t 37) (.t 38)),oX 40 (.xop 11 [7,56] [(.t 34),(.t 39)]),oM 9 40]) (.seq (.region 10 [oM 41 9,oM 42 1,oX 43 (.slc 7 (.t 41) (some (.t 42)) none none),oM 44 2,oX 45 (.xop 9 [7] [(.t 43),(.t 44)])]) (.seq (.draw 11 (.one true (oM 46 9) (.one true (oM 47 1) (.one true (oM 48 7) (.one true (oX 49 (.bin .add (.t 47) (.t 48))) (.one true (oX 50 (.slc 7 (.t 46) (some (.t 49)) none none)) (.one true (oM 51 0) (.one true (oM 52 1) (.one true (oX 53 (.slc 7 (.t 51) (some (.t 52)) none none)) (.one false (oX 54 (.xop 9 [7] [(.t 50),(.t 53)])) .done)))))))))) (.seq (.region 12 [oM 55 9,oM 6 55]) .ret)))) .skip)) (.seq (.region 13 [oM 56 0,oM 57 8,oM 58 7,oX 59 (.bin .add (.t 57) (.t 58)),oX 60 (.slc 7 (.t 56) none (some (.t 59)) none),oM 0 60]) (.seq (.seq (.region 14 [oM 61 2,oM 62 0,oM 63 1,oM 64 7,oX 65 (.bin .add (.t 63) (.t 64)),oX 66 (.slc 7 (.t 62) (some (.t 65)) none none),oX 67 (.call 121 [(.t 61),(.t 66)]),oX 68 (.not (.t 67))]) (.cond 68 (.seq (.draw 15 (.one true (oM 69 0) (.one true (oM 70 1) (.one true (oM 71 7) (.one true (oX 72 (.bin .add (.t 70) (.t 71))) (.one true (oX 73 (.slc 7 (.t 69) (some (.t 72)) none none)) (.one true (oM 74 0) (.one true (oM 75 1) (.one true (oX 76 (.slc 7 (.t 74) (some (.t 75)) none none)) (.one false (oX 77 (.xop 9 [7] [(.t 73),(.t 76)])) .done)))))))))) (.seq (.region 16 [oM 78 0,oM 79 1,oX 80 (.slc 7 (.t 78) (some (.t 79)) none none),oM 81 2,oX 82 (.xop 9 [7] [(.t 80),(.t 81)])]) (.seq (.region 17 [oM 83 0,oM 6 83]) .ret))) .skip)) (.seq (.region 18 [oM 84 0,oM 85 8,oX 86 (.slc 7 (.t 84) (some (.t 85)) none none),oM 87 2,oX 88 (.xop 9 [7] [(.t 86),(.t 87)])]) (.seq (.region 19 [oM 89 0,oM 90 1,oX 91 (.slc 7 (.t 89) (some (.t 90)) none none),oM 92 7,oX 93 (.call 122 [(.t 91),(.t 92)])]) (.seq (.region 20 [oM 94 0,oM 6 94]) .ret)))))))))))),[(.t 6)],95⟩ := by kernel_rfl
theorem fov_ext (args : Array Value) (w : World) : (callFunc 121 args).run Tryz.prog w = ((Extern.SlicesOverlaps.overlaps #[39,39] #[4] args).run Tryz.prog w).andThen fun v w' => .ok (.value v) w' :=
 run_callFunc_extern Tryz.func121 (by kernel_rfl) (by kernel_rfl) (by kernel_rfl) (e := Extern.SlicesOverlaps.overlaps #[39,39] #[4]) (by kernel_rfl) args w
theorem fins_hf (xs : List (List D)) (i : Nat) (row : List D) (hi : i ≤ xs.length) (hl : xs.length < 1000000) (hrow : row.length = 7) (hxs : ∀ r ∈ xs,r.length = 7) (hT : ∀ r ∈ xs,∀ d ∈ r,isT d = true) (hTr : ∀ d ∈ row,isT d = true) :
  HF Tryz.prog 86 [.own 0,I i,.own 1] [(1,.row 7 [row]),(0,.row 7 xs)] 2 (fun d H' nx' => d = .own 2 ∧ H' = [(2,.row 7 (xs.take i ++ [row] ++ xs.drop i))] ∧ nx' = 3) := by
 refine HF.one (fun _ => rfl) (fun _ => trivial) ?_
 refine HF.of follows_ok fins_code (by simp) (by simp) (by simp) fun B hBN hB0 => acode_sound [0,1,2,6,7,8,9,16,22,31,68] [8,12,17] _ _ _ ?_
 by_cases hin : i = xs.length
 ·subst hin
  have hcap : (xs.length + 1) * 56 ≤ 140737488355328 := by omega
  simp [hcap,hrow]
 have hz : ¬ ((i : Int) = xs.length) := by omega
 have h0 : xs ≠ [] := by
  rintro rfl
  simp at hi hin;omega
 have hlt : i < xs.length := by omega
 have i1 : InR ((xs.length : Int) + 1) := inW (by omega) (by omega)
 have i2 : InR ((xs.length : Int) + 1 - i) := inW (by omega) (by omega)
 have i3 : InR ((i : Int) + 1) := inW (by omega) (by omega)
 have p1 : (0 : Int) ≤ (xs.length : Int) + 1 := by omega
 have p3 : (0 : Int) ≤ (i : Int) + 1 := by omega
 have hnv : ∀ {d : D},isT d = true → d ≠ .any := fun h e => by rw [e] at h;cases h
 simp [hin,hz,hi]
 refine W.openR (t := 0) (id := 0) (sz := 7) (xs := xs) (by simp) (by simp) h0 fun k => ?_
 simp only [eput]
 refine acode_sound [0,1,2,6,7,8,9,16,22,31,68] [] _ _ _ ?_
 have hA : (xs.take i).length = i := by simp;omega
 have hB : (xs.drop i).length = xs.length - i := by simp
 cases k with
 | zero =>
  have c0 : (xs.length : Int) < xs.length + 1 := by omega
  obtain ⟨m,hm⟩ : ∃ m,m = xs.length + 1 - i := ⟨_,rfl⟩
  have hmz : (xs.length : Int) + 1 - i = (m : Nat) := by omega
  have him : i + m = xs.length + 1 := by omega
  have hm1 : 1 ≤ m := by omega
  have i2' : InR (m : Int) := by rw [← hmz];exact i2
  simp [i1]
  refine XCall.cap (id := 0) (sz := 7) (off := 0) (len := xs.length) (cp := xs.length) (by simp) (by simp) ?_
  simp [i1,hmz,i2',c0,hi]
  refine XCall.appmake (id := 0) (off := 0) (len := i) (cp := xs.length) (xs := xs) (n := m) (by simp) (by simp) (by simp) (by simp) (by omega) (by omega) (by omega) (by omega) fun k => ?_
  rw [List.drop_zero,him]
  obtain ⟨W1,hW1⟩ : ∃ W1,W1 = xs.take i ++ List.replicate (m + k) (anyRow 7) := ⟨_,rfl⟩
  have hW2 := ins_a (xs.take i) row i m k 7 hA hm1
  rw [← hW1] at hW2 ⊢
  obtain ⟨W2,hW2'⟩ : ∃ W2,W2 = xs.take i ++ [row] ++ List.replicate (m + k - 1) (anyRow 7) := ⟨_,rfl⟩
  rw [← hW2'] at hW2
  have hW3 := ins_b (xs.take i) (xs.drop i) row i (m + k - 1) 7 hA (by omega)
  rw [← hW2'] at hW3
  have hk3 : m + k - 1 - (xs.drop i).length = k := by omega
  rw [hk3] at hW3
  obtain ⟨W3,hW3'⟩ : ∃ W3,W3 = xs.take i ++ [row] ++ xs.drop i ++ List.replicate k (anyRow 7) := ⟨_,rfl⟩
  rw [← hW3'] at hW3
  have l3 : W3.length = xs.length + 1 + k := by rw [hW3'];simp;omega
  have t3 : W3.take (xs.length + 1) = xs.take i ++ [row] ++ xs.drop i := by rw [hW3'];exact ins_t xs row i k 7 hi
  have hle1 : i ≤ xs.length + 1 := by omega
  have hle2 : i + 1 ≤ xs.length + 1 := by omega
  have hle3 : xs.length + 1 ≤ xs.length + 1 + k := by omega
  simp [hle1,hle3]
  refine XCall.copy (id := 2) (off := i) (len := xs.length + 1 - i) (xs := W1) (ys := [row]) (cp := xs.length + 1 + k - i) (by simp) rfl (by simp) (by simp) (by simp [srcD]) (fun r hr => ?_) (fun r hr d hd => ?_) ?_
  ·rw [List.mem_singleton.1 (List.mem_of_mem_take hr)];exact hrow
  ·rw [List.mem_singleton.1 (List.mem_of_mem_take hr)] at hd;exact hnv (hTr d hd)
  rw [← hm,hW2]
  simp [i3,hle2,hle3,hi,p3]
  have hdt0 : (xs.drop i).take (xs.length - i) = xs.drop i := List.take_of_length_le (by simp)
  refine XCall.copy (id := 2) (off := i + 1) (len := xs.length + 1 - (i + 1)) (xs := W2) (ys := xs.drop i) (cp := xs.length + 1 + k - (i + 1)) (by simp) rfl (by simp) (by simp) (by simp [srcD,hdt0]) (fun r hr => ?_) (fun r hr d hd => ?_) ?_
  ·exact hxs r (List.mem_of_mem_drop (List.mem_of_mem_take hr))
  ·exact hnv (hT r (List.mem_of_mem_drop (List.mem_of_mem_take hr)) d hd)
  have hdt : (xs.drop i).take (xs.length + 1 - (i + 1)) = xs.drop i := List.take_of_length_le (by simp)
  rw [hdt,hW3]
  simp
  refine W.gh (Gh.closeR (t := 9) (id := 2) (sz := 7) (len := xs.length + 1) (xs := W3) (by simp [l3]) (by simp) (by rw [t3];exact ins_mem hT hTr)) ?_
  rw [t3]
  simp only [eput,herase]
  refine acode_sound [0,1,2,6,7,8,9,16,22,31,68] [] _ _ _ ?_
  simp
 | succ k =>
  have c0 : ¬ ((k : Int) + 1 < 1) := by omega
  have c1 : xs.length + 1 ≤ xs.length + (k + 1) := by omega
  have hle1 : i ≤ xs.length + 1 := by omega
  have hle2 : i + 1 ≤ xs.length + 1 := by omega
  simp [i1]
  refine XCall.cap (id := 0) (sz := 7) (off := 0) (len := xs.length) (cp := xs.length + (k + 1)) (by simp) (by simp) ?_
  simp [i1,i3,c0,c1,hle1,hle2,p1,p3]
  obtain ⟨U,hU⟩ : ∃ U,U = xs ++ List.replicate (k + 1) (anyRow 7) := ⟨_,rfl⟩
  have hC := ins_c xs i k 7 hlt
  have hD := ins_d xs i k 7 hlt
  rw [← hU] at hC hD
  obtain ⟨V,hV⟩ : ∃ V,V = xs.take (i + 1) ++ xs.drop i ++ List.replicate k (anyRow 7) := ⟨_,rfl⟩
  have hE := ins_e xs row i k 7 (xs.length + 1 - i) hlt (by omega)
  rw [← hV] at hD hE
  obtain ⟨W3,hW3'⟩ : ∃ W3,W3 = xs.take i ++ [row] ++ xs.drop i ++ List.replicate k (anyRow 7) := ⟨_,rfl⟩
  rw [← hW3'] at hE
  have l3 : W3.length = xs.length + (k + 1) := by rw [hW3'];simp;omega
  have t3 : W3.take (xs.length + 1) = xs.take i ++ [row] ++ xs.drop i := by rw [hW3'];exact ins_t xs row i k 7 hi
  rw [← hU]
  refine WCall.overlaps (sz := 7) (off := i + 1) (len := xs.length + 1 - (i + 1)) (cp := xs.length + (k + 1) - (i + 1)) (id1 := 1) (sz1 := 7) (id := 0) (zs := [row]) (xs := U) (fov_ext) Tryz.underlying39 (by kernel_rfl) (by simp) (by simp) (by simp) (by simp) (by simp) (by simp) (by omega) ?_
  simp [i3,p3,hle1,hle2]
  refine XCall.copy (id := 0) (off := i + 1) (len := xs.length + 1 - (i + 1)) (xs := U) (ys := (U.drop i).take (xs.length + 1 - i)) (cp := xs.length + (k + 1) - (i + 1)) (by simp) rfl (by simp) (by simp) (by simp [srcD]) (fun r hr => ?_) (fun r hr d hd => ?_) ?_
  ·rw [show xs.length + 1 - (i + 1) = xs.length - i by omega,hC] at hr
   exact hxs r (List.mem_of_mem_drop hr)
  ·rw [show xs.length + 1 - (i + 1) = xs.length - i by omega,hC] at hr
   exact hnv (hT r (List.mem_of_mem_drop hr) d hd)
  rw [show xs.length + 1 - (i + 1) = xs.length - i by omega,hC,hD]
  simp [i3,p3,hle1,hle2]
  refine XCall.copy (id := 0) (off := i) (len := xs.length + 1 - i) (xs := V) (ys := [row]) (cp := xs.length + (k + 1) - i) (by simp) rfl (by simp) (by simp) (by simp [srcD]) (fun r hr => ?_) (fun r hr d hd => ?_) ?_
  ·rw [List.mem_singleton.1 (List.mem_of_mem_take hr)];exact hrow
  ·rw [List.mem_singleton.1 (List.mem_of_mem_take hr)] at hd;exact hnv (hTr d hd)
  rw [hE]
  simp
  refine W.gh (Gh.closeR (t := 0) (id := 0) (sz := 7) (len := xs.length + 1) (xs := W3) (by simp [l3]) (by simp) (by rw [t3];exact ins_mem hT hTr)) ?_
  rw [t3]
  simp only [eput,herase]
  refine acode_sound [0,1,2,6,7,8,9,16,22,31,68] [] _ _ _ ?_
  simp
theorem del_a (xs : List (List D)) (i k z : Nat) (hi : i < xs.length) : ((xs ++ List.replicate k (anyRow z)).drop (i + 1)).take (xs.length - (i + 1)) = xs.drop (i + 1) := by
 rw [List.drop_append_of_le_length (by omega),List.take_append_of_le_length (by simp),List.take_of_length_le (by simp)]
theorem del_b (xs : List (List D)) (i k z : Nat) (hi : i < xs.length) : ∃ r,r.length = k + 1 ∧
  (xs ++ List.replicate k (anyRow z)).take i ++ xs.drop (i + 1) ++ (xs ++ List.replicate k (anyRow z)).drop (i + (xs.drop (i + 1)).length) = xs.take i ++ xs.drop (i + 1) ++ r := by
 refine ⟨(xs ++ List.replicate k (anyRow z)).drop (i + (xs.drop (i + 1)).length),by simp;omega,?_⟩
 rw [List.take_append_of_le_length (by omega)]
theorem del_c (A r : List (List D)) (n m z : Nat) (hA : A.length = n) : (A ++ r).take n ++ List.replicate m (anyRow z) ++ (A ++ r).drop (n + (List.replicate m (anyRow z)).length) = A ++ (List.replicate m (anyRow z) ++ r.drop m) := by
 subst hA
 rw [List.take_left,List.drop_append]
 have h : A.drop (A.length + (List.replicate m (anyRow z)).length) = [] := List.drop_eq_nil_of_le (by simp)
 rw [h]
 simp
theorem tdel_code : cfun Tryz.prog [] 108 = some ⟨(.seq (.region 0 [oX 6 (.mov (.k .nil0))]) (.seq (.region 1 [oM 8 0,oM 9 1,oM 10 2,oM 11 0,oH 12 11,oX 13 (.slc 2 (.t 8) (some (.t 9)) (some (.t 10)) (some (.t 12)))]) (.seq (.seq (.region 2 [oM 14 1,oM 15 2,oX 16 (.bin .eql (.t 14) (.t 15))]) (.cond 16 (.seq (.region 3 [oM 17 0,oM 6 17]) .ret) .skip)) (.seq (.region 4 [oM 18 0,oH 19 18,oM 7 19]) (.seq (.draw 5 (.one true (oM 20 0) (.one true (oM 21 1) (.one true (oX 22 (.slc 2 (.t 20) none (some (.t 21)) none)) (.one true (oM 23 0) (.one true (oM 24 2) (.one true (oX 25 (.slc 2 (.t 23) (some (.t 24)) none none)) (.one false (oX 26 (.app 2 16 [(.int .i64 0),(.int .i64 0)] (.t 22) (.t 25))) (.one true (oM 0 26) .done))))))))) (.seq (.region 6 [oM 27 0,oM 28 0,oH 29 28,oM 30 7,oX 31 (.slc 2 (.t 27) (some (.t 29)) (some (.t 30)) none),oY (.xop 10 [2] [(.t 31)])]) (.seq (.region 7 [oM 32 0,oM 6 32]) .ret))))))),[(.t 6)],33⟩ := by kernel_rfl
theorem tdel_hf (xs : List (List D)) (i : Nat) (hi : i < xs.length) (hl : xs.length < 1000000) (hxs : ∀ r ∈ xs,r.length = 2) (hT : ∀ r ∈ xs,∀ d ∈ r,isT d = true) :
  HF Tryz.prog 108 [.own 0,I i,I ((i : Int) + 1)] [(0,.row 2 xs)] 1 (fun d H' nx' => d = .own 1 ∧ H' = [(1,.row 2 (xs.take i ++ xs.drop (i + 1)))] ∧ nx' = 2) := by
 refine HF.one (fun _ => rfl) (fun _ => trivial) ?_
 refine HF.of follows_ok tdel_code (by simp) (by simp) (by simp) fun B hBN hB0 => acode_sound [0,1,2,6,7,16] [5,7] _ _ _ ?_
 have hz : ¬ ((i : Int) = i + 1) := by omega
 have h0 : xs ≠ [] := by
  rintro rfl
  simp at hi
 have p3 : (0 : Int) ≤ (i : Int) + 1 := by omega
 have hle : i + 1 ≤ xs.length := by omega
 have hle0 : i ≤ xs.length := by omega
 have hnv : ∀ {d : D},isT d = true → d ≠ .any := fun h e => by rw [e] at h;cases h
 simp [hz,hle,p3]
 refine W.openR (t := 0) (id := 0) (sz := 2) (xs := xs) (by simp) (by simp) h0 fun k => ?_
 simp only [eput]
 refine acode_sound [0,1,2,6,7,16] [] _ _ _ ?_
 obtain ⟨U,hU⟩ : ∃ U,U = xs ++ List.replicate k (anyRow 2) := ⟨_,rfl⟩
 have hA := del_a xs i k 2 hi
 obtain ⟨r,hr,hB⟩ := del_b xs i k 2 hi
 rw [← hU] at hA hB ⊢
 obtain ⟨V,hV⟩ : ∃ V,V = xs.take i ++ xs.drop (i + 1) := ⟨_,rfl⟩
 have hVl : V.length = xs.length - 1 := by rw [hV];simp;omega
 rw [← hV] at hB ⊢
 have hdl : (xs.drop (i + 1)).length = xs.length - (i + 1) := by simp
 have hle2 : i ≤ xs.length + k := by omega
 simp [p3,hle,hle2,hle0]
 refine WCall.appSl (id := 0) (off := 0) (len := i) (cp := xs.length + k) (xs := U) (ys := (U.drop (i + 1)).take (xs.length - (i + 1))) (by simp) rfl (by simp) (by simp) (by simp [srcD]) (by rw [hA,hdl];omega) (fun r hr => ?_) (fun r hr d hd => ?_) ?_
 ·rw [hA] at hr
  exact hxs r (List.mem_of_mem_drop hr)
 ·rw [hA] at hr
  exact hnv (hT r (List.mem_of_mem_drop hr) d hd)
 rw [hA,Nat.zero_add,hB,hdl,show i + (xs.length - (i + 1)) = xs.length - 1 by omega]
 have c1 : xs.length - 1 ≤ xs.length := by omega
 have c2 : xs.length ≤ xs.length + k := by omega
 simp [c1,c2]
 have hC := del_c V r (xs.length - 1) (xs.length - (xs.length - 1)) 2 hVl
 refine XCall.clear (id := 0) (sz := 2) (off := xs.length - 1) (len := xs.length - (xs.length - 1)) (cp := xs.length + k - (xs.length - 1)) (xs := V ++ r) (by simp) rfl (by simp) (by simp) ?_
 rw [hC]
 obtain ⟨W3,hW3⟩ : ∃ W3,W3 = V ++ (List.replicate (xs.length - (xs.length - 1)) (anyRow 2) ++ r.drop (xs.length - (xs.length - 1))) := ⟨_,rfl⟩
 have l3 : W3.length = xs.length + k := by rw [hW3];simp;omega
 have t3 : W3.take (xs.length - 1) = V := by rw [hW3,← hVl,List.take_left]
 rw [← hW3]
 simp
 refine W.gh (Gh.closeR (t := 0) (id := 0) (sz := 2) (len := xs.length - 1) (xs := W3) (by simp [l3]) (by simp) ?_) ?_
 ·rw [t3,hV]
  intro r hr
  rcases List.mem_append.1 hr with hr | hr
  ·exact hT r (List.mem_of_mem_take hr)
  ·exact hT r (List.mem_of_mem_drop hr)
 rw [t3]
 simp only [eput,herase]
 refine acode_sound [0,1,2,6,7,16] [] _ _ _ ?_
 simp
theorem fdel_code : cfun Tryz.prog [] 139 = some ⟨(.seq (.region 0 [oX 6 (.mov (.k .nil0))]) (.seq (.region 1 [oM 8 0,oM 9 1,oM 10 2,oM 11 0,oH 12 11,oX 13 (.slc 7 (.t 8) (some (.t 9)) (some (.t 10)) (some (.t 12)))]) (.seq (.seq (.region 2 [oM 14 1,oM 15 2,oX 16 (.bin .eql (.t 14) (.t 15))]) (.cond 16 (.seq (.region 3 [oM 17 0,oM 6 17]) .ret) .skip)) (.seq (.region 4 [oM 18 0,oH 19 18,oM 7 19]) (.seq (.draw 5 (.one true (oM 20 0) (.one true (oM 21 1) (.one true (oX 22 (.slc 7 (.t 20) none (some (.t 21)) none)) (.one true (oM 23 0) (.one true (oM 24 2) (.one true (oX 25 (.slc 7 (.t 23) (some (.t 24)) none none)) (.one false (oX 26 (.app 7 56 [(.int .i64 0),(.int .i64 0),(.int .i64 0),(.int .i64 0),(.bool false),(.int .i64 0),(.int .i64 0)] (.t 22) (.t 25))) (.one true (oM 0 26) .done))))))))) (.seq (.region 6 [oM 27 0,oM 28 0,oH 29 28,oM 30 7,oX 31 (.slc 7 (.t 27) (some (.t 29)) (some (.t 30)) none),oY (.xop 10 [7] [(.t 31)])]) (.seq (.region 7 [oM 32 0,oM 6 32]) .ret))))))),[(.t 6)],33⟩ := by kernel_rfl
theorem fdel_hf (xs : List (List D)) (i : Nat) (hi : i < xs.length) (hl : xs.length < 1000000) (hxs : ∀ r ∈ xs,r.length = 7) (hT : ∀ r ∈ xs,∀ d ∈ r,isT d = true) :
  HF Tryz.prog 139 [.own 0,I i,I ((i : Int) + 1)] [(0,.row 7 xs)] 1 (fun d H' nx' => d = .own 1 ∧ H' = [(1,.row 7 (xs.take i ++ xs.drop (i + 1)))] ∧ nx' = 2) := by
 refine HF.one (fun _ => rfl) (fun _ => trivial) ?_
 refine HF.of follows_ok fdel_code (by simp) (by simp) (by simp) fun B hBN hB0 => acode_sound [0,1,2,6,7,16] [5,7] _ _ _ ?_
 have hz : ¬ ((i : Int) = i + 1) := by omega
 have h0 : xs ≠ [] := by
  rintro rfl
  simp at hi
 have p3 : (0 : Int) ≤ (i : Int) + 1 := by omega
 have hle : i + 1 ≤ xs.length := by omega
 have hle0 : i ≤ xs.length := by omega
 have hnv : ∀ {d : D},isT d = true → d ≠ .any := fun h e => by rw [e] at h;cases h
 simp [hz,hle,p3]
 refine W.openR (t := 0) (id := 0) (sz := 7) (xs := xs) (by simp) (by simp) h0 fun k => ?_
 simp only [eput]
 refine acode_sound [0,1,2,6,7,16] [] _ _ _ ?_
 obtain ⟨U,hU⟩ : ∃ U,U = xs ++ List.replicate k (anyRow 7) := ⟨_,rfl⟩
 have hA := del_a xs i k 7 hi
 obtain ⟨r,hr,hB⟩ := del_b xs i k 7 hi
 rw [← hU] at hA hB ⊢
 obtain ⟨V,hV⟩ : ∃ V,V = xs.take i ++ xs.drop (i + 1) := ⟨_,rfl⟩
 have hVl : V.length = xs.length - 1 := by rw [hV];simp;omega
 rw [← hV] at hB ⊢
 have hdl : (xs.drop (i + 1)).length = xs.length - (i + 1) := by simp
 have hle2 : i ≤ xs.length + k := by omega
 simp [p3,hle,hle2,hle0]
 refine WCall.appSl (id := 0) (off := 0) (len := i) (cp := xs.length + k) (xs := U) (ys := (U.drop (i + 1)).take (xs.length - (i + 1))) (by simp) rfl (by simp) (by simp) (by simp [srcD]) (by rw [hA,hdl];omega) (fun r hr => ?_) (fun r hr d hd => ?_) ?_
 ·rw [hA] at hr
  exact hxs r (List.mem_of_mem_drop hr)
 ·rw [hA] at hr
  exact hnv (hT r (List.mem_of_mem_drop hr) d hd)
 rw [hA,Nat.zero_add,hB,hdl,show i + (xs.length - (i + 1)) = xs.length - 1 by omega]
 have c1 : xs.length - 1 ≤ xs.length := by omega
 have c2 : xs.length ≤ xs.length + k := by omega
 simp [c1,c2]
 have hC := del_c V r (xs.length - 1) (xs.length - (xs.length - 1)) 7 hVl
 refine XCall.clear (id := 0) (sz := 7) (off := xs.length - 1) (len := xs.length - (xs.length - 1)) (cp := xs.length + k - (xs.length - 1)) (xs := V ++ r) (by simp) rfl (by simp) (by simp) ?_
 rw [hC]
 obtain ⟨W3,hW3⟩ : ∃ W3,W3 = V ++ (List.replicate (xs.length - (xs.length - 1)) (anyRow 7) ++ r.drop (xs.length - (xs.length - 1))) := ⟨_,rfl⟩
 have l3 : W3.length = xs.length + k := by rw [hW3];simp;omega
 have t3 : W3.take (xs.length - 1) = V := by rw [hW3,← hVl,List.take_left]
 rw [← hW3]
 simp
 refine W.gh (Gh.closeR (t := 0) (id := 0) (sz := 7) (len := xs.length - 1) (xs := W3) (by simp [l3]) (by simp) ?_) ?_
 ·rw [t3,hV]
  intro r hr
  rcases List.mem_append.1 hr with hr | hr
  ·exact hT r (List.mem_of_mem_take hr)
  ·exact hT r (List.mem_of_mem_drop hr)
 rw [t3]
 simp only [eput,herase]
 refine acode_sound [0,1,2,6,7,16] [] _ _ _ ?_
 simp
end Go.Proofs.YtibemmkfcjlmpaaGreat
namespace Go.Proofs.YtibemmkfcjlmpaaGreat
def idxZ {α : Type} (q : α → Bool) : List α → Int
 | [] => -1
 | x :: l => if q x then 0 else if idxZ q l < 0 then -1 else idxZ q l + 1
theorem idxZ_lo {α : Type} (q : α → Bool) : ∀ l : List α,-1 ≤ idxZ q l ∧ idxZ q l < l.length
 | [] => by simp [idxZ]
 | x :: l => by
  have := idxZ_lo q l
  simp only [idxZ,List.length_cons]
  split
  ·omega
  ·split <;> omega
theorem idxZ_at {α : Type} (q : α → Bool) : ∀ (l : List α) (i : Nat) (h : i < l.length),(∀ j (hj : j < i),q l[j] = false) → q l[i] = true → idxZ q l = i
 | [],i,h,_,_ => by simp at h
 | x :: l,0,h,_,hq => by
  simp only [List.getElem_cons_zero] at hq
  simp [idxZ,hq]
 | x :: l,i + 1,h,hb,hq => by
  have h0 := hb 0 (by omega)
  simp only [List.getElem_cons_zero] at h0
  have ih := idxZ_at q l i (by simpa using h) (fun j hj => by simpa using hb (j + 1) (by omega)) (by simpa using hq)
  simp only [idxZ,h0,Bool.false_eq_true,if_false,ih]
  rw [if_neg (by omega)];omega
theorem idxZ_none {α : Type} (q : α → Bool) : ∀ (l : List α),(∀ x ∈ l,q x = false) → idxZ q l = -1
 | [],_ => rfl
 | x :: l,h => by simp [idxZ,h x (by simp),idxZ_none q l fun y hy => h y (List.mem_cons_of_mem _ hy)]
theorem idxZ_some {α : Type} (q : α → Bool) : ∀ (l : List α),(∃ x ∈ l,q x = true) → 0 ≤ idxZ q l
 | [],h => by simp at h
 | x :: l,h => by
  simp only [idxZ]
  split
  ·omega
  ·rename_i hx
   have : 0 ≤ idxZ q l := idxZ_some q l (by
    obtain ⟨y,hy,hq⟩ := h
    rcases List.mem_cons.1 hy with rfl | hy
    ·exact absurd hq hx
    ·exact ⟨y,hy,hq⟩)
   rw [if_neg (by omega)];omega
theorem idxZ_get {α : Type} (q : α → Bool) : ∀ (l : List α) (h : 0 ≤ idxZ q l),∃ (h2 : (idxZ q l).toNat < l.length),q l[(idxZ q l).toNat] = true ∧ ∀ j (hj : j < (idxZ q l).toNat),q (l[j]'(by omega)) = false := fun l h => by
 by_cases hx : ∃ x ∈ l,q x = true
 ·obtain ⟨i,hi,hq,hb⟩ : ∃ (i : Nat) (hi : i < l.length),q l[i] = true ∧ ∀ j (hj : j < i),q (l[j]'(by omega)) = false := by
   obtain ⟨x,hx,hq⟩ := hx
   have h1 : l.findIdx q < l.length := List.findIdx_lt_length_of_exists ⟨x,hx,hq⟩
   exact ⟨l.findIdx q,h1,List.findIdx_getElem (w := h1),fun j hj => by simpa using List.not_of_lt_findIdx hj⟩
  have e := idxZ_at q l i hi hb hq
  have e2 : (idxZ q l).toNat = i := by omega
  refine ⟨by omega,?_,fun j hj => hb j (by omega)⟩
  simp only [e2];exact hq
 ·have := idxZ_none q l fun x hm => by
   cases hqx : q x with
   | true => exact absurd ⟨x,hm,hqx⟩ hx
   | false => rfl
  omega
end Go.Proofs.YtibemmkfcjlmpaaGreat
namespace Go.Proofs.YtibemmkfcjlmpaaGreat
open Go.RowKit
attribute [local simp] AK_at acode_seq acode_region acode_draw acode_cond CB_u acode_block acode_loop acode_exit acode_scope acode_ret acode_skip seqQ_n seqQ_e seqQ_r blockQ_n blockQ_e blockQ_r TK_at OK_at SK_at aops_nil aops_cons asch_done asch_one asch_two asch_top astep aop_eq isLoud aloud aloud1 isWrite qv evS strip gof eget hget putO eput herase oks opnds gS afin afin0 binD arith D.cells takeD fillD keep trim envOf Fin aresl aresv resD argOk pickV isP deq deqs boundD slD lenD isT isSl ptrIds chunks mn_min mx_max splice_one splice_more Rbr_at Rfr_at frR frV frC flatC brwR brwV brwC omap leR leV leC leL leVL rnR rnV rnC rnO rho_0 hputs herases rnS LtS LtR LtV LtC LtO lget noV noC flatR flatV rho
attribute [local simp ↓] CB_t CB_f
theorem brw_T (H : List (Nat × Ob)) (n : Nat) : ∀ ds : List D,(∀ d ∈ ds,isT d = true) → omap (brwC H n) ds = some ds
 | [],_ => rfl
 | d :: ds,h => by
  have h1 : brwC H n d = some d := by
   have := h d (by simp)
   cases d <;> first | (cases this;done) | (cases n <;> rfl)
  simp only [omap,h1,brw_T H n ds fun x hx => h x (List.mem_cons_of_mem _ hx)]
theorem splice_all (zs es : List D) (h : zs.length = es.length) : splice zs 0 es = es := by
 unfold splice
 rw [List.take_zero,List.nil_append,Nat.zero_add,List.drop_eq_nil_of_le (by omega),List.append_nil]
def Els {α : Type} (n : Nat) (E : α → List D) (l : List α) : Prop := ∀ x ∈ l,(E x).length = n ∧ ∀ d ∈ E x,isT d = true
theorem Els.len {α : Type} {n : Nat} {E : α → List D} {l : List α} (h : Els n E l) {x : α} (hx : x ∈ l) : (E x).length = n := (h x hx).1
theorem Els.rows {α : Type} {n : Nat} {E : α → List D} {l : List α} (h : Els n E l) : ∀ r ∈ l.map E,r.length = n := fun r hr => by
 obtain ⟨x,hx,rfl⟩ := List.mem_map.1 hr
 exact (h x hx).1
theorem Els.isT {α : Type} {n : Nat} {E : α → List D} {l : List α} (h : Els n E l) : ∀ r ∈ l.map E,∀ d ∈ r,Go.Proofs.YtibemmkfcjlmpaaGreat.isT d = true := fun r hr => by
 obtain ⟨x,hx,rfl⟩ := List.mem_map.1 hr
 exact (h x hx).2
def lowB {α : Type} (p : α → Bool) (l : List α) : Nat := (l.takeWhile p).length
theorem lowB_at {α : Type} (p : α → Bool) : ∀ (l : List α) (i : Nat),i ≤ l.length → (∀ j (hj : j < l.length),j < i → p l[j] = true) → (∀ (hi : i < l.length),p l[i] = false) → lowB p l = i
 | [],i,h,_,_ => by simp at h;subst h;rfl
 | x :: l,0,_,_,h2 => by
  have := h2 (by simp)
  simp only [List.getElem_cons_zero] at this
  simp [lowB,List.takeWhile_cons,this]
 | x :: l,i + 1,h,h1,h2 => by
  have h0 := h1 0 (by simp) (by omega)
  simp only [List.getElem_cons_zero] at h0
  have ih := lowB_at p l i (by simpa using h) (fun j hj hji => by have := h1 (j + 1) (by simpa using hj) (by omega);rwa [List.getElem_cons_succ] at this) (fun hi => by have := h2 (by simpa using hi);rwa [List.getElem_cons_succ] at this)
  unfold lowB at ih ⊢
  rw [List.takeWhile_cons,if_pos h0,List.length_cons,ih]
theorem lowB_cons {α : Type} (p : α → Bool) (x : α) (l : List α) : lowB p (x :: l) = if p x then lowB p l + 1 else 0 := by
 unfold lowB
 rw [List.takeWhile_cons]
 split <;> simp
theorem lowB_lt {α : Type} (p : α → Bool) : ∀ (l : List α) (j : Nat) (h : j < l.length),j < lowB p l → p l[j] = true
 | [],j,h,_ => by simp at h
 | x :: l,0,h,hj => by
  rw [lowB_cons] at hj
  split at hj
  ·assumption
  ·omega
 | x :: l,j + 1,h,hj => by
  rw [lowB_cons] at hj
  split at hj
  ·simpa using lowB_lt p l j (by simpa using h) (by omega)
  ·omega
theorem lowB_ge {α : Type} (p : α → Bool) : ∀ (l : List α) (h : lowB p l < l.length),p (l[lowB p l]'h) = false
 | [],h => by simp [lowB] at h
 | x :: l,h => by
  cases hp : p x with
  | false =>
   have e : lowB p (x :: l) = 0 := by rw [lowB_cons,hp];rfl
   simp only [e]
   exact hp
  | true =>
   have e : lowB p (x :: l) = lowB p l + 1 := by rw [lowB_cons,hp];rfl
   have h' : lowB p l < l.length := by rw [e] at h;simpa using h
   simp only [e]
   exact lowB_ge p l h'
theorem lowB_le {α : Type} (p : α → Bool) (l : List α) : lowB p l ≤ l.length := (List.takeWhile_sublist p).length_le
theorem ixf_gen1 (z : Nat) (f : FuncId) (hc : cfun Tryz.prog [] f = some ⟨(.seq (.region 0 [⟨(some 4),(.mov (.k (.int .i64 0))),none⟩]) (.seq (.seq (.region 1 [⟨(some 6),(.mov (.t 0)),none⟩,⟨(some 7),(.len (.t 6)),none⟩,⟨(some 8),(.mov (.k (.int .i64 0))),none⟩]) (.block 0 (.loop (.seq (.region 2 [⟨(some 9),(.bin .lss (.t 8) (.t 7)),none⟩]) (.seq (.cond 9 .skip (.exit 0)) (.seq (.block 1 (.seq (.region 3 [⟨(some 10),(.mov (.t 8)),none⟩,⟨(some 5),(.mov (.t 10)),none⟩]) (.seq (.region 4 [⟨(some 11),(.mov (.t 1)),none⟩,⟨(some 12),(.mov (.t 0)),none⟩,⟨(some 13),(.mov (.t 5)),none⟩,⟨(some 14),(.iads z (.t 12) (.t 13)),none⟩,⟨(some 15),(.load true z (.t 14)),none⟩,⟨(some 16),(.callv (.t 11) [(.t 15)]),none⟩]) (.cond 16 (.seq (.region 5 [⟨(some 17),(.mov (.t 5)),none⟩,⟨(some 4),(.mov (.t 17)),none⟩]) .ret) .skip)))) (.region 6 [⟨(some 18),(.bin .add (.t 8) (.k (.int .i64 1))),none⟩,⟨(some 8),(.mov (.t 18)),none⟩]))))))) (.seq (.region 7 [⟨(some 4),(.mov (.k (.int .i64 (-1)))),none⟩]) .ret))),[(.t 4)],19⟩) {α : Type} (E : α → List D) (l : List α) (F : FuncId) (ds : List D) (q : α → Bool) (hl : l.length ≤ 1000000) (hE : Els z E l) (hF : ∀ s ∈ l,PF Tryz.prog F [.agg (E s),.pc ds] (.bool (q s))) : PF Tryz.prog f [.rows z (l.map E),.fn F [.pc ds]] (I (idxZ q l)) := by
 refine PF.of follows_ok hc (by simp) (by simp) (by simp) fun B hBN hB0 => acode_sound [0,1,4,5,7,8,9,16] [] _ _ _ ?_
 simp
 refine W.loopS (fun i : Nat => ⟨[(8,I i),(7,I l.length),(4,I 0),(1,.fn F [.pc ds]),(0,D.rows z (l.map E))],[],0⟩)
  (fun n i => n = l.length - i ∧ i ≤ l.length ∧ ∀ j (hj : j < l.length),j < i → q l[j] = false) ?_ ?_
 ·exact ⟨_,0,(gr0 [] hB0 (by simp) (by simp) (.inr rfl)),rfl,by omega,fun j _ h => by omega⟩
 rintro n i ⟨hn,hi,hb⟩
 refine acode_sound [0,1,4,5,7,8,9,16] [] _ _ _ ?_
 by_cases hlt : i < l.length
 ·have hm : l[i] ∈ l := List.getElem_mem hlt
  have hE0 := hE _ hm
  have hFo := hF _ hm
  obtain ⟨o,ho⟩ : ∃ o,o = l[i] := ⟨_,rfl⟩
  rw [← ho] at hE0 hFo
  obtain ⟨h1,h2⟩ := hE0
  have h3 : (E o).take z = E o := List.take_of_length_le (by omega)
  have h4 := fun H n => brw_T H n (E o) h2
  have ii : InR ((i : Int) + 1) := inW (by omega) (by omega)
  simp [hlt,← ho,h1,h3]
  cases hq : q o with
  | true =>
   have hz := idxZ_at q l i hlt (fun j hj => hb j (by omega) hj) (by rw [← ho];exact hq)
   repeat' (first
    | simp [hq,hz,h4,leL_refl]
    | refine ⟨wcS ?_,?_⟩
    | (refine WCall.pfv (hFo) ?_ rfl ?_ ?_ ?_;iterate 3 (solve|simp [hq,hz,h4,leL_refl]))
    | with_reducible refine aI ?_ ?_ ?_)
  | false =>
   repeat' (first
    | simp [hq,ii,h4,leL_refl]
    | refine ⟨wcS ?_,?_⟩
    | (refine WCall.pfv (hFo) ?_ rfl ?_ ?_ ?_;iterate 3 (solve|simp [hq,ii,h4,leL_refl]))
    | with_reducible refine aI ?_ ?_ ?_)
   exact ⟨_,i + 1,(gr0 [] hB0 (by simp) (by simp) (.inr rfl)),by omega,rfl,by omega,fun j hj h => by
    by_cases hji : j = i
    ·subst hji;rw [← ho];exact hq
    ·exact hb j hj (by omega)⟩
 ·have hz := idxZ_none q l fun x hx => by
   obtain ⟨j,hj⟩ := List.getElem?_of_mem hx
   obtain ⟨hj2,rfl⟩ := List.getElem?_eq_some_iff.1 hj
   exact hb j hj2 (by omega)
  have hie : i = l.length := by omega
  subst hie
  simp [hz]
theorem rqixf1_pf {α : Type} (E : α → List D) (l : List α) (F : FuncId) (ds : List D) (q : α → Bool) (hl : l.length ≤ 1000000) (hE : Els 5 E l) (hF : ∀ s ∈ l,PF Tryz.prog F [.agg (E s),.pc ds] (.bool (q s))) : PF Tryz.prog 124 [.rows 5 (l.map E),.fn F [.pc ds]] (I (idxZ q l)) :=
 ixf_gen1 5 _ (by kernel_rfl) E l F ds q hl hE hF
theorem rqcln_code : cfun Tryz.prog [] 76 = some ⟨(.seq (.region 0 [oX 2 (.mov (.k .nil0))]) (.seq (.seq (.region 1 [oM 3 0,oX 4 (.isnil false (.t 3))]) (.cond 4 (.seq (.region 2 [oX 2 (.mov (.k .nil0))]) .ret) .skip)) (.seq (.region 3 [oX 5 (.bslice 5 0 [(.int .i64 0),(.int .i64 0),(.int .i64 0),(.int .i64 0),(.int .i64 0)] []),oM 6 0,oX 7 (.app 5 40 [(.int .i64 0),(.int .i64 0),(.int .i64 0),(.int .i64 0),(.int .i64 0)] (.t 5) (.t 6)),oM 2 7]) .ret))),[(.t 2)],8⟩ := by kernel_rfl
theorem rqcln_hf {α : Type} (E : α → List D) (l : List α) (hl : l.length < 1000000) (hE : Els 5 E l) : HF Tryz.prog 76 [.rows 5 (l.map E)] [] 0 (fun d H' nx' => (d = .nil0 ∧ l = [] ∧ H' = [] ∧ nx' = 0) ∨ (d = .own 1 ∧ H' = [(1,.row 5 (l.map E))] ∧ nx' = 2)) := by
 have h2 : l.length * 40 ≤ 140737488355328 := by omega
 have h3 := hE.rows
 refine HF.of follows_ok rqcln_code (by simp) (by simp) (by simp) fun B hBN hB0 => acode_sound [0,2,4] [] _ _ _ ?_
 simp [h2]
 exact fun a ha => hE.len ha
theorem rqcln_pfn {α : Type} (E : α → List D) (l : List α) (hl : l.length < 1000000) (hE : Els 5 E l) (hfl : ∀ x ∈ l,∀ d ∈ E x,flatC d = true) : PFn Tryz.prog 76 [.rows 5 (l.map E)] (.rows 5 (l.map E)) := by
 have h2 : l.length * 40 ≤ 140737488355328 := by omega
 refine PFn.of follows_ok rqcln_code (by simp) (by simp) (by simp) fun B hBN hB0 => acode_sound [0,2,4] [] _ _ _ ?_
 simp [h2]
 exact ⟨fun a ha => hE.len ha,fun a ha d hd => hfl a ha d hd⟩
theorem liixf1_pf {α : Type} (E : α → List D) (l : List α) (F : FuncId) (ds : List D) (q : α → Bool) (hl : l.length ≤ 1000000) (hE : Els 6 E l) (hF : ∀ s ∈ l,PF Tryz.prog F [.agg (E s),.pc ds] (.bool (q s))) : PF Tryz.prog 165 [.rows 6 (l.map E),.fn F [.pc ds]] (I (idxZ q l)) :=
 ixf_gen1 6 _ (by kernel_rfl) E l F ds q hl hE hF
theorem licln_code : cfun Tryz.prog [] 75 = some ⟨(.seq (.region 0 [oX 2 (.mov (.k .nil0))]) (.seq (.seq (.region 1 [oM 3 0,oX 4 (.isnil false (.t 3))]) (.cond 4 (.seq (.region 2 [oX 2 (.mov (.k .nil0))]) .ret) .skip)) (.seq (.region 3 [oX 5 (.bslice 6 0 [(.int .i64 0),(.int .i64 0),(.int .i64 0),(.int .i64 0),(.int .i64 0),(.int .i64 0)] []),oM 6 0,oX 7 (.app 6 48 [(.int .i64 0),(.int .i64 0),(.int .i64 0),(.int .i64 0),(.int .i64 0),(.int .i64 0)] (.t 5) (.t 6)),oM 2 7]) .ret))),[(.t 2)],8⟩ := by kernel_rfl
theorem licln_hf {α : Type} (E : α → List D) (l : List α) (hl : l.length < 1000000) (hE : Els 6 E l) : HF Tryz.prog 75 [.rows 6 (l.map E)] [] 0 (fun d H' nx' => (d = .nil0 ∧ l = [] ∧ H' = [] ∧ nx' = 0) ∨ (d = .own 1 ∧ H' = [(1,.row 6 (l.map E))] ∧ nx' = 2)) := by
 have h2 : l.length * 48 ≤ 140737488355328 := by omega
 have h3 := hE.rows
 refine HF.of follows_ok licln_code (by simp) (by simp) (by simp) fun B hBN hB0 => acode_sound [0,2,4] [] _ _ _ ?_
 simp [h2]
 exact fun a ha => hE.len ha
theorem licln_pfn {α : Type} (E : α → List D) (l : List α) (hl : l.length < 1000000) (hE : Els 6 E l) (hfl : ∀ x ∈ l,∀ d ∈ E x,flatC d = true) : PFn Tryz.prog 75 [.rows 6 (l.map E)] (.rows 6 (l.map E)) := by
 have h2 : l.length * 48 ≤ 140737488355328 := by omega
 refine PFn.of follows_ok licln_code (by simp) (by simp) (by simp) fun B hBN hB0 => acode_sound [0,2,4] [] _ _ _ ?_
 simp [h2]
 exact ⟨fun a ha => hE.len ha,fun a ha d hd => hfl a ha d hd⟩
theorem tiixf1_pf {α : Type} (E : α → List D) (l : List α) (F : FuncId) (ds : List D) (q : α → Bool) (hl : l.length ≤ 1000000) (hE : Els 2 E l) (hF : ∀ s ∈ l,PF Tryz.prog F [.agg (E s),.pc ds] (.bool (q s))) : PF Tryz.prog 149 [.rows 2 (l.map E),.fn F [.pc ds]] (I (idxZ q l)) :=
 ixf_gen1 2 _ (by kernel_rfl) E l F ds q hl hE hF
theorem ticln_code : cfun Tryz.prog [] 79 = some ⟨(.seq (.region 0 [oX 2 (.mov (.k .nil0))]) (.seq (.seq (.region 1 [oM 3 0,oX 4 (.isnil false (.t 3))]) (.cond 4 (.seq (.region 2 [oX 2 (.mov (.k .nil0))]) .ret) .skip)) (.seq (.region 3 [oX 5 (.bslice 2 0 [(.int .i64 0),(.int .i64 0)] []),oM 6 0,oX 7 (.app 2 16 [(.int .i64 0),(.int .i64 0)] (.t 5) (.t 6)),oM 2 7]) .ret))),[(.t 2)],8⟩ := by kernel_rfl
theorem ticln_hf {α : Type} (E : α → List D) (l : List α) (hl : l.length < 1000000) (hE : Els 2 E l) : HF Tryz.prog 79 [.rows 2 (l.map E)] [] 0 (fun d H' nx' => (d = .nil0 ∧ l = [] ∧ H' = [] ∧ nx' = 0) ∨ (d = .own 1 ∧ H' = [(1,.row 2 (l.map E))] ∧ nx' = 2)) := by
 have h2 : l.length * 16 ≤ 140737488355328 := by omega
 have h3 := hE.rows
 refine HF.of follows_ok ticln_code (by simp) (by simp) (by simp) fun B hBN hB0 => acode_sound [0,2,4] [] _ _ _ ?_
 simp [h2]
 exact fun a ha => hE.len ha
theorem ticln_pfn {α : Type} (E : α → List D) (l : List α) (hl : l.length < 1000000) (hE : Els 2 E l) (hfl : ∀ x ∈ l,∀ d ∈ E x,flatC d = true) : PFn Tryz.prog 79 [.rows 2 (l.map E)] (.rows 2 (l.map E)) := by
 have h2 : l.length * 16 ≤ 140737488355328 := by omega
 refine PFn.of follows_ok ticln_code (by simp) (by simp) (by simp) fun B hBN hB0 => acode_sound [0,2,4] [] _ _ _ ?_
 simp [h2]
 exact ⟨fun a ha => hE.len ha,fun a ha d hd => hfl a ha d hd⟩
theorem spixf1_pf {α : Type} (E : α → List D) (l : List α) (F : FuncId) (ds : List D) (q : α → Bool) (hl : l.length ≤ 1000000) (hE : Els 2 E l) (hF : ∀ s ∈ l,PF Tryz.prog F [.agg (E s),.pc ds] (.bool (q s))) : PF Tryz.prog 162 [.rows 2 (l.map E),.fn F [.pc ds]] (I (idxZ q l)) :=
 ixf_gen1 2 _ (by kernel_rfl) E l F ds q hl hE hF
theorem spcln_code : cfun Tryz.prog [] 77 = some ⟨(.seq (.region 0 [oX 2 (.mov (.k .nil0))]) (.seq (.seq (.region 1 [oM 3 0,oX 4 (.isnil false (.t 3))]) (.cond 4 (.seq (.region 2 [oX 2 (.mov (.k .nil0))]) .ret) .skip)) (.seq (.region 3 [oX 5 (.bslice 2 0 [(.int .i64 0),(.int .i64 0)] []),oM 6 0,oX 7 (.app 2 16 [(.int .i64 0),(.int .i64 0)] (.t 5) (.t 6)),oM 2 7]) .ret))),[(.t 2)],8⟩ := by kernel_rfl
theorem spcln_hf {α : Type} (E : α → List D) (l : List α) (hl : l.length < 1000000) (hE : Els 2 E l) : HF Tryz.prog 77 [.rows 2 (l.map E)] [] 0 (fun d H' nx' => (d = .nil0 ∧ l = [] ∧ H' = [] ∧ nx' = 0) ∨ (d = .own 1 ∧ H' = [(1,.row 2 (l.map E))] ∧ nx' = 2)) := by
 have h2 : l.length * 16 ≤ 140737488355328 := by omega
 have h3 := hE.rows
 refine HF.of follows_ok spcln_code (by simp) (by simp) (by simp) fun B hBN hB0 => acode_sound [0,2,4] [] _ _ _ ?_
 simp [h2]
 exact fun a ha => hE.len ha
theorem spcln_pfn {α : Type} (E : α → List D) (l : List α) (hl : l.length < 1000000) (hE : Els 2 E l) (hfl : ∀ x ∈ l,∀ d ∈ E x,flatC d = true) : PFn Tryz.prog 77 [.rows 2 (l.map E)] (.rows 2 (l.map E)) := by
 have h2 : l.length * 16 ≤ 140737488355328 := by omega
 refine PFn.of follows_ok spcln_code (by simp) (by simp) (by simp) fun B hBN hB0 => acode_sound [0,2,4] [] _ _ _ ?_
 simp [h2]
 exact ⟨fun a ha => hE.len ha,fun a ha d hd => hfl a ha d hd⟩
theorem stcln_code : cfun Tryz.prog [] 73 = some ⟨(.seq (.region 0 [oX 2 (.mov (.k .nil0))]) (.seq (.seq (.region 1 [oM 3 0,oX 4 (.isnil false (.t 3))]) (.cond 4 (.seq (.region 2 [oX 2 (.mov (.k .nil0))]) .ret) .skip)) (.seq (.region 3 [oX 5 (.bslice 4 0 [(.int .i64 0),(.bool false),(.int .i64 0),(.int .i64 0)] []),oM 6 0,oX 7 (.app 4 32 [(.int .i64 0),(.bool false),(.int .i64 0),(.int .i64 0)] (.t 5) (.t 6)),oM 2 7]) .ret))),[(.t 2)],8⟩ := by kernel_rfl
theorem stcln_pfn {α : Type} (E : α → List D) (l : List α) (hl : l.length < 1000000) (hE : Els 4 E l) (hfl : ∀ x ∈ l,∀ d ∈ E x,flatC d = true) : PFn Tryz.prog 73 [.rows 4 (l.map E)] (.rows 4 (l.map E)) := by
 have h2 : l.length * 32 ≤ 140737488355328 := by omega
 refine PFn.of follows_ok stcln_code (by simp) (by simp) (by simp) fun B hBN hB0 => acode_sound [0,2,4] [] _ _ _ ?_
 simp [h2]
 exact ⟨fun a ha => hE.len ha,fun a ha d hd => hfl a ha d hd⟩
theorem flixf1_pf {α : Type} (E : α → List D) (l : List α) (F : FuncId) (ds : List D) (q : α → Bool) (hl : l.length ≤ 1000000) (hE : Els 7 E l) (hF : ∀ s ∈ l,PF Tryz.prog F [.agg (E s),.pc ds] (.bool (q s))) : PF Tryz.prog 137 [.rows 7 (l.map E),.fn F [.pc ds]] (I (idxZ q l)) :=
 ixf_gen1 7 _ (by kernel_rfl) E l F ds q hl hE hF
theorem flcln_code : cfun Tryz.prog [] 74 = some ⟨(.seq (.region 0 [oX 2 (.mov (.k .nil0))]) (.seq (.seq (.region 1 [oM 3 0,oX 4 (.isnil false (.t 3))]) (.cond 4 (.seq (.region 2 [oX 2 (.mov (.k .nil0))]) .ret) .skip)) (.seq (.region 3 [oX 5 (.bslice 7 0 [(.int .i64 0),(.int .i64 0),(.int .i64 0),(.int .i64 0),(.bool false),(.int .i64 0),(.int .i64 0)] []),oM 6 0,oX 7 (.app 7 56 [(.int .i64 0),(.int .i64 0),(.int .i64 0),(.int .i64 0),(.bool false),(.int .i64 0),(.int .i64 0)] (.t 5) (.t 6)),oM 2 7]) .ret))),[(.t 2)],8⟩ := by kernel_rfl
theorem flcln_hf {α : Type} (E : α → List D) (l : List α) (hl : l.length < 1000000) (hE : Els 7 E l) : HF Tryz.prog 74 [.rows 7 (l.map E)] [] 0 (fun d H' nx' => (d = .nil0 ∧ l = [] ∧ H' = [] ∧ nx' = 0) ∨ (d = .own 1 ∧ H' = [(1,.row 7 (l.map E))] ∧ nx' = 2)) := by
 have h2 : l.length * 56 ≤ 140737488355328 := by omega
 have h3 := hE.rows
 refine HF.of follows_ok flcln_code (by simp) (by simp) (by simp) fun B hBN hB0 => acode_sound [0,2,4] [] _ _ _ ?_
 simp [h2]
 exact fun a ha => hE.len ha
theorem bsf_gen (f : FuncId) (hc : cfun Tryz.prog [] f = some ⟨(.seq (.region 0 [⟨(some 4),(.box (.t 1)),none⟩,⟨(some 6),(.mov (.k (.int .i64 0))),none⟩,⟨(some 7),(.mov (.k (.bool false))),none⟩]) (.seq (.region 1 [⟨(some 12),(.mov (.t 0)),none⟩,⟨(some 13),(.len (.t 12)),none⟩,⟨(some 8),(.mov (.t 13)),none⟩]) (.seq (.region 2 [⟨(some 14),(.mov (.t 8)),none⟩,⟨(some 9),(.mov (.k (.int .i64 0))),none⟩,⟨(some 10),(.mov (.t 14)),none⟩]) (.seq (.block 0 (.loop (.seq (.seq (.region 3 [⟨(some 15),(.mov (.t 9)),none⟩,⟨(some 16),(.mov (.t 10)),none⟩,⟨(some 17),(.bin .lss (.t 15) (.t 16)),none⟩]) (.cond 17 .skip (.exit 0))) (.block 1 (.seq (.region 4 [⟨(some 18),(.mov (.t 9)),none⟩,⟨(some 19),(.mov (.t 10)),none⟩,⟨(some 20),(.bin .add (.t 18) (.t 19)),none⟩,⟨(some 21),(.conv .u64 (.t 20)),none⟩,⟨(some 22),(.bin .shr (.t 21) (.k (.int .u64 1))),none⟩,⟨(some 23),(.conv .i64 (.t 22)),none⟩,⟨(some 11),(.mov (.t 23)),none⟩]) (.seq (.draw 5 (.one true ⟨(some 24),(.mov (.t 2)),none⟩ (.one true ⟨(some 25),(.mov (.t 0)),none⟩ (.one true ⟨(some 26),(.mov (.t 11)),none⟩ (.one true ⟨(some 27),(.iads 2 (.t 25) (.t 26)),none⟩ (.one true ⟨(some 28),(.load true 2 (.t 27)),none⟩ (.one true ⟨(some 29),(.load true 2 (.t 4)),none⟩ (.one false ⟨(some 30),(.callv (.t 24) [(.t 28),(.t 29)]),none⟩ (.one true ⟨(some 31),(.bin .lss (.t 30) (.k (.int .i64 0))),none⟩ .done))))))))) (.cond 31 (.region 6 [⟨(some 32),(.mov (.t 11)),none⟩,⟨(some 33),(.bin .add (.t 32) (.k (.int .i64 1))),none⟩,⟨(some 9),(.mov (.t 33)),none⟩]) (.region 7 [⟨(some 34),(.mov (.t 11)),none⟩,⟨(some 10),(.mov (.t 34)),none⟩])))))))) (.seq (.draw 8 (.one true ⟨(some 35),(.mov (.t 9)),none⟩ (.one true ⟨(some 36),(.mov (.t 9)),none⟩ (.one true ⟨(some 37),(.mov (.t 8)),none⟩ (.one true ⟨(some 38),(.bin .lss (.t 36) (.t 37)),none⟩ (.one true ⟨(some 39),(.mov (.t 38)),none⟩ (.one true ⟨(some 40),(.mov (.t 2)),(some (39,true))⟩ (.one true ⟨(some 41),(.mov (.t 0)),(some (39,true))⟩ (.one true ⟨(some 42),(.mov (.t 9)),(some (39,true))⟩ (.one true ⟨(some 43),(.iads 2 (.t 41) (.t 42)),(some (39,true))⟩ (.one true ⟨(some 44),(.load true 2 (.t 43)),(some (39,true))⟩ (.one true ⟨(some 45),(.load true 2 (.t 4)),(some (39,true))⟩ (.one false ⟨(some 46),(.callv (.t 40) [(.t 44),(.t 45)]),(some (39,true))⟩ (.one true ⟨(some 47),(.bin .eql (.t 46) (.k (.int .i64 0))),(some (39,true))⟩ (.one true ⟨(some 48),(.pick (.t 39) (.t 47) (.k (.bool false))),none⟩ (.one true ⟨(some 6),(.mov (.t 35)),none⟩ (.one true ⟨(some 7),(.mov (.t 48)),none⟩ .done))))))))))))))))) .ret))))),[(.t 6),(.t 7)],49⟩) {α : Type} (E : α → List D) (l : List α) (F : FuncId) (a b : Int) (cf : α → Int) (hl : l.length ≤ 1000000) (hE : Els 2 E l) (hF : ∀ s ∈ l,PF Tryz.prog F [.agg (E s),.agg [I a,I b]] (I (cf s)))
  (hmono : ∀ i j (hi : i < l.length) (hj : j < l.length),i ≤ j → cf l[j] < 0 → cf l[i] < 0) :
  PF Tryz.prog f [.rows 2 (l.map E),.agg [I a,I b],.fn F []] (.tup [I (lowB (fun x => decide (cf x < 0)) l),.bool (decide (∃ (h : lowB (fun x => decide (cf x < 0)) l < l.length),cf (l[lowB (fun x => decide (cf x < 0)) l]'h) = 0))]) := by
 have hp : (2 : Int) ^ min 1 IntKind.u64.bits = 2 := by decide
 refine PF.of follows_ok hc (by simp) (by simp) (by simp) fun B hBN hB0 => acode_sound [0,1,2,4,6,7,8,9,10,11,17,31] [] _ _ _ ?_
 simp
 refine W.loopS (fun y : Nat × Nat => ⟨[(10,I y.2),(9,I y.1),(8,I l.length),(7,.bool false),(6,I 0),(4,.ptr 0 0),(2,.fn F []),(0,D.rows 2 (l.map E))],[(0,.cells [I a,I b])],1⟩)
  (fun n y => n = y.2 - y.1 ∧ y.1 ≤ y.2 ∧ y.2 ≤ l.length ∧ (∀ j (hj : j < l.length),j < y.1 → cf l[j] < 0) ∧ (∀ j (hj : j < l.length),y.2 ≤ j → 0 ≤ cf l[j])) ?_ ?_
 ·exact ⟨_,(0,l.length),(gr0 [] hB0 (by simp) (by simp) (.inr rfl)),rfl,by simp,by simp,fun j _ h => by simp at h,fun j hj h => by simp at h;omega⟩
 rintro n ⟨i,j⟩ ⟨hn,hij,hjl,hlo,hhi⟩
 simp only at hn hij hjl hlo hhi
 refine acode_sound [0,1,2,4,6,7,8,9,10,11,17,31] [] _ _ _ ?_
 by_cases hlt : i < j
 ·obtain ⟨h,hh⟩ : ∃ h,h = (i + j) / 2 := ⟨_,rfl⟩
  have hhl : h < l.length := by omega
  have hm : l[h] ∈ l := List.getElem_mem hhl
  have hE0 := hE _ hm
  have hFo := hF _ hm
  obtain ⟨o,ho⟩ : ∃ o,o = l[h] := ⟨_,rfl⟩
  rw [← ho] at hE0 hFo
  obtain ⟨h1,h2⟩ := hE0
  have h3 : (E o).take 2 = E o := List.take_of_length_le (by omega)
  have h4 := fun H n => brw_T H n (E o) h2
  have iij : InR ((i : Int) + j) := inW (by omega) (by omega)
  have hw1 : IntKind.u64.wrap ((i : Int) + j) = (i : Int) + j := by rw [IntKind.wrap_u64];omega
  have hd : ((i : Int) + j) / 2 = (h : Nat) := by omega
  have ih : InR (h : Int) := inW (by omega) (by omega)
  have ii : InR ((h : Int) + 1) := inW (by omega) (by omega)
  have hol : cf l[h] = cf o := by rw [← ho]
  by_cases hc : cf o < 0
  ·skip
   repeat' (first
    | simp [hlt,iij,hw1,hd,ih,← ho,h1,h3,h4,hp,hhl,leL_refl,hc,ii]
    | refine ⟨wcS ?_,?_⟩
    | (refine WCall.pfv (hFo) ?_ rfl ?_ ?_ ?_;iterate 3 (solve|simp [hlt,iij,hw1,hd,ih,← ho,h1,h3,h4,hp,hhl,leL_refl,hc,ii]))
    | with_reducible refine aI ?_ ?_ ?_)
   exact ⟨_,(h + 1,j),(gr0 [] hB0 (by simp) (by simp) (.inr rfl)),by simp only;omega,rfl,by simp only;omega,by simp only;omega,fun k hk hkh => by
    simp only at hkh
    exact hmono k h hk hhl (by omega) (by rw [hol];exact hc),hhi⟩
  ·skip
   repeat' (first
    | simp [hlt,iij,hw1,hd,ih,← ho,h1,h3,h4,hp,hhl,leL_refl,hc,ii]
    | refine ⟨wcS ?_,?_⟩
    | (refine WCall.pfv (hFo) ?_ rfl ?_ ?_ ?_;iterate 3 (solve|simp [hlt,iij,hw1,hd,ih,← ho,h1,h3,h4,hp,hhl,leL_refl,hc,ii]))
    | with_reducible refine aI ?_ ?_ ?_)
   exact ⟨_,(i,h),(gr0 [] hB0 (by simp) (by simp) (.inr rfl)),by simp only;omega,rfl,by simp only;omega,by simp only;omega,hlo,fun k hk hkh => by
    simp only at hkh
    exact Int.not_lt.1 fun hck => hc (by rw [← hol];exact hmono h k hhl hk hkh hck)⟩
 ·obtain rfl : i = j := by omega
  have hlb := lowB_at (fun x => decide (cf x < 0)) l i hjl (fun j hj hji => by simpa using hlo j hj hji) (fun hi => by simpa using hhi i hi (Nat.le_refl _))
  by_cases hil : i < l.length
  ·have hm : l[i] ∈ l := List.getElem_mem hil
   have hE0 := hE _ hm
   have hFo := hF _ hm
   obtain ⟨o,ho⟩ : ∃ o,o = l[i] := ⟨_,rfl⟩
   have hol : cf l[i] = cf o := by rw [← ho]
   rw [← ho] at hE0 hFo
   obtain ⟨h1,h2⟩ := hE0
   have h3 : (E o).take 2 = E o := List.take_of_length_le (by omega)
   have h4 := fun H n => brw_T H n (E o) h2
   simp only [hlb]
   repeat' (first
    | simp [hil,← ho,h1,h3,h4,leL_refl]
    | refine ⟨wcS ?_,?_⟩
    | (refine WCall.pfv (hFo) ?_ rfl ?_ ?_ ?_;iterate 3 (solve|simp [hil,← ho,h1,h3,h4,leL_refl]))
    | with_reducible refine aI ?_ ?_ ?_)
  ·simp only [hlb]
   simp [hil]
theorem tibsf_pf {α : Type} (E : α → List D) (l : List α) (F : FuncId) (a b : Int) (cf : α → Int) (hl : l.length ≤ 1000000) (hE : Els 2 E l) (hF : ∀ s ∈ l,PF Tryz.prog F [.agg (E s),.agg [I a,I b]] (I (cf s)))
  (hmono : ∀ i j (hi : i < l.length) (hj : j < l.length),i ≤ j → cf l[j] < 0 → cf l[i] < 0) :
  PF Tryz.prog 163 [.rows 2 (l.map E),.agg [I a,I b],.fn F []] (.tup [I (lowB (fun x => decide (cf x < 0)) l),.bool (decide (∃ (h : lowB (fun x => decide (cf x < 0)) l < l.length),cf (l[lowB (fun x => decide (cf x < 0)) l]'h) = 0))]) :=
 bsf_gen _ (by kernel_rfl) E l F a b cf hl hE hF hmono
theorem spbsf_pf {α : Type} (E : α → List D) (l : List α) (F : FuncId) (a b : Int) (cf : α → Int) (hl : l.length ≤ 1000000) (hE : Els 2 E l) (hF : ∀ s ∈ l,PF Tryz.prog F [.agg (E s),.agg [I a,I b]] (I (cf s)))
  (hmono : ∀ i j (hi : i < l.length) (hj : j < l.length),i ≤ j → cf l[j] < 0 → cf l[i] < 0) :
  PF Tryz.prog 175 [.rows 2 (l.map E),.agg [I a,I b],.fn F []] (.tup [I (lowB (fun x => decide (cf x < 0)) l),.bool (decide (∃ (h : lowB (fun x => decide (cf x < 0)) l < l.length),cf (l[lowB (fun x => decide (cf x < 0)) l]'h) = 0))]) :=
 bsf_gen _ (by kernel_rfl) E l F a b cf hl hE hF hmono
def cmpZ (a b : Int) : Int := if a < b then -1 else if b < a then 1 else 0
def ord2 (a b c d : Int) : Int := if cmpZ a c = 0 then cmpZ b d else cmpZ a c
theorem cmpZ_zero {a b : Int} : cmpZ a b = 0 ↔ a = b := by
 unfold cmpZ
 split
 ·constructor
  ·intro h;omega
  ·intro h;omega
 ·split
  ·constructor
   ·intro h;omega
   ·intro h;omega
  ·constructor
   ·intro h;omega
   ·intro h;rfl
theorem cmpZ_neg {a b : Int} : cmpZ a b < 0 ↔ a < b := by
 unfold cmpZ
 split
 ·simp;assumption
 ·split
  ·constructor <;> intro h <;> omega
  ·constructor <;> intro h <;> omega
theorem ord2_neg {a b c d : Int} : ord2 a b c d < 0 ↔ a < c ∨ (a = c ∧ b < d) := by
 unfold ord2
 split
 ·rename_i h
  rw [cmpZ_zero] at h
  rw [cmpZ_neg]
  omega
 ·rename_i h
  rw [cmpZ_zero] at h
  rw [cmpZ_neg]
  omega
theorem cnan_code : cfun Tryz.prog [] 195 = some ⟨(.seq (.region 0 [oX 2 (.mov (.k (.bool false)))]) (.seq (.region 1 [oM 3 0,oM 4 0,oX 5 (.bin .neq (.t 3) (.t 4)),oM 2 5]) .ret)),[(.t 2)],6⟩ := by kernel_rfl
theorem cnan_pf (a : Int) : PF Tryz.prog 195 [I a] (.bool false) := by
 refine PF.of follows_ok cnan_code (by simp) (by simp) (by simp) fun B hBN hB0 => acode_sound [0,2] [] _ _ _ ?_
 simp
theorem ccmp_code : cfun Tryz.prog [] 171 = some ⟨(.seq (.region 0 [oK 4 0]) (.seq (.region 1 [oM 7 0,oX 8 (.call 195 [(.t 7)]),oM 5 8]) (.seq (.region 2 [oM 9 1,oX 10 (.call 195 [(.t 9)]),oM 6 10]) (.seq (.seq (.region 3 [oM 11 5]) (.cond 11 (.seq (.seq (.region 4 [oM 12 6]) (.cond 12 (.seq (.region 5 [oK 4 0]) .ret) .skip)) (.seq (.region 6 [oK 4 (-1)]) .ret)) .skip)) (.seq (.seq (.region 7 [oM 13 6]) (.cond 13 (.seq (.region 8 [oK 4 1]) .ret) .skip)) (.seq (.seq (.region 9 [oM 14 0,oM 15 1,oX 16 (.bin .lss (.t 14) (.t 15))]) (.cond 16 (.seq (.region 10 [oK 4 (-1)]) .ret) .skip)) (.seq (.seq (.region 11 [oM 17 0,oM 18 1,oX 19 (.bin .gtr (.t 17) (.t 18))]) (.cond 19 (.seq (.region 12 [oK 4 1]) .ret) .skip)) (.seq (.region 13 [oK 4 0]) .ret)))))))),[(.t 4)],20⟩ := by kernel_rfl
theorem ccmp_pf (a b : Int) : PF Tryz.prog 171 [I a,I b] (I (cmpZ a b)) := by
 have h1 := cnan_pf a
 have h2 := cnan_pf b
 refine PF.of follows_ok ccmp_code (by simp) (by simp) (by simp) fun B hBN hB0 => acode_sound [0,1,4,5,6,11,12,13,16,19] [] _ _ _ ?_
 by_cases c1 : a < b
 ·have c2 : ¬ b < a := by omega
  repeat' (first
   | simp [c1,c2,cmpZ]
   | refine ⟨wcS ?_,?_⟩
   | (refine WCall.pf (h1) ?_ ?_ ?_ ?_;iterate 3 (solve|simp [c1,c2,cmpZ]))
   | (refine WCall.pf (h2) ?_ ?_ ?_ ?_;iterate 3 (solve|simp [c1,c2,cmpZ]))
   | with_reducible refine aI ?_ ?_ ?_)
 ·by_cases c2 : b < a
  ·skip
   repeat' (first
    | simp [c1,c2,cmpZ]
    | refine ⟨wcS ?_,?_⟩
    | (refine WCall.pf (h1) ?_ ?_ ?_ ?_;iterate 3 (solve|simp [c1,c2,cmpZ]))
    | (refine WCall.pf (h2) ?_ ?_ ?_ ?_;iterate 3 (solve|simp [c1,c2,cmpZ]))
    | with_reducible refine aI ?_ ?_ ?_)
  ·skip
   repeat' (first
    | simp [c1,c2,cmpZ]
    | refine ⟨wcS ?_,?_⟩
    | (refine WCall.pf (h1) ?_ ?_ ?_ ?_;iterate 3 (solve|simp [c1,c2,cmpZ]))
    | (refine WCall.pf (h2) ?_ ?_ ?_ ?_;iterate 3 (solve|simp [c1,c2,cmpZ]))
    | with_reducible refine aI ?_ ?_ ?_)
theorem cor_code : cfun Tryz.prog [] 170 = some ⟨(.seq (.region 0 [oK 2 0]) (.seq (.region 1 [oK 3 0]) (.seq (.seq (.region 2 [oM 6 0,oH 7 6,oK 8 0]) (.block 0 (.loop (.seq (.region 3 [oX 9 (.bin .lss (.t 8) (.t 7))]) (.seq (.cond 9 .skip (.exit 0)) (.seq (.block 1 (.seq (.region 4 [oI 10 1 6 8,oL 11 1 10,oM 5 11]) (.seq (.region 5 [oM 12 5,oM 13 3,oX 14 (.bin .neq (.t 12) (.t 13))]) (.cond 14 (.seq (.region 6 [oM 15 5,oM 2 15]) .ret) .skip)))) (.region 7 [oX 16 (.bin .add (.t 8) (kI 1)),oM 8 16]))))))) (.seq (.region 8 [oM 17 3,oM 2 17]) .ret)))),[(.t 2)],18⟩ := by kernel_rfl
theorem cor_pf (a b : Int) : PF Tryz.prog 170 [.rows 1 [[I a],[I b]]] (I (if a = 0 then b else a)) := by
 refine PF.of follows_ok cor_code (by simp) (by simp) (by simp) fun B hBN hB0 => acode_sound [0,2,3,5,6,7,8,9,14] [] _ _ _ ?_
 simp
 refine W.loopS (fun i : Nat => ⟨[(8,I i),(7,I 2),(6,D.rows 1 [[I a],[I b]]),(3,I 0),(2,I 0),(0,D.rows 1 [[I a],[I b]])],[],0⟩)
  (fun n i => n = 2 - i ∧ i ≤ 2 ∧ (1 ≤ i → a = 0) ∧ (2 ≤ i → b = 0)) ?_ ?_
 ·exact ⟨_,0,(gr0 [] hB0 (by simp) (by simp) (.inr rfl)),rfl,by omega,fun h => by omega,fun h => by omega⟩
 rintro n i ⟨hn,hi,ha,hb⟩
 refine acode_sound [0,2,3,5,6,7,8,9,14] [] _ _ _ ?_
 match i,hi with
 | 0,_ =>
  by_cases h : a = 0
  ·have ii : InR 1 := inW (by omega) (by omega)
   simp [h,ii]
   exact ⟨_,1,(gr0 [] hB0 (by simp [h]) (by simp [h]) (.inr rfl)),by omega,rfl,by omega,fun h => by omega⟩
  ·simp [h]
 | 1,_ =>
  have h := ha (by omega)
  by_cases h2 : b = 0
  ·have ii : InR 2 := inW (by omega) (by omega)
   simp [h,h2,ii]
   exact ⟨_,2,(gr0 [] hB0 (by simp [h,h2]) (by simp [h,h2]) (.inr rfl)),by omega,rfl,by omega⟩
  ·simp [h,h2]
 | 2,_ =>
  have h := ha (by omega)
  have h2 := hb (by omega)
  simp [h,h2]
theorem word_code : cfun Tryz.prog [] 148 = some ⟨(.seq (.region 0 [oB 2 0,oB 3 1,oK 4 0]) (.seq (.draw 1 (.one true (oF 5 0 2) (.one true (oL 6 1 5) (.one true (oF 7 0 3) (.one true (oL 8 1 7) (.one true (oF 10 1 2) (.one true (oL 11 1 10) (.one true (oF 12 1 3) (.one true (oL 13 1 12) (.one true (oX 9 (.call 171 [(.t 6),(.t 8)])) (.one true (oX 14 (.call 171 [(.t 11),(.t 13)])) (.one true (oX 15 (.bslice 1 2 [(.int .i64 0)] [(0,(.t 9)),(1,(.t 14))])) (.one true (oX 16 (.call 170 [(.t 15)])) (.one true (oM 4 16) .done)))))))))))))) .ret)),[(.t 4)],17⟩ := by kernel_rfl
theorem word_pf (a b c d : Int) : PF Tryz.prog 148 [.agg [I a,I b],.agg [I c,I d]] (I (ord2 a b c d)) := by
 have h1 := ccmp_pf a c
 have h2 := ccmp_pf b d
 have h3 := cor_pf (cmpZ a c) (cmpZ b d)
 refine PF.of follows_ok word_code (by simp) (by simp) (by simp) fun B hBN hB0 => acode_sound [0,1,2,3,4] [] _ _ _ ?_
 repeat' (first
  | simp [ord2]
  | refine ⟨wcS ?_,?_⟩
  | (refine WCall.pf (h1) ?_ ?_ ?_ ?_;iterate 3 (solve|simp [ord2]))
  | (refine WCall.pf (h2) ?_ ?_ ?_ ?_;iterate 3 (solve|simp [ord2]))
  | (refine WCall.pf (h3) ?_ ?_ ?_ ?_;iterate 3 (solve|simp [ord2]))
  | with_reducible refine aI ?_ ?_ ?_)
theorem rord_code : cfun Tryz.prog [] 136 = some ⟨(.seq (.region 0 [oB 2 0,oB 3 1,oK 4 0]) (.seq (.draw 1 (.one true (oF 5 0 2) (.one true (oL 6 1 5) (.one true (oF 7 0 3) (.one true (oL 8 1 7) (.one true (oF 10 1 2) (.one true (oL 11 1 10) (.one true (oF 12 1 3) (.one true (oL 13 1 12) (.one true (oX 9 (.call 171 [(.t 6),(.t 8)])) (.one true (oX 14 (.call 171 [(.t 11),(.t 13)])) (.one true (oX 15 (.bslice 1 2 [(.int .i64 0)] [(0,(.t 9)),(1,(.t 14))])) (.one true (oX 16 (.call 170 [(.t 15)])) (.one true (oM 4 16) .done)))))))))))))) .ret)),[(.t 4)],17⟩ := by kernel_rfl
theorem rord_pf (a b c d : Int) : PF Tryz.prog 136 [.agg [I a,I b],.agg [I c,I d]] (I (ord2 a b c d)) := by
 have h1 := ccmp_pf a c
 have h2 := ccmp_pf b d
 have h3 := cor_pf (cmpZ a c) (cmpZ b d)
 refine PF.of follows_ok rord_code (by simp) (by simp) (by simp) fun B hBN hB0 => acode_sound [0,1,2,3,4] [] _ _ _ ?_
 repeat' (first
  | simp [ord2]
  | refine ⟨wcS ?_,?_⟩
  | (refine WCall.pf (h1) ?_ ?_ ?_ ?_;iterate 3 (solve|simp [ord2]))
  | (refine WCall.pf (h2) ?_ ?_ ?_ ?_;iterate 3 (solve|simp [ord2]))
  | (refine WCall.pf (h3) ?_ ?_ ?_ ?_;iterate 3 (solve|simp [ord2]))
  | with_reducible refine aI ?_ ?_ ?_)
theorem tisf_code : cfun Tryz.prog [] 147 = some ⟨(.seq (.region 0 [oX 4 (.mov (.k (.bool false)))]) (.seq (.seq (.region 1 [oM 6 0,oH 7 6,oX 8 (.bin .sub (.t 7) (kI 1)),oM 5 8]) (.block 0 (.loop (.seq (.seq (.region 2 [oM 9 5,oX 10 (.bin .gtr (.t 9) (kI 0))]) (.cond 10 .skip (.exit 0))) (.seq (.block 1 (.seq (.draw 4 (.one true (oM 13 1) (.one true (oM 14 0) (.one true (oM 15 5) (.one true (oI 16 2 14 15) (.one true (oA 17 2 16) (.one true (oM 18 0) (.one true (oM 19 5) (.one true (oX 20 (.bin .sub (.t 19) (kI 1))) (.one true (oI 21 2 18 20) (.one true (oA 22 2 21) (.one false (oX 23 (.callv (.t 13) [(.t 17),(.t 22)])) (.one true (oX 24 (.bin .lss (.t 23) (kI 0))) .done))))))))))))) (.cond 24 (.seq (.region 5 [oX 4 (.mov (.k (.bool false)))]) .ret) .skip))) (.region 3 [oM 11 5,oX 12 (.bin .sub (.t 11) (kI 1)),oM 5 12])))))) (.seq (.region 6 [oX 4 (.mov (.k (.bool true)))]) .ret))),[(.t 4)],25⟩ := by kernel_rfl
theorem tisf_pf {α : Type} (E : α → List D) (l : List α) (F : FuncId) (cf : α → α → Int) (hl : l.length ≤ 1000000) (hE : Els 2 E l) (hF : ∀ s ∈ l,∀ t ∈ l,PF Tryz.prog F [.agg (E s),.agg (E t)] (I (cf s t)))
  (hs : ∀ i (hi : i + 1 < l.length),¬ cf l[i + 1] l[i] < 0) : PF Tryz.prog 147 [.rows 2 (l.map E),.fn F []] (.bool true) := by
 have i0 : InR ((l.length : Int) - 1) := inW (by omega) (by omega)
 refine PF.of follows_ok tisf_code (by simp) (by simp) (by simp) fun B hBN hB0 => acode_sound [0,1,4,5,10,24] [] _ _ _ ?_
 simp [i0]
 refine W.loopS (fun z : Int => ⟨[(5,I z),(4,.bool false),(1,.fn F []),(0,D.rows 2 (l.map E))],[],0⟩)
  (fun n z => n = (z + 1).toNat ∧ -1 ≤ z ∧ z < l.length) ?_ ?_
 ·exact ⟨_,(l.length : Int) - 1,(gr0 [] hB0 (by simp) (by simp) (.inr rfl)),rfl,by omega,by omega⟩
 rintro n z ⟨hn,h1,h2⟩
 refine acode_sound [0,1,4,5,10,24] [] _ _ _ ?_
 by_cases hz : 0 < z
 ·obtain ⟨i,rfl⟩ : ∃ i : Nat,z = (i : Int) + 1 := ⟨(z - 1).toNat,by omega⟩
  have hil : i + 1 < l.length := by omega
  have hil0 : i < l.length := by omega
  have hm1 : l[i + 1] ∈ l := List.getElem_mem hil
  have hm0 : l[i] ∈ l := List.getElem_mem hil0
  have hE1 := hE _ hm1
  have hE0 := hE _ hm0
  have hFo := hF _ hm1 _ hm0
  have hsi := hs i hil
  obtain ⟨o,ho⟩ : ∃ o,o = l[i + 1] := ⟨_,rfl⟩
  obtain ⟨p,hp⟩ : ∃ p,p = l[i] := ⟨_,rfl⟩
  rw [← ho] at hE1 hFo hsi
  rw [← hp] at hE0 hFo hsi
  obtain ⟨a1,a2⟩ := hE1
  obtain ⟨b1,b2⟩ := hE0
  have a3 : (E o).take 2 = E o := List.take_of_length_le (by omega)
  have a4 := fun H n => brw_T H n (E o) a2
  have b3 : (E p).take 2 = E p := List.take_of_length_le (by omega)
  have b4 := fun H n => brw_T H n (E p) b2
  have ii : InR (i : Int) := inW (by omega) (by omega)
  have e1 : (i : Int) + 1 - 1 = i := by omega
  have e2 : ((i : Int) + 1).toNat = i + 1 := by omega
  have p1 : (0 : Int) < (i : Int) + 1 := by omega
  have p2 : (0 : Int) ≤ (i : Int) + 1 := by omega
  have p3 : (i : Int) + 1 < l.length := by omega
  repeat' (first
   | simp [hil,hil0,← ho,← hp,a1,a3,a4,b1,b3,b4,ii,e1,e2,p1,p2,p3,leL_refl,hsi]
   | refine ⟨wcS ?_,?_⟩
   | (refine WCall.pfv (hFo) ?_ rfl ?_ ?_ ?_;iterate 3 (solve|simp [hil,hil0,← ho,← hp,a1,a3,a4,b1,b3,b4,ii,e1,e2,p1,p2,p3,leL_refl,hsi]))
   | with_reducible refine aI ?_ ?_ ?_)
  exact ⟨_,(i : Int),(gr0 [] hB0 (by simp) (by simp) (.inr rfl)),by omega,rfl,by omega,by omega⟩
 ·simp [hz]
theorem speq_code : cfun Tryz.prog [] 113 = some ⟨(.seq (.region 0 [oX 4 (.mov (.k (.bool false)))]) (.seq (.seq (.region 1 [oM 6 0,oH 7 6,oM 8 1,oH 9 8,oX 10 (.bin .neq (.t 7) (.t 9))]) (.cond 10 (.seq (.region 2 [oX 4 (.mov (.k (.bool false)))]) .ret) .skip)) (.seq (.seq (.region 3 [oM 11 0,oH 12 11,oK 13 0]) (.block 0 (.loop (.seq (.region 4 [oX 14 (.bin .lss (.t 13) (.t 12))]) (.seq (.cond 14 .skip (.exit 0)) (.seq (.block 1 (.seq (.region 5 [oM 15 13,oM 5 15]) (.seq (.draw 6 (.one true (oM 16 0) (.one true (oM 17 5) (.one true (oI 18 2 16 17) (.one true (oA 19 2 18) (.one true (oM 20 1) (.one true (oM 21 5) (.one true (oI 22 2 20 21) (.one true (oA 23 2 22) (.one true (oX 24 (.eqa true [.i,.i] (.t 19) (.t 23))) .done)))))))))) (.cond 24 (.seq (.region 7 [oX 4 (.mov (.k (.bool false)))]) .ret) .skip)))) (.region 8 [oX 25 (.bin .add (.t 13) (kI 1)),oM 13 25]))))))) (.seq (.region 9 [oX 4 (.mov (.k (.bool true)))]) .ret)))),[(.t 4)],26⟩ := by kernel_rfl
theorem speq_pf (l : List (Int × Int)) (hl : l.length ≤ 1000000) : PF Tryz.prog 113 [.rows 2 (l.map fun s => [I s.1,I s.2]),.rows 2 (l.map fun s => [I s.1,I s.2])] (.bool true) := by
 refine PF.of follows_ok speq_code (by simp) (by simp) (by simp) fun B hBN hB0 => acode_sound [0,1,4,5,10,12,13,14,24] [] _ _ _ ?_
 simp
 refine W.loopS (fun i : Nat => ⟨[(13,I i),(12,I l.length),(4,.bool false),(1,D.rows 2 (l.map fun s => [I s.1,I s.2])),(0,D.rows 2 (l.map fun s => [I s.1,I s.2]))],[],0⟩)
  (fun n i => n = l.length - i ∧ i ≤ l.length) ?_ ?_
 ·exact ⟨_,0,(gr0 [] hB0 (by simp) (by simp) (.inr rfl)),rfl,by omega⟩
 rintro n i ⟨hn,hi⟩
 refine acode_sound [0,1,4,5,10,12,13,14,24] [] _ _ _ ?_
 by_cases hlt : i < l.length
 ·have ii : InR ((i : Int) + 1) := inW (by omega) (by omega)
  simp [hlt,ii]
  exact ⟨_,i + 1,(gr0 [] hB0 (by simp) (by simp) (.inr rfl)),by omega,rfl,by omega⟩
 ·obtain rfl : i = l.length := by omega
  simp
theorem iidx_code : cfun Tryz.prog [] 176 = some ⟨(.seq (.region 0 [oK 4 0]) (.seq (.seq (.region 1 [oM 6 0,oH 7 6,oK 8 0]) (.block 0 (.loop (.seq (.region 2 [oX 9 (.bin .lss (.t 8) (.t 7))]) (.seq (.cond 9 .skip (.exit 0)) (.seq (.block 1 (.seq (.region 3 [oM 10 8,oM 5 10]) (.seq (.region 4 [oM 11 1,oM 12 0,oM 13 5,oI 14 1 12 13,oL 15 1 14,oX 16 (.bin .eql (.t 11) (.t 15))]) (.cond 16 (.seq (.region 5 [oM 17 5,oM 4 17]) .ret) .skip)))) (.region 6 [oX 18 (.bin .add (.t 8) (kI 1)),oM 8 18]))))))) (.seq (.region 7 [oK 4 (-1)]) .ret))),[(.t 4)],19⟩ := by kernel_rfl
theorem iidx_pf (l : List Int) (b : Int) (hl : l.length ≤ 1000000) : PF Tryz.prog 176 [.rows 1 (l.map fun z => [I z]),I b] (I (idxZ (fun z => decide (b = z)) l)) := by
 refine PF.of follows_ok iidx_code (by simp) (by simp) (by simp) fun B hBN hB0 => acode_sound [0,1,4,5,7,8,9,16] [] _ _ _ ?_
 simp
 refine W.loopS (fun i : Nat => ⟨[(8,I i),(7,I l.length),(4,I 0),(1,I b),(0,D.rows 1 (l.map fun z => [I z]))],[],0⟩)
  (fun n i => n = l.length - i ∧ i ≤ l.length ∧ ∀ j (hj : j < l.length),j < i → ¬ b = l[j]) ?_ ?_
 ·exact ⟨_,0,(gr0 [] hB0 (by simp) (by simp) (.inr rfl)),rfl,by omega,fun j _ h => by omega⟩
 rintro n i ⟨hn,hi,hb⟩
 refine acode_sound [0,1,4,5,7,8,9,16] [] _ _ _ ?_
 by_cases hlt : i < l.length
 ·have ii : InR ((i : Int) + 1) := inW (by omega) (by omega)
  by_cases hq : b = l[i]
  ·have hz := idxZ_at (fun z => decide (b = z)) l i hlt (fun j hj => by simpa using hb j (by omega) hj) (by simpa using hq)
   simp [hlt,← hq,hz]
  ·simp [hlt,hq,ii]
   exact ⟨_,i + 1,(gr0 [] hB0 (by simp) (by simp) (.inr rfl)),by omega,rfl,by omega,fun j hj h => by
    by_cases hji : j = i
    ·subst hji;exact hq
    ·exact hb j hj (by omega)⟩
 ·have hz := idxZ_none (fun z => decide (b = z)) l fun x hx => by
   obtain ⟨j,hj⟩ := List.getElem?_of_mem hx
   obtain ⟨hj2,rfl⟩ := List.getElem?_eq_some_iff.1 hj
   simpa using hb j hj2 (by omega)
  obtain rfl : i = l.length := by omega
  simp [hz]
theorem idxZ_mem (l : List Int) (b : Int) : 0 ≤ idxZ (fun z => decide (b = z)) l ↔ b ∈ l := by
 constructor
 ·intro h
  obtain ⟨h1,h2,_⟩ := idxZ_get _ l h
  have h3 : b = l[(idxZ (fun z => decide (b = z)) l).toNat] := by simpa using h2
  exact h3 ▸ List.getElem_mem h1
 ·intro h
  exact idxZ_some _ l ⟨b,h,by simp⟩
theorem icon_code : cfun Tryz.prog [] 155 = some ⟨(.seq (.region 0 [oX 4 (.mov (.k (.bool false)))]) (.seq (.region 1 [oM 5 0,oM 6 1,oX 7 (.call 176 [(.t 5),(.t 6)]),oX 8 (.bin .geq (.t 7) (kI 0)),oM 4 8]) .ret)),[(.t 4)],9⟩ := by kernel_rfl
theorem icon_pf (l : List Int) (b : Int) (hl : l.length ≤ 1000000) : PF Tryz.prog 155 [.rows 1 (l.map fun z => [I z]),I b] (.bool (decide (b ∈ l))) := by
 have h1 := iidx_pf l b hl
 have h2 := idxZ_mem l b
 refine PF.of follows_ok icon_code (by simp) (by simp) (by simp) fun B hBN hB0 => acode_sound [0,1,4] [] _ _ _ ?_
 repeat' (first
  | simp [h2]
  | refine ⟨wcS ?_,?_⟩
  | (refine WCall.pf (h1) ?_ ?_ ?_ ?_;iterate 3 (solve|simp [h2]))
  | with_reducible refine aI ?_ ?_ ?_)
end Go.Proofs.YtibemmkfcjlmpaaGreat
namespace Go.Proofs.YtibemmkfcjlmpaaGreat
open Go.ChangeShapes Go.WideShapes Go.ChangeAt Go.RowKit
def numsE (r : List Int) : List Value := r.map (Value.int .i64)
def NumsOk (r : List Int) : Prop := ∀ z ∈ r,(Lit.int .i64 z).wf = true
def Nums (P : Program) (t : TypeId) (n : Nat) : Prop :=
 ∀ {H : Type} {enc : TypeId × Value → H} {w : World} {base : Nat} {spare : Nat → Bool} {held : Bool} {fuel : Nat} {cs : List Value} {x : DataW H × List MemPlace},
  DataW.trod enc P w base spare held fuel t cs = some x → ∃ r : List Int,cs = numsE r ∧ r.length = n ∧ NumsOk r
theorem nums_of_cells (cs : List Value) (h : ∀ i,i < cs.length → ∃ z,cs[i]? = some (.int .i64 z) ∧ (Lit.int .i64 z).wf = true) : ∃ r : List Int,cs = numsE r ∧ NumsOk r := by
 induction cs with
 | nil => exact ⟨[],rfl,fun z hz => by cases hz⟩
 | cons v cs ih =>
  obtain ⟨z,hz,hw⟩ := h 0 (by simp)
  obtain ⟨r,rfl,hr⟩ := ih fun i hi => by have := h (i + 1) (by simpa using hi);simpa using this
  simp only [List.getElem?_cons_zero,Option.some.injEq] at hz
  subst hz
  refine ⟨z :: r,rfl,fun y hy => ?_⟩
  rcases List.mem_cons.1 hy with rfl | hy
  ·exact hw
  ·exact hr y hy
theorem nums_wf {z : Int} (h : (Lit.int .i64 z).wf = true) : -9223372036854775808 ≤ z ∧ z ≤ 9223372036854775807 := by
 have h1 : IntKind.i64.min = -9223372036854775808 := rfl
 have h2 : IntKind.i64.max = 9223372036854775807 := rfl
 simp only [Lit.wf,Bool.and_eq_true,decide_eq_true_eq] at h
 omega
theorem laidOut : laidOutB Tryz.prog = true := by kernel_rfl
end Go.Proofs.YtibemmkfcjlmpaaGreat
namespace Go.Proofs.YtibemmkfcjlmpaaGreat
open Go.RowKit
theorem wf_inr {z : Int} (h : InR z) : (Lit.int .i64 z).wf = true := by
 have h1 : IntKind.i64.min = -9223372036854775808 := rfl
 have h2 : IntKind.i64.max = 9223372036854775807 := rfl
 simp only [Lit.wf,Bool.and_eq_true,decide_eq_true_eq]
 obtain ⟨h3,h4⟩ := h
 omega
theorem key0 {P : Program} : MapsOk P 0 := fun t kt e ht hkt => by
 have hu : P.underlying kt = some (.int .i64) := by
  unfold mapK at hkt
  split at hkt
  ·split at hkt
   ·assumption
   ·split at hkt
    ·split at hkt
     ·rename_i ks _ hc
      simp only [Bool.and_eq_true,decide_eq_true_eq] at hc
      simp at hkt
      rw [hkt] at hc
      simp at hc
     ·cases hkt
    ·cases hkt
   ·cases hkt
  ·cases hkt
 refine ⟨Maps.int_keyed hu,fun ks hk => ?_⟩
 obtain ⟨h1,h2⟩ := hk
 simp only [if_true] at h1
 match ks,h1 with
 | [z],_ => exact ⟨_,Maps.keyOf_int_mk hu (wf_inr (h2 z (by simp)))⟩
end Go.Proofs.YtibemmkfcjlmpaaGreat
namespace Go.Proofs.YtibemmkfcjlmpaaGreat
structure Lif where
 backend : Int
 state : Int
 weight : Int
 since : Int
 til : Int
 req : Int
deriving DecidableEq,Inhabited
def Lif.D (x : Lif) : List D := [I x.backend,I x.state,I x.weight,I x.since,I x.til,I x.req]
structure Rqs where
 id : Int
 kind : Int
 backend : Int
 weight : Int
 answer : Int
deriving DecidableEq,Inhabited
def Rqs.D (x : Rqs) : List D := [I x.id,I x.kind,I x.backend,I x.weight,I x.answer]
structure LifOk (x : Lif) : Prop where
 b0 : 0 ≤ x.backend
 b1 : x.backend < 12
 w0 : 1 ≤ x.weight
 w1 : x.weight ≤ 8
 s0 : 0 ≤ x.since
 s1 : x.since ≤ 1099511627776
 u0 : 0 ≤ x.til
 u1 : x.til ≤ 1099511628276
 r0 : 0 ≤ x.req
 r1 : x.req ≤ 1048576
 st : (x.state = 1 ∧ x.since = 0 ∧ x.til = 0 ∧ x.req = 0) ∨ (x.state = 2 ∧ x.til = 0 ∧ x.req = 0) ∨ x.state = 3 ∨ x.state = 4
structure RqsOk (x : Rqs) : Prop where
 i0 : 0 ≤ x.id
 i1 : x.id ≤ 1048576
 k : x.kind = 1 ∨ x.kind = 2
structure BookOk (L : List Lif) (R : List Rqs) : Prop where
 ll : L.length ≤ 12
 lr : R.length ≤ 100
 lok : ∀ x ∈ L,LifOk x
 rok : ∀ x ∈ R,RqsOk x
 sorted : L.Pairwise fun x y => x.backend < y.backend
 ids : (R.map (·.id)).Nodup
def qB (b : Int) (x : Lif) : Bool := decide (x.backend = b)
def qI (i : Int) (x : Rqs) : Bool := decide (x.id = i)
def findM (L : List Lif) (b : Int) : Int := idxZ (qB b) L
def joinPos (L : List Lif) (b : Int) : Nat := lowB (fun x => decide (x.backend < b)) L
def joinM (L : List Lif) (r : Rqs) : List Lif × Int :=
 if r.backend < 0 ∨ 12 ≤ r.backend ∨ r.weight < 1 ∨ 8 < r.weight then (L,2)
 else if 0 ≤ findM L r.backend then
  (if (L.getD (findM L r.backend).toNat default).state = 4 then (L.set (findM L r.backend).toNat ⟨r.backend,1,r.weight,0,0,0⟩,0) else (L,7))
 else (L.take (joinPos L r.backend) ++ [⟨r.backend,1,r.weight,0,0,0⟩] ++ L.drop (joinPos L r.backend),0)
def retireM (L : List Lif) (r : Rqs) (now drain : Int) : List Lif × Int :=
 let i := (findM L r.backend).toNat
 let x := L.getD i default
 if findM L r.backend < 0 then (L,8) else if x.state = 4 then (L,8) else if x.state = 3 then (L,12)
 else (L.set i { x with state := if x.state = 1 then 4 else 3,til := now + drain,req := r.id },0)
structure AskR where
 L : List Lif
 R : List Rqs
 answer : Int
 fresh : Bool
def askM (L : List Lif) (R : List Rqs) (r : Rqs) (now drain : Int) : AskR :=
 if 0 ≤ idxZ (qI r.id) R then ⟨L,R,(R.getD (idxZ (qI r.id) R).toNat default).answer,false⟩
 else if R.length = 100 then ⟨L,R,9,false⟩
 else if r.kind = 1 then ⟨(joinM L r).1,R ++ [{ r with answer := (joinM L r).2 }],(joinM L r).2,true⟩
 else ⟨(retireM L r now drain).1,R ++ [{ r with weight := 0,answer := (retireM L r now drain).2 }],(retireM L r now drain).2,true⟩
def wakeX (now : Int) (x : Lif) : Lif := if x.state = 1 then { x with state := 2,since := now } else x
def wakeM (L : List Lif) (now : Int) : List Lif := L.map (wakeX now)
def wokenM (L : List Lif) : List Int := (L.filter fun x => decide (x.state = 1)).map (·.backend)
def finishM (L : List Lif) (b : Int) : List Lif × Int :=
 let i := (findM L b).toNat
 let x := L.getD i default
 if findM L b < 0 then ([],8) else if x.state = 3 then (L.set i { x with state := 4 },0) else ([],8)
def ofM (L : List Lif) (b : Int) : Lif × Int := if findM L b < 0 then (default,8) else (L.getD (findM L b).toNat default,0)
theorem findM_at {L : List Lif} {b : Int} (h : 0 ≤ findM L b) : ∃ h2 : (findM L b).toNat < L.length,L[(findM L b).toNat].backend = b ∧ L.getD (findM L b).toNat default = L[(findM L b).toNat] := by
 obtain ⟨h1,h2,_⟩ := idxZ_get _ L h
 have h1 : (findM L b).toNat < L.length := h1
 exact ⟨h1,of_decide_eq_true h2,by rw [List.getD_eq_getElem?_getD,List.getElem?_eq_getElem h1];rfl⟩
theorem findM_neg {L : List Lif} {b : Int} (h : findM L b < 0) : ∀ x ∈ L,x.backend ≠ b := fun x hx he => by
 have := idxZ_some (qB b) L ⟨x,hx,by simpa [qB] using he⟩
 unfold findM at h
 omega
theorem joinPos_le (L : List Lif) (b : Int) : joinPos L b ≤ L.length := lowB_le _ _
theorem joinPos_lt (L : List Lif) (b : Int) : ∀ j (h : j < L.length),j < joinPos L b → L[j].backend < b := fun j h hj => of_decide_eq_true (lowB_lt _ L j h hj)
theorem joinPos_ge (L : List Lif) (b : Int) (h : joinPos L b < L.length) : ¬ L[joinPos L b].backend < b := of_decide_eq_false (lowB_ge (fun x : Lif => decide (x.backend < b)) L h)
theorem set_sorted {L : List Lif} (h : L.Pairwise fun x y => x.backend < y.backend) {i : Nat} (hi : i < L.length) {x : Lif} (hx : x.backend = L[i].backend) : (L.set i x).Pairwise fun x y => x.backend < y.backend := by
 rw [List.pairwise_iff_getElem] at h ⊢
 intro a b ha hb hab
 simp only [List.length_set] at ha hb
 have := h a b ha hb hab
 rw [List.getElem_set,List.getElem_set]
 split
 ·rename_i e;subst e
  split
  ·omega
  ·rw [hx];exact this
 ·split
  ·rename_i e;subst e;rw [hx];exact this
  ·exact this
theorem BookOk.set {L : List Lif} {R : List Rqs} (h : BookOk L R) {i : Nat} (hi : i < L.length) {x : Lif} (hx : x.backend = L[i].backend) (hok : LifOk x) : BookOk (L.set i x) R :=
 ⟨by simpa using h.ll,h.lr,fun y hy => (List.mem_or_eq_of_mem_set hy).elim (h.lok y) (fun e => e ▸ hok),h.rok,set_sorted h.sorted hi hx,h.ids⟩
theorem rising_len : ∀ (l : List Int) (a : Int),(l.Pairwise (· < ·)) → (∀ x ∈ l,a ≤ x ∧ x < 12) → a ≤ 12 → (l.length : Int) ≤ 12 - a
 | [],a,_,_,ha => by simp;omega
 | x :: l,a,hp,hb,ha => by
  rw [List.pairwise_cons] at hp
  have h0 := hb x (by simp)
  have ih := rising_len l (x + 1) hp.2 (fun y hy => ⟨by have := hp.1 y hy;omega,(hb y (List.mem_cons_of_mem _ hy)).2⟩) (by omega)
  simp only [List.length_cons]
  omega
theorem BookOk.ins {L : List Lif} {R : List Rqs} (h : BookOk L R) {x : Lif} (hok : LifOk x) (hn : ∀ y ∈ L,y.backend ≠ x.backend) : BookOk (L.take (joinPos L x.backend) ++ [x] ++ L.drop (joinPos L x.backend)) R := by
 have hle := joinPos_le L x.backend
 have hlt := joinPos_lt L x.backend
 have hge := joinPos_ge L x.backend
 have hlok : ∀ y ∈ L.take (joinPos L x.backend) ++ [x] ++ L.drop (joinPos L x.backend),LifOk y := fun y hy => by
  rcases List.mem_append.1 hy with hy | hy
  ·rcases List.mem_append.1 hy with hy | hy
   ·exact h.lok y (List.mem_of_mem_take hy)
   ·rw [List.mem_singleton.1 hy];exact hok
  ·exact h.lok y (List.mem_of_mem_drop hy)
 have hs : (L.take (joinPos L x.backend) ++ [x] ++ L.drop (joinPos L x.backend)).Pairwise fun x y => x.backend < y.backend := by
  generalize joinPos L x.backend = p at hle hlt hge
  have hp := List.pairwise_iff_getElem.1 h.sorted
  have hsp := h.sorted
  rw [← List.take_append_drop p L,List.pairwise_append] at hsp
  have hdr : ∀ y ∈ L.drop p,x.backend < y.backend := fun y hy => by
   obtain ⟨j,hj⟩ := List.getElem?_of_mem hy
   rw [List.getElem?_drop] at hj
   obtain ⟨hj1,hj2⟩ := List.getElem?_eq_some_iff.1 hj
   have hpl : p < L.length := by omega
   have h1 := hge hpl
   have h2 := hn L[p] (List.getElem_mem hpl)
   rcases Nat.eq_zero_or_pos j with h0 | h0
   ·subst h0
    simp only [Nat.add_zero] at hj2
    rw [← hj2];omega
   ·have := hp p (p + j) hpl hj1 (by omega)
    rw [hj2] at this;omega
  have htk : ∀ y ∈ L.take p,y.backend < x.backend := fun y hy => by
   obtain ⟨j,hj⟩ := List.getElem?_of_mem hy
   rw [List.getElem?_take] at hj
   split at hj
   ·rename_i hjp
    obtain ⟨hj1,hj2⟩ := List.getElem?_eq_some_iff.1 hj
    rw [← hj2];exact hlt j hj1 hjp
   ·cases hj
  rw [List.append_assoc,List.pairwise_append]
  refine ⟨hsp.1,?_,?_⟩
  ·rw [List.singleton_append,List.pairwise_cons]
   exact ⟨hdr,hsp.2.1⟩
  ·intro a ha b hb
   rcases List.mem_append.1 hb with hb | hb
   ·rw [List.mem_singleton.1 hb];exact htk a ha
   ·exact hsp.2.2 a ha b hb
 refine ⟨?_,h.lr,hlok,h.rok,hs,h.ids⟩
 have := rising_len ((L.take (joinPos L x.backend) ++ [x] ++ L.drop (joinPos L x.backend)).map (·.backend)) 0 (List.pairwise_map.2 hs) (fun z hz => by
  obtain ⟨y,hy,rfl⟩ := List.mem_map.1 hz
  exact ⟨(hlok y hy).b0,(hlok y hy).b1⟩) (by omega)
 rw [List.length_map] at this
 omega
theorem join_ok {L : List Lif} {R : List Rqs} (h : BookOk L R) (r : Rqs) : BookOk (joinM L r).1 R := by
 unfold joinM
 split
 ·exact h
 ·rename_i hc
  have hnew : LifOk ⟨r.backend,1,r.weight,0,0,0⟩ := ⟨by simp only;omega,by simp only;omega,by simp only;omega,by simp only;omega,by simp,by simp,by simp,by simp,by simp,by simp,.inl ⟨rfl,rfl,rfl,rfl⟩⟩
  split
  ·rename_i h0
   split
   ·obtain ⟨h1,h2,h3⟩ := findM_at h0
    exact h.set h1 h2.symm hnew
   ·exact h
  ·rename_i h0
   exact h.ins (x := ⟨r.backend,1,r.weight,0,0,0⟩) hnew (findM_neg (Int.not_le.1 h0))
theorem retire_ok {L : List Lif} {R : List Rqs} (h : BookOk L R) (r : Rqs) (hr : RqsOk r) (now drain : Int) (n0 : 0 ≤ now) (n1 : now ≤ 1099511627776) (d0 : 0 ≤ drain) (d1 : drain ≤ 500) : BookOk (retireM L r now drain).1 R := by
 unfold retireM
 simp only
 split
 ·exact h
 ·rename_i h0
  obtain ⟨h1,h2,h3⟩ := findM_at (by omega : 0 ≤ findM L r.backend)
  rw [h3]
  split
  ·exact h
  ·split
   ·exact h
   ·rename_i c4 c3
    have ho := h.lok _ (List.getElem_mem h1)
    refine h.set h1 rfl ⟨ho.b0,ho.b1,ho.w0,ho.w1,ho.s0,ho.s1,by simp only;omega,by simp only;omega,hr.i0,hr.i1,?_⟩
    simp only
    split
    ·exact .inr (.inr (.inr rfl))
    ·exact .inr (.inr (.inl rfl))
theorem BookOk.addReq {L : List Lif} {R : List Rqs} (h : BookOk L R) {r : Rqs} (hr : RqsOk r) (hl : R.length ≠ 100) (hn : ∀ x ∈ R,x.id ≠ r.id) : BookOk L (R ++ [r]) := by
 refine ⟨h.ll,?_,h.lok,fun x hx => ?_,h.sorted,?_⟩
 ·have := h.lr
  simp;omega
 ·rcases List.mem_append.1 hx with hx | hx
  ·exact h.rok x hx
  ·rw [List.mem_singleton.1 hx];exact hr
 ·rw [List.map_append,List.nodup_append]
  refine ⟨h.ids,by simp,fun a ha b hb e => ?_⟩
  obtain ⟨x,hx,rfl⟩ := List.mem_map.1 ha
  simp only [List.map_cons,List.map_nil,List.mem_singleton] at hb
  exact hn x hx (e.trans hb)
theorem idx_neg_id {R : List Rqs} {i : Int} (h : ¬ 0 ≤ idxZ (qI i) R) : ∀ x ∈ R,x.id ≠ i := fun x hx he => h (idxZ_some (qI i) R ⟨x,hx,by simpa [qI] using he⟩)
theorem ask_ok {L : List Lif} {R : List Rqs} (h : BookOk L R) (r : Rqs) (hr : RqsOk r) (now drain : Int) (n0 : 0 ≤ now) (n1 : now ≤ 1099511627776) (d0 : 0 ≤ drain) (d1 : drain ≤ 500) : BookOk (askM L R r now drain).L (askM L R r now drain).R := by
 unfold askM
 split
 ·exact h
 ·rename_i hi
  split
  ·exact h
  ·rename_i hl
   split
   ·exact (join_ok h r).addReq ⟨hr.i0,hr.i1,hr.k⟩ hl (idx_neg_id hi)
   ·exact (retire_ok h r hr now drain n0 n1 d0 d1).addReq ⟨hr.i0,hr.i1,hr.k⟩ hl (idx_neg_id hi)
theorem wake_ok {L : List Lif} {R : List Rqs} (h : BookOk L R) (now : Int) (n0 : 0 ≤ now) (n1 : now ≤ 1099511627776) : BookOk (wakeM L now) R := by
 have hb : ∀ x : Lif,(wakeX now x).backend = x.backend := fun x => by unfold wakeX;split <;> rfl
 refine ⟨by simpa [wakeM] using h.ll,h.lr,fun x hx => ?_,h.rok,?_,h.ids⟩
 ·obtain ⟨y,hy,rfl⟩ := List.mem_map.1 hx
  have ho := h.lok y hy
  unfold wakeX
  split
  ·rename_i h1
   rcases ho.st with ⟨_,h2,h3,h4⟩ | ⟨h2,_⟩ | h2 | h2
   ·exact ⟨ho.b0,ho.b1,ho.w0,ho.w1,n0,n1,ho.u0,ho.u1,ho.r0,ho.r1,.inr (.inl ⟨rfl,h3,h4⟩)⟩
   all_goals omega
  ·exact ho
 ·refine List.pairwise_map.2 (h.sorted.imp fun {a b} hab => ?_)
  rw [hb,hb];exact hab
def idEs : List Rqs → Nat → List Ent
 | [],_ => []
 | r :: t,k => ([r.id],[],k) :: idEs t (k + 1)
theorem idEs_app : ∀ (l : List Rqs) (r : Rqs) (k : Nat),idEs (l ++ [r]) k = idEs l k ++ [([r.id],[],k + l.length)]
 | [],r,k => rfl
 | x :: l,r,k => by
  simp only [List.cons_append,idEs,idEs_app l r (k + 1),List.length_cons]
  rw [show k + 1 + l.length = k + (l.length + 1) by omega]
theorem idEs_keys : ∀ (l : List Rqs) (k : Nat),(idEs l k).map (·.1) = l.map fun r => [r.id]
 | [],_ => rfl
 | x :: l,k => by simp [idEs,idEs_keys l (k + 1)]
theorem idEs_len (l : List Rqs) (k : Nat) : (idEs l k).length = l.length := by
 have := congrArg List.length (idEs_keys l k)
 simpa using this
theorem idEs_mem {l : List Rqs} {k : Nat} {e : Ent} (h : e ∈ idEs l k) : ∃ r ∈ l,e.1 = [r.id] := by
 have : e.1 ∈ (idEs l k).map (·.1) := List.mem_map.2 ⟨e,h,rfl⟩
 rw [idEs_keys] at this
 obtain ⟨r,hr,he⟩ := List.mem_map.1 this
 exact ⟨r,hr,he.symm⟩
end Go.Proofs.YtibemmkfcjlmpaaGreat
namespace Go.Proofs.YtibemmkfcjlmpaaGreat
open Go.RowKit
attribute [local simp] AK_at acode_seq acode_region acode_draw acode_cond CB_u acode_block acode_loop acode_exit acode_scope acode_ret acode_skip seqQ_n seqQ_e seqQ_r blockQ_n blockQ_e blockQ_r TK_at OK_at SK_at aops_nil aops_cons asch_done asch_one asch_two asch_top astep aop_eq isLoud aloud aloud1 isWrite qv evS strip gof eget hget putO eput herase oks opnds gS afin afin0 binD arith D.cells takeD fillD keep trim envOf Fin aresl aresv resD argOk pickV isP deq deqs boundD slD lenD isT isSl ptrIds chunks mn_min mx_max splice_one splice_more Rbr_at Rfr_at frR frV frC flatC brwR brwV brwC omap leR leV leC leL leVL rnR rnV rnC rnO rho_0 hputs herases rnS LtS LtR LtV LtC LtO lget noV noC flatR flatV rho
attribute [local simp ↓] CB_t CB_f
def placeM (z now : Int) : Int := if z / 8 = now / 8 then z % 8 else if z / 64 = now / 64 then 8 + z / 8 % 8 else if z / 512 = now / 512 then 16 + z / 64 % 8 else 24
def szM : Nat → Int
 | 0 => 8
 | 1 => 64
 | 2 => 512
 | _ => 4096
theorem wplace_code : cfun Tryz.prog [] 146 = some ⟨(.seq (.region 0 [oK 4 0]) (.seq (.seq (.region 1 [oK 5 0,oK 6 8]) (.block 0 (.loop (.seq (.seq (.region 2 [oM 7 5,oX 8 (.bin .lss (.t 7) (kI 3))]) (.cond 8 .skip (.exit 0))) (.seq (.block 1 (.seq (.draw 4 (.one true (oM 13 0) (.one true (oM 14 6) (.one true (oX 15 (.bin .quo (.t 13) (.t 14))) (.one true (oM 16 1) (.one true (oM 17 6) (.one true (oX 18 (.bin .quo (.t 16) (.t 17))) (.one true (oX 19 (.bin .eql (.t 15) (.t 18))) .done)))))))) (.cond 19 (.seq (.region 5 [oM 20 5,oX 21 (.bin .mul (kI 8) (.t 20)),oM 22 0,oM 23 6,oX 24 (.bin .quo (.t 23) (kI 8)),oX 25 (.bin .quo (.t 22) (.t 24)),oX 26 (.bin .rem (.t 25) (kI 8)),oX 27 (.bin .add (.t 21) (.t 26)),oM 4 27]) .ret) .skip))) (.region 3 [oM 9 5,oX 10 (.bin .add (.t 9) (kI 1)),oM 11 6,oX 12 (.bin .mul (.t 11) (kI 8)),oM 5 10,oM 6 12])))))) (.seq (.region 6 [oK 4 24]) .ret))),[(.t 4)],28⟩ := by kernel_rfl
theorem wplace_pf (z now : Int) (z0 : 0 ≤ z) (z1 : z ≤ 2199023255552) (n0 : 0 ≤ now) (n1 : now ≤ 2199023255552) : PF Tryz.prog 146 [I z,I now] (I (placeM z now)) := by
 refine PF.of follows_ok wplace_code (by simp) (by simp) (by simp) fun B hBN hB0 => acode_sound [0,1,4,5,6,8,19] [] _ _ _ ?_
 simp
 refine W.loopS (fun k : Nat => ⟨[(6,I (szM k)),(5,I k),(4,I 0),(1,I now),(0,I z)],[],0⟩)
  (fun n k => n = 3 - k ∧ k ≤ 3 ∧ (0 < k → ¬ z / 8 = now / 8) ∧ (1 < k → ¬ z / 64 = now / 64) ∧ (2 < k → ¬ z / 512 = now / 512)) ?_ ?_
 ·exact ⟨_,0,(gr0 [] hB0 (by simp [szM]) (by simp [szM]) (.inr rfl)),rfl,by omega,by omega,by omega,by omega⟩
 rintro n k ⟨hn,hk,h1,h2,h3⟩
 refine acode_sound [0,1,4,5,6,8,19] [] _ _ _ ?_
 have i1 : InR (z / 8) := inW (by omega) (by omega)
 have i2 : InR (z / 64) := inW (by omega) (by omega)
 have i3 : InR (z / 512) := inW (by omega) (by omega)
 have j1 : InR (now / 8) := inW (by omega) (by omega)
 have j2 : InR (now / 64) := inW (by omega) (by omega)
 have j3 : InR (now / 512) := inW (by omega) (by omega)
 have m0 : InR (z % 8) := inW (by omega) (by omega)
 have m1 : InR (8 + z / 8 % 8) := inW (by omega) (by omega)
 have m2 : InR (16 + z / 64 % 8) := inW (by omega) (by omega)
 have p1 : 0 ≤ z / 8 := by omega
 have p2 : 0 ≤ z / 64 := by omega
 have r0 : InR 0 := inW (by omega) (by omega)
 have r8 : InR 8 := inW (by omega) (by omega)
 have r16 : InR 16 := inW (by omega) (by omega)
 have rz : InR z := inW (by omega) (by omega)
 have r1 : InR 1 := inW (by omega) (by omega)
 have r2 : InR 2 := inW (by omega) (by omega)
 have r3 : InR 3 := inW (by omega) (by omega)
 have r64 : InR 64 := inW (by omega) (by omega)
 have r512 : InR 512 := inW (by omega) (by omega)
 have r4096 : InR 4096 := inW (by omega) (by omega)
 rcases (show k = 0 ∨ k = 1 ∨ k = 2 ∨ k = 3 by omega) with rfl | rfl | rfl | rfl
 ·by_cases c : z / 8 = now / 8
  ·simp [szM,z0,n0,c,i1,j1,m0,placeM,r0,r1,rz,r64]
  ·simp [szM,z0,n0,c,i1,j1,r1,r64]
   refine ⟨_,1,(gr0 [] hB0 (by simp [szM]) (by simp [szM]) (.inr rfl)),by omega,rfl,?_⟩
   repeat' apply And.intro
   all_goals omega
 ·have h1 := h1 (by omega)
  by_cases c : z / 64 = now / 64
  ·simp [szM,z0,n0,h1,c,i1,i2,j2,m1,placeM,p1,r1,r8,r64]
  ·simp [szM,z0,n0,h1,c,i2,j2,r2,r512]
   refine ⟨_,2,(gr0 [] hB0 (by simp [szM]) (by simp [szM]) (.inr rfl)),by omega,rfl,?_⟩
   repeat' apply And.intro
   all_goals omega
 ·have h1 := h1 (by omega)
  have h2 := h2 (by omega)
  by_cases c : z / 512 = now / 512
  ·simp [szM,z0,n0,h1,h2,c,i2,i3,j3,m2,placeM,p2,r2,r16,r512,r64]
  ·simp [szM,z0,n0,h1,h2,c,i3,j3,r3,r4096]
   refine ⟨_,3,(gr0 [] hB0 (by simp [szM]) (by simp [szM]) (.inr rfl)),by omega,rfl,?_⟩
   repeat' apply And.intro
   all_goals omega
 ·have h1 := h1 (by omega)
  have h2 := h2 (by omega)
  have h3 := h3 (by omega)
  simp [placeM,h1,h2,h3]
def fitsB (z id now : Int) : Bool := decide (now < z ∧ z ≤ now + 500 ∧ z ≤ 1099511627776 ∧ 0 ≤ id ∧ id < 200)
theorem wfits_code : cfun Tryz.prog [] 145 = some ⟨(.seq (.region 0 [oB 2 0,oX 4 (.mov (.k (.bool false)))]) (.seq (.region 1 [oF 5 0 2,oL 6 1 5,oM 7 1,oX 8 (.bin .gtr (.t 6) (.t 7)),oM 9 8,oG 10 (.fad 0 (.t 2)) 9 true,oG 11 (.load false 1 (.t 10)) 9 true,oG 12 (.mov (.t 1)) 9 true,oG 13 (.bin .add (.t 12) (kI 500)) 9 true,oG 14 (.bin .leq (.t 11) (.t 13)) 9 true,oX 15 (.pick (.t 9) (.t 14) (.k (.bool false))),oM 16 15,oG 17 (.fad 0 (.t 2)) 16 true,oG 18 (.load false 1 (.t 17)) 16 true,oG 19 (.bin .leq (.t 18) (kI 1099511627776)) 16 true,oX 20 (.pick (.t 16) (.t 19) (.k (.bool false))),oM 21 20,oG 22 (.fad 1 (.t 2)) 21 true,oG 23 (.load false 1 (.t 22)) 21 true,oG 24 (.bin .geq (.t 23) (kI 0)) 21 true,oX 25 (.pick (.t 21) (.t 24) (.k (.bool false))),oM 26 25,oG 27 (.fad 1 (.t 2)) 26 true,oG 28 (.load false 1 (.t 27)) 26 true,oG 29 (.bin .lss (.t 28) (kI 200)) 26 true,oX 30 (.pick (.t 26) (.t 29) (.k (.bool false))),oM 4 30]) .ret)),[(.t 4)],31⟩ := by kernel_rfl
theorem wfits_pf (z id now : Int) (n0 : 0 ≤ now) (n1 : now ≤ 1099511627776) : PF Tryz.prog 145 [.agg [I z,I id],I now] (.bool (fitsB z id now)) := by
 have i1 : InR (now + 500) := inW (by omega) (by omega)
 refine PF.of follows_ok wfits_code (by simp) (by simp) (by simp) fun B hBN hB0 => acode_sound [0,1,2,4] [] _ _ _ ?_
 simp [i1,fitsB]
 by_cases h1 : now < z <;> by_cases h2 : z ≤ now + 500 <;> by_cases h3 : z ≤ 1099511627776 <;> by_cases h4 : 0 ≤ id <;> by_cases h5 : id < 200 <;> simp [h1,h2,h3,h4,h5]
end Go.Proofs.YtibemmkfcjlmpaaGreat
