/- This text proves the rules for operations on maps of one's own, over the small machine. It has no condition of its own. -/
import Derived.Test.YtfkeddefajkobaaMap
set_option linter.unusedSimpArgs false
set_option linter.unusedVariables false
namespace Go.Proofs.Ytfkeddefajkobaa
open Go.RowKit
section
variable {P : Program} {sb : Bool} {B : Base} {st : St} {K : St → Prop} {dst : Option Nat} {n : Nat} {id : Nat} {es : List Ent} {ck : Nat} {ks vs : List Int} {xm xk xv : Opd}
theorem XCall.mk (h : K ⟨putO st.env dst (.own st.nx), eput st.heap st.nx (.mp (n == 0) [] 0), st.nx + 1⟩) : XCall P sb B (.xop 0 [n] []) dst st K := by
  intro o s Z a w K' Q hx hd hdst hr hG
  subst hd
  obtain ⟨t, kt, e, ho, ht, hm⟩ := xcop_0 hx
  refine wp_value (v := .map (some w.heap.size)) (w' := w.alloc (.map #[] 0)) ?_ ?_
  · unfold execOp; rw [ho]
    simp [Instr.makeMap, newObj, Sem.run, Result.andThen]
  · have hbel : Below w.heap.size w (w.alloc (.map #[] 0)) := (Below.refl _ _).alloc (Nat.le_refl _) _
    refine hG _ _ _ _ _ (fun _ => hbel) h (hr.step hdst (upd_lt s st.nx _) (fun _ _ _ h => h) (by omega) (v := .map (some w.heap.size)) ?_ ?_ (hr.h.new hbel (v := .map (some w.heap.size)) ⟨w.heap.size, rfl, ?_⟩ trivial (fun k hk => ?_)))
    · exact ⟨(upd_same _ _ _).symm, .inr ⟨_, rfl⟩⟩
    · exact Nat.lt_succ_self _
    · exact (MapKept.heap_alloc w _).1
    · cases hk; exact Nat.le_refl _
theorem map_at {s : Nat → Value} {Z : Cells} {a : Act} {w : World} (hr : Rel B s Z st a w) {m : Operand} (hop : opdC m = some xm) (hg : gS st.env xm = true) (hm : evS st.env xm = .own id) {bare : Bool} (hh : hget st.heap id = some (.mp bare es ck)) :
    ∃ b, a.eval m = .map (some b) ∧ s id = .map (some b) ∧ w.heap[b]? = some (.map (es.map (mEnt bare)).toArray ck) := by
  have h1 := hr.vr hop hg
  rw [hm] at h1
  obtain ⟨h1, _⟩ := h1
  obtain ⟨b, h2, h3⟩ := hr.h.ob id _ hh
  exact ⟨b, h1.trans h2, h2, h3⟩
theorem keys_ok (hM : MapsOk P n) {t kt e : TypeId} (ht : P.underlying t = some (.map kt e)) (hkt : mapK P kt = some n) (hes : ∀ e ∈ es, goodK n e.1) : ∀ x ∈ (es.map (mEnt (n == 0))), ∃ l, keyOf P kt x.key = some l := fun x hx => by
  obtain ⟨e, he, rfl⟩ := List.mem_map.1 hx
  exact (hM t kt _ ht hkt).2 e.1 (hes e he)
theorem XCall.upd (hM : MapsOk P n) (hok : oks st.env (.xop 1 [n] [xm, xk, xv]) = true) (hsb : sb = false) (hm : evS st.env xm = .own id) (hh : hget st.heap id = some (.mp (n == 0) es ck))
    (hk : evS st.env xk = keyD n ks) (hv : evS st.env xv = .agg (vs.map (.int .i64))) (hgk : goodK n ks) (hes : ∀ e ∈ es, goodK n e.1) (hnd : (es.map (·.1)).Nodup)
    (h : K ⟨putO st.env dst .any, eput st.heap id (.mp (n == 0) (mput es ks vs ck).1 (mput es ks vs ck).2), st.nx⟩) : XCall P sb B (.xop 1 [n] [xm, xk, xv]) dst st K := by
  intro o s Z a w K' Q hx hd hdst hr hG
  subst hd
  obtain ⟨t, m, k, v, kt, e, xm', xk', xv', ho, ht, h1, h2, h3, hkt, hxs⟩ := xcop_1 hx
  simp only [List.cons.injEq, and_true] at hxs
  obtain ⟨rfl, rfl, rfl⟩ := hxs
  have hg : ∀ x ∈ [xm, xk, xv], gS st.env x = true := fun x hx => oks_mem hok hx
  obtain ⟨b, hb1, hb2, hb3⟩ := map_at hr h1 (hg _ (by simp)) hm hh
  have hkv := hr.vr h2 (hg _ (by simp))
  rw [hk] at hkv
  have hkv := keyD_inv hkv
  have hvv := hr.vr h3 (hg _ (by simp))
  rw [hv] at hvv
  have hvv := aggI_inv hvv
  obtain ⟨KK, hK2⟩ := hM t kt e ht hkt
  obtain ⟨kl, hkl⟩ := hK2 ks hgk
  have hrun : (Instr.mapUpdate t (.map (some b)) (vInts (n == 0) ks) (vInts false vs)).run P w = .ok () (ChangeMaps.setBlock w b (.map ((mput es ks vs ck).1.map (mEnt (n == 0))).toArray (mput es ks vs ck).2)) := by
    rcases KK.find w hkl _ (keys_ok hM ht hkt hes) with ⟨g1, g2⟩ | ⟨j, e0, g1, g2, g3⟩
    · have hne : ∀ e ∈ es, e.1 ≠ ks := fun e he hk => g2 (mEnt (n == 0) e) (List.mem_map.2 ⟨e, he, rfl⟩) (by rw [← hk]; rfl)
      rw [mput_new hne]
      simp [Instr.mapUpdate, run_underlying ht, MapKept.run_getObj_map hb3, KK.check w false hkl, g1, MapKept.run_setObj_map _ hb3, Result.andThen, ChangeMaps.setBlock, mEnt]
    · obtain ⟨e1, he1, rfl⟩ := (map_get _ _ _ _).1 g2
      have hek : e1.1 = ks := vInts_inj (hes e1 (List.mem_of_getElem? he1)) hgk g3
      rw [mput_old he1 hek hnd]
      have g3' : vInts (n == 0) e1.1 = vInts (n == 0) ks := by rw [hek]
      have hmod : (List.map (mEnt (n == 0)) es).modify j (fun e => { key := vInts (n == 0) ks, val := vInts false vs, born := e.born }) = (List.map (mEnt (n == 0)) es).set j { key := vInts (n == 0) ks, val := vInts false vs, born := e1.2.2 } := by
        refine List.ext_getElem? fun i => ?_
        rw [List.getElem?_modify, List.getElem?_set, List.getElem?_map]
        have hl := (List.getElem?_eq_some_iff.1 he1).1
        by_cases hij : j = i
        · subst hij
          simp only [he1, Option.map_some, if_true, List.length_map, hl, Option.map_eq_map, mEnt]
        · simp [hij]
      simp [Instr.mapUpdate, run_underlying ht, MapKept.run_getObj_map hb3, KK.check w false hkl, g1, he1, mEnt, g3', KK.stays w hkl, MapKept.run_setObj_map _ hb3, Result.andThen, ChangeMaps.setBlock, hmod]
  refine wp_skp (w' := ChangeMaps.setBlock w b (.map ((mput es ks vs ck).1.map (mEnt (n == 0))).toArray (mput es ks vs ck).2)) ?_ ?_
  · unfold execOp; rw [ho]
    simp only [hb1, hkv, hvv, Sem.run_bind, hrun, Result.andThen_ok, Sem.run_pure]
  · refine hG _ _ _ _ _ (fun hs => by rw [hsb] at hs; cases hs) h (hr.step hdst (fun _ _ => rfl) (fun _ _ _ h => h) (Nat.le_refl _) (v := undef) (d := .any) trivial trivial ?_)
    refine hr.h.write hh (k := b) (by rw [hb2]; rfl) (only_set w b _) ⟨b, hb2, ?_⟩ trivial
    exact (MapKept.heap_set hb3).1
theorem XCall.del (hM : MapsOk P n) (hok : oks st.env (.xop 2 [n] [xm, xk]) = true) (hsb : sb = false) (hm : evS st.env xm = .own id) (hh : hget st.heap id = some (.mp (n == 0) es ck))
    (hk : evS st.env xk = keyD n ks) (hgk : goodK n ks) (hes : ∀ e ∈ es, goodK n e.1) (hnd : (es.map (·.1)).Nodup)
    (h : K ⟨putO st.env dst .any, eput st.heap id (.mp (n == 0) (mdel es ks) ck), st.nx⟩) : XCall P sb B (.xop 2 [n] [xm, xk]) dst st K := by
  intro o s Z a w K' Q hx hd hdst hr hG
  subst hd
  obtain ⟨c, t, t2, kt, e, m, k, xm', xk', ho, hcal, hargs, hat, ht, h1, h2, hkt, hxs⟩ := xcop_2 hx
  simp only [List.cons.injEq, and_true] at hxs
  obtain ⟨rfl, rfl⟩ := hxs
  have hg : ∀ x ∈ [xm, xk], gS st.env x = true := fun x hx => oks_mem hok hx
  obtain ⟨b, hb1, hb2, hb3⟩ := map_at hr h1 (hg _ (by simp)) hm hh
  have hkv := hr.vr h2 (hg _ (by simp))
  rw [hk] at hkv
  have hkv := keyD_inv hkv
  obtain ⟨KK, hK2⟩ := hM t kt e ht hkt
  obtain ⟨kl, hkl⟩ := hK2 ks hgk
  have hrun : ∀ ty, (Builtin.delete_ #[t, t2] ty #[.map (some b), vInts (n == 0) ks]).run P w = .ok (.tuple #[]) (ChangeMaps.setBlock w b (.map ((mdel es ks).map (mEnt (n == 0))).toArray ck)) := fun ty => by
    rcases KK.find w hkl _ (keys_ok hM ht hkt hes) with ⟨g1, g2⟩ | ⟨j, e0, g1, g2, g3⟩
    · have hne : ∀ e ∈ es, e.1 ≠ ks := fun e he hk => g2 (mEnt (n == 0) e) (List.mem_map.2 ⟨e, he, rfl⟩) (by rw [← hk]; rfl)
      rw [mdel_none hne]
      simp [Builtin.delete_, run_underlying ht, MapKept.run_getObj_map hb3, KK.check w _ hkl, g1, MapKept.run_setObj_map _ hb3, Result.andThen, ChangeMaps.setBlock]
    · obtain ⟨e1, he1, rfl⟩ := (map_get _ _ _ _).1 g2
      have hek : e1.1 = ks := vInts_inj (hes e1 (List.mem_of_getElem? he1)) hgk g3
      rw [mdel_old he1 hek hnd]
      have hl := (List.getElem?_eq_some_iff.1 he1).1
      have hsub : (es.map (mEnt (n == 0))).toArray.eraseIdxIfInBounds j = ((es.eraseIdx j).map (mEnt (n == 0))).toArray := by
        unfold Array.eraseIdxIfInBounds
        rw [dif_pos (by simpa using hl)]
        apply Array.ext'
        simp [ChangeMaps.map_eraseIdx]
      simp [Builtin.delete_, run_underlying ht, MapKept.run_getObj_map hb3, KK.check w _ hkl, g1, MapKept.run_setObj_map _ hb3, Result.andThen, ChangeMaps.setBlock, hsub, ChangeMaps.map_eraseIdx]
  refine wp_value (v := .tuple #[]) (w' := ChangeMaps.setBlock w b (.map ((mdel es ks).map (mEnt (n == 0))).toArray ck)) ?_ ?_
  · obtain ⟨cal, ars, ats⟩ := c
    obtain ⟨ars⟩ := ars
    obtain ⟨ats⟩ := ats
    simp only at hargs hat hcal
    subst hargs hat hcal
    unfold execOp; rw [ho]
    simp only [resolve, invoke, builtin, Sem.run_bind, Sem.run_pure, Result.andThen_ok, List.map_toArray, List.map_cons, List.map_nil, hb1, hkv, hrun]
  · refine hG _ _ _ _ _ (fun hs => by rw [hsb] at hs; cases hs) h (hr.step hdst (fun _ _ => rfl) (fun _ _ _ h => h) (Nat.le_refl _) (v := .tuple #[]) (d := .any) trivial trivial ?_)
    refine hr.h.write hh (k := b) (by rw [hb2]; rfl) (only_set w b _) ⟨b, hb2, ?_⟩ trivial
    exact (MapKept.heap_set hb3).1
theorem XCall.len (hok : oks st.env (.xop 3 [n] [xm]) = true) (hm : evS st.env xm = .own id) {bare : Bool} (hh : hget st.heap id = some (.mp bare es ck))
    (h : K ⟨putO st.env dst (.int .i64 es.length), st.heap, st.nx⟩) : XCall P sb B (.xop 3 [n] [xm]) dst st K := by
  intro o s Z a w K' Q hx hd hdst hr hG
  subst hd
  obtain ⟨c, t, kt, e, m, xm', ho, hcal, hargs, hat, ht, h1, hkt, hxs⟩ := xcop_3 hx
  simp only [List.cons.injEq, and_true] at hxs
  subst hxs
  obtain ⟨b, hb1, hb2, hb3⟩ := map_at hr h1 (oks_mem hok (by simp [opnds])) hm hh
  refine wp_value (v := .int .i64 es.length) (w' := w) ?_ ?_
  · obtain ⟨cal, ars, ats⟩ := c
    obtain ⟨ars⟩ := ars
    obtain ⟨ats⟩ := ats
    simp only at hargs hat hcal
    subst hargs hat hcal
    unfold execOp; rw [ho]
    simp [resolve, invoke, builtin, Builtin.len_, run_underlying ht, goInt, hb1, MapKept.run_getObj_map hb3, Result.andThen]
  · exact hG _ _ _ _ _ (fun _ => Below.refl _ _) h (hr.put hdst (VT.int .i64 _) trivial)
theorem XCall.range (hok : oks st.env (.xop 4 [n] [xm]) = true) (hm : evS st.env xm = .own id) {bare : Bool} (hh : hget st.heap id = some (.mp bare es ck))
    (h : K ⟨putO st.env dst (.ptr st.nx 0), eput st.heap st.nx (.it id ck [] ck), st.nx + 1⟩) : XCall P sb B (.xop 4 [n] [xm]) dst st K := by
  intro o s Z a w K' Q hx hd hdst hr hG
  subst hd
  obtain ⟨t, kt, e, m, xm', ho, ht, h1, hkt, hxs⟩ := xcop_4 hx
  simp only [List.cons.injEq, and_true] at hxs
  subst hxs
  obtain ⟨b, hb1, hb2, hb3⟩ := map_at hr h1 (oks_mem hok (by simp [opnds])) hm hh
  refine wp_value (v := .pointer (some ⟨w.heap.size, 0, none⟩)) (w' := w.alloc (.mapIter (some b) ck #[] ck)) ?_ ?_
  · unfold execOp; rw [ho]
    simp [Instr.range, run_underlying ht, hb1, MapKept.run_getObj_map hb3, newObj, Sem.run, Result.andThen]
  · have hbel : Below w.heap.size w (w.alloc (.mapIter (some b) ck #[] ck)) := (Below.refl _ _).alloc (Nat.le_refl _) _
    have hidn := (hr.h.lt id _ hh).1
    refine hG _ _ _ _ _ (fun _ => hbel) h (hr.step hdst (upd_lt s st.nx _) (fun _ _ _ h => h) (by omega) (v := .pointer (some ⟨w.heap.size, 0, none⟩)) ?_ ?_ (hr.h.new hbel (v := .pointer (some ⟨w.heap.size, 0, none⟩)) ⟨w.heap.size, b, rfl, ?_, ?_⟩ ?_ (fun k hk => ?_)))
    · exact VC.new s Z st.nx w.heap.size
    · exact Nat.lt_succ_self _
    · rw [upd_lt _ _ _ _ hidn]; exact hb2
    · exact (MapKept.heap_alloc w _).1
    · show id < st.nx + 1
      omega
    · cases hk; exact Nat.le_refl _
theorem it_at {s : Nat → Value} {Z : Cells} {a : Act} {w : World} (hr : Rel B s Z st a w) {m : Operand} (hop : opdC m = some xm) (hg : gS st.env xm = true) {it since last : Nat} {seen : List Nat} (hm : evS st.env xm = .ptr it 0) (hh : hget st.heap it = some (.it id since seen last)) :
    ∃ r b, a.eval m = .pointer (some ⟨r, 0, none⟩) ∧ s it = .pointer (some ⟨r, 0, none⟩) ∧ s id = .map (some b) ∧ w.heap[r]? = some (.mapIter (some b) since seen.toArray last) := by
  have h1 := hr.vr hop hg
  rw [hm] at h1
  obtain ⟨c, h1, h2⟩ := h1
  obtain ⟨r, b, h3, h4, h5⟩ := hr.h.ob it _ hh
  rw [h3] at h1
  cases h1
  exact ⟨_, b, h2, h3, h4, h5⟩
theorem XCall.next {it since last : Nat} {seen : List Nat} (hok : oks st.env (.xop 5 [] [xm]) = true) (hm : evS st.env xm = .ptr it 0) (hi : hget st.heap it = some (.it id since seen last)) (hh : hget st.heap id = some (.mp (n == 0) es ck))
    (hsb : sb = false) (hb : ∀ e ∈ es, e.2.2 < since) (hsl : since ≤ last)
    (h0 : (∀ e ∈ es, e.2.2 ∈ seen) → K ⟨putO st.env dst (.tup [.bool false]), st.heap, st.nx⟩)
    (h1 : ∀ e ∈ es, e.2.2 ∉ seen → K ⟨putO st.env dst (.tup [.bool true, keyD n e.1, .agg (e.2.1.map (.int .i64))]), eput st.heap it (.it id since (seen ++ [e.2.2]) ck), st.nx⟩) : XCall P sb B (.xop 5 [] [xm]) dst st K := by
  intro o s Z a w K' Q hx hd hdst hr hG
  subst hd
  obtain ⟨m, xm', ho, hopd, hxs⟩ := xcop_5 hx
  simp only [List.cons.injEq, and_true] at hxs
  subst hxs
  obtain ⟨r, b, hr1, hr2, hr3, hr4⟩ := it_at hr hopd (oks_mem hok (by simp [opnds])) hm hi
  obtain ⟨b', hb2, hb3⟩ := hr.h.ob id _ hh
  have hbb : b' = b := by rw [hr3] at hb2; cases hb2; rfl
  subst hbb
  rcases run_next_at (P := P) w o.type r b' since last seen.toArray _ ck hr4 hb3 (fun x hx => by
      obtain ⟨e, he, rfl⟩ := List.mem_map.1 hx
      exact hb e he) hsl with ⟨g1, g2⟩ | ⟨e, he, w1, hw1, g2⟩
  · refine wp_value (v := .tuple #[.bool false]) (w' := w) ?_ ?_
    · unfold execOp; rw [ho]
      simp only [hr1, Sem.run_bind, g2, Result.andThen_ok, Sem.run_pure]
    · refine hG _ _ _ _ _ (fun _ => Below.refl _ _) (h0 fun e he => ?_) (hr.put hdst ⟨_, rfl, rfl, fun j x hx => ?_⟩ (fun d hd => ?_))
      · have hsz : leftOf ((es.map (mEnt (n == 0))).toArray) seen.toArray = #[] := Array.eq_empty_of_size_eq_zero g1
        refine Classical.byContradiction fun hn => ?_
        have : mEnt (n == 0) e ∈ leftOf ((es.map (mEnt (n == 0))).toArray) seen.toArray := by
          unfold leftOf
          rw [Array.mem_filter]
          refine ⟨by simp only [List.mem_toArray]; exact List.mem_map.2 ⟨e, he, rfl⟩, ?_⟩
          simpa [mEnt] using hn
        rw [hsz] at this
        simp at this
      · match j, hx with
        | 0, hx => obtain rfl := Option.some.inj hx; exact VT.bool false
        | j + 1, hx => cases (show (none : Option D) = some x from hx)
      · simp at hd; subst hd; trivial
  · have hmem : ∃ e0 ∈ es, e = mEnt (n == 0) e0 ∧ e0.2.2 ∉ seen := by
      have he : e ∈ leftOf ((es.map (mEnt (n == 0))).toArray) seen.toArray := by simpa using he
      unfold leftOf at he
      rw [Array.mem_filter] at he
      obtain ⟨p1, p2⟩ := he
      have p1 : e ∈ es.map (mEnt (n == 0)) := by simpa using p1
      obtain ⟨e0, h1, rfl⟩ := List.mem_map.1 p1
      exact ⟨e0, h1, rfl, by simpa [mEnt] using p2⟩
    obtain ⟨e0, he0, rfl, hns⟩ := hmem
    have hw : Only r w (ChangeMaps.setBlock w1 r (.mapIter (some b') since (seen.toArray.push (mEnt (n == 0) e0).born) ck)) := by
      rcases hw1 with rfl | rfl
      · exact only_set _ _ _
      · exact ⟨rfl, rfl, rfl, (by show (w.heap.setIfInBounds r _).size = w.heap.size; simp), fun k hk => (by show (w.heap.setIfInBounds r _)[k]? = w.heap[k]?; simp [Ne.symm hk])⟩
    have hw4 : (ChangeMaps.setBlock w1 r (.mapIter (some b') since (seen.toArray.push (mEnt (n == 0) e0).born) ck)).heap[r]? = some (.mapIter (some b') since (seen.toArray.push (mEnt (n == 0) e0).born) ck) := by
      rcases hw1 with rfl | rfl
      · exact (MapKept.heap_set hr4).1
      · exact (MapKept.heap_set (w := w.drew) hr4).1
    refine wp_value (v := .tuple #[.bool true, (mEnt (n == 0) e0).key, (mEnt (n == 0) e0).val]) (w' := ChangeMaps.setBlock w1 r (.mapIter (some b') since (seen.toArray.push (mEnt (n == 0) e0).born) ck)) ?_ ?_
    · unfold execOp; rw [ho]
      simp only [hr1, Sem.run_bind, g2, Result.andThen_ok, Sem.run_pure]
    · have hidl := (hr.h.lt it _ hi).2
      refine hG _ _ _ _ _ (fun hs => by rw [hsb] at hs; cases hs) (h1 e0 he0 hns) (hr.step hdst (fun _ _ => rfl) (fun _ _ _ h => h) (Nat.le_refl _) ⟨_, rfl, rfl, fun j x hx => ?_⟩ (fun d hd => ?_) ?_)
      · match j, hx with
        | 0, hx => obtain rfl := Option.some.inj hx; exact VT.bool true
        | 1, hx => obtain rfl := Option.some.inj hx; exact keyD_mk s Z n e0.1
        | 2, hx => obtain rfl := Option.some.inj hx; exact aggI_mk s Z e0.2.1
        | j + 3, hx => cases (show (none : Option D) = some x from hx)
      · simp at hd
        rcases hd with rfl | rfl | rfl
        · trivial
        · exact keyD_lt n _ _
        · exact aggI_lt _ _
      · refine hr.h.write hi (k := r) (by rw [hr2]; rfl) hw ⟨r, b', hr2, hr3, ?_⟩ hidl
        rw [hw4]
        simp [mEnt]
theorem XCall.entry {it since : Nat} {seen : List Nat} {e : Ent} (hok : oks st.env (.xop 6 [] [xm]) = true) (hm : evS st.env xm = .ptr it 0) (hi : hget st.heap it = some (.it id since (seen ++ [e.2.2]) ck)) (hh : hget st.heap id = some (.mp (n == 0) es ck))
    (he : e ∈ es) (hnd : (es.map (·.2.2)).Nodup)
    (h : K ⟨putO st.env dst (.tup [keyD n e.1, .agg (e.2.1.map (.int .i64))]), st.heap, st.nx⟩) : XCall P sb B (.xop 6 [] [xm]) dst st K := by
  intro o s Z a w K' Q hx hd hdst hr hG
  subst hd
  obtain ⟨m, xm', ho, hopd, hxs⟩ := xcop_6 hx
  simp only [List.cons.injEq, and_true] at hxs
  subst hxs
  obtain ⟨r, b, hr1, hr2, hr3, hr4⟩ := it_at hr hopd (oks_mem hok (by simp [opnds])) hm hi
  obtain ⟨b', hb2, hb3⟩ := hr.h.ob id _ hh
  have hbb : b' = b := by rw [hr3] at hb2; cases hb2; rfl
  subst hbb
  have hrun := run_entry_at (P := P) w r b' since seen.toArray _ ck (mEnt (n == 0) e) (by rw [hr4]; simp [mEnt]) hb3 (List.mem_map.2 ⟨e, he, rfl⟩) (by simpa [Function.comp_def, mEnt] using hnd)
  refine wp_value (v := .tuple #[(mEnt (n == 0) e).key, (mEnt (n == 0) e).val]) (w' := w) ?_ ?_
  · unfold execOp; rw [ho]
    simp only [hr1, Sem.run_bind, hrun, Result.andThen_ok, Sem.run_pure]
  · refine hG _ _ _ _ _ (fun _ => Below.refl _ _) h (hr.put hdst ⟨_, rfl, rfl, fun j x hx => ?_⟩ (fun d hd => ?_))
    · match j, hx with
      | 0, hx => obtain rfl := Option.some.inj hx; exact keyD_mk s Z n e.1
      | 1, hx => obtain rfl := Option.some.inj hx; exact aggI_mk s Z e.2.1
      | j + 2, hx => cases (show (none : Option D) = some x from hx)
    · simp at hd
      rcases hd with rfl | rfl
      · exact keyD_lt n _ _
      · exact aggI_lt _ _
end
end Go.Proofs.Ytfkeddefajkobaa
