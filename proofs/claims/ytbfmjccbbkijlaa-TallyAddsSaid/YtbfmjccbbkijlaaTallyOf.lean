/- This text proves what tally.Of counts, of outputs whose kinds and whys are within their bounds. -/
import Derived.Test.YtbfmjccbbkijlaaTally
namespace Go.Proofs.Ytbfmjccbbkijlaa
open Go.ChangeShapes Go.WideShapes Go.ChangeAt Go.RowKit

/-- within their bounds -/
structure OutFits (o : Outp) : Prop where
  k0 : 1 ≤ o.kind
  k1 : o.kind ≤ 10
  w0 : 0 ≤ o.why
  w1 : o.why ≤ 5

def bump (c : List Int) (i : Nat) : List Int := c.set i (c.getD i 0 + 1)
/-- the counts behind one output more: eleven of kinds, six of whys -/
def tallyStep (c : List Int) (o : Outp) : List Int := if o.kind = 6 then bump (bump c o.kind.toNat) (11 + o.why.toNat) else bump c o.kind.toNat
def tallyL (l : List Outp) : List Int := l.foldl tallyStep (List.replicate 17 0)
theorem bump_len (c : List Int) (i : Nat) : (bump c i).length = c.length := by simp [bump]
theorem tallyStep_len (c : List Int) (o : Outp) : (tallyStep c o).length = c.length := by
  unfold tallyStep; split <;> simp [bump_len]
theorem bump_get (c : List Int) (i j : Nat) (hi : i < c.length) : (bump c i).getD j 0 = c.getD j 0 + (if i = j then 1 else 0) := by
  unfold bump
  by_cases h : i = j
  · subst h; simp [List.getD, hi]
  · simp [List.getD, List.getElem?_set_ne h, h]
theorem bump_bd (c : List Int) (i : Nat) (hi : i < c.length) (n : Int) (h : ∀ j, 0 ≤ c.getD j 0 ∧ c.getD j 0 ≤ n) : ∀ j, 0 ≤ (bump c i).getD j 0 ∧ (bump c i).getD j 0 ≤ n + 1 := by
  intro j
  have := h j
  rw [bump_get c i j hi]
  split <;> omega
def ints (c : List Int) : Array Value := (c.map (Value.int .i64)).toArray
theorem ints_get (c : List Int) (i : Nat) (h : i < c.length) : (ints c)[i]? = some (.int .i64 (c.getD i 0)) := by
  simp [ints, h, List.getD]
theorem ints_set (c : List Int) (i : Nat) (x : Int) : (ints c).setIfInBounds i (.int .i64 x) = ints (c.set i x) := by
  simp [ints, List.map_set]
theorem ints_bump (c : List Int) (i : Nat) : (ints c).setIfInBounds i (.int .i64 (c.getD i 0 + 1)) = ints (bump c i) := ints_set c i _

theorem ints_zero : ints (List.replicate 17 0) = #[.int .i64 0, .int .i64 0, .int .i64 0, .int .i64 0, .int .i64 0, .int .i64 0, .int .i64 0, .int .i64 0, .int .i64 0, .int .i64 0, .int .i64 0, .int .i64 0, .int .i64 0, .int .i64 0, .int .i64 0, .int .i64 0, .int .i64 0] := rfl

theorem Try.infoCounts : (Try.prog.info? 41).map (·.size) = some 17 := by kernel_rfl

theorem tallyFits_ok (x : Outp) (w : World) (h : OutFits x) :
    Calls Try.prog 30 #[.agg #[.int .i64 x.kind, .int .i64 x.slot, .int .i64 x.gen, .int .i64 x.backend, .int .i64 x.request, .int .i64 x.code, .int .i64 x.why]] w fun e w' => e = .returned (.bool true) ∧ Below w.heap.size w w' := by
  obtain ⟨h1, h2, h3, h4⟩ := h
  go_enter Try.func30, Try.ntmps30
  go_wp2
  go_ret
  exact ⟨ret_bool (by simp), by go_grown⟩

theorem tallyOf_ok (l : List Outp) (v : Value) (w : World) (hl : l.length ≤ 1000000) (hv : Sl w 7 outE v l) (hok : ∀ x ∈ l, OutFits x) :
    Calls Try.prog 23 #[v] w fun e w' => e = .returned (.tuple #[.agg (ints (tallyL l)), .int .i64 0]) ∧ Below w.heap.size w w' := by
  obtain ⟨ad, cap, rfl, hcap, _, hcell⟩ := hv
  have HC := Lib.hid hcell; clear hcell
  have HO := Lib.hid hok; clear hok
  go_enter Try.func23, Try.ntmps23
  go_wp2_with fail
  go_loopw [9] (fun i wr => ∃ (k : Nat) (c : List Int), k ≤ l.length ∧ i = .int .i64 k ∧ Below w.heap.size w wr ∧ Hid (c = tallyL (l.take k)) ∧ Hid (c.length = 17) ∧ Hid (∀ j, 0 ≤ c.getD j 0 ∧ c.getD j 0 ≤ 2 * k) ∧ Box wr (w.heap.size + 1) (ints c) ∧ Box wr w.heap.size (ints (List.replicate 17 0))) (fun i wr => l.length - (intOf i).toNat)
  case atStart =>
    refine ⟨0, List.replicate 17 0, by omega, rfl, by go_grown, rfl, rfl, ?_, ?_, ?_⟩
    · intro j
      have h : (List.replicate 17 (0 : Int)).getD j 0 = 0 := by
        rw [List.getD_eq_getElem?_getD, List.getElem?_replicate]; split <;> rfl
      rw [h]; omega
    · rw [ints_zero]
      repeat' (first | (with_reducible assumption) | (with_reducible refine Box.new_at _ _ (by first | rfl | (simp; done) | (simp; omega))) | (with_reducible refine Box.alloc ?_ _) | (with_reducible refine Box.drew ?_) | (with_reducible apply Box.set_at) | (with_reducible refine Box.far ?_ ?_ _) | rfl | omega | (simp; done) | (simp; omega))
    · rw [ints_zero]
      repeat' (first | (with_reducible assumption) | (with_reducible refine Box.new_at _ _ (by first | rfl | (simp; done) | (simp; omega))) | (with_reducible refine Box.alloc ?_ _) | (with_reducible refine Box.drew ?_) | (with_reducible apply Box.set_at) | (with_reducible refine Box.far ?_ ?_ _) | rfl | omega | (simp; done) | (simp; omega))
  case round =>
    obtain ⟨k, c, hk, rfl, hB, hc, hclen, hcb, Y1_wr, Y2_wr⟩ := hrel
    have Y1 := Y1_wr
    have Y2 := Y2_wr
    have hB0 := hB.size
    have l1 := Y1.lt
    have l2 := Y2.lt
    by_cases hlt : k < l.length
    · obtain ⟨b, off, rfl, hb, hcells⟩ := HC.out (by intro h; subst h; simp at hlt)
      have hx : l[k]? = some l[k] := List.getElem?_eq_getElem hlt
      have hd0 : w.cell? ⟨b, off + k * 7, none⟩ = some (.int .i64 l[k].kind) := hcells k _ 0 _ hx rfl
      have hd1 : w.cell? ⟨b, off + k * 7 + 1, none⟩ = some (.int .i64 l[k].slot) := hcells k _ 1 _ hx rfl
      have hd2 : w.cell? ⟨b, off + k * 7 + 2, none⟩ = some (.int .i64 l[k].gen) := hcells k _ 2 _ hx rfl
      have hd3 : w.cell? ⟨b, off + k * 7 + 3, none⟩ = some (.int .i64 l[k].backend) := hcells k _ 3 _ hx rfl
      have hd4 : w.cell? ⟨b, off + k * 7 + 4, none⟩ = some (.int .i64 l[k].request) := hcells k _ 4 _ hx rfl
      have hd5 : w.cell? ⟨b, off + k * 7 + 5, none⟩ = some (.int .i64 l[k].code) := hcells k _ 5 _ hx rfl
      have hd6 : w.cell? ⟨b, off + k * 7 + 6, none⟩ = some (.int .i64 l[k].why) := hcells k _ 6 _ hx rfl
      obtain ⟨hcr, hfr⟩ := bcell hB
      have FT := Lib.hid (HO.out l[k] (List.getElem_mem hlt))
      have fk0 := FT.out.k0
      have fk1 := FT.out.k1
      have fw0 := FT.out.w0
      have fw1 := FT.out.w1
      have hk0 : (0 : Int) ≤ (k : Int) := by omega
      have hk1 : (k : Int) < (l.length : Int) := by omega
      have hnext : ∀ c', c' = tallyStep c l[k] → Hid (c' = tallyL (l.take (k + 1))) := fun c' h => by
        show c' = _
        rw [h, hc.out]
        unfold tallyL
        rw [List.take_succ_eq_append_getElem hlt, List.foldl_append, List.foldl_cons, List.foldl_nil]
      clear hcells hx
      generalize l[k] = x at *
      obtain ⟨x0, x1, x2, x3, x4, x5, x6⟩ := x
      dsimp only at *
      go_wp2_with fail
      refine (tallyFits_ok ⟨x0, x1, x2, x3, x4, x5, x6⟩ _ FT.out).mono ?_
      rintro e w1 ⟨rfl, hb_w1⟩
      have hB_w1 : Below w.heap.size w w1 := (show Below w.heap.size w _ by go_grown).trans (hb_w1.mono (by go_size))
      have hs_w1 := hB_w1.size
      have hz_w1_wr_0 : wr.heap.size < w1.heap.size := Nat.lt_of_lt_of_le (by go_size) hb_w1.size
      have Z_w1 : Box w1 (wr.heap.size) (#[.int .i64 x0, .int .i64 x1, .int .i64 x2, .int .i64 x3, .int .i64 x4, .int .i64 x5, .int .i64 x6]) := Box.call (by repeat' (first | (with_reducible assumption) | (with_reducible refine Box.new_at _ _ (by first | rfl | (simp; done) | (simp; omega))) | (with_reducible refine Box.alloc ?_ _) | (with_reducible refine Box.drew ?_) | (with_reducible apply Box.set_at) | (with_reducible refine Box.far ?_ ?_ _) | rfl | omega | (simp; done) | (simp; omega))) hb_w1
      have Z_w1_l := Z_w1.lt
      have Z_w1_c0 := Z_w1.cell 0 _ rfl
      have Z_w1_f0 := Z_w1.frozen 0
      have Z_w1_c1 := Z_w1.cell 1 _ rfl
      have Z_w1_f1 := Z_w1.frozen 1
      have Z_w1_c2 := Z_w1.cell 2 _ rfl
      have Z_w1_f2 := Z_w1.frozen 2
      have Z_w1_c3 := Z_w1.cell 3 _ rfl
      have Z_w1_f3 := Z_w1.frozen 3
      have Z_w1_c4 := Z_w1.cell 4 _ rfl
      have Z_w1_f4 := Z_w1.frozen 4
      have Z_w1_c5 := Z_w1.cell 5 _ rfl
      have Z_w1_f5 := Z_w1.frozen 5
      have Z_w1_c6 := Z_w1.cell 6 _ rfl
      have Z_w1_f6 := Z_w1.frozen 6
      obtain ⟨hc_w1, hf_w1⟩ := bcell hB_w1
      have Y1' := (Y1.alloc (.cells #[.int .i64 x0, .int .i64 x1, .int .i64 x2, .int .i64 x3, .int .i64 x4, .int .i64 x5, .int .i64 x6] 58)).call hb_w1
      have Y2' := (Y2.alloc (.cells #[.int .i64 x0, .int .i64 x1, .int .i64 x2, .int .i64 x3, .int .i64 x4, .int .i64 x5, .int .i64 x6] 58)).call hb_w1
      have lY := Y1'.lt
      have lZ := Y2'.lt
      by_cases h6 : x0 = 6
      · subst h6
        obtain ⟨n, hn⟩ : ∃ n, n = c.getD 6 0 := ⟨_, rfl⟩
        have fY := Y1'.frozen 6
        have dY : w1.cell? ⟨w.heap.size + 1, 6, none⟩ = some (.int .i64 n) := by rw [hn]; exact Y1'.cell 6 _ (ints_get c 6 (by rw [hclen.out]; omega))
        have bY : 0 ≤ n ∧ n ≤ 2 * k := by rw [hn]; exact hcb.out 6
        have YY : Box (w1.setCell ⟨w.heap.size + 1, 6, none⟩ (.int .i64 (n + 1))) (w.heap.size + 1) (ints (bump c 6)) := Y1'.set_at 6 _ (by rw [hn]; exact ints_bump c 6)
        have hcn : Hid (bump (bump c 6) (11 + x6.toNat) = tallyL (l.take (k + 1))) := hnext _ rfl
        have h17 : (bump c 6).length = 17 := by rw [bump_len]; exact hclen.out
        have hbb := bump_bd c 6 (by rw [hclen.out]; omega) _ hcb.out
        have hx11 : 11 + x6.toNat < (bump c 6).length := by rw [h17]; omega
        obtain ⟨m, hm⟩ : ∃ m, m = (bump c 6).getD (11 + x6.toNat) 0 := ⟨_, rfl⟩
        have dZ : (w1.setCell ⟨w.heap.size + 1, 6, none⟩ (.int .i64 (n + 1))).cell? ⟨w.heap.size + 1, 11 + x6.toNat, none⟩ = some (.int .i64 m) := by rw [hm]; exact YY.cell _ _ (ints_get _ _ hx11)
        have fZ := YY.frozen (11 + x6.toNat)
        have bZ : 0 ≤ m ∧ m ≤ 2 * k + 1 := by rw [hm]; exact hbb _
        have ZZ : Box ((w1.setCell ⟨w.heap.size + 1, 6, none⟩ (.int .i64 (n + 1))).setCell ⟨w.heap.size + 1, 11 + x6.toNat, none⟩ (.int .i64 (m + 1))) (w.heap.size + 1) (ints (bump (bump c 6) (11 + x6.toNat))) := YY.set_at _ _ (by rw [hm]; exact ints_bump _ _)
        have hbc := bump_bd _ (11 + x6.toNat) hx11 _ hbb
        have h17' : (bump (bump c 6) (11 + x6.toNat)).length = 17 := by rw [bump_len]; exact h17
        have H1 := Lib.hid ZZ
        have H2 := Lib.hid hbc
        have H3 := Lib.hid h17'
        have H4 := Lib.hid Y2'
        clear YY ZZ hbc h17' h17 hbb hx11 hm hn Y1' Y2' Y1 Y2 hnext
        generalize bump (bump c 6) (11 + x6.toNat) = c2 at *
        go_wp2_with fail
        go_roundw
        case rel =>
          refine ⟨k + 1, c2, by omega, by go_num, by go_grown, hcn, H3.out, fun j => ?_, H1.out, ?_⟩
          · have := H2.out j; omega
          · exact (H4.out.far (by simp) _).far (by simp) _
        case measure => simp [intOf]; omega
      · obtain ⟨n, hn⟩ : ∃ n, n = c.getD x0.toNat 0 := ⟨_, rfl⟩
        have fY := Y1'.frozen x0.toNat
        have dY : w1.cell? ⟨w.heap.size + 1, x0.toNat, none⟩ = some (.int .i64 n) := by rw [hn]; exact Y1'.cell x0.toNat _ (ints_get c x0.toNat (by rw [hclen.out]; omega))
        have bY : 0 ≤ n ∧ n ≤ 2 * k := by rw [hn]; exact hcb.out x0.toNat
        have YY : Box (w1.setCell ⟨w.heap.size + 1, x0.toNat, none⟩ (.int .i64 (n + 1))) (w.heap.size + 1) (ints (bump c x0.toNat)) := Y1'.set_at _ _ (by rw [hn]; exact ints_bump c _)
        have hcn : Hid (bump c x0.toNat = tallyL (l.take (k + 1))) := hnext _ (by unfold tallyStep; rw [if_neg h6])
        have h17 : (bump c x0.toNat).length = 17 := by rw [bump_len]; exact hclen.out
        have hbb := bump_bd c x0.toNat (by rw [hclen.out]; omega) _ hcb.out
        have H1 := Lib.hid YY
        have H2 := Lib.hid hbb
        have H3 := Lib.hid h17
        have H4 := Lib.hid Y2'
        have h6' : (x0 == 6) = false := by simpa using h6
        clear YY hbb h17 hn Y1' Y2' Y1 Y2 hnext h6
        generalize bump c x0.toNat = c2 at *
        go_wp2_with fail
        go_roundw
        case rel =>
          refine ⟨k + 1, c2, by omega, by go_num, by go_grown, hcn, H3.out, fun j => ?_, H1.out, ?_⟩
          · have := H2.out j; omega
          · exact H4.out.far (by simp) _
        case measure => simp [intOf]; omega
    · have e : c = tallyL l := by rw [hc.out, List.take_of_length_le (by omega)]
      have E := Lib.hid e
      have hsz : (Try.prog.info? 41).map (·.size) = some (ints c).size := by rw [Try.infoCounts]; simp [ints, hclen.out]
      have hs0 : (ints (List.replicate 17 0)).size = (ints c).size := by simp [ints, hclen.out]
      have h1 : (ints c).all (·.oneCell') = true := by simp [ints, Value.oneCell']
      have HS := Lib.hid hsz
      have HS0 := Lib.hid hs0
      have H1 := Lib.hid h1
      clear e hc hcb hclen Y1 Y2 hsz hs0 h1
      generalize hcs : ints c = cs at *
      have HCS := Lib.hid hcs
      clear hcs
      go_wp2_with (first | (refine wpList_load_box rfl 41 (.tmp 4) rfl (w.heap.size + 1) (by rfl) cs _ Y1_wr Try.underlying41 rfl HS.out ?_) | (refine wpList_store_box rfl 41 (.tmp 2) (.tmp 37) rfl w.heap.size _ cs (by rfl) (by rfl) Y2_wr HS0.out HS.out H1.out ?_; intro w2 Z2 ho2))
      have hB2 := hB.trans (ho2.below (Nat.le_refl _))
      exact bodyPost_ret (v := .tuple #[.agg cs, .int .i64 0]) (results_box Try.results23 (by rfl) Z2 Try.underlying41 rfl HS.out) rfl ⟨by rw [← E.out, HCS.out], hB2⟩
end Go.Proofs.Ytbfmjccbbkijlaa
