/- What the program computes, step by step, and the rules for it. No condition of its own. -/
import Derived.Test.YtbhcfldafpndbaaDoorLac
import Derived.WalkKit
import Derived.ProofKit
import Derived.Handy
import Derived.WalkLawsBesides
import Derived.Lib.Hide
import Derived.Deep.RegionHeld3
import Derived.Deep.QuietTactic
import Derived.BigQuiet
import Derived.Deep.LoopGhost
import Derived.Outline
import Derived.Scope
import Derived.KernelRfl
import Derived.Deep.AppendLies
import Derived.Deep.OwnShut
import Derived.Deep.Slices
import Derived.Deep.Onto
import Derived.Laws.AppendOwnNone
import Derived.Lib.Split
import Derived.Lib.AtoiAll
import Derived.Lib.ItoaNum
import Derived.Lib.ItoaLen
set_option linter.unusedSimpArgs false
set_option linter.unusedVariables false
set_option maxRecDepth 100000
set_option maxHeartbeats 8000000
namespace Go.Proofs.YtbhcfldafpndbaaDoor
open Go.ChangeShapes Go.WideShapes Go.ChangeAt Go.RowKit
def pickedZ (n many : Int) : Int := (if n < 0 then -(n+1) else n) % many
theorem pickedZ_range (n many : Int) (h : 1 ≤ many) : 0 ≤ pickedZ n many ∧ pickedZ n many < many := by
 unfold pickedZ
 exact ⟨Int.emod_nonneg _ (by omega),Int.emod_lt_of_pos _ (by omega)⟩
end Go.Proofs.YtbhcfldafpndbaaDoor
namespace Go.Proofs.YtbhcfldafpndbaaDoor
open Go.RowKit
section
variable {P : Program} {B : Base} {hw : List FuncId} {Q Q' : Ex → St → Prop} {st st1 : St} {s : Nat → Value} {Z : Cells} {a : Act} {w : World}
theorem Gh.refl (st : St) : Gh B st st := fun s Z _ _ h => ⟨s,Z,h⟩
theorem Gh.trans {st2 : St} (h : Gh B st st1) (g : Gh B st1 st2) : Gh B st st2 := fun s Z a w hr => by
 obtain ⟨s',Z',h'⟩ := h s Z a w hr
 exact g s' Z' a w h'
end
section
variable {P : Program} {B : Base} {hw : List FuncId} {Q Q' : Ex → St → Prop} {st st1 : St} {sb : Bool} {K : St → Prop}
theorem Gh.of_eq (h : st = st1) : Gh B st st1 := h ▸ Gh.refl st
end
section
variable {B : Base} {st : St}
theorem Gh.adopt (k sz : Nat) (h0 : 0 < sz) (hk : eget st.env k = .nil0) : Gh B st ⟨eput st.env k (.own st.nx),eput st.heap st.nx (.row sz []),st.nx + 1⟩ := by
 intro s Z a w hr
 have hv := hr.env k
 rw [hk] at hv
 have hv : VT Z .nil0 (a.tmps.getD k undef) := hv
 generalize hav : a.tmps.getD k undef = v at hv
 cases hv with
 | nil0 q =>
 have hH := hr.h.new (w' := w) (v := .slice q 0 0) (ob := .row sz []) (Below.refl _ _) ⟨h0,(fun _ h => by cases h),.inl ⟨rfl,q,rfl⟩⟩ trivial (fun k hk => by cases q <;> simp [blk] at hk)
 refine ⟨_,Z,fun j => ?_,fun j => ?_,hr.size,hr.defers,hH⟩
 ·rw [eget_eput]
  split
  ·rename_i e;subst e;rw [hav];exact ⟨(upd_same _ _ _).symm,.inl ⟨q,0,0,rfl⟩⟩
  ·exact (hr.env j).mono (fun _ _ _ h => h) (upd_lt s st.nx _) (hr.elt j)
 ·rw [eget_eput]
  split
  ·exact Nat.lt_succ_self _
  ·exact (hr.elt j).mono (Nat.le_succ _)
end
theorem Sl.nil {α : Type} (w : World) (sz : Nat) (E : α → List Value) : Sl w sz E (.slice none 0 0) [] := ⟨none,0,rfl,Nat.le_refl _,fun _ => rfl,fun h => absurd rfl h⟩
end Go.Proofs.YtbhcfldafpndbaaDoor
namespace Go.Proofs.YtbhcfldafpndbaaDoor
open Go.RowKit
attribute [local simp] AK_at acode_seq acode_region acode_draw acode_cond CB_u acode_block acode_loop acode_exit acode_scope acode_ret acode_skip seqQ_n seqQ_e seqQ_r blockQ_n blockQ_e blockQ_r TK_at OK_at SK_at aops_nil aops_cons asch_done asch_one asch_two asch_top astep aop_eq isLoud aloud aloud1 isWrite qv evS strip gof eget hget putO eput herase oks opnds gS afin afin0 binD arith D.cells takeD fillD keep trim envOf Fin aresl aresv resD argOk pickV isP deq deqs boundD slD lenD isT isSl ptrIds chunks mn_min mx_max splice_one splice_more Rbr_at Rfr_at frR frV frC flatC brwR brwV brwC omap leR leV leC leL leVL rnR rnV rnC rnO rho_0 hputs herases rnS LtS LtR LtV LtC LtO lget noV noC flatR flatV rho
attribute [local simp ↓] CB_t CB_f
theorem picked_code : cfun Tryd.prog [] 10 = some ⟨(.seq (qR 0 [oK 4 0]) (.seq (.seq (qR 1 [oM 5 0,oX 6 (.bin .lss (.t 5) (kI 0))]) (.cond 6 (qR 2 [oM 7 0,oX 8 (.bin .add (.t 7) (kI 1)),oX 9 (.neg (.t 8)),oM 0 9]) .skip)) (.seq (qR 3 [oM 10 0,oM 11 1,oX 12 (.bin .rem (.t 10) (.t 11)),oM 4 12]) .ret))),[(.t 4)],13⟩ := by kernel_rfl
theorem picked_pf (n m : Int) (hn : InR n) (hm : 1 ≤ m) : PF Tryd.prog 10 [.int .i64 n,.int .i64 m] (.int .i64 (pickedZ n m)) := by
 refine PF.of follows_ok picked_code (by simp) (by simp) (by simp) fun B _ _ => acode_sound [0,1,4,6] [] _ _ _ ?_
 simp
 refine ⟨fun h => ⟨?_,?_,by omega,?_⟩,fun h => ⟨by omega,?_⟩⟩
 ·unfold InR at *;omega
 ·unfold InR at *;omega
 ·have h2 : ¬ 0 < n + 1 := by omega
  simp [pickedZ,h,h2]
 ·have : ¬ n < 0 := by omega
  simp [pickedZ,this]
end Go.Proofs.YtbhcfldafpndbaaDoor
namespace Go.Proofs.YtbhcfldafpndbaaDoor
open Go.RowKit
theorem spl_none {a : List UInt8} (h : (32 : UInt8) ∉ a) : splS a = [a] := by
 have hi : Lib.index a [32] = -1 := by rw [Lib.index_one];exact byte_none h
 unfold splS Lib.split
 rw [Lib.count_miss hi];rfl
theorem spl_app {a : List UInt8} (r : List UInt8) (h : (32 : UInt8) ∉ a) : splS (a ++ 32 :: r) = a :: splS r := by
 have hi : Lib.index (a ++ 32 :: r) [32] = a.length := by rw [Lib.index_one];exact byte_app r h
 have hc := Lib.count_hit (sub := [32]) (by simp) hi
 have hd : (a ++ 32 :: r).drop (a.length + ([32] : List UInt8).length) = r := by
  simp
 unfold splS Lib.split
 rw [hc,Nat.add_comm,Lib.splitK,if_neg (by rw [hi,beq_iff_eq];omega),hi]
 have e : (a.length : Int).toNat = a.length := by omega
 rw [e,hd]
 simp
theorem dec_dig (u : Nat) : ∀ c ∈ Lib.decDigits u,48 ≤ c.toNat ∧ c.toNat ≤ 57 := by
 induction u using Nat.strongRecOn with
 | _ u ih =>
  intro c hc
  rw [Lib.decDigits] at hc
  split at hc
  ·rw [List.mem_singleton] at hc
   subst hc
   rw [UInt8.toNat_ofNat'];omega
  ·rw [List.mem_append,List.mem_singleton] at hc
   rcases hc with hc | rfl
   ·exact ih (u / 10) (by omega) c hc
   ·rw [UInt8.toNat_ofNat'];omega
theorem dec_ne (u : Nat) : Lib.decDigits u ≠ [] := by
 rw [Lib.decDigits];split <;> simp
theorem parse_snoc : ∀ (l : List UInt8) (acc v : Nat) (c : UInt8),Lib.parseUint10 acc l = .ok v → Lib.parseUint10 acc (l ++ [c]) = Lib.parseUint10 v [c]
 | [],acc,v,c,h => by
  simp only [Lib.parseUint10] at h
  injection h with h
  subst h;rfl
 | b :: l,acc,v,c,h => by
  obtain ⟨q,hq⟩ : ∃ q,q = Lib.parseUint10 v [c] := ⟨_,rfl⟩
  rw [← hq,List.cons_append,Lib.parseUint10]
  rw [Lib.parseUint10] at h
  split at h
  ·rename_i h1
   rw [if_pos h1]
   split at h
   ·cases h
   ·rename_i h2
    rw [if_neg h2]
    split at h
    ·cases h
    ·rename_i h3
     rw [if_neg h3,hq]
     exact parse_snoc l _ v c h
  ·cases h
theorem parse_dec (u : Nat) : u < 9223372036854775808 → Lib.parseUint10 0 (Lib.decDigits u) = .ok u := by
 induction u using Nat.strongRecOn with
 | _ u ih =>
  intro hu
  rw [Lib.decDigits]
  split
  ·have e : (UInt8.ofNat (48 + u)).toNat = 48 + u := by rw [UInt8.toNat_ofNat'];omega
   rw [Lib.parseUint10,e,if_pos (by omega),if_neg (by omega),if_neg (by omega),Lib.parseUint10]
   congr 1;omega
  ·have e : (UInt8.ofNat (48 + u % 10)).toNat = 48 + u % 10 := by rw [UInt8.toNat_ofNat'];omega
   rw [parse_snoc _ _ _ _ (ih (u / 10) (by omega) (by omega)),Lib.parseUint10,e,if_pos (by omega),if_neg (by omega),if_neg (by omega),Lib.parseUint10]
   congr 1;omega
theorem atoi_dec (u : Nat) (h : u < 9223372036854775808) : Lib.atoiAll (Lib.decDigits u) = .ok u := by
 obtain ⟨c,r,hcr⟩ := List.exists_cons_of_ne_nil (dec_ne u)
 have hd := dec_dig u c (by rw [hcr];simp)
 have hp := parse_dec u h
 rw [hcr] at hp ⊢
 have h1 : ¬ (c.toNat = 43 ∨ c.toNat = 45) := by omega
 have h2 : ¬ c.toNat = 45 := by omega
 simp only [Lib.atoiAll,Lib.parseMag,if_neg h1,if_neg (List.cons_ne_nil c r),hp]
 rw [if_neg (by omega),if_neg (fun h => h2 h.1),if_neg h2]
theorem itoa_at {n : Int} (h0 : 0 ≤ n) (h1 : n ≤ 4294967295) : Lib.atoiAll (Lib.itoa n) = .ok n ∧ (32 : UInt8) ∉ Lib.itoa n ∧ (10 : UInt8) ∉ Lib.itoa n := by
 obtain ⟨u,rfl⟩ : ∃ u : Nat,n = u := ⟨n.toNat,by omega⟩
 rw [Lib.itoa_nonneg]
 exact ⟨atoi_dec u (by omega),fun h => by have := dec_dig u _ h;simp at this,fun h => by have := dec_dig u _ h;simp at this⟩
theorem trim_nl (t : List UInt8) : Lib.trimSuffix (t ++ [10]) [10] = t := by
 have h : Lib.hasSuffix (t ++ [10]) [10] = true := by
  unfold Lib.hasSuffix
  rw [List.isSuffixOf_iff_suffix]
  exact ⟨t,rfl⟩
 unfold Lib.trimSuffix
 rw [if_pos h]
 simp
theorem atoiV_itoa {n : Int} (h0 : 0 ≤ n) (h1 : n ≤ 4294967295) : atoiV (Lib.itoa n) = n := by unfold atoiV;rw [(itoa_at h0 h1).1]
theorem spl_num (w : List UInt8) {n : Int} (hw : (32 : UInt8) ∉ w) (h0 : 0 ≤ n) (h1 : n ≤ 4294967295) : splS (w ++ numS n) = [w,Lib.itoa n] := by
 unfold numS;rw [spl_app _ hw,spl_none (itoa_at h0 h1).2.1]
theorem spl_num2 (w r : List UInt8) (n : Int) (hw : (32 : UInt8) ∉ w) : splS (w ++ (numS n ++ r)) = w :: splS (Lib.itoa n ++ r) := by
 unfold numS;rw [List.cons_append,spl_app _ hw]
theorem pieces_line {e : Ev} (h : e.Ok) : piecesM (lineL e) = match e.1 with
  | .op => [e.1.word,Lib.itoa e.2.1] | .da => [e.1.word,Lib.itoa e.2.1,Lib.itoa e.2.2.1] | .cl => [e.1.word,Lib.itoa e.2.1,Lib.itoa e.2.2.1]
  | .an => [e.1.word,Lib.itoa e.2.1,Lib.itoa e.2.2.1,if e.2.2.2 = 1 then [103,111,111,100] else [98,97,100]]
  | .jo => [e.1.word,Lib.itoa e.2.1,Lib.itoa e.2.2.1,Lib.itoa e.2.2.2] | .re => [e.1.word,Lib.itoa e.2.1,Lib.itoa e.2.2.1] | .ti => [e.1.word] := by
 obtain ⟨kd,x,y,z⟩ := e
 have hb := ev_bd h
 unfold piecesM lineL
 rw [trim_nl]
 simp only
 cases kd <;> simp only [EK.len] at hb <;> simp only [EK.args,EK.word,List.append_assoc]
 ·have hx := hb.1 (by omega)
  rw [spl_num _ (by decide) hx.1 hx.2]
 ·have hx := hb.1 (by omega)
  have hy := hb.2.1 (by omega)
  rw [spl_num2 _ _ _ (by decide),spl_num _ (itoa_at hx.1 hx.2).2.1 hy.1 hy.2]
 ·have hx := hb.1 (by omega)
  have hy := hb.2.1 (by omega)
  rw [spl_num2 _ _ _ (by decide),spl_num _ (itoa_at hx.1 hx.2).2.1 hy.1 hy.2]
 ·have hx := hb.1 (by omega)
  have hy := hb.2.1 (by omega)
  rw [spl_num2 _ _ _ (by decide),spl_num2 _ _ _ (itoa_at hx.1 hx.2).2.1]
  unfold goodS
  split
  ·rw [spl_app _ (itoa_at hy.1 hy.2).2.1,spl_none (by decide)]
  ·rw [spl_app _ (itoa_at hy.1 hy.2).2.1,spl_none (by decide)]
 ·have hx := hb.1 (by omega)
  have hy := hb.2.1 (by omega)
  have hz := hb.2.2 (by omega)
  rw [spl_num2 _ _ _ (by decide),spl_num2 _ _ _ (itoa_at hx.1 hx.2).2.1,spl_num _ (itoa_at hy.1 hy.2).2.1 hz.1 hz.2]
 ·have hx := hb.1 (by omega)
  have hy := hb.2.1 (by omega)
  rw [spl_num2 _ _ _ (by decide),spl_num _ (itoa_at hx.1 hx.2).2.1 hy.1 hy.2]
 ·rw [List.append_nil,spl_none (by decide)]
theorem okM_line {e : Ev} (h : e.Ok) : ∃ e' : Ev,okM (lineL e) = some e' ∧ e'.C = e.C := by
 have hp := pieces_line h
 obtain ⟨kd,x,y,z⟩ := e
 have hb := ev_bd h
 have h' : kd.Ok x y z := h
 unfold okM
 rw [hp]
 cases kd <;> simp only [EK.len] at hb
 ·have hx := hb.1 (by omega)
  have e1 := atoiV_itoa hx.1 hx.2
  refine ⟨(.op,x,0,0),?_,rfl⟩
  simp [evL,EK.ofW,EK.word,avM,EK.z3,e1,lineL,EK.args]
  exact h'
 ·have hx := hb.1 (by omega)
  have hy := hb.2.1 (by omega)
  have e1 := atoiV_itoa hx.1 hx.2
  have e2 := atoiV_itoa hy.1 hy.2
  refine ⟨(.da,x,y,0),?_,rfl⟩
  simp [evL,EK.ofW,EK.word,avM,EK.z3,e1,e2,lineL,EK.args]
  exact h'
 ·have hx := hb.1 (by omega)
  have hy := hb.2.1 (by omega)
  have e1 := atoiV_itoa hx.1 hx.2
  have e2 := atoiV_itoa hy.1 hy.2
  refine ⟨(.cl,x,y,0),?_,rfl⟩
  simp [evL,EK.ofW,EK.word,avM,EK.z3,e1,e2,lineL,EK.args]
  exact h'
 ·have hx := hb.1 (by omega)
  have hy := hb.2.1 (by omega)
  have e1 := atoiV_itoa hx.1 hx.2
  have e2 := atoiV_itoa hy.1 hy.2
  by_cases hz : z = 1
  ·subst hz
   refine ⟨(.an,x,y,1),?_,rfl⟩
   simp [evL,EK.ofW,EK.word,avM,EK.z3,goodM,goodS,e1,e2,lineL,EK.args]
   exact h'
  ·have hz0 : z = 0 := by have := h'.2.2;omega
   subst hz0
   refine ⟨(.an,x,y,0),?_,rfl⟩
   simp [evL,EK.ofW,EK.word,avM,EK.z3,goodM,goodS,e1,e2,lineL,EK.args]
   exact h'
 ·have hx := hb.1 (by omega)
  have hy := hb.2.1 (by omega)
  have hz := hb.2.2 (by omega)
  have e1 := atoiV_itoa hx.1 hx.2
  have e2 := atoiV_itoa hy.1 hy.2
  have e3 := atoiV_itoa hz.1 hz.2
  refine ⟨(.jo,x,y,z),?_,rfl⟩
  simp [evL,EK.ofW,EK.word,avM,EK.z3,e1,e2,e3,lineL,EK.args]
  exact h'
 ·have hx := hb.1 (by omega)
  have hy := hb.2.1 (by omega)
  have e1 := atoiV_itoa hx.1 hx.2
  have e2 := atoiV_itoa hy.1 hy.2
  refine ⟨(.re,x,y,0),?_,rfl⟩
  simp [evL,EK.ofW,EK.word,avM,EK.z3,e1,e2,lineL,EK.args]
  exact h'
 ·refine ⟨(.ti,0,0,0),?_,rfl⟩
  simp [evL,EK.ofW,EK.word,avM,EK.z3,lineL,EK.args]
  exact h'
theorem line_nl {e : Ev} (h : e.Ok) : ∃ t,lineL e = t ++ [10] ∧ (10 : UInt8) ∉ t := by
 obtain ⟨kd,x,y,z⟩ := e
 have hb := ev_bd h
 refine ⟨_,rfl,?_⟩
 have hn : ∀ n : Int,0 ≤ n → n ≤ 4294967295 → (10 : UInt8) ∉ numS n := fun n h0 h1 h => by
  unfold numS at h
  rw [List.mem_cons] at h
  rcases h with h | h
  ·cases h
  ·exact (itoa_at h0 h1).2.2 h
 have hg : (10 : UInt8) ∉ goodS z := by unfold goodS;split <;> decide
 have hw : (10 : UInt8) ∉ kd.word := by cases kd <;> decide
 simp only [List.mem_append,not_or]
 refine ⟨hw,?_⟩
 cases kd <;> simp only [EK.len] at hb <;> simp only [EK.args,List.mem_append,not_or,List.not_mem_nil,not_false_iff]
 ·exact hn _ (hb.1 (by omega)).1 (hb.1 (by omega)).2
 ·exact ⟨hn _ (hb.1 (by omega)).1 (hb.1 (by omega)).2,hn _ (hb.2.1 (by omega)).1 (hb.2.1 (by omega)).2⟩
 ·exact ⟨hn _ (hb.1 (by omega)).1 (hb.1 (by omega)).2,hn _ (hb.2.1 (by omega)).1 (hb.2.1 (by omega)).2⟩
 ·exact ⟨⟨hn _ (hb.1 (by omega)).1 (hb.1 (by omega)).2,hn _ (hb.2.1 (by omega)).1 (hb.2.1 (by omega)).2⟩,hg⟩
 ·exact ⟨⟨hn _ (hb.1 (by omega)).1 (hb.1 (by omega)).2,hn _ (hb.2.1 (by omega)).1 (hb.2.1 (by omega)).2⟩,hn _ (hb.2.2 (by omega)).1 (hb.2.2 (by omega)).2⟩
 ·exact ⟨hn _ (hb.1 (by omega)).1 (hb.1 (by omega)).2,hn _ (hb.2.1 (by omega)).1 (hb.2.1 (by omega)).2⟩
theorem lines_cons {t : List UInt8} (r : List UInt8) (h : ∃ a,t = a ++ [10] ∧ (10 : UInt8) ∉ a) : linesL (t ++ r) = t :: linesL r := by
 obtain ⟨a,rfl,ha⟩ := h
 rw [List.append_assoc];exact lines_line r ha
theorem readL_show (r : List UInt8) : ∀ (l : List Ev) (acc : List Ev),(∀ e ∈ l,e.Ok) → acc.length + l.length ≤ 4000 →
  ∃ l' : List Ev,l'.map Ev.C = l.map Ev.C ∧ (∀ e ∈ l',e.Ok) ∧ readL acc (linesL (showM l ++ r)) = readL (acc ++ l') (linesL r)
 | [],acc,_,_ => ⟨[],rfl,by simp,by simp [showM]⟩
 | e :: l,acc,h,hl => by
  have he := h e (by simp)
  obtain ⟨e',h1,h2⟩ := okM_line he
  rw [List.length_cons] at hl
  obtain ⟨l',h3,h4,h5⟩ := readL_show r l (acc ++ [e']) (fun x hx => h x (by simp [hx])) (by simp;omega)
  refine ⟨e' :: l',by simp [h2,h3],?_,?_⟩
  ·intro x hx
   rw [List.mem_cons] at hx
   rcases hx with rfl | hx
   ·exact (okM_some h1).1
   ·exact h4 x hx
  ·have e1 : showM (e :: l) ++ r = lineL e ++ (showM l ++ r) := by simp [showM]
   rw [e1,lines_cons _ (line_nl he),readL,if_neg (by omega),h1]
   simp only
   rw [h5,List.append_assoc];rfl
theorem read_show (l : List Ev) (h : ∀ e ∈ l,e.Ok) (hl : l.length ≤ 50) : ∃ l' : List Ev,readM (showM l) = (l',0,0) ∧ l'.map Ev.C = l.map Ev.C := by
 obtain ⟨l',h1,h2,h3⟩ := readL_show [] l [] h (by simp;omega)
 have h4 := show_le l h
 refine ⟨l',?_,h1⟩
 unfold readM
 rw [if_neg (by omega)]
 rw [List.append_nil] at h3
 rw [h3];rfl
theorem show_app (a b : List Ev) : showM (a ++ b) = showM a ++ showM b := by simp [showM]
end Go.Proofs.YtbhcfldafpndbaaDoor
namespace Go.Proofs.YtbhcfldafpndbaaDoor
open Go.RowKit
attribute [local simp] AK_at acode_seq acode_region acode_draw acode_cond CB_u acode_block acode_loop acode_exit acode_scope acode_ret acode_skip seqQ_n seqQ_e seqQ_r blockQ_n blockQ_e blockQ_r TK_at OK_at SK_at aops_nil aops_cons asch_done asch_one asch_two asch_top astep aop_eq isLoud aloud aloud1 isWrite qv evS strip gof eget hget putO eput herase oks opnds gS afin afin0 binD arith D.cells takeD fillD keep trim envOf Fin aresl aresv resD argOk pickV isP deq deqs boundD slD lenD isT isSl ptrIds chunks mn_min mx_max splice_one splice_more Rbr_at Rfr_at frR frV frC flatC brwR brwV brwC omap leR leV leC leL leVL rnR rnV rnC rnO rho_0 hputs herases rnS LtS LtR LtV LtC LtO lget noV noC flatR flatV rho
attribute [local simp ↓] CB_t CB_f
theorem wevent_code : cfun Tryd.prog [] 7 = some ⟨(.seq (qR 0 [oB 1 0,oX 2 (.alloc [qZ,qZ,qZ,qZ,qF,qZ,qZ,qZ])]) (.seq (qR 1 [oF 4 0 1,oL 5 1 4,oX 6 (.call 10 [(.t 5),(kI 7)]),oX 7 (.bin .add (kI 1) (.t 6)),oX 8 (.build [qZ,qZ,qZ,qZ,qF,qZ,qZ,qZ] [(0,(1,(.t 7)))]),oX 3 (.alloc [qZ,qZ,qZ,qZ,qF,qZ,qZ,qZ]),oS 8 3 8]) (.seq (.seq (qR 2 [oF 9 0 3,oL 10 1 9]) (.block 0 (.seq (qR 3 [oX 12 (.bin .eql (.t 10) (kI 1)),oM 11 12]) (.cond 11 (qR 4 [oF 13 1 1,oL 14 1 13,oX 15 (.call 10 [(.t 14),(kI 4294967296)]),oF 16 1 3,oS 1 16 15]) (.seq (.seq (qR 5 [oX 18 (.bin .eql (.t 10) (kI 2)),oM 17 18]) (.cond 17 .skip (.seq (qR 6 [oX 19 (.bin .eql (.t 10) (kI 3)),oM 17 19]) (.cond 17 .skip (qR 7 [oX 20 (.bin .eql (.t 10) (kI 4)),oM 17 20]))))) (.cond 17 (.seq (qR 8 [oF 21 1 1,oL 22 1 21,oX 23 (.call 10 [(.t 22),(kI 40)]),oF 24 2 3,oS 1 24 23]) (.seq (qR 9 [oF 25 2 1,oL 26 1 25,oX 27 (.call 10 [(.t 26),(kI 1048577)]),oF 28 3 3,oS 1 28 27]) (qR 10 [oF 29 0 3,oL 30 1 29,oX 31 (.bin .eql (.t 30) (kI 4)),oM 32 31,oG 33 (.fad 3 (.t 1)) 32 true,oG 34 (.load false 1 (.t 33)) 32 true,oG 35 (.call 10 [(.t 34),(kI 2)]) 32 true,oG 36 (.bin .eql (.t 35) (kI 1)) 32 true,oX 37 (.pick (.t 32) (.t 36) (.k qF)),oF 38 4 3,oS 1 38 37]))) (.seq (qR 11 [oX 40 (.bin .eql (.t 10) (kI 5)),oM 39 40]) (.cond 39 (.seq (qR 12 [oF 41 1 1,oL 42 1 41,oX 43 (.call 10 [(.t 42),(kI 1048577)]),oF 44 5 3,oS 1 44 43]) (.seq (qR 13 [oF 45 2 1,oL 46 1 45,oX 47 (.call 10 [(.t 46),(kI 12)]),oF 48 6 3,oS 1 48 47]) (qR 14 [oF 49 3 1,oL 50 1 49,oX 51 (.call 10 [(.t 50),(kI 8)]),oX 52 (.bin .add (kI 1) (.t 51)),oF 53 7 3,oS 1 53 52]))) (.seq (qR 15 [oX 55 (.bin .eql (.t 10) (kI 6)),oM 54 55]) (.cond 54 (.seq (qR 16 [oF 56 1 1,oL 57 1 56,oX 58 (.call 10 [(.t 57),(kI 1048577)]),oF 59 5 3,oS 1 59 58]) (qR 17 [oF 60 2 1,oL 61 1 60,oX 62 (.call 10 [(.t 61),(kI 12)]),oF 63 6 3,oS 1 63 62])) .skip)))))))))) (.seq (qR 18 [oA 64 8 3,oS 8 2 64]) .ret)))),[(.c 2 true 8)],65⟩ := by kernel_rfl
theorem wevent_pf (k a b c : Int) (hk : InR k) (ha : InR a) (hb : InR b) (hc : InR c) : ∃ kd x y z,EK.Ok kd x y z ∧ PF Tryd.prog 7 [.agg [I k,I a,I b,I c]] (.agg (kd.cells x y z)) := by
 have pk := picked_pf k 7 hk (by omega)
 have rk := pickedZ_range k 7 (by omega)
 obtain ⟨p,hp⟩ : ∃ p,p = pickedZ k 7 := ⟨_,rfl⟩
 rw [← hp] at pk rk
 have a1 := picked_pf a 4294967296 ha (by omega)
 have r1 := pickedZ_range a 4294967296 (by omega)
 have a2 := picked_pf a 40 ha (by omega)
 have r2 := pickedZ_range a 40 (by omega)
 have a3 := picked_pf a 1048577 ha (by omega)
 have r3 := pickedZ_range a 1048577 (by omega)
 have b1 := picked_pf b 1048577 hb (by omega)
 have s1 := pickedZ_range b 1048577 (by omega)
 have b2 := picked_pf b 12 hb (by omega)
 have s2 := pickedZ_range b 12 (by omega)
 have c1 := picked_pf c 2 hc (by omega)
 have t1 := pickedZ_range c 2 (by omega)
 have c2 := picked_pf c 8 hc (by omega)
 have t2 := pickedZ_range c 8 (by omega)
 have i8 : InR (1 + pickedZ c 8) := inW (by omega) (by omega)
 have j1 : InR 1 := inW (by omega) (by omega)
 have j2 : InR 2 := inW (by omega) (by omega)
 have j3 : InR 3 := inW (by omega) (by omega)
 have j4 : InR 4 := inW (by omega) (by omega)
 have j5 : InR 5 := inW (by omega) (by omega)
 have j6 : InR 6 := inW (by omega) (by omega)
 have j7 : InR 7 := inW (by omega) (by omega)
 have hq : p = 0 ∨ p = 1 ∨ p = 2 ∨ p = 3 ∨ p = 4 ∨ p = 5 ∨ p = 6 := by omega
 clear hp
 rcases hq with rfl | rfl | rfl | rfl | rfl | rfl | rfl
 ·refine ⟨.op,pickedZ a 4294967296,0,0,⟨by omega,by omega⟩,?_⟩
  refine pO wevent_code [0,1,2,3,10,11,17,39,54] [] fun B hBN hB0 => ?_
  repeat' (first
   | simp [j1,EK.cells]
   | refine ⟨wcS ?_,?_⟩
   | (refine WCall.pf (pk) ?_ ?_ ?_ ?_;iterate 3 (solve|simp [j1,EK.cells]))
   | (refine WCall.pf (a1) ?_ ?_ ?_ ?_;iterate 3 (solve|simp [j1,EK.cells]))
   | with_reducible refine aI ?_ ?_ ?_)
 ·refine ⟨.da,pickedZ a 40,pickedZ b 1048577,0,⟨⟨by omega,by omega⟩,by omega,by omega⟩,?_⟩
  refine pO wevent_code [0,1,2,3,10,11,17,39,54] [] fun B hBN hB0 => ?_
  repeat' (first
   | simp [j2,EK.cells]
   | refine ⟨wcS ?_,?_⟩
   | (refine WCall.pf (pk) ?_ ?_ ?_ ?_;iterate 3 (solve|simp [j2,EK.cells]))
   | (refine WCall.pf (a2) ?_ ?_ ?_ ?_;iterate 3 (solve|simp [j2,EK.cells]))
   | (refine WCall.pf (b1) ?_ ?_ ?_ ?_;iterate 3 (solve|simp [j2,EK.cells]))
   | with_reducible refine aI ?_ ?_ ?_)
 ·refine ⟨.cl,pickedZ a 40,pickedZ b 1048577,0,⟨⟨by omega,by omega⟩,by omega,by omega⟩,?_⟩
  refine pO wevent_code [0,1,2,3,10,11,17,39,54] [] fun B hBN hB0 => ?_
  repeat' (first
   | simp [j3,EK.cells]
   | refine ⟨wcS ?_,?_⟩
   | (refine WCall.pf (pk) ?_ ?_ ?_ ?_;iterate 3 (solve|simp [j3,EK.cells]))
   | (refine WCall.pf (a2) ?_ ?_ ?_ ?_;iterate 3 (solve|simp [j3,EK.cells]))
   | (refine WCall.pf (b1) ?_ ?_ ?_ ?_;iterate 3 (solve|simp [j3,EK.cells]))
   | with_reducible refine aI ?_ ?_ ?_)
 ·refine ⟨.an,pickedZ a 40,pickedZ b 1048577,pickedZ c 2,⟨⟨by omega,by omega⟩,⟨by omega,by omega⟩,by omega,by omega⟩,?_⟩
  refine pO wevent_code [0,1,2,3,10,11,17,39,54] [] fun B hBN hB0 => ?_
  repeat' (first
   | simp [j4,EK.cells]
   | refine ⟨wcS ?_,?_⟩
   | (refine WCall.pf (pk) ?_ ?_ ?_ ?_;iterate 3 (solve|simp [j4,EK.cells]))
   | (refine WCall.pf (a2) ?_ ?_ ?_ ?_;iterate 3 (solve|simp [j4,EK.cells]))
   | (refine WCall.pf (b1) ?_ ?_ ?_ ?_;iterate 3 (solve|simp [j4,EK.cells]))
   | (refine WCall.pf (c1) ?_ ?_ ?_ ?_;iterate 3 (solve|simp [j4,EK.cells]))
   | with_reducible refine aI ?_ ?_ ?_)
 ·refine ⟨.jo,pickedZ a 1048577,pickedZ b 12,1 + pickedZ c 8,⟨⟨by omega,by omega⟩,⟨by omega,by omega⟩,by omega,by omega⟩,?_⟩
  refine pO wevent_code [0,1,2,3,10,11,17,39,54] [] fun B hBN hB0 => ?_
  repeat' (first
   | simp [j5,i8,EK.cells]
   | refine ⟨wcS ?_,?_⟩
   | (refine WCall.pf (pk) ?_ ?_ ?_ ?_;iterate 3 (solve|simp [j5,i8,EK.cells]))
   | (refine WCall.pf (a3) ?_ ?_ ?_ ?_;iterate 3 (solve|simp [j5,i8,EK.cells]))
   | (refine WCall.pf (b2) ?_ ?_ ?_ ?_;iterate 3 (solve|simp [j5,i8,EK.cells]))
   | (refine WCall.pf (c2) ?_ ?_ ?_ ?_;iterate 3 (solve|simp [j5,i8,EK.cells]))
   | with_reducible refine aI ?_ ?_ ?_)
 ·refine ⟨.re,pickedZ a 1048577,pickedZ b 12,0,⟨⟨by omega,by omega⟩,by omega,by omega⟩,?_⟩
  refine pO wevent_code [0,1,2,3,10,11,17,39,54] [] fun B hBN hB0 => ?_
  repeat' (first
   | simp [j6,EK.cells]
   | refine ⟨wcS ?_,?_⟩
   | (refine WCall.pf (pk) ?_ ?_ ?_ ?_;iterate 3 (solve|simp [j6,EK.cells]))
   | (refine WCall.pf (a3) ?_ ?_ ?_ ?_;iterate 3 (solve|simp [j6,EK.cells]))
   | (refine WCall.pf (b2) ?_ ?_ ?_ ?_;iterate 3 (solve|simp [j6,EK.cells]))
   | with_reducible refine aI ?_ ?_ ?_)
 ·refine ⟨.ti,0,0,0,trivial,?_⟩
  refine pO wevent_code [0,1,2,3,10,11,17,39,54] [] fun B hBN hB0 => ?_
  repeat' (first
   | simp [j7,EK.cells]
   | refine ⟨wcS ?_,?_⟩
   | (refine WCall.pf (pk) ?_ ?_ ?_ ?_;iterate 3 (solve|simp [j7,EK.cells]))
   | with_reducible refine aI ?_ ?_ ?_)
theorem four {r : List Int} (h : r.length = 4) : ∃ k a b c,r = [k,a,b,c] := by
 match r,h with
 | [k,a,b,c],_ => exact ⟨k,a,b,c,rfl⟩
theorem cells_shape (e : Ev) : ∃ (a b c d : Int) (g : Bool) (p q r : Int),e.C = [I a,I b,I c,I d,.bool g,I p,I q,I r] := by
 obtain ⟨kd,x,y,z⟩ := e
 cases kd <;> exact ⟨_,_,_,_,_,_,_,_,rfl⟩
theorem events_of (l : List (List Int)) (hr : ∀ r ∈ l,r.length = 4 ∧ ∀ z ∈ r,InR z) : ∃ es : List Ev,es.length = l.length ∧ (∀ e ∈ es,e.Ok) ∧
  ∀ i (h : i < l.length) (h' : i < es.length),PF Tryd.prog 7 [.agg ((l[i]).map I)] (.agg (Ev.C es[i])) := by
 induction l with
 | nil => exact ⟨[],rfl,fun e h => (by cases h),fun i h => (by simp at h)⟩
 | cons r l ih =>
  obtain ⟨es,h1,h2,h3⟩ := ih fun r hr' => hr r (List.mem_cons_of_mem _ hr')
  obtain ⟨h4,h5⟩ := hr r (by simp)
  obtain ⟨k,a,b,c,rfl⟩ := four h4
  obtain ⟨kd,x,y,z,hok,hpf⟩ := wevent_pf k a b c (h5 _ (by simp)) (h5 _ (by simp)) (h5 _ (by simp)) (h5 _ (by simp))
  refine ⟨(kd,x,y,z) :: es,by simp [h1],fun e he => ?_,fun i h h' => ?_⟩
  ·rcases List.mem_cons.1 he with rfl | he
   ·exact hok
   ·exact h2 e he
  ·cases i with
   | zero => exact hpf
   | succ i => exact h3 i (by simpa using h) (by simpa using h')
theorem bS_cat (a b : List UInt8) : bS a ++ bS b = bS (a ++ b) := by
 apply ByteArray.ext
 simp [bS]
theorem ev_len (e : Ev) : e.C.length = 8 := by
 obtain ⟨_,_,_,_,_,_,_,_,h⟩ := cells_shape e
 rw [h];rfl
theorem ljoin_code : cfun Tryd.prog [] 5 = some ⟨(.seq (qR 0 [oX 4 (.mov (.k qF))]) (.seq (qR 1 [oX 5 (.mov (.k .nil0))]) (.seq (qR 2 [oX 6 (.mov (.k .nil0))]) (.seq (.seq (qR 3 [oK 7 0]) (.block 0 (.loop (.seq (.seq (qR 4 [oM 23 7,oM 24 0,oH 25 24,oX 26 (.bin .lss (.t 23) (.t 25)),oM 27 26,oG 28 (.mov (.t 7)) 27 true,oG 29 (.bin .lss (.t 28) (kI 20)) 27 true,oX 30 (.pick (.t 27) (.t 29) (.k qF))]) (.cond 30 .skip (.exit 0))) (.seq (.block 1 (.seq (qR 6 [oM 33 0,oM 34 7,oI 35 4 33 34,oA 36 4 35,oX 37 (.call 7 [(.t 36)]),oX 8 (.alloc [qZ,qZ,qZ,qZ,qF,qZ,qZ,qZ]),oS 8 8 37]) (qR 7 [oM 38 5,oA 39 8 8,oX 40 (.bslice 8 1 [qZ,qZ,qZ,qZ,qF,qZ,qZ,qZ] [(0,(.t 39))]),oX 41 (.app 8 64 [qZ,qZ,qZ,qZ,qF,qZ,qZ,qZ] (.t 38) (.t 40)),oM 5 41]))) (qR 5 [oM 31 7,oX 32 (.bin .add (.t 31) (kI 1)),oM 7 32])))))) (.seq (.seq (qR 8 [oK 9 0]) (.block 2 (.loop (.seq (.seq (qR 9 [oM 42 9,oM 43 1,oH 44 43,oX 45 (.bin .lss (.t 42) (.t 44)),oM 46 45,oG 47 (.mov (.t 9)) 46 true,oG 48 (.bin .lss (.t 47) (kI 20)) 46 true,oX 49 (.pick (.t 46) (.t 48) (.k qF))]) (.cond 49 .skip (.exit 2))) (.seq (.block 3 (.seq (qR 11 [oM 52 1,oM 53 9,oI 54 4 52 53,oA 55 4 54,oX 56 (.call 7 [(.t 55)]),oX 10 (.alloc [qZ,qZ,qZ,qZ,qF,qZ,qZ,qZ]),oS 8 10 56]) (qR 12 [oM 57 6,oA 58 8 10,oX 59 (.bslice 8 1 [qZ,qZ,qZ,qZ,qF,qZ,qZ,qZ] [(0,(.t 58))]),oX 60 (.app 8 64 [qZ,qZ,qZ,qZ,qF,qZ,qZ,qZ] (.t 57) (.t 59)),oM 6 60]))) (qR 10 [oM 50 9,oX 51 (.bin .add (.t 50) (kI 1)),oM 9 51])))))) (.seq (qR 13 [oM 62 5,oX 63 (.call 8 [(.t 62)]),oM 61 63,oE 64 61 0,oE 65 61 1,oE 66 61 2,oM 11 64,oM 12 65,oM 13 66]) (.seq (qR 14 [oM 68 6,oX 69 (.call 8 [(.t 68)]),oM 67 69,oE 70 67 0,oE 71 67 1,oE 72 67 2,oM 14 70,oM 15 71,oM 16 72]) (.seq (qR 15 [oM 74 5,oX 75 (.app 8 64 [qZ,qZ,qZ,qZ,qF,qZ,qZ,qZ] (.k .nil0) (.t 74)),oM 76 6,oX 77 (.app 8 64 [qZ,qZ,qZ,qZ,qF,qZ,qZ,qZ] (.t 75) (.t 76)),oX 78 (.call 8 [(.t 77)]),oM 73 78,oE 79 73 0,oE 80 73 1,oE 81 73 2,oM 17 79,oM 18 80,oM 19 81]) (.seq (qR 16 [oM 83 17,oX 84 (.call 9 [(.t 83)]),oM 82 84,oE 85 82 0,oE 86 82 1,oE 87 82 2,oM 20 85,oM 21 86,oM 22 87]) (.seq (qR 17 [oM 88 13,oX 89 (.bin .eql (.t 88) (kI 0)),oM 90 89,oG 91 (.mov (.t 16)) 90 true,oG 92 (.bin .eql (.t 91) (kI 0)) 90 true,oX 93 (.pick (.t 90) (.t 92) (.k qF)),oM 94 93,oG 95 (.mov (.t 19)) 94 true,oG 96 (.bin .eql (.t 95) (kI 0)) 94 true,oX 97 (.pick (.t 94) (.t 96) (.k qF)),oM 98 97,oG 99 (.mov (.t 22)) 98 true,oG 100 (.bin .eql (.t 99) (kI 0)) 98 true,oX 101 (.pick (.t 98) (.t 100) (.k qF)),oM 102 101,oG 103 (.mov (.t 11)) 102 true,oG 104 (.mov (.t 14)) 102 true,oG 105 (.bin .add (.t 103) (.t 104)) 102 true,oG 106 (.mov (.t 17)) 102 true,oG 107 (.bin .eql (.t 105) (.t 106)) 102 true,oX 108 (.pick (.t 102) (.t 107) (.k qF)),oM 109 108,oG 110 (.mov (.t 20)) 109 true,oG 111 (.len (.t 110)) 109 true,oG 112 (.mov (.t 5)) 109 true,oG 113 (.len (.t 112)) 109 true,oG 114 (.mov (.t 6)) 109 true,oG 115 (.len (.t 114)) 109 true,oG 116 (.bin .add (.t 113) (.t 115)) 109 true,oG 117 (.bin .eql (.t 111) (.t 116)) 109 true,oX 118 (.pick (.t 109) (.t 117) (.k qF)),oM 4 118]) .ret)))))))))),[(.t 4)],119⟩ := by kernel_rfl
theorem ljoin_pfg (l m : List (List Int)) (hl : l.length ≤ Go.maxLen) (hr : ∀ r ∈ l,r.length = 4 ∧ ∀ z ∈ r,InR z) (hm : m.length ≤ Go.maxLen) (hs : ∀ r ∈ m,r.length = 4 ∧ ∀ z ∈ r,InR z) :
  PFg LnG Tryd.prog 5 [.rows 4 (l.map fun r => r.map I),.rows 4 (m.map fun r => r.map I)] (.bool true) := by
 unfold Go.maxLen at hl hm
 obtain ⟨es,he1,he2,he3⟩ := events_of (l.take 20) fun r h => hr r (List.mem_of_mem_take h)
 obtain ⟨fs,hf1,hf2,hf3⟩ := events_of (m.take 20) fun r h => hs r (List.mem_of_mem_take h)
 have hel2 : es.length = min 20 l.length := by rw [he1];simp
 have hfl2 : fs.length = min 20 m.length := by rw [hf1];simp
 have hel : es.length ≤ 20 := by omega
 have hfl : fs.length ≤ 20 := by omega
 have hboth : ∀ e ∈ es ++ fs,e.Ok := fun e h => by rcases List.mem_append.1 h with h | h;exact he2 e h;exact hf2 e h
 have h1 := show_pfg es he2 (by omega)
 have h2 := show_pfg fs hf2 (by omega)
 have h3 := show_pfg (es ++ fs) hboth (by simp;omega)
 have h4 := read_pfg (showM (es ++ fs))
 obtain ⟨l',hl1,hl2⟩ := read_show (es ++ fs) hboth (by simp;omega)
 rw [hl1] at h4
 simp only [hl2] at h4
 have hcat := bS_cat (showM es) (showM fs)
 rw [← show_app] at hcat
 have hszs : (bS (showM es)).size + (bS (showM fs)).size ≤ 9223372036854775807 := by rw [bS_size,bS_size];have := show_le es he2;have := show_le fs hf2;omega
 have hsum : InR ((es.length : Int) + fs.length) := inW (by omega) (by omega)
 refine PFg.of lnb follows_ok ljoin_code (by simp) (by simp) (by simp) fun B hBN hB0 hG => acode_sound [0,1,4,5,6,7,8,9,10,11,13,14,16,17,19,20,22,30,49] [] _ _ _ ?_
 simp
 refine W.loopS (fun y : Nat × List Ev => ⟨[(7,I y.1),(6,.nil0),(5,.own 0),(4,.bool false),(1,D.rows 4 (m.map fun r => r.map I)),(0,D.rows 4 (l.map fun r => r.map I))],[(0,.row 8 (y.2.map Ev.C))],1⟩)
  (fun n y => n = 20 - y.1 ∧ y.1 ≤ es.length ∧ y.2 = es.take y.1) ?_ ?_
 ·exact ⟨_,(0,[]),(Gh.adopt 5 8 (by omega) (by simp)).trans (Gh.of_eq (by simp)),rfl,by simp,by simp⟩
 ·rintro n ⟨i,acc⟩ ⟨hn,hil,hacc⟩
  simp only at hn hil hacc
  refine acode_sound [0,1,4,5,6,7,8,9,10,11,13,14,16,17,19,20,22,30,49] [] _ _ _ ?_
  by_cases hlt : i < es.length
  ·have hlt2 : i < l.length := by omega
   have hlt3 : (i : Int) < 20 := by omega
   have hpe := he3 i (by rw [← he1];exact hlt) hlt
   rw [List.getElem_take] at hpe
   have hi1 : InR ((i : Int) + 1) := inW (by omega) (by omega)
   have htk : es.take (i + 1) = acc ++ [es[i]] := by rw [List.take_succ_eq_append_getElem hlt,hacc]
   have hal : acc.length = i := by rw [hacc];simp;omega
   have hcap2 : (acc.length + 1) * 64 ≤ 140737488355328 := by omega
   obtain ⟨hx1,hx2⟩ := hr _ (List.getElem_mem hlt2)
   obtain ⟨a,b,c,d,hab⟩ := four hx1
   generalize es[i] = e at hpe htk
   obtain ⟨c0,c1,c2,c3,cb,c5,c6,c7,hcs⟩ := cells_shape e
   rw [hcs,hab] at hpe
   simp only [List.map_cons,List.map_nil] at hpe
   have hmap : (es.take (i + 1)).map Ev.C = acc.map Ev.C ++ [[I c0,I c1,I c2,I c3,.bool cb,I c5,I c6,I c7]] := by rw [htk,List.map_append,List.map_cons,List.map_nil,hcs]
   simp [hlt2,hlt3,hab]
   repeat' (first
    | simp [hi1,hcap2]
    | refine ⟨wcS ?_,?_⟩
    | (refine WCall.pf (hpe) ?_ ?_ ?_ ?_;iterate 3 (solve|simp [hi1,hcap2]))
    | with_reducible refine aI ?_ ?_ ?_)
   all_goals
    refine ⟨_,(i + 1,es.take (i + 1)),(Gh.ren [3] (by simp [hB0]) (by simp [hB0] <;> decide) (by simp [hmap]) (by simp [hmap]) (.inl (by simp [hmap]))),by omega,rfl,by omega,rfl⟩
  ·have hie : i = es.length := by omega
   rw [hie,List.take_length] at hacc
   generalize i = i0 at *
   clear hn
   by_cases hll : i0 < l.length
   ·have h3i : ¬ (i0 : Int) < 20 := by omega
    simp [hll,h3i,hacc]
    clear hll h3i hacc
    refine W.loopS (fun y : Nat × List Ev => ⟨[(30,.bool false),(9,I y.1),(7,I i0),(6,.own 1),(5,.own 0),(4,.bool false),(1,D.rows 4 (m.map fun r => r.map I)),(0,D.rows 4 (l.map fun r => r.map I))],[(1,.row 8 (y.2.map Ev.C)),(0,.row 8 (es.map Ev.C))],2⟩)
     (fun n y => n = 20 - y.1 ∧ y.1 ≤ fs.length ∧ y.2 = fs.take y.1) ?_ ?_
    ·exact ⟨_,(0,[]),(Gh.adopt 6 8 (by omega) (by simp)).trans (Gh.of_eq (by simp)),rfl,by simp,by simp⟩
    ·rintro n ⟨i,acc⟩ ⟨hn,hil,hacc⟩
     simp only at hn hil hacc
     refine acode_sound [0,1,4,5,6,7,8,9,10,11,13,14,16,17,19,20,22,30,49] [] _ _ _ ?_
     by_cases hlt : i < fs.length
     ·have hlt2 : i < m.length := by omega
      have hlt3 : (i : Int) < 20 := by omega
      have hpe := hf3 i (by rw [← hf1];exact hlt) hlt
      rw [List.getElem_take] at hpe
      have hi1 : InR ((i : Int) + 1) := inW (by omega) (by omega)
      have htk : fs.take (i + 1) = acc ++ [fs[i]] := by rw [List.take_succ_eq_append_getElem hlt,hacc]
      have hal : acc.length = i := by rw [hacc];simp;omega
      have hcap2 : (acc.length + 1) * 64 ≤ 140737488355328 := by omega
      obtain ⟨hx1,hx2⟩ := hs _ (List.getElem_mem hlt2)
      obtain ⟨a,b,c,d,hab⟩ := four hx1
      generalize fs[i] = e at hpe htk
      obtain ⟨c0,c1,c2,c3,cb,c5,c6,c7,hcs⟩ := cells_shape e
      rw [hcs,hab] at hpe
      simp only [List.map_cons,List.map_nil] at hpe
      have hmap : (fs.take (i + 1)).map Ev.C = acc.map Ev.C ++ [[I c0,I c1,I c2,I c3,.bool cb,I c5,I c6,I c7]] := by rw [htk,List.map_append,List.map_cons,List.map_nil,hcs]
      simp [hlt2,hlt3,hab]
      repeat' (first
       | simp [hi1,hcap2]
       | refine ⟨wcS ?_,?_⟩
       | (refine WCall.pf (hpe) ?_ ?_ ?_ ?_;iterate 3 (solve|simp [hi1,hcap2]))
       | with_reducible refine aI ?_ ?_ ?_)
      all_goals
       refine ⟨_,(i + 1,fs.take (i + 1)),(Gh.ren [0,4] (by simp [hB0]) (by simp [hB0] <;> decide) (by simp [hmap]) (by simp [hmap]) (.inl (by simp [hmap]))),by omega,rfl,by omega,rfl⟩
     ·have hie : i = fs.length := by omega
      rw [hie,List.take_length] at hacc
      by_cases hll : i < m.length
      ·have h3j : ¬ (i : Int) < 20 := by omega
       simp [hll,h3j,hacc]
       refine WCall.pfng hG h1 (by simp) (by simp) ?_
       simp
       refine WCall.pfng hG h2 (by simp) (by simp) ?_
       simp
       refine ⟨fun row kd x y z _ h => by rw [← h];exact ev_len _,by omega,fun row kd x y z _ h => by rw [← h];exact ev_len _,by omega,?_⟩
       refine WCall.pfng hG h3 (by simp) (by simp) ?_
       simp
       refine WCall.pfng hG h4 (by simp) (by simp) ?_
       simp [hcat,hsum,hszs]
      ·simp [hll,hacc]
       refine WCall.pfng hG h1 (by simp) (by simp) ?_
       simp
       refine WCall.pfng hG h2 (by simp) (by simp) ?_
       simp
       refine ⟨fun row kd x y z _ h => by rw [← h];exact ev_len _,by omega,fun row kd x y z _ h => by rw [← h];exact ev_len _,by omega,?_⟩
       refine WCall.pfng hG h3 (by simp) (by simp) ?_
       simp
       refine WCall.pfng hG h4 (by simp) (by simp) ?_
       simp [hcat,hsum,hszs]
   ·simp [hll,hacc]
    clear hll hacc
    refine W.loopS (fun y : Nat × List Ev => ⟨[(30,.bool false),(9,I y.1),(7,I i0),(6,.own 1),(5,.own 0),(4,.bool false),(1,D.rows 4 (m.map fun r => r.map I)),(0,D.rows 4 (l.map fun r => r.map I))],[(1,.row 8 (y.2.map Ev.C)),(0,.row 8 (es.map Ev.C))],2⟩)
     (fun n y => n = 20 - y.1 ∧ y.1 ≤ fs.length ∧ y.2 = fs.take y.1) ?_ ?_
    ·exact ⟨_,(0,[]),(Gh.adopt 6 8 (by omega) (by simp)).trans (Gh.of_eq (by simp)),rfl,by simp,by simp⟩
    ·rintro n ⟨i,acc⟩ ⟨hn,hil,hacc⟩
     simp only at hn hil hacc
     refine acode_sound [0,1,4,5,6,7,8,9,10,11,13,14,16,17,19,20,22,30,49] [] _ _ _ ?_
     by_cases hlt : i < fs.length
     ·have hlt2 : i < m.length := by omega
      have hlt3 : (i : Int) < 20 := by omega
      have hpe := hf3 i (by rw [← hf1];exact hlt) hlt
      rw [List.getElem_take] at hpe
      have hi1 : InR ((i : Int) + 1) := inW (by omega) (by omega)
      have htk : fs.take (i + 1) = acc ++ [fs[i]] := by rw [List.take_succ_eq_append_getElem hlt,hacc]
      have hal : acc.length = i := by rw [hacc];simp;omega
      have hcap2 : (acc.length + 1) * 64 ≤ 140737488355328 := by omega
      obtain ⟨hx1,hx2⟩ := hs _ (List.getElem_mem hlt2)
      obtain ⟨a,b,c,d,hab⟩ := four hx1
      generalize fs[i] = e at hpe htk
      obtain ⟨c0,c1,c2,c3,cb,c5,c6,c7,hcs⟩ := cells_shape e
      rw [hcs,hab] at hpe
      simp only [List.map_cons,List.map_nil] at hpe
      have hmap : (fs.take (i + 1)).map Ev.C = acc.map Ev.C ++ [[I c0,I c1,I c2,I c3,.bool cb,I c5,I c6,I c7]] := by rw [htk,List.map_append,List.map_cons,List.map_nil,hcs]
      simp [hlt2,hlt3,hab]
      repeat' (first
       | simp [hi1,hcap2]
       | refine ⟨wcS ?_,?_⟩
       | (refine WCall.pf (hpe) ?_ ?_ ?_ ?_;iterate 3 (solve|simp [hi1,hcap2]))
       | with_reducible refine aI ?_ ?_ ?_)
      all_goals
       refine ⟨_,(i + 1,fs.take (i + 1)),(Gh.ren [0,4] (by simp [hB0]) (by simp [hB0] <;> decide) (by simp [hmap]) (by simp [hmap]) (.inl (by simp [hmap]))),by omega,rfl,by omega,rfl⟩
     ·have hie : i = fs.length := by omega
      rw [hie,List.take_length] at hacc
      by_cases hll : i < m.length
      ·have h3j : ¬ (i : Int) < 20 := by omega
       simp [hll,h3j,hacc]
       refine WCall.pfng hG h1 (by simp) (by simp) ?_
       simp
       refine WCall.pfng hG h2 (by simp) (by simp) ?_
       simp
       refine ⟨fun row kd x y z _ h => by rw [← h];exact ev_len _,by omega,fun row kd x y z _ h => by rw [← h];exact ev_len _,by omega,?_⟩
       refine WCall.pfng hG h3 (by simp) (by simp) ?_
       simp
       refine WCall.pfng hG h4 (by simp) (by simp) ?_
       simp [hcat,hsum,hszs]
      ·simp [hll,hacc]
       refine WCall.pfng hG h1 (by simp) (by simp) ?_
       simp
       refine WCall.pfng hG h2 (by simp) (by simp) ?_
       simp
       refine ⟨fun row kd x y z _ h => by rw [← h];exact ev_len _,by omega,fun row kd x y z _ h => by rw [← h];exact ev_len _,by omega,?_⟩
       refine WCall.pfng hG h3 (by simp) (by simp) ?_
       simp
       refine WCall.pfng hG h4 (by simp) (by simp) ?_
       simp [hcat,hsum,hszs]
end Go.Proofs.YtbhcfldafpndbaaDoor
namespace Go.Proofs.YtbhcfldafpndbaaDoor
open Go.ChangeShapes Go.WideShapes Go.ChangeAt Go.RowKit
def numsE (r : List Int) : List Value := r.map (Value.int .i64)
def NumsOk (r : List Int) : Prop := ∀ z ∈ r,(Lit.int .i64 z).wf = true
def Nums (P : Program) (t : TypeId) (n : Nat) : Prop :=
 ∀ {H : Type} {enc : TypeId × Value → H} {w : World} {base : Nat} {spare : Nat → Bool} {held : Bool} {fuel : Nat} {cs : List Value} {x : DataW H × List MemPlace},
  DataW.trod enc P w base spare held fuel t cs = some x → ∃ r : List Int,cs = numsE r ∧ r.length = n ∧ NumsOk r
theorem nums_of_cells (cs : List Value) (h : ∀ i,i < cs.length → ∃ z,cs[i]? = some (.int .i64 z) ∧ (Lit.int .i64 z).wf = true) : ∃ r : List Int,cs = numsE r ∧ NumsOk r := by
 induction cs with
 | nil => exact ⟨[],rfl,fun z hz => by cases hz⟩
 | cons v cs ih =>
  obtain ⟨z,hz,hw⟩ := h 0 (by simp)
  obtain ⟨r,rfl,hr⟩ := ih fun i hi => by have := h (i + 1) (by simpa using hi);simpa using this
  simp only [List.getElem?_cons_zero,zA] at hz
  subst hz
  refine ⟨z :: r,rfl,fun y hy => ?_⟩
  rcases List.mem_cons.1 hy with rfl | hy
  ·exact hw
  ·exact hr y hy
theorem Nums.struct {P : Program} {t : TypeId} {fs : Array Field} (ht : P.underlying t = some (.struct fs)) (hc : P.cellsOf t = fs.size)
  (hf : ∀ (i : Nat) (f : Field),fs[i]? = some f → f.offset = i ∧ P.cellsOf f.type = 1 ∧ P.underlying f.type = some (.int .i64)) : Nums P t fs.size := by
 intro H enc w base spare held fuel cs x h
 obtain ⟨xs,n,_,_,hl,hlen,hx⟩ := DataW.trod_struct ht h
 rw [hc] at hl
 obtain ⟨r,rfl,hr⟩ := nums_of_cells cs fun i hi => by
  rw [hl] at hi
  have hi' : i < xs.length := by omega
  have h1 := hx i fs[i] (by simp [hi])
  obtain ⟨h2,h3,h4⟩ := hf i fs[i] (by simp [hi])
  rw [h2,h3,zE hi'] at h1
  obtain ⟨z,hz,_,hw⟩ := DataW.trod_int h4 h1
  refine ⟨z,?_,hw⟩
  have := congrArg (fun l => l[0]?) hz
  simpa [List.getElem?_take,List.getElem?_drop] using this
 exact ⟨r,rfl,by simpa [numsE] using hl,hr⟩
theorem Elt.nums {P : Program} {t : TypeId} {n : Nat} (h : Nums P t n) : Elt P t n numsE (fun r => r.length = n ∧ ∀ z ∈ r,InR z) := fun hx => by
 obtain ⟨r,rfl,hl,hk⟩ := h hx
 exact ⟨r,rfl,by simpa [numsE] using hl,hl,fun z hz => nums_wf (hk z hz)⟩
theorem open_elts {α : Type} [Inhabited α] {E : α → List Value} {ok : α → Prop} {H : Type} {enc : TypeId × Value → H} {P : Program} {w : World} {base : Nat} {spare : Nat → Bool} {held : Bool} {r0 : Reach} {b0 : Nat} {t e : TypeId} {n : Nat} {v : Value} {d : DataW H} {ps : List MemPlace}
  (ht : P.underlying t = some (.slice e)) (hc : P.cellsOf e = n) (hn0 : 0 < n) (hI : Elt P e n E ok) (hv : Value.okWide P w r0 b0 t v) (h : DataW.Trod enc P w base spare held t v d ps) :
  ∃ rows : List α,rows.length ≤ maxLen ∧ (∀ r ∈ rows,(E r).length = n ∧ ok r) ∧ Sl w n E v rows := by
 obtain ⟨a0,len0,cap0,rfl⟩ := okWide_slice ht hv
 obtain ⟨fuel,hf⟩ := h
 rcases Go.Deep.open_slice ht hf with ⟨h0,_⟩ | ⟨a,len,cap,m,k,D,Pl,hcs,hb,hl,hm,hmm,_,hx⟩
 ·simp only [Value.cells,List.cons.injEq,Value.slice.injEq,and_true] at h0
  obtain ⟨rfl,rfl,rfl⟩ := h0
  exact ⟨[],by simp,by simp,Sl.nil _ _ _⟩
 ·simp only [Value.cells,List.cons.injEq,Value.slice.injEq,and_true] at hcs
  obtain ⟨e0,e1,e2⟩ := hcs
  subst e0 e1 e2
  rw [hc] at hx
  have hlm : len0 ≤ m := by rw [hmm];split <;> omega
  have hrow : ∀ i,i < len0 → ∃ r : α,((E r).length = n ∧ ok r) ∧ ∀ j,j < n → w.cell? ((a.add (i * n)).add j) = (E r)[j]? := fun i hi => by
   obtain ⟨cs',h1,h2⟩ := hx i (by omega)
   obtain ⟨r,rfl,hr,hk⟩ := hI h2
   exact ⟨r,⟨hr,hk⟩,(World.cells?_some h1).2.2⟩
  obtain ⟨f,hf'⟩ := Go.Deep.choose_lt hrow
  have hlen : ((List.range len0).map f).length = len0 := by simp
  refine ⟨(List.range len0).map f,by rw [hlen];omega,fun r hr => ?_,some a,cap0,by rw [hlen],by rw [hlen];exact hl,(fun h => by cases h),fun hne => ?_⟩
  ·obtain ⟨i,hi,rfl⟩ := List.mem_map.1 hr
   exact (hf' i (List.mem_range.1 hi)).1
  ·have h0 : 0 < len0 := by
    rcases Nat.eq_zero_or_pos len0 with rfl | h
    ·simp at hne
    ·exact h
   have hL : ∀ i,i < len0 → (E (f i)).length = n := fun i hi => (hf' i hi).1.1
   have hc0 := (hf' 0 h0).2 0 hn0
   rw [zE (by rw [hL 0 h0];exact hn0)] at hc0
   obtain ⟨b,off,spot⟩ := a
   have hspot : spot = none := by simpa [Addr.add] using World.cell?_spot hc0
   subst hspot
   refine ⟨b,off,rfl,?_,fun i x j u hxx hu => ?_⟩
   ·obtain ⟨cs0,g1,_⟩ := hx 0 (by omega)
    simpa [Addr.add] using World.cells?_block g1 (by omega)
   ·have hi : i < len0 := by
     have := (zB.1 hxx).1
     rwa [hlen] at this
    rw [List.getElem?_map,List.getElem?_range hi] at hxx
    simp only [Option.map_some,zA] at hxx
    subst hxx
    have hj : j < n := by
     have := (zB.1 hu).1
     rwa [hL i hi] at this
    rw [← hu,← (hf' i hi).2 j hj,Go.Deep.add_add]
    congr 1
    unfold Addr.add
    split
    ·rename_i hz
     obtain ⟨h1,h2⟩ : i * n = 0 ∧ j = 0 := by omega
     rw [h1,h2];rfl
    ·rw [Nat.add_assoc]
theorem vt_nums {W : World} {v : Value} {n : Nat} {l : List (List Int)} (h : Sl W n numsE v l) (hl : ∀ r ∈ l,r.length = n) : VT (allZ W) (.rows n (l.map fun r => r.map I)) v :=
 h.rows fun r hr => ⟨by simp [numsE,hl r hr],by simp [hl r hr],fun j d hd => by
  obtain ⟨z,hz,rfl⟩ := (map_get _ _ _ _).1 hd
  exact ⟨_,(map_get _ _ _ _).2 ⟨z,hz,rfl⟩,fun Z => VT.int .i64 z⟩⟩
theorem open_rows {H : Type} {enc : TypeId × Value → H} {w : World} {base : Nat} {spare : Nat → Bool} {held : Bool} {r0 : Reach} {b0 : Nat} {t e : TypeId} {n : Nat} {v : Value} {d : DataW H} {ps : List MemPlace}
  (ht : Tryd.prog.underlying t = some (.slice e)) (hc : Tryd.prog.cellsOf e = n) (h0 : 0 < n) (he : Nums Tryd.prog e n) (hv : Value.okWide Tryd.prog w r0 b0 t v) (h : DataW.Trod enc Tryd.prog w base spare held t v d ps) :
  ∃ l : List (List Int),l.length ≤ maxLen ∧ VV s0 (allZ w) (.rows n (l.map fun r => r.map I)) v ∧ ∀ r ∈ l,r.length = n ∧ ∀ z ∈ r,InR z := by
 obtain ⟨l,h1,h2,h3⟩ := open_elts ht hc h0 (Elt.nums he) hv h
 exact ⟨l,h1,vt_nums h3 (fun r hr => (h2 r hr).2.1),fun r hr => (h2 r hr).2⟩
theorem laidOut : laidOutB Tryd.prog = true := by kernel_rfl
end Go.Proofs.YtbhcfldafpndbaaDoor
