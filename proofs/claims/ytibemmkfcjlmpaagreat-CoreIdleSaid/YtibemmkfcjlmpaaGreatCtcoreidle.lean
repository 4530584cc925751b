/- What the program computes, step by step, and the rules for it. No condition of its own. -/
import Derived.Test.YtibemmkfcjlmpaaGreatCae
set_option linter.unusedSimpArgs false
set_option linter.unusedVariables false
set_option maxRecDepth 100000
set_option maxHeartbeats 8000000
namespace Go.Proofs.YtibemmkfcjlmpaaGreat
open Go.RowKit
structure Idle (g : Gt) : Prop where
 fl : g.fl = []
 L : g.L = []
 out : g.out = []
theorem idle_tick {g : Gt} {n : Nat} (h : Rest g n) (hi : Idle g) (hn : n + 1 ≤ 1000000) : Idle (g.step evTick).clean ∧ (g.step evTick).out = [] ∧ (g.step evTick).now = g.now + 1 := by
 have e2 : g.step evTick = g.tick := by
  unfold Gt.step evTick
  rw [if_neg (by simp),if_neg (by simp),if_pos rfl]
 have ht := h.mid.tm_nil hi.fl
 have hoff : offM g = [] := by unfold offM;rw [ht];rfl
 have hL : g.tick0.L = [] := by show wakeM g.L _ = [];rw [hi.L];rfl
 have e3 : g.tick = g.tick0 := by
  unfold Gt.tick
  rw [hoff]
  show (g.tick0).cuts g.tick0.L = _
  rw [hL];rfl
 rw [e2,e3]
 exact ⟨⟨hi.fl,hL,rfl⟩,hi.out,rfl⟩
theorem idle_open {g : Gt} {n : Nat} (h : Rest g n) (hi : Idle g) (key : Int) : (g.step (evOpen key)).out = [⟨2,0,0,0,0,11,0⟩] ∧ (g.step (evOpen key)).fl = [] ∧ (g.step (evOpen key)).now = g.now := by
 have e2 : g.step (evOpen key) = g.opened key := by unfold Gt.step evOpen;rw [if_pos rfl]
 have hf := h.mid.free0 hi.fl
 have hp : (pickG g key (-1)).2 = 11 := by
  unfold pickG loadsM
  rw [hi.L]
  simp [pickM,idxZ]
 rw [e2]
 unfold Gt.opened
 rw [if_neg (by omega),if_pos (by omega)]
 exact ⟨by simp [Gt.put,hi.out],hi.fl,rfl⟩
end Go.Proofs.YtibemmkfcjlmpaaGreat
namespace Go.Proofs.YtibemmkfcjlmpaaGreat
open Go.RowKit
attribute [local simp] AK_at acode_seq acode_region acode_draw acode_cond CB_u acode_block acode_loop acode_exit acode_scope acode_ret acode_skip seqQ_n seqQ_e seqQ_r blockQ_n blockQ_e blockQ_r TK_at OK_at SK_at aops_nil aops_cons asch_done asch_one asch_two asch_top astep aop_eq isLoud aloud aloud1 isWrite qv evS strip gof eget hget putO eput herase oks opnds gS afin afin0 binD arith D.cells takeD fillD keep trim envOf Fin aresl aresv resD argOk pickV isP deq deqs boundD slD lenD isT isSl ptrIds chunks mn_min mx_max splice_one splice_more Rbr_at Rfr_at frR frV frC flatC brwR brwV brwC omap leR leV leC leL leVL rnR rnV rnC rnO rho_0 hputs herases rnS LtS LtR LtV LtC LtO lget noV noC flatR flatV rho
attribute [local simp ↓] CB_t CB_f
theorem coidle_code : cfun Tryz.prog [] 6 = some ⟨(.seq (qR 0 [oB 3 0,oX 6 (.mov (.k qF))]) (.seq (qR 1 [oA 18 16 3,oX 19 (.call 30 [(.t 18)]),oX 20 (.call 29 [(.t 19)]),oM 17 20,oE 21 17 0,oE 22 17 1,oX 7 (.alloc [qZ,qZ,qZ,qZ,qZ,qZ,qZ,qZ,qZ,qZ,qZ,qZ,qZ,qZ,qZ,qZ,qZ,.nil0,.nil0,.nil0,.nil0,.nil0,.nil0,qZ,qZ,.nil0]),oS 26 7 21,oM 8 22]) (.seq (.seq (qR 2 [oM 23 8,oX 24 (.bin .neq (.t 23) (kI 0))]) (.cond 24 (.seq (qR 3 [oX 6 (.mov (.k qF))]) .ret) .skip)) (.seq (qR 4 [oM 25 1,oX 26 (.call 31 [(.t 25),(kI 60)]),oM 9 26]) (.seq (.seq (qR 5 [oK 10 0]) (.block 0 (.loop (.seq (.seq (qR 6 [oM 27 10,oM 28 9,oX 29 (.bin .lss (.t 27) (.t 28))]) (.cond 29 .skip (.exit 0))) (.seq (.block 1 (.seq (qR 8 [oA 33 26 7,oX 34 (.build [qZ,qZ,qZ,qZ,qF,qZ,qZ,qZ] [(0,(1,(kI 7)))]),oX 35 (.call 32 [(.t 33),(.t 34)]),oM 32 35,oE 36 32 0,oE 37 32 1,oE 38 32 2,oX 11 (.alloc [qZ,qZ,qZ,qZ,qZ,qZ,qZ,qZ,qZ,qZ,qZ,qZ,qZ,qZ,qZ,qZ,qZ,.nil0,.nil0,.nil0,.nil0,.nil0,.nil0,qZ,qZ,.nil0]),oS 26 11 36,oM 12 37,oM 13 38]) (.seq (.seq (qR 9 [oM 39 13,oX 40 (.bin .neq (.t 39) (kI 0)),oM 41 40,oG 42 (.mov (.t 12)) 41 false,oG 43 (.len (.t 42)) 41 false,oG 44 (.bin .neq (.t 43) (kI 0)) 41 false,oX 45 (.pick (.t 41) (.k qT) (.t 44))]) (.cond 45 (.seq (qR 10 [oX 6 (.mov (.k qF))]) .ret) .skip)) (qR 11 [oA 46 26 11,oS 26 7 46])))) (qR 7 [oM 30 10,oX 31 (.bin .add (.t 30) (kI 1)),oM 10 31])))))) (.seq (.draw 12 (qN (oA 48 26 7) (qN (oM 49 2) (.two (qN (oX 50 (.call 31 [(.t 49),(kI 4294967296)])) (qN (oX 51 (.build [qZ,qZ,qZ,qZ,qF,qZ,qZ,qZ] [(0,(1,(kI 1))),(1,(1,(.t 50)))])) (.two (qN (oX 52 (.call 32 [(.t 48),(.t 51)])) (qN (oM 47 52) (qN (oE 53 47 0) (qN (oE 54 47 1) (qN (oE 55 47 2) (qN (oX 14 (.alloc [qZ,qZ,qZ,qZ,qZ,qZ,qZ,qZ,qZ,qZ,qZ,qZ,qZ,qZ,qZ,qZ,qZ,.nil0,.nil0,.nil0,.nil0,.nil0,.nil0,qZ,qZ,.nil0])) (.one false (oS 26 14 53) (qN (oM 15 54) (qN (oM 16 55) .done))))))))) (.two (qN (oX 14 (.alloc [qZ,qZ,qZ,qZ,qZ,qZ,qZ,qZ,qZ,qZ,qZ,qZ,qZ,qZ,qZ,qZ,qZ,.nil0,.nil0,.nil0,.nil0,.nil0,.nil0,qZ,qZ,.nil0])) (qN (oX 52 (.call 32 [(.t 48),(.t 51)])) (qN (oM 47 52) (qN (oE 53 47 0) (qN (oE 54 47 1) (qN (oE 55 47 2) (.one false (oS 26 14 53) (qN (oM 15 54) (qN (oM 16 55) .done))))))))) .top)))) (.two (qN (oX 14 (.alloc [qZ,qZ,qZ,qZ,qZ,qZ,qZ,qZ,qZ,qZ,qZ,qZ,qZ,qZ,qZ,qZ,qZ,.nil0,.nil0,.nil0,.nil0,.nil0,.nil0,qZ,qZ,.nil0])) (qN (oX 50 (.call 31 [(.t 49),(kI 4294967296)])) (qN (oX 51 (.build [qZ,qZ,qZ,qZ,qF,qZ,qZ,qZ] [(0,(1,(kI 1))),(1,(1,(.t 50)))])) (qN (oX 52 (.call 32 [(.t 48),(.t 51)])) (qN (oM 47 52) (qN (oE 53 47 0) (qN (oE 54 47 1) (qN (oE 55 47 2) (.one false (oS 26 14 53) (qN (oM 15 54) (qN (oM 16 55) .done))))))))))) .top))))) (.seq (qR 13 [oM 56 16,oX 57 (.bin .eql (.t 56) (kI 0)),oM 58 57,oG 59 (.fad 16 (.t 7)) 58 true,oG 60 (.load false 1 (.t 59)) 58 true,oG 61 (.mov (.t 9)) 58 true,oG 62 (.bin .eql (.t 60) (.t 61)) 58 true,oX 63 (.pick (.t 58) (.t 62) (.k qF)),oM 64 63,oG 65 (.mov (.t 15)) 64 true,oG 66 (.len (.t 65)) 64 true,oG 67 (.bin .eql (.t 66) (kI 1)) 64 true,oX 68 (.pick (.t 64) (.t 67) (.k qF)),oM 69 68,oG 70 (.mov (.t 15)) 69 true,oG 71 (.iads 7 (.t 70) (kI 0)) 69 true,oG 72 (.load true 7 (.t 71)) 69 true,oG 73 (.build [qZ,qZ,qZ,qZ,qZ,qZ,qZ] [(0,(1,(kI 2))),(5,(1,(kI 11)))]) 69 true,oG 74 (.eqa false [.i,.i,.i,.i,.i,.i,.i] (.t 72) (.t 73)) 69 true,oX 75 (.pick (.t 69) (.t 74) (.k qF)),oM 76 75,oG 77 (.fad 18 (.t 14)) 76 true,oG 78 (.load false 1 (.t 77)) 76 true,oG 79 (.len (.t 78)) 76 true,oG 80 (.bin .eql (.t 79) (kI 0)) 76 true,oX 81 (.pick (.t 76) (.t 80) (.k qF)),oM 82 81,oG 83 (.fad 16 (.t 14)) 82 true,oG 84 (.load false 1 (.t 83)) 82 true,oG 85 (.mov (.t 9)) 82 true,oG 86 (.bin .eql (.t 84) (.t 85)) 82 true,oX 87 (.pick (.t 82) (.t 86) (.k qF)),oM 6 87]) .ret))))))),[(.t 6)],88⟩ := by kernel_rfl
theorem coidle_pf (l : List Int) (ticks key : Int) (hl : l.length = 16 ∧ ∀ z ∈ l,InR z) (ht : InR ticks) (hk : InR key) : PF Tryz.prog 6 [.agg (l.map I),I ticks,I key] (.bool true) := by
 obtain ⟨hl,hz⟩ := hl
 obtain ⟨a0,a1,a2,a3,a4,a5,a6,a7,a8,a9,a10,a11,a12,a13,a14,a15,rfl⟩ := sixteen hl
 have h1 := config_pf a0 a1 a2 a3 a4 a5 a6 a7 a8 a9 a10 a11 a12 a13 a14 a15 (hz _ (by simp)) (hz _ (by simp)) (hz _ (by simp)) (hz _ (by simp)) (hz _ (by simp)) (hz _ (by simp)) (hz _ (by simp)) (hz _ (by simp)) (hz _ (by simp)) (hz _ (by simp)) (hz _ (by simp)) (hz _ (by simp)) (hz _ (by simp)) (hz _ (by simp)) (hz _ (by simp)) (hz _ (by simp))
 have ok := cfgOf_ok a0 a1 a2 a3 a4 a5 a6 a7 a8 a9 a10 a11 a12 a13 a14 a15
 generalize cfgOf a0 a1 a2 a3 a4 a5 a6 a7 a8 a9 a10 a11 a12 a13 a14 a15 = c at h1 ok
 have h2 := gbeg_pf c ok
 have h3 := picked_pf ticks 60 ht (by omega)
 have h4 := picked_pf key 4294967296 hk (by omega)
 have hr3 := pickedZ_range ticks 60 (by omega)
 have hr4 := pickedZ_range key 4294967296 (by omega)
 have hb := beg_rest ok
 generalize pickedZ key 4294967296 = k at h4 hr4
 obtain ⟨n,hn⟩ : ∃ n : Nat,pickedZ ticks 60 = n := ⟨(pickedZ ticks 60).toNat,by omega⟩
 rw [hn] at h3 hr3
 clear hn hz hl
 have hi0 : Idle (begM c) := ⟨rfl,rfl,rfl⟩
 have hnow0 : (begM c).now = 0 := rfl
 generalize begM c = g0 at h2 hb hi0 hnow0
 simp only [Cfg.D] at h1 h2
 simp only [Gt.W,Gt.cells] at h2
 refine pO coidle_code [0,1,2,3,6,7,8,9,10,11,12,13,14,15,16,24,29,45] [] fun B hBN hB0 => ?_
 repeat' (first
  | simp
  | refine ⟨wcS ?_,?_⟩
  | (refine WCall.pf (h1) ?_ ?_ ?_ ?_;iterate 3 (solve|simp))
  | (refine WCall.pf (h2) ?_ ?_ ?_ ?_;iterate 3 (solve|simp))
  | (refine WCall.pf (h3) ?_ ?_ ?_ ?_;iterate 3 (solve|simp))
  | with_reducible refine aI ?_ ?_ ?_)
 refine W.loopS (fun y : Nat × Gt => ⟨[(10,I y.1),(9,I n),(7,.ptr 0 0),(2,I key)],[(0,.cells y.2.W)],1⟩)
  (fun m y => m = n - y.1 ∧ y.1 ≤ n ∧ Rest y.2 y.1 ∧ Idle y.2 ∧ y.2.now = y.1) ?_ ?_
 ·exact ⟨_,(0,g0),(gr0 [1] hB0 (by simp [Gt.W,Gt.cells]) (by simp [Gt.W,Gt.cells]) (.inl (by simp [Gt.W,Gt.cells]))),rfl,by simp,hb,hi0,hnow0⟩
 clear hi0 hnow0 h2 h1 hb h3
 rintro m ⟨i,G⟩ ⟨hm,hi,hR,hI,hN⟩
 simp only at hm hi hR hI hN
 refine acode_sound [0,1,2,3,6,7,8,9,10,11,12,13,14,15,16,24,29,45] [] _ _ _ ?_
 dsimp only
 by_cases hlt : i < n
 ·have hdo := do_step G i evTick hR hI.out (by omega) chk_tick
  have hR2 := rest_step hR hI.out (by omega) chk_tick
  obtain ⟨q1,q2,q3⟩ := idle_tick hR hI (by omega)
  rw [q2] at hdo
  have hN2 : (G.step evTick).clean.now = ((i + 1 : Nat) : Int) := by show (G.step evTick).now = _;rw [q3,hN];omega
  have ii : InR ((i : Int) + 1) := inW (by omega) (by omega)
  generalize (G.step evTick).clean = G2 at hdo hR2 q1 hN2
  simp only [Gt.W,Gt.cells,evTick,Evt.D,List.map_nil] at hdo
  repeat' (first
   | simp [Gt.W,Gt.cells,hlt,ii]
   | refine ⟨wcS ?_,?_⟩
   | (refine WCall.pf (hdo) ?_ ?_ ?_ ?_;iterate 3 (solve|simp [Gt.W,Gt.cells,hlt,ii]))
   | with_reducible refine aI ?_ ?_ ?_)
  exact ⟨_,(i + 1,G2),(gr0 [0] hB0 (by simp [Gt.W,Gt.cells]) (by simp [Gt.W,Gt.cells]) (.inl (by simp [Gt.W,Gt.cells]))),by omega,rfl,by omega,hR2,q1,hN2⟩
 ·obtain rfl : i = n := by omega
  have hdo := do_step G i (evOpen k) hR hI.out (by omega) (chk_open hr4.1 (by omega))
  obtain ⟨q1,q2,q3⟩ := idle_open hR hI k
  rw [q1] at hdo
  have q3 : (G.step (evOpen k)).clean.now = (i : Int) := by show (G.step (evOpen k)).now = _;rw [q3,hN]
  have q2 : (G.step (evOpen k)).clean.fl = [] := q2
  generalize (G.step (evOpen k)).clean = G2 at hdo q2 q3
  simp only [Gt.W,Gt.cells,evOpen,Evt.D,Outp.D,List.map_nil,List.map_cons] at hdo
  repeat' (first
   | simp [Gt.W,Gt.cells,hN,q2,q3]
   | refine ⟨wcS ?_,?_⟩
   | (refine WCall.pf (h4) ?_ ?_ ?_ ?_;iterate 3 (solve|simp [Gt.W,Gt.cells,hN,q2,q3]))
   | (refine WCall.pf (hdo) ?_ ?_ ?_ ?_;iterate 3 (solve|simp [Gt.W,Gt.cells,hN,q2,q3]))
   | with_reducible refine aI ?_ ?_ ?_)
  all_goals done
end Go.Proofs.YtibemmkfcjlmpaaGreat
