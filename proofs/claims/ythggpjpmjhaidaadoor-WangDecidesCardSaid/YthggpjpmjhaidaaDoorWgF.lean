/- WALK: wang.fill, Fill. -/
import Derived.Test.YthggpjpmjhaidaaDoorWgD1
import Derived.Test.YthggpjpmjhaidaaDoorWgW
namespace Go.Proofs.YthggpjpmjhaidaaDoor
set_option linter.unusedSimpArgs false
set_option linter.unusedVariables false
open Go.RowKit Go.Lib
namespace Wg
open Tld Mem

/-- What a search for all cells hands back. -/
def Filled (B : Nat) (o : Option (List Nat)) (e : Ending) (w : World) : Prop :=
  match o with
  | none => e = .returned (.slice none 0 0)
  | some l => ∃ g c, e = .returned (.slice (some ⟨g, 0, none⟩) l.length c) ∧ w.ownsRow B 3 1 (.slice (some ⟨g, 0, none⟩) l.length c) l.length (nats l)
theorem filled_none {B : Nat} {o : Option (List Nat)} {w : World} (h : o = none) : Filled B o (.returned (.slice none 0 0)) w := by subst h; rfl
theorem filled_some {B g c : Nat} {o : Option (List Nat)} {l : List Nat} {w : World} (h : o = some l) (ho : w.ownsRow B 3 1 (.slice (some ⟨g, 0, none⟩) l.length c) l.length (nats l)) : Filled B o (.returned (.slice (some ⟨g, 0, none⟩) l.length c)) w := by subst h; exact ⟨g, c, rfl, ho⟩
theorem tl_d0 {ts : List Tl} (hts : ∀ t ∈ ts, t.ok = true) (k : Nat) : 0 ≤ (ts.getD k noTile).d := by
  by_cases hk : k < ts.length
  · have h := hts _ (tl_mem hk)
    unfold Tl.ok at h
    simp only [Bool.and_eq_true, colI] at h
    exact h.1.2.1
  · rw [List.getD_eq_getElem?_getD, List.getElem?_eq_none (by omega)]
    exact Int.le_refl _
def ov (k : Nat) : Rm := ⟨0, List.replicate k (-1) ++ List.replicate (5 - k) 0, 0, [0, 0, 0, 0, 0], [0, 0, 0, 0, 0]⟩
theorem ov_set {k : Nat} (h : k < 5) : (rimL (ov k)).set (1 + k) (.int .i64 (-1)) = rimL (ov (k + 1)) := by
  have : k = 0 ∨ k = 1 ∨ k = 2 ∨ k = 3 ∨ k = 4 := by omega
  rcases this with rfl | rfl | rfl | rfl | rfl <;> rfl
theorem ov_end : ov 5 = rim0 := rfl
theorem rim0_fine : Fine rim0 := by
  refine ⟨by decide, rfl, rfl, rfl, ?_, by decide, ?_, ?_⟩ <;> (unfold rim0; decide)
theorem rim0_of (T : Nat → Tl) (W : Nat) (ring : Bool) (hW5 : W ≤ 5) : Of T W ring [] rim0 := of_rim0 T W ring hW5

set_option maxHeartbeats 4000000 in
set_option maxRecDepth 1000000 in
theorem fill_any (bt ot n tc W H : Nat) (ring : Bool) (ts : List Tl) (w : World) (hT : Tiles w (some ⟨bt, ot, none⟩) n ts) (hn1 : 1 ≤ n) (hn16 : n ≤ 16) (hW1 : 1 ≤ W) (hW5 : W ≤ 5) (hH1 : 1 ≤ H) (hH5 : H ≤ 5) (hts : ∀ t ∈ ts, t.ok = true) :
    Calls Tryd.prog 36 #[.slice (some ⟨bt, ot, none⟩) n tc, .int .i64 W, .int .i64 H, .bool ring] w fun e w' => Filled w.heap.size (fillS (fun i => ts.getD i noTile) n W H ring) e w' ∧ Below w.heap.size w w' := by
  have hwh : W * H ≤ 25 := Nat.le_trans (Nat.mul_le_mul hW5 hH5) (by omega)
  have hbt : bt < w.heap.size := by
    obtain ⟨b, off, e, hlt⟩ := hT.some (by omega)
    cases e; exact hlt
  have HT := Lib.hid hT
  have HTS := Lib.hid hts
  clear hT hts
  have hmm := @run_makeMap Tryd.prog
  go_enter Tryd.func36, Tryd.ntmps36
  go_upto_region 2 with fail
  clear hmm
  have hB2 : Below w.heap.size w ((w.alloc (.map #[] 0)).alloc (.cells (flL (some ⟨bt, ot, none⟩) n tc W H ring w.heap.size (.slice none 0 0)).toArray 105)) := ((Below.refl _ _).alloc (Nat.le_refl _) _).alloc (by simp) _
  have hF2 : Row ((w.alloc (.map #[] 0)).alloc (.cells (flL (some ⟨bt, ot, none⟩) n tc W H ring w.heap.size (.slice none 0 0)).toArray 105)) (w.heap.size + 1) 105 (flL (some ⟨bt, ot, none⟩) n tc W H ring w.heap.size (.slice none 0 0)) := by
    have := row_alloc (w.alloc (.map #[] 0)) 105 (flL (some ⟨bt, ot, none⟩) n tc W H ring w.heap.size (.slice none 0 0))
    rwa [World.size_alloc] at this
  have hM2 : Memo ((w.alloc (.map #[] 0)).alloc (.cells (flL (some ⟨bt, ot, none⟩) n tc W H ring w.heap.size (.slice none 0 0)).toArray 105)) w.heap.size [] :=
    (memo_made w).kept (((Below.refl _ (w.alloc (.map #[] 0))).alloc (Nat.le_refl _) _).block w.heap.size (by simp))
  have HB2 := Lib.hid hB2
  have HF2 := Lib.hid hF2
  have HM2 := Lib.hid hM2
  have hF2lt := hF2.lt
  clear hB2 hF2 hM2
  unfold flL at HB2 HF2 HM2 hF2lt
  generalize (w.alloc (.map #[] 0)).alloc (.cells [.slice (some ⟨bt, ot, none⟩) n tc, .int .i64 (W : Int), .int .i64 (H : Int), .bool ring, .map (some w.heap.size), .slice none 0 0].toArray 105) = w2 at *
  obtain ⟨M, hM⟩ : ∃ M, M = w.heap.size := ⟨_, rfl⟩
  have HMM := Lib.hid hM
  have HF3 : Hid (Row w2 (M + 1) 105 (flL (some ⟨bt, ot, none⟩) n tc W H ring M (.slice none 0 0))) := by rw [hM]; exact HF2.out
  rw [← hM] at HB2 HM2 hbt hF2lt ⊢
  clear hM HF2
  go_upto_region 3 with (refine Ops.wpList_store_arr rfl 108 _ _ rfl _ rfl 108 _ (rimL (ov 0)) rfl (row_alloc _ _ _) rfl infoRim (rimL_oneCell _) ?_; intro w3 hrow3 hon3)
  obtain ⟨b, hb⟩ : ∃ b, b = w2.heap.size := ⟨_, rfl⟩
  have HB := Lib.hid hb
  rw [← hb] at hrow3 hon3 hF2lt ⊢
  have hB3 : Below b w2 w3 := by rw [hb]; exact ((Below.refl _ _).alloc (Nat.le_refl _) _).trans (hon3.below (by omega))
  have HROW3 := Lib.hid hrow3
  have HB3 := Lib.hid hB3
  clear hb hrow3 hon3 hB3
  go_wp2_with fail
  go_loopw [20] (fun u wr => ∃ k : Nat, k ≤ 5 ∧ u = .int .i64 k ∧ Row wr b 108 (rimL (ov k)) ∧ Below b w2 wr) (fun u _ => 5 - (intOf u).toNat)
  case atStart => exact ⟨0, Nat.zero_le _, rfl, HROW3.out, HB3.out⟩
  case round =>
    obtain ⟨k, hk, rfl, hrow, hbel⟩ := hrel
    by_cases hlt : k < 5
    · have hki : (k : Int) < 5 := by omega
      obtain ⟨v1, c1⟩ := row_at hrow (i := 1 + k) (by rw [rimL_len5 (by unfold ov; simp; omega) rfl rfl]; omega)
      have z1 := hrow.frozen (1 + k)
      have hrow' := hrow.set (1 + k) (.int .i64 (-1))
      rw [ov_set hlt] at hrow'
      have hb' := hbel.trans ((only_setCell wr b (1 + k) (.int .i64 (-1))).below (Nat.le_refl _))
      have HR' := Lib.hid hrow'
      have HB' := Lib.hid hb'
      clear hrow hrow' hb' hbel
      go_wp2_with fail
      go_roundw
      case rel => exact ⟨k + 1, by omega, by go_num, HR'.out, HB'.out⟩
      case measure => simp [intOf]; omega
    · obtain rfl : k = 5 := by omega
      rw [ov_end] at hrow
      have hBM : M ≤ b := by omega
      have HROW := Lib.hid hrow
      have HFX := Lib.hid (HF3.out.keep hbel hF2lt)
      have HMX := Lib.hid (HM2.out.kept (hbel.block M (by omega)))
      have hbelw : Below M w wr := HB2.out.trans (hbel.mono hBM)
      have HBX := Lib.hid hbelw
      have hT' := HT.out.low hbelw hbt
      have hsz : M ≤ wr.heap.size := by have := hrow.lt; omega
      have hIH := dfill M (M + 1) M bt ot n tc W H ring ts hn1 hn16 hW1 hW5 hH1 hwh (by omega) (by omega) hbt HTS.out (W * H) rim0 [] [] wr hT' hsz rim0_fine (by show 0 + W * H = W * H; omega) rfl
        ⟨_, HFX.out, ⟨rfl, .inl ⟨rfl, rfl⟩⟩⟩ HMX.out (fun s hs => absurd hs List.not_mem_nil)
      rw [← fill_comp hW1 hW5 hH1 (fun k => tl_d0 HTS.out k)] at hIH
      unfold rimV at hIH
      have HIH := Lib.hid hIH
      have u3 : (Tryd.prog.info? 108).map (·.size) = some (rimL rim0).length := infoRim
      clear hIH hrow hT' hbelw hbel HFX HMX HM2 HB2 HB3 HROW3 HF3
      go_wp2_with (refine wpList_load_mid rfl 108 _ rfl b 0 rfl _ _ (row_range HROW.out) Tryd.underlying108 rfl u3 ?_)
      refine HIH.out.mono ?_
      clear u3 HIH
      rintro e w4 ⟨hd, hb4, ho4⟩
      have HB4 := Lib.hid (HBX.out.trans hb4)
      clear hb4 ho4 HBX
      cases hf : fillS (fun i => ts.getD i noTile) n W H ring with
      | none =>
        rw [hf] at hd
        obtain ⟨rfl, hlf⟩ := hd
        have HFN := Lib.hid hf
        clear hlf hf
        go_wp2_with fail
        go_ret
        exact ⟨filled_none HFN.out, by rw [← HMM.out]; exact HB4.out⟩
      | some l =>
        rw [hf] at hd
        obtain ⟨rfl, hfd⟩ := hd
        have hl := (fillS_some hf).2.1
        have HL := Lib.hid hl
        have HFS := Lib.hid hf
        clear hf hl
        obtain ⟨v, hF, hown⟩ := hfd.ex
        rw [List.nil_append] at hown
        have f5 := hF.cell 5
        unfold flL at f5
        dsimp only [List.getElem?_cons_succ, List.getElem?_cons_zero] at f5
        have HOW := Lib.hid hown
        clear hfd hF hown
        go_wp2_with fail
        go_ret
        refine ⟨?_, by rw [← HMM.out]; exact HB4.out⟩
        rcases HOW.out.2 with ⟨_, h0⟩ | ⟨g, cap, cur, hv, _⟩
        · have := HL.out
          have := Nat.mul_pos hW1 hH1
          omega
        · subst hv
          exact filled_some HFS.out (by rw [← HMM.out]; exact HOW.out)
end Wg
end Go.Proofs.YthggpjpmjhaidaaDoor
