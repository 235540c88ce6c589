/- WALK: wang's search (filler.fill): the whole. -/
import Derived.Test.YthggpjpmjhaidaaDoorWgD2
import Derived.Deep.CutBlock
namespace Go.Proofs.YthggpjpmjhaidaaDoor
set_option linter.unusedSimpArgs false
set_option linter.unusedVariables false
open Go.RowKit Go.Lib
namespace Wg
open Tld Mem

set_option maxHeartbeats 4000000 in
set_option maxRecDepth 1000000 in
theorem dfill (B F M bt ot n tc W H : Nat) (ring : Bool) (ts : List Tl) (hn1 : 1 ≤ n) (hn16 : n ≤ 16) (hW1 : 1 ≤ W) (hW5 : W ≤ 5) (hH1 : 1 ≤ H) (hwh : W * H ≤ 25) (hBF : B ≤ F) (hBM : B ≤ M) (hTB : bt < B) (hts : ∀ t ∈ ts, t.ok = true) :
    ∀ m, IHT B F M bt ot n tc W H ring ts m := by
  intro m
  unfold IHT
  induction m with
  | zero =>
    intro r pre ks w hT hB hr hpos hpre hfd hm hs
    obtain ⟨v, hF, hown⟩ := hfd.ex
    refine (dfill_end F M (some ⟨bt, ot, none⟩) n tc W H ring v r w hF hr hW1 hW5 hwh (by omega)).mono ?_
    rintro e w' ⟨rfl, hb⟩
    have hb' : Below B w w' := hb.mono hB
    have hfd' : Found B F M (some ⟨bt, ot, none⟩) n tc W H ring pre w' := ⟨v, hF.keep hb hF.lt, own_keep hown hb⟩
    refine ⟨?_, hb', Others.of_below hb⟩
    rw [comp_end]
    cases he : endB W ring r
    · refine done_none (by simp) ⟨hfd', ks, hm.kept (hb.block M ?_), hs, fun s h => .inl h⟩
      obtain ⟨es, clock, hbk, _⟩ := hm.own
      exact (Array.getElem?_eq_some_iff.1 hbk).1
    · exact done_some (suf := []) (by simp) (by rw [List.append_nil]; exact hfd')
  | succ m ih =>
    intro r pre ks w hT hB hr hpos hpre hfd hm hs
    obtain ⟨v, hF, hown⟩ := hfd.ex
    obtain ⟨q, hq⟩ : ∃ q, q = held ks r := ⟨_, rfl⟩
    have HQ := Lib.hid hq
    have IH : Hid (IHT B F M bt ot n tc W H ring ts m) := ih
    have HT := Lib.hid hT
    have HR := Lib.hid hr
    have HM := Lib.hid hm
    have HS := Lib.hid hs
    have HOWN := Lib.hid hown
    have hwhne : ((r.pos : Int) == (W : Int) * (H : Int)) = false := by
      rw [beq_eq_false_iff_ne]
      have e : ((W * H : Nat) : Int) = (W : Int) * (H : Int) := by push_cast; rfl
      omega
    have hWH : (W : Int) * (H : Int) ≤ 25 ∧ 0 ≤ (W : Int) * (H : Int) := by
      have e : ((W * H : Nat) : Int) = (W : Int) * (H : Int) := by push_cast; rfl
      omega
    have hU : IntKind.i64.wrap ((W : Int) * (H : Int)) = (W : Int) * (H : Int) := by rw [IntKind.wrap_i64]; omega
    have hFlt := hF.lt
    have hMlt : M < w.heap.size := by
      obtain ⟨es, clock, hbk, _⟩ := hm.own
      exact (Array.getElem?_eq_some_iff.1 hbk).1
    have HF := Lib.hid hF
    clear hq ih hT hr hm hs hfd hown hF
    unfold rimV
    go_enter Tryd.func57, Tryd.ntmps57
    go_upto_region 1 with fail
    have hrow : Row (w.alloc (.cells (rimL r).toArray 108)) w.heap.size 108 (rimL r) := row_alloc w _ _
    have hBw : Below w.heap.size w (w.alloc (.cells (rimL r).toArray 108)) := (Below.refl _ _).alloc (Nat.le_refl _) _
    have hFk := HF.out.keep (B := w.heap.size) hBw hFlt
    have hMk := HM.out.kept (w' := w.alloc (.cells (rimL r).toArray 108)) (hBw.block M hMlt)
    have g0 := hrow.cell 0
    rw [rimL_pos] at g0
    have f1 := hFk.cell 1
    have f2 := hFk.cell 2
    unfold flL at f1 f2
    dsimp only [List.getElem?_cons_succ, List.getElem?_cons_zero] at f1 f2
    have HROW := Lib.hid hrow
    have HB := Lib.hid hBw
    have HFK := Lib.hid hFk
    have HMK := Lib.hid hMk
    have hlt0 := hrow.lt
    clear hrow hBw hFk hMk
    generalize w.alloc (.cells (rimL r).toArray 108) = w1 at *
    obtain ⟨b3, hb3⟩ : ∃ b3, b3 = w.heap.size := ⟨_, rfl⟩
    have HB3 := Lib.hid hb3
    rw [← hb3] at HROW g0 hlt0 hFlt hMlt hB ⊢
    rw [← hb3] at HB
    clear hb3
    go_region
    have HRD := Lib.hid HROW.out.drew
    have HBD := Lib.hid HB.out.drew
    have HFD := Lib.hid HFK.out.drew
    have HMD := Lib.hid (HMK.out.kept (w' := w1.drew) rfl)
    clear HROW HB HFK HMK f1 f2 g0 hwhne hWH hU hlt0 HF HM
    generalize w1.drew = w2 at *
    go_upto_region 11 with fail
    have l1 : w2.drew.rangeAt b3 0 (rimL r) := row_range HRD.out.drew
    have l2 : w2.drew.cell? ⟨F, 4, none⟩ = some (.map (some M)) := HFD.out.drew.cell 4
    have l3 : (Instr.lookup 103 (.map (some M)) (.agg (rimL r).toArray) false).run Tryd.prog w2.drew = .ok (.bool q) w2.drew := by
      rw [HQ.out]; exact (HMD.out.kept (w' := w2.drew) rfl).look HR.out
    have u1 := Tryd.underlying108
    have u2 : (Tryd.prog.info? 108).map (·.size) = some (rimL r).length := by rw [rimL_length HR.out]; exact infoRim
    have u3 := rimL_length HR.out
    refine wp_region_held_drew (S := fun w' => w'.rangeAt b3 0 (rimL r) ∧ w'.cell? ⟨F, 4, none⟩ = some (.map (some M)) ∧ (Instr.lookup 103 (.map (some M)) (.agg (rimL r).toArray) false).run Tryd.prog w' = .ok (.bool q) w') (by kernel_rfl) ⟨l1, l2, l3⟩ (fun hHeld => ?_)
    refine wpAnyH_take (i := 0) (oi := _) (v := ?_) rfl (by kernel_rfl) (by kernel_rfl) (by kernel_rfl) (fun _ _ _ h => h) (Or.inl ⟨by rfl, ?_⟩) (by assumption) ?_
    rotate_left
    · intro w hSw
      obtain ⟨s1, s2, s3⟩ := hSw
      go_simp
      try with_reducible rfl
    simp only [Act.put, List.getElem_toArray, List.getElem_cons_succ, List.getElem_cons_zero, List.setIfInBounds_toArray, List.set_cons_zero, List.set_cons_succ]
    refine wpAnyH_take (i := 1) (oi := _) (v := ?_) rfl (by kernel_rfl) (by kernel_rfl) (by kernel_rfl) (fun _ _ _ h => h) (Or.inl ⟨by rfl, ?_⟩) (by assumption) ?_
    rotate_left
    · intro w hSw
      obtain ⟨s1, s2, s3⟩ := hSw
      go_simp
      try with_reducible rfl
    simp only [Act.put, List.getElem_toArray, List.getElem_cons_succ, List.getElem_cons_zero, List.setIfInBounds_toArray, List.set_cons_zero, List.set_cons_succ]
    refine wpAnyH_take (i := 2) (oi := _) (v := ?_) rfl (by kernel_rfl) (by kernel_rfl) (by kernel_rfl) (fun _ _ _ h => h) (Or.inl ⟨by rfl, ?_⟩) (by assumption) ?_
    rotate_left
    · intro w hSw
      obtain ⟨s1, s2, s3⟩ := hSw
      go_simp
      try with_reducible rfl
    simp only [Act.put, List.getElem_toArray, List.getElem_cons_succ, List.getElem_cons_zero, List.setIfInBounds_toArray, List.set_cons_zero, List.set_cons_succ]
    refine wpAnyH_take (i := 3) (oi := _) (v := ?_) rfl (by kernel_rfl) (by kernel_rfl) (by kernel_rfl) (fun _ _ _ h => h) (Or.inl ⟨by rfl, ?_⟩) (by assumption) ?_
    rotate_left
    · intro w hSw
      obtain ⟨s1, s2, s3⟩ := hSw
      go_simp
      try with_reducible rfl
    simp only [Act.put, List.getElem_toArray, List.getElem_cons_succ, List.getElem_cons_zero, List.setIfInBounds_toArray, List.set_cons_zero, List.set_cons_succ]
    refine wpAnyH_take (i := 4) (oi := _) (v := _) rfl (by kernel_rfl) (by kernel_rfl) (by kernel_rfl) (fun _ _ _ h => h) (yieldsIf_load_mid (by rfl) _ _ rfl _ _ rfl (rimL r) _ ?hS Tryd.underlying108 rfl u2) (by assumption) ?_
    case hS => exact fun w hSw => hSw.1
    simp only [Act.put, List.getElem_toArray, List.getElem_cons_succ, List.getElem_cons_zero, List.setIfInBounds_toArray, List.set_cons_zero, List.set_cons_succ]
    refine wpAnyH_take (i := 5) (oi := _) (v := ?_) rfl (by kernel_rfl) (by kernel_rfl) (by kernel_rfl) (fun _ _ _ h => h) (Or.inl ⟨by rfl, ?_⟩) (by assumption) ?_
    rotate_left
    · intro w hSw
      obtain ⟨s1, s2, s3⟩ := hSw
      go_simp
      try with_reducible rfl
    simp only [Act.put, List.getElem_toArray, List.getElem_cons_succ, List.getElem_cons_zero, List.setIfInBounds_toArray, List.set_cons_zero, List.set_cons_succ]
    refine wpAnyH_done (by kernel_rfl) ?_ _
    have HRE := Lib.hid HRD.out.drew
    have HBE := Lib.hid HBD.out.drew
    have HFE := Lib.hid HFD.out.drew
    have HME := Lib.hid (HMD.out.kept (w' := w2.drew) rfl)
    clear HRD HBD HFD HMD hHeld l1 l2 l3 u1 u2 u3
    generalize w2.drew = w3 at *
    cases q
    case true =>
      go_wp2
      go_ret
      have hin : r ∈ ks := held_iff.1 HQ.out.symm
      have hno := HS.out r hin
      rw [show W * H - r.pos = m + 1 from by omega] at hno
      refine ⟨done_none hno ⟨⟨v, HFE.out, own_keep HOWN.out (by rw [← HB3.out]; exact HBE.out)⟩, ks, HME.out, HS.out, fun s h => .inl h⟩, HBE.out.mono hB, ?_⟩
      rw [HB3.out] at HBE
      exact Others.of_below HBE.out
    case false =>
      have HNO : Hid (r ∉ ks) := fun h => by have := held_iff.2 h; rw [← HQ.out] at this; cases this
      obtain ⟨x, hx⟩ : ∃ x, x = r.pos % W := ⟨_, rfl⟩
      have hxW : x < W := by rw [hx]; exact Nat.mod_lt _ (by omega)
      have htm : (r.pos : Int).tmod (W : Int) = (x : Int) := by rw [hx]; exact Int.ofNat_tmod _ _
      have hW00 : ¬ W = 0 := by omega
      have hU0 : IntKind.i64.wrap (x : Int) = (x : Int) := by rw [IntKind.wrap_i64]; omega
      have g0 := HRE.out.cell 0
      rw [rimL_pos] at g0
      have f1 := HFE.out.cell 1
      unfold flL at f1
      dsimp only [List.getElem?_cons_succ, List.getElem?_cons_zero] at f1
      have HX := Lib.hid hx
      clear hx
      go_wp2_with fail
      go_region
      have HRD := Lib.hid HRE.out.drew
      have HBD := Lib.hid HBE.out.drew
      have HFD := Lib.hid HFE.out.drew
      have HMD := Lib.hid (HME.out.kept (w' := w3.drew) rfl)
      have f0 := HFD.out.cell 0
      unfold flL at f0
      dsimp only [List.getElem?_cons_succ, List.getElem?_cons_zero] at f0
      clear HRE HBE HFE HME f1 g0 htm hU0
      generalize w3.drew = w4 at *
      have HLEFT : Hid (Left B F M (some ⟨bt, ot, none⟩) n tc W H ring (fun i => ts.getD i noTile) pre ks (r.pos + 1) w4) :=
        ⟨⟨v, HFD.out, own_keep HOWN.out (by rw [← HB3.out]; exact HBD.out)⟩, ks, HMD.out, HS.out, fun s h => .inl h⟩
      have HBW : Hid (Below B w w4) := HBD.out.mono hB
      have HOW : Hid (Others F w w4) := Others.of_below (by rw [← HB3.out]; exact HBD.out)
      clear HFD HMD HBD HOWN HS
      go_wp2_with fail
      go_loopw [62] (fun u wr => ∃ i : Nat, i ≤ n ∧ u = .int .i64 i ∧ Hid (comp (fun i => ts.getD i noTile) n W ring (m + 1) r = tr (stepF (fun i => ts.getD i noTile) n W ring m r) (n - i) i) ∧
        Left B F M (some ⟨bt, ot, none⟩) n tc W H ring (fun i => ts.getD i noTile) pre ks (r.pos + 1) wr ∧ Row wr b3 108 (rimL r) ∧ Below B w wr ∧ Others F w wr) (fun u _ => n - (intOf u).toNat)
      case atStart => exact ⟨0, Nat.zero_le _, rfl, rfl, HLEFT.out, HRD.out, HBW.out, HOW.out⟩
      case round =>
        clear HLEFT HBW HRD HOW
        obtain ⟨i, hi, rfl, HC, hleft, hrow, hbel, hoth⟩ := hrel
        have HOT := Lib.hid hoth
        clear hoth
        have HLF := Lib.hid hleft
        have HRW := Lib.hid hrow
        clear hleft hrow
        by_cases hlt : i < n
        · have hxr : r.x W = x := HX.out.symm
          have HXR := Lib.hid hxr
          have HPRE := Lib.hid hpre
          clear hxr hpre HNO HQ HX
          go_upto_block 3 with fail
          refine dround B F M bt ot n tc W H m i x b3 ring ts r pre ks w wr hlt hn16 hwh hW1 hW5 hxW hBF hBM hTB hpos hFlt hB hts IH HT hbel HOT HRW HLF HXR HR HPRE _ _ _ _ _ _ _ _ _ _ _ _ _ _ _ _ _ _ _ _ _ _ _ _ _ _ _ _ _ _ _ _ _ _ _ _ _ _ _ _ _ _ _ _ _ _ _ _ _ _ _ _ _ _ _ _ _ _ _ _ _ _ _ _ _ _ _ _ _ _ _ _ _ _ _ _ _ _ _ _ _ _ _ _ _ _ _ _ _ _ _ _ _ _ _ _ _ _ _ _ _ _ _ _ _ _ _ _ _ _ _ _ _ _ _ _ _ _ _ _ _ _ _ _ _ _ _ _ _ _ _ _ _ _ _ _ _ _ _ _ _ _ _ _ _ _ _ _ _ _ _ _ _ _ _ _ _ _ _ _ _ _ _ _ _ _ ?_ ?_
          · intro u7 u8 u9 u64 u65 u66 u67 u68 u69 u70 u71 u72 u73 u74 u75 u76 u77 u78 u79 u80 u81 u82 u83 u84 u85 u86 u87 u88 u89 u90 u91 u92 u93 u94 u95 u96 u97 u98 u99 u100 u101 u102 u103 u104 u105 u106 u107 u108 u109 u110 u111 u112 u113 u114 u115 u116 u117 u118 u119 u120 u121 u122 u123 u124 u125 u126 u127 u128 u129 u130 u131 u132 u133 u134 u135 u136 u137 u138 u139 u140 u141 u142 u143 u144 u145 u146 u147 u148 u149 u150 u151 u152 u153 u154 u155 u156 u157 u158 u159 u160 u161 u162 u163 u164 w' g1 g2 g3 g4 g5
            have G1 := Lib.hid (HC.out.trans g1)
            have G2 := Lib.hid g2
            have G3 := Lib.hid g3
            have G5 := Lib.hid g5
            clear g1 g2 g3 g5 HC HLF HRW HOT
            go_wp2_with fail
            go_roundw
            case rel => exact ⟨i + 1, by omega, by go_num, G1.out, G2.out, G3.out, g4, G5.out⟩
            case measure => simp [intOf]; omega
          · intro u7 u8 u9 u64 u65 u66 u67 u68 u69 u70 u71 u72 u73 u74 u75 u76 u77 u78 u79 u80 u81 u82 u83 u84 u85 u86 u87 u88 u89 u90 u91 u92 u93 u94 u95 u96 u97 u98 u99 u100 u101 u102 u103 u104 u105 u106 u107 u108 u109 u110 u111 u112 u113 u114 u115 u116 u117 u118 u119 u120 u121 u122 u123 u124 u125 u126 u127 u128 u129 u130 u131 u132 u133 u134 u135 u136 u137 u138 u139 u140 u141 u142 u143 u144 u145 u146 u147 u148 u149 u150 u151 u152 u153 u154 u155 u156 u157 u158 u159 u160 u161 u162 u163 u164 w' g1 g2 g3
            obtain ⟨suf, h1, h2⟩ := g1
            have HH1 := Lib.hid (HC.out.trans h1)
            clear h1
            go_wp2_with fail
            go_ret
            exact ⟨done_some HH1.out h2, g2, g3⟩
        · obtain rfl : i = n := by omega
          clear hpre
          obtain ⟨v', hF', hown'⟩ := HLF.out.found.ex
          obtain ⟨ks', hm', hs', hk'⟩ := HLF.out.memo
          have hno : r ∉ ks' := fun h => by
            rcases hk' r h with h1 | h1
            · exact HNO.out h1
            · omega
          have hcn : comp (fun i => ts.getD i noTile) i W ring (m + 1) r = none := by rw [HC.out, Nat.sub_self]; rfl
          have l1 : wr.drew.rangeAt b3 0 (rimL r) := row_range HRW.out.drew
          have l2 : wr.drew.cell? ⟨F, 4, none⟩ = some (.map (some M)) := hF'.drew.cell 4
          have u2 : (Tryd.prog.info? 108).map (·.size) = some (rimL r).length := by rw [rimL_length HR.out]; exact infoRim
          obtain ⟨w5, hrun, ho5, hg5⟩ := (hm'.kept (w' := wr.drew) rfl).own.update rimKeyed Tryd.underlying103 hm'.room (rimKey_is HR.out) (plainElem_bool Tryd.underlying4 true)
          have HM6 : Hid (Memo wr.drew M ks') := hm'.kept rfl
          have HM5 := Lib.hid (hm'.put HR.out hno ho5)
          have HG5 := Lib.hid hg5
          have HF5 := Lib.hid hF'
          have HO5 := Lib.hid hown'
          have HS5 := Lib.hid hs'
          have HK5 := Lib.hid hk'
          have HCN := Lib.hid hcn
          have n1 := hm'.ne HRW.out
          have n2 := hm'.ne hF'
          have n3 := hm'.ne_own hown'
          have N3 := Lib.hid n3
          unfold rimV at hrun
          clear n3
          clear ho5 hg5 hF' hown' hs' hk' hcn hm' hno HLF HC
          go_wp2_with fail
          refine wp_region_held_drew (S := fun w' => w'.rangeAt b3 0 (rimL r) ∧ w'.cell? ⟨F, 4, none⟩ = some (.map (some M))) (by kernel_rfl) ⟨l1, l2⟩ (fun hHeld => ?_)
          refine wpAnyH_take (i := 0) (oi := _) (v := ?_) rfl (by kernel_rfl) (by kernel_rfl) (by kernel_rfl) (fun _ _ _ h => h) (Or.inl ⟨by rfl, ?_⟩) (by assumption) ?_
          rotate_left
          · intro w hSw
            obtain ⟨s1, s2⟩ := hSw
            go_simp
            try with_reducible rfl
          simp only [Act.put, List.getElem_toArray, List.getElem_cons_succ, List.getElem_cons_zero, List.setIfInBounds_toArray, List.set_cons_zero, List.set_cons_succ]
          refine wpAnyH_take (i := 1) (oi := _) (v := ?_) rfl (by kernel_rfl) (by kernel_rfl) (by kernel_rfl) (fun _ _ _ h => h) (Or.inl ⟨by rfl, ?_⟩) (by assumption) ?_
          rotate_left
          · intro w hSw
            obtain ⟨s1, s2⟩ := hSw
            go_simp
            try with_reducible rfl
          simp only [Act.put, List.getElem_toArray, List.getElem_cons_succ, List.getElem_cons_zero, List.setIfInBounds_toArray, List.set_cons_zero, List.set_cons_succ]
          refine wpAnyH_take (i := 2) (oi := _) (v := ?_) rfl (by kernel_rfl) (by kernel_rfl) (by kernel_rfl) (fun _ _ _ h => h) (Or.inl ⟨by rfl, ?_⟩) (by assumption) ?_
          rotate_left
          · intro w hSw
            obtain ⟨s1, s2⟩ := hSw
            go_simp
            try with_reducible rfl
          simp only [Act.put, List.getElem_toArray, List.getElem_cons_succ, List.getElem_cons_zero, List.setIfInBounds_toArray, List.set_cons_zero, List.set_cons_succ]
          refine wpAnyH_take (i := 3) (oi := _) (v := ?_) rfl (by kernel_rfl) (by kernel_rfl) (by kernel_rfl) (fun _ _ _ h => h) (Or.inl ⟨by rfl, ?_⟩) (by assumption) ?_
          rotate_left
          · intro w hSw
            obtain ⟨s1, s2⟩ := hSw
            go_simp
            try with_reducible rfl
          simp only [Act.put, List.getElem_toArray, List.getElem_cons_succ, List.getElem_cons_zero, List.setIfInBounds_toArray, List.set_cons_zero, List.set_cons_succ]
          refine wpAnyH_take (i := 4) (oi := _) (v := _) rfl (by kernel_rfl) (by kernel_rfl) (by kernel_rfl) (fun _ _ _ h => h) (yieldsIf_load_mid (by rfl) _ _ rfl _ _ rfl (rimL r) _ ?hS Tryd.underlying108 rfl u2) (by assumption) ?_
          case hS => exact fun w hSw => hSw.1
          simp only [Act.put, List.getElem_toArray, List.getElem_cons_succ, List.getElem_cons_zero, List.setIfInBounds_toArray, List.set_cons_zero, List.set_cons_succ]
          refine wpAnyH_ready (rs := [5]) (by kernel_rfl) (by simp) ?_
          refine AllReadyH.cons (o := _) rfl (fun K hK => ?_) AllReadyH.nil
          rw [if_pos (by rfl)]
          refine wp_map _ _ _ _ rfl _ _ _ rfl rfl rfl hrun ?_
          have hR5 : Row w5 b3 108 (rimL r) := (HG5.out.block b3 HRW.out.lt (fun e => n1 (Option.some.inj e))).trans HRW.out
          have hF6 : Row w5 F 105 (flL (some ⟨bt, ot, none⟩) i tc W H ring M v') := (HG5.out.block F HF5.out.lt (fun e => n2 (Option.some.inj e))).trans HF5.out
          refine hK.out _ _ ⟨row_range hR5, hF6.cell 4⟩ (fun _ => ?_)
          refine wpAnyH_done (by kernel_rfl) ?_ _
          simp only [Act.put, List.getElem_toArray, List.getElem_cons_succ, List.getElem_cons_zero, List.setIfInBounds_toArray, List.set_cons_zero, List.set_cons_succ]
          go_wp2_with fail
          go_ret
          refine ⟨done_none HCN.out ⟨⟨v', hF6, ?_⟩, ks' ++ [r], HM5.out, fun s hs => ?_, fun s hs => ?_⟩, ?_⟩
          · exact World.ownsRow.kept (w := wr.drew) HO5.out HG5.out (.inr N3.out)
          · rcases List.mem_append.1 hs with h1 | h1
            · exact HS5.out s h1
            · rw [List.mem_singleton.1 h1, show W * H - r.pos = m + 1 from by omega]; exact HCN.out
          · rcases List.mem_append.1 hs with h1 | h1
            · rcases HK5.out s h1 with h2 | h2
              · exact .inl h2
              · exact .inr (by omega)
            · rw [List.mem_singleton.1 h1]; exact .inr (Nat.le_refl _)
          · exact ⟨hbel.drew.grown HG5.out (by have := HRW.out.lt; show B ≤ wr.heap.size; omega) (fun j hj => by cases hj; exact hBM), (HOT.out.trans (show Others F wr wr.drew from fun _ _ _ _ _ h => h)).trans (Others.of_map (w := wr.drew) HM6.out HG5.out)⟩
end Wg
end Go.Proofs.YthggpjpmjhaidaaDoor
