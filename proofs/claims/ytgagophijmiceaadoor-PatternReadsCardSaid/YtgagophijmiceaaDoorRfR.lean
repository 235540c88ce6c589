/- WALK: the document's edenref1.ParseRuns, whole. -/
import Derived.Test.YtgagophijmiceaaDoorRfR2
import Derived.Test.YtgagophijmiceaaDoorRfS
namespace Go.Proofs.YtgagophijmiceaaDoor
set_option linter.unusedSimpArgs false
set_option linter.unusedVariables false
open Go.RowKit
namespace Pr
open Tld Mem Bl Pn Pw Rd

theorem word_bad {l ws : List UInt8} {i : Nat} {K : Nat → Hd} {p : Nat} {e : Int} (h : word l ws i K = .bad p e) : e = 2 ∨ K (i + ws.length) = .bad p e := by
  unfold word at h
  split at h
  · cases h; exact .inl rfl
  · exact .inr h
theorem side_bad {l : List UInt8} {i : Nat} {ds : List UInt8} {K : Nat → Nat → Hd} {p : Nat} {e : Int} (h : side l i ds K = .bad p e) : (e = 1 ∨ e = 2) ∨ K (numv ds).toNat (i + ds.length) = .bad p e := by
  unfold side at h
  split at h
  · cases h; exact .inl (.inr rfl)
  · split at h
    · cases h; exact .inl (.inl rfl)
    · exact .inr h
theorem head_bad_ne {l : List UInt8} {p : Nat} {e : Int} (h : head l = .bad p e) : e = 1 ∨ e = 2 := by
  rcases word_bad h with h | h
  · exact .inr h
  · rcases side_bad h with h | h
    · exact h
    · rcases word_bad h with h | h
      · exact .inr h
      · rcases side_bad h with h | h
        · exact h
        · rcases word_bad h with h | h
          · exact .inr h
          · cases h
/-- What the document's ParseRuns hands back. -/
def PrQ (l : List UInt8) (w0 : World) (e : Ending) (w' : World) : Prop := match parse l with
  | .bad p ev => e = .returned (.tuple #[.agg #[.int .i64 0, .int .i64 0, .slice none 0 0], .int .i64 (p : Nat), .int .i64 ev])
  | .ok W H F => ∃ g N2, e = .returned (.tuple #[.agg (boxP (W : Nat) (H : Nat) (some ⟨g, 0, none⟩) (W * H) N2).toArray, .int .i64 0, .int .i64 0]) ∧ Vec w' g (W * H) F ∧ w0.heap.size ≤ g
theorem prQ_bad {l : List UInt8} {w0 w' : World} {p : Nat} {ev : Int} (h : parse l = .bad p ev) : PrQ l w0 (.returned (.tuple #[.agg #[.int .i64 0, .int .i64 0, .slice none 0 0], .int .i64 (p : Nat), .int .i64 ev])) w' := by
  unfold PrQ
  rw [h]
theorem prQ_ok {l : List UInt8} {w0 w' : World} {W H N g N2 : Nat} {F : Nat → Nat} (h : parse l = .ok W H F) (hN : N = W * H) (hv : Vec w' g N F) (hg : w0.heap.size ≤ g) : PrQ l w0 (.returned (.tuple #[.agg (boxP (W : Nat) (H : Nat) (some ⟨g, 0, none⟩) N N2).toArray, .int .i64 0, .int .i64 0])) w' := by
  unfold PrQ
  rw [h]
  subst hN
  exact ⟨g, N2, rfl, hv, hg⟩
set_option maxHeartbeats 16000000 in
set_option maxRecDepth 1000000 in
theorem rpruns_any (s : ByteArray) (w : World) (hs : s.size ≤ 1000000000) : Calls Tryd.prog 12 #[.string s] w fun e w' => PrQ s.data.toList w e w' ∧ Below w.heap.size w w' := by
  obtain ⟨i0, hI0, hz0, hz1, hz2⟩ := info_parts infoIntV
  go_enter Tryd.func12, Tryd.ntmps12
  go_upto_region 2 with fail
  obtain ⟨hr5, hr8, hb2⟩ := two_new w 35 35 noPat noPat
  have HR : Hid (Row ((w.alloc (.cells #[.int .i64 0, .int .i64 0, .slice none 0 0] 35)).alloc (.cells #[.int .i64 0, .int .i64 0, .slice none 0 0] 35)) w.heap.size 35 noPat) := Lib.hid hr5
  have HZ : Hid (Row ((w.alloc (.cells #[.int .i64 0, .int .i64 0, .slice none 0 0] 35)).alloc (.cells #[.int .i64 0, .int .i64 0, .slice none 0 0] 35)) (w.heap.size + 1) 35 noPat) := Lib.hid hr8
  have HB : Hid (Below w.heap.size w ((w.alloc (.cells #[.int .i64 0, .int .i64 0, .slice none 0 0] 35)).alloc (.cells #[.int .i64 0, .int .i64 0, .slice none 0 0] 35))) := Lib.hid hb2
  clear hr5 hr8 hb2
  generalize (w.alloc (.cells #[.int .i64 0, .int .i64 0, .slice none 0 0] 35)).alloc (.cells #[.int .i64 0, .int .i64 0, .slice none 0 0] 35) = w1 at *
  obtain ⟨rb, hrb⟩ : ∃ rb, rb = w.heap.size := ⟨_, rfl⟩
  rw [← hrb] at HR HZ ⊢
  obtain ⟨nb, hnb⟩ : ∃ nb, nb = rb + 1 := ⟨_, rfl⟩
  rw [← hnb] at HZ ⊢
  have HRB : Hid (w.heap.size ≤ rb) := Lib.hid (by rw [hrb]; exact Nat.le_refl _)
  clear hrb hnb
  by_cases h4 : 40000 < s.size
  · have hlt : (40000 : Int) < (s.size : Int) := by omega
    have HPA : Hid (parse s.data.toList = .bad 0 4) := Lib.hid (parse_long (by rw [← Lib.size_eq]; exact h4))
    clear h4
    have l5 := row_range HZ.out
    go_wp2_with (first | (refine wpList_load_mid rfl 35 _ rfl nb 0 rfl _ _ l5 Tryd.underlying35 rfl infoPat ?_) | (refine Ops.wpList_store_arr rfl 35 _ _ rfl rb rfl 35 noPat noPat rfl HR.out rfl infoPat noPat_one ?_; intro w5 hr5 ho5))
    refine bodyPost_ret (results_pat3 (t := 2) (u := 3) (v := 4) (e := .int .i64 0) (f := .int .i64 4) rfl _ _ hr5 rfl rfl rfl rfl) rfl ⟨prQ_bad (p := 0) HPA.out, HB.out.trans (ho5.below HRB.out)⟩
  · have hlt : ¬ (40000 : Int) < (s.size : Int) := by omega
    have HSZ : Hid (s.size ≤ 40000) := Lib.hid (by omega)
    have HLN : Hid (s.data.toList.length ≤ 40000) := Lib.hid (by rw [← Lib.size_eq]; exact HSZ.out)
    clear h4
    go_wp2_with fail
    refine (rsides_any s w1 HSZ.out).mono ?_
    rintro e2 w2 ⟨hhd, hb2⟩
    have HR := Lib.hid (HR.out.keep hb2 HR.out.lt)
    have HZ := Lib.hid (HZ.out.keep hb2 HZ.out.lt)
    have HB := Lib.hid (HB.out.trans (hb2.mono HB.out.size))
    clear hb2
    unfold HdQ at hhd
    cases hh : head s.data.toList with
    | bad p ev =>
      rw [hh] at hhd
      dsimp only at hhd
      subst hhd
      have HPA : Hid (parse s.data.toList = .bad p ev) := Lib.hid (parse_bad HLN.out hh)
      have hev : (ev != 0) = true := by rw [bne_iff_ne]; rcases head_bad_ne hh with h | h <;> rw [h] <;> decide
      clear hh
      have l5 := row_range HZ.out
      go_wp2_with (first | (refine wpList_load_mid rfl 35 _ rfl nb 0 rfl _ _ l5 Tryd.underlying35 rfl infoPat ?_) | (refine Ops.wpList_store_arr rfl 35 _ _ rfl rb rfl 35 noPat noPat rfl HR.out rfl infoPat noPat_one ?_; intro w5 hr5 ho5))
      refine bodyPost_ret (results_pat3 (t := 2) (u := 3) (v := 4) (e := .int .i64 ((p : Nat) : Int)) (f := .int .i64 ev) rfl _ _ hr5 rfl rfl rfl rfl) rfl ⟨prQ_bad HPA.out, HB.out.trans (ho5.below HRB.out)⟩
    | ok W H i =>
      rw [hh] at hhd
      dsimp only at hhd
      subst hhd
      obtain ⟨hW, hH, hi⟩ := head_ok_le hh
      have HPA : Hid (parse s.data.toList = fin W H (runR s.data.toList W H i 0 0 fun _ => 0)) := Lib.hid (parse_ok HLN.out hh)
      have HI : Hid (i ≤ s.size) := Lib.hid (by rw [Lib.size_eq]; exact hi)
      clear hh hi
      go_upto_region 8 with fail
      have hnew := row_alloc w2 35 (boxP (W : Nat) (H : Nat) none 0 0)
      have hbn : Below w2.heap.size w2 (w2.alloc (.cells (boxP (W : Nat) (H : Nat) none 0 0).toArray 35)) := (Below.refl _ _).alloc (Nat.le_refl _) _
      have HNE : Hid (rb ≠ w2.heap.size ∧ nb ≠ w2.heap.size ∧ w.heap.size ≤ w2.heap.size) := Lib.hid ⟨Nat.ne_of_lt HR.out.lt, Nat.ne_of_lt HZ.out.lt, HB.out.size⟩
      have HP : Hid (Row (w2.alloc (.cells #[.int .i64 (W : Nat), .int .i64 (H : Nat), .slice none 0 0] 35)) w2.heap.size 35 (boxP (W : Nat) (H : Nat) none 0 0)) := Lib.hid hnew
      have HR : Hid (Row (w2.alloc (.cells #[.int .i64 (W : Nat), .int .i64 (H : Nat), .slice none 0 0] 35)) rb 35 noPat) := Lib.hid (HR.out.keep hbn HR.out.lt)
      have HZ : Hid (Row (w2.alloc (.cells #[.int .i64 (W : Nat), .int .i64 (H : Nat), .slice none 0 0] 35)) nb 35 noPat) := Lib.hid (HZ.out.keep hbn HZ.out.lt)
      have HB : Hid (Below w.heap.size w (w2.alloc (.cells #[.int .i64 (W : Nat), .int .i64 (H : Nat), .slice none 0 0] 35))) := Lib.hid (HB.out.trans (hbn.mono HB.out.size))
      clear hnew hbn
      generalize w2.alloc (.cells #[.int .i64 (W : Nat), .int .i64 (H : Nat), .slice none 0 0] 35) = w3 at *
      obtain ⟨pb, hpb⟩ : ∃ pb, pb = w2.heap.size := ⟨_, rfl⟩
      rw [← hpb] at HP HNE ⊢
      clear hpb
      obtain ⟨N, hN⟩ : ∃ N, N = W * H := ⟨_, rfl⟩
      have hN2 : N ≤ 10000 := by rw [hN]; exact Nat.mul_le_mul hW hH
      have HWB := Lib.hid hW
      have HHB := Lib.hid hH
      have hwh : wrap64 ((W : Int) * (H : Int)) = ((N : Nat) : Int) := wr_nat (by rw [hN]; push_cast; rfl) (by omega)
      have HN := Lib.hid hN
      clear hN hW hH
      have HRX := Lib.hid HR.out.lt
      have HZX := Lib.hid HZ.out.lt
      have HPL0 := Lib.hid HP.out.lt
      go_upto_region 9 with (refine Ops.wpList_make rfl 22 _ _ rfl 3 i0 (.int .i64 0) Tryd.underlying22 hI0 hz0 rfl hz1 (by rw [hz2]; decide) N (congrArg (Value.int .i64) hwh) (congrArg (Value.int .i64) hwh) (by omega) ?_; intro g w5 hg hb5 hRg; have z2 := (HP.out.keep hb5 HP.out.lt).frozen 2; have f3 : w5.cell? ⟨pb, 2, none⟩ = some (.slice none 0 0) := (HP.out.keep hb5 HP.out.lt).cell 2)
      have HP := Lib.hid (HP.out.keep hb5 HP.out.lt)
      have HR := Lib.hid (HR.out.keep hb5 HR.out.lt)
      have HZ := Lib.hid (HZ.out.keep hb5 HZ.out.lt)
      have HGN : Hid (pb ≠ g ∧ rb ≠ g ∧ nb ≠ g ∧ rb ≠ pb ∧ w.heap.size ≤ g) := Lib.hid (by
        have h1 := HRX.out; have h2 := HPL0.out; have h3 := HB.out.size; have h4 := HNE.out; have h5 := HZX.out; omega)
      have HB := Lib.hid (HB.out.trans (hb5.mono HB.out.size))
      have HV := Lib.hid (vec_made hRg)
      clear hRg hb5
      have hon := only_setCell w5 pb 2 (.slice (some ⟨g, 0, none⟩) N N)
      have HP : Hid (Row (w5.setCell ⟨pb, 2, none⟩ (.slice (some ⟨g, 0, none⟩) N N)) pb 35 (boxP (W : Nat) (H : Nat) (some ⟨g, 0, none⟩) N N)) := Lib.hid (HP.out.set 2 (.slice (some ⟨g, 0, none⟩) N N))
      have HV := Lib.hid (HV.out.other hon HGN.out.1.symm)
      have HR := Lib.hid (HR.out.other hon HGN.out.2.2.2.1)
      have HZ := Lib.hid (HZ.out.other hon HNE.out.2.1)
      have HB := Lib.hid (HB.out.trans (hon.below HNE.out.2.2))
      clear hon f3 z2 hwh hN2
      generalize w5.setCell ⟨pb, 2, none⟩ (.slice (some ⟨g, 0, none⟩) N N) = w6 at *
      go_wp2_with fail
      go_loopw [8, 11, 12] (fun v8 v11 v12 wx => ∃ (i row col : Nat) (F : Nat → Nat), v8 = .int .i64 ((i : Nat) : Int) ∧ v11 = .int .i64 ((col : Nat) : Int) ∧ v12 = .int .i64 ((row : Nat) : Int) ∧ i ≤ s.size ∧ Vec wx g N F ∧ Row wx pb 35 (boxP (W : Nat) (H : Nat) (some ⟨g, 0, none⟩) N N) ∧ Row wx rb 35 noPat ∧ Row wx nb 35 noPat ∧ Below w.heap.size w wx ∧ col ≤ W ∧ row ≤ H ∧ parse s.data.toList = fin W H (runR s.data.toList W H i row col F)) (fun v _ _ _ => s.size + 1 - (RowKit.intOf v).toNat)
      case atStart => exact ⟨i, 0, 0, fun _ => 0, rfl, rfl, rfl, HI.out, HV.out, HP.out, HR.out, HZ.out, HB.out, Nat.zero_le _, Nat.zero_le _, HPA.out⟩
      case round =>
        clear HV HP HR HZ HB HI HPA
        obtain ⟨i, row, col, F, rfl, rfl, rfl, hi, hv, hp, hr, hz, hb, hc, hrw, hpa⟩ := hrel
        have HV := Lib.hid hv
        have HP := Lib.hid hp
        have HR := Lib.hid hr
        have HZ := Lib.hid hz
        have HB := Lib.hid hb
        have HI := Lib.hid hi
        have HPA := Lib.hid hpa
        have HC := Lib.hid hc
        have HRW := Lib.hid hrw
        have HIL : Hid (i ≤ s.data.toList.length) := Lib.hid (by rw [← Lib.size_eq]; exact hi)
        clear hi hv hp hr hz hb hc hrw hpa
        go_upto_block 1 with fail
        apply rf_pass (w0 := w) (s := s) (rb := rb) (nb := nb) (pb := pb) (g := g) (W := W) (H := H) (N := N) (N2 := N) (i := i) (row := row) (col := col) (F := F)
        case hs => exact HSZ.out
        case hi => exact HI.out
        case hV => exact HV.out
        case hP => exact HP.out
        case hR => exact HR.out
        case hZ => exact HZ.out
        case hrb => exact HRB.out
        case hb => exact HB.out
        case hne => exact HGN.out
        case hN => exact HN.out
        case hW => exact HWB.out
        case hH => exact HHB.out
        case hcl => exact HC.out
        case hrl => exact HRW.out
        case hret =>
          rintro a' w' v hr hd (⟨p, ev, hst, rfl⟩ | ⟨F', hst, rfl, hv'⟩) hbl
          · show bodyPost Tryd.prog Tryd.f12 (fun e w' => PrQ s.data.toList w e w' ∧ Below w.heap.size w w') .ret _ _
            exact bodyPost_ret hr hd ⟨prQ_bad (by rw [HPA.out, runR_bad HIL.out hst]; rfl), hbl⟩
          · show bodyPost Tryd.prog Tryd.f12 (fun e w' => PrQ s.data.toList w e w' ∧ Below w.heap.size w w') .ret _ _
            exact bodyPost_ret hr hd ⟨prQ_ok (by rw [HPA.out, runR_ok HIL.out hst]; rfl) HN.out hv' HGN.out.2.2.2.2, hbl⟩
        case hnext =>
          intro u3 u4 u13 u14 u15 u16 u17 u18 u19 u45 u46 u47 u48 u49 u50 u51 u52 u53 u54 u55 u56 u57 u58 u59 u60 u61 u62 u63 u64 u65 u66 u67 u68 u69 u70 u71 u72 u73 u74 u75 u76 u77 u78 u79 u80 u81 u82 u83 u84 u85 u86 u87 u88 u89 u90 u91 u92 u93 u94 u95 u96 u97 u98 u99 u100 u101 u102 u103 u104 u105 u106 u107 u108 u109 u110 u111 u112 u113 u114 u115 u116 u117 u118 u119 u120 u121 u122 u123 u124 u125 u126 u127 u128 u129 u130 u131 u132 u133 u134 u135 u136 u137 u138 u139 u140 u141 u142 u143 u144 u145 u146 u147 u148 u149 u150 u151 u152 u153 u154 u155 u156 u157 u158 u159 u160 u161 u162 u163 u164 u165 u166 u167 u168 u169 u170 u171 u172 u173 u174 u175 u176 u177 u178 u179 u180 u181 u182 u183 u184 u185 u186 w2 i2 row2 col2 F2 hst hv hp hr hz hb
          have HG := Lib.hid (step_go hst)
          have HPA2 : Hid (parse s.data.toList = fin W H (runR s.data.toList W H i2 row2 col2 F2)) := Lib.hid (by rw [HPA.out, runR_go HIL.out hst])
          have HV := Lib.hid hv
          have HP := Lib.hid hp
          have HR := Lib.hid hr
          have HZ := Lib.hid hz
          have HB := Lib.hid hb
          clear hst hv hp hr hz hb
          go_wp2_with fail
          go_roundw
          case rel => exact ⟨i2, row2, col2, F2, rfl, rfl, rfl, by have := HG.out.2.1; rw [← Lib.size_eq] at this; exact this, HV.out, HP.out, HR.out, HZ.out, HB.out, by have h := HG.out.2.2; omega, by have h := HG.out.2.2; omega, HPA2.out⟩
          case measure => exact meas rfl (by have h := HG.out; have h2 := h.2.1; rw [← Lib.size_eq] at h2; omega)
end Pr
end Go.Proofs.YtgagophijmiceaaDoor
