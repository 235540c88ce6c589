/- WALK: the document's edenref1.ParseDraw. -/
import Derived.Test.YtgagophijmiceaaDoorPrD
import Derived.Test.YtgagophijmiceaaDoorPrR
namespace Go.Proofs.YtgagophijmiceaaDoor
set_option linter.unusedSimpArgs false
set_option linter.unusedVariables false
open Go.RowKit
namespace Pr
open Tld Mem Bl Pn Pw Rd

theorem u8_of {x : UInt8} {k : Nat} (h : x.toNat = k) : x = UInt8.ofNat k := by rw [← h, UInt8.ofNat_toNat]
/-- The boxes of the document's walk: one more, of nothing. -/
structure DS2 (w0 wr : World) (rb nb pb : Nat) (W H : Nat) (F : Nat → Nat) (N : Nat) (vs : Value) : Prop where
  d : DSt w0 wr rb pb W H F N vs
  z : Row wr nb 35 noPat
  ne : nb ≠ pb
theorem DS2.keep {w0 wr w2 : World} {rb nb pb W H N : Nat} {F : Nat → Nat} {vs : Value} (h : DS2 w0 wr rb nb pb W H F N vs) (b : Below wr.heap.size wr w2) : DS2 w0 w2 rb nb pb W H F N vs := ⟨h.d.keep b, h.z.keep b h.z.lt, h.ne⟩
theorem DS2.setW {w0 wr : World} {rb nb pb W H N : Nat} {F : Nat → Nat} {vs : Value} (h : DS2 w0 wr rb nb pb W H F N vs) (n : Nat) : DS2 w0 (wr.setCell ⟨pb, 0, none⟩ (.int .i64 (n : Nat))) rb nb pb n H F N vs :=
  ⟨h.d.setW n, h.z.other (only_setCell wr pb 0 (.int .i64 (n : Nat))) h.ne, h.ne⟩
theorem DS2.setH {w0 wr : World} {rb nb pb W H N : Nat} {F : Nat → Nat} {vs : Value} (h : DS2 w0 wr rb nb pb W H F N vs) (n : Nat) : DS2 w0 (wr.setCell ⟨pb, 1, none⟩ (.int .i64 (n : Nat))) rb nb pb W n F N vs :=
  ⟨h.d.setH n, h.z.other (only_setCell wr pb 1 (.int .i64 (n : Nat))) h.ne, h.ne⟩
theorem DS2.push {w0 wr w2 : World} {rb nb pb W H N : Nat} {F : Nat → Nat} {vs vs' : Value} {t : Nat} (h : DS2 w0 wr rb nb pb W H F N vs) (hg : wr.grownBy w2 vs.ownBlock)
    (ho : w2.ownsRow w0.heap.size 3 1 vs' (N + 1) ((lstN N F).map (Value.int .i64) ++ [.int .i64 (t : Nat)])) : DS2 w0 (w2.setCell ⟨pb, 2, none⟩ vs') rb nb pb W H (put F N t) (N + 1) vs' :=
  ⟨h.d.push hg ho, (row_grown h.d.o hg h.z (by decide)).other (only_setCell w2 pb 2 vs') h.ne, h.ne⟩
/-- What the document's ParseDraw hands back. -/
def DrQ (l : List UInt8) (w0 : World) (e : Ending) (w' : World) : Prop := match dparse l with
  | .bad p ev => e = .returned (.tuple #[.agg #[.int .i64 0, .int .i64 0, .slice none 0 0], .int .i64 (p : Nat), .int .i64 ev])
  | .ok W H N F => ∃ vs, e = .returned (.tuple #[.agg #[.int .i64 (W : Nat), .int .i64 (H : Nat), vs], .int .i64 0, .int .i64 0]) ∧ w'.ownsRow w0.heap.size 3 1 vs N ((lstN N F).map (Value.int .i64))
  | .go _ _ _ _ _ _ _ => True
theorem drQ_bad {l : List UInt8} {w0 w' : World} {p : Nat} {ev : Int} (h : dparse l = .bad p ev) : DrQ l w0 (.returned (.tuple #[.agg #[.int .i64 0, .int .i64 0, .slice none 0 0], .int .i64 (p : Nat), .int .i64 ev])) w' := by
  unfold DrQ
  rw [h]
theorem drQ_ok {l : List UInt8} {w0 w' : World} {W H N : Nat} {F : Nat → Nat} {vs : Value} (h : dparse l = .ok W H N F) (ho : w'.ownsRow w0.heap.size 3 1 vs N ((lstN N F).map (Value.int .i64))) : DrQ l w0 (.returned (.tuple #[.agg #[.int .i64 (W : Nat), .int .i64 (H : Nat), vs], .int .i64 0, .int .i64 0])) w' := by
  unfold DrQ
  rw [h]
  exact ⟨vs, rfl, ho⟩
set_option maxHeartbeats 16000000 in
set_option maxRecDepth 1000000 in
theorem rpdraw_any (s : ByteArray) (w : World) (hs : s.size ≤ 1000000000) : Calls Tryd.prog 15 #[.string s] w fun e w' => DrQ s.data.toList w e w' ∧ Below w.heap.size w w' := by
  obtain ⟨i0, hI0, hz0, hz1, hz2⟩ := info_parts infoIntV
  have HI0 := Lib.hid hI0
  have HZ0 := Lib.hid hz0
  have HZ1 := Lib.hid hz1
  have HZ2 := Lib.hid hz2
  clear hI0 hz0 hz1 hz2
  go_enter Tryd.func15, Tryd.ntmps15
  go_upto_region 2 with fail
  obtain ⟨hr5, hr8, hb2⟩ := two_new w 35 35 noPat noPat
  have HR : Hid (Row ((w.alloc (.cells #[.int .i64 0, .int .i64 0, .slice none 0 0] 35)).alloc (.cells #[.int .i64 0, .int .i64 0, .slice none 0 0] 35)) w.heap.size 35 noPat) := Lib.hid hr5
  have HZ : Hid (Row ((w.alloc (.cells #[.int .i64 0, .int .i64 0, .slice none 0 0] 35)).alloc (.cells #[.int .i64 0, .int .i64 0, .slice none 0 0] 35)) (w.heap.size + 1) 35 noPat) := Lib.hid hr8
  have HB : Hid (Below w.heap.size w ((w.alloc (.cells #[.int .i64 0, .int .i64 0, .slice none 0 0] 35)).alloc (.cells #[.int .i64 0, .int .i64 0, .slice none 0 0] 35))) := Lib.hid hb2
  clear hr5 hr8 hb2
  generalize (w.alloc (.cells #[.int .i64 0, .int .i64 0, .slice none 0 0] 35)).alloc (.cells #[.int .i64 0, .int .i64 0, .slice none 0 0] 35) = w1 at *
  obtain ⟨rb, hrb⟩ : ∃ rb, rb = w.heap.size := ⟨_, rfl⟩
  rw [← hrb] at HR HZ ⊢
  obtain ⟨nb, hnb⟩ : ∃ nb, nb = rb + 1 := ⟨_, rfl⟩
  rw [← hnb] at HZ ⊢
  have HRB : Hid (w.heap.size ≤ rb) := Lib.hid (by rw [hrb]; exact Nat.le_refl _)
  clear hrb hnb
  by_cases h4 : 40000 < s.size
  · have hlt : (40000 : Int) < (s.size : Int) := by omega
    have HPA : Hid (dparse s.data.toList = .bad 0 4) := Lib.hid (dparse_long (by rw [← Lib.size_eq]; exact h4))
    clear h4
    have l5 := row_range HZ.out
    go_wp2_with (first | (refine wpList_load_mid rfl 35 _ rfl nb 0 rfl _ _ l5 Tryd.underlying35 rfl infoPat ?_) | (refine Ops.wpList_store_arr rfl 35 _ _ rfl rb rfl 35 noPat noPat rfl HR.out rfl infoPat noPat_one ?_; intro w5 hr5 ho5))
    refine bodyPost_ret (results_pat3 (t := 2) (u := 3) (v := 4) (e := .int .i64 0) (f := .int .i64 4) rfl _ _ hr5 rfl rfl rfl rfl) rfl ⟨drQ_bad (p := 0) HPA.out, HB.out.trans (ho5.below HRB.out)⟩
  · have hlt : ¬ (40000 : Int) < (s.size : Int) := by omega
    have HSZ : Hid (s.size ≤ 40000) := Lib.hid (by omega)
    have HLN : Hid (s.data.toList.length ≤ 40000) := Lib.hid (by rw [← Lib.size_eq]; exact HSZ.out)
    clear h4
    go_upto_region 5 with fail
    have hnew := row_alloc w1 35 noPat
    have hbn : Below w1.heap.size w1 (w1.alloc (.cells noPat.toArray 35)) := (Below.refl _ _).alloc (Nat.le_refl _) _
    have HD : Hid (DS2 w (w1.alloc (.cells #[.int .i64 0, .int .i64 0, .slice none 0 0] 35)) rb nb w1.heap.size 0 0 (fun _ => 0) 0 (.slice none 0 0)) := Lib.hid
      ⟨⟨HR.out.keep hbn HR.out.lt, hnew, ⟨rfl, .inl ⟨rfl, rfl⟩⟩, HB.out.trans (hbn.mono HB.out.size), HB.out.size, by have := HR.out.lt; omega, HRB.out⟩, HZ.out.keep hbn HZ.out.lt, by have := HZ.out.lt; omega⟩
    clear hnew hbn HR HB HZ
    generalize w1.alloc (.cells #[.int .i64 0, .int .i64 0, .slice none 0 0] 35) = w2 at *
    obtain ⟨pb, hpb⟩ : ∃ pb, pb = w1.heap.size := ⟨_, rfl⟩
    rw [← hpb] at HD ⊢
    clear hpb
    go_wp2_with fail
    go_loopw [7, 8, 9] (fun v6 v7 v8 wx => ∃ (fr n i W H N : Nat) (F : Nat → Nat) (vs : Value), v6 = .int .i64 ((fr : Nat) : Int) ∧ v7 = .int .i64 ((n : Nat) : Int) ∧ v8 = .int .i64 ((i : Nat) : Int) ∧ DS2 w wx rb nb pb W H F N vs ∧ n ≤ 100 ∧ W ≤ 100 ∧ H ≤ 100 ∧ fr + 2 * n ≤ i ∧ (n = 0 → fr = i) ∧ i ≤ s.size ∧ N ≤ i ∧ dparse s.data.toList = drunR s.data.toList fr n i W H N F) (fun _ _ v _ => s.size - (RowKit.intOf v).toNat)
    case atStart => exact ⟨0, 0, 0, 0, 0, 0, fun _ => 0, .slice none 0 0, rfl, rfl, rfl, HD.out, Nat.zero_le _, Nat.zero_le _, Nat.zero_le _, Nat.le_refl _, fun _ => rfl, Nat.zero_le _, Nat.le_refl _, dparse_run HLN.out⟩
    case round =>
      clear HD
      obtain ⟨fr, n, i, W, H, N, F, vs, rfl, rfl, rfl, hd, hn, hW, hH, hbd, hf0, hi3, hni, hpa⟩ := hrel
      have HD := Lib.hid hd
      have HBD := Lib.hid hbd
      have HF0 := Lib.hid hf0
      have HI3 := Lib.hid hi3
      have HNI := Lib.hid hni
      have HPA := Lib.hid hpa
      have HIL : Hid (i ≤ s.data.toList.length) := Lib.hid (by rw [← Lib.size_eq]; exact hi3)
      have HNB1 := Lib.hid hn
      have HWB := Lib.hid hW
      have HHB := Lib.hid hH
      clear hd hbd hf0 hni hpa hn hW hH
      have f0 := HD.out.d.q.cell 0
      have f1 := HD.out.d.q.cell 1
      dsimp only [List.getElem?_cons_succ, List.getElem?_cons_zero] at f0 f1
      by_cases hil : i < s.size
      · have hi2 : (i : Int) < (s.size : Int) := by omega
        have HI : Hid (i < s.data.toList.length) := Lib.hid (by rw [← Lib.size_eq]; exact hil)
        have hg0 := get_drop s hil
        obtain ⟨b0, hb0⟩ : ∃ b0, b0 = s.data.toList.getD i 0 := ⟨_, rfl⟩
        rw [← hb0] at hg0
        have HB0 := Lib.hid hb0
        have HT : Hid (tok s.data.toList i = tokN (s.data.toList.length - i) (s.data.toList.getD i 0).toNat (s.data.toList.getD (i + 1) 0).toNat (s.data.toList.getD (i + 2) 0).toNat) := Lib.hid rfl
        obtain ⟨q, hbq⟩ : ∃ q, q = decide ((s.data.toList.getD i 0).toNat = 194 ∧ 1 < s.data.toList.length - i ∧ (s.data.toList.getD (i + 1) 0).toNat = 183) := ⟨_, rfl⟩
        have HBQ := Lib.hid hbq
        clear hi3 hb0 hbq
        go_upto_region 11 with fail
        go_cut [38] from 21 to 37 (fun v wx => v = .bool q ∧ wr = wx)
        case first =>
          by_cases h0 : b0 = 194
          · have e0 : ((b0.toNat : Int) == 194) = true := byte_eq (k := 194) (by decide) h0
            by_cases h1 : i + 1 < s.size
            · have hg1 := get_drop s h1
              have l1 : ((i + 1 : Nat) : Int) < (s.size : Int) := by omega
              have w1 : Hid (wrap64 ((i : Int) + 1) = ((i + 1 : Nat) : Int)) := Lib.hid (wr_nat (by push_cast; rfl) (by have := HSZ.out; omega))
              obtain ⟨b1, hb1⟩ : ∃ b1, b1 = s.data.toList.getD (i + 1) 0 := ⟨_, rfl⟩
              rw [← hb1] at hg1
              by_cases h2 : b1 = 183
              · have e1 : ((b1.toNat : Int) == 183) = true := byte_eq (k := 183) (by decide) h2
                have HQ : Hid (q = true) := Lib.hid (by rw [HBQ.out]; exact decide_eq_true ⟨by rw [← HB0.out, h0]; rfl, by rw [← Lib.size_eq]; omega, by rw [← hb1, h2]; rfl⟩)
                clear h0 h2 hb1
                have w1 := w1.out
                go_wp2_with fail
                go_meet
                case rel => exact ⟨by rw [HQ.out], rfl⟩
              · have e1 : ((b1.toNat : Int) == 183) = false := byte_ne (k := 183) (by decide) h2
                have HQ : Hid (q = false) := Lib.hid (by rw [HBQ.out]; exact decide_eq_false (fun h => h2 (by have h := h.2.2; rw [← hb1] at h; exact u8_of h)))
                clear h0 h2 hb1
                have w1 := w1.out
                go_wp2_with fail
                go_meet
                case rel => exact ⟨by rw [HQ.out], rfl⟩
            · have l1 : ¬ ((i + 1 : Nat) : Int) < (s.size : Int) := by omega
              have w1 : Hid (wrap64 ((i : Int) + 1) = ((i + 1 : Nat) : Int)) := Lib.hid (wr_nat (by push_cast; rfl) (by have := HSZ.out; omega))
              have HQ : Hid (q = false) := Lib.hid (by rw [HBQ.out]; exact decide_eq_false (fun h => h1 (by have h := h.2.1; rw [← Lib.size_eq] at h; omega)))
              clear h0 h1
              have w1 := w1.out
              go_wp2_with fail
              go_meet
              case rel => exact ⟨by rw [HQ.out], rfl⟩
          · have e0 : ((b0.toNat : Int) == 194) = false := byte_ne (k := 194) (by decide) h0
            have HQ : Hid (q = false) := Lib.hid (by rw [HBQ.out]; exact decide_eq_false (fun h => h0 (by have h := h.1; rw [← HB0.out] at h; exact u8_of h)))
            clear h0
            go_wp2_with fail
            go_meet
            case rel => exact ⟨by rw [HQ.out], rfl⟩
        case rest =>
        obtain ⟨rfl, rfl⟩ := hcut
        by_cases ha : ((s.data.toList.getD i 0).toNat = 194 ∧ 1 < s.data.toList.length - i ∧ (s.data.toList.getD (i + 1) 0).toNat = 183)
        · obtain rfl : q = true := by rw [HBQ.out]; exact decide_eq_true ha
          have HTK : Hid (tok s.data.toList i = 0) := Lib.hid (by rw [HT.out]; unfold tokN; rw [if_pos ha])
          clear ha HBQ
          have hsz9 : i ≤ 40000 := Nat.le_trans HI3.out HSZ.out
          have hn := HNB1.out
          by_cases hn0 : n = 0
          · have hq2 : (((n : Nat) : Int) == 0) = true := by rw [beq_iff_eq]; omega
            by_cases hh : H = 100
            · have hq3 : (((H : Nat) : Int) == 100) = true := by rw [beq_iff_eq]; omega
              have HNH : Hid (n = 0 ∧ H = 100) := Lib.hid ⟨hn0, hh⟩
              clear hn0 hh hn
              have l5 := row_range HD.out.z
              go_wp2_with (first | (refine wpList_load_mid rfl 35 _ rfl nb 0 rfl _ _ l5 Tryd.underlying35 rfl infoPat ?_) | (refine Ops.wpList_store_arr rfl 35 _ _ rfl rb rfl 35 noPat noPat rfl HD.out.d.r rfl infoPat noPat_one ?_; intro w5 hr5 ho5))
              refine bodyPost_ret (results_pat3 (t := 2) (u := 3) (v := 4) (e := .int .i64 ((fr : Nat) : Int)) (f := .int .i64 1) rfl _ _ hr5 rfl rfl rfl rfl) rfl ⟨drQ_bad (by rw [HPA.out]; exact drunR_bad HIL.out (ds_h100 HI.out (by rw [HTK.out]; decide) HNH.out)), HD.out.d.b.trans (ho5.below HD.out.d.ne.2.2)⟩
            · have hq3 : (((H : Nat) : Int) == 100) = false := by rw [beq_eq_false_iff_ne]; omega
              have hq1 : (((n : Nat) : Int) == 100) = false := by rw [beq_eq_false_iff_ne]; omega
              have HN1 : Hid (n ≠ 100) := Lib.hid (by omega)
              have HN2 : Hid (¬ (n = 0 ∧ H = 100)) := Lib.hid (fun h => hh h.2)
              clear hn0 hh
              have E1 : Hid (wrap64 ((n : Int) + 1) = ((n + 1 : Nat) : Int)) := Lib.hid (wr_nat (by push_cast; rfl) (by omega))
              have E2 : Hid (wrap64 ((i : Int) + 2) = ((i + 2 + 0 : Nat) : Int)) := Lib.hid (wr_nat (by push_cast; omega) (by have := HSZ.out; omega))
              have HPA2 : Hid (dparse s.data.toList = drunR s.data.toList fr (n + 1) (i + 2 + 0) W H (N + 1) (put F N 0)) := Lib.hid (by
                rw [HPA.out, drunR_go HIL.out (ds_cell HI.out (by rw [HTK.out]; decide) HN1.out HN2.out), HTK.out])
              have HLE : Hid (i + 2 + 0 ≤ s.size) := Lib.hid (by
                have h := tok_le (l := s.data.toList) (i := i) (by rw [HTK.out]; decide)
                rw [HTK.out, ← Lib.size_eq] at h
                exact h)
              have HNB : Hid (N ≤ 1000000) := Lib.hid (by have := HNI.out; have := HSZ.out; have := HI3.out; omega)
              have HNN : Hid (n + 1 ≤ 100 ∧ N + 1 ≤ i + 2 + 0 ∧ fr + 2 * (n + 1) ≤ i + 2 + 0) := Lib.hid (by
                have h1 := HN1.out; have h2 := HNI.out; have h3 := HBD.out; have h4 := HNB1.out; omega)
              have g2 := HD.out.d.q.cell 2
              dsimp only [List.getElem?_cons_succ, List.getElem?_cons_zero] at g2
              have hnew := row_alloc wr 3 [.int .i64 0]
              have hbn : Below wr.heap.size wr (wr.alloc (.cells [.int .i64 0].toArray 3)) := (Below.refl _ _).alloc (Nat.le_refl _) _
              have HDa := Lib.hid (HD.out.keep hbn)
              have HCEL := Lib.hid (hnew.cell 0)
              have HSS : Hid (w.heap.size ≤ (wr.alloc (.cells [.int .i64 0].toArray 3)).heap.size) := HDa.out.d.b.size
              clear HD hnew hbn
              go_upto_region 21 with fail
              go_wp2_with (at_builtin; refine Ops.wpList_append1 rfl _ _ 22 rfl w.heap.size 3 i0 (.int .i64 0) 8 Tryd.underlying22 HI0.out HZ0.out rfl HZ1.out HZ2.out _ N _ rfl HDa.out.d.o ⟨wr.heap.size, 0, none⟩ 1 (.int .i64 0) rfl HCEL.out rfl ?c1 ?c2 HSS.out ?_)
              case c1 => have := HNB.out; unfold maxLen; omega
              case c2 => have := HNB.out; omega
              intro ao' co' w7 hO7 hg7
              have HPU := Lib.hid (HDa.out.push (t := 0) hg7 hO7)
              have c2 := (HDa.out.d.grown hg7).cell 2
              have z2 := (HDa.out.d.grown hg7).frozen 2
              dsimp only [List.getElem?_cons_succ, List.getElem?_cons_zero] at c2
              clear hO7 hg7 HDa HCEL HSS
              go_wp2_with fail
              clear c2 z2
              generalize w7.setCell ⟨pb, 2, none⟩ (.slice ao' (N + 1) co') = w9 at *
              go_roundw
              case rel => exact ⟨fr, n + 1, i + 2 + 0, W, H, N + 1, put F N 0, _, rfl, rfl, congrArg (Value.int .i64) (show ((i : Int) + 2) = ((i + 2 + 0 : Nat) : Int) by omega), HPU.out, HNN.out.1, HWB.out, HHB.out, HNN.out.2.2, fun h => absurd h (Nat.succ_ne_zero _), HLE.out, HNN.out.2.1, HPA2.out⟩
              case measure => exact meas2 (z := (i : Int) + 2) (m := i + 2 + 0) (by omega) (by have := HI3.out; have := HLE.out; omega)
          · have hq2 : (((n : Nat) : Int) == 0) = false := by rw [beq_eq_false_iff_ne]; omega
            by_cases hn1 : n = 100
            · have hq1 : (((n : Nat) : Int) == 100) = true := by rw [beq_iff_eq]; omega
              have HN1 := Lib.hid hn1
              clear hn1 hn0 hn
              have l5 := row_range HD.out.z
              go_wp2_with (first | (refine wpList_load_mid rfl 35 _ rfl nb 0 rfl _ _ l5 Tryd.underlying35 rfl infoPat ?_) | (refine Ops.wpList_store_arr rfl 35 _ _ rfl rb rfl 35 noPat noPat rfl HD.out.d.r rfl infoPat noPat_one ?_; intro w5 hr5 ho5))
              refine bodyPost_ret (results_pat3 (t := 2) (u := 3) (v := 4) (e := .int .i64 ((i : Nat) : Int)) (f := .int .i64 1) rfl _ _ hr5 rfl rfl rfl rfl) rfl ⟨drQ_bad (by rw [HPA.out]; exact drunR_bad HIL.out (ds_n100 HI.out (by rw [HTK.out]; decide) HN1.out)), HD.out.d.b.trans (ho5.below HD.out.d.ne.2.2)⟩
            · have hq1 : (((n : Nat) : Int) == 100) = false := by rw [beq_eq_false_iff_ne]; omega
              have HN1 : Hid (n ≠ 100) := Lib.hid hn1
              have HN2 : Hid (¬ (n = 0 ∧ H = 100)) := Lib.hid (fun h => hn0 h.1)
              clear hn1 hn0
              have E1 : Hid (wrap64 ((n : Int) + 1) = ((n + 1 : Nat) : Int)) := Lib.hid (wr_nat (by push_cast; rfl) (by omega))
              have E2 : Hid (wrap64 ((i : Int) + 2) = ((i + 2 + 0 : Nat) : Int)) := Lib.hid (wr_nat (by push_cast; omega) (by have := HSZ.out; omega))
              have HPA2 : Hid (dparse s.data.toList = drunR s.data.toList fr (n + 1) (i + 2 + 0) W H (N + 1) (put F N 0)) := Lib.hid (by
                rw [HPA.out, drunR_go HIL.out (ds_cell HI.out (by rw [HTK.out]; decide) HN1.out HN2.out), HTK.out])
              have HLE : Hid (i + 2 + 0 ≤ s.size) := Lib.hid (by
                have h := tok_le (l := s.data.toList) (i := i) (by rw [HTK.out]; decide)
                rw [HTK.out, ← Lib.size_eq] at h
                exact h)
              have HNB : Hid (N ≤ 1000000) := Lib.hid (by have := HNI.out; have := HSZ.out; have := HI3.out; omega)
              have HNN : Hid (n + 1 ≤ 100 ∧ N + 1 ≤ i + 2 + 0 ∧ fr + 2 * (n + 1) ≤ i + 2 + 0) := Lib.hid (by
                have h1 := HN1.out; have h2 := HNI.out; have h3 := HBD.out; have h4 := HNB1.out; omega)
              have g2 := HD.out.d.q.cell 2
              dsimp only [List.getElem?_cons_succ, List.getElem?_cons_zero] at g2
              have hnew := row_alloc wr 3 [.int .i64 0]
              have hbn : Below wr.heap.size wr (wr.alloc (.cells [.int .i64 0].toArray 3)) := (Below.refl _ _).alloc (Nat.le_refl _) _
              have HDa := Lib.hid (HD.out.keep hbn)
              have HCEL := Lib.hid (hnew.cell 0)
              have HSS : Hid (w.heap.size ≤ (wr.alloc (.cells [.int .i64 0].toArray 3)).heap.size) := HDa.out.d.b.size
              clear HD hnew hbn
              go_upto_region 21 with fail
              go_wp2_with (at_builtin; refine Ops.wpList_append1 rfl _ _ 22 rfl w.heap.size 3 i0 (.int .i64 0) 8 Tryd.underlying22 HI0.out HZ0.out rfl HZ1.out HZ2.out _ N _ rfl HDa.out.d.o ⟨wr.heap.size, 0, none⟩ 1 (.int .i64 0) rfl HCEL.out rfl ?c1 ?c2 HSS.out ?_)
              case c1 => have := HNB.out; unfold maxLen; omega
              case c2 => have := HNB.out; omega
              intro ao' co' w7 hO7 hg7
              have HPU := Lib.hid (HDa.out.push (t := 0) hg7 hO7)
              have c2 := (HDa.out.d.grown hg7).cell 2
              have z2 := (HDa.out.d.grown hg7).frozen 2
              dsimp only [List.getElem?_cons_succ, List.getElem?_cons_zero] at c2
              clear hO7 hg7 HDa HCEL HSS
              go_wp2_with fail
              clear c2 z2
              generalize w7.setCell ⟨pb, 2, none⟩ (.slice ao' (N + 1) co') = w9 at *
              go_roundw
              case rel => exact ⟨fr, n + 1, i + 2 + 0, W, H, N + 1, put F N 0, _, rfl, rfl, congrArg (Value.int .i64) (show ((i : Int) + 2) = ((i + 2 + 0 : Nat) : Int) by omega), HPU.out, HNN.out.1, HWB.out, HHB.out, HNN.out.2.2, fun h => absurd h (Nat.succ_ne_zero _), HLE.out, HNN.out.2.1, HPA2.out⟩
              case measure => exact meas2 (z := (i : Int) + 2) (m := i + 2 + 0) (by omega) (by have := HI3.out; have := HLE.out; omega)
        · obtain rfl : q = false := by rw [HBQ.out]; exact decide_eq_false ha
          have HA0 := Lib.hid ha
          clear ha HBQ
          obtain ⟨q, hbq⟩ : ∃ q, q = decide ((s.data.toList.getD i 0).toNat = 226 ∧ 2 < s.data.toList.length - i ∧ (s.data.toList.getD (i + 1) 0).toNat = 151 ∧ (s.data.toList.getD (i + 2) 0).toNat = 143) := ⟨_, rfl⟩
          have HBQ := Lib.hid hbq
          clear hbq
          go_upto_region 13 with fail
          go_cut [63] from 39 to 62 (fun v wx => v = .bool q ∧ wr = wx)
          case first =>
            by_cases h0 : b0 = 226
            · have e0 : ((b0.toNat : Int) == 226) = true := byte_eq (k := 226) (by decide) h0
              by_cases h1 : i + 2 < s.size
              · have h1' : i + 1 < s.size := by omega
                have hg1 := get_drop s h1'
                have hg2 := get_drop s h1
                have l1 : ((i + 1 : Nat) : Int) < (s.size : Int) := by omega
                have l2 : ((i + 2 : Nat) : Int) < (s.size : Int) := by omega
                have w1 : Hid (wrap64 ((i : Int) + 1) = ((i + 1 : Nat) : Int)) := Lib.hid (wr_nat (by push_cast; rfl) (by have := HSZ.out; omega))
                have w2 : Hid (wrap64 ((i : Int) + 2) = ((i + 2 : Nat) : Int)) := Lib.hid (wr_nat (by push_cast; rfl) (by have := HSZ.out; omega))
                obtain ⟨b1, hb1⟩ : ∃ b1, b1 = s.data.toList.getD (i + 1) 0 := ⟨_, rfl⟩
                rw [← hb1] at hg1
                obtain ⟨b2, hb2⟩ : ∃ b2, b2 = s.data.toList.getD (i + 2) 0 := ⟨_, rfl⟩
                rw [← hb2] at hg2
                by_cases h2 : b1 = 151
                · have e1 : ((b1.toNat : Int) == 151) = true := byte_eq (k := 151) (by decide) h2
                  by_cases h3 : b2 = 143
                  · have e2 : ((b2.toNat : Int) == 143) = true := byte_eq (k := 143) (by decide) h3
                    have HQ : Hid (q = true) := Lib.hid (by rw [HBQ.out]; exact decide_eq_true ⟨by rw [← HB0.out, h0]; rfl, by rw [← Lib.size_eq]; omega, by rw [← hb1, h2]; rfl, by rw [← hb2, h3]; rfl⟩)
                    clear h0 h2 h3 hb1 hb2
                    have w1 := w1.out
                    have w2 := w2.out
                    go_wp2_with fail
                    go_meet
                    case rel => exact ⟨by rw [HQ.out], rfl⟩
                  · have e2 : ((b2.toNat : Int) == 143) = false := byte_ne (k := 143) (by decide) h3
                    have HQ : Hid (q = false) := Lib.hid (by rw [HBQ.out]; exact decide_eq_false (fun h => h3 (by have h := h.2.2.2; rw [← hb2] at h; exact u8_of h)))
                    clear h0 h2 h3 hb1 hb2
                    have w1 := w1.out
                    have w2 := w2.out
                    go_wp2_with fail
                    go_meet
                    case rel => exact ⟨by rw [HQ.out], rfl⟩
                · have e1 : ((b1.toNat : Int) == 151) = false := byte_ne (k := 151) (by decide) h2
                  have HQ : Hid (q = false) := Lib.hid (by rw [HBQ.out]; exact decide_eq_false (fun h => h2 (by have h := h.2.2.1; rw [← hb1] at h; exact u8_of h)))
                  clear h0 h2 hb1 hb2
                  have w1 := w1.out
                  have w2 := w2.out
                  go_wp2_with fail
                  go_meet
                  case rel => exact ⟨by rw [HQ.out], rfl⟩
              · have l2 : ¬ ((i + 2 : Nat) : Int) < (s.size : Int) := by omega
                have w2 : Hid (wrap64 ((i : Int) + 2) = ((i + 2 : Nat) : Int)) := Lib.hid (wr_nat (by push_cast; rfl) (by have := HSZ.out; omega))
                have HQ : Hid (q = false) := Lib.hid (by rw [HBQ.out]; exact decide_eq_false (fun h => h1 (by have h := h.2.1; rw [← Lib.size_eq] at h; omega)))
                clear h0 h1
                have w2 := w2.out
                go_wp2_with fail
                go_meet
                case rel => exact ⟨by rw [HQ.out], rfl⟩
            · have e0 : ((b0.toNat : Int) == 226) = false := byte_ne (k := 226) (by decide) h0
              have HQ : Hid (q = false) := Lib.hid (by rw [HBQ.out]; exact decide_eq_false (fun h => h0 (by have h := h.1; rw [← HB0.out] at h; exact u8_of h)))
              clear h0
              go_wp2_with fail
              go_meet
              case rel => exact ⟨by rw [HQ.out], rfl⟩
          case rest =>
          obtain ⟨rfl, rfl⟩ := hcut
          by_cases ha : ((s.data.toList.getD i 0).toNat = 226 ∧ 2 < s.data.toList.length - i ∧ (s.data.toList.getD (i + 1) 0).toNat = 151 ∧ (s.data.toList.getD (i + 2) 0).toNat = 143)
          · obtain rfl : q = true := by rw [HBQ.out]; exact decide_eq_true ha
            have HTK : Hid (tok s.data.toList i = 1) := Lib.hid (by rw [HT.out]; unfold tokN; rw [if_neg HA0.out, if_pos ha])
            clear ha HBQ
            have hsz9 : i ≤ 40000 := Nat.le_trans HI3.out HSZ.out
            have hn := HNB1.out
            by_cases hn0 : n = 0
            · have hq2 : (((n : Nat) : Int) == 0) = true := by rw [beq_iff_eq]; omega
              by_cases hh : H = 100
              · have hq3 : (((H : Nat) : Int) == 100) = true := by rw [beq_iff_eq]; omega
                have HNH : Hid (n = 0 ∧ H = 100) := Lib.hid ⟨hn0, hh⟩
                clear hn0 hh hn
                have l5 := row_range HD.out.z
                go_wp2_with (first | (refine wpList_load_mid rfl 35 _ rfl nb 0 rfl _ _ l5 Tryd.underlying35 rfl infoPat ?_) | (refine Ops.wpList_store_arr rfl 35 _ _ rfl rb rfl 35 noPat noPat rfl HD.out.d.r rfl infoPat noPat_one ?_; intro w5 hr5 ho5))
                refine bodyPost_ret (results_pat3 (t := 2) (u := 3) (v := 4) (e := .int .i64 ((fr : Nat) : Int)) (f := .int .i64 1) rfl _ _ hr5 rfl rfl rfl rfl) rfl ⟨drQ_bad (by rw [HPA.out]; exact drunR_bad HIL.out (ds_h100 HI.out (by rw [HTK.out]; decide) HNH.out)), HD.out.d.b.trans (ho5.below HD.out.d.ne.2.2)⟩
              · have hq3 : (((H : Nat) : Int) == 100) = false := by rw [beq_eq_false_iff_ne]; omega
                have hq1 : (((n : Nat) : Int) == 100) = false := by rw [beq_eq_false_iff_ne]; omega
                have HN1 : Hid (n ≠ 100) := Lib.hid (by omega)
                have HN2 : Hid (¬ (n = 0 ∧ H = 100)) := Lib.hid (fun h => hh h.2)
                clear hn0 hh
                have E1 : Hid (wrap64 ((n : Int) + 1) = ((n + 1 : Nat) : Int)) := Lib.hid (wr_nat (by push_cast; rfl) (by omega))
                have E2 : Hid (wrap64 ((i : Int) + 3) = ((i + 2 + 1 : Nat) : Int)) := Lib.hid (wr_nat (by push_cast; omega) (by have := HSZ.out; omega))
                have HPA2 : Hid (dparse s.data.toList = drunR s.data.toList fr (n + 1) (i + 2 + 1) W H (N + 1) (put F N 1)) := Lib.hid (by
                  rw [HPA.out, drunR_go HIL.out (ds_cell HI.out (by rw [HTK.out]; decide) HN1.out HN2.out), HTK.out])
                have HLE : Hid (i + 2 + 1 ≤ s.size) := Lib.hid (by
                  have h := tok_le (l := s.data.toList) (i := i) (by rw [HTK.out]; decide)
                  rw [HTK.out, ← Lib.size_eq] at h
                  exact h)
                have HNB : Hid (N ≤ 1000000) := Lib.hid (by have := HNI.out; have := HSZ.out; have := HI3.out; omega)
                have HNN : Hid (n + 1 ≤ 100 ∧ N + 1 ≤ i + 2 + 1 ∧ fr + 2 * (n + 1) ≤ i + 2 + 1) := Lib.hid (by
                  have h1 := HN1.out; have h2 := HNI.out; have h3 := HBD.out; have h4 := HNB1.out; omega)
                have g2 := HD.out.d.q.cell 2
                dsimp only [List.getElem?_cons_succ, List.getElem?_cons_zero] at g2
                have hnew := row_alloc wr 3 [.int .i64 1]
                have hbn : Below wr.heap.size wr (wr.alloc (.cells [.int .i64 1].toArray 3)) := (Below.refl _ _).alloc (Nat.le_refl _) _
                have HDa := Lib.hid (HD.out.keep hbn)
                have HCEL := Lib.hid (hnew.cell 0)
                have HSS : Hid (w.heap.size ≤ (wr.alloc (.cells [.int .i64 1].toArray 3)).heap.size) := HDa.out.d.b.size
                clear HD hnew hbn
                go_upto_region 21 with fail
                go_wp2_with (at_builtin; refine Ops.wpList_append1 rfl _ _ 22 rfl w.heap.size 3 i0 (.int .i64 0) 8 Tryd.underlying22 HI0.out HZ0.out rfl HZ1.out HZ2.out _ N _ rfl HDa.out.d.o ⟨wr.heap.size, 0, none⟩ 1 (.int .i64 1) rfl HCEL.out rfl ?c1 ?c2 HSS.out ?_)
                case c1 => have := HNB.out; unfold maxLen; omega
                case c2 => have := HNB.out; omega
                intro ao' co' w7 hO7 hg7
                have HPU := Lib.hid (HDa.out.push (t := 1) hg7 hO7)
                have c2 := (HDa.out.d.grown hg7).cell 2
                have z2 := (HDa.out.d.grown hg7).frozen 2
                dsimp only [List.getElem?_cons_succ, List.getElem?_cons_zero] at c2
                clear hO7 hg7 HDa HCEL HSS
                go_wp2_with fail
                clear c2 z2
                generalize w7.setCell ⟨pb, 2, none⟩ (.slice ao' (N + 1) co') = w9 at *
                go_roundw
                case rel => exact ⟨fr, n + 1, i + 2 + 1, W, H, N + 1, put F N 1, _, rfl, rfl, congrArg (Value.int .i64) (show ((i : Int) + 3) = ((i + 2 + 1 : Nat) : Int) by omega), HPU.out, HNN.out.1, HWB.out, HHB.out, HNN.out.2.2, fun h => absurd h (Nat.succ_ne_zero _), HLE.out, HNN.out.2.1, HPA2.out⟩
                case measure => exact meas2 (z := (i : Int) + 3) (m := i + 2 + 1) (by omega) (by have := HI3.out; have := HLE.out; omega)
            · have hq2 : (((n : Nat) : Int) == 0) = false := by rw [beq_eq_false_iff_ne]; omega
              by_cases hn1 : n = 100
              · have hq1 : (((n : Nat) : Int) == 100) = true := by rw [beq_iff_eq]; omega
                have HN1 := Lib.hid hn1
                clear hn1 hn0 hn
                have l5 := row_range HD.out.z
                go_wp2_with (first | (refine wpList_load_mid rfl 35 _ rfl nb 0 rfl _ _ l5 Tryd.underlying35 rfl infoPat ?_) | (refine Ops.wpList_store_arr rfl 35 _ _ rfl rb rfl 35 noPat noPat rfl HD.out.d.r rfl infoPat noPat_one ?_; intro w5 hr5 ho5))
                refine bodyPost_ret (results_pat3 (t := 2) (u := 3) (v := 4) (e := .int .i64 ((i : Nat) : Int)) (f := .int .i64 1) rfl _ _ hr5 rfl rfl rfl rfl) rfl ⟨drQ_bad (by rw [HPA.out]; exact drunR_bad HIL.out (ds_n100 HI.out (by rw [HTK.out]; decide) HN1.out)), HD.out.d.b.trans (ho5.below HD.out.d.ne.2.2)⟩
              · have hq1 : (((n : Nat) : Int) == 100) = false := by rw [beq_eq_false_iff_ne]; omega
                have HN1 : Hid (n ≠ 100) := Lib.hid hn1
                have HN2 : Hid (¬ (n = 0 ∧ H = 100)) := Lib.hid (fun h => hn0 h.1)
                clear hn1 hn0
                have E1 : Hid (wrap64 ((n : Int) + 1) = ((n + 1 : Nat) : Int)) := Lib.hid (wr_nat (by push_cast; rfl) (by omega))
                have E2 : Hid (wrap64 ((i : Int) + 3) = ((i + 2 + 1 : Nat) : Int)) := Lib.hid (wr_nat (by push_cast; omega) (by have := HSZ.out; omega))
                have HPA2 : Hid (dparse s.data.toList = drunR s.data.toList fr (n + 1) (i + 2 + 1) W H (N + 1) (put F N 1)) := Lib.hid (by
                  rw [HPA.out, drunR_go HIL.out (ds_cell HI.out (by rw [HTK.out]; decide) HN1.out HN2.out), HTK.out])
                have HLE : Hid (i + 2 + 1 ≤ s.size) := Lib.hid (by
                  have h := tok_le (l := s.data.toList) (i := i) (by rw [HTK.out]; decide)
                  rw [HTK.out, ← Lib.size_eq] at h
                  exact h)
                have HNB : Hid (N ≤ 1000000) := Lib.hid (by have := HNI.out; have := HSZ.out; have := HI3.out; omega)
                have HNN : Hid (n + 1 ≤ 100 ∧ N + 1 ≤ i + 2 + 1 ∧ fr + 2 * (n + 1) ≤ i + 2 + 1) := Lib.hid (by
                  have h1 := HN1.out; have h2 := HNI.out; have h3 := HBD.out; have h4 := HNB1.out; omega)
                have g2 := HD.out.d.q.cell 2
                dsimp only [List.getElem?_cons_succ, List.getElem?_cons_zero] at g2
                have hnew := row_alloc wr 3 [.int .i64 1]
                have hbn : Below wr.heap.size wr (wr.alloc (.cells [.int .i64 1].toArray 3)) := (Below.refl _ _).alloc (Nat.le_refl _) _
                have HDa := Lib.hid (HD.out.keep hbn)
                have HCEL := Lib.hid (hnew.cell 0)
                have HSS : Hid (w.heap.size ≤ (wr.alloc (.cells [.int .i64 1].toArray 3)).heap.size) := HDa.out.d.b.size
                clear HD hnew hbn
                go_upto_region 21 with fail
                go_wp2_with (at_builtin; refine Ops.wpList_append1 rfl _ _ 22 rfl w.heap.size 3 i0 (.int .i64 0) 8 Tryd.underlying22 HI0.out HZ0.out rfl HZ1.out HZ2.out _ N _ rfl HDa.out.d.o ⟨wr.heap.size, 0, none⟩ 1 (.int .i64 1) rfl HCEL.out rfl ?c1 ?c2 HSS.out ?_)
                case c1 => have := HNB.out; unfold maxLen; omega
                case c2 => have := HNB.out; omega
                intro ao' co' w7 hO7 hg7
                have HPU := Lib.hid (HDa.out.push (t := 1) hg7 hO7)
                have c2 := (HDa.out.d.grown hg7).cell 2
                have z2 := (HDa.out.d.grown hg7).frozen 2
                dsimp only [List.getElem?_cons_succ, List.getElem?_cons_zero] at c2
                clear hO7 hg7 HDa HCEL HSS
                go_wp2_with fail
                clear c2 z2
                generalize w7.setCell ⟨pb, 2, none⟩ (.slice ao' (N + 1) co') = w9 at *
                go_roundw
                case rel => exact ⟨fr, n + 1, i + 2 + 1, W, H, N + 1, put F N 1, _, rfl, rfl, congrArg (Value.int .i64) (show ((i : Int) + 3) = ((i + 2 + 1 : Nat) : Int) by omega), HPU.out, HNN.out.1, HWB.out, HHB.out, HNN.out.2.2, fun h => absurd h (Nat.succ_ne_zero _), HLE.out, HNN.out.2.1, HPA2.out⟩
                case measure => exact meas2 (z := (i : Int) + 3) (m := i + 2 + 1) (by omega) (by have := HI3.out; have := HLE.out; omega)
          · obtain rfl : q = false := by rw [HBQ.out]; exact decide_eq_false ha
            have HA1 := Lib.hid ha
            clear ha HBQ
            have hsz9 : i ≤ 40000 := Nat.le_trans HI3.out HSZ.out
            by_cases h10 : b0 = 10
            · skip
              have HTK : Hid (tok s.data.toList i = 2) := Lib.hid (by rw [HT.out]; unfold tokN; rw [if_neg HA0.out, if_neg HA1.out, ← HB0.out, h10]; rfl)
              have q10 : ((b0.toNat : Int) == 10) = true := byte_eq (k := 10) (by decide) h10
              have q10' : ((b0.toNat : Int) != 10) = false := by rw [bne, q10]; rfl
              clear h10
              by_cases hh : H = 100
              · have hq3 : (((H : Nat) : Int) == 100) = true := by rw [beq_iff_eq]; omega
                have HNH := Lib.hid hh
                clear hh
                have l5 := row_range HD.out.z
                go_wp2_with (first | (refine wpList_load_mid rfl 35 _ rfl nb 0 rfl _ _ l5 Tryd.underlying35 rfl infoPat ?_) | (refine Ops.wpList_store_arr rfl 35 _ _ rfl rb rfl 35 noPat noPat rfl HD.out.d.r rfl infoPat noPat_one ?_; intro w5 hr5 ho5))
                refine bodyPost_ret (results_pat3 (t := 2) (u := 3) (v := 4) (e := .int .i64 ((fr : Nat) : Int)) (f := .int .i64 1) rfl _ _ hr5 rfl rfl rfl rfl) rfl ⟨drQ_bad (by rw [HPA.out]; exact drunR_bad HIL.out (ds_row100 HI.out HTK.out HNH.out)), HD.out.d.b.trans (ho5.below HD.out.d.ne.2.2)⟩
              · have hq3 : (((H : Nat) : Int) == 100) = false := by rw [beq_eq_false_iff_ne]; omega
                have HNH := Lib.hid hh
                by_cases hh0 : 0 < H
                · have hq4 : (0 : Int) < ((H : Nat) : Int) := by omega
                  by_cases hnw : n = W
                  · have hq5 : (((n : Nat) : Int) != ((W : Nat) : Int)) = false := by rw [bne_eq_false_iff_eq]; omega
                    have HNW : Hid (¬ (0 < H ∧ n ≠ W)) := Lib.hid (fun h => h.2 hnw)
                    clear hh hh0 hnw
                    have hH2 := HHB.out
                    have HPA2 : Hid (dparse s.data.toList = drunR s.data.toList (i + 1) 0 (i + 1) n (H + 1) N F) := Lib.hid (by
                      rw [HPA.out, drunR_go HIL.out (ds_row HI.out HTK.out HNH.out HNW.out)])
                    have z0 := HD.out.d.q.frozen 0
                    go_upto_region 31 with fail
                    have HD := Lib.hid (HD.out.setW n)
                    clear f0 f1 z0
                    generalize wr.setCell ⟨pb, 0, none⟩ (.int .i64 (n : Nat)) = w5 at *
                    have f1 := HD.out.d.q.cell 1
                    have z1 := HD.out.d.q.frozen 1
                    dsimp only [List.getElem?_cons_succ, List.getElem?_cons_zero] at f1
                    go_upto_region 32 with fail
                    have HD := Lib.hid (HD.out.setH (H + 1))
                    clear f1 z1
                    have eH : w5.setCell ⟨pb, 1, none⟩ (.int .i64 ((H : Int) + 1)) = w5.setCell ⟨pb, 1, none⟩ (.int .i64 ((H + 1 : Nat) : Int)) := rfl
                    rw [eH]
                    clear eH
                    generalize w5.setCell ⟨pb, 1, none⟩ (.int .i64 ((H + 1 : Nat) : Int)) = w6 at *
                    clear hH2
                    go_wp2_with fail
                    go_roundw
                    case rel => exact ⟨i + 1, 0, i + 1, n, H + 1, N, F, vs, rfl, rfl, rfl, HD.out, Nat.zero_le _, HNB1.out, by have := HHB.out; have := HNH.out; omega, Nat.le_refl _, fun _ => rfl, by have := HI.out; rw [← Lib.size_eq] at this; exact this, by have := HNI.out; omega, HPA2.out⟩
                    case measure => exact meas2 (z := (i : Int) + 1) (m := i + 1) rfl (by have := HI.out; rw [← Lib.size_eq] at this; omega)
                  · have hq5 : (((n : Nat) : Int) != ((W : Nat) : Int)) = true := by rw [bne_iff_ne]; omega
                    have HNW : Hid (0 < H ∧ n ≠ W) := Lib.hid ⟨hh0, hnw⟩
                    clear hh hh0 hnw
                    have l5 := row_range HD.out.z
                    go_wp2_with (first | (refine wpList_load_mid rfl 35 _ rfl nb 0 rfl _ _ l5 Tryd.underlying35 rfl infoPat ?_) | (refine Ops.wpList_store_arr rfl 35 _ _ rfl rb rfl 35 noPat noPat rfl HD.out.d.r rfl infoPat noPat_one ?_; intro w5 hr5 ho5))
                    refine bodyPost_ret (results_pat3 (t := 2) (u := 3) (v := 4) (e := .int .i64 ((fr : Nat) : Int)) (f := .int .i64 3) rfl _ _ hr5 rfl rfl rfl rfl) rfl ⟨drQ_bad (by rw [HPA.out]; exact drunR_bad HIL.out (ds_rowne HI.out HTK.out HNH.out HNW.out)), HD.out.d.b.trans (ho5.below HD.out.d.ne.2.2)⟩
                · have hq4 : ¬ (0 : Int) < ((H : Nat) : Int) := by omega
                  have HNW : Hid (¬ (0 < H ∧ n ≠ W)) := Lib.hid (fun h => hh0 h.1)
                  clear hh hh0
                  have hH2 := HHB.out
                  have HPA2 : Hid (dparse s.data.toList = drunR s.data.toList (i + 1) 0 (i + 1) n (H + 1) N F) := Lib.hid (by
                    rw [HPA.out, drunR_go HIL.out (ds_row HI.out HTK.out HNH.out HNW.out)])
                  have z0 := HD.out.d.q.frozen 0
                  go_upto_region 31 with fail
                  have HD := Lib.hid (HD.out.setW n)
                  clear f0 f1 z0
                  generalize wr.setCell ⟨pb, 0, none⟩ (.int .i64 (n : Nat)) = w5 at *
                  have f1 := HD.out.d.q.cell 1
                  have z1 := HD.out.d.q.frozen 1
                  dsimp only [List.getElem?_cons_succ, List.getElem?_cons_zero] at f1
                  go_upto_region 32 with fail
                  have HD := Lib.hid (HD.out.setH (H + 1))
                  clear f1 z1
                  have eH : w5.setCell ⟨pb, 1, none⟩ (.int .i64 ((H : Int) + 1)) = w5.setCell ⟨pb, 1, none⟩ (.int .i64 ((H + 1 : Nat) : Int)) := rfl
                  rw [eH]
                  clear eH
                  generalize w5.setCell ⟨pb, 1, none⟩ (.int .i64 ((H + 1 : Nat) : Int)) = w6 at *
                  clear hH2
                  go_wp2_with fail
                  go_roundw
                  case rel => exact ⟨i + 1, 0, i + 1, n, H + 1, N, F, vs, rfl, rfl, rfl, HD.out, Nat.zero_le _, HNB1.out, by have := HHB.out; have := HNH.out; omega, Nat.le_refl _, fun _ => rfl, by have := HI.out; rw [← Lib.size_eq] at this; exact this, by have := HNI.out; omega, HPA2.out⟩
                  case measure => exact meas2 (z := (i : Int) + 1) (m := i + 1) rfl (by have := HI.out; rw [← Lib.size_eq] at this; omega)
            · skip
              have HTK : Hid (tok s.data.toList i = 3) := Lib.hid (by
                rw [HT.out]; unfold tokN
                rw [if_neg HA0.out, if_neg HA1.out, if_neg (fun h => h10 (by have h := h; rw [← HB0.out] at h; exact u8_of h))])
              have q10 : ((b0.toNat : Int) == 10) = false := byte_ne (k := 10) (by decide) h10
              have q10' : ((b0.toNat : Int) != 10) = true := by rw [bne, q10]; rfl
              clear h10
              have l5 := row_range HD.out.z
              go_wp2_with (first | (refine wpList_load_mid rfl 35 _ rfl nb 0 rfl _ _ l5 Tryd.underlying35 rfl infoPat ?_) | (refine Ops.wpList_store_arr rfl 35 _ _ rfl rb rfl 35 noPat noPat rfl HD.out.d.r rfl infoPat noPat_one ?_; intro w5 hr5 ho5))
              refine bodyPost_ret (results_pat3 (t := 2) (u := 3) (v := 4) (e := .int .i64 ((i : Nat) : Int)) (f := .int .i64 2) rfl _ _ hr5 rfl rfl rfl rfl) rfl ⟨drQ_bad (by rw [HPA.out]; exact drunR_bad HIL.out (ds_bad HI.out HTK.out)), HD.out.d.b.trans (ho5.below HD.out.d.ne.2.2)⟩
      · have hi2 : ¬ (i : Int) < (s.size : Int) := by omega
        have HIE : Hid (i = s.size) := Lib.hid (by omega)
        have HLE : Hid (s.data.toList.length ≤ i) := Lib.hid (by rw [← Lib.size_eq]; omega)
        clear hil f0 f1
        by_cases hfs : fr < s.size
        · have hf2 : (fr : Int) < (s.size : Int) := by omega
          have HFS : Hid (fr < s.data.toList.length) := Lib.hid (by rw [← Lib.size_eq]; exact hfs)
          clear hfs
          have l5 := row_range HD.out.z
          go_wp2_with (first | (refine wpList_load_mid rfl 35 _ rfl nb 0 rfl _ _ l5 Tryd.underlying35 rfl infoPat ?_) | (refine Ops.wpList_store_arr rfl 35 _ _ rfl rb rfl 35 noPat noPat rfl HD.out.d.r rfl infoPat noPat_one ?_; intro w5 hr5 ho5))
          refine bodyPost_ret (results_pat3 (t := 2) (u := 3) (v := 4) (e := .int .i64 ((s.size : Nat) : Int)) (f := .int .i64 2) rfl _ _ hr5 rfl rfl rfl rfl) rfl ⟨drQ_bad (by rw [HPA.out, Lib.size_eq]; exact drunR_bad HIL.out (ds_end HLE.out HFS.out)), HD.out.d.b.trans (ho5.below HD.out.d.ne.2.2)⟩
        · have hf2 : ¬ (fr : Int) < (s.size : Int) := by omega
          have HFS : Hid (¬ fr < s.data.toList.length) := Lib.hid (by rw [← Lib.size_eq]; exact hfs)
          clear hfs
          obtain ⟨av, cv, hve, _⟩ := own_is HD.out.d.o
          subst hve
          have l5 := row_range HD.out.d.q
          go_wp2_with (first | (refine wpList_load_mid rfl 35 _ rfl pb 0 rfl _ _ l5 Tryd.underlying35 rfl infoPat ?_) | (refine Ops.wpList_store_arr rfl 35 _ _ rfl rb rfl 35 noPat (boxP (W : Nat) (H : Nat) av N cv) rfl HD.out.d.r rfl infoPat (boxP_one _ _ _ _ _) ?_; intro w5 hr5 ho5))
          refine bodyPost_ret (results_pat3 (t := 2) (u := 3) (v := 4) (e := .int .i64 0) (f := .int .i64 0) rfl _ _ hr5 rfl rfl rfl rfl) rfl ⟨drQ_ok (by rw [HPA.out]; exact drunR_ok HIL.out (ds_ok HLE.out HFS.out)) (own_only HD.out.d.o ho5 (own_ne HD.out.d.o HD.out.d.r (by decide))), HD.out.d.b.trans (ho5.below HD.out.d.ne.2.2)⟩
end Pr
end Go.Proofs.YtgagophijmiceaaDoor
