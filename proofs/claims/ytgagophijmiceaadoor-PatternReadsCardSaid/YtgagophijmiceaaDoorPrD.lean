/- WALK: pattern.ParseDraw. -/
import Derived.Test.YtgagophijmiceaaDoorPrIx
import Derived.Test.YtgagophijmiceaaDoorPrH
import Derived.Test.YtgagophijmiceaaDoorPnE
import Derived.Test.YtgagophijmiceaaDoorShelf
namespace Go.Proofs.YtgagophijmiceaaDoor
set_option linter.unusedSimpArgs false
set_option linter.unusedVariables false
open Go.RowKit
namespace Pr
open Tld Mem Bl Pn Pw Rd

/-- unicode/utf8's two tables lie. -/
def UTabs (w : World) : Prop := Lib.Utf8Tabs 2 3 w
theorem UTabs.keep {w w' : World} (h : UTabs w) (hb : Below w.heap.size w w') : UTabs w' :=
  ⟨fun c hc => (hb.cell (Mem.lt_of_cell (h.1 c hc))).trans (h.1 c hc), fun i hi => ⟨(hb.cell (Mem.lt_of_cell (h.2 i hi).1)).trans (h.2 i hi).1, (hb.cell (Mem.lt_of_cell (h.2 i hi).2)).trans (h.2 i hi).2⟩⟩
theorem dec_cases (s : ByteArray) (i : Nat) (hi : i < s.size) : ∃ rv kv : Nat, Lib.decodeGo (s.extract i s.size) = (rv, kv) ∧
    ((∃ t : Nat, tok s.data.toList i = t ∧ t < 2 ∧ kv = t + 2 ∧ ixN (rv : Int) = (t : Nat)) ∨ (tok s.data.toList i = 2 ∧ kv = 1 ∧ ixN (rv : Int) = -1 ∧ ((rv : Int) == 10) = true) ∨ (tok s.data.toList i = 3 ∧ ixN (rv : Int) = -1 ∧ ((rv : Int) == 10) = false)) := by
  rcases dec_tok s i hi with ⟨h, e⟩ | ⟨h, e⟩ | ⟨h, e⟩ | ⟨h, e1, e2, e3⟩
  · exact ⟨183, 2, e, .inl ⟨0, h, by decide, rfl, rfl⟩⟩
  · exact ⟨9679, 3, e, .inl ⟨1, h, by decide, rfl, rfl⟩⟩
  · exact ⟨10, 1, e, .inr (.inl ⟨h, rfl, rfl, rfl⟩)⟩
  · generalize hd : Lib.decodeGo (s.extract i s.size) = d at *
    obtain ⟨d1, d2⟩ := d
    have e1 : d1 ≠ 183 := e1
    have e2 : d1 ≠ 9679 := e2
    have e3 : d1 ≠ 10 := e3
    refine ⟨d1, d2, rfl, .inr (.inr ⟨h, ?_, ?_⟩)⟩
    · unfold ixN
      rw [if_neg (by omega), if_neg (by omega)]
    · rw [beq_eq_false_iff_ne]
      omega
theorem meas2 {z : Int} {m k n : Nat} (e : z = ((m : Nat) : Int)) (h : n - m < n - k) : n - (RowKit.intOf (.int .i64 z)).toNat < n - (RowKit.intOf (.int .i64 ((k : Nat) : Int))).toNat := by
  rw [e]
  exact h
/-- The boxes of a walk that reads a drawing. -/
structure DSt (w0 wr : World) (rb pb : Nat) (W H : Nat) (F : Nat → Nat) (N : Nat) (vs : Value) : Prop where
  r : Row wr rb 35 noPat
  q : Row wr pb 35 [.int .i64 (W : Nat), .int .i64 (H : Nat), vs]
  o : wr.ownsRow w0.heap.size 3 1 vs N ((lstN N F).map (Value.int .i64))
  b : Below w0.heap.size w0 wr
  ne : w0.heap.size ≤ pb ∧ rb ≠ pb ∧ w0.heap.size ≤ rb
theorem DSt.keep {w0 wr w2 : World} {rb pb W H N : Nat} {F : Nat → Nat} {vs : Value} (h : DSt w0 wr rb pb W H F N vs) (b : Below wr.heap.size wr w2) : DSt w0 w2 rb pb W H F N vs :=
  ⟨h.r.keep b h.r.lt, h.q.keep b h.q.lt, own_keep h.o b, h.b.trans (b.mono h.b.size), h.ne⟩
theorem DSt.setW {w0 wr : World} {rb pb W H N : Nat} {F : Nat → Nat} {vs : Value} (h : DSt w0 wr rb pb W H F N vs) (n : Nat) : DSt w0 (wr.setCell ⟨pb, 0, none⟩ (.int .i64 (n : Nat))) rb pb n H F N vs := by
  have ho := only_setCell wr pb 0 (.int .i64 (n : Nat))
  exact ⟨h.r.other ho h.ne.2.1, h.q.set 0 _, own_only h.o ho (own_ne h.o h.q (by decide)), h.b.trans (ho.below h.ne.1), h.ne⟩
theorem DSt.setH {w0 wr : World} {rb pb W H N : Nat} {F : Nat → Nat} {vs : Value} (h : DSt w0 wr rb pb W H F N vs) (n : Nat) : DSt w0 (wr.setCell ⟨pb, 1, none⟩ (.int .i64 (n : Nat))) rb pb W n F N vs := by
  have ho := only_setCell wr pb 1 (.int .i64 (n : Nat))
  exact ⟨h.r.other ho h.ne.2.1, h.q.set 1 _, own_only h.o ho (own_ne h.o h.q (by decide)), h.b.trans (ho.below h.ne.1), h.ne⟩
theorem DSt.grown {w0 wr w2 : World} {rb pb W H N : Nat} {F : Nat → Nat} {vs : Value} (h : DSt w0 wr rb pb W H F N vs) (hg : wr.grownBy w2 vs.ownBlock) : Row w2 pb 35 [.int .i64 (W : Nat), .int .i64 (H : Nat), vs] := row_grown h.o hg h.q (by decide)
theorem lstN_put {F : Nat → Nat} {N t : Nat} : ∀ k, k ≤ N → lstN k (put F N t) = lstN k F
  | 0, _ => rfl
  | k + 1, h => by
    rw [lstN_succ, lstN_succ, lstN_put k (by omega)]
    unfold put
    rw [if_neg (by omega)]
theorem DSt.push {w0 wr w2 : World} {rb pb W H N : Nat} {F : Nat → Nat} {vs vs' : Value} {t : Nat} (h : DSt w0 wr rb pb W H F N vs) (hg : wr.grownBy w2 vs.ownBlock)
    (ho : w2.ownsRow w0.heap.size 3 1 vs' (N + 1) ((lstN N F).map (Value.int .i64) ++ [.int .i64 (t : Nat)])) : DSt w0 (w2.setCell ⟨pb, 2, none⟩ vs') rb pb W H (put F N t) (N + 1) vs' := by
  have hr := row_grown h.o hg h.r (by decide)
  have hq := h.grown hg
  have hb := h.b.grown hg h.b.size (own_low h.o)
  have ho9 := only_setCell w2 pb 2 vs'
  have hs : (lstN (N + 1) (put F N t)).map (Value.int .i64) = (lstN N F).map (Value.int .i64) ++ [.int .i64 (t : Nat)] := by
    rw [lstN_succ, lstN_put N (Nat.le_refl _), List.map_append]
    unfold put
    rw [if_pos rfl]
    rfl
  refine ⟨hr.other ho9 h.ne.2.1, hq.set 2 _, ?_, hb.trans (ho9.below h.ne.1), h.ne⟩
  rw [hs]
  exact own_only ho ho9 (own_ne ho hq (by decide))
/-- What ParseDraw hands back. -/
def DrP (l : List UInt8) (w0 : World) (e : Ending) (w' : World) : Prop := match dparse l with
  | .bad p ev => e = .returned (.tuple #[.agg #[.int .i64 0, .int .i64 0, .slice none 0 0], .int .i64 (p : Nat), .iface 59 (.int .i64 ev)])
  | .ok W H N F => ∃ vs, e = .returned (.tuple #[.agg #[.int .i64 (W : Nat), .int .i64 (H : Nat), vs], .int .i64 0, .nilIface]) ∧ w'.ownsRow w0.heap.size 3 1 vs N ((lstN N F).map (Value.int .i64))
  | .go _ _ _ _ _ _ _ => True
theorem drP_bad {l : List UInt8} {w0 w' : World} {p : Nat} {ev : Int} (h : dparse l = .bad p ev) : DrP l w0 (.returned (.tuple #[.agg #[.int .i64 0, .int .i64 0, .slice none 0 0], .int .i64 (p : Nat), .iface 59 (.int .i64 ev)])) w' := by
  unfold DrP
  rw [h]
theorem drP_ok {l : List UInt8} {w0 w' : World} {W H N : Nat} {F : Nat → Nat} {vs : Value} (h : dparse l = .ok W H N F) (ho : w'.ownsRow w0.heap.size 3 1 vs N ((lstN N F).map (Value.int .i64))) : DrP l w0 (.returned (.tuple #[.agg #[.int .i64 (W : Nat), .int .i64 (H : Nat), vs], .int .i64 0, .nilIface])) w' := by
  unfold DrP
  rw [h]
  exact ⟨vs, rfl, ho⟩
set_option maxHeartbeats 16000000 in
set_option maxRecDepth 1000000 in
theorem pdraw_any (s : ByteArray) (w : World) (hs : s.size ≤ 1000000000) (hU : UTabs w) (hM : Marks w) : Calls Tryd.prog 14 #[.string s] w fun e w' => DrP s.data.toList w e w' ∧ Below w.heap.size w w' := by
  obtain ⟨i0, hI0, hz0, hz1, hz2⟩ := info_parts infoIntV
  have HI0 := Lib.hid hI0
  have HZ0 := Lib.hid hz0
  have HZ1 := Lib.hid hz1
  have HZ2 := Lib.hid hz2
  obtain ⟨mb, mo, mc, hm1, hm2, hm3, hm4, hm5, hm6⟩ := hM
  have HMK : Hid (∀ w2, Below w.heap.size w w2 → w2.cell? ⟨0, 0, none⟩ = some (.slice (some ⟨mb, mo, none⟩) 2 mc) ∧ w2.cell? ⟨mb, mo + 0, none⟩ = some (.int .i32 183) ∧ w2.cell? ⟨mb, mo + 1, none⟩ = some (.int .i32 9679)) :=
    Lib.hid (fun w2 hb => ⟨(hb.cell (p := ⟨0, 0, none⟩) hm1).trans hm4, (hb.cell (p := ⟨mb, mo + 0, none⟩) hm2).trans hm5, (hb.cell (p := ⟨mb, mo + 1, none⟩) hm2).trans hm6⟩)
  have HU : Hid (∀ w2, Below w.heap.size w w2 → Lib.Utf8Tabs 2 3 w2) := Lib.hid (fun w2 hb => hU.keep hb)
  clear hI0 hz0 hz1 hz2 hm1 hm2 hm3 hm4 hm5 hm6 hU
  go_enter Tryd.func14, Tryd.ntmps14
  go_upto_region 1 with fail
  have hr0 := row_alloc w 35 noPat
  have hb0 : Below w.heap.size w (w.alloc (.cells noPat.toArray 35)) := (Below.refl _ _).alloc (Nat.le_refl _) _
  have hrl0 : w.heap.size < (w.alloc (.cells noPat.toArray 35)).heap.size := hr0.lt
  have HR : Hid (Row (w.alloc (.cells #[.int .i64 0, .int .i64 0, .slice none 0 0] 35)) w.heap.size 35 noPat) := Lib.hid hr0
  have HB : Hid (Below w.heap.size w (w.alloc (.cells #[.int .i64 0, .int .i64 0, .slice none 0 0] 35))) := Lib.hid hb0
  have HRL : Hid (w.heap.size < (w.alloc (.cells #[.int .i64 0, .int .i64 0, .slice none 0 0] 35)).heap.size) := Lib.hid hrl0
  clear hr0 hb0 hrl0
  generalize w.alloc (.cells #[.int .i64 0, .int .i64 0, .slice none 0 0] 35) = w1 at *
  obtain ⟨rb, hrb⟩ : ∃ rb, rb = w.heap.size := ⟨_, rfl⟩
  rw [← hrb] at HR ⊢
  have HRL : Hid (rb < w1.heap.size) := Lib.hid (by rw [hrb]; exact HRL.out)
  have HRB : Hid (w.heap.size ≤ rb) := Lib.hid (by rw [hrb]; exact Nat.le_refl _)
  clear hrb
  by_cases h4 : 40000 < s.size
  · have hlt : (40000 : Int) < (s.size : Int) := by omega
    have HPA : Hid (dparse s.data.toList = .bad 0 4) := Lib.hid (dparse_long (by rw [← Lib.size_eq]; exact h4))
    clear h4
    go_wp2_with (refine Ops.wpList_store_arr rfl 35 _ _ rfl rb rfl 35 noPat noPat rfl HR.out rfl infoPat noPat_one ?_; intro w5 hr5 ho5)
    refine bodyPost_ret (results_pat3 (t := 2) (u := 3) (v := 4) (e := .int .i64 0) (f := .iface 59 (.int .i64 4)) rfl _ _ hr5 rfl rfl rfl rfl) rfl ⟨drP_bad (p := 0) HPA.out, HB.out.trans (ho5.below HRB.out)⟩
  · have hlt : ¬ (40000 : Int) < (s.size : Int) := by omega
    have HSZ : Hid (s.size ≤ 40000) := Lib.hid (by omega)
    have HLN : Hid (s.data.toList.length ≤ 40000) := Lib.hid (by rw [← Lib.size_eq]; exact HSZ.out)
    clear h4
    go_upto_region 4 with fail
    have hnew := row_alloc w1 35 noPat
    have hbn : Below w1.heap.size w1 (w1.alloc (.cells noPat.toArray 35)) := (Below.refl _ _).alloc (Nat.le_refl _) _
    have HD : Hid (DSt w (w1.alloc (.cells #[.int .i64 0, .int .i64 0, .slice none 0 0] 35)) rb w1.heap.size 0 0 (fun _ => 0) 0 (.slice none 0 0)) := Lib.hid
      ⟨HR.out.keep hbn HR.out.lt, hnew, ⟨rfl, .inl ⟨rfl, rfl⟩⟩, HB.out.trans (hbn.mono HB.out.size), HB.out.size, by have := HRL.out; omega, HRB.out⟩
    clear hnew hbn HR HB
    generalize w1.alloc (.cells #[.int .i64 0, .int .i64 0, .slice none 0 0] 35) = w2 at *
    obtain ⟨pb, hpb⟩ : ∃ pb, pb = w1.heap.size := ⟨_, rfl⟩
    rw [← hpb] at HD ⊢
    clear hpb HRL
    go_wp2_with fail
    go_loopw [6, 7, 8] (fun v6 v7 v8 wx => ∃ (fr n i W H N : Nat) (F : Nat → Nat) (vs : Value), v6 = .int .i64 ((fr : Nat) : Int) ∧ v7 = .int .i64 ((n : Nat) : Int) ∧ v8 = .int .i64 ((i : Nat) : Int) ∧ DSt w wx rb pb W H F N vs ∧ n ≤ 100 ∧ W ≤ 100 ∧ H ≤ 100 ∧ fr + 2 * n ≤ i ∧ (n = 0 → fr = i) ∧ i ≤ s.size ∧ N ≤ i ∧ dparse s.data.toList = drunR s.data.toList fr n i W H N F) (fun _ _ v _ => s.size - (RowKit.intOf v).toNat)
    case atStart => exact ⟨0, 0, 0, 0, 0, 0, fun _ => 0, .slice none 0 0, rfl, rfl, rfl, HD.out, Nat.zero_le _, Nat.zero_le _, Nat.zero_le _, Nat.le_refl _, fun _ => rfl, Nat.zero_le _, Nat.le_refl _, dparse_run HLN.out⟩
    case round =>
      clear HD
      obtain ⟨fr, n, i, W, H, N, F, vs, rfl, rfl, rfl, hd, hn, hW, hH, hbd, hf0, hi3, hni, hpa⟩ := hrel
      have HD := Lib.hid hd
      have HBD := Lib.hid hbd
      have HF0 := Lib.hid hf0
      have HI3 := Lib.hid hi3
      have HNI := Lib.hid hni
      have HPA := Lib.hid hpa
      have HIL : Hid (i ≤ s.data.toList.length) := Lib.hid (by rw [← Lib.size_eq]; exact hi3)
      have HNB1 := Lib.hid hn
      have HWB := Lib.hid hW
      have HHB := Lib.hid hH
      clear hd hbd hf0 hni hpa
      by_cases hil : i < s.size
      · have hi2 : (i : Int) < (s.size : Int) := by omega
        have HI : Hid (i < s.data.toList.length) := Lib.hid (by rw [← Lib.size_eq]; exact hil)
        have hsz9 := HSZ.out
        have hi9 : (i : Int) ≤ (s.size : Int) := by omega
        obtain ⟨rv, kv, hdc, harms⟩ := dec_cases s i hil
        have hcall := Tryd.utf8_DecodeRuneInString (s.extract i s.size) wr (HU.out _ HD.out.b)
        rw [hdc] at hcall
        have HCALL := Lib.hid hcall
        have HARMS := Lib.hid harms
        clear hcall harms hdc hil
        go_wp2_with fail
        refine HCALL.out.mono ?_
        rintro e3 w3 ⟨rfl, hb3⟩
        have HD := Lib.hid (HD.out.keep hb3)
        obtain ⟨hm4, hm5, hm6⟩ := HMK.out w3 HD.out.b
        have HM5 := Lib.hid hm5
        have HM6 := Lib.hid hm6
        clear hb3 hm5 hm6 HCALL
        go_wp2_with fail
        refine (marks_index mb mo mc (rv : Int) w3 HM5.out HM6.out).mono ?_
        rintro e4 w4 ⟨rfl, hb4⟩
        have HD := Lib.hid (HD.out.keep hb4)
        clear hb4 hm4
        have f0 := HD.out.q.cell 0
        have f1 := HD.out.q.cell 1
        dsimp only [List.getElem?_cons_succ, List.getElem?_cons_zero] at f0 f1
        have harms := HARMS.out
        clear HARMS
        rcases harms with ⟨t, ht, ht2, hkv, hdc⟩ | ⟨ht, hkv, hdc, hr10⟩ | ⟨ht, hdc, hr10⟩
        · rw [hdc]
          have HTK := Lib.hid ht
          have HT2 := Lib.hid ht2
          have HKV := Lib.hid hkv
          have hx0 : (0 : Int) ≤ ((t : Nat) : Int) := by omega
          clear ht ht2 hkv hdc
          by_cases hn1 : n = 100
          · have hq1 : (((n : Nat) : Int) == 100) = true := by rw [beq_iff_eq]; omega
            have HN1 := Lib.hid hn1
            clear hn1
            go_wp2_with (refine Ops.wpList_store_arr rfl 35 _ _ rfl rb rfl 35 noPat noPat rfl HD.out.r rfl infoPat noPat_one ?_; intro w5 hr5 ho5)
            refine bodyPost_ret (results_pat3 (t := 2) (u := 3) (v := 4) (e := .int .i64 ((i : Nat) : Int)) (f := .iface 59 (.int .i64 1)) rfl _ _ hr5 rfl rfl rfl rfl) rfl ⟨drP_bad (by rw [HPA.out]; exact drunR_bad HIL.out (ds_n100 HI.out (by rw [HTK.out]; exact HT2.out) HN1.out)), HD.out.b.trans (ho5.below HD.out.ne.2.2)⟩
          · have hq1 : (((n : Nat) : Int) == 100) = false := by rw [beq_eq_false_iff_ne]; omega
            have HN1 := Lib.hid hn1
            by_cases hn0 : n = 0
            · have hfi : fr = i := HF0.out hn0
              have hq2 : (((fr : Nat) : Int) == ((i : Nat) : Int)) = true := by rw [beq_iff_eq]; omega
              by_cases hh : H = 100
              · have hq3 : (((H : Nat) : Int) == 100) = true := by rw [beq_iff_eq]; omega
                have HNH : Hid (n = 0 ∧ H = 100) := Lib.hid ⟨hn0, hh⟩
                clear hn1 hn0 hfi hh
                go_wp2_with (refine Ops.wpList_store_arr rfl 35 _ _ rfl rb rfl 35 noPat noPat rfl HD.out.r rfl infoPat noPat_one ?_; intro w5 hr5 ho5)
                refine bodyPost_ret (results_pat3 (t := 2) (u := 3) (v := 4) (e := .int .i64 ((fr : Nat) : Int)) (f := .iface 59 (.int .i64 1)) rfl _ _ hr5 rfl rfl rfl rfl) rfl ⟨drP_bad (by rw [HPA.out]; exact drunR_bad HIL.out (ds_h100 HI.out (by rw [HTK.out]; exact HT2.out) HNH.out)), HD.out.b.trans (ho5.below HD.out.ne.2.2)⟩
              · have hq3 : (((H : Nat) : Int) == 100) = false := by rw [beq_eq_false_iff_ne]; omega
                have HN2 : Hid (¬ (n = 0 ∧ H = 100)) := Lib.hid (fun h => hh h.2)
                clear hn1 hn0 hfi hh
                have g2 := HD.out.q.cell 2
                dsimp only [List.getElem?_cons_succ, List.getElem?_cons_zero] at g2
                have E1 : Hid (wrap64 ((n : Int) + 1) = ((n + 1 : Nat) : Int)) := Lib.hid (wr_nat (by push_cast; rfl) (by omega))
                have E2 : Hid (wrap64 ((i : Int) + ((kv : Nat) : Int)) = ((i + 2 + t : Nat) : Int)) := Lib.hid (wr_nat (by rw [HKV.out]; push_cast; omega) (by have := HSZ.out; have := HT2.out; omega))
                have HPA2 : Hid (dparse s.data.toList = drunR s.data.toList fr (n + 1) (i + 2 + t) W H (N + 1) (put F N t)) := Lib.hid (by
                  rw [HPA.out, drunR_go HIL.out (ds_cell HI.out (by rw [HTK.out]; exact HT2.out) HN1.out HN2.out), HTK.out])
                have HLE : Hid (i + 2 + t ≤ s.size) := Lib.hid (by
                  have h := tok_le (l := s.data.toList) (i := i) (by rw [HTK.out]; exact HT2.out)
                  rw [HTK.out, ← Lib.size_eq] at h
                  exact h)
                have HNB : Hid (N ≤ 1000000) := Lib.hid (by have := HNI.out; have := HSZ.out; have := HI3.out; omega)
                have HNN : Hid (n + 1 ≤ 100 ∧ N + 1 ≤ i + 2 + t ∧ fr + 2 * (n + 1) ≤ i + 2 + t) := Lib.hid (by
                  have h1 := HN1.out; have h2 := HNI.out; have h3 := HBD.out; omega)
                clear hn hW hH hi3
                have hnew := row_alloc w4 3 [.int .i64 ((t : Nat) : Int)]
                have hbn : Below w4.heap.size w4 (w4.alloc (.cells [.int .i64 ((t : Nat) : Int)].toArray 3)) := (Below.refl _ _).alloc (Nat.le_refl _) _
                have HDa := Lib.hid (HD.out.keep hbn)
                have HCEL := Lib.hid (hnew.cell 0)
                have HSS : Hid (w.heap.size ≤ (w4.alloc (.cells [.int .i64 ((t : Nat) : Int)].toArray 3)).heap.size) := HDa.out.b.size
                clear HD hnew hbn
                go_upto_region 15 with fail
                go_wp2_with (at_builtin; refine Ops.wpList_append1 rfl _ _ 22 rfl w.heap.size 3 i0 (.int .i64 0) 8 Tryd.underlying22 HI0.out HZ0.out rfl HZ1.out HZ2.out _ N _ rfl HDa.out.o ⟨w4.heap.size, 0, none⟩ 1 (.int .i64 ((t : Nat) : Int)) rfl HCEL.out rfl ?c1 ?c2 HSS.out ?_)
                case c1 => have := HNB.out; unfold maxLen; omega
                case c2 => have := HNB.out; omega
                intro ao' co' w7 hO7 hg7
                have HPU := Lib.hid (HDa.out.push hg7 hO7)
                have c2 := (HDa.out.grown hg7).cell 2
                have z2 := (HDa.out.grown hg7).frozen 2
                dsimp only [List.getElem?_cons_succ, List.getElem?_cons_zero] at c2
                clear hO7 hg7 HDa HCEL HSS
                go_wp2_with fail
                clear c2 z2
                generalize w7.setCell ⟨pb, 2, none⟩ (.slice ao' (N + 1) co') = w9 at *
                go_roundw
                case rel => exact ⟨fr, n + 1, i + 2 + t, W, H, N + 1, put F N t, _, rfl, congrArg (Value.int .i64) E1.out, congrArg (Value.int .i64) E2.out, HPU.out, HNN.out.1, HWB.out, HHB.out, HNN.out.2.2, fun h => absurd h (Nat.succ_ne_zero _), HLE.out, HNN.out.2.1, HPA2.out⟩
                case measure => exact meas2 E2.out (by have := HI3.out; have := HLE.out; omega)
            · have hfi : fr ≠ i := by have h := HBD.out; omega
              have hq2 : (((fr : Nat) : Int) == ((i : Nat) : Int)) = false := by rw [beq_eq_false_iff_ne]; omega
              have HN2 : Hid (¬ (n = 0 ∧ H = 100)) := Lib.hid (fun h => hn0 h.1)
              clear hn1 hn0 hfi
              have g2 := HD.out.q.cell 2
              dsimp only [List.getElem?_cons_succ, List.getElem?_cons_zero] at g2
              have E1 : Hid (wrap64 ((n : Int) + 1) = ((n + 1 : Nat) : Int)) := Lib.hid (wr_nat (by push_cast; rfl) (by omega))
              have E2 : Hid (wrap64 ((i : Int) + ((kv : Nat) : Int)) = ((i + 2 + t : Nat) : Int)) := Lib.hid (wr_nat (by rw [HKV.out]; push_cast; omega) (by have := HSZ.out; have := HT2.out; omega))
              have HPA2 : Hid (dparse s.data.toList = drunR s.data.toList fr (n + 1) (i + 2 + t) W H (N + 1) (put F N t)) := Lib.hid (by
                rw [HPA.out, drunR_go HIL.out (ds_cell HI.out (by rw [HTK.out]; exact HT2.out) HN1.out HN2.out), HTK.out])
              have HLE : Hid (i + 2 + t ≤ s.size) := Lib.hid (by
                have h := tok_le (l := s.data.toList) (i := i) (by rw [HTK.out]; exact HT2.out)
                rw [HTK.out, ← Lib.size_eq] at h
                exact h)
              have HNB : Hid (N ≤ 1000000) := Lib.hid (by have := HNI.out; have := HSZ.out; have := HI3.out; omega)
              have HNN : Hid (n + 1 ≤ 100 ∧ N + 1 ≤ i + 2 + t ∧ fr + 2 * (n + 1) ≤ i + 2 + t) := Lib.hid (by
                have h1 := HN1.out; have h2 := HNI.out; have h3 := HBD.out; omega)
              clear hn hW hH hi3
              have hnew := row_alloc w4 3 [.int .i64 ((t : Nat) : Int)]
              have hbn : Below w4.heap.size w4 (w4.alloc (.cells [.int .i64 ((t : Nat) : Int)].toArray 3)) := (Below.refl _ _).alloc (Nat.le_refl _) _
              have HDa := Lib.hid (HD.out.keep hbn)
              have HCEL := Lib.hid (hnew.cell 0)
              have HSS : Hid (w.heap.size ≤ (w4.alloc (.cells [.int .i64 ((t : Nat) : Int)].toArray 3)).heap.size) := HDa.out.b.size
              clear HD hnew hbn
              go_upto_region 15 with fail
              go_wp2_with (at_builtin; refine Ops.wpList_append1 rfl _ _ 22 rfl w.heap.size 3 i0 (.int .i64 0) 8 Tryd.underlying22 HI0.out HZ0.out rfl HZ1.out HZ2.out _ N _ rfl HDa.out.o ⟨w4.heap.size, 0, none⟩ 1 (.int .i64 ((t : Nat) : Int)) rfl HCEL.out rfl ?c1 ?c2 HSS.out ?_)
              case c1 => have := HNB.out; unfold maxLen; omega
              case c2 => have := HNB.out; omega
              intro ao' co' w7 hO7 hg7
              have HPU := Lib.hid (HDa.out.push hg7 hO7)
              have c2 := (HDa.out.grown hg7).cell 2
              have z2 := (HDa.out.grown hg7).frozen 2
              dsimp only [List.getElem?_cons_succ, List.getElem?_cons_zero] at c2
              clear hO7 hg7 HDa HCEL HSS
              go_wp2_with fail
              clear c2 z2
              generalize w7.setCell ⟨pb, 2, none⟩ (.slice ao' (N + 1) co') = w9 at *
              go_roundw
              case rel => exact ⟨fr, n + 1, i + 2 + t, W, H, N + 1, put F N t, _, rfl, congrArg (Value.int .i64) E1.out, congrArg (Value.int .i64) E2.out, HPU.out, HNN.out.1, HWB.out, HHB.out, HNN.out.2.2, fun h => absurd h (Nat.succ_ne_zero _), HLE.out, HNN.out.2.1, HPA2.out⟩
              case measure => exact meas2 E2.out (by have := HI3.out; have := HLE.out; omega)
        · rw [hdc]
          subst hkv
          have HTK := Lib.hid ht
          have hx0 : ¬ (0 : Int) ≤ (-1 : Int) := by decide
          clear ht hdc
          by_cases hh : H = 100
          · have hq3 : (((H : Nat) : Int) == 100) = true := by rw [beq_iff_eq]; omega
            have HNH := Lib.hid hh
            clear hh
            go_wp2_with (refine Ops.wpList_store_arr rfl 35 _ _ rfl rb rfl 35 noPat noPat rfl HD.out.r rfl infoPat noPat_one ?_; intro w5 hr5 ho5)
            refine bodyPost_ret (results_pat3 (t := 2) (u := 3) (v := 4) (e := .int .i64 ((fr : Nat) : Int)) (f := .iface 59 (.int .i64 1)) rfl _ _ hr5 rfl rfl rfl rfl) rfl ⟨drP_bad (by rw [HPA.out]; exact drunR_bad HIL.out (ds_row100 HI.out HTK.out HNH.out)), HD.out.b.trans (ho5.below HD.out.ne.2.2)⟩
          · have hq3 : (((H : Nat) : Int) == 100) = false := by rw [beq_eq_false_iff_ne]; omega
            have HNH := Lib.hid hh
            by_cases hh0 : 0 < H
            · have hq4 : (0 : Int) < ((H : Nat) : Int) := by omega
              by_cases hnw : n = W
              · have hq5 : (((n : Nat) : Int) != ((W : Nat) : Int)) = false := by rw [bne_eq_false_iff_eq]; omega
                have HNW : Hid (¬ (0 < H ∧ n ≠ W)) := Lib.hid (fun h => h.2 hnw)
                clear hh hh0 hnw
                have E1 : Hid (wrap64 ((H : Int) + 1) = ((H + 1 : Nat) : Int)) := Lib.hid (wr_nat (by push_cast; rfl) (by omega))
                have E2 : Hid (wrap64 ((i : Int) + 1) = ((i + 1 : Nat) : Int)) := Lib.hid (wr_nat (by push_cast; rfl) (by have := HSZ.out; omega))
                have HPA2 : Hid (dparse s.data.toList = drunR s.data.toList (i + 1) 0 (i + 1) n (H + 1) N F) := Lib.hid (by
                  rw [HPA.out, drunR_go HIL.out (ds_row HI.out HTK.out HNH.out HNW.out)])
                clear hi3
                have z0 := HD.out.q.frozen 0
                go_upto_region 23 with fail
                have HD := Lib.hid (HD.out.setW n)
                clear f0 f1 z0
                generalize w4.setCell ⟨pb, 0, none⟩ (.int .i64 (n : Nat)) = w5 at *
                have f1 := HD.out.q.cell 1
                have z1 := HD.out.q.frozen 1
                dsimp only [List.getElem?_cons_succ, List.getElem?_cons_zero] at f1
                go_upto_region 24 with fail
                have HD := Lib.hid (HD.out.setH (H + 1))
                clear f1 z1
                have eH : w5.setCell ⟨pb, 1, none⟩ (.int .i64 ((H : Int) + 1)) = w5.setCell ⟨pb, 1, none⟩ (.int .i64 ((H + 1 : Nat) : Int)) := rfl
                rw [eH]
                clear eH
                generalize w5.setCell ⟨pb, 1, none⟩ (.int .i64 ((H + 1 : Nat) : Int)) = w6 at *
                go_wp2_with fail
                go_roundw
                case rel => exact ⟨i + 1, 0, i + 1, n, H + 1, N, F, vs, rfl, rfl, rfl, HD.out, Nat.zero_le _, HNB1.out, by have := HHB.out; have := HNH.out; omega, Nat.le_refl _, fun _ => rfl, by have := HI.out; rw [← Lib.size_eq] at this; exact this, by have := HNI.out; omega, HPA2.out⟩
                case measure => exact meas2 (z := (i : Int) + 1) (m := i + 1) rfl (by have := HI.out; rw [← Lib.size_eq] at this; omega)
              · have hq5 : (((n : Nat) : Int) != ((W : Nat) : Int)) = true := by rw [bne_iff_ne]; omega
                have HNW : Hid (0 < H ∧ n ≠ W) := Lib.hid ⟨hh0, hnw⟩
                clear hh hh0 hnw
                go_wp2_with (refine Ops.wpList_store_arr rfl 35 _ _ rfl rb rfl 35 noPat noPat rfl HD.out.r rfl infoPat noPat_one ?_; intro w5 hr5 ho5)
                refine bodyPost_ret (results_pat3 (t := 2) (u := 3) (v := 4) (e := .int .i64 ((fr : Nat) : Int)) (f := .iface 59 (.int .i64 3)) rfl _ _ hr5 rfl rfl rfl rfl) rfl ⟨drP_bad (by rw [HPA.out]; exact drunR_bad HIL.out (ds_rowne HI.out HTK.out HNH.out HNW.out)), HD.out.b.trans (ho5.below HD.out.ne.2.2)⟩
            · have hq4 : ¬ (0 : Int) < ((H : Nat) : Int) := by omega
              have HNW : Hid (¬ (0 < H ∧ n ≠ W)) := Lib.hid (fun h => hh0 h.1)
              clear hh hh0
              have E1 : Hid (wrap64 ((H : Int) + 1) = ((H + 1 : Nat) : Int)) := Lib.hid (wr_nat (by push_cast; rfl) (by omega))
              have E2 : Hid (wrap64 ((i : Int) + 1) = ((i + 1 : Nat) : Int)) := Lib.hid (wr_nat (by push_cast; rfl) (by have := HSZ.out; omega))
              have HPA2 : Hid (dparse s.data.toList = drunR s.data.toList (i + 1) 0 (i + 1) n (H + 1) N F) := Lib.hid (by
                rw [HPA.out, drunR_go HIL.out (ds_row HI.out HTK.out HNH.out HNW.out)])
              clear hi3
              have z0 := HD.out.q.frozen 0
              go_upto_region 23 with fail
              have HD := Lib.hid (HD.out.setW n)
              clear f0 f1 z0
              generalize w4.setCell ⟨pb, 0, none⟩ (.int .i64 (n : Nat)) = w5 at *
              have f1 := HD.out.q.cell 1
              have z1 := HD.out.q.frozen 1
              dsimp only [List.getElem?_cons_succ, List.getElem?_cons_zero] at f1
              go_upto_region 24 with fail
              have HD := Lib.hid (HD.out.setH (H + 1))
              clear f1 z1
              have eH : w5.setCell ⟨pb, 1, none⟩ (.int .i64 ((H : Int) + 1)) = w5.setCell ⟨pb, 1, none⟩ (.int .i64 ((H + 1 : Nat) : Int)) := rfl
              rw [eH]
              clear eH
              generalize w5.setCell ⟨pb, 1, none⟩ (.int .i64 ((H + 1 : Nat) : Int)) = w6 at *
              go_wp2_with fail
              go_roundw
              case rel => exact ⟨i + 1, 0, i + 1, n, H + 1, N, F, vs, rfl, rfl, rfl, HD.out, Nat.zero_le _, HNB1.out, by have := HHB.out; have := HNH.out; omega, Nat.le_refl _, fun _ => rfl, by have := HI.out; rw [← Lib.size_eq] at this; exact this, by have := HNI.out; omega, HPA2.out⟩
              case measure => exact meas2 (z := (i : Int) + 1) (m := i + 1) rfl (by have := HI.out; rw [← Lib.size_eq] at this; omega)
        · rw [hdc]
          have HTK := Lib.hid ht
          have hx0 : ¬ (0 : Int) ≤ (-1 : Int) := by decide
          clear ht hdc
          go_wp2_with (refine Ops.wpList_store_arr rfl 35 _ _ rfl rb rfl 35 noPat noPat rfl HD.out.r rfl infoPat noPat_one ?_; intro w5 hr5 ho5)
          refine bodyPost_ret (results_pat3 (t := 2) (u := 3) (v := 4) (e := .int .i64 ((i : Nat) : Int)) (f := .iface 59 (.int .i64 2)) rfl _ _ hr5 rfl rfl rfl rfl) rfl ⟨drP_bad (by rw [HPA.out]; exact drunR_bad HIL.out (ds_bad HI.out HTK.out)), HD.out.b.trans (ho5.below HD.out.ne.2.2)⟩
      · have hi2 : ¬ (i : Int) < (s.size : Int) := by omega
        have HIE : Hid (i = s.size) := Lib.hid (by omega)
        have HLE : Hid (s.data.toList.length ≤ i) := Lib.hid (by rw [← Lib.size_eq]; omega)
        clear hil
        by_cases hfs : fr < s.size
        · have hf2 : (fr : Int) < (s.size : Int) := by omega
          have HFS : Hid (fr < s.data.toList.length) := Lib.hid (by rw [← Lib.size_eq]; exact hfs)
          clear hfs
          go_wp2_with (refine Ops.wpList_store_arr rfl 35 _ _ rfl rb rfl 35 noPat noPat rfl HD.out.r rfl infoPat noPat_one ?_; intro w5 hr5 ho5)
          refine bodyPost_ret (results_pat3 (t := 2) (u := 3) (v := 4) (e := .int .i64 ((s.size : Nat) : Int)) (f := .iface 59 (.int .i64 2)) rfl _ _ hr5 rfl rfl rfl rfl) rfl ⟨drP_bad (by rw [HPA.out, Lib.size_eq]; exact drunR_bad HIL.out (ds_end HLE.out HFS.out)), HD.out.b.trans (ho5.below HD.out.ne.2.2)⟩
        · have hf2 : ¬ (fr : Int) < (s.size : Int) := by omega
          have HFS : Hid (¬ fr < s.data.toList.length) := Lib.hid (by rw [← Lib.size_eq]; exact hfs)
          clear hfs
          obtain ⟨av, cv, hve, _⟩ := own_is HD.out.o
          subst hve
          have l5 := row_range HD.out.q
          go_wp2_with (first | (refine wpList_load_mid rfl 35 _ rfl pb 0 rfl _ _ l5 Tryd.underlying35 rfl infoPat ?_) | (refine Ops.wpList_store_arr rfl 35 _ _ rfl rb rfl 35 noPat (boxP (W : Nat) (H : Nat) av N cv) rfl HD.out.r rfl infoPat (boxP_one _ _ _ _ _) ?_; intro w5 hr5 ho5))
          refine bodyPost_ret (results_pat3 (t := 2) (u := 3) (v := 4) (e := .int .i64 0) (f := .nilIface) rfl _ _ hr5 rfl rfl rfl rfl) rfl ⟨drP_ok (by rw [HPA.out]; exact drunR_ok HIL.out (ds_ok HLE.out HFS.out)) (own_only HD.out.o ho5 (own_ne HD.out.o HD.out.r (by decide))), HD.out.b.trans (ho5.below HD.out.ne.2.2)⟩
end Pr
end Go.Proofs.YtgagophijmiceaaDoor
