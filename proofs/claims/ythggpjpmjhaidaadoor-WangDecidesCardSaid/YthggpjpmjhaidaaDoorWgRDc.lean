/- WALK: edenref7's Decide. -/
import Derived.Test.YthggpjpmjhaidaaDoorWgRFl2
import Derived.Test.YthggpjpmjhaidaaDoorWgDc
namespace Go.Proofs.YthggpjpmjhaidaaDoor
set_option linter.unusedSimpArgs false
set_option linter.unusedVariables false
open Go.RowKit Go.Lib
namespace Wg
open Tld Mem

/-- What the reference's decision hands back. -/
def RDecR (B : Nat) (o : Option Dec) (e : Ending) (w : World) : Prop :=
  match o with
  | none => e = .returned (.tuple #[.agg #[.bool false, .int .i64 0, .int .i64 0, .slice none 0 0], .bool false])
  | some d => ∃ ad c, e = .returned (.tuple #[.agg #[.bool d.torus, .int .i64 d.wide, .int .i64 d.high, .slice ad d.cells.length c], .bool true]) ∧ Cells w ad d.cells.length (fun i => .int .i64 ((casts d.cells).getD i 0)) ∧ ∀ x, ad = some x → B ≤ x.block
theorem rdecR_none {B : Nat} {o : Option Dec} {w : World} (h : o = none) : RDecR B o (.returned (.tuple #[.agg #[.bool false, .int .i64 0, .int .i64 0, .slice none 0 0], .bool false])) w := by subst h; rfl
theorem rdecR_some {B : Nat} {o : Option Dec} {d : Dec} {ad : Option Addr} {c : Nat} {w : World} (h : o = some d) (ho : Cells w ad d.cells.length (fun i => .int .i64 ((casts d.cells).getD i 0))) (hx : ∀ x, ad = some x → B ≤ x.block) :
    RDecR B o (.returned (.tuple #[.agg #[.bool d.torus, .int .i64 d.wide, .int .i64 d.high, .slice ad d.cells.length c], .bool true])) w := by subst h; exact ⟨ad, c, rfl, ho, hx⟩
theorem row_ne {w : World} {b b' : Nat} {T T' : TypeId} {cs cs' : List Value} (h : Row w b T cs) (h' : Row w b' T' cs') (hT : T ≠ T') : b ≠ b' := fun e => by
  subst e
  unfold Row at h h'
  rw [h] at h'
  simp only [Option.some.injEq, Obj.cells.injEq] at h'
  exact hT h'.2.1
theorem _root_.Go.Proofs.YthggpjpmjhaidaaDoor.Mem.Cells.other {w w' : World} {ad : Option Addr} {n b : Nat} {f : Nat → Value} (h : Cells w ad n f) (ho : Only b w w') (hne : ∀ x, ad = some x → x.block ≠ b) : Cells w' ad n f := fun i hi => by
  obtain ⟨b', off, rfl, hlt, hc⟩ := h i hi
  have hb := ho.block b' (hne _ rfl)
  exact ⟨b', off, rfl, by rw [ho.size]; exact hlt, by rw [World.cell?_of_block (w := w) hb]; exact hc⟩
theorem nats_get {l : List Nat} {i : Nat} (h : i < l.length) : (nats l)[i]? = some (.int .i64 ((casts l).getD i 0)) := by
  rw [casts_get]
  unfold nats
  rw [List.getElem?_map, List.getD_eq_getElem?_getD, List.getElem?_eq_getElem h]
  rfl
theorem cells_row {w : World} {b : Nat} {l : List Nat} (h : Row w b 3 (nats l)) : Cells w (some ⟨b, 0, none⟩) l.length (fun i => .int .i64 ((casts l).getD i 0)) := fun i hi =>
  ⟨b, 0, rfl, h.lt, by rw [Nat.zero_add, h.cell, nats_get hi]⟩
theorem cells_own {w : World} {B : Nat} {ad : Option Addr} {c : Nat} {l : List Nat} (h : w.ownsRow B 3 1 (.slice ad l.length c) l.length (nats l)) : Cells w ad l.length (fun i => .int .i64 ((casts l).getD i 0)) := fun i hi => by
  rcases h.2 with ⟨_, h0⟩ | ⟨g, cap, cur, hv, hB, hg, hnc, hcm, hcs, ht⟩
  · omega
  · cases hv
    refine ⟨g, 0, rfl, (Array.getElem?_eq_some_iff.1 hg).1, ?_⟩
    have := own_cell h (nats_get hi)
    rwa [Nat.zero_add]

set_option maxHeartbeats 4000000 in
set_option maxRecDepth 100000 in
theorem rdecide_any (a : Option Addr) (n c : Nat) (ts : List Tl) (most : Nat) (w : World) (hT : Tiles w a n ts) (hz : zfault ts [(most : Int)] = 0) :
    Calls Tryd.prog 9 #[.slice a n c, .int .i64 most] w fun e w' => RDecR w.heap.size (decS (fun i => ts.getD i noTile) n most) e w' ∧ Below w.heap.size w w' := by
  obtain ⟨ht0, hW1, hW5⟩ := zfault_most hz
  obtain ⟨hn1, hn16, hts⟩ := tfault_zero ht0
  rw [hT.len] at hn1 hn16
  obtain ⟨bt, ot, rfl, hbt⟩ := hT.some (by omega)
  have HT := Lib.hid hT
  have HFL : Hid (∀ (wi hi : Nat) (ring : Bool) (w2 : World), Tiles w2 (some ⟨bt, ot, none⟩) n ts → 1 ≤ wi → wi ≤ 5 → 1 ≤ hi → hi ≤ 5 → Calls Tryd.prog 27 #[.slice (some ⟨bt, ot, none⟩) n c, .int .i64 wi, .int .i64 hi, .bool ring] w2 fun e w' => RFillR w2.heap.size (fillS (fun i => ts.getD i noTile) n wi hi ring) e w' ∧ Below w2.heap.size w2 w') :=
    fun wi hi ring w2 h2 g1 g2 g3 g4 => rfill_any (some ⟨bt, ot, none⟩) n c ts wi hi ring w2 h2 hn16 hn1 g1 g2 g3 g4
  clear hT hz hts ht0
  obtain ⟨T, hTT⟩ : ∃ T : Nat → Tl, T = fun i => ts.getD i noTile := ⟨_, rfl⟩
  have HTT := Lib.hid hTT
  rw [← hTT] at HFL ⊢
  clear hTT
  go_enter Tryd.func9, Tryd.ntmps9
  go_upto_region 1 with fail
  have HD1 := Lib.hid (row_alloc w 26 dec0)
  have HB1 : Hid (Below w.heap.size w (w.alloc (.cells dec0.toArray 26))) := (Below.refl _ _).alloc (Nat.le_refl _) _
  unfold dec0 at HD1 HB1
  generalize w.alloc (.cells [Value.bool false, .int .i64 0, .int .i64 0, .slice none 0 0].toArray 26) = w1 at *
  obtain ⟨b4, hb4⟩ : ∃ b, b = w.heap.size := ⟨_, rfl⟩
  have HB4 := Lib.hid hb4
  have hbt4 : bt < b4 := by omega
  rw [← hb4] at HD1 HB1 ⊢
  clear hb4 hbt
  go_wp2_with fail
  go_loopw [6] (fun u wr => ∃ N : Nat, 1 ≤ N ∧ N ≤ most + 1 ∧ u = .int .i64 N ∧ Hid (decS T n most = tr (sizeF T n) (most + 1 - N) N) ∧ Row wr b4 26 dec0 ∧ Below b4 w wr) (fun u _ => most + 1 - (intOf u).toNat)
  case atStart => exact ⟨1, Nat.le_refl _, by omega, rfl, rfl, HD1.out, HB1.out⟩
  case round =>
    obtain ⟨N, hN1, hN2, rfl, HN, hrow, hbel⟩ := hrel
    have HROW := Lib.hid hrow
    have HBEL := Lib.hid hbel
    clear hrow hbel HD1 HB1
    by_cases hlt : N ≤ most
    · obtain ⟨wo, rfl⟩ : ∃ wo : World, wo = wr := ⟨_, rfl⟩
      go_wp2_with fail
      go_loopw [7] (fun u wr => ∃ hi : Nat, 1 ≤ hi ∧ hi ≤ N + 1 ∧ u = .int .i64 hi ∧ Hid (allF T n N = tr (highF T n N) (N + 1 - hi) hi) ∧ Row wr b4 26 dec0 ∧ Below b4 w wr) (fun u _ => N + 1 - (intOf u).toNat)
      case atStart => exact ⟨1, Nat.le_refl _, by omega, rfl, rfl, HROW.out, HBEL.out⟩
      case round =>
        clear HROW HBEL
        obtain ⟨hi, hh1, hh2, rfl, HH, hrow, hbel⟩ := hrel
        have HROW := Lib.hid hrow
        have HBEL := Lib.hid hbel
        clear hrow hbel
        by_cases hlh : hi ≤ N
        · obtain ⟨wp, rfl⟩ : ∃ wo : World, wo = wr := ⟨_, rfl⟩
          go_wp2_with fail
          go_loopw [8] (fun u wr => ∃ wi : Nat, 1 ≤ wi ∧ wi ≤ N + 1 ∧ u = .int .i64 wi ∧ Hid (highF T n N hi = tr (wideF T n N hi) (N + 1 - wi) wi) ∧ Row wr b4 26 dec0 ∧ Below b4 w wr) (fun u _ => N + 1 - (intOf u).toNat)
          case atStart => exact ⟨1, Nat.le_refl _, by omega, rfl, rfl, HROW.out, HBEL.out⟩
          case round =>
            clear HROW HBEL
            obtain ⟨wi, hw1, hw2, rfl, HW, hrow, hbel⟩ := hrel
            have HROW := Lib.hid hrow
            have HBEL := Lib.hid hbel
            clear hrow hbel
            by_cases hlw : wi ≤ N
            · obtain ⟨p, hp⟩ : ∃ p : Bool, p = decide (wi = N) := ⟨_, rfl⟩
              obtain ⟨q, hq⟩ : ∃ q : Bool, q = decide (hi = N) := ⟨_, rfl⟩
              have p1 : ((wi : Int) == (N : Int)) = p ∧ ((wi : Int) != (N : Int)) = !p ∧ (wi == N) = p ∧ (wi != N) = !p := by
                subst hp
                by_cases h : wi = N
                · subst h; simp
                · have h' : ¬ (wi : Int) = (N : Int) := by omega
                  simp [h, h']
              have q1 : ((hi : Int) == (N : Int)) = q ∧ ((hi : Int) != (N : Int)) = !q ∧ (hi == N) = q ∧ (hi != N) = !q := by
                subst hq
                by_cases h : hi = N
                · subst h; simp
                · have h' : ¬ (hi : Int) = (N : Int) := by omega
                  simp [h, h']
              have HP := Lib.hid hp
              have HQ := Lib.hid hq
              clear hp hq
              obtain ⟨p1, p2, p3, p4⟩ := p1
              obtain ⟨q1, q2, q3, q4⟩ := q1
              by_cases hc : p = false ∧ q = false
              · obtain ⟨rfl, rfl⟩ := hc
                have HSK : Hid (wideF T n N hi wi = none) := wideF_skip (fun h => by
                  rcases h with h | h
                  · have := HP.out; rw [h] at this; simp at this
                  · have := HQ.out; rw [h] at this; simp at this)
                go_wp2_with fail
                go_roundw
                case rel => exact ⟨wi + 1, by omega, by omega, by go_num, HW.out.trans (tr_lt hlw HSK.out), HROW.out, HBEL.out⟩
                case measure => simp [intOf]; omega
              · have HC : Hid (wi = N ∨ hi = N) := by
                  cases p
                  · cases q
                    · exact absurd ⟨rfl, rfl⟩ hc
                    · exact .inr (of_decide_eq_true HQ.out.symm)
                  · exact .inl (of_decide_eq_true HP.out.symm)
                have hf := HFL.out wi hi true wr (HT.out.low HBEL.out hbt4) hw1 (by omega) hh1 (by omega)
                have HF := Lib.hid hf
                have hs4 : b4 ≤ wr.heap.size := by have := HROW.out.lt; omega
                clear hf
                cases p
                all_goals cases q
                case false.false => exact absurd ⟨rfl, rfl⟩ hc
                all_goals
                  clear hc
                  go_wp2_with fail
                  refine HF.out.mono ?_
                  rintro e2 w2 ⟨hd, hb2⟩
                  have HR2 := Lib.hid (HROW.out.keep hb2 HROW.out.lt)
                  have HB2 := Lib.hid (HBEL.out.trans (hb2.mono hs4))
                  clear hb2
                  cases hf : fillS T n wi hi true with
                  | none =>
                    rw [hf] at hd
                    unfold RFillR at hd
                    subst hd
                    have HFN := Lib.hid hf
                    clear hf
                    go_wp2_with fail
                    go_roundw
                    case rel => exact ⟨wi + 1, by omega, by omega, by go_num, HW.out.trans (tr_lt hlw (wideF_none HFN.out)), HR2.out, HB2.out⟩
                    case measure => simp [intOf]; omega
                  | some l =>
                    rw [hf] at hd
                    obtain ⟨g, rfl, hgB, hgr⟩ := hd
                    have HDEC : Hid (decS T n most = some ⟨true, wi, hi, l⟩) := HN.out.trans (tr_le hlt (sizeF_all (HH.out.trans (tr_le hlh (HW.out.trans (tr_le hlw (wideF_some HC.out hf)))))))
                    have HOW := Lib.hid hgr
                    have HGB := Lib.hid hgB
                    clear hf hgr hgB
                    go_wp2_with (refine Ops.wpList_store_arr rfl 26 _ _ rfl b4 rfl 26 _ [.bool true, .int .i64 (wi : Int), .int .i64 (hi : Int), .slice (some ⟨g, 0, none⟩) l.length l.length] rfl HR2.out rfl infoDec (by simp [Value.oneCell']) ?_; intro w3 hrow3 hon3)
                    have c0 := hrow3.cell 0
                    have c1 := hrow3.cell 1
                    have c2 := hrow3.cell 2
                    have c3 := hrow3.cell 3
                    dsimp only [List.getElem?_cons_succ, List.getElem?_cons_zero] at c0 c1 c2 c3
                    refine bodyPost_ret (v := .tuple #[.agg #[.bool true, .int .i64 (wi : Int), .int .i64 (hi : Int), .slice (some ⟨g, 0, none⟩) l.length l.length], .bool true]) (by simp [results, Tryd.results9, go_sem, c0, c1, c2, c3]) rfl ⟨?_, ?_⟩
                    · rw [← HB4.out]
                      exact rdecR_some (d := ⟨true, wi, hi, l⟩) HDEC.out (cells_row (HOW.out.other hon3 (row_ne HOW.out HR2.out (by decide)))) (fun x hx => by cases hx; have h1 := HGB.out; have h2 := HBEL.out.size; have h3 := HB4.out; show _ ≤ g; omega)
                    · rw [← HB4.out]
                      exact HB2.out.trans (hon3.below (Nat.le_refl _))
            · obtain rfl : wi = N + 1 := by omega
              have HHN : Hid (highF T n N hi = none) := by rw [HW.out, Nat.sub_self]; rfl
              have hlw' : ¬ ((N : Int) + 1 ≤ (N : Int)) := by omega
              go_wp2_with fail
              go_roundw
              case rel => exact ⟨hi + 1, by omega, by omega, by go_num, HH.out.trans (tr_lt hlh HHN.out), HROW.out, HBEL.out⟩
              case measure => simp [intOf]; omega
        · obtain rfl : hi = N + 1 := by omega
          have HAN : Hid (allF T n N = none) := by rw [HH.out, Nat.sub_self]; rfl
          have hf := HFL.out N N false wr (HT.out.low HBEL.out hbt4) hN1 (by omega) hN1 (by omega)
          have HF := Lib.hid hf
          have hs4 : b4 ≤ wr.heap.size := by have := HROW.out.lt; omega
          clear hf
          go_wp2_with fail
          refine HF.out.mono ?_
          rintro e2 w2 ⟨hd, hb2⟩
          have HR2 := Lib.hid (HROW.out.keep hb2 HROW.out.lt)
          have HB2 := Lib.hid (HBEL.out.trans (hb2.mono hs4))
          clear hb2
          cases hf : fillS T n N N false with
          | none =>
            rw [hf] at hd
            unfold RFillR at hd
            subst hd
            have HDEC : Hid (decS T n most = some ⟨false, N, N, []⟩) := HN.out.trans (tr_le hlt (sizeF_none HAN.out hf))
            clear hf
            go_wp2_with (refine Ops.wpList_store_arr rfl 26 _ _ rfl b4 rfl 26 _ [.bool false, .int .i64 (N : Int), .int .i64 (N : Int), .slice none 0 0] rfl HR2.out rfl infoDec (by simp [Value.oneCell']) ?_; intro w3 hrow3 hon3)
            have c0 := hrow3.cell 0
            have c1 := hrow3.cell 1
            have c2 := hrow3.cell 2
            have c3 := hrow3.cell 3
            dsimp only [List.getElem?_cons_succ, List.getElem?_cons_zero] at c0 c1 c2 c3
            refine bodyPost_ret (v := .tuple #[.agg #[.bool false, .int .i64 (N : Int), .int .i64 (N : Int), .slice none 0 0], .bool true]) (by simp [results, Tryd.results9, go_sem, c0, c1, c2, c3]) rfl ⟨?_, ?_⟩
            · exact rdecR_some (d := ⟨false, N, N, []⟩) HDEC.out (fun i hi => absurd hi (Nat.not_lt_zero _)) (fun x hx => by cases hx)
            · rw [← HB4.out]
              exact HB2.out.trans (hon3.below (Nat.le_refl _))
          | some l =>
            rw [hf] at hd
            obtain ⟨g, rfl, hgB, hgr⟩ := hd
            have HGO := Lib.hid (sizeF_go HAN.out hf)
            clear hf hgr hgB
            go_wp2_with fail
            go_roundw
            case rel => exact ⟨N + 1, by omega, by omega, by go_num, HN.out.trans (tr_lt hlt HGO.out), HR2.out, HB2.out⟩
            case measure => simp [intOf]; omega
    · obtain rfl : N = most + 1 := by omega
      have HDN : Hid (decS T n most = none) := by rw [HN.out, Nat.sub_self]; rfl
      have hlw' : ¬ ((most : Int) + 1 ≤ (most : Int)) := by omega
      go_wp2_with (refine Ops.wpList_store_arr rfl 26 _ _ rfl b4 rfl 26 _ dec0 rfl HROW.out rfl infoDec (by decide) ?_; intro w3 hrow3 hon3)
      have c0 := hrow3.cell 0
      have c1 := hrow3.cell 1
      have c2 := hrow3.cell 2
      have c3 := hrow3.cell 3
      unfold dec0 at c0 c1 c2 c3
      dsimp only [List.getElem?_cons_succ, List.getElem?_cons_zero] at c0 c1 c2 c3
      refine bodyPost_ret (v := .tuple #[.agg #[.bool false, .int .i64 0, .int .i64 0, .slice none 0 0], .bool false]) (by simp [results, Tryd.results9, go_sem, c0, c1, c2, c3]) rfl ⟨rdecR_none HDN.out, ?_⟩
      rw [← HB4.out]
      exact HBEL.out.trans (hon3.below (Nat.le_refl _))
end Wg
end Go.Proofs.YthggpjpmjhaidaaDoor
