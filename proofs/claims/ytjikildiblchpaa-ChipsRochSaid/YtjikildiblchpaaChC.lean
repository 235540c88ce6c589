/- WALK: chips.check: what is wrong with a graph and divisors. -/
import Derived.Test.YtjikildiblchpaaGfP
namespace Go.Proofs.Ytjikildiblchpaa
set_option linter.unusedSimpArgs false
set_option linter.unusedVariables false
open Go.RowKit Go.Lib
namespace Ch
open Tld Mem Rt

/-- A number too great for a divisor. -/
def dbad (z : Int) : Bool := decide (z < -1000 ∨ 1000 < z)
set_option maxHeartbeats 1000000 in
theorem dtest_any (z : Int) (w : World) : Calls Try.prog 36 #[.int .i64 z] w fun e w' => e = .returned (.bool (dbad z)) ∧ w = w' := by
  go_enter Try.func36, Try.ntmps36
  by_cases h0 : z < -1000
  · have : dbad z = true := by unfold dbad; simp; omega
    rw [this]
    go_wp2
    go_ret
    exact ⟨rfl, rfl⟩
  · by_cases h1 : 1000 < z
    · have : dbad z = true := by unfold dbad; simp; omega
      rw [this]
      go_wp2
      go_ret
      exact ⟨rfl, rfl⟩
    · have : dbad z = false := by unfold dbad; simp; omega
      rw [this]
      go_wp2
      go_ret
      exact ⟨rfl, rfl⟩
set_option maxHeartbeats 2000000 in
theorem dindex_any (sa : Option Addr) (sn sc : Nat) (zs : List Int) (w : World) (hz : zs.length = sn) (hs : sn ≤ 9223372036854775807) (hZ : Cells w sa sn (fun i => .int .i64 (zs.getD i 0))) :
    Calls Try.prog 46 #[.slice sa sn sc, .func (.func 36) #[] #[]] w fun e w' => (∃ k : Int, e = .returned (.int .i64 k) ∧ decide (0 ≤ k) = zs.any dbad) ∧ w = w' := by
  have HZ := Lib.hid hZ
  have HG := Lib.hid (fun z => dtest_any z w)
  have HZL := Lib.hid hz
  clear hZ hz
  go_enter Try.func46, Try.ntmps46
  go_wp2
  go_loop [8] (fun v => ∃ i : Nat, i ≤ sn ∧ v = .int .i64 i ∧ (∀ k, k < i → dbad (zs.getD k 0) = false)) (fun v => sn - (intOf v).toNat)
  case atStart => exact ⟨0, Nat.zero_le _, rfl, fun k hk => absurd hk (Nat.not_lt_zero _)⟩
  case round =>
    obtain ⟨i, hi, rfl, hok⟩ := hrel
    have HOK := Lib.hid hok
    clear hok
    by_cases hlt : i < sn
    · obtain ⟨b, off', rfl, hbl, hc⟩ := HZ.out i hlt
      dsimp only at hc
      have HY := Lib.hid (fun h => any_yes (zs := zs) (p := dbad) (k := i) (by rw [HZL.out]; exact hlt) h)
      have HOK2 : Hid (dbad (zs.getD i 0) = false → ∀ k, k < i + 1 → dbad (zs.getD k 0) = false) := fun h k hk => by
        by_cases hki : k = i
        · subst hki; exact h
        · exact HOK.out k (by omega)
      have HG2 := Lib.hid (HG.out (zs.getD i 0))
      generalize hz : zs.getD i 0 = z at *
      clear hz
      generalize hp : dbad z = q at *
      clear hp
      go_wp2_with fail
      refine HG2.out.mono ?_
      rintro e1 w1 ⟨rfl, rfl⟩
      cases q
      · go_wp2_with fail
        go_round
        case rel => exact ⟨i + 1, by omega, by go_num, HOK2.out (by first | rfl | trivial)⟩
        case measure => simp [intOf]; omega
      · go_wp2_with fail
        go_ret
        exact ⟨⟨i, rfl, by rw [HY.out (by first | rfl | trivial)]; simp⟩, rfl⟩
    · have HN := Lib.hid (any_no (zs := zs) (p := dbad) fun k hk => HOK.out k (by rw [HZL.out] at hk; omega))
      go_wp2
      go_ret
      exact ⟨⟨-1, rfl, by rw [HN.out]; rfl⟩, rfl⟩
theorem dcontains_any (sa : Option Addr) (sn sc : Nat) (zs : List Int) (w : World) (hz : zs.length = sn) (hs : sn ≤ 9223372036854775807) (hZ : Cells w sa sn (fun i => .int .i64 (zs.getD i 0))) :
    Calls Try.prog 35 #[.slice sa sn sc, .func (.func 36) #[] #[]] w fun e w' => e = .returned (.bool (zs.any dbad)) ∧ w = w' := by
  have HI := Lib.hid (dindex_any sa sn sc zs w hz hs hZ)
  clear hZ
  go_enter Try.func35, Try.ntmps35
  go_wp2_with fail
  refine HI.out.mono ?_
  rintro e1 w1 ⟨⟨k, rfl, hk⟩, rfl⟩
  have HK := Lib.hid hk
  clear hk
  go_wp2
  go_ret
  exact ⟨congrArg (fun b => Ending.returned (.bool b)) HK.out, rfl⟩

/-- What is wrong with a divisor, by the document and by the program. -/
def dfault (p : Nat) (zs : List Int) : Int := if zs.length ≠ p then 3 else if zs.any dbad = true then 1 else 0
def lchk (p : Nat) : List (List Int) → Int
  | [] => 0
  | z :: l => if dfault p z ≠ 0 then dfault p z else lchk p l
/-- What is wrong with a graph and divisors. -/
noncomputable def chfault (P : Int) (m : Nat) (f : Nat → Nat → Int) (L : List (List Int)) : Int := by
  classical exact if gfault P m f ≠ 0 then gfault P m f else lchk P.toNat L
theorem chfault_g {P : Int} {m : Nat} {f : Nat → Nat → Int} {L : List (List Int)} (h : gfault P m f ≠ 0) : chfault P m f L = gfault P m f := by unfold chfault; rw [if_pos h]
theorem chfault_l {P : Int} {m : Nat} {f : Nat → Nat → Int} {L : List (List Int)} (h : gfault P m f = 0) : chfault P m f L = lchk P.toNat L := by unfold chfault; rw [if_neg (fun x => x h)]
/-- Lists that are handed on as one. -/
def Lst (w : World) (la : Option Addr) (L : List (List Int)) (A : Nat → Option Addr) (C : Nat → Nat) : Prop := ∀ j, j < L.length → ∃ b off, la = some ⟨b, off, none⟩ ∧ w.cell? ⟨b, off + j, none⟩ = some (.slice (A j) (L.getD j []).length (C j)) ∧ Ints.Is w (A j) (L.getD j []).length (L.getD j [])
theorem Lst.keep {w w' : World} {la : Option Addr} {L : List (List Int)} {A : Nat → Option Addr} {C : Nat → Nat} (h : Lst w la L A C) (hb : Below w.heap.size w w') : Lst w' la L A C := fun j hj => by
  obtain ⟨b, off, h1, h2, h3⟩ := h j hj
  exact ⟨b, off, h1, cell_keep h2 hb, h3.keep hb⟩
/-- What check gives. -/
def ChkPost (P : Int) (m : Nat) (f : Nat → Nat → Int) (L : List (List Int)) (w : World) (e : Ending) (w' : World) : Prop :=
  ((chfault P m f L ≠ 0 ∧ e = .returned (.tuple #[.pointer none, errV (chfault P m f L)])) ∨ (chfault P m f L = 0 ∧ ∃ bn, e = .returned (.tuple #[.pointer (some ⟨bn, 0, none⟩), .nilIface]) ∧ Net w' bn P.toNat (fun a b => btw f a b m) (fun a => deg f a m))) ∧ Below w.heap.size w w'
theorem chk_bad {P : Int} {m : Nat} {f : Nat → Nat → Int} {L : List (List Int)} {w w' : World} {z : Int} (h : chfault P m f L = z) (h0 : z ≠ 0) (hb : Below w.heap.size w w') : ChkPost P m f L w (.returned (.tuple #[.pointer none, .iface 59 (.int .i64 z)])) w' := by
  refine ⟨.inl ⟨by rw [h]; exact h0, ?_⟩, hb⟩
  rw [h, errV_some h0]
theorem drop_at {L : List (List Int)} {i : Nat} (h : i < L.length) : L.drop i = L.getD i [] :: L.drop (i + 1) := by
  rw [List.drop_eq_getElem_cons h, List.getD_eq_getElem?_getD, List.getElem?_eq_getElem h]
  rfl

set_option maxHeartbeats 8000000 in
set_option maxRecDepth 1000000 in
theorem chk_any (P : Int) (ea : Option Addr) (m ec : Nat) (f : Nat → Nat → Int) (la : Option Addr) (ln lc : Nat) (L : List (List Int)) (A : Nat → Option Addr) (C : Nat → Nat) (w : World) (hE : Mem.Rows w ea m 3 (fun i j => .int .i64 (f i j))) (hm : m ≤ 9223372036854775807) (hL : Lst w la L A C) (hl : L.length = ln) (hl2 : ln ≤ 2) :
    Calls Try.prog 22 #[.agg #[.int .i64 P, .slice ea m ec], .slice la ln lc] w (ChkPost P m f L w) := by
  have HE := Lib.hid hE
  have HLS := Lib.hid hL
  have HLL := Lib.hid hl
  clear hE hL hl
  go_enter Try.func22, Try.ntmps22
  go_upto_region 1 with fail
  have hR : Row (w.alloc (.cells #[.int .i64 P, .slice ea m ec] 24)) w.heap.size 24 [.int .i64 P, .slice ea m ec] := row_alloc w _ _
  have hB : Below w.heap.size w (w.alloc (.cells #[.int .i64 P, .slice ea m ec] 24)) := (Below.refl _ _).alloc (Nat.le_refl _) _
  have HG := Lib.hid hR
  have HB := Lib.hid hB
  clear hR hB
  generalize w.alloc (.cells #[.int .i64 P, .slice ea m ec] 24) = w1 at *
  have l1 := row_range HG.out
  go_wp2_with (refine wpList_load_mid rfl 24 _ rfl w.heap.size 0 rfl _ _ l1 Try.underlying24 rfl infoGraph ?_)
  clear l1
  refine (net_any P ea m ec f w1 (rows_keep HE.out HB.out) hm).mono ?_
  rintro e1 w2 ⟨⟨hf, rfl⟩ | ⟨hf, bn, rfl, hnet⟩, hb2⟩
  · have HX : Hid (ChkPost P m f L w (.returned (.tuple #[.pointer none, errV (gfault P m f)])) w2) := ⟨.inl ⟨by rw [chfault_g hf]; exact hf, by rw [chfault_g hf]⟩, HB.out.trans (hb2.mono HB.out.size)⟩
    rw [errV_some hf] at HX ⊢
    clear hf hb2
    go_wp2_with fail
    go_ret2
    exact HX.out
  · have HF := Lib.hid hf
    have HN := Lib.hid hnet
    have HG := Lib.hid (HG.out.keep hb2 HG.out.lt)
    have HB := Lib.hid (HB.out.trans (hb2.mono HB.out.size))
    have HLS := Lib.hid (HLS.out.keep HB.out)
    obtain ⟨p, rfl, hok⟩ := gfault_zero hf
    have HCL : Hid (chfault (p : Int) m f L = lchk p L) := by
      show _ = _
      rw [chfault_l hf, Int.toNat_natCast]
    have hp10 := hok.p10
    have hp1 := hok.p1
    clear hf hnet hb2 hok
    go_wp2_with fail
    go_loopw [20] (fun z wr => ∃ j : Nat, j ≤ ln ∧ z = .int .i64 (j : Int) ∧ lchk p L = lchk p (L.drop j) ∧ wr = w2) (fun z _ => ln - (intOf z).toNat)
    case atStart => exact ⟨0, Nat.zero_le _, rfl, rfl, rfl⟩
    case round =>
      obtain ⟨j, hj, rfl, hc, rfl⟩ := hrel
      have HC := Lib.hid hc
      clear hc
      by_cases hlt : j < ln
      · have hj2 : (j : Int) < (ln : Int) := by omega
        obtain ⟨b, off, rfl, h2, h3⟩ := HLS.out j (by rw [HLL.out]; exact hlt)
        have HD := Lib.hid (drop_at (L := L) (i := j) (by rw [HLL.out]; exact hlt))
        have HNX : Hid (lchk p L = if dfault p (L.getD j []) ≠ 0 then dfault p (L.getD j []) else lchk p (L.drop (j + 1))) := by
          show _ = _
          rw [HC.out, HD.out]
          rfl
        have HI := Lib.hid h3
        have hle := h3.le
        unfold maxLen at hle
        have g0 := HG.out.cell 0
        dsimp only [List.getElem?_cons_zero] at g0
        obtain ⟨zs, hzs⟩ : ∃ z, z = L.getD j [] := ⟨_, rfl⟩
        rw [← hzs] at h2 HNX HI hle
        clear hzs h3
        obtain ⟨n, hn⟩ : ∃ n, n = zs.length := ⟨_, rfl⟩
        have HZN := Lib.hid hn
        rw [← hn] at h2 HI hle
        clear hn
        obtain ⟨xa, hxa⟩ : ∃ x, x = A j := ⟨_, rfl⟩
        rw [← hxa] at h2 HI
        obtain ⟨xc, hxc⟩ : ∃ x, x = C j := ⟨_, rfl⟩
        rw [← hxc] at h2
        clear hxa hxc
        by_cases hnp : n = p
        · have b1 : ((n : Int) != (p : Int)) = false := by rw [hnp]; exact bne_self_eq_false _
          have HCT := Lib.hid (dcontains_any xa n xc zs wr HI.out.len (by omega) HI.out.cells)
          have HDF : Hid (dfault p zs = if zs.any dbad = true then 1 else 0) := by
            show _ = _
            unfold dfault
            rw [if_neg (fun h => h (by rw [← HZN.out]; exact hnp))]
          generalize zs.any dbad = q at *
          clear hnp
          go_wp2_with fail
          refine HCT.out.mono ?_
          rintro e1 w3 ⟨rfl, rfl⟩
          cases q
          · have HNX2 : Hid (lchk p L = lchk p (L.drop (j + 1))) := by
              show _ = _
              rw [HNX.out, HDF.out]
              rfl
            clear h2 HCT
            go_wp2_with fail
            go_roundw
            case rel => exact ⟨j + 1, by omega, by go_num, HNX2.out, by trivial⟩
            case measure => simp [intOf]; omega
          · have HX : Hid (ChkPost (p : Int) m f L w (.returned (.tuple #[.pointer none, .iface 59 (.int .i64 1)])) wr) := chk_bad (by rw [HCL.out, HNX.out, HDF.out, if_pos rfl, if_pos (by decide)]) (by decide) HB.out
            clear h2 HCT
            go_wp2_with fail
            go_ret2
            exact HX.out
        · have b1 : ((n : Int) != (p : Int)) = true := by rw [bne_iff_ne]; omega
          have HDF : Hid (dfault p zs = 3) := by
            show _ = _
            unfold dfault
            rw [if_pos (fun h => hnp (by rw [HZN.out]; exact h))]
          have HX : Hid (ChkPost (p : Int) m f L w (.returned (.tuple #[.pointer none, .iface 59 (.int .i64 3)])) wr) := chk_bad (by rw [HCL.out, HNX.out, HDF.out, if_pos (by decide)]) (by decide) HB.out
          clear hnp
          go_wp2_with fail
          go_ret2
          exact HX.out
      · obtain rfl : j = ln := by omega
        have HX : Hid (ChkPost (p : Int) m f L w (.returned (.tuple #[.pointer (some ⟨bn, 0, none⟩), .nilIface])) wr) := ⟨.inr ⟨by rw [HCL.out, HC.out, List.drop_of_length_le (by rw [HLL.out]; exact Nat.le_refl _)]; rfl, bn, rfl, HN.out⟩, HB.out⟩
        go_wp2_with fail
        go_ret2
        exact HX.out
end Ch
end Go.Proofs.Ytjikildiblchpaa
