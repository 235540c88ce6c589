/- WALK: the first primes: counter.primes, edenref5.Primes. -/
import Derived.Test.YtfhhnajnanlmgaaGreatDoorCrO
namespace Go.Proofs.YtfhhnajnanlmgaaGreatDoor
set_option linter.unusedSimpArgs false
set_option linter.unusedVariables false
open Go.RowKit
namespace Cr
open Tld Mem

/-- The number in a box. -/
def boxI (w : World) (v : Value) : Nat := match v with
  | .pointer (some a) => (intOf ((w.cell? a).getD undef)).toNat
  | _ => 0
theorem boxI_row {w : World} {b k : Nat} {T : TypeId} (h : Row w b T [.int .i64 (k : Nat)]) : boxI w (.pointer (some ⟨b, 0, none⟩)) = k := by
  have hc := h.cell 0
  dsimp only [List.getElem?_cons_zero] at hc
  unfold boxI
  dsimp only
  rw [hc]
  simp [intOf]
theorem own_fresh {w : World} {B s : Nat} {e : TypeId} {v : Value} {n : Nat} {xs : List Value} (h : w.ownsRow B e s v n xs) : v.ownBlock ≠ some w.heap.size := fun hb => by
  have := (h.lt _ hb).2
  omega
set_option maxHeartbeats 1000000 in
theorem ptest_any (z : Int) (k kb : Nat) (w : World) (hz : 2 ≤ z) (hz2 : z ≤ 107) (hk : w.cell? ⟨kb, 0, none⟩ = some (.int .i64 (k : Nat))) (hk2 : k ≤ 200) : Calls Tryz.prog 45 #[.int .i64 z, .pointer (some ⟨kb, 0, none⟩)] w fun e w' => e = .returned (.bool (decide ((k : Int).tmod z = 0))) ∧ w' = w := by
  have z1 : (z == 0) = false := beq_eq_false_iff_ne.2 (by omega)
  have z2 : ¬ z = 0 := by omega
  obtain ⟨r, hr⟩ : ∃ r, r = (k : Int).tmod z := ⟨_, rfl⟩
  have hr2 := hr.symm
  rw [hr2]
  have HR := Lib.hid hr
  clear hr
  by_cases h0 : r = 0
  · have d0 : (r == 0) = true := beq_iff_eq.2 h0
    have d1 := @decide_eq_true (r = 0) _ h0
    have D := Lib.hid d1
    clear h0 d1
    go_enter Tryz.func45, Tryz.ntmps45
    go_wp2_with fail
    go_ret
    exact ⟨by rw [D.out]; rfl, rfl⟩
  · have d0 : (r == 0) = false := beq_eq_false_iff_ne.2 h0
    have d1 := @decide_eq_false (r = 0) _ h0
    have D := Lib.hid d1
    clear h0 d1
    go_enter Tryz.func45, Tryz.ntmps45
    go_wp2_with fail
    go_ret
    exact ⟨by rw [D.out]; rfl, rfl⟩

set_option maxHeartbeats 2000000 in
theorem pindex_any (sa : Option Addr) (sn sc k kb : Nat) (zs : List Int) (w : World) (hZ : Ints.Is w sa sn zs) (hp : ∀ z ∈ zs, 2 ≤ z ∧ z ≤ 107) (hk : w.cell? ⟨kb, 0, none⟩ = some (.int .i64 (k : Nat))) (hk2 : k ≤ 200) :
    Calls Tryz.prog 42 #[.slice sa sn sc, .func (.func 45) #[] #[.pointer (some ⟨kb, 0, none⟩)]] w fun e w' => (∃ j : Int, e = .returned (.int .i64 j) ∧ decide (0 ≤ j) = zs.any (fun z => decide ((k : Int).tmod z = 0))) ∧ w = w' := by
  have HG := Lib.hid (fun z h1 h2 => ptest_any z k kb w h1 h2 hk hk2)
  have HP := Lib.hid hp
  have hs := hZ.le
  unfold maxLen at hs
  have HZ := Lib.hid hZ
  clear hZ hp hk
  obtain ⟨pr, hpr⟩ : ∃ pr : Int → Bool, pr = fun z => decide ((k : Int).tmod z = 0) := ⟨_, rfl⟩
  rw [← hpr]
  have HPR : Hid (∀ z, decide ((k : Int).tmod z = 0) = pr z) := fun z => by rw [hpr]
  clear hpr
  go_enter Tryz.func42, Tryz.ntmps42
  go_wp2
  go_loop [8] (fun v => ∃ i : Nat, i ≤ sn ∧ v = .int .i64 i ∧ (∀ k, k < i → pr (zs.getD k 0) = false)) (fun v => sn - (RowKit.intOf v).toNat)
  case atStart => exact ⟨0, Nat.zero_le _, rfl, fun k hk => absurd hk (Nat.not_lt_zero _)⟩
  case round =>
    obtain ⟨i, hi, rfl, hok⟩ := hrel
    have HOK := Lib.hid hok
    clear hok
    by_cases hlt : i < sn
    · obtain ⟨b, off', rfl, hbl, hc⟩ := HZ.out.cells i hlt
      dsimp only at hc
      have HY := Lib.hid (fun h => any_yes (zs := zs) (p := pr) (k := i) (by rw [HZ.out.len]; exact hlt) h)
      have HOK2 : Hid (pr (zs.getD i 0) = false → ∀ k, k < i + 1 → pr (zs.getD k 0) = false) := fun h k hk => by
        by_cases hki : k = i
        · subst hki; exact h
        · exact HOK.out k (by omega)
      have hm := HP.out (zs.getD i 0) (int_mem (by rw [HZ.out.len]; exact hlt))
      have hg2 := HG.out (zs.getD i 0) hm.1 hm.2
      rw [HPR.out] at hg2
      have HG2 := Lib.hid hg2
      clear hg2 hm
      generalize hz : zs.getD i 0 = z at *
      clear hz
      generalize hp : pr z = q at *
      clear hp
      go_wp2_with fail
      refine HG2.out.mono ?_
      rintro e1 w1 ⟨rfl, hw1⟩
      rw [hw1]
      cases q
      · go_wp2_with fail
        go_round
        case rel => exact ⟨i + 1, by omega, by go_num, HOK2.out (by first | rfl | trivial)⟩
        case measure => simp [RowKit.intOf]; omega
      · go_wp2_with fail
        go_ret
        exact ⟨⟨i, rfl, by rw [HY.out (by first | rfl | trivial)]; simp⟩, rfl⟩
    · have HN := Lib.hid (any_no (zs := zs) (p := pr) fun k hk => HOK.out k (by rw [HZ.out.len] at hk; omega))
      go_wp2
      go_ret
      exact ⟨⟨-1, rfl, by rw [HN.out]; rfl⟩, rfl⟩
theorem pcontains_any (sa : Option Addr) (sn sc k kb : Nat) (zs : List Int) (w : World) (hZ : Ints.Is w sa sn zs) (hp : ∀ z ∈ zs, 2 ≤ z ∧ z ≤ 107) (hk : w.cell? ⟨kb, 0, none⟩ = some (.int .i64 (k : Nat))) (hk2 : k ≤ 200) :
    Calls Tryz.prog 22 #[.slice sa sn sc, .func (.func 45) #[] #[.pointer (some ⟨kb, 0, none⟩)]] w fun e w' => e = .returned (.bool (zs.any (fun z => decide ((k : Int).tmod z = 0)))) ∧ w = w' := by
  have HI := Lib.hid (pindex_any sa sn sc k kb zs w hZ hp hk hk2)
  clear hZ hp hk
  generalize zs.any (fun z => decide ((k : Int).tmod z = 0)) = q at *
  go_enter Tryz.func22, Tryz.ntmps22
  go_wp2_with fail
  refine HI.out.mono ?_
  rintro e1 w1 ⟨⟨j, rfl, hj⟩, rfl⟩
  have HJ := Lib.hid hj
  clear hj
  go_wp2
  go_ret
  exact ⟨congrArg (fun b => Ending.returned (.bool b)) HJ.out, rfl⟩

set_option maxHeartbeats 4000000 in
set_option maxRecDepth 1000000 in
theorem primes_any (n : Nat) (w : World) (hn : n ≤ 28) :
    Calls Tryz.prog 30 #[.int .i64 n] w fun e w' => (∃ v, e = .returned v ∧ w'.ownsRow w.heap.size 3 1 v n ((prim n).map (Value.int .i64))) ∧ Below w.heap.size w w' := by
  obtain ⟨i0, hI0, hz0, hz1, hz2⟩ := info_parts infoIntN
  have HI0 := Lib.hid hI0
  have HZ0 := Lib.hid hz0
  have HZ1 := Lib.hid hz1
  have HZ2 := Lib.hid hz2
  clear hI0 hz0 hz1 hz2
  go_enter Tryz.func30, Tryz.ntmps30
  go_upto_region 2 with fail
  have HR : Hid (Row (w.alloc (.cells #[.int .i64 2] 3)) w.heap.size 3 [.int .i64 (2 : Nat)]) := Lib.hid (row_alloc w _ _)
  have HB : Hid (Below w.heap.size w (w.alloc (.cells #[.int .i64 2] 3))) := (Below.refl _ _).alloc (Nat.le_refl _) _
  have hce := HR.out.cell 0
  dsimp only [List.getElem?_cons_zero] at hce
  have HCE := Lib.hid hce
  have HO : Hid ((w.alloc (.cells #[.int .i64 2] 3)).ownsRow w.heap.size 3 1 (.slice none 0 0) 0 ((plz 2).map (Value.int .i64))) := own_nil _ _ _ _
  clear hce
  generalize w.alloc (.cells #[.int .i64 2] 3) = w1 at *
  obtain ⟨b1, hb1⟩ : ∃ b1, b1 = w.heap.size := ⟨_, rfl⟩
  have HB1 := Lib.hid hb1
  have HR : Hid (Row w1 b1 3 [.int .i64 (2 : Nat)]) := Lib.hid (by rw [hb1]; exact HR.out)
  rw [← hb1]
  clear hb1 HCE
  go_loopw [2, 3] (fun u v wr => ∃ k kb : Nat, 2 ≤ k ∧ k < 109 ∧ (plz k).length ≤ n ∧ v = .pointer (some ⟨kb, 0, none⟩) ∧ wr.ownsRow w.heap.size 3 1 u (plz k).length ((plz k).map (Value.int .i64)) ∧ Row wr kb 3 [.int .i64 (k : Nat)] ∧ u.ownBlock ≠ some kb ∧ Below w.heap.size w wr) (fun _ v wr => 200 - boxI wr v)
  case atStart => exact ⟨2, b1, by omega, by omega, Nat.zero_le _, rfl, HO.out, HR.out, (by simp [Value.ownBlock]), HB.out⟩
  case round =>
    clear HR HO HB
    obtain ⟨k, kb, hk2, hk9, hln, rfl, ho, hr, hne, hb⟩ := hrel
    obtain ⟨a, c, rfl⟩ := own_slice ho
    have HO := Lib.hid ho
    have HR := Lib.hid hr
    have HNE := Lib.hid hne
    have HB := Lib.hid hb
    have hce := hr.cell 0
    have hfr := hr.frozen 0
    dsimp only [List.getElem?_cons_zero] at hce
    clear ho hr hne hb
    have hbx : boxI wr (.pointer (some ⟨kb, 0, none⟩)) = k := boxI_row HR.out
    have HBXI := Lib.hid hbx
    clear hbx
    by_cases hlt : (plz k).length < n
    · have hk8 : k < 108 := pl_most k hk9 (by rw [← plz_len]; omega)
      have HK8 := Lib.hid hk8
      have hIs := own_is HO.out rfl (by unfold maxLen; omega)
      have hc := pcontains_any a (plz k).length c k kb (plz k) wr hIs (plz_pos hk9) hce (by omega)
      rw [plz_any hk9] at hc
      have HC := Lib.hid hc
      have HNX := Lib.hid (plz_next hk8 hk2)
      have hlen9 := hlt
      clear hIs hc hlt
      generalize hL : (plz k).length = L at *
      have HL := Lib.hid hL
      clear hL
      have hl9 : (L : Int) < (n : Int) := by omega
      go_wp2_with fail
      refine HC.out.mono ?_
      rintro e1 wc ⟨rfl, rfl⟩
      have hw99 : (0 : Int) ≤ (k : Int) := by omega
      cases hd : hasDiv k
      · have hnx := HNX.out
        rw [hd] at hnx
        have HNX := Lib.hid hnx
        clear hnx HNX
        have hnx : plz (k + 1) = plz k ++ [(k : Int)] := by
          rw [plz_next HK8.out hk2, hd]; rfl
        have HNX := Lib.hid hnx
        clear hnx hd
        go_upto_region 5 with fail
        have hnew := row_alloc wr 3 [.int .i64 (k : Nat)]
        have hbn : Below wr.heap.size wr (wr.alloc (.cells [.int .i64 (k : Nat)].toArray 3)) := (Below.refl _ _).alloc (Nat.le_refl _) _
        have HRa := Lib.hid (HR.out.keep hbn HR.out.lt)
        have HOa := Lib.hid (own_stays HO.out hbn)
        have HBa := Lib.hid (HB.out.trans (hbn.mono HB.out.size))
        have HCEL := Lib.hid (hnew.cell 0)
        have HSZ : Hid (w.heap.size ≤ (wr.alloc (.cells [.int .i64 (k : Nat)].toArray 3)).heap.size) := HBa.out.size
        clear hnew hbn
        go_upto_region 6 with (at_builtin; refine Ops.wpList_append1 rfl _ _ 32 rfl w.heap.size 3 i0 (.int .i64 0) 8 Tryz.underlying32 HI0.out HZ0.out rfl HZ1.out HZ2.out _ L _ rfl HOa.out ⟨wr.heap.size, 0, none⟩ 1 (.int .i64 (k : Nat)) rfl HCEL.out rfl ?c1 ?c2 HSZ.out ?_)
        case c1 => unfold maxLen; omega
        case c2 => omega
        intro ao' co' w3 hO3 hg3
        have HR3 : Hid (Row w3 kb 3 [.int .i64 (k : Nat)]) := Lib.hid ((hg3.block kb HRa.out.lt (fun x => HNE.out x.symm)).trans HRa.out)
        have HB3 := Lib.hid (HBa.out.grown hg3 HSZ.out (own_low HOa.out))
        have HO3 := Lib.hid hO3
        clear hO3 hg3 HRa HOa HBa HCEL HSZ hce hfr
        have hce := HR3.out.cell 0
        dsimp only [List.getElem?_cons_zero] at hce
        go_upto_region 3 with fail
        have hnew := row_alloc w3 3 [.int .i64 (k : Nat)]
        have hbn : Below w3.heap.size w3 (w3.alloc (.cells #[.int .i64 (k : Nat)] 3)) := (Below.refl _ _).alloc (Nat.le_refl _) _
        have HO5 := Lib.hid (own_stays HO3.out hbn)
        have HB5 := Lib.hid (HB3.out.trans (hbn.mono HB3.out.size))
        have HN5 := Lib.hid (own_fresh HO3.out)
        have HW5 : Hid (Row (w3.alloc (.cells #[.int .i64 (k : Nat)] 3)) w3.heap.size 3 [.int .i64 (k : Nat)]) := Lib.hid hnew
        have hge : w.heap.size ≤ w3.heap.size := HB3.out.size
        clear hnew hbn
        obtain ⟨nb, hnb⟩ : ∃ nb, nb = w3.heap.size := ⟨_, rfl⟩
        rw [← hnb] at HN5 HW5 hge ⊢
        clear hnb
        generalize w3.alloc (.cells #[.int .i64 (k : Nat)] 3) = w5 at *
        have g0 := HW5.out.cell 0
        have g1 := HW5.out.frozen 0
        dsimp only [List.getElem?_cons_zero] at g0
        have hw1 : IntKind.i64.wrap ((k : Int) + 1) = ((k + 1 : Nat) : Int) := by have := HK8.out; rw [IntKind.wrap_i64]; omega
        have hw2 : wrap64 ((k : Int) + 1) = ((k + 1 : Nat) : Int) := by have := HK8.out; unfold wrap64; omega
        obtain ⟨k', hk'⟩ : ∃ k', k' = k + 1 := ⟨_, rfl⟩
        rw [← hk'] at hw1 hw2
        have HKK := Lib.hid hk'
        clear hk'
        go_wp2_with fail
        have hset := HW5.out.set 0 (.int .i64 (k' : Nat))
        have hbs : Below w.heap.size w (w5.setCell ⟨nb, 0, none⟩ (.int .i64 (k' : Nat))) := HB5.out.setCell hge _
        have hos := own_only HO5.out (only_setCell w5 nb 0 (.int .i64 (k' : Nat))) HN5.out
        have hbx := boxI_row hset
        have hz : plz k' = plz k ++ [(k : Int)] := by rw [HKK.out]; exact HNX.out
        have hzl : (plz k').length = L + 1 := by rw [hz, List.length_append, HL.out]; rfl
        refine ⟨⟨k', nb, by have := HKK.out; omega, by have := HKK.out; have := HK8.out; omega, by rw [hzl]; omega, rfl, by rw [hzl, hz, map_snoc]; exact hos, hset, HN5.out, hbs⟩, ?_⟩
        rw [hbx, HBXI.out]
        have := HKK.out
        have := HK8.out
        omega
      · clear HNX
        have hnx : plz (k + 1) = plz k := by
          rw [plz_next HK8.out hk2, hd]; rfl
        have HNX := Lib.hid hnx
        clear hnx hd
        go_upto_region 3 with fail
        have hnew := row_alloc wr 3 [.int .i64 (k : Nat)]
        have hbn : Below wr.heap.size wr (wr.alloc (.cells #[.int .i64 (k : Nat)] 3)) := (Below.refl _ _).alloc (Nat.le_refl _) _
        have HO5 := Lib.hid (own_stays HO.out hbn)
        have HB5 := Lib.hid (HB.out.trans (hbn.mono HB.out.size))
        have HN5 := Lib.hid (own_fresh HO.out)
        have HW5 : Hid (Row (wr.alloc (.cells #[.int .i64 (k : Nat)] 3)) wr.heap.size 3 [.int .i64 (k : Nat)]) := Lib.hid hnew
        have hge : w.heap.size ≤ wr.heap.size := HB.out.size
        clear hnew hbn
        obtain ⟨nb, hnb⟩ : ∃ nb, nb = wr.heap.size := ⟨_, rfl⟩
        rw [← hnb] at HN5 HW5 hge ⊢
        clear hnb
        generalize wr.alloc (.cells #[.int .i64 (k : Nat)] 3) = w5 at *
        have g0 := HW5.out.cell 0
        have g1 := HW5.out.frozen 0
        dsimp only [List.getElem?_cons_zero] at g0
        have hw1 : IntKind.i64.wrap ((k : Int) + 1) = ((k + 1 : Nat) : Int) := by have := HK8.out; rw [IntKind.wrap_i64]; omega
        have hw2 : wrap64 ((k : Int) + 1) = ((k + 1 : Nat) : Int) := by have := HK8.out; unfold wrap64; omega
        obtain ⟨k', hk'⟩ : ∃ k', k' = k + 1 := ⟨_, rfl⟩
        rw [← hk'] at hw1 hw2
        have HKK := Lib.hid hk'
        clear hk'
        go_wp2_with fail
        have hset := HW5.out.set 0 (.int .i64 (k' : Nat))
        have hbs : Below w.heap.size w (w5.setCell ⟨nb, 0, none⟩ (.int .i64 (k' : Nat))) := HB5.out.setCell hge _
        have hos := own_only HO5.out (only_setCell w5 nb 0 (.int .i64 (k' : Nat))) HN5.out
        have hbx := boxI_row hset
        have hz : plz k' = plz k := by rw [HKK.out]; exact HNX.out
        refine ⟨⟨k', nb, by have := HKK.out; omega, by have := HKK.out; have := HK8.out; omega, by rw [hz, HL.out]; omega, rfl, by rw [hz, HL.out]; exact hos, hset, HN5.out, hbs⟩, ?_⟩
        rw [hbx, HBXI.out]
        have := HKK.out
        have := HK8.out
        omega
    · have hL2 : (plz k).length = n := by omega
      have hPL := plz_done hk9 hL2
      have HO2 : Hid (wr.ownsRow w.heap.size 3 1 (.slice a n c) n ((prim n).map (Value.int .i64))) := Lib.hid (by rw [← hPL, ← hL2]; exact HO.out)
      have hnl : ¬ ((plz k).length : Int) < (n : Int) := by omega
      rw [hL2] at hnl ⊢
      go_wp2_with fail
      go_ret
      exact ⟨⟨_, rfl, HO2.out⟩, HB.out⟩
/-- None up to a number divides. -/
def noDiv (k i : Nat) : Bool := (List.range i).all fun j => j < 2 || k % j != 0
theorem noDiv_two (k : Nat) : noDiv k 2 = true := by
  unfold noDiv
  rw [List.all_eq_true]
  intro j hj
  have := List.mem_range.1 hj
  simp; omega
theorem noDiv_next {k i : Nat} (h2 : 2 ≤ i) : noDiv k (i + 1) = (noDiv k i && (k % i != 0)) := by
  unfold noDiv
  rw [List.range_succ, List.all_append]
  simp only [List.all_cons, List.all_nil, Bool.and_true]
  congr 1
  rw [decide_eq_false (by omega), Bool.false_or]

set_option maxHeartbeats 4000000 in
set_option maxRecDepth 1000000 in
theorem Primes_any (n : Nat) (w : World) (hn : n ≤ 28) :
    Calls Tryz.prog 12 #[.int .i64 n] w fun e w' => (∃ v, e = .returned v ∧ w'.ownsRow w.heap.size 3 1 v n ((prim n).map (Value.int .i64))) ∧ Below w.heap.size w w' := by
  obtain ⟨i0, hI0, hz0, hz1, hz2⟩ := info_parts infoIntN
  have HI0 := Lib.hid hI0
  have HZ0 := Lib.hid hz0
  have HZ1 := Lib.hid hz1
  have HZ2 := Lib.hid hz2
  clear hI0 hz0 hz1 hz2
  go_enter Tryz.func12, Tryz.ntmps12
  go_wp2_with fail
  go_loopw [3, 4] (fun u v wr => ∃ k : Nat, 2 ≤ k ∧ k < 109 ∧ (plz k).length ≤ n ∧ v = .int .i64 (k : Nat) ∧ wr.ownsRow w.heap.size 3 1 u (plz k).length ((plz k).map (Value.int .i64)) ∧ Below w.heap.size w wr) (fun _ v _ => 200 - (RowKit.intOf v).toNat)
  case atStart => exact ⟨2, by omega, by omega, Nat.zero_le _, rfl, own_nil _ _ _ _, Below.refl _ _⟩
  case round =>
    obtain ⟨k, hk2, hk9, hln, rfl, ho, hb⟩ := hrel
    obtain ⟨a, c, rfl⟩ := own_slice ho
    have HO := Lib.hid ho
    have HB := Lib.hid hb
    clear ho hb
    by_cases hlt : (plz k).length < n
    · have hk8 : k < 108 := pl_most k hk9 (by rw [← plz_len]; omega)
      have HK8 := Lib.hid hk8
      have HIP := Lib.hid (isPr_eq k hk8 hk2)
      have HNX := Lib.hid (plz_next hk8 hk2)
      generalize hL : (plz k).length = L at *
      have HL := Lib.hid hL
      clear hL
      have hl9 : (L : Int) < (n : Int) := by omega
      have HLT := Lib.hid hlt
      clear hlt
      go_upto_block 2 with fail
      go_cut [5, 6] from 11 to 19 (fun u _ wx => u = .bool (isPr k) ∧ wx = wr)
      case first =>
        go_wp2_with fail
        go_loop [5, 6] (fun u v => ∃ i : Nat, 2 ≤ i ∧ i ≤ k ∧ v = .int .i64 (i : Nat) ∧ u = .bool (noDiv k i)) (fun _ v => k - (RowKit.intOf v).toNat)
        case atStart => exact ⟨2, by omega, hk2, rfl, by rw [noDiv_two]⟩
        case round =>
          obtain ⟨i, hi2, hik, rfl, rfl⟩ := hrel
          by_cases hlt2 : i < k
          · have hii : (i : Int) < (k : Int) := by omega
            have HI := Lib.hid hlt2
            have z1 : ((i : Int) == 0) = false := beq_eq_false_iff_ne.2 (by omega)
            have z2 : ¬ i = 0 := by omega
            obtain ⟨r, hr⟩ : ∃ r, r = k % i := ⟨_, rfl⟩
            have er : (k : Int).tmod (i : Int) = (r : Int) := by rw [Int.tmod_eq_emod_of_nonneg (by omega), hr]; exact (Int.natCast_emod _ _).symm
            have HND := Lib.hid (noDiv_next (k := k) hi2)
            rw [← hr] at HND
            generalize noDiv k i = q at *
            by_cases h0 : r = 0
            · have d0 : ((r : Int) == 0) = true := by rw [h0]; rfl
              have d1 := @decide_eq_true (r = 0) _ h0
              have HN2 : Hid (noDiv k (i + 1) = false) := Lib.hid (by rw [HND.out, h0]; simp)
              clear h0 hr
              go_wp2_with fail
              go_round
              case rel => exact ⟨i + 1, by omega, HI.out, by go_num, by rw [HN2.out]⟩
              case measure => have := HI.out; simp [RowKit.intOf]; omega
            · have d0 : ((r : Int) == 0) = false := beq_eq_false_iff_ne.2 (by omega)
              have d1 := @decide_eq_false (r = 0) _ h0
              have HN2 : Hid (noDiv k (i + 1) = q) := Lib.hid (by rw [HND.out]; simp [h0])
              clear h0 hr
              go_wp2_with fail
              go_round
              case rel => exact ⟨i + 1, by omega, HI.out, by go_num, by rw [HN2.out]⟩
              case measure => have := HI.out; simp [RowKit.intOf]; omega
          · have e : i = k := by omega
            subst e
            go_wp2_with fail
            go_meet
            case rel => exact ⟨rfl, rfl⟩
      case rest =>
      obtain ⟨rfl, hwc⟩ := hcut
      obtain rfl := hwc.symm
      rename_i hKK
      refine hKK _ _ ?_
      clear hKK
      obtain ⟨q, hq⟩ : ∃ q, q = isPr k := ⟨_, rfl⟩
      rw [← hq]
      have HQ := Lib.hid hq
      clear hq
      have hw1 : IntKind.i64.wrap ((k : Int) + 1) = ((k + 1 : Nat) : Int) := by have := HK8.out; rw [IntKind.wrap_i64]; omega
      have hw2 : wrap64 ((k : Int) + 1) = ((k + 1 : Nat) : Int) := by have := HK8.out; unfold wrap64; omega
      obtain ⟨k', hk'⟩ : ∃ k', k' = k + 1 := ⟨_, rfl⟩
      rw [← hk'] at hw1 hw2
      have HKK := Lib.hid hk'
      clear hk'
      cases q
      · have hd : hasDiv k = true := by have h1 := HIP.out; rw [← HQ.out] at h1; generalize hasDiv k = z at h1 ⊢; cases z <;> first | rfl | cases h1
        have hz : plz k' = plz k := by rw [HKK.out, HNX.out, hd]; rfl
        have HZ := Lib.hid hz
        clear hz hd
        go_wp2_with fail
        refine ⟨⟨k', by have := HKK.out; omega, by have := HKK.out; have := HK8.out; omega, by rw [HZ.out, HL.out]; have := HLT.out; omega, rfl, by rw [HZ.out, HL.out]; exact HO.out, HB.out⟩, ?_⟩
        have := HKK.out
        have := HK8.out
        simp [RowKit.intOf]; omega
      · have hd : hasDiv k = false := by have h1 := HIP.out; rw [← HQ.out] at h1; generalize hasDiv k = z at h1 ⊢; cases z <;> first | rfl | cases h1
        have hz : plz k' = plz k ++ [(k : Int)] := by rw [HKK.out, HNX.out, hd]; rfl
        have hzl : (plz k').length = L + 1 := by rw [hz, List.length_append, HL.out]; rfl
        have HZ := Lib.hid hz
        have HZL := Lib.hid hzl
        clear hz hzl hd
        have hnew := row_alloc wr 3 [.int .i64 (k : Nat)]
        have hbn : Below wr.heap.size wr (wr.alloc (.cells [.int .i64 (k : Nat)].toArray 3)) := (Below.refl _ _).alloc (Nat.le_refl _) _
        have HOa := Lib.hid (own_stays HO.out hbn)
        have HBa := Lib.hid (HB.out.trans (hbn.mono HB.out.size))
        have HCEL := Lib.hid (hnew.cell 0)
        have HSZ : Hid (w.heap.size ≤ (wr.alloc (.cells [.int .i64 (k : Nat)].toArray 3)).heap.size) := HBa.out.size
        have HLN : Hid (L < 28) := Lib.hid (by have := HLT.out; omega)
        clear hnew hbn
        go_upto_region 12 with (at_builtin; refine Ops.wpList_append1 rfl _ _ 32 rfl w.heap.size 3 i0 (.int .i64 0) 8 Tryz.underlying32 HI0.out HZ0.out rfl HZ1.out HZ2.out _ L _ rfl HOa.out ⟨wr.heap.size, 0, none⟩ 1 (.int .i64 (k : Nat)) rfl HCEL.out rfl ?c1 ?c2 HSZ.out ?_)
        case c1 => have := HLN.out; unfold maxLen; omega
        case c2 => have := HLN.out; omega
        intro ao' co' w3 hO3 hg3
        have HB3 := Lib.hid (HBa.out.grown hg3 HSZ.out (own_low HOa.out))
        have HO3 := Lib.hid hO3
        clear hO3 hg3 HOa HBa HCEL HSZ
        go_wp2_with fail
        refine ⟨⟨k', by have := HKK.out; omega, by have := HKK.out; have := HK8.out; omega, by rw [HZL.out]; have := HLT.out; omega, rfl, by rw [HZL.out, HZ.out, map_snoc]; exact HO3.out, HB3.out⟩, ?_⟩
        have := HKK.out
        have := HK8.out
        simp [RowKit.intOf]; omega
    · have hL2 : (plz k).length = n := by omega
      have hPL := plz_done hk9 hL2
      have HO2 : Hid (wr.ownsRow w.heap.size 3 1 (.slice a n c) n ((prim n).map (Value.int .i64))) := Lib.hid (by rw [← hPL, ← hL2]; exact HO.out)
      have hnl : ¬ ((plz k).length : Int) < (n : Int) := by omega
      rw [hL2] at hnl ⊢
      go_wp2_with fail
      go_ret
      exact ⟨⟨_, rfl, HO2.out⟩, HB.out⟩
end Cr
end Go.Proofs.YtfhhnajnanlmgaaGreatDoor
