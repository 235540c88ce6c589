/- WALK: edenref2.Keeps. -/
import Derived.Test.YtahhhbdnhimbfaaDoorSmA
import Derived.Test.YtahhhbdnhimbfaaDoorSmQ
namespace Go.Proofs.YtahhhbdnhimbfaaDoor
set_option linter.unusedSimpArgs false
set_option linter.unusedVariables false
open Go.RowKit
namespace Ln
open Tld Mem Sm

theorem infoBool : (Tryd.prog.info? 4).map (fun i => (i.zero, i.size, i.bytes)) = some (some (.bool false), 1, 1) := by kernel_rfl
def bools (n : Nat) (f : Nat → Bool) : List Value := (List.range n).map fun k => Value.bool (f k)
def ints (n : Nat) (f : Nat → Int) : List Value := (List.range n).map fun k => Value.int .i64 (f k)
theorem bools_get {n k : Nat} {f : Nat → Bool} (h : k < n) : (bools n f)[k]? = some (.bool (f k)) := by simp [bools, h]
theorem ints_get {n k : Nat} {f : Nat → Int} (h : k < n) : (ints n f)[k]? = some (.int .i64 (f k)) := by simp [ints, h]
theorem bools_set {n g : Nat} {f : Nat → Bool} : (bools n f).set g (.bool true) = bools n (setB f g) := by
  apply List.ext_getElem (by simp [bools])
  intro k h1 h2
  simp [bools, setB, List.getElem_set]
  by_cases e : k = g
  · subst e; simp
  · have e2 : ¬ g = k := fun h => e h.symm
    simp [e, e2]
theorem ints_set {n g : Nat} {f : Nat → Int} {v : Int} : (ints n f).set g (.int .i64 v) = ints n (setH f g v) := by
  apply List.ext_getElem (by simp [ints])
  intro k h1 h2
  simp [ints, setH, List.getElem_set]
  by_cases e : k = g
  · subst e; simp
  · have e2 : ¬ g = k := fun h => e h.symm
    simp [e, e2]
theorem bools_rep {n : Nat} : List.replicate n (Value.bool false) = bools n (fun _ => false) := by
  apply List.ext_getElem (by simp [bools])
  intro k h1 h2
  simp [bools]
theorem ints_rep {n : Nat} : List.replicate n (Value.int .i64 0) = ints n (fun _ => 0) := by
  apply List.ext_getElem (by simp [ints])
  intro k h1 h2
  simp [ints]
def natsI (L : List Nat) : List Int := L.map fun p => ((p : Nat) : Int)
theorem natsI_len {L : List Nat} : (natsI L).length = L.length := by simp [natsI]
theorem natsI_snoc {L : List Nat} {g : Nat} : (natsI (L ++ [g])).map (Value.int .i64) = (natsI L).map (Value.int .i64) ++ [.int .i64 ((g : Nat) : Int)] := by simp [natsI]
theorem natsI_get {L : List Nat} {k : Nat} (h : k < L.length) : (natsI L).getD k 0 = ((L.getD k 0 : Nat) : Int) := by
  rw [List.getD_eq_getElem?_getD, List.getD_eq_getElem?_getD]
  simp [natsI, h]
/-- What lies ahead of the first i places is known .. -/
def Cl (st M : Nat) (L : List Nat) (Kn : Nat → Bool) (i : Nat) : Prop := ∀ k, k < i → ∀ c, c < st → Kn ((L.getD k 0 * st + c) % M) = true
/-- .. and ahead of one, by the first j cells. -/
def Cl1 (st M : Nat) (Kn : Nat → Bool) (p j : Nat) : Prop := ∀ c, c < j → Kn ((p * st + c) % M) = true
theorem setB_keep {Kn : Nat → Bool} {g q : Nat} (h : Kn q = true) : setB Kn g q = true := by
  unfold setB
  split
  · rfl
  · exact h
theorem Cl.zero {st M : Nat} {L : List Nat} {Kn : Nat → Bool} : Cl st M L Kn 0 := fun k hk => absurd hk (Nat.not_lt_zero _)
theorem Cl1.zero {st M p : Nat} {Kn : Nat → Bool} : Cl1 st M Kn p 0 := fun k hk => absurd hk (Nat.not_lt_zero _)
theorem Cl.next {st M i p : Nat} {L : List Nat} {Kn : Nat → Bool} (h : Cl st M L Kn i) (h1 : Cl1 st M Kn p st) (hp : L.getD i 0 = p) : Cl st M L Kn (i + 1) := fun k hk c hc => by
  by_cases e : k = i
  · subst e; rw [hp]; exact h1 c hc
  · exact h k (by omega) c hc
theorem Cl.step {st M i g : Nat} {L : List Nat} {Kn : Nat → Bool} (h : Cl st M L Kn i) (hi : i ≤ L.length) : Cl st M (L ++ [g]) (setB Kn g) i := fun k hk c hc => by
  rw [getD_snoc, if_pos (by omega)]
  exact setB_keep (h k hk c hc)
theorem Cl1.same {st M p j g : Nat} {Kn : Nat → Bool} (h : Cl1 st M Kn p j) (hg : g = (p * st + j) % M) (hk : Kn g = true) : Cl1 st M Kn p (j + 1) := fun c hc => by
  by_cases e : c = j
  · subst e; rw [← hg]; exact hk
  · exact h c (by omega)
theorem Cl1.step {st M p j g : Nat} {Kn : Nat → Bool} (h : Cl1 st M Kn p j) (hg : g = (p * st + j) % M) : Cl1 st M (setB Kn g) p (j + 1) := fun c hc => by
  by_cases e : c = j
  · subst e; rw [← hg]; unfold setB; rw [if_pos rfl]
  · exact setB_keep (h c (by omega))
/-- The heights agree at the first p places .. -/
def Pd (W : Nat → Int) (t : Nat → Nat) (st M : Nat) (H : Nat → Int) (p : Nat) : Prop := ∀ p', p' < p → ∀ c, c < st → H ((p' * st + c) % M) = H p' + W (t (p' * st + c)) - W c
/-- .. and at one, by the first j cells. -/
def Pd1 (W : Nat → Int) (t : Nat → Nat) (st M : Nat) (H : Nat → Int) (p j : Nat) : Prop := ∀ c, c < j → H ((p * st + c) % M) = H p + W (t (p * st + c)) - W c
theorem Pd.next {W : Nat → Int} {t : Nat → Nat} {st M p : Nat} {H : Nat → Int} (h : Pd W t st M H p) (h1 : Pd1 W t st M H p st) : Pd W t st M H (p + 1) := fun k hk c hc => by
  by_cases e : k = p
  · subst e; exact h1 c hc
  · exact h k (by omega) c hc
/-- The heights agree at one place, by one cell. -/
def At1 (W : Nat → Int) (t : Nat → Nat) (st M : Nat) (H : Nat → Int) (p c : Nat) : Prop := H ((p * st + c) % M) = H p + W (t (p * st + c)) - W c
theorem Pd1.next {W : Nat → Int} {t : Nat → Nat} {st M p j : Nat} {H : Nat → Int} (h : Pd1 W t st M H p j) (hk : At1 W t st M H p j) : Pd1 W t st M H p (j + 1) := fun c hc => by
  by_cases e : c = j
  · subst e; exact hk
  · exact h c (by omega)
theorem row_grownB {w w' : World} {B : Nat} {e T : TypeId} {v : Value} {n p : Nat} {xs cs : List Value} (h : w.ownsRow B e 1 v n xs) (hg : w.grownBy w' v.ownBlock) (hR : Row w p T cs) (hp : p < B) : Row w' p T cs :=
  (hg.block p hR.lt (fun e => by have := own_low h p e.symm; omega)).trans hR
theorem own_neB {w : World} {B : Nat} {e : TypeId} {v : Value} {n p : Nat} {xs : List Value} (h : w.ownsRow B e 1 v n xs) (hp : p < B) : v.ownBlock ≠ some p := fun e => by have := own_low h p e; omega

set_option maxHeartbeats 8000000 in
set_option maxRecDepth 1000000 in
theorem keeps2_any (K B S : Int) (st ra : Nat) (ta : Option Addr) (tn tc : Nat) (tz : List Int) (tu : ByteArray) (sa : Option Addr) (sn sc : Nat) (sz : List Int) (w : World) (hT : Ints.Is w ta tn tz) (ha : lfault K B S st ra tz tu = 0) (hS : Ints.Is w sa sn sz) (hsn : sn = st) (hs : ∀ s, -1000 ≤ sz.getD s 0 ∧ sz.getD s 0 ≤ 1000) (kk : Bool) (hk : kk = true ↔ KeptW (fun s => sz.getD s 0) (wf tz) st (2 * ra + 1)) :
    Calls Tryd.prog 17 #[.agg #[.int .i64 K, .int .i64 B, .int .i64 S, .int .i64 st, .int .i64 ra, .slice ta tn tc, .string tu], .slice sa sn sc] w fun e w' => e = .returned (.bool kk) ∧ Below w.heap.size w w' := by
  obtain ⟨s', r', es, er, h2, h4, hr5, htn, htl, htz⟩ := (lfault_01 ha).nat hT.len
  obtain rfl : st = s' := by omega
  obtain rfl : ra = r' := by omega
  clear es er
  obtain ⟨i0, hI0, hz0, hz1, hz2⟩ := info_parts infoIntN
  obtain ⟨j0, hJ0, hy0, hy1, hy2⟩ := info_parts infoBool
  have HI0 := Lib.hid hI0
  have HZ0 := Lib.hid hz0
  have HZ1 := Lib.hid hz1
  have HZ2 := Lib.hid hz2
  have HJ0 := Lib.hid hJ0
  have HY0 := Lib.hid hy0
  have HY1 := Lib.hid hy1
  have HY2 := Lib.hid hy2
  have HT := Lib.hid hT
  have HS := Lib.hid hS
  have HSB := Lib.hid hs
  have HTV := Lib.hid (wf_at (zs := tz) fun z hz => (htz z hz).1)
  have HTL := Lib.hid (wf_lt (st := st) (by omega) htz)
  obtain ⟨m, hm⟩ : ∃ m, m = 2 * ra := ⟨_, rfl⟩
  obtain ⟨M, hM⟩ : ∃ M, M = st ^ m := ⟨_, rfl⟩
  have hM1 : 0 < M := by rw [hM]; exact Nat.pow_pos (by omega)
  have htM : tn = M * st := by rw [htn, hM, ← Nat.pow_succ, hm]
  have hM2 : M ≤ 2048 := by
    have : M * 2 ≤ M * st := Nat.mul_le_mul_left _ h2
    omega
  have hq : ((tn : Nat) : Int).tdiv (st : Int) = (M : Int) := by
    rw [htM]
    have : ((M * st : Nat) : Int).tdiv (st : Int) = ((M * st / st : Nat) : Int) := Int.ofNat_tdiv _ _
    rw [this, Nat.mul_div_cancel _ (by omega)]
  rw [← hm] at hk
  obtain ⟨t, ht⟩ : ∃ t, t = wf tz := ⟨_, rfl⟩
  obtain ⟨W, hW⟩ : ∃ W : Nat → Int, W = fun s => sz.getD s 0 := ⟨_, rfl⟩
  have HWV : Hid (∀ s, sz.getD s 0 = W s) := fun s => by rw [hW]
  have HWB : Hid (∀ s, -1000 ≤ W s ∧ W s ≤ 1000) := fun s => by rw [hW]; exact hs s
  rw [← ht] at hk HTV HTL
  rw [← hW] at hk
  have HKK := Lib.hid hk
  have HMM := Lib.hid hM
  have HTM := Lib.hid htM
  have HSN := Lib.hid hsn
  clear hI0 hz0 hz1 hz2 hJ0 hy0 hy1 hy2 hT hS hs HSB ha htn htz hk ht hW hm hM htM hsn
  have hst0 : ((st : Int) == 0) = false := by rw [beq_eq_false_iff_ne]; omega
  have hst1 : ¬ st = 0 := by omega
  have hM0 : ((M : Int) == 0) = false := by rw [beq_eq_false_iff_ne]; omega
  have hM01 : ¬ M = 0 := by omega
  go_enter Tryd.func17, Tryd.ntmps17
  go_upto_region 1 with fail
  obtain ⟨hR, hB⟩ := row_rule w K B S st ra ta tn tc tu
  have HR : Hid (Row (w.alloc (.cells #[.int .i64 K, .int .i64 B, .int .i64 S, .int .i64 (st : Nat), .int .i64 (ra : Nat), .slice ta tn tc, .string tu] 24)) w.heap.size 24 (rulL K B S st ra ta tn tc tu)) := hR
  have HB : Hid (Below w.heap.size w (w.alloc (.cells #[.int .i64 K, .int .i64 B, .int .i64 S, .int .i64 (st : Nat), .int .i64 (ra : Nat), .slice ta tn tc, .string tu] 24))) := hB
  clear hR hB
  generalize w.alloc (.cells #[.int .i64 K, .int .i64 B, .int .i64 S, .int .i64 (st : Nat), .int .i64 (ra : Nat), .slice ta tn tc, .string tu] 24) = w1 at *
  obtain ⟨b4, hb4⟩ : ∃ b4, b4 = w.heap.size := ⟨_, rfl⟩
  rw [← hb4] at HR ⊢
  have hle4 : w.heap.size ≤ b4 := by omega
  clear hb4
  have f3 := HR.out.cell 3
  have f5 := HR.out.cell 5
  unfold rulL at f3 f5
  dsimp only [List.getElem?_cons_succ, List.getElem?_cons_zero] at f3 f5
  go_upto_region 2 with fail
  clear f3 f5
  go_upto_region 3 with (refine Ops.wpList_make rfl 22 _ _ rfl 3 i0 (.int .i64 0) Tryd.underlying22 HI0.out HZ0.out rfl HZ1.out (by rw [HZ2.out]; decide) M rfl rfl (by omega) ?_; intro gh w2 hgh hb9 hRh)
  have h4h : b4 < gh := Nat.lt_of_lt_of_le HR.out.lt hgh
  have hwh : w.heap.size ≤ gh := by omega
  have HR := Lib.hid (HR.out.keep hb9 HR.out.lt)
  have HB := Lib.hid (HB.out.trans (hb9.mono HB.out.size))
  rw [ints_rep] at hRh
  have HH := Lib.hid hRh
  clear hb9 hgh hRh
  go_upto_region 4 with (refine Ops.wpList_make rfl 56 _ _ rfl 4 j0 (.bool false) Tryd.underlying56 HJ0.out HY0.out rfl HY1.out (by rw [HY2.out]; decide) M rfl rfl (by omega) ?_; intro gk w3 hgk hb9 hRk)
  have hhk : gh < gk := Nat.lt_of_lt_of_le HH.out.lt hgk
  have HR := Lib.hid (HR.out.keep hb9 HR.out.lt)
  have HH := Lib.hid (HH.out.keep hb9 HH.out.lt)
  have HB := Lib.hid (HB.out.trans (hb9.mono HB.out.size))
  rw [bools_rep] at hRk
  have hset := hRk.set 0 (.bool true)
  rw [bools_set] at hset
  have ho := only_setCell w3 gk 0 (.bool true)
  have hcell := (hRk.cell 0).trans (bools_get hM1)
  have hfrz := hRk.frozen 0
  have HK := Lib.hid hset
  have HH := Lib.hid (HH.out.other ho (by omega))
  have HR := Lib.hid (HR.out.other ho (by omega))
  have HB := Lib.hid (HB.out.trans (ho.below (by omega)))
  clear hb9 hgk hRk hset ho
  go_upto_region 5 with fail
  clear hcell hfrz
  generalize w3.setCell ⟨gk, 0, none⟩ (.bool true) = w4 at *
  have hnew := row_alloc w4 3 [.int .i64 0]
  have hbn : Below w4.heap.size w4 (w4.alloc (.cells [.int .i64 0].toArray 3)) := (Below.refl _ _).alloc (Nat.le_refl _) _
  have HO : Hid ((w4.alloc (.cells [.int .i64 0].toArray 3)).ownsRow w4.heap.size 3 1 (.slice (some ⟨w4.heap.size, 0, none⟩) 1 1) [0].length ((natsI [0]).map (Value.int .i64))) := own_made (cs := [.int .i64 0]) hnew (Nat.le_refl _) (by decide)
  have HS1 : Hid (w4.heap.size ≤ (w4.alloc (.cells [.int .i64 0].toArray 3)).heap.size) := hbn.size
  have hkB : gk < w4.heap.size := HK.out.lt
  have HK := Lib.hid (HK.out.keep hbn HK.out.lt)
  have HH := Lib.hid (HH.out.keep hbn HH.out.lt)
  have HR := Lib.hid (HR.out.keep hbn HR.out.lt)
  have HB := Lib.hid (HB.out.trans (hbn.mono HB.out.size))
  clear hnew hbn
  go_upto_region 6 with fail
  obtain ⟨B1, hB1⟩ : ∃ B1, B1 = w4.heap.size := ⟨_, rfl⟩
  have HB1 := Lib.hid hB1
  rw [← hB1] at hkB HO HS1
  clear hB1
  generalize w4.alloc (.cells [.int .i64 0].toArray 3) = w5 at *
  have HST : Hid (Srch W t st m M [0] (setB (fun _ => false) 0) (fun _ => 0)) := Srch.start hM1
  go_wp2_with fail
  go_loopw [8, 9] (fun u v wr => ∃ (L : List Nat) (Kn : Nat → Bool) (H : Nat → Int) (i : Nat), i ≤ L.length ∧ v = .int .i64 i ∧ wr.ownsRow B1 3 1 u L.length ((natsI L).map (Value.int .i64)) ∧ Srch W t st m M L Kn H ∧ Cl st M L Kn i ∧ Row wr gh 3 (ints M H) ∧ Row wr gk 4 (bools M Kn) ∧ Row wr b4 24 (rulL K B S st ra ta tn tc tu) ∧ Below w.heap.size w wr ∧ B1 ≤ wr.heap.size) (fun u v _ => M - (intOf v).toNat)
  case atStart => exact ⟨[0], _, _, 0, Nat.zero_le _, rfl, by rw [HB1.out]; rw [HB1.out] at HO; exact HO.out, HST.out, Cl.zero, HH.out, HK.out, HR.out, HB.out, HS1.out⟩
  case round =>
    clear HO HST HH HK HR HB HS1 HB1
    obtain ⟨L, Kn, H, i, hi, rfl, hO, hST, hCl, hH, hKn, hR, hbel, hs1⟩ := hrel
    obtain ⟨ao, co, rfl, hcap⟩ := own_slice2 hO
    have HO := Lib.hid hO
    have HST := Lib.hid hST
    have HCL := Lib.hid hCl
    have HH := Lib.hid hH
    have HK := Lib.hid hKn
    have HR := Lib.hid hR
    have HB := Lib.hid hbel
    have HS1 := Lib.hid hs1
    have hLM := hST.le
    clear hO hST hCl hH hKn hR hbel hs1
    by_cases hlt : i < L.length
    · --{A
      obtain ⟨bo, oo, rfl, _, hco⟩ := (own_is HO.out natsI_len (by unfold maxLen; omega)).1.cells i hlt
      dsimp only at hco
      rw [natsI_get hlt] at hco
      obtain ⟨p, hp⟩ : ∃ p, p = L.getD i 0 := ⟨_, rfl⟩
      have hpM : p < M := by rw [hp]; exact HST.out.lt i hlt
      rw [← hp] at hco
      have HP : Hid (L.getD i 0 = p) := hp.symm
      obtain ⟨ln, hln⟩ : ∃ ln, ln = L.length := ⟨_, rfl⟩
      rw [← hln] at hlt hLM hi HO ⊢
      have HLN := Lib.hid hln
      clear hp hln
      go_wp2_with fail
      go_loopw [8, 11] (fun u v wr => ∃ (L : List Nat) (Kn : Nat → Bool) (H : Nat → Int) (c : Nat), c ≤ st ∧ v = .int .i64 c ∧ wr.ownsRow B1 3 1 u L.length ((natsI L).map (Value.int .i64)) ∧ i < L.length ∧ L.getD i 0 = p ∧ Srch W t st m M L Kn H ∧ Cl st M L Kn i ∧ Cl1 st M Kn p c ∧ Row wr gh 3 (ints M H) ∧ Row wr gk 4 (bools M Kn) ∧ Row wr b4 24 (rulL K B S st ra ta tn tc tu) ∧ Below w.heap.size w wr ∧ B1 ≤ wr.heap.size) (fun u v _ => st - (intOf v).toNat)
      case atStart => exact ⟨L, Kn, H, 0, Nat.zero_le _, rfl, by rw [← HLN.out]; exact HO.out, by rw [← HLN.out]; exact hlt, HP.out, HST.out, HCL.out, Cl1.zero, HH.out, HK.out, HR.out, HB.out, HS1.out⟩
      case round =>
        clear HO HST HCL HH HK HR HB HS1 hco HP HLN hcap
        obtain ⟨L, Kn, H, c, hc, rfl, hO, hil, hLp, hST, hCl, hCl1, hH, hKn, hR, hbel, hs1⟩ := hrel
        obtain ⟨ao, co, rfl, hcap⟩ := own_slice2 hO
        have HO := Lib.hid hO
        have HIL := Lib.hid hil
        have HLP := Lib.hid hLp
        have HST := Lib.hid hST
        have HCL := Lib.hid hCl
        have HC1 := Lib.hid hCl1
        have HH := Lib.hid hH
        have HK := Lib.hid hKn
        have HR := Lib.hid hR
        have HB := Lib.hid hbel
        have HS1 := Lib.hid hs1
        have hLM2 := hST.le
        clear hO hil hLp hST hCl hCl1 hH hKn hR hbel hs1
        have f3 := HR.out.cell 3
        unfold rulL at f3
        dsimp only [List.getElem?_cons_succ, List.getElem?_cons_zero] at f3
        by_cases hcl : c < st
        · --{B
          obtain ⟨pr, hpr⟩ : ∃ pr, pr = p * st := ⟨_, rfl⟩
          obtain ⟨q, hqe⟩ : ∃ q, q = pr + c := ⟨_, rfl⟩
          have hqt : q < tn := by
            have h1 : (p + 1) * st ≤ M * st := Nat.mul_le_mul_right st hpM
            rw [Nat.succ_mul] at h1
            have := HTM.out
            omega
          obtain ⟨g, hg⟩ : ∃ g, g = q % M := ⟨_, rfl⟩
          have hgM : g < M := by rw [hg]; exact Nat.mod_lt _ hM1
          have HQ : Hid (p * st + c = q) := by rw [hqe, hpr]; exact rfl
          have HG : Hid (g = q % M) := hg
          have hmul2 : (p : Int) * (st : Int) = (pr : Int) := by rw [hpr]; push_cast; rfl
          have hmul : IntKind.i64.wrap ((p : Int) * (st : Int)) = (pr : Int) := by rw [hmul2, IntKind.wrap_i64]; omega
          have u0 : IntKind.i64.wrap (pr : Int) = (pr : Int) := by rw [IntKind.wrap_i64]; omega
          have hadd2 : (pr : Int) + (c : Int) = (q : Int) := by omega
          have hadd : IntKind.i64.wrap ((pr : Int) + (c : Int)) = (q : Int) := by rw [hadd2, IntKind.wrap_i64]; omega
          have u3 : IntKind.i64.wrap (q : Int) = (q : Int) := by rw [IntKind.wrap_i64]; omega
          have hmod : ((q : Nat) : Int).tmod (M : Int) = (g : Int) := by
            rw [hg]; exact Int.ofNat_tmod _ _
          have hck := (HK.out.cell g).trans (bools_get hgM)
          clear hpr hqe hg
          cases hkg : Kn g
          · --{C
            rw [hkg] at hck
            have hfk := HK.out.frozen g
            have hset := HK.out.set g (.bool true)
            rw [bools_set] at hset
            have ho := only_setCell wr gk g (.bool true)
            have HKG := Lib.hid hkg
            have HK2 := Lib.hid hset
            have HO2 := Lib.hid (own_only HO.out ho (own_neB HO.out hkB))
            have HH2 := Lib.hid (HH.out.other ho (by omega))
            have HR2 := Lib.hid (HR.out.other ho (by omega))
            have HB2 := Lib.hid (HB.out.trans (ho.below (by omega)))
            have HS2 : Hid (B1 ≤ (wr.setCell ⟨gk, g, none⟩ (.bool true)).heap.size) := by
              show _ ≤ _
              rw [ho.size]; exact HS1.out
            clear hset ho HK HO HH HR HB HS1 hkg
            go_upto_region 17 with fail
            clear f3 hck hfk
            generalize wr.setCell ⟨gk, g, none⟩ (.bool true) = w6 at *
            obtain ⟨bt, ot, rfl, _, hct⟩ := (HT.out.keep HB2.out).cells q hqt
            dsimp only at hct
            rw [HTV.out] at hct
            have htv := HTL.out q
            obtain ⟨tv, htve⟩ : ∃ tv, tv = t q := ⟨_, rfl⟩
            rw [← htve] at hct htv
            obtain ⟨bs, os, rfl, _, hcs⟩ := (HS.out.keep HB2.out).cells tv (by rw [HSN.out]; exact htv)
            obtain ⟨bs', os', e', _, hcc⟩ := (HS.out.keep HB2.out).cells c (by rw [HSN.out]; exact hcl)
            cases e'
            dsimp only at hcs hcc
            rw [HWV.out] at hcs hcc
            have f5 := HR2.out.cell 5
            unfold rulL at f5
            dsimp only [List.getElem?_cons_succ, List.getElem?_cons_zero] at f5
            have hcp := (HH2.out.cell p).trans (ints_get hpM)
            have hcg := (HH2.out.cell g).trans (ints_get hgM)
            have hfg := HH2.out.frozen g
            have hb1 := HST.out.hi p
            have hb2 := HWB.out tv
            have hb3 := HWB.out c
            have hsn1 : tv < sn := by rw [HSN.out]; exact htv
            have hsn2 : c < sn := by rw [HSN.out]; exact hcl
            obtain ⟨nv, hnv⟩ : ∃ nv, nv = H p + W tv - W c := ⟨_, rfl⟩
            have hset := HH2.out.set g (.int .i64 nv)
            rw [ints_set] at hset
            have HST2 : Hid (Srch W t st m M (L ++ [g]) (setB Kn g) (setH H g nv)) := by
              have h := HST.out.step HMM.out HWB.out HIL.out hcl (g := g) (by rw [HLP.out, HQ.out]; exact HG.out) HKG.out
              rw [HLP.out, HQ.out, ← htve, ← hnv] at h
              exact h
            have ho : Only gh w6 (w6.setCell ⟨gh, g, none⟩ (.int .i64 nv)).drew := (only_setCell w6 gh g (.int .i64 nv)).trans ⟨rfl, rfl, rfl, rfl, fun _ _ => rfl⟩
            have HH3 := Lib.hid hset.drew
            have HO3 := Lib.hid (own_only HO2.out ho (own_neB HO2.out (by omega)))
            have HK3 := Lib.hid (HK2.out.other ho (by omega))
            have HR3 := Lib.hid (HR2.out.other ho (by omega))
            have HB3 := Lib.hid (HB2.out.trans (ho.below (by omega)))
            have HS3 : Hid (B1 ≤ (w6.setCell ⟨gh, g, none⟩ (.int .i64 nv)).drew.heap.size) := by
              show _ ≤ _
              rw [ho.size]; exact HS2.out
            have HCL2 : Hid (Cl st M (L ++ [g]) (setB Kn g) i) := HCL.out.step (Nat.le_of_lt HIL.out)
            have HC2 : Hid (Cl1 st M (setB Kn g) p (c + 1)) := HC1.out.step (by rw [HQ.out]; exact HG.out)
            generalize H p = xp at *
            generalize H g = xg at *
            generalize W tv = xt at *
            generalize W c = xc at *
            have s1 : IntKind.i64.wrap (xp + xt) = xp + xt := by rw [IntKind.wrap_i64]; omega
            have s2 : IntKind.i64.wrap (xp + xt - xc) = nv := by rw [IntKind.wrap_i64]; omega
            have s3 : xp + xt - xc = nv := hnv.symm
            have s4 : IntKind.i64.wrap nv = nv := by rw [IntKind.wrap_i64]; omega
            have HNV := Lib.hid hnv
            clear hset ho HK2 HO2 HH2 HR2 HB2 HS2 HST HCL HC1 htve hnv hb1 hb2 hb3
            go_region_with (fail)
            all_goals
              clear f5 hcp hcg hfg hct hcs hcc s1 s2 s3 s4
              generalize (w6.setCell ⟨gh, g, none⟩ (.int .i64 nv)).drew = w7 at *
              have hnew := row_alloc w7 3 [.int .i64 (g : Int)]
              have hbn : Below w7.heap.size w7 (w7.alloc (.cells [.int .i64 (g : Int)].toArray 3)) := (Below.refl _ _).alloc (Nat.le_refl _) _
              have HOa := Lib.hid (own_keep HO3.out hbn)
              have HRa := Lib.hid (HR3.out.keep hbn HR3.out.lt)
              have HHa := Lib.hid (HH3.out.keep hbn HH3.out.lt)
              have HKa := Lib.hid (HK3.out.keep hbn HK3.out.lt)
              have HBa := Lib.hid (HB3.out.trans (hbn.mono HB3.out.size))
              have HCEL := Lib.hid (hnew.cell 0)
              have HSZ : Hid (B1 ≤ (w7.alloc (.cells [.int .i64 (g : Int)].toArray 3)).heap.size) := Nat.le_trans HS3.out hbn.size
              have HWS : Hid (w.heap.size ≤ (w7.alloc (.cells [.int .i64 (g : Int)].toArray 3)).heap.size) := HBa.out.size
              obtain ⟨ln2, hln⟩ : ∃ ln2, ln2 = L.length := ⟨_, rfl⟩
              rw [← hln] at HOa hLM2 hcap ⊢
              have HLN := Lib.hid hln
              clear HO3 HR3 HH3 HK3 HB3 HS3 hnew hbn hln
              go_wp2_with (at_builtin; refine Ops.wpList_append1 rfl _ _ 22 rfl B1 3 i0 (.int .i64 0) 8 Tryd.underlying22 HI0.out HZ0.out rfl HZ1.out HZ2.out _ ln2 _ rfl HOa.out ⟨w7.heap.size, 0, none⟩ 1 (.int .i64 (g : Int)) rfl HCEL.out rfl ?c1 ?c2 HSZ.out ?_)
              case c1 => unfold maxLen; omega
              case c2 => omega
              intro ao' co' w8 hO3 hg3
              have HB4 := Lib.hid (HBa.out.grown hg3 HWS.out (fun k hk => by have := own_low HOa.out k hk; omega))
              have HR4 := Lib.hid (row_grownB HOa.out hg3 HRa.out (by omega))
              have HH4 := Lib.hid (row_grownB HOa.out hg3 HHa.out (by omega))
              have HK4 := Lib.hid (row_grownB HOa.out hg3 HKa.out hkB)
              have HS4 : Hid (B1 ≤ w8.heap.size) := Nat.le_trans HSZ.out hg3.size
              rw [← natsI_snoc] at hO3
              have HO4 := Lib.hid hO3
              clear hO3 hg3 HOa HBa HRa HHa HKa HCEL HSZ HWS
              go_wp2_with fail
              go_roundw
              case rel => exact ⟨L ++ [g], _, _, c + 1, by omega, by go_num, by rw [List.length_append, ← HLN.out]; exact HO4.out, by rw [List.length_append]; have := HIL.out; omega, by rw [getD_snoc, if_pos HIL.out]; exact HLP.out, HST2.out, HCL2.out, HC2.out, HH4.out, HK4.out, HR4.out, HB4.out, HS4.out⟩
              case measure => simp [intOf]; omega
            --}
          · --{D
            rw [hkg] at hck
            have HC2 : Hid (Cl1 st M Kn p (c + 1)) := HC1.out.same (by rw [HQ.out]; exact HG.out) hkg
            clear hkg
            go_wp2_with fail
            go_roundw
            case rel => exact ⟨L, Kn, H, c + 1, by omega, by go_num, HO.out, HIL.out, HLP.out, HST.out, HCL.out, HC2.out, HH.out, HK.out, HR.out, HB.out, HS1.out⟩
            case measure => simp [intOf]; omega
            --}
          --}
        · --{E
          have ec : c = st := by omega
          subst ec
          have HCL2 : Hid (Cl c M L Kn (i + 1)) := HCL.out.next HC1.out HLP.out
          go_wp2_with fail
          go_roundw
          case rel => exact ⟨L, Kn, H, i + 1, HIL.out, by go_num, HO.out, HST.out, HCL2.out, HH.out, HK.out, HR.out, HB.out, HS1.out⟩
          case measure => simp [intOf]; omega
          --}
      --}
    · --{F
      have ei : i = L.length := by omega
      have HSAY : Hid (Pot W t st m H ↔ kk = true) := (HST.out.says (by omega) HMM.out (fun k hk => HCL.out k (by omega))).trans HKK.out.symm
      have HHI : Hid (∀ p, -4096000 ≤ H p ∧ H p ≤ 4096000) := fun p => by have := HST.out.hi p; omega
      obtain ⟨wo, rfl⟩ : ∃ wo : World, wo = wr := ⟨_, rfl⟩
      clear HO HST HCL HK HS1 hlt hi hcap
      subst ei
      generalize L.length = ln at *
      go_wp2_with fail
      go_loopw [14] (fun u wr => ∃ p : Nat, p ≤ M ∧ u = .int .i64 p ∧ Pd W t st M H p ∧ Below wo.heap.size wo wr) (fun u _ => M - (intOf u).toNat)
      case atStart => exact ⟨0, Nat.zero_le _, rfl, fun p hp => absurd hp (Nat.not_lt_zero _), Below.refl _ _⟩
      case round =>
        obtain ⟨p, hp, rfl, hPD, hbw⟩ := hrel
        have HPD := Lib.hid hPD
        have HBW := Lib.hid hbw
        clear hPD hbw
        by_cases hpM : p < M
        · go_wp2_with fail
          go_loopw [15] (fun u wr => ∃ c : Nat, c ≤ st ∧ u = .int .i64 c ∧ Pd1 W t st M H p c ∧ Below wo.heap.size wo wr) (fun u _ => st - (intOf u).toNat)
          case atStart => exact ⟨0, Nat.zero_le _, rfl, fun p hp => absurd hp (Nat.not_lt_zero _), HBW.out⟩
          case round =>
            clear HBW
            obtain ⟨c, hc, rfl, hP1, hbw⟩ := hrel
            have HP1 := Lib.hid hP1
            have HBW := Lib.hid hbw
            clear hP1 hbw
            have f3 := (HR.out.keep HBW.out HR.out.lt).cell 3
            have f5 := (HR.out.keep HBW.out HR.out.lt).cell 5
            unfold rulL at f3 f5
            dsimp only [List.getElem?_cons_succ, List.getElem?_cons_zero] at f3 f5
            have HBE := Lib.hid (HB.out.trans (HBW.out.mono HB.out.size))
            by_cases hcl : c < st
            · obtain ⟨pr, hpr⟩ : ∃ pr, pr = p * st := ⟨_, rfl⟩
              obtain ⟨q, hqe⟩ : ∃ q, q = pr + c := ⟨_, rfl⟩
              have hqt : q < tn := by
                have h1 : (p + 1) * st ≤ M * st := Nat.mul_le_mul_right st hpM
                rw [Nat.succ_mul] at h1
                have := HTM.out
                omega
              obtain ⟨g, hg⟩ : ∃ g, g = q % M := ⟨_, rfl⟩
              have hgM : g < M := by rw [hg]; exact Nat.mod_lt _ hM1
              have HQ : Hid (p * st + c = q) := by rw [hqe, hpr]; exact rfl
              have HG : Hid (g = q % M) := hg
              have hmul2 : (p : Int) * (st : Int) = (pr : Int) := by rw [hpr]; push_cast; rfl
              have hmul : IntKind.i64.wrap ((p : Int) * (st : Int)) = (pr : Int) := by rw [hmul2, IntKind.wrap_i64]; omega
              have u0 : IntKind.i64.wrap (pr : Int) = (pr : Int) := by rw [IntKind.wrap_i64]; omega
              have hadd2 : (pr : Int) + (c : Int) = (q : Int) := by omega
              have hadd : IntKind.i64.wrap ((pr : Int) + (c : Int)) = (q : Int) := by rw [hadd2, IntKind.wrap_i64]; omega
              have u3 : IntKind.i64.wrap (q : Int) = (q : Int) := by rw [IntKind.wrap_i64]; omega
              have hmod : ((q : Nat) : Int).tmod (M : Int) = (g : Int) := by
                rw [hg]; exact Int.ofNat_tmod _ _
              obtain ⟨bt, ot, rfl, _, hct⟩ := (HT.out.keep HBE.out).cells q hqt
              dsimp only at hct
              rw [HTV.out] at hct
              have htv := HTL.out q
              obtain ⟨tv, htve⟩ : ∃ tv, tv = t q := ⟨_, rfl⟩
              rw [← htve] at hct htv
              obtain ⟨bs, os, rfl, _, hcs⟩ := (HS.out.keep HBE.out).cells tv (by rw [HSN.out]; exact htv)
              obtain ⟨bs', os', e', _, hcc⟩ := (HS.out.keep HBE.out).cells c (by rw [HSN.out]; exact hcl)
              cases e'
              dsimp only at hcs hcc
              rw [HWV.out] at hcs hcc
              have hcp := ((HH.out.keep HBW.out HH.out.lt).cell p).trans (ints_get hpM)
              have hcg := ((HH.out.keep HBW.out HH.out.lt).cell g).trans (ints_get hgM)
              have hb1 := HHI.out p
              have hb2 := HWB.out tv
              have hb3 := HWB.out c
              have hsn1 : tv < sn := by rw [HSN.out]; exact htv
              have hsn2 : c < sn := by rw [HSN.out]; exact hcl
              have HEQ : Hid (At1 W t st M H p c ↔ H g = H p + W tv - W c) := by
                show At1 W t st M H p c ↔ _
                unfold At1
                rw [HQ.out, ← htve, ← HG.out]
              clear hpr hqe hg htve
              generalize H p = xp at *
              generalize hxg : H g = xg at *
              generalize W tv = xt at *
              generalize hxc : W c = xc at *
              obtain ⟨nv, hnv⟩ : ∃ nv, nv = xp + xt - xc := ⟨_, rfl⟩
              rw [← hnv] at HEQ
              have s1 : IntKind.i64.wrap (xp + xt) = xp + xt := by rw [IntKind.wrap_i64]; omega
              have s2 : IntKind.i64.wrap (xp + xt - xc) = nv := by rw [IntKind.wrap_i64]; omega
              have s3 : xp + xt - xc = nv := hnv.symm
              have s4 : IntKind.i64.wrap nv = nv := by rw [IntKind.wrap_i64]; omega
              clear hnv hxg hxc hb1 hb2 hb3
              by_cases he : xg = nv
              · have e1 : (xg == nv) = true := by rw [he]; exact beq_self_eq_true _
                have e2 : (xg != nv) = false := by rw [he]; exact bne_self_eq_false _
                have HP2 : Hid (Pd1 W t st M H p (c + 1)) := HP1.out.next (HEQ.out.2 he)
                clear HP1 HEQ he
                go_wp2_with fail
                go_big_quiet (fail)
                have HBW2 := Lib.hid (below_drewN HBW.out nq)
                clear f3 f5 hct hcs hcc hcp hcg s1 s2 s3 s4
                generalize wr.drewN nq = w9 at *
                go_wp2_with fail
                go_roundw
                case rel => exact ⟨c + 1, by omega, by go_num, HP2.out, HBW2.out⟩
                case measure => simp [intOf]; omega
              · have e1 : (xg == nv) = false := beq_eq_false_iff_ne.2 he
                have e2 : (xg != nv) = true := bne_iff_ne.2 he
                have HKF : Hid (kk = false) := by
                  show _ = _
                  cases hkk : kk
                  · rfl
                  · exact absurd (HEQ.out.1 (by
                      have h := HSAY.out.2 hkk p c (by rw [← HMM.out]; exact hpM) hcl
                      rw [← HMM.out] at h
                      exact h)) he
                clear HP1 HEQ he
                go_wp2_with fail
                go_big_quiet (fail)
                have HBE2 := Lib.hid (below_drewN HBE.out nq)
                clear f3 f5 hct hcs hcc hcp hcg s1 s2 s3 s4
                generalize wr.drewN nq = w9 at *
                go_wp2_with fail
                go_ret
                exact ⟨congrArg (fun b : Bool => Ending.returned (.bool b)) HKF.out.symm, HBE2.out⟩
            · have ec : c = st := by omega
              subst ec
              have HPD2 : Hid (Pd W t c M H (p + 1)) := HPD.out.next HP1.out
              go_wp2_with fail
              go_roundw
              case rel => exact ⟨p + 1, by omega, by go_num, HPD2.out, HBW.out⟩
              case measure => simp [intOf]; omega
        · have ep : p = M := by omega
          subst ep
          have HKT : Hid (kk = true) := HSAY.out.1 fun p' c hp' hc => by
            rw [← HMM.out] at hp' ⊢
            exact HPD.out p' hp' c hc
          have HBE := Lib.hid (HB.out.trans (HBW.out.mono HB.out.size))
          go_wp2_with fail
          go_ret
          exact ⟨congrArg (fun b : Bool => Ending.returned (.bool b)) HKT.out.symm, HBE.out⟩
      --}
end Ln
end Go.Proofs.YtahhhbdnhimbfaaDoor
