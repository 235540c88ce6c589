/- WALK: sand.NewNet: a graph's edges, place by place, or what is wrong with it. -/
import Derived.Test.YtjikildiblchpaaGfO
import Derived.Test.YtjikildiblchpaaPc
namespace Go.Proofs.Ytjikildiblchpaa
set_option linter.unusedSimpArgs false
set_option linter.unusedVariables false
open Go.RowKit Go.Lib
namespace Rt
open Tld Mem

/-- Does the code begin with region n? -/
def heads (n : Nat) : Code → Bool
  | .region i _ _ => i == n
  | .seq a _ => heads n a
  | _ => false
/-- The code from region n on, all that follows it. -/
def frs (n : Nat) : Code → Option Code
  | .seq a b => match heads n a with
    | true => some (.seq a b)
    | false => match frs n a with
      | some c => some c
      | none => frs n b
  | .cond _ a b => match frs n a with
    | some c => some c
    | none => frs n b
  | .block _ c => frs n c
  | .scope c => frs n c
  | .loop c => frs n c
  | _ => none

/-- A net, for reading. -/
structure Net (w : World) (bn P : Nat) (E : Nat → Nat → Nat) (D : Nat → Nat) : Prop where
  ex : ∃ (be ce bd cd : Nat) (bk : Nat → Nat), w.cell? ⟨bn, 0, none⟩ = some (.slice (some ⟨be, 0, none⟩) P ce) ∧ w.cell? ⟨bn, 1, none⟩ = some (.slice (some ⟨bd, 0, none⟩) P cd) ∧
    (∀ k, k < P → w.cell? ⟨be, k, none⟩ = some (.slice (some ⟨bk k, 0, none⟩) P P) ∧ w.cell? ⟨bd, k, none⟩ = some (.int .i64 (D k : Int)) ∧ ∀ o, o < P → w.cell? ⟨bk k, o, none⟩ = some (.int .i64 (E k o : Int)))
theorem cell_keep {w w' : World} {a : Addr} {v : Value} (h : w.cell? a = some v) (hb : Below w.heap.size w w') : w'.cell? a = some v := by
  rw [hb.cell (lt_of_cell h)]; exact h
theorem Net.keep {w w' : World} {bn P : Nat} {E : Nat → Nat → Nat} {D : Nat → Nat} (h : Net w bn P E D) (hb : Below w.heap.size w w') : Net w' bn P E D := by
  obtain ⟨be, ce, bd, cd, bk, h1, h2, h3⟩ := h.ex
  exact ⟨⟨be, ce, bd, cd, bk, cell_keep h1 hb, cell_keep h2 hb, fun k hk => ⟨cell_keep (h3 k hk).1 hb, cell_keep (h3 k hk).2.1 hb, fun o ho => cell_keep ((h3 k hk).2.2 o ho) hb⟩⟩⟩

/-- Numbers as cells. -/
def intsL (l : List Nat) : List Value := l.map fun (k : Nat) => Value.int .i64 (k : Int)
theorem has_iff {l : List Nat} {k : Nat} : has (l.map Int.ofNat) (k : Int) = decide (k ∈ l) := by
  unfold has
  rw [Bool.eq_iff_iff, List.any_eq_true, decide_eq_true_iff]
  constructor
  · rintro ⟨x, hx, e⟩
    obtain ⟨j, hj, rfl⟩ := List.mem_map.1 hx
    have e2 := of_decide_eq_true e
    have : j = k := by
      have e3 : (j : Int) = (k : Int) := e2
      omega
    rw [← this]; exact hj
  · intro h
    exact ⟨(k : Int), List.mem_map.2 ⟨k, h, rfl⟩, decide_eq_true rfl⟩
theorem intsL_eq {l : List Nat} : intsL l = (l.map Int.ofNat).map (Value.int .i64) := by
  unfold intsL; rw [List.map_map]; rfl
/-- The search for all places: the first i are done, of the next one the first k. -/
structure Srch (P m : Nat) (f : Nat → Nat → Int) (l : List Nat) (i : Nat) : Prop where
  been : Been P m f l
  le : i ≤ l.length
  done : ∀ j, j < i → Round f m (l.getD j 0) P l
structure SrchK (P m : Nat) (f : Nat → Nat → Int) (l : List Nat) (i a k : Nat) : Prop where
  been : Been P m f l
  lt : i < l.length
  at_ : l.getD i 0 = a
  done : ∀ j, j < i → Round f m (l.getD j 0) P l
  part : Round f m a k l
theorem Been.len {P m : Nat} {f : Nat → Nat → Int} {l : List Nat} (h : Been P m f l) : l.length ≤ P := by
  have := h.cnt
  have := cnt_le (l := l) (P := P)
  omega
theorem getD_mem {l : List Nat} {i : Nat} (h : i < l.length) : l.getD i 0 ∈ l := by
  rw [List.getD_eq_getElem?_getD, List.getElem?_eq_getElem h]
  exact List.getElem_mem h
theorem Srch.start {P m : Nat} {f : Nat → Nat → Int} (hP : 1 ≤ P) : Srch P m f [0] 0 := ⟨been_start hP, Nat.zero_le _, fun j hj => absurd hj (Nat.not_lt_zero _)⟩
theorem Srch.open_ {P m i : Nat} {f : Nat → Nat → Int} {l : List Nat} (h : Srch P m f l i) (hi : i < l.length) : SrchK P m f l i (l.getD i 0) 0 := ⟨h.been, hi, rfl, h.done, fun b hb => absurd hb (Nat.not_lt_zero _)⟩
theorem SrchK.close {P m i a : Nat} {f : Nat → Nat → Int} {l : List Nat} (h : SrchK P m f l i a P) : Srch P m f l (i + 1) := ⟨h.been, h.lt, fun j hj => by
  by_cases e : j = i
  · subst e; rw [h.at_]; exact h.part
  · exact h.done j (by omega)⟩
theorem SrchK.skip {P m i a k : Nat} {f : Nat → Nat → Int} {l : List Nat} (h : SrchK P m f l i a k) (hs : 0 < btw f a k m → k ∈ l) : SrchK P m f l i a (k + 1) := ⟨h.been, h.lt, h.at_, h.done, fun b hb hp => by
  by_cases e : b = k
  · subst e; exact hs hp
  · exact h.part b (by omega) hp⟩
theorem SrchK.add {P m i a k : Nat} {f : Nat → Nat → Int} {l : List Nat} (hE : ∀ i, i < m → EdgeN P f i) (h : SrchK P m f l i a k) (hk : k < P) (hn : ¬ k ∈ l) (hp : 0 < btw f a k m) : SrchK P m f (l ++ [k]) i a (k + 1) := by
  have hg : ∀ j, j ≤ i → (l ++ [k]).getD j 0 = l.getD j 0 := fun j hj => by
    have := h.lt
    rw [List.getD_eq_getElem?_getD, List.getD_eq_getElem?_getD, List.getElem?_append_left (by omega)]
  refine ⟨h.been.add hE (a := a) (by rw [← h.at_]; exact getD_mem h.lt) hk hn hp, ?_, ?_, fun j hj => ?_, fun b hb hp => ?_⟩
  · rw [List.length_append]; have := h.lt; omega
  · rw [hg i (Nat.le_refl _)]; exact h.at_
  · rw [hg j (by omega)]
    exact fun b hb hp => List.mem_append_left _ (h.done j hj b hb hp)
  · by_cases e : b = k
    · subst e; exact List.mem_append_right _ (List.mem_singleton.2 rfl)
    · exact List.mem_append_left _ (h.part b (by omega) hp)
theorem Srch.fin {P m i : Nat} {f : Nat → Nat → Int} {l : List Nat} (hE : ∀ i, i < m → EdgeN P f i) (h : Srch P m f l i) (hi : i = l.length) : ConnG P f m ↔ ¬ l.length < P :=
  h.been.done hE fun a ha => by
    obtain ⟨j, hj, rfl⟩ := List.getElem_of_mem ha
    have := h.done j (by omega)
    rw [List.getD_eq_getElem?_getD, List.getElem?_eq_getElem hj] at this
    exact this
set_option maxHeartbeats 8000000 in
set_option maxRecDepth 1000000 in
theorem net3 (P m : Nat) (f : Nat → Nat → Int) (bg bn : Nat) (ev : Value) (w0 w : World) (hP1 : 1 ≤ P) (hP10 : P ≤ 10)
    (HE : Hid (∀ i, i < m → EdgeN P f i)) (HN : Hid (Net w bn P (fun a b => btw f a b m) (fun a => deg f a m))) (HG : Hid (Row w bg 24 [.int .i64 (P : Int), ev])) (HB : Hid (Below w0.heap.size w0 w))
    (c0 c2 c3 c5 c6 c7 c8 c9 c10 c11 c12 c13 c14 c15 c16 c17 c18 c19 c20 c21 c22 c23 c24 c25 c26 c27 c28 c29 c30 c31 c32 c33 c34 c35 c36 c37 c38 c39 c40 c41 c42 c43 c44 c45 c46 c47 c48 c49 c50 c51 c52 c53 c54 c55 c56 c57 c58 c59 c60 c61 c62 c63 c64 c65 c66 c67 c68 c69 c70 c71 c72 c73 c74 c75 c76 c77 c78 c79 c80 c81 c82 c83 c84 c85 c86 c87 c88 c89 c90 c91 c92 c93 c94 c95 c96 c97 c98 c99 c100 c101 c102 c103 c104 c105 c106 c107 c108 c109 c110 c111 c112 c113 c114 c115 c116 c117 c118 c119 c120 c121 c122 c123 c124 c125 c126 c127 c128 c129 c130 c131 c132 c133 c134 c135 c136 c137 c138 c139 c140 c141 c142 c143 c144 c145 c146 c147 c148 c149 c150 c151 c152 c153 c154 c155 c156 c157 c158 c159 c160 c161 c162 c163 c164 c165 c166 c167 c168 c169 c170 c171 c172 c173 c174 c175 c176 c177 c178 c179 c180 c181 c182 c183 c184 c185 c186 c187 : Value) (Q : Exit → Act → World → Prop)
    (hbad : ∀ {u8 u9 u10 u11 u145 u146 u147 u148 u149 u150 u151 u152 u153 u154 u155 u156 u157 u158 u159 u160 u161 u162 u163 u164 u165 u166 u167 u168 u169 u170 u171 u172 u173 u174 u175 u176 u177 u178 u179 u180 u181 u182 u183 u184 u185 u186 u187 : Value} {w' : World}, ¬ ConnG P f m → Below w0.heap.size w0 w' → Q .ret ⟨#[c0, .pointer (some ⟨bg, 0, none⟩), .pointer none, .iface 59 (.int .i64 3), .pointer (some ⟨bn, 0, none⟩), c5, c6, c7, u8, u9, u10, u11, c12, c13, c14, c15, c16, c17, c18, c19, c20, c21, c22, c23, c24, c25, c26, c27, c28, c29, c30, c31, c32, c33, c34, c35, c36, c37, c38, c39, c40, c41, c42, c43, c44, c45, c46, c47, c48, c49, c50, c51, c52, c53, c54, c55, c56, c57, c58, c59, c60, c61, c62, c63, c64, c65, c66, c67, c68, c69, c70, c71, c72, c73, c74, c75, c76, c77, c78, c79, c80, c81, c82, c83, c84, c85, c86, c87, c88, c89, c90, c91, c92, c93, c94, c95, c96, c97, c98, c99, c100, c101, c102, c103, c104, c105, c106, c107, c108, c109, c110, c111, c112, c113, c114, c115, c116, c117, c118, c119, c120, c121, c122, c123, c124, c125, c126, c127, c128, c129, c130, c131, c132, c133, c134, c135, c136, c137, c138, c139, c140, c141, c142, c143, c144, u145, u146, u147, u148, u149, u150, u151, u152, u153, u154, u155, u156, u157, u158, u159, u160, u161, u162, u163, u164, u165, u166, u167, u168, u169, u170, u171, u172, u173, u174, u175, u176, u177, u178, u179, u180, u181, u182, u183, u184, u185, u186, u187], []⟩ w')
    (hok : ∀ {u8 u9 u10 u11 u145 u146 u147 u148 u149 u150 u151 u152 u153 u154 u155 u156 u157 u158 u159 u160 u161 u162 u163 u164 u165 u166 u167 u168 u169 u170 u171 u172 u173 u174 u175 u176 u177 u178 u179 u180 u181 u182 u183 u184 u185 u186 u187 : Value} {w' : World}, ConnG P f m → Net w' bn P (fun a b => btw f a b m) (fun a => deg f a m) → Below w0.heap.size w0 w' → Q .ret ⟨#[c0, .pointer (some ⟨bg, 0, none⟩), .pointer (some ⟨bn, 0, none⟩), .nilIface, .pointer (some ⟨bn, 0, none⟩), c5, c6, c7, u8, u9, u10, u11, c12, c13, c14, c15, c16, c17, c18, c19, c20, c21, c22, c23, c24, c25, c26, c27, c28, c29, c30, c31, c32, c33, c34, c35, c36, c37, c38, c39, c40, c41, c42, c43, c44, c45, c46, c47, c48, c49, c50, c51, c52, c53, c54, c55, c56, c57, c58, c59, c60, c61, c62, c63, c64, c65, c66, c67, c68, c69, c70, c71, c72, c73, c74, c75, c76, c77, c78, c79, c80, c81, c82, c83, c84, c85, c86, c87, c88, c89, c90, c91, c92, c93, c94, c95, c96, c97, c98, c99, c100, c101, c102, c103, c104, c105, c106, c107, c108, c109, c110, c111, c112, c113, c114, c115, c116, c117, c118, c119, c120, c121, c122, c123, c124, c125, c126, c127, c128, c129, c130, c131, c132, c133, c134, c135, c136, c137, c138, c139, c140, c141, c142, c143, c144, u145, u146, u147, u148, u149, u150, u151, u152, u153, u154, u155, u156, u157, u158, u159, u160, u161, u162, u163, u164, u165, u166, u167, u168, u169, u170, u171, u172, u173, u174, u175, u176, u177, u178, u179, u180, u181, u182, u183, u184, u185, u186, u187], []⟩ w')
    : Code.wp Try.prog ((frs 21 (Try.f34.body.getD .skip)).getD .skip) Q ⟨#[c0, .pointer (some ⟨bg, 0, none⟩), c2, c3, .pointer (some ⟨bn, 0, none⟩), c5, c6, c7, c8, c9, c10, c11, c12, c13, c14, c15, c16, c17, c18, c19, c20, c21, c22, c23, c24, c25, c26, c27, c28, c29, c30, c31, c32, c33, c34, c35, c36, c37, c38, c39, c40, c41, c42, c43, c44, c45, c46, c47, c48, c49, c50, c51, c52, c53, c54, c55, c56, c57, c58, c59, c60, c61, c62, c63, c64, c65, c66, c67, c68, c69, c70, c71, c72, c73, c74, c75, c76, c77, c78, c79, c80, c81, c82, c83, c84, c85, c86, c87, c88, c89, c90, c91, c92, c93, c94, c95, c96, c97, c98, c99, c100, c101, c102, c103, c104, c105, c106, c107, c108, c109, c110, c111, c112, c113, c114, c115, c116, c117, c118, c119, c120, c121, c122, c123, c124, c125, c126, c127, c128, c129, c130, c131, c132, c133, c134, c135, c136, c137, c138, c139, c140, c141, c142, c143, c144, c145, c146, c147, c148, c149, c150, c151, c152, c153, c154, c155, c156, c157, c158, c159, c160, c161, c162, c163, c164, c165, c166, c167, c168, c169, c170, c171, c172, c173, c174, c175, c176, c177, c178, c179, c180, c181, c182, c183, c184, c185, c186, c187], []⟩ w := by
  conv => arg 2; whnf

  obtain ⟨i0, hI0, hz0, hz1, hz2⟩ := info_parts infoIntN
  have HI0 := Lib.hid hI0
  have HZ0 := Lib.hid hz0
  have HZ1 := Lib.hid hz1
  have HZ2 := Lib.hid hz2
  clear hI0 hz0 hz1 hz2
  have hr0 := row_alloc w 3 [.int .i64 0]
  have hb0 : Below w.heap.size w (w.alloc (.cells [.int .i64 0].toArray 3)) := (Below.refl _ _).alloc (Nat.le_refl _) _
  have HO : Hid ((w.alloc (.cells [.int .i64 0].toArray 3)).ownsRow w.heap.size 3 1 (.slice (some ⟨w.heap.size, 0, none⟩) 1 1) 1 (intsL [0])) := own_made hr0 (Nat.le_refl _) (by unfold maxLen; decide)
  have HBW := Lib.hid hb0
  clear hr0 hb0
  go_upto_region 22 with fail
  generalize w.alloc (.cells #[.int .i64 0] 3) = w1 at *
  go_wp2_with fail
  go_loopw [8, 9] (fun u v wr => ∃ (l : List Nat) (i : Nat), v = .int .i64 (i : Int) ∧ wr.ownsRow w.heap.size 3 1 u l.length (intsL l) ∧ Srch P m f l i ∧ Below w.heap.size w wr) (fun _ v _ => P + 1 - (intOf v).toNat)
  case atStart => exact ⟨[0], 0, rfl, HO.out, Srch.start hP1, HBW.out⟩
  case round =>
    clear HO HBW
    obtain ⟨l, i, rfl, hown, hs, hbw⟩ := hrel
    obtain ⟨ao, co, rfl, hcap⟩ := own_slice2 hown
    have hlP := hs.been.len
    have hil := hs.le
    have HO := Lib.hid hown
    have HS := Lib.hid hs
    have HBW := Lib.hid hbw
    clear hown hs hbw
    by_cases hlt : i < l.length
    · --{ROUND
      have HK := Lib.hid (HS.out.open_ hlt)
      obtain ⟨a, ha⟩ : ∃ a, a = l.getD i 0 := ⟨_, rfl⟩
      rw [← ha] at HK
      have haP : a < P := by rw [ha]; exact (HS.out.been.reach _ (getD_mem hlt)).1
      obtain ⟨be, ce, bd, cd, bk, n0, n1, nk⟩ := HN.out.ex
      obtain ⟨ga, _, gb⟩ := nk a haP
      have HGQ : Hid (∀ w', Below w.heap.size w w' → ∀ o, o < P → w'.cell? ⟨bk a, o, none⟩ = some (.int .i64 (btw f a o m : Nat))) := fun w' h o ho => cell_keep (gb o ho) h
      have n0 := cell_keep n0 HBW.out
      have ga := cell_keep ga HBW.out
      have HGB := Lib.hid (HGQ.out _ HBW.out)
      obtain ⟨hIs, _⟩ := own_is (zs := l.map Int.ofNat) (by rw [← intsL_eq]; exact HO.out) (by rw [List.length_map]) (by unfold maxLen; omega)
      obtain ⟨bo, oo, rfl, _, hc⟩ := hIs.cells i hlt
      dsimp only at hc
      rw [show (l.map Int.ofNat).getD i 0 = (a : Int) from by rw [ha, List.getD_eq_getElem?_getD, List.getD_eq_getElem?_getD, List.getElem?_map, List.getElem?_eq_getElem hlt]; rfl] at hc
      have ha2 : (a : Int) < (P : Int) := by omega
      have hi2 : (i : Int) < (l.length : Int) := by omega
      clear gb nk n1 hIs ha HS
      go_upto_region 25 with fail
      go_big_quiet (fail)
      have HO := Lib.hid (own_keep HO.out (below_drewN (Below.refl _ _) nq))
      have HBW := Lib.hid (below_drewN HBW.out nq)
      have HGB : Hid (∀ o, o < P → (wr.drewN nq).cell? ⟨bk a, o, none⟩ = some (.int .i64 (btw f a o m : Nat))) := fun o ho => HGB.out o ho
      clear hc n0 ga
      generalize wr.drewN nq = w2 at *
      go_wp2_with fail
      obtain ⟨B0, hB0⟩ : ∃ B0, B0 = bk a := ⟨_, rfl⟩
      rw [← hB0] at HGB HGQ ⊢
      clear hB0
      go_loopw [8, 163] (fun u v wx => ∃ (l : List Nat) (k : Nat), k ≤ P ∧ v = .int .i64 (k : Int) ∧ wx.ownsRow w.heap.size 3 1 u l.length (intsL l) ∧ SrchK P m f l i a k ∧ Below w.heap.size w wx ∧ (∀ o, o < P → wx.cell? ⟨B0, o, none⟩ = some (.int .i64 (btw f a o m : Nat)))) (fun _ v _ => P - (intOf v).toNat)
      case atStart => exact ⟨l, 0, Nat.zero_le _, rfl, HO.out, HK.out, HBW.out, HGB.out⟩
      case round =>
        clear HO HBW HGB HK hlt hil hlP hi2
        obtain ⟨l, k, hkP, rfl, hown, hsk, hbw, hgp⟩ := hrel
        obtain ⟨ao, co, rfl, hcap⟩ := own_slice2 hown
        have hlP := hsk.been.len
        have hil := hsk.lt
        have HO := Lib.hid hown
        have HK := Lib.hid hsk
        have HBW := Lib.hid hbw
        have HGP := Lib.hid hgp
        clear hown hsk hbw hgp
        by_cases hk : k < P
        · have hc := HGP.out k hk
          have hk2 : (k : Int) < (P : Int) := by omega
          have HCT := Lib.hid (fun w2 (h : w2 = wr) => contains_any ao l.length co (l.map Int.ofNat) (k : Int) w2 (by rw [List.length_map]) (by omega) (by rw [h]; exact (own_is (zs := l.map Int.ofNat) (by rw [← intsL_eq]; exact HO.out) (by rw [List.length_map]) (by unfold maxLen; omega)).1.cells))
          rw [has_iff] at HCT
          by_cases hp : 0 < btw f a k m
          · have d1 : decide (0 < btw f a k m) = true := decide_eq_true hp
            have d2 : decide ((0 : Int) < (btw f a k m : Nat)) = true := decide_eq_true (by omega)
            have HP := Lib.hid hp
            obtain ⟨t, ht⟩ : ∃ t, t = btw f a k m := ⟨_, rfl⟩
            rw [← ht] at hc d1 d2
            clear ht hp
            obtain ⟨q, hq⟩ : ∃ q, q = decide (k ∈ l) := ⟨_, rfl⟩
            rw [← hq] at HCT
            have HQ := Lib.hid hq
            clear hq
            go_wp2_with fail
            refine (HCT.out _ rfl).mono ?_
            rintro e1 w1 ⟨rfl, rfl⟩
            cases q
            · have hnm : ¬ k ∈ l := of_decide_eq_false HQ.out.symm
              have HK2 := Lib.hid (HK.out.add HE.out hk hnm HP.out)
              have hnew := row_alloc wr 3 [.int .i64 (k : Int)]
              have hbn : Below wr.heap.size wr (wr.alloc (.cells [.int .i64 (k : Int)].toArray 3)) := (Below.refl _ _).alloc (Nat.le_refl _) _
              have HOa := Lib.hid (own_keep HO.out hbn)
              have HBa := Lib.hid (HBW.out.trans (hbn.mono HBW.out.size))
              have HCEL := Lib.hid (hnew.cell 0)
              have HSZ : Hid (w.heap.size ≤ (wr.alloc (.cells [.int .i64 (k : Int)].toArray 3)).heap.size) := HBa.out.size
              have HSN : Hid (intsL (l ++ [k]) = intsL l ++ [.int .i64 (k : Int)]) := by
                show (l ++ [k]).map _ = _
                rw [List.map_append]; rfl
              clear HO HBW hnew hbn hnm HQ HCT HK hc d1 d2
              go_wp2_with (at_builtin; refine Ops.wpList_append1 rfl _ _ 25 rfl w.heap.size 3 i0 (.int .i64 0) 8 Try.underlying25 HI0.out HZ0.out rfl HZ1.out HZ2.out _ l.length _ rfl HOa.out ⟨wr.heap.size, 0, none⟩ 1 (.int .i64 (k : Int)) rfl HCEL.out rfl ?c1 ?c2 HSZ.out ?_)
              case c1 => unfold maxLen; omega
              case c2 => omega
              intro ao' co' w5 hO3 hg3
              have HB3 := Lib.hid (HBa.out.grown hg3 HSZ.out (own_low HOa.out))
              rw [← HSN.out] at hO3
              have HO3 := Lib.hid hO3
              have HP3 : Hid (∀ o, o < P → w5.cell? ⟨B0, o, none⟩ = some (.int .i64 (btw f a o m : Nat))) := HGQ.out w5 HB3.out
              clear hO3 hg3 HOa HBa HCEL HSZ HSN HGP
              go_wp2_with fail
              go_roundw
              case rel => exact ⟨l ++ [k], k + 1, by omega, by go_num, by rw [List.length_append]; exact HO3.out, HK2.out, HB3.out, HP3.out⟩
              case measure => simp [intOf]; omega
            · have hm : k ∈ l := of_decide_eq_true HQ.out.symm
              have HK2 := Lib.hid (HK.out.skip fun _ => hm)
              go_wp2_with fail
              go_roundw
              case rel => exact ⟨l, k + 1, by omega, by go_num, HO.out, HK2.out, HBW.out, HGP.out⟩
              case measure => simp [intOf]; omega
          · have HK2 := Lib.hid (HK.out.skip fun h => absurd h hp)
            have d1 : decide (0 < btw f a k m) = false := decide_eq_false hp
            have d2 : decide ((0 : Int) < (btw f a k m : Nat)) = false := decide_eq_false (by omega)
            obtain ⟨t, ht⟩ : ∃ t, t = btw f a k m := ⟨_, rfl⟩
            rw [← ht] at hc d1 d2
            clear ht hp HCT
            go_wp2_with fail
            go_roundw
            case rel => exact ⟨l, k + 1, by omega, by go_num, HO.out, HK2.out, HBW.out, HGP.out⟩
            case measure => simp [intOf]; omega
        · obtain rfl : k = P := by omega
          have HS2 := Lib.hid HK.out.close
          go_wp2_with fail
          go_roundw
          case rel => exact ⟨l, i + 1, by go_num, HO.out, HS2.out, HBW.out⟩
          case measure => simp [intOf]; omega
      --}
    · --{END
      have HFI := Lib.hid (HS.out.fin HE.out (by omega))
      obtain rfl : i = l.length := by omega
      have HN := Lib.hid (HN.out.keep HBW.out)
      have hgc := (HG.out.keep HBW.out HG.out.lt).cell 0
      dsimp only [List.getElem?_cons_zero] at hgc
      have HB := Lib.hid (HB.out.trans (HBW.out.mono HB.out.size))
      by_cases hc : l.length < P
      · have hno : ¬ ConnG P f m := fun h => HFI.out.1 h hc
        go_wp2_with fail
        exact hbad hno HB.out
      · have hyes : ConnG P f m := HFI.out.2 hc
        go_wp2_with fail
        exact hok hyes HN.out HB.out
      --}
end Rt
end Go.Proofs.Ytjikildiblchpaa
