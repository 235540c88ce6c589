/- PLANES: what the program and the document say is one. -/
import Derived.Test.YtdckcejkliggfaaDoorPnGa
import Derived.Test.YtdckcejkliggfaaDoorPnL
namespace Go.Proofs.YtdckcejkliggfaaDoor
set_option linter.unusedSimpArgs false
set_option linter.unusedVariables false
open Go.RowKit
namespace Pn
open Tld Mem Bl

theorem bb_all (W H : Nat) (f : Nat → Nat → Nat) : ∀ k, k ≤ W * H → ∃ l t r b, BB W H f k l t r b
  | 0, _ => ⟨_, _, _, _, BB.zero⟩
  | k + 1, hk => by
    obtain ⟨l, t, r, b, h⟩ := bb_all W H f k (by omega)
    have hW : 0 < W := by
      rcases Nat.eq_zero_or_pos W with e | e
      · rw [e, Nat.zero_mul] at hk; omega
      · exact e
    by_cases hc : f (k % W) (k / W) = 0
    · exact ⟨_, _, _, _, h.dead hc⟩
    · exact ⟨_, _, _, _, h.live hc rfl rfl (Nat.mod_lt _ hW) (Nat.div_lt_of_lt_mul (by omega))⟩
theorem ext_box (W H : Nat) (f : Nat → Nat → Nat) (hd : ¬ Dead (ext W H f)) : ∃ l t r b, Box (ext W H f) l t r b := by
  obtain ⟨l, t, r, b, h⟩ := bb_all W H f (W * H) (Nat.le_refl _)
  by_cases hr : r < 0
  · exact absurd (lies_ext.dead (h.none hr)) hd
  · obtain ⟨l', t', r', b', _, _, _, _, hg⟩ := h.box hr
    exact (lies_ext.held (c := f) hg).box hd
theorem tells_at {B S most n : Nat} {L0 : Int → Int → Nat} {u v : Int} (h : Tells B S L0 most (.at n u v)) : ¬ Dead L0 ∧ Came L0 (far B S L0 n) u v := by
  rcases h with ⟨_, h⟩ | ⟨_, _, h⟩ | ⟨h0, m, _, _, _, ⟨_, h⟩ | ⟨_, _, h⟩ | ⟨_, _, u', v', hc, h⟩⟩
  · cases h
  · cases h
  · cases h
  · cases h
  · cases h; exact ⟨h0, hc⟩
theorem tells_one {B S most W H : Nat} {f : Nat → Nat → Nat} {o o' : Out} (h : Tells B S (ext W H f) most o) (h' : Tells B S (ext W H f) most o') : o = o' := by
  have hl := tells_like (a := 1) (b := 0) (c := 0) (d := 1) (e := 0) (f := 0) (.inl ⟨rfl, rfl, .inl rfl, .inl rfl⟩) (fun x y => by
    show ext W H f x y = ext W H f _ _
    congr 1 <;> omega) (ext_box W H f) h h'
  cases o with
  | full => cases o' with
    | full => rfl
    | none => exact absurd hl id
    | «at» n' u' v' => exact absurd hl id
  | none => cases o' with
    | full => exact absurd hl id
    | none => rfl
    | «at» n' u' v' => exact absurd hl id
  | «at» n u v => cases o' with
    | full => exact absurd hl id
    | none => exact absurd hl id
    | «at» n' u' v' =>
      obtain ⟨hn, _⟩ : n = n' ∧ u * u + v * v = u' * u' + v' * v' := hl
      subst hn
      obtain ⟨hd, hc⟩ := tells_at h
      obtain ⟨_, hc'⟩ := tells_at h'
      obtain ⟨l, t, r, b, hb⟩ := ext_box W H f hd
      obtain ⟨e1, e2⟩ := Came.unique hb hc hc'
      rw [e1, e2]
/-- What Grow says: width, height, place, number of the fault, cells. -/
structure OutG where
  W : Int
  H : Int
  X : Int
  Y : Int
  e : Int
  zs : List Int
def TellsG (B S : Nat) (L : Int → Int → Nat) (n : Nat) (o : OutG) : Prop :=
  (Bursts B S L n ∧ o = ⟨0, 0, 0, 0, 4, []⟩) ∨ ((Grows B S L n ∧ Dead (far B S L n)) ∧ o = ⟨0, 0, 0, 0, 0, []⟩) ∨ (∃ Wg Hg : Nat, ∃ fg X Y, (Grows B S L n ∧ Held (far B S L n) Wg Hg fg X Y) ∧ 0 < Wg ∧ o = ⟨Wg, Hg, X, Y, 0, flat Wg Hg fg⟩)
theorem burst_not {B S n : Nat} {L : Int → Int → Nat} (h : Bursts B S L n) (h' : Grows B S L n) : False := by
  obtain ⟨m, h1, _, h3⟩ := h
  exact h' (m + 1) (by omega) (by omega) h3
theorem tellsG_one {B S n : Nat} {L : Int → Int → Nat} {o o' : OutG} (h : TellsG B S L n o) (h' : TellsG B S L n o') : o = o' := by
  rcases h with ⟨hb, rfl⟩ | ⟨⟨hg, hd⟩, rfl⟩ | ⟨Wg, Hg, fg, X, Y, ⟨hg, hh⟩, hp, rfl⟩
  · rcases h' with ⟨_, rfl⟩ | ⟨⟨hg', _⟩, _⟩ | ⟨_, _, _, _, _, ⟨hg', _⟩, _⟩
    · rfl
    · exact absurd hg' (burst_not hb)
    · exact absurd hg' (burst_not hb)
  · rcases h' with ⟨hb, _⟩ | ⟨_, rfl⟩ | ⟨Wg', Hg', fg', X', Y', ⟨_, hh'⟩, hp', _⟩
    · exact absurd hg (burst_not hb)
    · rfl
    · have := hh'.dead.2 hd; omega
  · rcases h' with ⟨hb, _⟩ | ⟨⟨_, hd⟩, _⟩ | ⟨Wg', Hg', fg', X', Y', ⟨_, hh'⟩, hp', rfl⟩
    · exact absurd hg (burst_not hb)
    · have := hh.dead.2 hd; omega
    · obtain ⟨e1, e2, e3, e4⟩ := hh.unique hh'
      obtain ⟨e5, e6⟩ := e4 hp
      rw [e1, e2, e3, e5, e6] at *
theorem only_one {α : Type} {P : α → Prop} (d : α) (h : ∀ o o', P o → P o' → o = o') : ∃ o, ∀ o', P o' → o' = o := by
  by_cases hx : ∃ o, P o
  · obtain ⟨o, ho⟩ := hx
    exact ⟨o, fun o' ho' => h o' o ho' ho⟩
  · exact ⟨d, fun o' ho' => absurd ⟨o', ho'⟩ hx⟩
theorem only_one2 {α : Type} {P Q : α → Prop} (d : α) (h : ∀ o o', P o → P o' → o = o') (hd : Q d) : ∃ o, (∀ o', P o' → o' = o) ∧ ((∀ o', P o' → Q o') → Q o) := by
  by_cases hx : ∃ o, P o
  · obtain ⟨o, ho⟩ := hx
    exact ⟨o, fun o' ho' => h o' o ho' ho, fun k => k o ho⟩
  · exact ⟨d, fun o' ho' => absurd ⟨o', ho'⟩ hx, fun _ => hd⟩
/-- Again, twice. -/
theorem again_two (K B S st ra : Int) (ta : Option Addr) (tn tc : Nat) (tz : List Int) (tu : ByteArray) (W H : Int) (a : Option Addr) (n c : Nat) (zs : List Int) (m : Int) (w : World) (hT : Ints.Is w ta tn tz) (hu : tu.size ≤ 9223372036854775807) (hZ : Ints.Is w a n zs) (hc : n ≤ c) (h : plf K B S st ra tn tz tu W H zs = 0) :
    ∃ x y z ev : Int, (-1000 ≤ ev ∧ ev ≤ 1000) ∧
      (∀ w2, Below w.heap.size w w2 → Calls Tryd.prog 16 #[.agg #[.int .i64 K, .int .i64 B, .int .i64 S, .int .i64 st, .int .i64 ra, .slice ta tn tc, .string tu], .agg #[.int .i64 W, .int .i64 H, .slice a n c], .int .i64 m] w2 fun e w' => (e = .returned (.tuple #[.agg #[.int .i64 x, .int .i64 y, .int .i64 z], .int .i64 ev])) ∧ Below w2.heap.size w2 w') ∧
      (∀ w2, Below w.heap.size w w2 → Calls Tryd.prog 10 #[.agg #[.int .i64 K, .int .i64 B, .int .i64 S, .int .i64 st, .int .i64 ra, .slice ta tn tc, .string tu], .agg #[.int .i64 W, .int .i64 H, .slice a n c], .int .i64 m] w2 fun e w' => (e = .returned (.tuple #[.agg #[.int .i64 x, .int .i64 y, .int .i64 z], errV ev])) ∧ Below w2.heap.size w2 w') := by
  obtain ⟨rfl, hl, hp⟩ := plf_zero h
  obtain ⟨W', H', rfl, rfl, hW, hH, hlen, hzs, hlt⟩ := pfault_zero hp
  obtain ⟨Bn, rfl, hB⟩ := bits_nat hl.b
  obtain ⟨Sn, rfl, hS⟩ := bits_nat hl.s
  have hn := hZ.len
  rw [hzs] at hZ h
  have hnn : n = W' * H' := by rw [← hn]; exact hlen
  by_cases hbad : (Bn : Int) % 2 = 1 ∨ m < 1 ∨ 64 < m
  · refine ⟨0, 0, 0, 1, by decide, fun w2 hw => ?_, fun w2 hw => ?_⟩
    · exact dagain_bad 1 st ra Bn Sn ta tn tc tu W' H' a n c m w2 hB (by omega)
    · have ha : afl 1 Bn Sn st ra tn tz tu W' H' (flat W' H' (cel zs W')) m = 1 := by
        unfold afl
        rw [if_neg (fun x => x h), if_pos hbad]
      have := again_bad 1 Bn Sn st ra ta tn tc tz tu W' H' a n c (flat W' H' (cel zs W')) m w2 (hT.keep hw) hu (hZ.keep hw) (by rw [ha]; decide)
      rw [ha] at this
      exact this
  · obtain ⟨most, rfl⟩ := Int.eq_ofNat_of_zero_le (show 0 ≤ m by omega)
    obtain ⟨o, ho⟩ := only_one (P := Tells Bn Sn (ext W' H' (cel zs W')) most) .none (fun o o' h1 h2 => tells_one h1 h2)
    have k1 := fun w2 (hw : Below w.heap.size w w2) => dagain_ok 1 st ra Bn Sn ta tn tc tu W' H' a n c (cel zs W') most w2 hB hS (by omega) (hZ.keep hw) hnn hW hH hlt (by omega) (by omega)
    have k2 := fun w2 (hw : Below w.heap.size w w2) => again_ok 1 st ra Bn Sn ta tn tc tz tu W' H' a n c (cel zs W') most w2 hB hS (by omega) (hT.keep hw) hu (hZ.keep hw) hnn hc hW hH hlt h (by omega) (by omega)
    cases o with
    | full =>
      refine ⟨0, 0, 0, 4, by decide, fun w2 hw => (k1 w2 hw).mono ?_, fun w2 hw => (k2 w2 hw).mono ?_⟩
      all_goals
        rintro e w' ⟨⟨o', rfl, ht⟩, hb⟩
        rw [ho o' ht]
        exact ⟨rfl, hb⟩
    | none =>
      refine ⟨0, 0, 0, 5, by decide, fun w2 hw => (k1 w2 hw).mono ?_, fun w2 hw => (k2 w2 hw).mono ?_⟩
      all_goals
        rintro e w' ⟨⟨o', rfl, ht⟩, hb⟩
        rw [ho o' ht]
        exact ⟨rfl, hb⟩
    | «at» k u v =>
      refine ⟨k, u, v, 0, by decide, fun w2 hw => (k1 w2 hw).mono ?_, fun w2 hw => (k2 w2 hw).mono ?_⟩
      · rintro e w' ⟨⟨o', rfl, ht⟩, hb⟩
        rw [ho o' ht]
        exact ⟨rfl, hb⟩
      · rintro e w' ⟨⟨o', rfl, ht⟩, hb⟩
        rw [ho o' ht, errV_zero rfl]
        exact ⟨rfl, hb⟩
theorem is_nil (w : World) : Ints.Is w none 0 [] := ⟨rfl, fun i hi => absurd hi (Nat.not_lt_zero _), Nat.zero_le _⟩
/-- Grow, twice. -/
theorem grow_two (K B S st ra : Int) (ta : Option Addr) (tn tc : Nat) (tz : List Int) (tu : ByteArray) (W H : Int) (a : Option Addr) (n c : Nat) (zs : List Int) (m : Int) (w : World) (hT : Ints.Is w ta tn tz) (hu : tu.size ≤ 9223372036854775807) (hZ : Ints.Is w a n zs) (hc : n ≤ c) (h : plf K B S st ra tn tz tu W H zs = 0) :
    ∃ o : OutG, (-1000 ≤ o.e ∧ o.e ≤ 1000) ∧
      (∀ w2, Below w.heap.size w w2 → Calls Tryd.prog 14 #[.agg #[.int .i64 K, .int .i64 B, .int .i64 S, .int .i64 st, .int .i64 ra, .slice ta tn tc, .string tu], .agg #[.int .i64 W, .int .i64 H, .slice a n c], .int .i64 m] w2 fun e w' => (∃ a1 n1 c1, e = .returned (.tuple #[grn o.W o.H a1 n1 c1 o.X o.Y, .int .i64 o.e]) ∧ Ints.Is w' a1 n1 o.zs ∧ (∀ b off, a1 = some ⟨b, off, none⟩ → n1 ≠ 0 → w2.heap.size ≤ b)) ∧ Below w2.heap.size w2 w') ∧
      (∀ w2, Below w.heap.size w w2 → Calls Tryd.prog 15 #[.agg #[.int .i64 K, .int .i64 B, .int .i64 S, .int .i64 st, .int .i64 ra, .slice ta tn tc, .string tu], .agg #[.int .i64 W, .int .i64 H, .slice a n c], .int .i64 m] w2 fun e w' => (∃ a1 n1 c1, e = .returned (.tuple #[.agg #[.int .i64 o.W, .int .i64 o.H, .slice a1 n1 c1], .int .i64 o.X, .int .i64 o.Y, errV o.e]) ∧ Ints.Is w' a1 n1 o.zs) ∧ Below w2.heap.size w2 w') := by
  obtain ⟨rfl, hl, hp⟩ := plf_zero h
  obtain ⟨W', H', rfl, rfl, hW, hH, hlen, hzs, hlt⟩ := pfault_zero hp
  obtain ⟨Bn, rfl, hB⟩ := bits_nat hl.b
  obtain ⟨Sn, rfl, hS⟩ := bits_nat hl.s
  have hn := hZ.len
  rw [hzs] at hZ h
  have hnn : n = W' * H' := by rw [← hn]; exact hlen
  by_cases hbad : (Bn : Int) % 2 = 1 ∨ m < 0 ∨ 100000 < m
  · refine ⟨⟨0, 0, 0, 0, 1, []⟩, by decide, fun w2 hw => ?_, fun w2 hw => ?_⟩
    · exact (dgrow_bad 1 st ra Bn Sn ta tn tc tu W' H' a n c m w2 hB (by omega)).mono fun e w' hx => ⟨⟨none, 0, 0, hx.1, is_nil _, fun b off e => by cases e⟩, hx.2⟩
    · have ha : gfl 1 Bn Sn st ra tn tz tu W' H' (flat W' H' (cel zs W')) m = 1 := by
        unfold gfl
        rw [if_neg (fun x => x h), if_pos hbad]
      have := grow_bad 1 Bn Sn st ra ta tn tc tz tu W' H' a n c (flat W' H' (cel zs W')) m w2 (hT.keep hw) hu (hZ.keep hw) (by rw [ha]; decide)
      rw [ha] at this
      exact this.mono fun e w' hx => ⟨⟨none, 0, 0, hx.1, is_nil _⟩, hx.2⟩
  · obtain ⟨steps, rfl⟩ := Int.eq_ofNat_of_zero_le (show 0 ≤ m by omega)
    obtain ⟨o, ho, ho2⟩ := only_one2 (P := TellsG Bn Sn (ext W' H' (cel zs W')) steps) (Q := fun o => -1000 ≤ o.e ∧ o.e ≤ 1000) ⟨0, 0, 0, 0, 0, []⟩ (fun o o' h1 h2 => tellsG_one h1 h2) (by decide)
    have k1 := fun w2 (hw : Below w.heap.size w w2) => dgrow_ok 1 st ra Bn Sn ta tn tc tu W' H' a n c (cel zs W') steps w2 hB hS (by omega) (hZ.keep hw) hnn hW hH hlt (by omega)
    have k2 := fun w2 (hw : Below w.heap.size w w2) => grow_ok 1 st ra Bn Sn ta tn tc tz tu W' H' a n c (cel zs W') steps w2 hB hS (by omega) (hT.keep hw) hu (hZ.keep hw) hnn hc hW hH hlt h (by omega)
    by_cases he : -1000 ≤ o.e ∧ o.e ≤ 1000
    · refine ⟨o, he, fun w2 hw => (k1 w2 hw).mono ?_, fun w2 hw => (k2 w2 hw).mono ?_⟩
      · rintro e w' ⟨⟨rfl, hb⟩ | ⟨rfl, hg⟩ | ⟨Wg, Hg, ag, ng, cg, Xg, Yg, rfl, fg, hg, hp, hng, hi, hab⟩, hbl⟩
        · rw [← ho _ (.inl ⟨hb, rfl⟩)]
          exact ⟨⟨none, 0, 0, rfl, is_nil _, fun b off e => by cases e⟩, hbl⟩
        · rw [← ho _ (.inr (.inl ⟨hg, rfl⟩))]
          exact ⟨⟨none, 0, 0, rfl, is_nil _, fun b off e => by cases e⟩, hbl⟩
        · rw [← ho _ (.inr (.inr ⟨Wg, Hg, fg, Xg, Yg, hg, hp, rfl⟩))]
          exact ⟨⟨ag, ng, cg, rfl, hi, hab⟩, hbl⟩
      · rintro e w' ⟨⟨rfl, hb⟩ | ⟨rfl, hg⟩ | ⟨Wg, Hg, ag, ng, cg, Xg, Yg, rfl, fg, hg, hp, hng, hcg, hw1, hh1, hl1, hi⟩, hbl⟩
        · rw [← ho _ (.inl ⟨hb, rfl⟩)]
          exact ⟨⟨none, 0, 0, rfl, is_nil _⟩, hbl⟩
        · rw [← ho _ (.inr (.inl ⟨hg, rfl⟩))]
          exact ⟨⟨none, 0, 0, rfl, is_nil _⟩, hbl⟩
        · rw [← ho _ (.inr (.inr ⟨Wg, Hg, fg, Xg, Yg, hg, hp, rfl⟩))]
          exact ⟨⟨ag, ng, cg, rfl, hi⟩, hbl⟩
    · exfalso
      apply he
      have hbd : ∀ o', TellsG Bn Sn (ext W' H' (cel zs W')) steps o' → -1000 ≤ o'.e ∧ o'.e ≤ 1000 := fun o' ho' => by
        rcases ho' with ⟨_, rfl⟩ | ⟨_, rfl⟩ | ⟨Wg, Hg, fg, X, Y, _, _, rfl⟩
        · exact ⟨by decide, by decide⟩
        · exact ⟨by decide, by decide⟩
        · exact ⟨(by decide : (-1000 : Int) ≤ 0), (by decide : (0 : Int) ≤ 1000)⟩
      exact ho2 hbd
/-- A step on rings, twice. -/
theorem torus_two (K B S st ra : Int) (ta : Option Addr) (tn tc : Nat) (tz : List Int) (tu : ByteArray) (W H : Int) (a : Option Addr) (n c : Nat) (zs : List Int) (w : World) (hT : Ints.Is w ta tn tz) (hu : tu.size ≤ 9223372036854775807) (hZ : Ints.Is w a n zs) (hc : n ≤ c) (h : plf K B S st ra tn tz tu W H zs = 0) :
    ∃ W1 H1 : Int, ∃ z1, (∀ w2, Below w.heap.size w w2 → Calls Tryd.prog 13 #[.agg #[.int .i64 K, .int .i64 B, .int .i64 S, .int .i64 st, .int .i64 ra, .slice ta tn tc, .string tu], .agg #[.int .i64 W, .int .i64 H, .slice a n c]] w2 fun e w' => (∃ a1 n1 c1, e = .returned (.agg #[.int .i64 W1, .int .i64 H1, .slice a1 n1 c1]) ∧ Ints.Is w' a1 n1 z1 ∧ (∀ b off, a1 = some ⟨b, off, none⟩ → n1 ≠ 0 → w2.heap.size ≤ b)) ∧ Below w2.heap.size w2 w') ∧
      (∀ w2, Below w.heap.size w w2 → Calls Tryd.prog 8 #[.agg #[.int .i64 K, .int .i64 B, .int .i64 S, .int .i64 st, .int .i64 ra, .slice ta tn tc, .string tu], .agg #[.int .i64 W, .int .i64 H, .slice a n c]] w2 fun e w' => (∃ a1 n1 c1, e = .returned (.tuple #[.agg #[.int .i64 W1, .int .i64 H1, .slice a1 n1 c1], .nilIface]) ∧ Ints.Is w' a1 n1 z1) ∧ Below w2.heap.size w2 w') := by
  obtain ⟨rfl, hl, hp⟩ := plf_zero h
  obtain ⟨W', H', rfl, rfl, hW, hH, hlen, hzs, hlt⟩ := pfault_zero hp
  obtain ⟨Bn, rfl, hB⟩ := bits_nat hl.b
  obtain ⟨Sn, rfl, hS⟩ := bits_nat hl.s
  have hn := hZ.len
  rw [hzs] at hZ h
  have hnn : n = W' * H' := by rw [← hn]; exact hlen
  have hn2 : n ≤ 40000 := by rw [hnn]; exact Nat.le_trans (Nat.mul_le_mul hW hH) (by decide)
  refine ⟨W', H', flat W' H' (tor Bn Sn W' H' (cel zs W')), fun w2 hw => ?_, fun w2 hw => ?_⟩
  · refine (dtorus_any 1 st ra Bn Sn ta tn tc tu W' H' a n c (cel zs W') w2 hB hS (hZ.keep hw) hnn (by omega) (by omega) hlt).mono ?_
    rintro e w' ⟨⟨a1, c1, rfl, hc1, hi, hab⟩, hb⟩
    exact ⟨⟨a1, n, c1, rfl, hi, fun b off e _ => hab b off e⟩, hb⟩
  · refine (Torus_ok 1 st ra Bn Sn ta tn tc tz tu W' H' a n c (cel zs W') w2 hB hS (hT.keep hw) hu (hZ.keep hw) hnn (by omega) (by omega) hlt h).mono ?_
    rintro e w' ⟨⟨g, rfl, hg, hv⟩, hb⟩
    exact ⟨⟨some ⟨g, 0, none⟩, n, n, rfl, hv.flat hnn (by unfold maxLen; omega)⟩, hb⟩
end Pn
end Go.Proofs.YtdckcejkliggfaaDoor
