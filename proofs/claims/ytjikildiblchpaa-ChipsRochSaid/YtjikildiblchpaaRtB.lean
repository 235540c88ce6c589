/- BOARDS: in memory; what is wrong with signs. -/
import Derived.Test.YtjikildiblchpaaRtG
namespace Go.Proofs.Ytjikildiblchpaa
set_option linter.unusedSimpArgs false
set_option linter.unusedVariables false
open Go.RowKit Go.Lib
namespace Rt
open Tld Mem

theorem own_chg {w w' : World} {B : Nat} {e : TypeId} {v : Value} {n : Nat} {xs : List Value} {X : Nat → Prop} (h : w.ownsRow B e 1 v n xs) (hc : Chg X w w') (hx : ∀ b, v.ownBlock = some b → ¬ X b) : w'.ownsRow B e 1 v n xs := by
  refine ⟨h.1, ?_⟩
  rcases h.2 with h2 | ⟨g, cap, cur, h1, hb, hg, rest⟩
  · exact .inl h2
  · subst h1
    exact .inr ⟨g, cap, cur, rfl, hb, by rw [hc.block g (Array.getElem?_eq_some_iff.1 hg).1 (hx g rfl)]; exact hg, rest⟩
theorem row_chg {w w' : World} {b : Nat} {T : TypeId} {cs : List Value} {X : Nat → Prop} (h : Row w b T cs) (hc : Chg X w w') (hx : ¬ X b) : Row w' b T cs := (hc.block b h.lt hx).trans h
/-- Places' ways in the making: each a slice of the call's own. -/
structure Wys (w : World) (B bw P : Nat) (L : Nat → List Nat) (LV : List Value) : Prop where
  row : Row w bw 25 LV
  len : LV.length = P
  own : ∀ k, k < P → ∃ v, LV[k]? = some v ∧ w.ownsRow B 3 1 v (L k).length (intsL (L k))
  dis : ∀ (j k : Nat) (v u : Value), j ≠ k → LV[j]? = some v → LV[k]? = some u → ∀ b, v.ownBlock = some b → u.ownBlock ≠ some b
theorem Wys.start {w : World} {B bw P : Nat} (h : Row w bw 25 (List.replicate P (.slice none 0 0))) : Wys w B bw P (fun _ => []) (List.replicate P (.slice none 0 0)) where
  row := h
  len := by simp
  own := fun k hk => ⟨.slice none 0 0, by rw [List.getElem?_replicate, if_pos hk], rfl, .inl ⟨rfl, rfl⟩⟩
  dis := fun j k v u _ hj hk b hb => by
    rw [List.getElem?_replicate] at hj
    split at hj
    · cases hj; cases hb
    · cases hj
theorem Wys.keep {w w' : World} {B bw P : Nat} {L : Nat → List Nat} {LV : List Value} (h : Wys w B bw P L LV) (hb : Below w.heap.size w w') : Wys w' B bw P L LV :=
  ⟨h.row.keep hb h.row.lt, h.len, fun k hk => by
    obtain ⟨v, h1, h2⟩ := h.own k hk
    exact ⟨v, h1, own_keep h2 hb⟩, h.dis⟩
theorem intsL_snoc {l : List Nat} {x : Nat} : intsL (l ++ [x]) = intsL l ++ [.int .i64 (x : Int)] := by
  unfold intsL; rw [List.map_append]; rfl
theorem Wys.two {w w' : World} {B bw P a c nA nC : Nat} {L L' : Nat → List Nat} {LV : List Value} {vA vC vA' vC' : Value} (h : Wys w B bw P L LV) (hac : a ≠ c) (ha : a < P) (hc : c < P) (hvA : LV[a]? = some vA) (hvC : LV[c]? = some vC)
    (hR : Row w' bw 25 ((LV.set a vA').set c vC')) (hT : Two w w' B bw vA vC vA' vC' nA nC (intsL (L' a)) (intsL (L' c))) (hnA : nA = (L' a).length) (hnC : nC = (L' c).length) (hL : ∀ k, k ≠ a → k ≠ c → L' k = L k) (hbw : bw < B) : Wys w' B bw P L' ((LV.set a vA').set c vC') := by
  have hlow : ∀ k v, k < P → LV[k]? = some v → ∀ b, v.ownBlock = some b → B ≤ b ∧ b < w.heap.size := fun k v hk hv b hb => by
    obtain ⟨v2, h1, h2⟩ := h.own k hk
    rw [hv] at h1
    cases h1
    exact h2.lt b hb
  have hat : ∀ k, k ≠ a → k ≠ c → ((LV.set a vA').set c vC')[k]? = LV[k]? := fun k h1 h2 => by
    rw [List.getElem?_set_ne (Ne.symm h2), List.getElem?_set_ne (Ne.symm h1)]
  have haa : ((LV.set a vA').set c vC')[a]? = some vA' := by
    rw [List.getElem?_set_ne (Ne.symm hac), List.getElem?_set_self (by rw [h.len]; exact ha)]
  have hcc : ((LV.set a vA').set c vC')[c]? = some vC' := List.getElem?_set_self (by rw [List.length_set, h.len]; exact hc)
  have hloc : ∀ k v v0 v', k < P → LV[k]? = some v → Loc w v0 v' → (∀ b, v0.ownBlock = some b → v.ownBlock ≠ some b) → ∀ b, v.ownBlock = some b → v'.ownBlock ≠ some b := fun k v v0 v' hk hv hl hd b hb hb' => by
    rcases hl with hl | ⟨b2, hl, hge⟩
    · rw [hl] at hb'
      exact hd b hb' hb
    · rw [hl] at hb'
      cases hb'
      have := (hlow k v hk hv b hb).2
      omega
  refine ⟨hR, by rw [List.length_set, List.length_set, h.len], fun k hk => ?_, fun j k v u hjk hj hk b hb => ?_⟩
  · by_cases e1 : k = a
    · subst e1; exact ⟨vA', haa, by rw [← hnA]; exact hT.a⟩
    · by_cases e2 : k = c
      · subst e2; exact ⟨vC', hcc, by rw [← hnC]; exact hT.c⟩
      · obtain ⟨v, h1, h2⟩ := h.own k hk
        refine ⟨v, by rw [hat k e1 e2]; exact h1, ?_⟩
        rw [hL k e1 e2]
        refine own_chg h2 hT.chg fun b hb hx => ?_
        rcases hx with hx | hx | hx
        · have := (h2.lt b hb).1
          omega
        · exact h.dis a k vA v (Ne.symm e1) hvA h1 b hx hb
        · exact h.dis c k vC v (Ne.symm e2) hvC h1 b hx hb
  · have hkP : ∀ {k u}, ((LV.set a vA').set c vC')[k]? = some u → k < P := fun {k u} h1 => by
      have := (List.getElem?_eq_some_iff.1 h1).1
      rw [List.length_set, List.length_set, h.len] at this
      exact this
    by_cases j1 : j = a
    · subst j1
      rw [haa] at hj; cases hj
      by_cases k2 : k = c
      · subst k2; rw [hcc] at hk; cases hk; exact hT.dis b hb
      · have hk' := hk
        rw [hat k (Ne.symm hjk) k2] at hk'
        exact fun hu => hloc k u vA vA' (hkP hk) hk' hT.la (fun b => h.dis j k vA u hjk hvA hk' b) b hu hb
    · by_cases j2 : j = c
      · subst j2
        rw [hcc] at hj; cases hj
        by_cases k1 : k = a
        · subst k1; rw [haa] at hk; cases hk; exact fun hu => hT.dis b hu hb
        · have hk' := hk
          rw [hat k k1 (Ne.symm hjk)] at hk'
          exact fun hu => hloc k u vC vC' (hkP hk) hk' hT.lc (fun b => h.dis j k vC u hjk hvC hk' b) b hu hb
      · have hj' := hj
        rw [hat j j1 j2] at hj'
        by_cases k1 : k = a
        · subst k1; rw [haa] at hk; cases hk
          exact hloc j v vA vA' (hkP hj) hj' hT.la (fun b => h.dis k j vA v (Ne.symm hjk) hvA hj' b) b hb
        · by_cases k2 : k = c
          · subst k2; rw [hcc] at hk; cases hk
            exact hloc j v vC vC' (hkP hj) hj' hT.lc (fun b => h.dis k j vC v (Ne.symm hjk) hvC hj' b) b hb
          · have hk' := hk
            rw [hat k k1 k2] at hk'
            exact h.dis j k v u hjk hj' hk' b hb
/-- Ways, when t of the i-th edge's times are through. -/
def wayT (f : Nat → Nat → Int) (i t k : Nat) : List Nat := wayL f k i ++ if eA f i = k then List.replicate t (eB f i) else if eB f i = k then List.replicate t (eA f i) else []
theorem wayT_zero {f : Nat → Nat → Int} {i k : Nat} : wayT f i 0 k = wayL f k i := by
  unfold wayT
  split
  · simp
  · split <;> simp
theorem wayT_all {f : Nat → Nat → Int} {i k : Nat} : wayT f i (eT f i) k = wayL f k (i + 1) := rfl
theorem wayT_a {f : Nat → Nat → Int} {i t : Nat} : wayT f i (t + 1) (eA f i) = wayT f i t (eA f i) ++ [eB f i] := by
  unfold wayT
  rw [if_pos rfl, if_pos rfl, List.replicate_succ', List.append_assoc]
theorem wayT_b {P i t : Nat} {f : Nat → Nat → Int} (h : EdgeN P f i) : wayT f i (t + 1) (eB f i) = wayT f i t (eB f i) ++ [eA f i] := by
  have hne := h.ne
  unfold wayT
  rw [if_neg hne, if_pos rfl, if_neg hne, if_pos rfl, List.replicate_succ', List.append_assoc]
theorem wayT_no {f : Nat → Nat → Int} {i t k : Nat} (h1 : k ≠ eA f i) (h2 : k ≠ eB f i) : wayT f i (t + 1) k = wayT f i t k := by
  unfold wayT
  rw [if_neg (Ne.symm h1), if_neg (Ne.symm h2), if_neg (Ne.symm h1), if_neg (Ne.symm h2)]
theorem wayT_len {P m i t k : Nat} {f : Nat → Nat → Int} (h : ∀ i, i < m → EdgeN P f i) (hi : i < m) (hm : m ≤ 40) (ht : t ≤ 100) : (wayT f i t k).length ≤ 5000 := by
  have h1 := wayL_len (P := P) (f := f) (k := k) (m := i)
  have h2 : deg f k i ≤ 100 * i := deg_le fun j hj => h j (by omega)
  unfold wayT
  rw [List.length_append]
  split
  · rw [List.length_replicate]; omega
  · split
    · rw [List.length_replicate]; omega
    · simp; omega

/-- A sign that may be. -/
def SignOk (s : Nat) (d : Nat → Nat) (k : Nat) (z : Int) : Prop := 0 ≤ z ∧ (k = s → z = 0) ∧ (k ≠ s → z < (d k : Int))
/-- What is wrong with a graph, a sink, signs. -/
noncomputable def sfault (P : Int) (m : Nat) (f : Nat → Nat → Int) (sink : Int) (sz : List Int) : Int := by
  classical exact if gfault P m f ≠ 0 then gfault P m f else if sink < 0 ∨ P ≤ sink then 1 else if (sz.length : Int) ≠ P then 3 else if ∃ k, k < P.toNat ∧ ¬ SignOk sink.toNat (fun k => deg f k m) k (sz.getD k 0) then 1 else 0
theorem sfault_g {P : Int} {m : Nat} {f : Nat → Nat → Int} {sink : Int} {sz : List Int} (h : gfault P m f ≠ 0) : sfault P m f sink sz = gfault P m f := by unfold sfault; rw [if_pos h]
theorem sfault_s {P : Int} {m : Nat} {f : Nat → Nat → Int} {sink : Int} {sz : List Int} (h : gfault P m f = 0) (hs : sink < 0 ∨ P ≤ sink) : sfault P m f sink sz = 1 := by unfold sfault; rw [if_neg (fun x => x h), if_pos hs]
theorem sfault_l {P : Int} {m : Nat} {f : Nat → Nat → Int} {sink : Int} {sz : List Int} (h : gfault P m f = 0) (hs : ¬ (sink < 0 ∨ P ≤ sink)) (hl : (sz.length : Int) ≠ P) : sfault P m f sink sz = 3 := by unfold sfault; rw [if_neg (fun x => x h), if_neg hs, if_pos hl]
theorem sfault_b {P : Int} {m : Nat} {f : Nat → Nat → Int} {sink : Int} {sz : List Int} (h : gfault P m f = 0) (hs : ¬ (sink < 0 ∨ P ≤ sink)) (hl : ¬ (sz.length : Int) ≠ P) (hb : ∃ k, k < P.toNat ∧ ¬ SignOk sink.toNat (fun k => deg f k m) k (sz.getD k 0)) : sfault P m f sink sz = 1 := by unfold sfault; rw [if_neg (fun x => x h), if_neg hs, if_neg hl, if_pos hb]
theorem sfault_ok {P : Int} {m : Nat} {f : Nat → Nat → Int} {sink : Int} {sz : List Int} (h : gfault P m f = 0) (hs : ¬ (sink < 0 ∨ P ≤ sink)) (hl : ¬ (sz.length : Int) ≠ P) (hb : ∀ k, k < P.toNat → SignOk sink.toNat (fun k => deg f k m) k (sz.getD k 0)) : sfault P m f sink sz = 0 := by unfold sfault; rw [if_neg (fun x => x h), if_neg hs, if_neg hl, if_neg (fun ⟨k, hk, hn⟩ => hn (hb k hk))]
/-- .. and chips. -/
noncomputable def bfault (P : Int) (m : Nat) (f : Nat → Nat → Int) (sink : Int) (sz cz : List Int) : Int := by
  classical exact if sfault P m f sink sz ≠ 0 then sfault P m f sink sz else cfault P.toNat sink.toNat cz
theorem bfault_s {P : Int} {m : Nat} {f : Nat → Nat → Int} {sink : Int} {sz cz : List Int} (h : sfault P m f sink sz ≠ 0) : bfault P m f sink sz cz = sfault P m f sink sz := by unfold bfault; rw [if_pos h]
theorem bfault_c {P : Int} {m : Nat} {f : Nat → Nat → Int} {sink : Int} {sz cz : List Int} (h : sfault P m f sink sz = 0) : bfault P m f sink sz cz = cfault P.toNat sink.toNat cz := by unfold bfault; rw [if_neg (fun x => x h)]
/-- Where a board's rows lie. -/
structure BA where
  bw : Nat
  bs : Nat
  bc : Nat
  bt : Nat
  cs : Nat
  cc : Nat
  wa : Nat → Option Addr
  wc : Nat → Nat
/-- A board: ways, signs, chips, how many went. -/
structure Brd (w : World) (B bb : Nat) (x : BA) (P s m : Nat) (f : Nat → Nat → Int) (S C W : Nat → Int) : Prop where
  row : Row w bb 58 [.int .i64 (s : Int), .slice (some ⟨x.bw, 0, none⟩) P P, .slice (some ⟨x.bs, 0, none⟩) P x.cs, .slice (some ⟨x.bc, 0, none⟩) P x.cc, .slice (some ⟨x.bt, 0, none⟩) P P]
  wrow : ∃ LV, Row w x.bw 25 LV ∧ ∀ k, k < P → LV[k]? = some (.slice (x.wa k) (deg f k m) (x.wc k))
  wis : ∀ k, k < P → Ints.Is w (x.wa k) (deg f k m) ((wayL f k m).map Int.ofNat)
  sg : Vec w x.bs P S
  ch : Vec w x.bc P C
  wt : Vec w x.bt P W
  sc : x.bs ≠ x.bc
  st : x.bs ≠ x.bt
  ct : x.bc ≠ x.bt
  far : ∀ k, k < P → ∀ b o, x.wa k = some ⟨b, o, none⟩ → b ≠ x.bs ∧ b ≠ x.bc ∧ b ≠ x.bt
  ls : B ≤ x.bs
  lc : B ≤ x.bc
  lt : B ≤ x.bt
end Rt
end Go.Proofs.Ytjikildiblchpaa
