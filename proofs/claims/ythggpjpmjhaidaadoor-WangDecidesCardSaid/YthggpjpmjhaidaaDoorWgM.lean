/- THE MEMO: a map whose keys are rims. -/
import Derived.Test.YthggpjpmjhaidaaDoorWgW
import Derived.Maps.OwnOps
import Derived.Maps.Views
import Derived.DeepKeys4
import Derived.Maps.Keyed
namespace Go.Proofs.YthggpjpmjhaidaaDoor
set_option linter.unusedSimpArgs false
set_option linter.unusedVariables false
open Go.RowKit Go.Lib
namespace Wg
open Tld Mem

def ints (l : List Int) : List Value := l.map fun z => .int .i64 z
def rimL (r : Rm) : List Value := .int .i64 r.pos :: (ints r.over ++ .int .i64 r.left :: (ints r.first ++ ints r.top))
/-- A rim, as a value. -/
def rimV (r : Rm) : Value := .agg (rimL r).toArray
structure Fine (r : Rm) : Prop where
  pos : r.pos ≤ 25
  lover : r.over.length = 5
  lfirst : r.first.length = 5
  ltop : r.top.length = 5
  over : ∀ z ∈ r.over, -1 ≤ z ∧ z ≤ 7
  left : 0 ≤ r.left ∧ r.left ≤ 7
  first : ∀ z ∈ r.first, 0 ≤ z ∧ z ≤ 7
  top : ∀ z ∈ r.top, 0 ≤ z ∧ z ≤ 7
theorem five {l : List Int} (h : l.length = 5) : ∃ a b c d e, l = [a, b, c, d, e] := by
  match l, h with
  | [a, b, c, d, e], _ => exact ⟨a, b, c, d, e, rfl⟩
theorem wf_small {z : Int} (h : -1 ≤ z ∧ z ≤ 25) : (Lit.int .i64 z).wf = true := WalkArith.wf_i64 (by omega)
theorem rimKeyed : Maps.Keyed Tryd.prog 108 := Maps.Keyed.of_law (deep_law_laid (by kernel_rfl) (m := 10) (by omega) (by decide +kernel) (by kernel_rfl) (by kernel_rfl))
theorem rim_key {r : Rm} (h : Fine r) : ∃ kl, keyOf Tryd.prog 108 (rimV r) = some kl := by
  obtain ⟨p, o, l, f, t⟩ := r
  obtain ⟨hp, h1, h2, h3, ho, hl, hf, ht⟩ := h
  obtain ⟨o0, o1, o2, o3, o4, rfl⟩ := five h1
  obtain ⟨f0, f1, f2, f3, f4, rfl⟩ := five h2
  obtain ⟨t0, t1, t2, t3, t4, rfl⟩ := five h3
  simp at hp hl ho hf ht
  have e1 : Tryd.prog.keyType 108 = true := by kernel_rfl
  have e2 : Tryd.prog.cellsOf 108 = 17 := by kernel_rfl
  have e3 : Tryd.prog.cellsOf 106 = 5 := by kernel_rfl
  have e4 : Tryd.prog.cellsOf 3 = 1 := by kernel_rfl
  have e5 : Tryd.prog.types.size = 175 := by kernel_rfl
  have wp : (Lit.int .i64 (p : Int)).wf = true := wf_small (by omega)
  have wl : (Lit.int .i64 l).wf = true := wf_small (by omega)
  have w0 : (Lit.int .i64 o0).wf = true := wf_small (by omega)
  have w1 : (Lit.int .i64 o1).wf = true := wf_small (by omega)
  have w2 : (Lit.int .i64 o2).wf = true := wf_small (by omega)
  have w3 : (Lit.int .i64 o3).wf = true := wf_small (by omega)
  have w4 : (Lit.int .i64 o4).wf = true := wf_small (by omega)
  have x0 : (Lit.int .i64 f0).wf = true := wf_small (by omega)
  have x1 : (Lit.int .i64 f1).wf = true := wf_small (by omega)
  have x2 : (Lit.int .i64 f2).wf = true := wf_small (by omega)
  have x3 : (Lit.int .i64 f3).wf = true := wf_small (by omega)
  have x4 : (Lit.int .i64 f4).wf = true := wf_small (by omega)
  have y0 : (Lit.int .i64 t0).wf = true := wf_small (by omega)
  have y1 : (Lit.int .i64 t1).wf = true := wf_small (by omega)
  have y2 : (Lit.int .i64 t2).wf = true := wf_small (by omega)
  have y3 : (Lit.int .i64 t3).wf = true := wf_small (by omega)
  have y4 : (Lit.int .i64 t4).wf = true := wf_small (by omega)
  clear ho hl hf ht hp h1 h2 h3
  have hi : ∀ (d : Nat) (z : Int), (Lit.int .i64 z).wf = true → Tryd.prog.keyLits (d + 1) 3 [.int .i64 z] = some [.int .i64 z] := fun d z hz => by
    unfold Program.keyLits
    rw [Tryd.underlying3]
    simp [hz]
  have ha : ∀ (d : Nat) (a b c d' e : Int), (Lit.int .i64 a).wf = true → (Lit.int .i64 b).wf = true → (Lit.int .i64 c).wf = true → (Lit.int .i64 d').wf = true → (Lit.int .i64 e).wf = true →
      Tryd.prog.keyLits (d + 2) 106 [.int .i64 a, .int .i64 b, .int .i64 c, .int .i64 d', .int .i64 e] = some [.int .i64 a, .int .i64 b, .int .i64 c, .int .i64 d', .int .i64 e] := fun d a b c d' e g1 g2 g3 g4 g5 => by
    rw [show d + 2 = (d + 1) + 1 from rfl]
    unfold Program.keyLits
    rw [Tryd.underlying106]
    simp [e3, e4, hi, g1, g2, g3, g4, g5, List.range, List.range.loop]
  unfold keyOf
  rw [Tryd.underlying108]
  have ef : Value.formed Tryd.prog 108 (rimV ⟨p, [o0, o1, o2, o3, o4], l, [f0, f1, f2, f3, f4], [t0, t1, t2, t3, t4]⟩) = true := by
    unfold Value.formed rimV
    simp [Tryd.underlying108, rimL, ints, e2]
  have hk : Tryd.prog.keyLits (175 - 2 + 2 + 1) 108 (rimV ⟨p, [o0, o1, o2, o3, o4], l, [f0, f1, f2, f3, f4], [t0, t1, t2, t3, t4]⟩).cells.toList = some ([(p : Int), o0, o1, o2, o3, o4, l, f0, f1, f2, f3, f4, t0, t1, t2, t3, t4].map fun z : Int => Lit.int .i64 z) := by
    unfold Program.keyLits
    rw [Tryd.underlying108]
    simp [rimV, rimL, ints, Value.cells, e2, e3, e4, hi, ha, wp, wl, w0, w1, w2, w3, w4, x0, x1, x2, x3, x4, y0, y1, y2, y3, y4]
  simp only [e1, ef, Bool.and_self, if_true, e5]
  exact ⟨_, by rw [show 175 + 1 = 175 - 2 + 2 + 1 from rfl, hk]; rfl⟩
theorem rimV_inj {r s : Rm} (hr : Fine r) (hs : Fine s) (h : rimV r = rimV s) : r = s := by
  obtain ⟨p, o, l, f, t⟩ := r
  obtain ⟨p', o', l', f', t'⟩ := s
  obtain ⟨a0, a1, a2, a3, a4, rfl⟩ := five hr.lover
  obtain ⟨b0, b1, b2, b3, b4, rfl⟩ := five hr.lfirst
  obtain ⟨c0, c1, c2, c3, c4, rfl⟩ := five hr.ltop
  obtain ⟨a0', a1', a2', a3', a4', rfl⟩ := five hs.lover
  obtain ⟨b0', b1', b2', b3', b4', rfl⟩ := five hs.lfirst
  obtain ⟨c0', c1', c2', c3', c4', rfl⟩ := five hs.ltop
  simp [rimV, rimL, ints] at h
  simp [h]
  omega
open Classical in
/-- The key of a rim. -/
noncomputable def rimKey (r : Rm) : Lit := if h : ∃ kl, keyOf Tryd.prog 108 (rimV r) = some kl then Classical.choose h else .bool false
theorem rimKey_is {r : Rm} (h : Fine r) : keyOf Tryd.prog 108 (rimV r) = some (rimKey r) := by
  unfold rimKey
  rw [dif_pos (rim_key h)]
  exact Classical.choose_spec (rim_key h)
theorem rimKey_inj {r s : Rm} (hr : Fine r) (hs : Fine s) (h : rimKey r = rimKey s) : r = s := by
  have h1 := rimKey_is hr
  have h2 := rimKey_is hs
  rw [h] at h1
  exact rimV_inj hr hs (rimKeyed.inj h1 h2)

/-- A number for each rim: no two have the same. -/
def dig (b : Nat) : List Int → Nat
  | [] => 0
  | z :: r => (z + 1).toNat + b * dig b r
theorem dig_lt {b : Nat} (hb : 9 ≤ b) : ∀ {l : List Int}, (∀ z ∈ l, -1 ≤ z ∧ z ≤ 7) → dig b l < b ^ l.length
  | [], _ => by simp [dig]
  | z :: r, h => by
    have h1 := h z (List.mem_cons_self ..)
    have h2 := dig_lt hb (l := r) fun x hx => h x (List.mem_cons_of_mem _ hx)
    unfold dig
    rw [List.length_cons, Nat.pow_succ]
    have h3 : b * (dig b r + 1) ≤ b * b ^ r.length := Nat.mul_le_mul_left _ h2
    rw [Nat.mul_add, Nat.mul_one] at h3
    rw [Nat.mul_comm (b ^ r.length)]
    omega
theorem dig_inj {b : Nat} (hb : 9 ≤ b) : ∀ {l l' : List Int}, (∀ z ∈ l, -1 ≤ z ∧ z ≤ 7) → (∀ z ∈ l', -1 ≤ z ∧ z ≤ 7) → l.length = l'.length → dig b l = dig b l' → l = l'
  | [], [], _, _, _, _ => rfl
  | [], _ :: _, _, _, h, _ => by cases h
  | _ :: _, [], _, _, h, _ => by cases h
  | z :: r, z' :: r', h, h', hl, hd => by
    have h1 := h z (List.mem_cons_self ..)
    have h2 := h' z' (List.mem_cons_self ..)
    unfold dig at hd
    have hm : ((z + 1).toNat + b * dig b r) % b = ((z' + 1).toNat + b * dig b r') % b := by rw [hd]
    rw [Nat.add_mul_mod_self_left, Nat.add_mul_mod_self_left, Nat.mod_eq_of_lt (by omega), Nat.mod_eq_of_lt (by omega)] at hm
    have hz : z = z' := by omega
    subst hz
    have hq : b * dig b r = b * dig b r' := by omega
    have := dig_inj hb (l := r) (l' := r') (fun x hx => h x (List.mem_cons_of_mem _ hx)) (fun x hx => h' x (List.mem_cons_of_mem _ hx)) (by simpa using hl) (Nat.eq_of_mul_eq_mul_left (by omega) hq)
    rw [this]
def code (r : Rm) : Nat := r.pos + 26 * dig 9 (r.left :: (r.over ++ (r.first ++ r.top)))
theorem fine_all {r : Rm} (h : Fine r) : ∀ z ∈ r.left :: (r.over ++ (r.first ++ r.top)), -1 ≤ z ∧ z ≤ 7 := by
  intro z hz
  rcases List.mem_cons.1 hz with rfl | hz
  · have := h.left; omega
  rcases List.mem_append.1 hz with hz | hz
  · exact h.over z hz
  rcases List.mem_append.1 hz with hz | hz
  · have := h.first z hz; omega
  · have := h.top z hz; omega
theorem code_lt {r : Rm} (h : Fine r) : code r < 26 * 9 ^ 16 := by
  have h1 := dig_lt (b := 9) (by omega) (fine_all h)
  have h2 : (r.left :: (r.over ++ (r.first ++ r.top))).length = 16 := by simp [h.lover, h.lfirst, h.ltop]
  rw [h2] at h1
  have := h.pos
  unfold code
  omega
theorem code_inj {r s : Rm} (hr : Fine r) (hs : Fine s) (h : code r = code s) : r = s := by
  have h1 := hr.pos
  have h2 := hs.pos
  unfold code at h
  have hp : r.pos = s.pos := by omega
  have hd : dig 9 (r.left :: (r.over ++ (r.first ++ r.top))) = dig 9 (s.left :: (s.over ++ (s.first ++ s.top))) := by omega
  have hl := dig_inj (by omega) (fine_all hr) (fine_all hs) (by simp [hr.lover, hr.lfirst, hr.ltop, hs.lover, hs.lfirst, hs.ltop]) hd
  obtain ⟨hl1, hl2⟩ := List.cons.inj hl
  obtain ⟨ho, hl3⟩ := List.append_inj hl2 (by rw [hr.lover, hs.lover])
  obtain ⟨hf, ht⟩ := List.append_inj hl3 (by rw [hr.lfirst, hs.lfirst])
  obtain ⟨p, o, l, f, t⟩ := r
  obtain ⟨p', o', l', f', t'⟩ := s
  simp only at hp hl1 ho hf ht
  subst hp hl1 ho hf ht
  rfl
/-- So many numbers below N that all differ are at most N. -/
theorem nodup_le : ∀ (N : Nat) (l : List Nat), l.Nodup → (∀ x ∈ l, x < N) → l.length ≤ N
  | 0, l, _, h => by
    cases l with
    | nil => exact Nat.le_refl _
    | cons x r => exact absurd (h x (List.mem_cons_self ..)) (Nat.not_lt_zero _)
  | N + 1, l, hd, h => by
    have h1 := nodup_le N (l.erase N) (hd.erase _) fun x hx => by
      have h2 := (hd.mem_erase_iff).1 hx
      have := h x h2.2
      omega
    have h3 := List.length_erase (a := N) (l := l)
    split at h3 <;> omega
theorem rims_le {ks : List Rm} (hn : ks.Nodup) (hf : ∀ r ∈ ks, Fine r) : ks.length ≤ 26 * 9 ^ 16 := by
  have h := nodup_le (26 * 9 ^ 16) (ks.map code) (by
    unfold List.Nodup
    rw [List.pairwise_map]
    refine List.Pairwise.imp_of_mem ?_ hn
    intro r s hr hs hne he
    exact hne (code_inj (hf r hr) (hf s hs) he)) (fun x hx => by
    obtain ⟨r, hr, rfl⟩ := List.mem_map.1 hx
    exact code_lt (hf r hr))
  rwa [List.length_map] at h

/-- What the map reads as, which holds 'true' at these rims. -/
noncomputable def memoD (ks : List Rm) : DataW Nat := ks.foldl (fun D r => D.put (rimKey r) (.lit (.bool true))) (.map [])
theorem memoD_snoc (ks : List Rm) (r : Rm) : memoD (ks ++ [r]) = (memoD ks).put (rimKey r) (.lit (.bool true)) := by
  unfold memoD; rw [List.foldl_append]; rfl
theorem rimKey_lit {r : Rm} (h : Fine r) : WideAt.IsKeyLit (rimKey r) := by
  have h1 := rimKey_is h
  generalize rimKey r = l at h1 ⊢
  exact rimKeyed.key h1
theorem put_same (D : DataW Nat) (hD : Maps.IsMap D) {r : Rm} (h : WideAt.IsKeyLit (rimKey r)) (d z : DataW Nat) : (D.put (rimKey r) d).atKey (rimKey r) z = d := by
  generalize rimKey r = l at h ⊢
  exact Maps.atKey_put_same hD h d z
theorem fold_at : ∀ (ks : List Rm) (D : DataW Nat), Maps.IsMap D → (∀ r ∈ ks, Fine r) → ∀ (r : Rm) (z : DataW Nat), Fine r →
    (r ∈ ks → (ks.foldl (fun D r => D.put (rimKey r) (.lit (.bool true))) D).atKey (rimKey r) z = .lit (.bool true)) ∧
    (r ∉ ks → (ks.foldl (fun D r => D.put (rimKey r) (.lit (.bool true))) D).atKey (rimKey r) z = D.atKey (rimKey r) z)
  | [], _, _, _, _, _, _ => ⟨fun h => absurd h List.not_mem_nil, fun _ => rfl⟩
  | k :: ks, D, hD, hf, r, z, hr => by
    have hk := hf k (List.mem_cons_self ..)
    have ih := fold_at ks (D.put (rimKey k) (.lit (.bool true))) (hD.put _ _) (fun s hs => hf s (List.mem_cons_of_mem _ hs)) r z hr
    rw [List.foldl_cons]
    by_cases hrk : r ∈ ks
    · exact ⟨fun _ => ih.1 hrk, fun h => absurd (List.mem_cons_of_mem _ hrk) h⟩
    · refine ⟨fun h => ?_, fun h => ?_⟩
      · rcases List.mem_cons.1 h with h1 | h1
        · rw [ih.2 hrk, h1]
          exact put_same D hD (rimKey_lit hk) _ z
        · exact absurd h1 hrk
      · rw [ih.2 hrk]
        exact Maps.atKey_put_other (fun e => h (by rw [rimKey_inj hr hk e]; exact List.mem_cons_self ..)) _ _
open Classical in
/-- Is the rim among these? -/
noncomputable def held (ks : List Rm) (r : Rm) : Bool := decide (r ∈ ks)
theorem held_iff {ks : List Rm} {r : Rm} : held ks r = true ↔ r ∈ ks := by
  classical
  unfold held
  exact decide_eq_true_iff
theorem memo_at {ks : List Rm} (hf : ∀ r ∈ ks, Fine r) {r : Rm} (hr : Fine r) : (memoD ks).atKey (rimKey r) (.lit (.bool false)) = .lit (.bool (held ks r)) := by
  have h := fold_at ks (.map []) Maps.isMap_empty hf r (.lit (.bool false)) hr
  by_cases hm : r ∈ ks
  · rw [held_iff.2 hm]; exact h.1 hm
  · rw [show held ks r = false from Bool.eq_false_iff.2 fun h => hm (held_iff.1 h)]; exact h.2 hm
/-- The map holds 'true' at these rims, and nothing else. -/
structure Memo (w : World) (M : Nat) (ks : List Rm) : Prop where
  own : w.ownsMap Tryd.prog 108 (plainElem Tryd.prog 4) M ks.length (memoD ks)
  fine : ∀ r ∈ ks, Fine r
  nodup : ks.Nodup
theorem plainElem_bool_inv {P : Program} {e : TypeId} (he : P.underlying e = some .bool) {v : Value} {x : Bool} {ps : List MemPlace} (h : plainElem (H := Nat) P e v = some (.lit (.bool x), ps)) : v = .bool x := by
  unfold plainElem at h
  rw [he] at h
  cases v <;> simp at h
  rw [h.1]
theorem Memo.look {w : World} {M : Nat} {ks : List Rm} (h : Memo w M ks) {r : Rm} (hr : Fine r) : (Instr.lookup 103 (.map (some M)) (rimV r) false).run Tryd.prog w = .ok (.bool (held ks r)) w := by
  have hz : (zeroValue 4).run Tryd.prog w = .ok (.bool false) w := by kernel_rfl
  obtain ⟨v, ps, hrun, hv⟩ := h.own.lookup rimKeyed Tryd.underlying103 hz (plainElem_bool Tryd.underlying4 false) (rimKey_is hr)
  rw [memo_at h.fine hr] at hv
  rw [hrun, plainElem_bool_inv Tryd.underlying4 hv]
theorem Memo.kept {w w' : World} {M : Nat} {ks : List Rm} (h : Memo w M ks) (e : w'.heap[M]? = w.heap[M]?) : Memo w' M ks := by
  obtain ⟨⟨es, clock, hb, F, hs, hD⟩, hf, hn⟩ := h
  exact ⟨⟨es, clock, e.trans hb, F, hs, hD⟩, hf, hn⟩
theorem Memo.room {w : World} {M : Nat} {ks : List Rm} (h : Memo w M ks) : ks.length < maxLen := by
  have := rims_le h.nodup h.fine
  unfold maxLen
  omega
theorem Memo.put {w w' : World} {M : Nat} {ks : List Rm} (h : Memo w M ks) {r : Rm} (hr : Fine r) (hno : r ∉ ks) (ho : w'.ownsMap Tryd.prog 108 (plainElem Tryd.prog 4) M (ks.length + 1) ((memoD ks).put (rimKey r) (.lit (.bool true)))) : Memo w' M (ks ++ [r]) := by
  refine ⟨?_, fun s hs => ?_, ?_⟩
  · rw [memoD_snoc, List.length_append]; exact ho
  · rcases List.mem_append.1 hs with hs | hs
    · exact h.fine s hs
    · rw [List.mem_singleton.1 hs]; exact hr
  · rw [List.nodup_append]
    refine ⟨h.nodup, by simp, fun a ha b hb e => ?_⟩
    rw [List.mem_singleton.1 hb] at e
    exact hno (e ▸ ha)
theorem memo_made (w : World) : Memo (w.alloc (.map #[] 0)) w.heap.size [] :=
  ⟨World.ownsMap_made _ _ _ _, fun _ hr => absurd hr List.not_mem_nil, List.nodup_nil⟩
end Wg
end Go.Proofs.YthggpjpmjhaidaaDoor
