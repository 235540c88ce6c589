/- WALK: pattern.trim, pattern.Trim. -/
import Derived.Test.YtgagophijmiceaaDoorPnA
import Derived.Test.YtgagophijmiceaaDoorPnH
namespace Go.Proofs.YtgagophijmiceaaDoor
set_option linter.unusedSimpArgs false
set_option linter.unusedVariables false
open Go.RowKit
namespace Pn
open Tld Mem Bl

theorem infoArr2 : (Tryd.prog.info? 111).map (·.size) = some 2 := by kernel_rfl
def two (x y : Int) : List Value := [.int .i64 x, .int .i64 y]
theorem two_one (x y : Int) : ∀ v ∈ two x y, v.oneCell' = true := by simp [two, Value.oneCell']
theorem row_two {w : World} {g : Nat} {T : TypeId} {x y x' y' : Int} (h : Row w g T [.int .i64 x', .int .i64 y']) (hx : x = x') (hy : y = y') : Row w g T (two x y) := by
  subst hx hy
  exact h
/-- A slice's stretch is appended to a slice of the call's own. -/
theorem wp_app_ints {o : Oper} {a : Act} {w : World} {K : Act → World → Prop} {Q : Exit → Act → World → Prop} (x y : Operand) (ho : o.op = .call { callee := .builtin .append, args := #[x, y], argTypes := #[22, 22] })
    (B : Nat) (v : Value) (n : Nat) (zs : List Int) (hs : a.eval x = v) (hown : w.ownsRow B 3 1 v n (zs.map (Value.int .i64))) (sb so m c : Nat) (ys : List Int) (hy : a.eval y = .slice (some ⟨sb, so, none⟩) m c) (hl : ys.length = m)
    (hc : ∀ k, k < m → w.cell? ⟨sb, so + k, none⟩ = some (.int .i64 (ys.getD k 0))) (hn : n ≤ 1000000) (hm : m ≤ 1000000) (hm0 : 0 < m) (hB : B ≤ w.heap.size)
    (hK : ∀ g co w', w'.ownsRow B 3 1 (.slice (some ⟨g, 0, none⟩) (n + m) co) (n + m) ((zs ++ ys).map (Value.int .i64)) → w.grownBy w' v.ownBlock → K (a.put o.dst (.slice (some ⟨g, 0, none⟩) (n + m) co)) w') :
    Oper.wp Tryd.prog o a w K Q := by
  obtain ⟨i0, hI0, hz0, hz1, hz2⟩ := info_parts infoIntV
  refine wp_append_own w x y 22 ho B 3 i0 (.int .i64 0) 1 8 Tryd.underlying22 hI0 hz0 hz1 hz2 rfl (by decide) v n _ hs hown ⟨sb, so, none⟩ m c (ys.map (Value.int .i64)) hy (by simp [hl]) (fun j u hj => ?_) (fun u hu => by obtain ⟨x, _, rfl⟩ := List.mem_map.1 hu; rfl) (by unfold maxLen; omega) (by omega) hB fun v' w' ho' hg => ?_
  · have hjm : j < m := by
      have := (List.getElem?_eq_some_iff.1 hj).1
      rw [List.length_map, hl] at this
      exact this
    rw [Addr.add_mid, hc j hjm]
    have e : (ys.map (Value.int .i64))[j]? = some (Value.int .i64 (ys.getD j 0)) := by simp [List.getD_eq_getElem?_getD, List.getElem?_eq_getElem (show j < ys.length from by rw [hl]; exact hjm)]
    rw [e] at hj
    exact hj
  · rw [← List.map_append] at ho'
    rcases ho'.2 with ⟨_, h0⟩ | ⟨g, cap, cur, hv, _⟩
    · omega
    · subst hv
      intro _
      exact hK _ _ _ ho' hg

theorem results_pat3 {fn : Func} {t u v : Tmp} (hr : fn.results = #[.cell t 35, .tmp u, .tmp v]) (tmps : Array Value) (w : World) {q : Nat} {V : List Value} {e f : Value} (h : Row w q 35 V) (hV : V.length = 3) (h8 : tmps.getD t undef = .pointer (some ⟨q, 0, none⟩)) (h9 : tmps.getD u undef = e) (h10 : tmps.getD v undef = f) :
    (results fn tmps).run Tryd.prog w = .ok (.tuple #[.agg V.toArray, e, f]) w := by
  have hl := run_loadVar_row (P := Tryd.prog) w q 35 35 V.toArray (0, 0) _ h Tryd.underlying35 rfl (by rw [List.size_toArray, hV]; exact infoPat)
  have h8' : tmps[t]?.getD undef = .pointer (some ⟨q, 0, none⟩) := by simpa using h8
  have h9' : tmps[u]?.getD undef = e := by simpa using h9
  have h10' : tmps[v]?.getD undef = f := by simpa using h10
  simp [results, hr, h8', h9', h10', asAddr, hl]
theorem own_low {w : World} {B n : Nat} {e : TypeId} {v : Value} {xs : List Value} (h : w.ownsRow B e 1 v n xs) : ∀ k, v.ownBlock = some k → B ≤ k := fun k hk => (h.lt k hk).1
theorem wp_store_arr {P : Program} {o : Oper} {a : Act} {w : World} {K : Act → World → Prop} {Q : Exit → Act → World → Prop} (ty : TypeId) (x y : Operand) (ho : o.op = .store ty x y)
    (g : Nat) (hx : a.eval x = .pointer (some ⟨g, 0, none⟩)) (t : TypeId) (cs vs : List Value) (hy : a.eval y = .agg vs.toArray) (hg : Row w g t cs) (hl : vs.length = cs.length)
    (hi : (P.info? ty).map (·.size) = some vs.length) (h1 : ∀ v ∈ vs, v.oneCell' = true)
    (h : ∀ w', Row w' g t vs → Only g w w' → K (a.put o.dst undef) w') : Oper.wp P o a w K Q := by
  have hs := row_setCells (T := t) vs 0 w cs hg (by omega)
  rw [List.take_zero, List.nil_append] at hs
  refine wp_store_mid ty x y ho g 0 vs.toArray hx hy (fun j hj => ?_) (by simpa using hi) (all_oneCell_toArray h1) ?_
  · rw [Nat.zero_add]
    refine ⟨?_, hg.frozen j⟩
    rw [hg.cell j, List.getElem?_eq_getElem (by simp at hj; omega)]
    rfl
  · have := h _ hs.1 hs.2
    simpa using this
theorem own_nil (w : World) (B : Nat) : w.ownsRow B 3 1 (.slice none 0 0) 0 (([] : List Int).map (Value.int .i64)) := ⟨rfl, .inl ⟨rfl, rfl⟩⟩
theorem own_is {w : World} {B n : Nat} {v : Value} {zs : List Int} (h : w.ownsRow B 3 1 v n (zs.map (Value.int .i64))) : ∃ a c, v = .slice a n c ∧ n ≤ c ∧ c ≤ maxLen ∧ Ints.Is w a n zs ∧ ∀ b o, a = some ⟨b, o, none⟩ → B ≤ b := by
  have hl : zs.length = n := by have := h.1; rw [List.length_map] at this; omega
  rcases h.2 with ⟨rfl, h0⟩ | ⟨g, cap, cur, rfl, hB, hg, hnc, hcm, hcs, ht⟩
  · subst h0
    exact ⟨none, 0, rfl, Nat.le_refl _, Nat.zero_le _, ⟨hl, fun i hi => absurd hi (Nat.not_lt_zero _), Nat.zero_le _⟩, fun b o e => by cases e⟩
  · refine ⟨_, _, rfl, hnc, hcm, ⟨hl, fun i hi => ⟨g, 0, rfl, (Array.getElem?_eq_some_iff.1 hg).1, ?_⟩, by omega⟩, fun b o e => by cases e; exact hB⟩
    rw [Nat.zero_add, own_cell h (i := i) (u := .int .i64 (zs.getD i 0)) (by simp [List.getD_eq_getElem?_getD, List.getElem?_eq_getElem (show i < zs.length by omega)])]
theorem trim_nums {y l hr W H n c : Nat} (hy : y < H) (hl : l ≤ hr) (hr2 : hr < W) (hn : n = W * H) (hn2 : n ≤ 40000) (hc : n ≤ c) :
    ∃ q lo p hi : Nat, lo = y * W + l ∧ lo ≤ hi ∧ hi - lo = hr - l + 1 ∧ hi ≤ c ∧ ¬ c = lo ∧ lo + (hr - l + 1) ≤ n ∧
      wrap64 ((y : Int) * (W : Int)) = (q : Int) ∧ wrap64 ((q : Int) + (l : Int)) = (lo : Int) ∧ wrap64 ((q : Int) + (hr : Int)) = (p : Int) ∧ wrap64 ((p : Int) + 1) = (hi : Int) := by
  have h1 : (y + 1) * W ≤ H * W := Nat.mul_le_mul_right W hy
  rw [Nat.succ_mul, Nat.mul_comm H W, ← hn] at h1
  generalize hq : y * W = q at *
  refine ⟨q, q + l, q + hr, q + hr + 1, rfl, by omega, by omega, by omega, by omega, by omega, wr_nat (by rw [← hq]; push_cast; rfl) (by omega), wr_nat (by push_cast; rfl) (by omega), wr_nat (by push_cast; rfl) (by omega), wr_nat (by push_cast; rfl) (by omega)⟩

set_option maxHeartbeats 16000000 in
set_option maxRecDepth 1000000 in
theorem trim_any (W H : Nat) (a : Option Addr) (n c : Nat) (f : Nat → Nat → Nat) (w : World) (hZ : Ints.Is w a n (flat W H f)) (hn : n = W * H) (hc : n ≤ c) (hW : W ≤ 200) (hH : H ≤ 200) (hf : ∀ x y, f x y < 2) :
    Calls Tryd.prog 47 #[pat W H a n c] w fun e w' => (∃ W' H' X Y : Nat, ∃ a' n' c', e = .returned (.tuple #[pat W' H' a' n' c', .int .i64 X, .int .i64 Y]) ∧ ∃ f', Trimmed W H f W' H' f' X Y ∧ n' = W' * H' ∧ n' ≤ c' ∧ c' ≤ maxLen ∧ Ints.Is w' a' n' (flat W' H' f') ∧ (∀ b o, a' = some ⟨b, o, none⟩ → w.heap.size ≤ b)) ∧ Below w.heap.size w w' := by
  have HZ := Lib.hid (fun w2 (h : Below w.heap.size w w2) => hZ.keep h)
  have hn2 : n ≤ 40000 := by rw [hn]; exact Nat.mul_le_mul hW hH
  have HN := Lib.hid hn
  have HWB := Lib.hid hW
  have HHB := Lib.hid hH
  have HF := Lib.hid hf
  have HC := Lib.hid hc
  clear hZ hn hW hH hf hc
  unfold pat
  go_enter Tryd.func47, Tryd.ntmps47
  go_upto_region 1 with fail
  obtain ⟨hr5, hr8, hb2⟩ := two_new w 35 35 (boxP W H a n c) noPat
  have HR5 : Hid (Row ((w.alloc (.cells #[.int .i64 W, .int .i64 H, .slice a n c] 35)).alloc (.cells #[.int .i64 0, .int .i64 0, .slice none 0 0] 35)) w.heap.size 35 (boxP W H a n c)) := hr5
  have HR8 : Hid (Row ((w.alloc (.cells #[.int .i64 W, .int .i64 H, .slice a n c] 35)).alloc (.cells #[.int .i64 0, .int .i64 0, .slice none 0 0] 35)) (w.heap.size + 1) 35 noPat) := hr8
  have HB : Hid (Below w.heap.size w ((w.alloc (.cells #[.int .i64 W, .int .i64 H, .slice a n c] 35)).alloc (.cells #[.int .i64 0, .int .i64 0, .slice none 0 0] 35))) := hb2
  clear hr5 hr8 hb2
  generalize (w.alloc (.cells #[.int .i64 W, .int .i64 H, .slice a n c] 35)).alloc (.cells #[.int .i64 0, .int .i64 0, .slice none 0 0] 35) = w1 at *
  obtain ⟨gb, hgb⟩ : ∃ gb, gb = w.heap.size := ⟨_, rfl⟩
  rw [← hgb] at HR5 HR8 ⊢
  obtain ⟨rb, hrb⟩ : ∃ rb, rb = gb + 1 := ⟨_, rfl⟩
  rw [← hrb] at HR8 ⊢
  have HGR : Hid (w.heap.size ≤ gb ∧ w.heap.size ≤ rb ∧ gb ≠ rb) := Lib.hid (by omega)
  clear hgb hrb
  --{arrays
  have hgl := HR5.out.lt
  have hrl := HR8.out.lt
  obtain ⟨hl0, hh0, hb0⟩ := two_new w1 111 111 (two 0 0) (two 0 0)
  have f0 := HR5.out.cell 0
  have f1 := HR5.out.cell 1
  unfold boxP at f0 f1
  dsimp only [List.getElem?_cons_succ, List.getElem?_cons_zero] at f0 f1
  go_upto_region 2 with (first | (refine Ops.wpList_store_arr rfl 111 _ _ rfl w1.heap.size rfl 111 (two 0 0) (two W H) rfl hl0 rfl infoArr2 (two_one _ _) ?_; intro w2 hl2 ho2) | (refine Ops.wpList_store_arr rfl 111 _ _ rfl (w1.heap.size + 1) rfl 111 (two 0 0) (two (-1) (-1)) rfl (hh0.other ho2 (Nat.succ_ne_self _)) rfl infoArr2 (two_one _ _) ?_; intro w3 hh3 ho3))
  clear f0 f1
  have HL : Hid (Row w3 w1.heap.size 111 (two W H)) := Lib.hid (hl2.other ho3 (Nat.succ_ne_self _).symm)
  have HH : Hid (Row w3 (w1.heap.size + 1) 111 (two (-1) (-1))) := Lib.hid hh3
  have hb3 : Below w1.heap.size w1 w3 := (hb0.trans (ho2.below (Nat.le_refl _))).trans (ho3.below (Nat.le_succ _))
  have HR5 := Lib.hid (HR5.out.keep hb3 HR5.out.lt)
  have HR8 := Lib.hid (HR8.out.keep hb3 HR8.out.lt)
  have hsz := HB.out.size
  have HB := Lib.hid (HB.out.trans (hb3.mono HB.out.size))
  obtain ⟨lb, hlb⟩ : ∃ lb, lb = w1.heap.size := ⟨_, rfl⟩
  rw [← hlb] at HL HH ⊢
  obtain ⟨hb, hhb⟩ : ∃ hb, hb = lb + 1 := ⟨_, rfl⟩
  rw [← hhb] at HH ⊢
  have HLH : Hid ((lb ≠ hb ∧ lb ≠ gb ∧ lb ≠ rb ∧ hb ≠ gb ∧ hb ≠ rb) ∧ w.heap.size ≤ lb ∧ w.heap.size ≤ hb) := Lib.hid (by omega)
  clear hlb hhb hl0 hh0 hb0 hl2 ho2 hh3 ho3 hb3 hgl hrl hsz
  --}
  have f2 := HR5.out.cell 2
  unfold boxP at f2
  dsimp only [List.getElem?_cons_succ, List.getElem?_cons_zero] at f2
  go_wp2_with fail
  clear f2
  go_loopw [21] (fun v wr => ∃ k : Nat, ∃ l t r b : Int, k ≤ n ∧ v = .int .i64 (k : Nat) ∧ Row wr gb 35 (boxP W H a n c) ∧ Row wr rb 35 noPat ∧ Row wr lb 111 (two l t) ∧ Row wr hb 111 (two r b) ∧ BB W H f k l t r b ∧ Below w.heap.size w wr) (fun v _ => n - (RowKit.intOf v).toNat)
  case atStart => exact ⟨0, _, _, _, _, Nat.zero_le _, rfl, HR5.out, HR8.out, HL.out, HH.out, BB.zero, HB.out⟩
  case round =>
    clear HR5 HR8 HL HH HB
    obtain ⟨k, l, t, r, b, hk, rfl, h5, h8, hl, hh, hbb, hbw⟩ := hrel
    have HR5 := Lib.hid h5
    have HR8 := Lib.hid h8
    have HL := Lib.hid hl
    have HH := Lib.hid hh
    have HBB := Lib.hid hbb
    have HB := Lib.hid hbw
    clear h5 h8 hl hh hbb hbw
    by_cases hkn : k < n
    · --{cell
      have hk2 : (k : Int) < (n : Int) := by omega
      have HKN := Lib.hid hkn
      have hWp : 0 < W := by
        have := HN.out
        rcases Nat.eq_zero_or_pos W with h | h
        · rw [h, Nat.zero_mul] at this; omega
        · exact h
      obtain ⟨x, hx⟩ : ∃ x, x = k % W := ⟨_, rfl⟩
      obtain ⟨y, hy⟩ : ∃ y, y = k / W := ⟨_, rfl⟩
      have hxW : x < W := by rw [hx]; exact Nat.mod_lt _ hWp
      have hyH : y < H := by rw [hy]; exact Nat.div_lt_of_lt_mul (by rw [← HN.out]; exact hkn)
      obtain ⟨ab, ao, rfl, _, cg⟩ := (HZ.out wr HB.out).cells k hkn
      dsimp only at cg
      rw [flat_get (by rw [← HN.out]; exact hkn), ← hx, ← hy] at cg
      obtain ⟨cv, hcv⟩ : ∃ cv, cv = f x y := ⟨_, rfl⟩
      rw [← hcv] at cg
      have hcv2 : cv < 2 := by rw [hcv]; exact HF.out x y
      by_cases hc1 : cv = 1
      · subst hc1
        have HBN : Hid (BB W H f (k + 1) (min l x) (min t y) (max r x) (max b y)) := Lib.hid (HBB.out.live (by rw [← hx, ← hy, ← hcv]; decide) hx hy hxW hyH)
        have hxm : (k : Int).tmod (W : Int) = (x : Int) := by rw [hx]; exact Int.ofNat_tmod _ _
        have hyd : (k : Int).tdiv (W : Int) = (y : Int) := by rw [hy]; exact Int.ofNat_tdiv _ _
        have hW0 : ¬ (W : Int) = 0 := by omega
        have hW0b : ((W : Int) == 0) = false := beq_eq_false_iff_ne.2 hW0
        have hWm : ¬ (W : Int) = -1 := by omega
        have hyw : wrap64 (y : Int) = (y : Int) := wr_nat rfl (by have := HHB.out; omega)
        have hyw' := wr_same hyw
        have f0 := HR5.out.cell 0
        unfold boxP at f0
        dsimp only [List.getElem?_cons_succ, List.getElem?_cons_zero] at f0
        clear hkn hx hy hxW hyH hcv hcv2
        go_upto_region 6 with fail
        clear cg
        go_big_quiet (fail)
        clear f0 hxm hyd hW0 hW0b hWm hyw hyw'
        have HL := Lib.hid (HL.out.drewN nq)
        have HH := Lib.hid (HH.out.drewN nq)
        have HR5 := Lib.hid (HR5.out.drewN nq)
        have HR8 := Lib.hid (HR8.out.drewN nq)
        have HB : Hid (Below w.heap.size w (wr.drewN nq)) := Lib.hid (HB.out.trans ⟨rfl, rfl, rfl, Nat.le_refl _, fun _ _ => rfl⟩)
        generalize wr.drewN nq = w4 at *
        have l0 := HL.out.cell 0
        have l1 := HL.out.cell 1
        unfold two at l0 l1
        dsimp only [List.getElem?_cons_succ, List.getElem?_cons_zero] at l0 l1
        go_upto_region 7 with fail
        go_cut [] (fun wx => Row wx lb 111 (two (min l x) (min t y)) ∧ Only lb w4 wx)
        case first =>
          go_wp2_with (refine Ops.wpList_store_arr rfl 111 _ _ rfl lb rfl 111 (two l t) _ rfl HL.out rfl infoArr2 (two_one _ _) ?_; intro w5 hl5 ho5)
          all_goals
            go_meet
            case rel => exact ⟨row_two hl5 (by omega) (by omega), ho5⟩
        case rest =>
        obtain ⟨hl5, ho5⟩ := hcut
        have HH := Lib.hid (HH.out.other ho5 HLH.out.1.1.symm)
        have HR5 := Lib.hid (HR5.out.other ho5 HLH.out.1.2.1.symm)
        have HR8 := Lib.hid (HR8.out.other ho5 HLH.out.1.2.2.1.symm)
        have HB := Lib.hid (HB.out.trans (ho5.below HLH.out.2.1))
        have HL := Lib.hid hl5
        clear hl5 ho5 l0 l1
        have l0 := HH.out.cell 0
        have l1 := HH.out.cell 1
        unfold two at l0 l1
        dsimp only [List.getElem?_cons_succ, List.getElem?_cons_zero] at l0 l1
        generalize wc = w6 at *
        go_wp2_with (refine Ops.wpList_store_arr rfl 111 _ _ rfl hb rfl 111 (two r b) _ rfl HH.out rfl infoArr2 (two_one _ _) ?_; intro w5 hl5 ho5)
        all_goals
          have HL := Lib.hid (HL.out.other ho5 HLH.out.1.1)
          have HR5 := Lib.hid (HR5.out.other ho5 HLH.out.1.2.2.2.1.symm)
          have HR8 := Lib.hid (HR8.out.other ho5 HLH.out.1.2.2.2.2.symm)
          have HB := Lib.hid (HB.out.trans (ho5.below HLH.out.2.2))
          have HH : Hid (Row w5 hb 111 (two (max r x) (max b y))) := Lib.hid (row_two hl5 (by omega) (by omega))
          clear hl5 ho5 l0 l1
          go_roundw
          case rel => exact ⟨k + 1, _, _, _, _, HKN.out, by go_num, HR5.out, HR8.out, HL.out, HH.out, HBN.out, HB.out⟩
          case measure => have := HKN.out; simp [RowKit.intOf]; omega
      · obtain rfl : cv = 0 := by omega
        have HBN : Hid (BB W H f (k + 1) l t r b) := Lib.hid (HBB.out.dead (by rw [← hx, ← hy, ← hcv]))
        clear hkn hx hy hxW hyH hcv hcv2 hc1
        go_wp2_with fail
        go_roundw
        case rel => exact ⟨k + 1, _, _, _, _, HKN.out, by go_num, HR5.out, HR8.out, HL.out, HH.out, HBN.out, HB.out⟩
        case measure => have := HKN.out; simp [RowKit.intOf]; omega
      --}
    · --{done
      obtain rfl : k = n := by omega
      have hnl : ¬ (k : Int) < (k : Int) := by omega
      have l0 := HH.out.cell 0
      unfold two at l0
      dsimp only [List.getElem?_cons_succ, List.getElem?_cons_zero] at l0
      by_cases hr0 : r < 0
      · have HNO := Lib.hid ((show BB W H f (W * H) l t r b by rw [← HN.out]; exact HBB.out).none hr0)
        go_wp2_with (refine Ops.wpList_store_arr rfl 35 _ _ rfl rb rfl 35 _ noPat rfl HR8.out rfl infoPat noPat_one ?_; intro w5 hrow5 hon5)
        refine bodyPost_ret (results_pat3 (t := 2) (u := 3) (v := 4) (e := .int .i64 0) (f := .int .i64 0) rfl _ _ hrow5 rfl rfl rfl rfl) rfl ⟨⟨0, 0, 0, 0, none, 0, 0, rfl, fun _ _ => 0, .inl ⟨rfl, rfl, rfl, rfl, HNO.out⟩, rfl, Nat.zero_le _, Nat.zero_le _, ⟨by rw [flat_len], fun i hi => absurd hi (Nat.not_lt_zero _), Nat.zero_le _⟩, fun b o e => by cases e⟩, HB.out.trans (hon5.below HGR.out.2.1)⟩
      · obtain ⟨l', t', r', b', rfl, rfl, rfl, rfl, hgb⟩ := (show BB W H f (W * H) l t r b by rw [← HN.out]; exact HBB.out).box hr0
        have HGX := Lib.hid hgb
        have hlr := hgb.lr
        have htb := hgb.tb
        obtain ⟨w', hw'⟩ : ∃ w', w' = r' - l' + 1 := ⟨_, rfl⟩
        obtain ⟨h', hh'⟩ : ∃ h', h' = b' - t' + 1 := ⟨_, rfl⟩
        have hW3 := HWB.out
        have hH3 := HHB.out
        obtain ⟨p1, hp1⟩ : ∃ p1, p1 = r' - l' := ⟨_, rfl⟩
        obtain ⟨p2, hp2⟩ : ∃ p2, p2 = b' - t' := ⟨_, rfl⟩
        have hp12 : p1 ≤ 200 ∧ p2 ≤ 200 ∧ w' ≤ 200 ∧ h' ≤ 200 := by omega
        have HLR := Lib.hid hlr
        have HTB := Lib.hid htb
        have HP12 := Lib.hid hp12
        have a1 : wrap64 ((r' : Int) - (l' : Int)) = (p1 : Int) := wr_nat (by omega) (by omega)
        have a2 : wrap64 ((b' : Int) - (t' : Int)) = (p2 : Int) := wr_nat (by clear a1; omega) (by clear a1; omega)
        have a3 : wrap64 ((p1 : Int) + 1) = (w' : Int) := wr_nat (by clear a1 a2; omega) (by clear a1 a2; omega)
        have a4 : wrap64 ((p2 : Int) + 1) = (h' : Int) := wr_nat (by clear a1 a2 a3; omega) (by clear a1 a2 a3; omega)
        have HWE := Lib.hid hw'
        have HHE := Lib.hid hh'
        have hr1 : ¬ (r' : Int) < 0 := hr0
        have l1 := HH.out.cell 1
        have m0 := HL.out.cell 0
        have m1 := HL.out.cell 1
        unfold two at l1 m0 m1
        dsimp only [List.getElem?_cons_succ, List.getElem?_cons_zero] at l1 m0 m1
        clear hgb hlr htb hw' hh' hW3 hH3 hp1 hp2 hp12 hr0 hnl
        go_upto_region 13 with (refine Ops.wpList_store_arr rfl 35 _ _ rfl rb rfl 35 _ (boxP (w' : Nat) (h' : Nat) none 0 0) rfl HR8.out rfl infoPat (boxP_one _ _ _ _ _) ?_; intro w5 hrow5 hon5)
        clear a1 a2 a3 a4 l0 l1 m0 m1
        have HL := Lib.hid (HL.out.other hon5 HLH.out.1.2.2.1)
        have HH := Lib.hid (HH.out.other hon5 HLH.out.1.2.2.2.2)
        have HR5 := Lib.hid (HR5.out.other hon5 HGR.out.2.2)
        have HR8 := Lib.hid hrow5
        have HB := Lib.hid (HB.out.trans (hon5.below HGR.out.2.1))
        clear hrow5 hon5
        have m1 := HL.out.cell 1
        unfold two at m1
        dsimp only [List.getElem?_cons_succ, List.getElem?_cons_zero] at m1
        go_wp2_with fail
        clear m1
        --{rows
        go_loopw [11] (fun v wr => ∃ i : Nat, ∃ vs : Value, i ≤ h' ∧ v = .int .i64 ((t' + i : Nat) : Int) ∧ Row wr gb 35 (boxP W H a k c) ∧ Row wr rb 35 [.int .i64 (w' : Nat), .int .i64 (h' : Nat), vs] ∧ Row wr lb 111 (two l' t') ∧ Row wr hb 111 (two r' b') ∧ wr.ownsRow w.heap.size 3 1 vs (w' * i) ((flat w' i (fun x y => f (l' + x) (t' + y))).map (Value.int .i64)) ∧ Below w.heap.size w wr) (fun v _ => t' + h' - (RowKit.intOf v).toNat)
        case atStart => exact ⟨0, .slice none 0 0, Nat.zero_le _, rfl, HR5.out, HR8.out, HL.out, HH.out, by rw [flat_none]; exact own_nil _ _, HB.out⟩
        case round =>
          clear HR5 HR8 HL HH HB
          obtain ⟨i, vs, hi, rfl, h5, h8, hl, hh, ho, hbw⟩ := hrel
          have HR5 := Lib.hid h5
          have HR8 := Lib.hid h8
          have HL := Lib.hid hl
          have HH := Lib.hid hh
          have HO := Lib.hid ho
          have HB := Lib.hid hbw
          clear h5 h8 hl hh ho hbw
          have l1 := HH.out.cell 1
          unfold two at l1
          dsimp only [List.getElem?_cons_succ, List.getElem?_cons_zero] at l1
          obtain ⟨yy, hyy⟩ : ∃ yy, yy = t' + i := ⟨_, rfl⟩
          rw [← hyy]
          by_cases hih : i < h'
          · have hle : (yy : Int) ≤ (b' : Int) := by have := HHE.out; have := HTB.out; omega
            have HIH := Lib.hid hih
            have HYY := Lib.hid hyy
            have hyH : yy < H := by have := HHE.out; have := HTB.out; omega
            have hyI : (t' : Int) + (i : Int) = (yy : Int) := by omega
            obtain ⟨q, lo, p, hi', hlo, hlh, hhd, hhc, hcl, hln, e1, e2, e3, e4⟩ := trim_nums hyH HLR.out.1 HLR.out.2 HN.out hn2 HC.out
            have HE := Lib.hid (And.intro e1 (And.intro e2 (And.intro e3 e4)))
            clear e1 e2 e3 e4
            rw [← HWE.out] at hhd hln
            have hw0 : 0 < w' := by have := HWE.out; omega
            obtain ⟨ab, ao, habe, _, _⟩ := (HZ.out wr HB.out).cells 0 (by omega)
            subst habe
            obtain ⟨ys, hys⟩ : ∃ ys : List Int, ys = (List.range w').map fun x => ((f (l' + x) yy : Nat) : Int) := ⟨_, rfl⟩
            have HYL : Hid (ys.length = w') := Lib.hid (by rw [hys]; simp)
            have HROW : Hid (flat w' (i + 1) (fun x y => f (l' + x) (t' + y)) = flat w' i (fun x y => f (l' + x) (t' + y)) ++ ys) := Lib.hid (by rw [flat_row, hys, hyy])
            have HSRC := Lib.hid (fun w2 (hb2 : Below wr.heap.size wr w2) k' (hk' : k' < w') => show w2.cell? ⟨ab, ao + lo + k', none⟩ = some (.int .i64 (ys.getD k' 0)) by
              have hlx : l' + k' < W := by have := HWE.out; have := HLR.out; omega
              have hln' : yy * W + (l' + k') < k := by rw [HN.out]; exact at_lt hlx hyH
              obtain ⟨b0, o0, hbe, _, cg⟩ := (HZ.out w2 (HB.out.trans (hb2.mono HB.out.size))).cells (yy * W + (l' + k')) hln'
              cases hbe
              dsimp only at cg
              rw [flat_at hlx hyH] at cg
              rw [show ao + lo + k' = ao + (yy * W + (l' + k')) by rw [hlo]; omega, cg, hys]
              simp [List.getD_eq_getElem?_getD, List.getElem?_range hk'])
            have hwi : w' * i ≤ 200 * 200 := Nat.mul_le_mul HP12.out.2.2.1 (by have := HP12.out; omega)
            have HWI := Lib.hid hwi
            have HW0 := Lib.hid hw0
            have HMS : Hid (w' * i + w' = w' * (i + 1)) := Lib.hid (Nat.mul_succ _ _).symm
            obtain ⟨e1, e2, e3, e4⟩ := HE.out
            have e1' := wr_same e1
            have e2' := wr_same e2
            have e3' := wr_same e3
            have e4' := wr_same e4
            have f0 := HR5.out.cell 0
            have f2 := HR5.out.cell 2
            have g2 := HR8.out.cell 2
            have m0 := HL.out.cell 0
            have n0 := HH.out.cell 0
            unfold boxP at f0 f2
            unfold two at m0 n0
            dsimp only [List.getElem?_cons_succ, List.getElem?_cons_zero] at f0 f2 g2 m0 n0
            have hdr : Below wr.heap.size wr wr.drew := (Below.refl _ _).drew
            clear hyH hyI hlo hln hw0 hys hwi hih hyy
            go_upto_region 16 with fail
            refine wp_region_noPanic ?_
            refine Rt.region_Cn (Sc2 (fun w2 => w2.cell? ⟨gb, 0, none⟩ = some (.int .i64 W) ∧ w2.cell? ⟨gb, 2, none⟩ = some (.slice (some ⟨ab, ao, none⟩) k c) ∧ w2.cell? ⟨lb, 0, none⟩ = some (.int .i64 l') ∧ w2.cell? ⟨hb, 0, none⟩ = some (.int .i64 r')) (fun w2 => w2.cell? ⟨rb, 2, none⟩ = some vs) 22) 23 #[false, false, false, false, false, false, false, false, false, false, false, false, false, false, false, false, false, false, false, false, false, false, false] (by kernel_rfl) (by kernel_rfl) (by kernel_rfl) ?_
            have hS1 : ∀ o, Sc2 (fun w2 => w2.cell? ⟨gb, 0, none⟩ = some (.int .i64 W) ∧ w2.cell? ⟨gb, 2, none⟩ = some (.slice (some ⟨ab, ao, none⟩) k c) ∧ w2.cell? ⟨lb, 0, none⟩ = some (.int .i64 l') ∧ w2.cell? ⟨hb, 0, none⟩ = some (.int .i64 r')) (fun w2 => w2.cell? ⟨rb, 2, none⟩ = some vs) 22 o wr.drew := Sc2.of ⟨f0, f2, m0, n0⟩ g2
            refine Rt.C_take (none) (i := 0) (oi := _) (v := ?_) rfl (by kernel_rfl) (by kernel_rfl) (by kernel_rfl) (by kernel_rfl) (fun _ _ _ h => h) (Sc2.other (by decide)) (Or.inl ⟨by rfl, ?_⟩) (fun o' _ => hS1 o') ?_
            rotate_left
            · intro w2 hSw
              obtain ⟨s0, s1, s2, s3⟩ := hSw
              go_simp
              try with_reducible rfl
            simp only [Act.put, List.getElem_toArray, List.getElem_cons_succ, List.getElem_cons_zero, List.setIfInBounds_toArray, List.set_cons_zero, List.set_cons_succ]
            refine Rt.C_take (some 22) (i := 1) (oi := _) (v := ?_) rfl (by kernel_rfl) (by kernel_rfl) (by kernel_rfl) (by kernel_rfl) (fun _ _ _ h => h) (Sc2.other (by decide)) (Or.inl ⟨by rfl, ?_⟩) (fun o' _ => hS1 o') ?_
            rotate_left
            · intro w2 hSw
              have s0 := hSw rfl
              go_simp
              try with_reducible rfl
            simp only [Act.put, List.getElem_toArray, List.getElem_cons_succ, List.getElem_cons_zero, List.setIfInBounds_toArray, List.set_cons_zero, List.set_cons_succ]
            refine Rt.C_take (none) (i := 2) (oi := _) (v := ?_) rfl (by kernel_rfl) (by kernel_rfl) (by kernel_rfl) (by kernel_rfl) (fun _ _ _ h => h) (Sc2.other (by decide)) (Or.inl ⟨by rfl, ?_⟩) (fun o' _ => hS1 o') ?_
            rotate_left
            · intro w2 hSw
              obtain ⟨s0, s1, s2, s3⟩ := hSw
              go_simp
              try with_reducible rfl
            simp only [Act.put, List.getElem_toArray, List.getElem_cons_succ, List.getElem_cons_zero, List.setIfInBounds_toArray, List.set_cons_zero, List.set_cons_succ]
            refine Rt.C_take (none) (i := 3) (oi := _) (v := ?_) rfl (by kernel_rfl) (by kernel_rfl) (by kernel_rfl) (by kernel_rfl) (fun _ _ _ h => h) (Sc2.other (by decide)) (Or.inl ⟨by rfl, ?_⟩) (fun o' _ => hS1 o') ?_
            rotate_left
            · intro w2 hSw
              obtain ⟨s0, s1, s2, s3⟩ := hSw
              go_simp
              try with_reducible rfl
            simp only [Act.put, List.getElem_toArray, List.getElem_cons_succ, List.getElem_cons_zero, List.setIfInBounds_toArray, List.set_cons_zero, List.set_cons_succ]
            refine Rt.C_take (none) (i := 4) (oi := _) (v := ?_) rfl (by kernel_rfl) (by kernel_rfl) (by kernel_rfl) (by kernel_rfl) (fun _ _ _ h => h) (Sc2.other (by decide)) (Or.inl ⟨by rfl, ?_⟩) (fun o' _ => hS1 o') ?_
            rotate_left
            · intro w2 hSw
              obtain ⟨s0, s1, s2, s3⟩ := hSw
              go_simp
              try with_reducible rfl
            simp only [Act.put, List.getElem_toArray, List.getElem_cons_succ, List.getElem_cons_zero, List.setIfInBounds_toArray, List.set_cons_zero, List.set_cons_succ]
            refine Rt.C_take (none) (i := 5) (oi := _) (v := ?_) rfl (by kernel_rfl) (by kernel_rfl) (by kernel_rfl) (by kernel_rfl) (fun _ _ _ h => h) (Sc2.other (by decide)) (Or.inl ⟨by rfl, ?_⟩) (fun o' _ => hS1 o') ?_
            rotate_left
            · intro w2 hSw
              obtain ⟨s0, s1, s2, s3⟩ := hSw
              go_simp
              try with_reducible rfl
            simp only [Act.put, List.getElem_toArray, List.getElem_cons_succ, List.getElem_cons_zero, List.setIfInBounds_toArray, List.set_cons_zero, List.set_cons_succ]
            refine Rt.C_take (none) (i := 6) (oi := _) (v := ?_) rfl (by kernel_rfl) (by kernel_rfl) (by kernel_rfl) (by kernel_rfl) (fun _ _ _ h => h) (Sc2.other (by decide)) (Or.inl ⟨by rfl, ?_⟩) (fun o' _ => hS1 o') ?_
            rotate_left
            · intro w2 hSw
              obtain ⟨s0, s1, s2, s3⟩ := hSw
              go_simp
              try with_reducible rfl
            simp only [Act.put, List.getElem_toArray, List.getElem_cons_succ, List.getElem_cons_zero, List.setIfInBounds_toArray, List.set_cons_zero, List.set_cons_succ]
            refine Rt.C_take (none) (i := 7) (oi := _) (v := ?_) rfl (by kernel_rfl) (by kernel_rfl) (by kernel_rfl) (by kernel_rfl) (fun _ _ _ h => h) (Sc2.other (by decide)) (Or.inl ⟨by rfl, ?_⟩) (fun o' _ => hS1 o') ?_
            rotate_left
            · intro w2 hSw
              obtain ⟨s0, s1, s2, s3⟩ := hSw
              go_simp
              try with_reducible rfl
            simp only [Act.put, List.getElem_toArray, List.getElem_cons_succ, List.getElem_cons_zero, List.setIfInBounds_toArray, List.set_cons_zero, List.set_cons_succ]
            refine Rt.C_take (none) (i := 8) (oi := _) (v := ?_) rfl (by kernel_rfl) (by kernel_rfl) (by kernel_rfl) (by kernel_rfl) (fun _ _ _ h => h) (Sc2.other (by decide)) (Or.inl ⟨by rfl, ?_⟩) (fun o' _ => hS1 o') ?_
            rotate_left
            · intro w2 hSw
              obtain ⟨s0, s1, s2, s3⟩ := hSw
              go_simp
              try with_reducible rfl
            simp only [Act.put, List.getElem_toArray, List.getElem_cons_succ, List.getElem_cons_zero, List.setIfInBounds_toArray, List.set_cons_zero, List.set_cons_succ]
            refine Rt.C_take (none) (i := 9) (oi := _) (v := ?_) rfl (by kernel_rfl) (by kernel_rfl) (by kernel_rfl) (by kernel_rfl) (fun _ _ _ h => h) (Sc2.other (by decide)) (Or.inl ⟨by rfl, ?_⟩) (fun o' _ => hS1 o') ?_
            rotate_left
            · intro w2 hSw
              obtain ⟨s0, s1, s2, s3⟩ := hSw
              go_simp
              try with_reducible rfl
            simp only [Act.put, List.getElem_toArray, List.getElem_cons_succ, List.getElem_cons_zero, List.setIfInBounds_toArray, List.set_cons_zero, List.set_cons_succ]
            refine Rt.C_take (none) (i := 10) (oi := _) (v := ?_) rfl (by kernel_rfl) (by kernel_rfl) (by kernel_rfl) (by kernel_rfl) (fun _ _ _ h => h) (Sc2.other (by decide)) (Or.inl ⟨by rfl, ?_⟩) (fun o' _ => hS1 o') ?_
            rotate_left
            · intro w2 hSw
              obtain ⟨s0, s1, s2, s3⟩ := hSw
              go_simp
              try with_reducible rfl
            simp only [Act.put, List.getElem_toArray, List.getElem_cons_succ, List.getElem_cons_zero, List.setIfInBounds_toArray, List.set_cons_zero, List.set_cons_succ]
            refine Rt.C_take (none) (i := 11) (oi := _) (v := ?_) rfl (by kernel_rfl) (by kernel_rfl) (by kernel_rfl) (by kernel_rfl) (fun _ _ _ h => h) (Sc2.other (by decide)) (Or.inl ⟨by rfl, ?_⟩) (fun o' _ => hS1 o') ?_
            rotate_left
            · intro w2 hSw
              obtain ⟨s0, s1, s2, s3⟩ := hSw
              go_simp
              try with_reducible rfl
            simp only [Act.put, List.getElem_toArray, List.getElem_cons_succ, List.getElem_cons_zero, List.setIfInBounds_toArray, List.set_cons_zero, List.set_cons_succ]
            refine Rt.C_take (none) (i := 12) (oi := _) (v := ?_) rfl (by kernel_rfl) (by kernel_rfl) (by kernel_rfl) (by kernel_rfl) (fun _ _ _ h => h) (Sc2.other (by decide)) (Or.inl ⟨by rfl, ?_⟩) (fun o' _ => hS1 o') ?_
            rotate_left
            · intro w2 hSw
              obtain ⟨s0, s1, s2, s3⟩ := hSw
              go_simp
              try with_reducible rfl
            simp only [Act.put, List.getElem_toArray, List.getElem_cons_succ, List.getElem_cons_zero, List.setIfInBounds_toArray, List.set_cons_zero, List.set_cons_succ]
            refine Rt.C_take (none) (i := 13) (oi := _) (v := ?_) rfl (by kernel_rfl) (by kernel_rfl) (by kernel_rfl) (by kernel_rfl) (fun _ _ _ h => h) (Sc2.other (by decide)) (Or.inl ⟨by rfl, ?_⟩) (fun o' _ => hS1 o') ?_
            rotate_left
            · intro w2 hSw
              obtain ⟨s0, s1, s2, s3⟩ := hSw
              go_simp
              try with_reducible rfl
            simp only [Act.put, List.getElem_toArray, List.getElem_cons_succ, List.getElem_cons_zero, List.setIfInBounds_toArray, List.set_cons_zero, List.set_cons_succ]
            refine Rt.C_take (none) (i := 14) (oi := _) (v := ?_) rfl (by kernel_rfl) (by kernel_rfl) (by kernel_rfl) (by kernel_rfl) (fun _ _ _ h => h) (Sc2.other (by decide)) (Or.inl ⟨by rfl, ?_⟩) (fun o' _ => hS1 o') ?_
            rotate_left
            · intro w2 hSw
              obtain ⟨s0, s1, s2, s3⟩ := hSw
              go_simp
              try with_reducible rfl
            simp only [Act.put, List.getElem_toArray, List.getElem_cons_succ, List.getElem_cons_zero, List.setIfInBounds_toArray, List.set_cons_zero, List.set_cons_succ]
            refine Rt.C_take (none) (i := 15) (oi := _) (v := ?_) rfl (by kernel_rfl) (by kernel_rfl) (by kernel_rfl) (by kernel_rfl) (fun _ _ _ h => h) (Sc2.other (by decide)) (Or.inl ⟨by rfl, ?_⟩) (fun o' _ => hS1 o') ?_
            rotate_left
            · intro w2 hSw
              obtain ⟨s0, s1, s2, s3⟩ := hSw
              go_simp
              try with_reducible rfl
            simp only [Act.put, List.getElem_toArray, List.getElem_cons_succ, List.getElem_cons_zero, List.setIfInBounds_toArray, List.set_cons_zero, List.set_cons_succ]
            refine Rt.C_take (none) (i := 16) (oi := _) (v := ?_) rfl (by kernel_rfl) (by kernel_rfl) (by kernel_rfl) (by kernel_rfl) (fun _ _ _ h => h) (Sc2.other (by decide)) (Or.inl ⟨by rfl, ?_⟩) (fun o' _ => hS1 o') ?_
            rotate_left
            · intro w2 hSw
              obtain ⟨s0, s1, s2, s3⟩ := hSw
              go_simp
              try with_reducible rfl
            simp only [Act.put, List.getElem_toArray, List.getElem_cons_succ, List.getElem_cons_zero, List.setIfInBounds_toArray, List.set_cons_zero, List.set_cons_succ]
            refine Rt.C_take (none) (i := 17) (oi := _) (v := ?_) rfl (by kernel_rfl) (by kernel_rfl) (by kernel_rfl) (by kernel_rfl) (fun _ _ _ h => h) (Sc2.other (by decide)) (Or.inl ⟨by rfl, ?_⟩) (fun o' _ => hS1 o') ?_
            rotate_left
            · intro w2 hSw
              obtain ⟨s0, s1, s2, s3⟩ := hSw
              go_simp
              try with_reducible rfl
            simp only [Act.put, List.getElem_toArray, List.getElem_cons_succ, List.getElem_cons_zero, List.setIfInBounds_toArray, List.set_cons_zero, List.set_cons_succ]
            refine Rt.C_take (none) (i := 18) (oi := _) (v := ?_) rfl (by kernel_rfl) (by kernel_rfl) (by kernel_rfl) (by kernel_rfl) (fun _ _ _ h => h) (Sc2.other (by decide)) (Or.inl ⟨by rfl, ?_⟩) (fun o' _ => hS1 o') ?_
            rotate_left
            · intro w2 hSw
              obtain ⟨s0, s1, s2, s3⟩ := hSw
              go_simp
              try with_reducible rfl
            simp only [Act.put, List.getElem_toArray, List.getElem_cons_succ, List.getElem_cons_zero, List.setIfInBounds_toArray, List.set_cons_zero, List.set_cons_succ]
            refine Rt.C_take (none) (i := 19) (oi := _) (v := (.slice (some ⟨ab, ao + lo, none⟩) w' (c - lo))) rfl (by kernel_rfl) (by kernel_rfl) (by kernel_rfl) (by kernel_rfl) (fun _ _ _ h => h) (Sc2.other (by decide)) (Or.inl ⟨by rfl, ?_⟩) (fun o' _ => hS1 o') ?_
            · intro w2 hSw
              obtain ⟨s0, s1, s2, s3⟩ := hSw
              go_simp
              try with_reducible rfl
            simp only [Act.put, List.getElem_toArray, List.getElem_cons_succ, List.getElem_cons_zero, List.setIfInBounds_toArray, List.set_cons_zero, List.set_cons_succ]
            clear hS1
            refine Rt.C_ready (rs := [20]) (by kernel_rfl) (by simp) ?_
            refine Rt.AllC.cons (i := 20) (o := _) rfl (by rfl) (fun K' hK => ?_) ?_
            · skip
              refine wp_app_ints _ _ rfl w.heap.size vs (w' * i) (flat w' i (fun x y => f (l' + x) (t' + y))) (by rfl) (own_keep HO.out hdr) ab (ao + lo) w' (c - lo) ys (by rfl) HYL.out (HSRC.out _ hdr) (Nat.le_trans HWI.out (by decide)) (Nat.le_trans HP12.out.2.2.1 (by decide)) HW0.out (Nat.le_trans HB.out.size hdr.size) ?_
              intro g7 c7 w7 ho7 hg7
              have HR57 := Lib.hid (row_grown (own_keep HO.out hdr) hg7 (HR5.out.keep hdr HR5.out.lt) (by decide))
              have HR87 := Lib.hid (row_grown (own_keep HO.out hdr) hg7 (HR8.out.keep hdr HR8.out.lt) (by decide))
              have HL7 := Lib.hid (row_grown (own_keep HO.out hdr) hg7 (HL.out.keep hdr HL.out.lt) (by decide))
              have HH7 := Lib.hid (row_grown (own_keep HO.out hdr) hg7 (HH.out.keep hdr HH.out.lt) (by decide))
              have HB7 := Lib.hid ((HB.out.trans (hdr.mono HB.out.size)).grown hg7 (Nat.le_trans HB.out.size hdr.size) (own_low HO.out))
              have HO7 : Hid (w7.ownsRow w.heap.size 3 1 (.slice (some ⟨g7, 0, none⟩) (w' * (i + 1)) c7) (w' * (i + 1)) ((flat w' (i + 1) (fun x y => f (l' + x) (t' + y))).map (Value.int .i64))) := Lib.hid (by rw [HROW.out, ← HMS.out]; exact ho7)
              rw [HMS.out]
              refine hK _ _ (fun o _ => Sc2.of ⟨HR57.out.cell 0, HR57.out.cell 2, HL7.out.cell 0, HH7.out.cell 0⟩ (HR87.out.cell 2) o) ?_
              clear hK K'
              simp only [Act.put, List.getElem_toArray, List.getElem_cons_succ, List.getElem_cons_zero, List.setIfInBounds_toArray, List.set_cons_zero, List.set_cons_succ]
              refine Rt.C_take (none) (i := 21) (oi := _) (v := ?_) rfl (by kernel_rfl) (by kernel_rfl) (by kernel_rfl) (by kernel_rfl) (fun _ _ _ h => h) (Sc2.other (by decide)) (Or.inl ⟨by rfl, ?_⟩) (fun o' _ => Sc2.of ⟨HR57.out.cell 0, HR57.out.cell 2, HL7.out.cell 0, HH7.out.cell 0⟩ (HR87.out.cell 2) o') ?_
              rotate_left
              · intro w2 hSw
                obtain ⟨s0, s1, s2, s3⟩ := hSw
                go_simp
                try with_reducible rfl
              simp only [Act.put, List.getElem_toArray, List.getElem_cons_succ, List.getElem_cons_zero, List.setIfInBounds_toArray, List.set_cons_zero, List.set_cons_succ]
              refine Rt.C_ready (rs := [22]) (by kernel_rfl) (by simp) ?_
              refine Rt.AllC.cons (i := 22) (o := _) rfl (by rfl) (fun K' hK => ?_) ?_
              · skip
                have c2 := HR87.out.cell 2
                have z2 := HR87.out.frozen 2
                dsimp only [List.getElem?_cons_succ, List.getElem?_cons_zero] at c2
                have HO9 := only_setCell w7 rb 2 (.slice (some ⟨g7, 0, none⟩) (w' * (i + 1)) c7)
                have HR59 := Lib.hid (HR57.out.other HO9 HGR.out.2.2)
                have HL9 := Lib.hid (HL7.out.other HO9 HLH.out.1.2.2.1)
                have HH9 := Lib.hid (HH7.out.other HO9 HLH.out.1.2.2.2.2)
                have HR89 : Hid (Row (w7.setCell ⟨rb, 2, none⟩ (.slice (some ⟨g7, 0, none⟩) (w' * (i + 1)) c7)) rb 35 [.int .i64 (w' : Nat), .int .i64 (h' : Nat), .slice (some ⟨g7, 0, none⟩) (w' * (i + 1)) c7]) := Lib.hid (HR87.out.set 2 _)
                have HB9 := Lib.hid (HB7.out.trans (HO9.below HGR.out.2.1))
                have HO99 := Lib.hid (own_only HO7.out HO9 (own_ne HO7.out HR87.out (by decide)))
                go_simp
                refine hK _ _ (fun o hl => Sc2.late ⟨HR59.out.cell 0, HR59.out.cell 2, HL9.out.cell 0, HH9.out.cell 0⟩ (by rfl) o hl) ?_
                clear hK K'
                simp only [Act.put, List.getElem_toArray, List.getElem_cons_succ, List.getElem_cons_zero, List.setIfInBounds_toArray, List.set_cons_zero, List.set_cons_succ]
                refine Rt.C_done (by kernel_rfl) ?_ _
                refine NoPanic.normal ?_
                clear ho7 hg7 hdr e1 e2 e3 e4 e1' e2' e3' e4' f0 f2 g2 m0 n0 c2 z2 HO9 hlh hhd hhc hcl HR5 HR8 HL HH HO HB HR57 HR87 HL7 HH7 HO7 HB7
                generalize w7.setCell ⟨rb, 2, none⟩ (.slice (some ⟨g7, 0, none⟩) (w' * (i + 1)) c7) = w9 at *
                have hi3 := HIH.out
                have hp3 := HP12.out
                have hW3 := HWB.out
                have hy3 := HYY.out
                have ht3 := HTB.out
                have hH3 := HHB.out
                go_wp2_with fail
                go_roundw
                case rel => exact ⟨i + 1, _, HIH.out, by go_num, HR59.out, HR89.out, HL9.out, HH9.out, HO99.out, HB9.out⟩
                case measure => simp [RowKit.intOf]; omega
              exact Rt.AllC.nil
            exact Rt.AllC.nil
          · obtain rfl : i = h' := by omega
            have hle : ¬ (yy : Int) ≤ (b' : Int) := by have := HHE.out; have := HTB.out; omega
            have g0 := HR8.out.cell 0
            have g1 := HR8.out.cell 1
            have g2 := HR8.out.cell 2
            have m0 := HL.out.cell 0
            have m1 := HL.out.cell 1
            unfold two at m0 m1
            dsimp only [List.getElem?_cons_succ, List.getElem?_cons_zero] at g0 g1 g2 m0 m1
            have hdr : Below wr.heap.size wr wr.drew := (Below.refl _ _).drew
            clear hih hi hyy
            go_upto_region 17 with fail
            clear l1
            refine Rt.region_Cn (Sc2 (fun w2 => w2.cell? ⟨lb, 0, none⟩ = some (.int .i64 l') ∧ w2.cell? ⟨lb, 1, none⟩ = some (.int .i64 t')) (fun w2 => w2.cell? ⟨rb, 0, none⟩ = some (.int .i64 (w' : Nat)) ∧ w2.cell? ⟨rb, 1, none⟩ = some (.int .i64 (i : Nat)) ∧ w2.cell? ⟨rb, 2, none⟩ = some vs) 5) 8 #[false, false, false, false, false, false, false, false] (by kernel_rfl) (by kernel_rfl) (by kernel_rfl) ?_
            have hS1 : ∀ o, Sc2 (fun w2 => w2.cell? ⟨lb, 0, none⟩ = some (.int .i64 l') ∧ w2.cell? ⟨lb, 1, none⟩ = some (.int .i64 t')) (fun w2 => w2.cell? ⟨rb, 0, none⟩ = some (.int .i64 (w' : Nat)) ∧ w2.cell? ⟨rb, 1, none⟩ = some (.int .i64 (i : Nat)) ∧ w2.cell? ⟨rb, 2, none⟩ = some vs) 5 o wr.drew := Sc2.of ⟨m0, m1⟩ ⟨g0, g1, g2⟩
            refine Rt.C_take (some 5) (i := 0) (oi := _) (v := ?_) rfl (by kernel_rfl) (by kernel_rfl) (by kernel_rfl) (by kernel_rfl) (fun _ _ _ h => h) (Sc2.other (by decide)) (Or.inl ⟨by rfl, ?_⟩) (fun o' _ => hS1 o') ?_
            rotate_left
            · intro w2 hSw
              obtain ⟨s0, s1, s2⟩ := hSw rfl
              go_simp
              try with_reducible rfl
            simp only [Act.put, List.getElem_toArray, List.getElem_cons_succ, List.getElem_cons_zero, List.setIfInBounds_toArray, List.set_cons_zero, List.set_cons_succ]
            refine Rt.C_take (none) (i := 1) (oi := _) (v := ?_) rfl (by kernel_rfl) (by kernel_rfl) (by kernel_rfl) (by kernel_rfl) (fun _ _ _ h => h) (Sc2.other (by decide)) (Or.inl ⟨by rfl, ?_⟩) (fun o' _ => hS1 o') ?_
            rotate_left
            · intro w2 hSw
              obtain ⟨s0, s1⟩ := hSw
              go_simp
              try with_reducible rfl
            simp only [Act.put, List.getElem_toArray, List.getElem_cons_succ, List.getElem_cons_zero, List.setIfInBounds_toArray, List.set_cons_zero, List.set_cons_succ]
            refine Rt.C_take (none) (i := 2) (oi := _) (v := ?_) rfl (by kernel_rfl) (by kernel_rfl) (by kernel_rfl) (by kernel_rfl) (fun _ _ _ h => h) (Sc2.other (by decide)) (Or.inl ⟨by rfl, ?_⟩) (fun o' _ => hS1 o') ?_
            rotate_left
            · intro w2 hSw
              obtain ⟨s0, s1⟩ := hSw
              go_simp
              try with_reducible rfl
            simp only [Act.put, List.getElem_toArray, List.getElem_cons_succ, List.getElem_cons_zero, List.setIfInBounds_toArray, List.set_cons_zero, List.set_cons_succ]
            refine Rt.C_take (none) (i := 3) (oi := _) (v := ?_) rfl (by kernel_rfl) (by kernel_rfl) (by kernel_rfl) (by kernel_rfl) (fun _ _ _ h => h) (Sc2.other (by decide)) (Or.inl ⟨by rfl, ?_⟩) (fun o' _ => hS1 o') ?_
            rotate_left
            · intro w2 hSw
              obtain ⟨s0, s1⟩ := hSw
              go_simp
              try with_reducible rfl
            simp only [Act.put, List.getElem_toArray, List.getElem_cons_succ, List.getElem_cons_zero, List.setIfInBounds_toArray, List.set_cons_zero, List.set_cons_succ]
            refine Rt.C_take (none) (i := 4) (oi := _) (v := ?_) rfl (by kernel_rfl) (by kernel_rfl) (by kernel_rfl) (by kernel_rfl) (fun _ _ _ h => h) (Sc2.other (by decide)) (Or.inl ⟨by rfl, ?_⟩) (fun o' _ => hS1 o') ?_
            rotate_left
            · intro w2 hSw
              obtain ⟨s0, s1⟩ := hSw
              go_simp
              try with_reducible rfl
            simp only [Act.put, List.getElem_toArray, List.getElem_cons_succ, List.getElem_cons_zero, List.setIfInBounds_toArray, List.set_cons_zero, List.set_cons_succ]
            clear hS1
            refine Rt.C_ready (rs := [5]) (by kernel_rfl) (by simp) ?_
            refine Rt.AllC.cons (i := 5) (o := _) rfl (by rfl) (fun K' hK => ?_) ?_
            · skip
              refine wp_store_arr 35 _ _ rfl rb (by rfl) 35 [.int .i64 (w' : Nat), .int .i64 (i : Nat), vs] [.int .i64 (w' : Nat), .int .i64 (i : Nat), vs] (by rfl) (HR8.out.keep hdr HR8.out.lt) rfl infoPat ?_ ?_
              · intro v hv
                simp only [List.mem_cons, List.not_mem_nil, or_false] at hv
                rcases hv with rfl | rfl | rfl
                · rfl
                · rfl
                · obtain ⟨av, cv, e, _⟩ := own_is HO.out
                  rw [e]; rfl
              intro w7 hr7 ho7
              have HL7 := Lib.hid ((HL.out.keep hdr HL.out.lt).other ho7 HLH.out.1.2.2.1)
              have HO7 := Lib.hid (own_only (own_keep HO.out hdr) ho7 (own_ne (own_keep HO.out hdr) (HR8.out.keep hdr HR8.out.lt) (by decide)))
              have HB7 := Lib.hid ((HB.out.trans (hdr.mono HB.out.size)).trans (ho7.below HGR.out.2.1))
              have hS2 : ∀ listed : Array Bool, listed.getD 5 true = true → ∀ o, Rt.live o listed → Sc2 (fun w2 => w2.cell? ⟨lb, 0, none⟩ = some (.int .i64 l') ∧ w2.cell? ⟨lb, 1, none⟩ = some (.int .i64 t')) (fun w2 => w2.cell? ⟨rb, 0, none⟩ = some (.int .i64 (w' : Nat)) ∧ w2.cell? ⟨rb, 1, none⟩ = some (.int .i64 (i : Nat)) ∧ w2.cell? ⟨rb, 2, none⟩ = some vs) 5 o w7 := fun listed hk o hl => Sc2.late ⟨HL7.out.cell 0, HL7.out.cell 1⟩ hk o hl
              refine hK _ _ (hS2 _ (by rfl)) ?_
              clear hK K'
              simp only [Act.put, List.getElem_toArray, List.getElem_cons_succ, List.getElem_cons_zero, List.setIfInBounds_toArray, List.set_cons_zero, List.set_cons_succ]
              refine Rt.C_take (none) (i := 6) (oi := _) (v := ?_) rfl (by kernel_rfl) (by kernel_rfl) (by kernel_rfl) (by kernel_rfl) (fun _ _ _ h => h) (Sc2.other (by decide)) (Or.inl ⟨by rfl, ?_⟩) (hS2 _ (by rfl)) ?_
              rotate_left
              · intro w2 hSw
                obtain ⟨s0, s1⟩ := hSw
                go_simp
                try with_reducible rfl
              simp only [Act.put, List.getElem_toArray, List.getElem_cons_succ, List.getElem_cons_zero, List.setIfInBounds_toArray, List.set_cons_zero, List.set_cons_succ]
              refine Rt.C_take (none) (i := 7) (oi := _) (v := ?_) rfl (by kernel_rfl) (by kernel_rfl) (by kernel_rfl) (by kernel_rfl) (fun _ _ _ h => h) (Sc2.other (by decide)) (Or.inl ⟨by rfl, ?_⟩) (hS2 _ (by rfl)) ?_
              rotate_left
              · intro w2 hSw
                obtain ⟨s0, s1⟩ := hSw
                go_simp
                try with_reducible rfl
              simp only [Act.put, List.getElem_toArray, List.getElem_cons_succ, List.getElem_cons_zero, List.setIfInBounds_toArray, List.set_cons_zero, List.set_cons_succ]
              refine Rt.C_done (by kernel_rfl) ?_ _
              clear hS2
              go_wp2_with fail
              obtain ⟨av, cv, hve, hvn, hvm, hvi, hvb⟩ := own_is HO7.out
              subst hve
              refine bodyPost_ret (results_pat3 (t := 2) (u := 3) (v := 4) (e := .int .i64 (l' : Nat)) (f := .int .i64 (t' : Nat)) rfl _ _ hr7 rfl rfl rfl rfl) rfl ⟨⟨w', i, l', t', av, w' * i, cv, rfl, _, .inr ⟨r', b', HGX.out, HWE.out, HHE.out, rfl⟩, rfl, hvn, hvm, hvi, hvb⟩, HB7.out⟩
            exact Rt.AllC.nil
        --}
      --}
end Pn
end Go.Proofs.YtgagophijmiceaaDoor
