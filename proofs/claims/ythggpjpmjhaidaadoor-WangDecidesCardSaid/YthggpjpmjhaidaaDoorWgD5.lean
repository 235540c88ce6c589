/- WALK: wang's search (filler.fill), the round's end: append, call, back. -/
import Derived.Test.YthggpjpmjhaidaaDoorWgD
import Derived.Test.YthggpjpmjhaidaaDoorPc
import Derived.Test.YthggpjpmjhaidaaDoorWgPl2
namespace Go.Proofs.YthggpjpmjhaidaaDoor
set_option linter.unusedSimpArgs false
set_option linter.unusedVariables false
open Go.RowKit Go.Lib
namespace Wg
open Tld Mem

/-- What is known of the search at m places. -/
def IHT (B F M bt ot n tc W H : Nat) (ring : Bool) (ts : List Tl) (m : Nat) : Prop :=
  ∀ (r : Rm) (pre : List Nat) (ks : List Rm) (w : World), Tiles w (some ⟨bt, ot, none⟩) n ts → B ≤ w.heap.size → Fine r → r.pos + m = W * H → pre.length = r.pos → Found B F M (some ⟨bt, ot, none⟩) n tc W H ring pre w → Memo w M ks → Sound (fun i => ts.getD i noTile) n W H ring ks →
    Calls Tryd.prog 57 #[.pointer (some ⟨F, 0, none⟩), rimV r] w fun e w' => Done B F M (some ⟨bt, ot, none⟩) n tc W H ring (fun i => ts.getD i noTile) (comp (fun i => ts.getD i noTile) n W ring m r) pre ks r.pos e w' ∧ Below B w w' ∧ Others F w w'

set_option maxHeartbeats 4000000 in
set_option maxRecDepth 1000000 in
theorem dcall (B F M bt ot n tc W H m i b3 b9 : Nat) (ring : Bool) (ts : List Tl) (r r1 : Rm) (pre : List Nat) (ks ks' : List Rm) (v' : Value) (w0 w : World)
    (hi : i < n) (hn16 : n ≤ 16) (hwh : W * H ≤ 25) (hBF : B ≤ F) (hBM : B ≤ M) (hTB : bt < B) (hpos : r.pos + (m + 1) = W * H) (hF3 : F < b3) (hB3 : B ≤ b3)
    (IH : Hid (IHT B F M bt ot n tc W H ring ts m)) (HT : Hid (Tiles w0 (some ⟨bt, ot, none⟩) n ts)) (HB13 : Hid (Below B w0 w)) (HO13 : Hid (Others F w0 w)) (HR13 : Hid (Row w b3 108 (rimL r)))
    (HF13 : Hid (Row w F 105 (flL (some ⟨bt, ot, none⟩) n tc W H ring M v'))) (HW13 : Hid (w.ownsRow B 3 1 v' r.pos (nats pre))) (HM13 : Hid (Memo w M ks')) (HROW13 : Hid (Row w b9 108 (rimL r1)))
    (HFN : Hid (Fine r1)) (HNP : Hid (r1.pos = r.pos + 1)) (HPRE : Hid (pre.length = r.pos)) (HS6 : Hid (Sound (fun i => ts.getD i noTile) n W H ring ks')) (HK6 : Hid (∀ s ∈ ks', s ∈ ks ∨ r.pos + 1 ≤ s.pos))
    (c1 c2 c4 c5 c6 c8 c10 c11 c12 c13 c14 c15 c16 c17 c18 c19 c20 c21 c22 c23 c24 c25 c26 c27 c28 c29 c30 c31 c32 c33 c34 c35 c36 c37 c38 c39 c40 c41 c42 c43 c44 c45 c46 c47 c48 c49 c50 c51 c52 c53 c54 c55 c56 c57 c58 c59 c60 c61 c62 c63 c64 c65 c66 c67 c68 c69 c70 c71 c72 c73 c74 c75 c76 c77 c78 c79 c80 c81 c82 c83 c84 c85 c86 c87 c88 c89 c90 c91 c92 c93 c94 c95 c96 c97 c98 c99 c100 c101 c102 c103 c104 c105 c106 c107 c108 c109 c110 c111 c112 c113 c114 c115 c116 c117 c118 c119 c120 c121 c122 c123 c124 c125 c126 c127 c128 c129 c130 c131 c132 c133 c134 c135 c136 c137 c138 c139 c140 c141 c142 c143 c144 c145 c146 c147 c148 c149 c150 c151 c152 c153 c154 c155 c156 c157 c158 c159 c160 c161 c162 c163 c164 c165 c166 c167 c168 c169 c170 : Value) (Q : Exit → Act → World → Prop)
    (hnext : ∀ {u142 u143 u144 u145 u146 u147 u148 u149 u150 u151 u152 u153 u154 u155 u156 u157 u158 u159 u160 u161 u162 u163 u164 : Value} {w' : World}, comp (fun i => ts.getD i noTile) n W ring m r1 = none → Left B F M (some ⟨bt, ot, none⟩) n tc W H ring (fun i => ts.getD i noTile) pre ks (r.pos + 1) w' → Row w' b3 108 (rimL r) → Below B w0 w' → Others F w0 w' → Q .normal ⟨#[.pointer (some ⟨F, 0, none⟩), c1, c2, .pointer (some ⟨b3, 0, none⟩), c4, c5, c6, .int .i64 (i : Int), c8, .pointer (some ⟨b9, 0, none⟩), c10, c11, c12, c13, c14, c15, c16, c17, c18, c19, c20, c21, c22, c23, c24, c25, c26, c27, c28, c29, c30, c31, c32, c33, c34, c35, c36, c37, c38, c39, c40, c41, c42, c43, c44, c45, c46, c47, c48, c49, c50, c51, c52, c53, c54, c55, c56, c57, c58, c59, c60, c61, c62, c63, c64, c65, c66, c67, c68, c69, c70, c71, c72, c73, c74, c75, c76, c77, c78, c79, c80, c81, c82, c83, c84, c85, c86, c87, c88, c89, c90, c91, c92, c93, c94, c95, c96, c97, c98, c99, c100, c101, c102, c103, c104, c105, c106, c107, c108, c109, c110, c111, c112, c113, c114, c115, c116, c117, c118, c119, c120, c121, c122, c123, c124, c125, c126, c127, c128, c129, c130, c131, c132, c133, c134, c135, c136, c137, c138, c139, c140, c141, u142, u143, u144, u145, u146, u147, u148, u149, u150, u151, u152, u153, u154, u155, u156, u157, u158, u159, u160, u161, u162, u163, u164, c165, c166, c167, c168, c169, c170], []⟩ w')
    (hret : ∀ {u142 u143 u144 u145 u146 u147 u148 u149 u150 u151 u152 u153 u154 u155 u156 u157 u158 u159 u160 u161 u162 u163 u164 : Value} {w' : World}, (∃ suf, comp (fun i => ts.getD i noTile) n W ring m r1 = some suf ∧ Found B F M (some ⟨bt, ot, none⟩) n tc W H ring (pre ++ i :: suf) w') → Below B w0 w' → Others F w0 w' → Q .ret ⟨#[.pointer (some ⟨F, 0, none⟩), c1, c2, .pointer (some ⟨b3, 0, none⟩), .bool true, c5, c6, .int .i64 (i : Int), c8, .pointer (some ⟨b9, 0, none⟩), c10, c11, c12, c13, c14, c15, c16, c17, c18, c19, c20, c21, c22, c23, c24, c25, c26, c27, c28, c29, c30, c31, c32, c33, c34, c35, c36, c37, c38, c39, c40, c41, c42, c43, c44, c45, c46, c47, c48, c49, c50, c51, c52, c53, c54, c55, c56, c57, c58, c59, c60, c61, c62, c63, c64, c65, c66, c67, c68, c69, c70, c71, c72, c73, c74, c75, c76, c77, c78, c79, c80, c81, c82, c83, c84, c85, c86, c87, c88, c89, c90, c91, c92, c93, c94, c95, c96, c97, c98, c99, c100, c101, c102, c103, c104, c105, c106, c107, c108, c109, c110, c111, c112, c113, c114, c115, c116, c117, c118, c119, c120, c121, c122, c123, c124, c125, c126, c127, c128, c129, c130, c131, c132, c133, c134, c135, c136, c137, c138, c139, c140, c141, u142, u143, u144, u145, u146, u147, u148, u149, u150, u151, u152, u153, u154, u155, u156, u157, u158, u159, u160, u161, u162, u163, u164, c165, c166, c167, c168, c169, c170], []⟩ w')
    : Code.wp Tryd.prog ((Pc.frm 27 (Tryd.f57.body.getD .skip)).getD .skip) Q ⟨#[.pointer (some ⟨F, 0, none⟩), c1, c2, .pointer (some ⟨b3, 0, none⟩), c4, c5, c6, .int .i64 (i : Int), c8, .pointer (some ⟨b9, 0, none⟩), c10, c11, c12, c13, c14, c15, c16, c17, c18, c19, c20, c21, c22, c23, c24, c25, c26, c27, c28, c29, c30, c31, c32, c33, c34, c35, c36, c37, c38, c39, c40, c41, c42, c43, c44, c45, c46, c47, c48, c49, c50, c51, c52, c53, c54, c55, c56, c57, c58, c59, c60, c61, c62, c63, c64, c65, c66, c67, c68, c69, c70, c71, c72, c73, c74, c75, c76, c77, c78, c79, c80, c81, c82, c83, c84, c85, c86, c87, c88, c89, c90, c91, c92, c93, c94, c95, c96, c97, c98, c99, c100, c101, c102, c103, c104, c105, c106, c107, c108, c109, c110, c111, c112, c113, c114, c115, c116, c117, c118, c119, c120, c121, c122, c123, c124, c125, c126, c127, c128, c129, c130, c131, c132, c133, c134, c135, c136, c137, c138, c139, c140, c141, c142, c143, c144, c145, c146, c147, c148, c149, c150, c151, c152, c153, c154, c155, c156, c157, c158, c159, c160, c161, c162, c163, c164, c165, c166, c167, c168, c169, c170], []⟩ w := by
  conv => arg 2; whnf
  obtain ⟨i0, hi0, hz0, hz1, hz2⟩ := info_parts infoInt
  have HI0 := Lib.hid hi0
  have HZ0 := Lib.hid hz0
  have HZ1 := Lib.hid hz1
  have HZ2 := Lib.hid hz2
  have f5 := HF13.out.cell 5
  unfold flL at f5
  dsimp only [List.getElem?_cons_succ, List.getElem?_cons_zero] at f5
  have hrowS := row_alloc w 3 [.int .i64 (i : Int)]
  have hBA : Below w.heap.size w (w.alloc (.cells [.int .i64 (i : Int)].toArray 3)) := (Below.refl _ _).alloc (Nat.le_refl _) _
  have HOWNA := Lib.hid (own_keep HW13.out hBA)
  have HRA := Lib.hid (HR13.out.keep hBA HR13.out.lt)
  have HFA := Lib.hid (HF13.out.keep hBA HF13.out.lt)
  have HMA := Lib.hid (HM13.out.kept (w' := w.alloc (.cells [.int .i64 (i : Int)].toArray 3)) (hBA.block M HM13.out.lt))
  have hbelA := HB13.out.trans (hBA.mono (show B ≤ w.heap.size from by have := HR13.out.lt; omega))
  have HBA := Lib.hid hbelA
  have HOA := Lib.hid (HO13.out.trans (Others.of_below hBA))
  have HRNA := Lib.hid (HROW13.out.keep hBA HROW13.out.lt)
  have hcel := hrowS.cell 0
  have HCEL := Lib.hid hcel
  have hsz : B ≤ (w.alloc (.cells [.int .i64 (i : Int)].toArray 3)).heap.size := by have h1 := HR13.out.lt; have h2 := hBA.size; omega
  have HSZ := Lib.hid hsz
  clear hi0 hz0 hz1 hz2 hrowS hBA hbelA hcel hsz HR13 HF13 HM13 HB13 HO13 HROW13 HW13
  go_wp2_with (at_builtin; refine Ops.wpList_append1 rfl _ _ 24 rfl B 3 i0 (.int .i64 0) 8 Tryd.underlying24 HI0.out HZ0.out rfl HZ1.out HZ2.out _ r.pos _ rfl HOWNA.out ⟨w.heap.size, 0, none⟩ 1 (.int .i64 i) rfl HCEL.out rfl ?c1 ?c2 HSZ.out ?_)
  case c1 => unfold maxLen; omega
  case c2 => omega
  intro ao co w14 hO14 hg14
  have hF14 := row_grown HOWNA.out hg14 HFA.out (by decide)
  have hM14 := HMA.out.kept (w' := w14) (hg14.block M HMA.out.lt (fun e => HMA.out.ne_own HOWNA.out e.symm))
  have HR14 := Lib.hid (row_grown HOWNA.out hg14 HRA.out (by decide))
  have HRN14 := Lib.hid (row_grown HOWNA.out hg14 HRNA.out (by decide))
  have HB14 := Lib.hid (HBA.out.grown hg14 HSZ.out (own_low HOWNA.out))
  have HO14 := Lib.hid (HOA.out.trans (Others.of_grown HOWNA.out hg14))
  have HF14 := Lib.hid hF14
  have HM14 := Lib.hid hM14
  have HW14 := Lib.hid hO14
  have f5 := hF14.cell 5
  unfold flL at f5
  dsimp only [List.getElem?_cons_succ, List.getElem?_cons_zero] at f5
  have z5 := hF14.frozen 5
  clear hF14 hM14 hO14 hg14 HRA HFA HMA HBA HOA HRNA HCEL HSZ HOWNA HI0 HZ0 HZ1 HZ2
  go_upto_region 28 with fail
  have hon15 := only_setCell w14 F 5 (.slice ao (r.pos + 1) co)
  have hF15 := HF14.out.set 5 (.slice ao (r.pos + 1) co)
  have hW15 := own_only HW14.out hon15 (own_ne HW14.out HF14.out (by decide))
  have hneF : M ≠ F := fun e => HM14.out.ne HF14.out e.symm
  have hM15 := HM14.out.kept (hon15.block M hneF)
  have HR15 := Lib.hid (HR14.out.other hon15 (by omega))
  have HRN15 := Lib.hid (HRN14.out.other hon15 (fun e => by subst e; have := HRN14.out; unfold Row at this; have h2 := HF14.out; unfold Row at h2; rw [h2] at this; cases this))
  have HB15 := Lib.hid (HB14.out.trans (hon15.below hBF))
  have HO15 := Lib.hid (HO14.out.trans (Others.of_only hon15))
  generalize w14.setCell ⟨F, 5, none⟩ (.slice ao (r.pos + 1) co) = w15 at *
  have hF15' : Row w15 F 105 (flL (some ⟨bt, ot, none⟩) n tc W H ring M (.slice ao (r.pos + 1) co)) := hF15
  have hl1 : (pre ++ [i]).length = r.pos + 1 := by rw [List.length_append, HPRE.out]; rfl
  have HL1 := Lib.hid hl1
  have hfd15 : Found B F M (some ⟨bt, ot, none⟩) n tc W H ring (pre ++ [i]) w15 := ⟨_, hF15', by rw [hl1, nats_snoc]; exact hW15⟩
  have hIH := IH.out r1 (pre ++ [i]) ks' w15 (HT.out.low (B := B) HB15.out hTB) (by have := HR15.out.lt; omega) HFN.out (by rw [HNP.out]; omega) (by rw [hl1, HNP.out]) hfd15 hM15 HS6.out
  unfold rimV at hIH
  have HIH := Lib.hid hIH
  have u3 : (Tryd.prog.info? 108).map (·.size) = some (rimL r1).length := by rw [rimL_length HFN.out]; exact infoRim
  clear hF15 hF15' hW15 hM15 hl1 hfd15 hIH HR14 HRN14 HB14 HO14 HF14 HM14 HW14 hon15 f5 z5 IH HT HS6 hneF
  go_wp2_with (refine wpList_load_mid rfl 108 _ rfl b9 0 rfl _ _ (row_range HRN15.out) Tryd.underlying108 rfl u3 ?_)
  refine HIH.out.mono ?_
  clear u3 HIH
  rintro e w16 ⟨hd, hb16, ho16⟩
  have HR16 := Lib.hid (ho16 b3 108 _ (by decide) (by omega) HR15.out)
  have HB16 := Lib.hid (HB15.out.trans hb16)
  have HO16 := Lib.hid (HO15.out.trans ho16)
  clear hb16 ho16 HR15 HB15 HO15 HRN15
  cases hcm : comp (fun i => ts.getD i noTile) n W ring m r1 with
  | some suf =>
    rw [hcm] at hd
    obtain ⟨rfl, hfd⟩ := hd
    have HFD := Lib.hid hfd
    have HCM := Lib.hid hcm
    clear hfd hcm hnext
    go_wp2_with fail
    exact hret ⟨suf, HCM.out, by have := HFD.out; rw [List.append_assoc] at this; exact this⟩ HB16.out HO16.out
  | none =>
    rw [hcm] at hd
    obtain ⟨rfl, hlf⟩ := hd
    have HLF := Lib.hid hlf
    have HCM := Lib.hid hcm
    clear hlf hcm hret
    obtain ⟨v2, hF16, hown16⟩ := HLF.out.found.ex
    obtain ⟨ks2, hm16, hs16, hk16⟩ := HLF.out.memo
    rw [HL1.out] at hown16
    obtain ⟨g, cp, rfl, hcp⟩ : ∃ g cp, v2 = .slice (some ⟨g, 0, none⟩) (r.pos + 1) cp ∧ r.pos + 1 ≤ cp := by
      rcases hown16.2 with ⟨_, h0⟩ | ⟨g, cap, cur, hv, _, _, hc, _⟩
      · omega
      · exact ⟨g, cap, hv, hc⟩
    have hpop : w16.ownsRow B 3 1 (.slice (some ⟨g, 0, none⟩) r.pos cp) r.pos (nats pre) := by
      refine ownsRow_pop (last := [.int .i64 (i : Int)]) (by rw [nats_length, HPRE.out, Nat.mul_one]) ?_
      rw [← nats_snoc]; exact hown16
    have HPOP := Lib.hid hpop
    have HF16 := Lib.hid hF16
    have HM16 := Lib.hid hm16
    have HS16 := Lib.hid hs16
    have HK16 := Lib.hid hk16
    have f5 := hF16.cell 5
    unfold flL at f5
    dsimp only [List.getElem?_cons_succ, List.getElem?_cons_zero] at f5
    have z5 := hF16.frozen 5
    have m0 := HR16.out.cell 0
    rw [rimL_pos] at m0
    have hcpi : (r.pos : Int) ≤ (cp : Int) := by omega
    have hcpn : r.pos ≤ cp := by omega
    clear hown16 hF16 hm16 hs16 hk16 hpop HLF hcp
    go_upto_region 30 with fail
    go_region
    have hon17 := only_drew (only_setCell w16 F 5 (.slice (some ⟨g, 0, none⟩) r.pos cp))
    have hF17 : Row (w16.setCell ⟨F, 5, none⟩ (.slice (some ⟨g, 0, none⟩) r.pos cp)).drew F 105 (flL (some ⟨bt, ot, none⟩) n tc W H ring M (.slice (some ⟨g, 0, none⟩) r.pos cp)) := HF16.out.set 5 (.slice (some ⟨g, 0, none⟩) r.pos cp)
    have hown17 := own_only HPOP.out hon17 (own_ne HPOP.out HF16.out (by decide))
    have hm17 := HM16.out.kept (hon17.block M (fun e => HM16.out.ne HF16.out e.symm))
    refine hnext HCM.out ⟨⟨_, hF17, by rw [HPRE.out]; exact hown17⟩, ks2, hm17, HS16.out, fun s hs => ?_⟩ (HR16.out.other hon17 (by omega)) (HB16.out.trans (hon17.below hBF)) (HO16.out.trans (Others.of_only hon17))
    rcases HK16.out s hs with h1 | h1
    · exact HK6.out s h1
    · exact .inr (by rw [← HNP.out]; exact h1)
end Wg
end Go.Proofs.YthggpjpmjhaidaaDoor
