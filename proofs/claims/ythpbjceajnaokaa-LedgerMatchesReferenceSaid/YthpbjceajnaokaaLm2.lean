/- The walk of LedgerMatchesReference: its last region, and the whole. Condition: the arguments are readable. -/
import Derived.Test.YthpbjceajnaokaaLmr
namespace Go.Proofs.Ythpbjceajnaokaa
open Go.RowKit
set_option maxRecDepth 100000 in
set_option maxHeartbeats 40000000 in
theorem match_27 : match_cut.1 := by
  intro A0 A1 A2 n0 n1 n2 c0 c1 c2 kd N t tm l0 l1 l2 c w b o c3 Aa ca m A3 c4 u11 i key g7 g9 g12 u6 u18 u19 tot now x fl gx u23 u24 u25 u26 u27 u28 u29 u30 u31 u32 u33 u34 u35 u36 u37 u38 u39 u40 u41 u42 u43 u44 u45 u46 u47 u48 u49 u50 u51 u52 u53 u54 u55 u56 u57 u58 u59 u60 u61 u62 u63 u64 u65 u66 u67 u68 u69 u70 u71 u72 u73 u74 u75 u76 u77 u78 u79 u80 u81 u82 u83 u84 u85 u86 u87 u88 u89 u90 u91 u92 u93 u94 u95 u96 u97 u98 u99 u100 u101 u102 u103 u104 u105 u106 u107 u108 u109 u110 u111 u112 u113 u114 u115 u116 u117 u118 u119 u120 u121 u122 u123 u124 u125 u126 u127 u128 u129 u130 u131 u132 u133 u134 u135 u136 u137 u138 u139 u140 u141 u142 u143 u144 u145 u146 u147 u148 u149 u150 u151 u152 u153 u154 u155 u156 u157 u158 u159 u160 u161 u162 u163 u164 u165 u166 u167 u168 u169 u170 u171 u172 u173 u174 u175 u176 u177 u178 u179 u180 u181 u182 u183 u184 u185 u186 u187 u188 u189 u190 u191 u192 u193 u194 u195 u196 u197 u198 u199 u200 u201 u202 u203 u204 u205 u206 u207 u208 u209 u210 u211 u212 u213 u214 u215 u216 u217 u218 u219 u220 u221 u222 u223 u224 u225 u226 u227 u228 u229 u230 u231 u232 u233 u234 u235 u236 u237 u238 u239 u240 u241 u242 u243 u244 u245 u246 u247 u248 u249 u250 u251 u252 u253 u254 u255 u256 u257 u258 u259 u260 A5 w20 X20 C20 tot2 tot3 O2 O3 K27 K28 K29 K30 K31 J30 J31 HB El Ht23 KK Qg aKK hQ2
  go_region_held3 (fun w' => w'.cell? ⟨gx, 0, none⟩ = some (.int .i64 x.firm) ∧ w'.cell? ⟨gx, 1, none⟩ = some (.int .i64 x.seq) ∧ w'.cell? ⟨gx, 2, none⟩ = some (.int .i64 x.time) ∧ w'.cell? ⟨gx, 3, none⟩ = some (.int .i64 x.kind) ∧ w'.cell? ⟨gx, 4, none⟩ = some (.int .i64 x.a) ∧ w'.cell? ⟨gx, 5, none⟩ = some (.int .u64 x.ref) ∧ w'.cell? ⟨gx, 6, none⟩ = some (.int .u64 x.aux) ∧ w'.cell? ⟨gx, 7, none⟩ = some (.int .u64 x.prev) ∧ w'.cell? ⟨gx, 8, none⟩ = some (.int .u64 x.tag) ∧ w'.cell? ⟨w.heap.size + 1, 3, none⟩ = some (.int .i64 tm) ∧ w'.cell? ⟨w.heap.size + 1, 4, none⟩ = some (.int .i64 l0) ∧ w'.cell? ⟨w.heap.size + 1, 5, none⟩ = some (.int .i64 l1) ∧ w'.cell? ⟨w.heap.size + 1, 6, none⟩ = some (.int .i64 l2) ∧ Below w20.heap.size w20 w')
    ((go_split_ands; refine keepW ?_ X20.out.1 X20.out.2 C20.out; first | exact (Below.refl _ _).drew | assumption))
    (first
      | (go_at_call 15; refine (same_is (xs := now) rfl ((hs10.below hR29).more hR29.size) hs11 (by have := Ht23.out; omega)).mono ?_; rintro e w30 ⟨rfl, hb30⟩; have hB30 : Below w20.heap.size w20 w30 := hB29.trans (hb30.mono hB29.size))
      | (go_at_call 15; refine (same_is (xs := O3) rfl ((hs8.below hR26).more hR26.size) hs9 (by have := Ht23.out; omega)).mono ?_; rintro e w27 ⟨rfl, hb27⟩; have hB27 : Below w20.heap.size w20 w27 := hB26.trans (hb27.mono hB26.size))
      | (go_at_call 15; refine (same_is (xs := O2) rfl ((hs6.below hR23).more hR23.size) hs7 (by have := Ht23.out; omega)).mono ?_; rintro e w24 ⟨rfl, hb24⟩; have hB24 : Below w20.heap.size w20 w24 := hB23.trans (hb24.mono hB23.size))
      | (go_at_call 27; refine ((K27.out _ (by first | exact (Below.refl _ _).drew | assumption))).mono ?_; rintro e w21 ⟨rfl, hB21⟩)
      | (go_at_call 28; refine ((K28.out _ (by first | exact (Below.refl _ _).drew | assumption))).mono ?_; rintro e w22 ⟨A6, c6, rfl, hs6, hR22, hB22⟩)
      | (go_at_call 29; refine ((K29.out _ (by first | exact (Below.refl _ _).drew | assumption))).mono ?_; rintro e w23 ⟨A7, c7', rfl, hs7, hR23, hB23⟩)
      | (go_at_call 30; have h27 := hB27; clear h27; refine ((J30.out _ (by first | exact (Below.refl _ _).drew | assumption))).mono ?_; rintro e w28 ⟨A10, c10, rfl, hs10, hR28, hB28⟩)
      | (go_at_call 30; refine ((K30.out _ (by first | exact (Below.refl _ _).drew | assumption))).mono ?_; rintro e w25 ⟨A8, c8, rfl, hs8, hR25, hB25⟩)
      | (go_at_call 31; have h27 := hB27; clear h27; refine ((J31.out _ (by first | exact (Below.refl _ _).drew | assumption))).mono ?_; rintro e w29 ⟨A11, c11, rfl, hs11, hR29, hB29⟩)
      | (go_at_call 31; refine ((K31.out _ (by first | exact (Below.refl _ _).drew | assumption))).mono ?_; rintro e w26 ⟨A9, c9', rfl, hs9, hR26, hB26⟩)
      | fail)
  all_goals
    go_wp2_with fail
    subst hQ2
    go_ret
    exact ⟨rfl, HB.out.trans (hB30.mono HB.out.size)⟩
theorem match_walk (A0 A1 A2 : Option Addr) (n0 n1 n2 c0 c1 c2 : Nat) (kd N t tm l0 l1 l2 : Int) (c : Cl) (w : World) (h0 : RawsAt w w.heap.size A0 n0) (h1 : RawsAt w w.heap.size A1 n1) (h2 : RawsAt w w.heap.size A2 n2)
    (hkd : 0 ≤ kd ∧ kd < 256) (ht : 0 ≤ t ∧ t < 256) (hc : wfC c) :
    Calls Try.prog 3 #[.agg #[.slice A0 n0 c0, .slice A1 n1 c1, .slice A2 n2 c2], .agg #[.int .u8 kd, .int .i64 N, .int .u8 t, .int .i64 tm, .int .i64 l0, .int .i64 l1, .int .i64 l2], .agg #[.int .i64 c.firm, .int .i64 c.seq, .int .i64 c.time, .int .i64 c.kind, .int .i64 c.a, .int .u64 c.ref, .int .u64 c.aux, .int .u64 c.prev, .int .u64 c.tag]] w fun e w' => e = .returned (.bool true) ∧ Below w.heap.size w w' := match_cut.2 ⟨match_27⟩ A0 A1 A2 n0 n1 n2 c0 c1 c2 kd N t tm l0 l1 l2 c w h0 h1 h2 hkd ht hc
end Go.Proofs.Ythpbjceajnaokaa
