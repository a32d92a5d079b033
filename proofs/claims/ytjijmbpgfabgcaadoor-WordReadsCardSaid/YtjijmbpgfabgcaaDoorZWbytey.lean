/-
  What Bytes of a right message gives. No condition.
-/
import Derived.Test.YtjijmbpgfabgcaaDoorZI
namespace Go.Proofs.YtjijmbpgfabgcaaDoor
open Go.RowKit
set_option linter.unusedVariables false
set_option linter.unusedSimpArgs false

set_option maxHeartbeats 4000000 in
set_option maxRecDepth 100000 in
theorem bytes_yes (m : M) (nv rv vv : Value) (w : World) (hG : Glob w) (hM : MV w m nv rv vv) (h : m.Ok) (hf : m.Fit) (hR : Right m) :
    Calls Tryd.prog 11 #[.agg (m.cells nv rv vv)] w fun e w' => ∃ v, e = .returned (.tuple #[v, .int .i64 0]) ∧ OwnM w' w.heap.size 5 1 v (bts m).length ((bts m).map (Value.int .u8)) ∧ Below w.heap.size w w' := by
  have hO0 := Blk.new w 31 (m.cells nv rv vv)
  have hB0 := (Below.refl w.heap.size w).alloc (Nat.le_refl _) (.cells (m.cells nv rv vv) 31)
  have a0 : World.cell? (w.alloc (.cells (m.cells nv rv vv) 31)) ⟨w.heap.size, 0, none⟩ = some (.int .u64 m.kd) := hO0.cell 0
  have a1 : World.cell? (w.alloc (.cells (m.cells nv rv vv) 31)) ⟨w.heap.size, 1, none⟩ = some (.int .u64 m.id) := hO0.cell 1
  have a2 : World.cell? (w.alloc (.cells (m.cells nv rv vv) 31)) ⟨w.heap.size, 2, none⟩ = some (.int .u64 m.al) := hO0.cell 2
  have a3 : World.cell? (w.alloc (.cells (m.cells nv rv vv) 31)) ⟨w.heap.size, 3, none⟩ = some (nv) := hO0.cell 3
  have a4 : World.cell? (w.alloc (.cells (m.cells nv rv vv) 31)) ⟨w.heap.size, 4, none⟩ = some (.int .u8 m.pr) := hO0.cell 4
  have a5 : World.cell? (w.alloc (.cells (m.cells nv rv vv) 31)) ⟨w.heap.size, 5, none⟩ = some (.int .u8 m.od) := hO0.cell 5
  have a6 : World.cell? (w.alloc (.cells (m.cells nv rv vv) 31)) ⟨w.heap.size, 6, none⟩ = some (.int .u64 m.sg) := hO0.cell 6
  have a7 : World.cell? (w.alloc (.cells (m.cells nv rv vv) 31)) ⟨w.heap.size, 7, none⟩ = some (.int .u64 m.so) := hO0.cell 7
  have a8 : World.cell? (w.alloc (.cells (m.cells nv rv vv) 31)) ⟨w.heap.size, 8, none⟩ = some (.int .u64 m.eg) := hO0.cell 8
  have a9 : World.cell? (w.alloc (.cells (m.cells nv rv vv) 31)) ⟨w.heap.size, 9, none⟩ = some (.int .u64 m.eo) := hO0.cell 9
  have a10 : World.cell? (w.alloc (.cells (m.cells nv rv vv) 31)) ⟨w.heap.size, 10, none⟩ = some (.bool m.sm) := hO0.cell 10
  have a11 : World.cell? (w.alloc (.cells (m.cells nv rv vv) 31)) ⟨w.heap.size, 11, none⟩ = some (.int .u64 m.cd) := hO0.cell 11
  have a12 : World.cell? (w.alloc (.cells (m.cells nv rv vv) 31)) ⟨w.heap.size, 12, none⟩ = some (rv) := hO0.cell 12
  have a13 : World.cell? (w.alloc (.cells (m.cells nv rv vv) 31)) ⟨w.heap.size, 13, none⟩ = some (.int .u64 m.n) := hO0.cell 13
  have a14 : World.cell? (w.alloc (.cells (m.cells nv rv vv) 31)) ⟨w.heap.size, 14, none⟩ = some (.int .u64 m.ve) := hO0.cell 14
  have a15 : World.cell? (w.alloc (.cells (m.cells nv rv vv) 31)) ⟨w.heap.size, 15, none⟩ = some (vv) := hO0.cell 15
  have hrt := right_all m nv rv vv _ (hG.same hB0) (hM.below hB0) h hf
  rw [(rt_iff m h).2 hR] at hrt
  have hk := prt_kd hR.1
  have hlen := right_len hR
  have hpr : prt m.kd = ((prt m.kd).1, true) := by rw [← hR.1]
  have HPM := Lib.hid (prt_mem _ hR.1)
  obtain ⟨F, hF⟩ : ∃ F, F = fb m (shP (prt m.kd).1) := ⟨_, rfl⟩
  rw [← hF] at hlen
  obtain ⟨P, hPP⟩ : ∃ P, P = (prt m.kd).1 := ⟨_, rfl⟩
  rw [← hPP] at hpr hF HPM
  have HF := Lib.hid hF
  have HPP := Lib.hid hPP
  have HR := Lib.hid hR
  have HK := Lib.hid hk
  clear hF hPP hR hk
  go_enter Tryd.func11, Tryd.ntmps11
  go_wp2_with fail
  (with_reducible refine hrt.mono ?_)
  clear hrt
  rintro e w1 ⟨rfl, hb1⟩
  have hO1 := hO0.same hb1
  have hB1 := hB0.trans (hb1.mono hB0.size)
  have hG1 := hG.same hB1
  clear a0 a1 a2 a3 a4 a5 a6 a7 a8 a9 a10 a11 a12 a13 a14 a15 hO0 hb1 hB0
  have b0 : World.cell? w1 ⟨w.heap.size, 0, none⟩ = some (.int .u64 m.kd) := hO1.cell 0
  have b1 : World.cell? w1 ⟨w.heap.size, 1, none⟩ = some (.int .u64 m.id) := hO1.cell 1
  have b2 : World.cell? w1 ⟨w.heap.size, 2, none⟩ = some (.int .u64 m.al) := hO1.cell 2
  have b3 : World.cell? w1 ⟨w.heap.size, 3, none⟩ = some (nv) := hO1.cell 3
  have b4 : World.cell? w1 ⟨w.heap.size, 4, none⟩ = some (.int .u8 m.pr) := hO1.cell 4
  have b5 : World.cell? w1 ⟨w.heap.size, 5, none⟩ = some (.int .u8 m.od) := hO1.cell 5
  have b6 : World.cell? w1 ⟨w.heap.size, 6, none⟩ = some (.int .u64 m.sg) := hO1.cell 6
  have b7 : World.cell? w1 ⟨w.heap.size, 7, none⟩ = some (.int .u64 m.so) := hO1.cell 7
  have b8 : World.cell? w1 ⟨w.heap.size, 8, none⟩ = some (.int .u64 m.eg) := hO1.cell 8
  have b9 : World.cell? w1 ⟨w.heap.size, 9, none⟩ = some (.int .u64 m.eo) := hO1.cell 9
  have b10 : World.cell? w1 ⟨w.heap.size, 10, none⟩ = some (.bool m.sm) := hO1.cell 10
  have b11 : World.cell? w1 ⟨w.heap.size, 11, none⟩ = some (.int .u64 m.cd) := hO1.cell 11
  have b12 : World.cell? w1 ⟨w.heap.size, 12, none⟩ = some (rv) := hO1.cell 12
  have b13 : World.cell? w1 ⟨w.heap.size, 13, none⟩ = some (.int .u64 m.n) := hO1.cell 13
  have b14 : World.cell? w1 ⟨w.heap.size, 14, none⟩ = some (.int .u64 m.ve) := hO1.cell 14
  have b15 : World.cell? w1 ⟨w.heap.size, 15, none⟩ = some (vv) := hO1.cell 15
  go_wp2_with fail
  (with_reducible refine (parts_all m.kd _ hG1).mono ?_)
  rintro e w2 ⟨rfl, hb2⟩
  rw [hpr]
  simp only []
  have hO2 := hO1.same hb2
  have hB2 := hB1.trans (hb2.mono hB1.size)
  clear b0 b1 b2 b3 b4 b5 b6 b7 b8 b9 b10 b11 b12 b13 b14 b15 hO1 hb2 hB1 hpr
  have c0 : World.cell? (w2.alloc (.cells #[.slice none 0 0] 63)) ⟨w.heap.size, 0, none⟩ = some (.int .u64 m.kd) := (hO2.alloc (.cells #[.slice none 0 0] 63)).cell 0
  have c1 : World.cell? (w2.alloc (.cells #[.slice none 0 0] 63)) ⟨w.heap.size, 1, none⟩ = some (.int .u64 m.id) := (hO2.alloc (.cells #[.slice none 0 0] 63)).cell 1
  have c2 : World.cell? (w2.alloc (.cells #[.slice none 0 0] 63)) ⟨w.heap.size, 2, none⟩ = some (.int .u64 m.al) := (hO2.alloc (.cells #[.slice none 0 0] 63)).cell 2
  have c3 : World.cell? (w2.alloc (.cells #[.slice none 0 0] 63)) ⟨w.heap.size, 3, none⟩ = some (nv) := (hO2.alloc (.cells #[.slice none 0 0] 63)).cell 3
  have c4 : World.cell? (w2.alloc (.cells #[.slice none 0 0] 63)) ⟨w.heap.size, 4, none⟩ = some (.int .u8 m.pr) := (hO2.alloc (.cells #[.slice none 0 0] 63)).cell 4
  have c5 : World.cell? (w2.alloc (.cells #[.slice none 0 0] 63)) ⟨w.heap.size, 5, none⟩ = some (.int .u8 m.od) := (hO2.alloc (.cells #[.slice none 0 0] 63)).cell 5
  have c6 : World.cell? (w2.alloc (.cells #[.slice none 0 0] 63)) ⟨w.heap.size, 6, none⟩ = some (.int .u64 m.sg) := (hO2.alloc (.cells #[.slice none 0 0] 63)).cell 6
  have c7 : World.cell? (w2.alloc (.cells #[.slice none 0 0] 63)) ⟨w.heap.size, 7, none⟩ = some (.int .u64 m.so) := (hO2.alloc (.cells #[.slice none 0 0] 63)).cell 7
  have c8 : World.cell? (w2.alloc (.cells #[.slice none 0 0] 63)) ⟨w.heap.size, 8, none⟩ = some (.int .u64 m.eg) := (hO2.alloc (.cells #[.slice none 0 0] 63)).cell 8
  have c9 : World.cell? (w2.alloc (.cells #[.slice none 0 0] 63)) ⟨w.heap.size, 9, none⟩ = some (.int .u64 m.eo) := (hO2.alloc (.cells #[.slice none 0 0] 63)).cell 9
  have c10 : World.cell? (w2.alloc (.cells #[.slice none 0 0] 63)) ⟨w.heap.size, 10, none⟩ = some (.bool m.sm) := (hO2.alloc (.cells #[.slice none 0 0] 63)).cell 10
  have c11 : World.cell? (w2.alloc (.cells #[.slice none 0 0] 63)) ⟨w.heap.size, 11, none⟩ = some (.int .u64 m.cd) := (hO2.alloc (.cells #[.slice none 0 0] 63)).cell 11
  have c12 : World.cell? (w2.alloc (.cells #[.slice none 0 0] 63)) ⟨w.heap.size, 12, none⟩ = some (rv) := (hO2.alloc (.cells #[.slice none 0 0] 63)).cell 12
  have c13 : World.cell? (w2.alloc (.cells #[.slice none 0 0] 63)) ⟨w.heap.size, 13, none⟩ = some (.int .u64 m.n) := (hO2.alloc (.cells #[.slice none 0 0] 63)).cell 13
  have c14 : World.cell? (w2.alloc (.cells #[.slice none 0 0] 63)) ⟨w.heap.size, 14, none⟩ = some (.int .u64 m.ve) := (hO2.alloc (.cells #[.slice none 0 0] 63)).cell 14
  have c15 : World.cell? (w2.alloc (.cells #[.slice none 0 0] 63)) ⟨w.heap.size, 15, none⟩ = some (vv) := (hO2.alloc (.cells #[.slice none 0 0] 63)).cell 15
  have hQ := Blk.new w2 63 #[.slice none 0 0]
  have hpen : Pen w2.heap.size (w2.alloc (.cells #[.slice none 0 0] 63)) w2.heap.size [] := ⟨Nat.le_refl _, _, hQ, World.ownsRow_nil _ _ _ _⟩
  have hfl := fields_all w2.heap.size w2.heap.size m nv rv vv P _ HPM.out hpen (by simp) (fun w' hk => hM.below (hB2.trans (Below.mono (keepB_alloc (Below.refl _ _) _ |>.trans hk.1) hB2.size))) h HR.out.2.2.2.1 hf (Nat.le_trans (right_vs HR.out) (by decide))
  rw [← HF.out] at hfl
  go_wp2_with fail
  (with_reducible refine hfl.mono ?_)
  clear hfl
  rintro e w3 ⟨rfl, ⟨hpb, pv, hQ3, hop3⟩, hK3⟩
  have hO3 := hK3.kept (hO2.alloc (.cells #[.slice none 0 0] 63)) (by decide) (by decide)
  have hB3 : Below w.heap.size w w3 := hB2.trans ((keepB_alloc (Below.refl _ _) (.cells #[.slice none 0 0] 63)).trans hK3.1 |>.mono hB2.size)
  clear c0 c1 c2 c3 c4 c5 c6 c7 c8 c9 c10 c11 c12 c13 c14 c15 hO2 hQ hpen hK3
  have d0 : World.cell? w3 ⟨w.heap.size, 0, none⟩ = some (.int .u64 m.kd) := hO3.cell 0
  have d1 : World.cell? w3 ⟨w.heap.size, 1, none⟩ = some (.int .u64 m.id) := hO3.cell 1
  have d2 : World.cell? w3 ⟨w.heap.size, 2, none⟩ = some (.int .u64 m.al) := hO3.cell 2
  have d3 : World.cell? w3 ⟨w.heap.size, 3, none⟩ = some (nv) := hO3.cell 3
  have d4 : World.cell? w3 ⟨w.heap.size, 4, none⟩ = some (.int .u8 m.pr) := hO3.cell 4
  have d5 : World.cell? w3 ⟨w.heap.size, 5, none⟩ = some (.int .u8 m.od) := hO3.cell 5
  have d6 : World.cell? w3 ⟨w.heap.size, 6, none⟩ = some (.int .u64 m.sg) := hO3.cell 6
  have d7 : World.cell? w3 ⟨w.heap.size, 7, none⟩ = some (.int .u64 m.so) := hO3.cell 7
  have d8 : World.cell? w3 ⟨w.heap.size, 8, none⟩ = some (.int .u64 m.eg) := hO3.cell 8
  have d9 : World.cell? w3 ⟨w.heap.size, 9, none⟩ = some (.int .u64 m.eo) := hO3.cell 9
  have d10 : World.cell? w3 ⟨w.heap.size, 10, none⟩ = some (.bool m.sm) := hO3.cell 10
  have d11 : World.cell? w3 ⟨w.heap.size, 11, none⟩ = some (.int .u64 m.cd) := hO3.cell 11
  have d12 : World.cell? w3 ⟨w.heap.size, 12, none⟩ = some (rv) := hO3.cell 12
  have d13 : World.cell? w3 ⟨w.heap.size, 13, none⟩ = some (.int .u64 m.n) := hO3.cell 13
  have d14 : World.cell? w3 ⟨w.heap.size, 14, none⟩ = some (.int .u64 m.ve) := hO3.cell 14
  have d15 : World.cell? w3 ⟨w.heap.size, 15, none⟩ = some (vv) := hO3.cell 15
  obtain ⟨pA, pc, rfl, _⟩ := sl_of_own hop3
  have z0 : w3.cell? ⟨w2.heap.size, 0, none⟩ = some (.slice pA F.length pc) := hQ3.cell 0
  go_wp2_with fail
  (with_reducible refine (num_any m.kd w3 HK.out.1 (by have := HK.out; omega) (vsz_some (by have := HK.out; omega))).mono ?_)
  rintro e w4 ⟨kv, rfl, hok, hb4⟩
  obtain ⟨q, hq⟩ : ∃ q, q = vform m.kd (vsz m.kd) := ⟨_, rfl⟩
  rw [← hq] at hok
  have hq8 : q.length ≤ 8 := by rw [hq]; exact vf_len _ (vsz_some (by have := HK.out; omega))
  have HQ := Lib.hid hq
  have rk := rd_of_own hok
  obtain ⟨kA, kc, rfl⟩ := rk.form
  have rp := (rd_of_own hop3).below hb4
  have hQ4 := hQ3.same hb4
  have hB4 := hB3.trans (hb4.mono hB3.size)
  have LIT : List.map (Value.int .u8) [(F.length : Int) / 256, (F.length : Int) % 256] = [.int .u8 ((F.length : Int) / 256), .int .u8 ((F.length : Int) % 256)] := rfl
  have hb5 : Below w4.heap.size w4 (w4.alloc (.cells #[.int .u8 ((F.length : Int) / 256), .int .u8 ((F.length : Int) % 256)] 5)) := (Below.refl _ _).alloc (Nat.le_refl _) _
  have z5 : (w4.alloc (.cells #[.int .u8 ((F.length : Int) / 256), .int .u8 ((F.length : Int) % 256)] 5)).cell? ⟨w2.heap.size, 0, none⟩ = some (.slice pA F.length pc) := (hQ4.same hb5).cell 0
  have rl : Rd (w4.alloc (.cells #[.int .u8 ((F.length : Int) / 256), .int .u8 ((F.length : Int) % 256)] 5)) .u8 (.slice (some ⟨w4.heap.size, 0, none⟩) 2 2) [(F.length : Int) / 256, (F.length : Int) % 256] := rd_of_own (base := 0) (e := 5) (World.ownsRow_lit (size := 1) (e := 5) w4 #[.int .u8 ((F.length : Int) / 256), .int .u8 ((F.length : Int) % 256)] 2 (Nat.zero_le _) (by decide) rfl)
  have hb6 : Below (w4.heap.size + 1) (w4.alloc (.cells #[.int .u8 ((F.length : Int) / 256), .int .u8 ((F.length : Int) % 256)] 5)) ((w4.alloc (.cells #[.int .u8 ((F.length : Int) / 256), .int .u8 ((F.length : Int) % 256)] 5)).alloc (.cells #[.slice kA q.length kc, .slice (some ⟨w4.heap.size, 0, none⟩) 2 2, .slice pA F.length pc] 23)) := (Below.refl _ _).alloc (by simp) _
  have hsz5 : (w4.alloc (.cells #[.int .u8 ((F.length : Int) / 256), .int .u8 ((F.length : Int) % 256)] 5)).heap.size = w4.heap.size + 1 := by simp
  have hT := Blk.new (w4.alloc (.cells #[.int .u8 ((F.length : Int) / 256), .int .u8 ((F.length : Int) % 256)] 5)) 23 #[.slice kA q.length kc, .slice (some ⟨w4.heap.size, 0, none⟩) 2 2, .slice pA F.length pc]
  rw [hsz5] at hT
  have hJ := join3 (w4.heap.size + 1) kA (some ⟨w4.heap.size, 0, none⟩) pA q.length 2 F.length kc 2 pc q _ F _ (hT.cell 0) (hT.cell 1) (hT.cell 2) ((rk.below hb5).below (by rw [hsz5]; exact hb6)) (rl.below (by rw [hsz5]; exact hb6)) ((rp.below hb5).below (by rw [hsz5]; exact hb6)) (by simp only [List.length_cons, List.length_nil]; omega)
  have hB6 : Below w.heap.size w ((w4.alloc (.cells #[.int .u8 ((F.length : Int) / 256), .int .u8 ((F.length : Int) % 256)] 5)).alloc (.cells #[.slice kA q.length kc, .slice (some ⟨w4.heap.size, 0, none⟩) 2 2, .slice pA F.length pc] 23)) := hB4.trans ((hb5.mono hB4.size).trans (hb6.mono (Nat.le_trans hB4.size (Nat.le_succ _))))
  clear rk rp rl hQ4 hb5 hb6 hT LIT hok hop3 hQ3 hO3 hq d0 d1 d2 d3 d4 d5 d6 d7 d8 d9 d10 d11 d12 d13 d14 d15 z0
  go_wp2_with fail
  (with_reducible refine hJ.mono ?_)
  clear hJ
  rintro e w7 ⟨v, rfl, ho7, hb7⟩
  go_wp2_with fail
  go_ret2
  refine ⟨v, rfl, ?_, hB6.trans (hb7.mono hB6.size)⟩
  have hbt : bts m = q ++ [(F.length : Int) / 256, (F.length : Int) % 256] ++ F := by unfold bts; rw [← HPP.out, ← HF.out, ← HQ.out]
  rw [hbt]
  exact ho7.low hB6.size

end Go.Proofs.YtjijmbpgfabgcaaDoor
