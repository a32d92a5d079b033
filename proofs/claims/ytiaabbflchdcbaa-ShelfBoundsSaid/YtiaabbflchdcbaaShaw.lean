/-
  awake. No condition.
-/
import Derived.Test.YtiaabbflchdcbaaShobj
import Derived.Test.YtiaabbflchdcbaaSpq
import Derived.Lib.SlBytesConst
namespace Go.Proofs.Ytiaabbflchdcbaa
open Go.RowKit
set_option linter.unusedVariables false
set_option linter.unusedSimpArgs false

def AW1 : PS := (pput 100 PS.empty [97] 0 0 0 (List.replicate 20 0)).2
def AW2 : PS := (pput 100 AW1 [97] 0 1 0 (List.replicate 20 0)).2
def AW3 : PS := (pput 100 AW2 [97] 1 0 0 (List.replicate 20 0)).2
theorem aw_1 : (pput 100 PS.empty [97] 0 0 0 (List.replicate 20 0)).1 = 0 := by kernel_rfl
theorem aw_2 : (pput 100 AW1 [97] 0 1 0 (List.replicate 20 0)).1 = 0 := by kernel_rfl
theorem aw_3 : (pput 100 AW2 [97] 1 0 0 (List.replicate 20 0)).1 = 0 := by kernel_rfl
theorem aw_g1 : getV (pget AW3 [97] 0 0) = (0, 0, 0, [], false) := by kernel_rfl
theorem aw_g2 : getV (pget AW3 [97] 1 0) = (1, 0, 0, (List.replicate 20 0), true) := by kernel_rfl
theorem aw_u : AW3.used = 36 := by kernel_rfl
theorem aw_z : AW3.Z.length = 1 := by kernel_rfl
theorem aw_ok1 : AW1.Ok 100 := pput_okP (PS.empty_ok (by omega))
theorem aw_ok2 : AW2.Ok 100 := pput_okP aw_ok1
theorem aw_ok3 : AW3.Ok 100 := pput_okP aw_ok2
theorem aw_bytes : BytesOk [97] := fun x hx => by simp at hx; omega
theorem obj_20 (g n : Int) (w : World) : Calls Try.prog 16 #[.int .u64 g, .int .u64 n, .int .i64 20] w fun e w' => ∃ b, e = .returned (.agg #[.int .u64 g, .int .u64 n, .int .u8 0, .bool false, .slice (some ⟨b, 0, none⟩) 20 20]) ∧ w'.ownsRow w.heap.size 5 1 (.slice (some ⟨b, 0, none⟩) 20 20) 20 ((List.replicate 20 0).map (Value.int .u8)) ∧ Below w.heap.size w w' := obj_any g n 20 w (by omega)
theorem aput1 (B sb lb zb tb nb ob : Nat) (w : World) (hH : HS w B sb lb zb tb 100 PS.empty) (hv : Rd w .u8 (.slice (some ⟨nb, 0, none⟩) 1 1) [97]) (hr : RdT w (.slice (some ⟨ob, 0, none⟩) 20 20) (List.replicate 20 0)) :
    Calls Try.prog 12 #[.pointer (some ⟨sb, 0, none⟩), .slice (some ⟨nb, 0, none⟩) 1 1, .agg #[.int .u64 0, .int .u64 0, .int .u8 0, .bool false, .slice (some ⟨ob, 0, none⟩) 20 20]] w fun e w' => e = .returned (.int .i64 0) ∧ HS w' B sb lb zb tb 100 AW1 ∧ KX lb zb tb w w' ∧ Below B w w' := by
  have h := put_rep B sb lb zb tb (.slice (some ⟨nb, 0, none⟩) 1 1) 100 0 0 0 false (some ⟨ob, 0, none⟩) 20 20 0 [97] PS.empty w hH (PS.empty_ok (by omega)) (by omega) hv aw_bytes (by simp) hr (by omega) (by omega) ⟨by omega, by omega⟩ ⟨by omega, by omega⟩ (by omega)
  rw [aw_1] at h
  exact h
theorem aput2 (B sb lb zb tb nb ob : Nat) (w : World) (hH : HS w B sb lb zb tb 100 AW1) (hv : Rd w .u8 (.slice (some ⟨nb, 0, none⟩) 1 1) [97]) (hr : RdT w (.slice (some ⟨ob, 0, none⟩) 20 20) (List.replicate 20 0)) :
    Calls Try.prog 12 #[.pointer (some ⟨sb, 0, none⟩), .slice (some ⟨nb, 0, none⟩) 1 1, .agg #[.int .u64 0, .int .u64 1, .int .u8 0, .bool false, .slice (some ⟨ob, 0, none⟩) 20 20]] w fun e w' => e = .returned (.int .i64 0) ∧ HS w' B sb lb zb tb 100 AW2 ∧ KX lb zb tb w w' ∧ Below B w w' := by
  have h := put_rep B sb lb zb tb (.slice (some ⟨nb, 0, none⟩) 1 1) 100 0 1 0 false (some ⟨ob, 0, none⟩) 20 20 0 [97] AW1 w hH aw_ok1 (by omega) hv aw_bytes (by simp) hr (by omega) (by omega) ⟨by omega, by omega⟩ ⟨by omega, by omega⟩ (by omega)
  rw [aw_2] at h
  exact h
theorem aput3 (B sb lb zb tb nb ob : Nat) (w : World) (hH : HS w B sb lb zb tb 100 AW2) (hv : Rd w .u8 (.slice (some ⟨nb, 0, none⟩) 1 1) [97]) (hr : RdT w (.slice (some ⟨ob, 0, none⟩) 20 20) (List.replicate 20 0)) :
    Calls Try.prog 12 #[.pointer (some ⟨sb, 0, none⟩), .slice (some ⟨nb, 0, none⟩) 1 1, .agg #[.int .u64 1, .int .u64 0, .int .u8 0, .bool false, .slice (some ⟨ob, 0, none⟩) 20 20]] w fun e w' => e = .returned (.int .i64 0) ∧ HS w' B sb lb zb tb 100 AW3 ∧ KX lb zb tb w w' ∧ Below B w w' := by
  have h := put_rep B sb lb zb tb (.slice (some ⟨nb, 0, none⟩) 1 1) 100 1 0 0 false (some ⟨ob, 0, none⟩) 20 20 0 [97] AW2 w hH aw_ok2 (by omega) hv aw_bytes (by simp) hr (by omega) (by omega) ⟨by omega, by omega⟩ ⟨by omega, by omega⟩ (by omega)
  rw [aw_3] at h
  exact h
theorem aget4 (B sb lb zb tb nb : Nat) (w : World) (hH : HS w B sb lb zb tb 100 AW3) (hv : Rd w .u8 (.slice (some ⟨nb, 0, none⟩) 1 1) [97]) :
    Calls Try.prog 13 #[.pointer (some ⟨sb, 0, none⟩), .slice (some ⟨nb, 0, none⟩) 1 1, .agg #[.int .u64 0, .int .u64 0]] w fun e w' => ∃ dv, e = .returned (.tuple #[.agg #[.int .u64 0, .int .u64 0, .int .u8 0, .bool false, dv], .bool false]) ∧ w'.ownsRow w.heap.size 5 1 dv ([] : List Int).length (([] : List Int).map (Value.int .u8)) ∧ HS w' B sb lb zb tb 100 AW3 ∧ Below w.heap.size w w' :=
  get_any B sb lb zb tb (.slice (some ⟨nb, 0, none⟩) 1 1) 100 0 0 [97] AW3 w hH hv aw_bytes (by simp) ⟨by omega, by omega⟩ ⟨by omega, by omega⟩ aw_ok3 (by omega) 0 0 0 [] false aw_g1
theorem aget5 (B sb lb zb tb nb : Nat) (w : World) (hH : HS w B sb lb zb tb 100 AW3) (hv : Rd w .u8 (.slice (some ⟨nb, 0, none⟩) 1 1) [97]) :
    Calls Try.prog 13 #[.pointer (some ⟨sb, 0, none⟩), .slice (some ⟨nb, 0, none⟩) 1 1, .agg #[.int .u64 1, .int .u64 0]] w fun e w' => ∃ dv, e = .returned (.tuple #[.agg #[.int .u64 1, .int .u64 0, .int .u8 0, .bool false, dv], .bool true]) ∧ w'.ownsRow w.heap.size 5 1 dv (List.replicate 20 0).length ((List.replicate 20 0).map (Value.int .u8)) ∧ HS w' B sb lb zb tb 100 AW3 ∧ Below w.heap.size w w' :=
  get_any B sb lb zb tb (.slice (some ⟨nb, 0, none⟩) 1 1) 100 1 0 [97] AW3 w hH hv aw_bytes (by simp) ⟨by omega, by omega⟩ ⟨by omega, by omega⟩ aw_ok3 (by omega) 1 0 0 (List.replicate 20 0) true aw_g2
set_option maxHeartbeats 4000000 in
set_option maxRecDepth 100000 in
theorem awake_any (w : World) : Calls Try.prog 8 #[] w fun e w' => e = .returned (.bool true) ∧ Below w.heap.size w w' := by
  have kc := fun (w : World) (C : Array Value) (n c : Nat) => Lib.run_convert_bytes_const (P := Try.prog) w 30 5 C n c Try.underlying30 Try.underlying5
  go_enter Try.func8, Try.ntmps8
  go_upto_region 4 with (first | (go_at_call 9; refine (new_ok 100 w (by omega) (by omega)).mono ?_; rintro e w1 ⟨sb, lb, zb, tb, rfl, hH, hb⟩) | fail)
  have hv1 := lit_rdf 97 w1
  have hba : Below w1.heap.size w1 (w1.alloc (.cells #[.int .u8 97] 5 (1, 2))) := (Below.refl _ _).alloc (Nat.le_refl _) _
  go_upto_region 5 with fail
  refine wp_world (fun wz => HS wz w.heap.size sb lb zb tb 100 PS.empty ∧ RdF wz (.slice (some ⟨w1.heap.size, 0, none⟩) 1 1) [97] ∧ Below w.heap.size w wz) ⟨hH.kept hba, hv1, hb.trans (hba.mono hb.size)⟩ ?_
  obtain ⟨nb, hnb⟩ : ∃ nb, nb = w1.heap.size := ⟨_, rfl⟩
  rw [← hnb]
  clear hH hb hv1 hba hnb kc
  rintro w0 ⟨hH0, hv0, hb0⟩
  have aw_ok0 : PS.empty.Ok 100 := PS.empty_ok (by omega)
  go_upto_region 7 with (first | (go_at_call 16; (with_reducible refine (obj_20 0 0 w0).mono ?_); rintro e wo1 ⟨ob1, rfl, hwo1, hbo1⟩; have hHo1 := hH0.kept hbo1; have hro1 := (rdt_of_own hwo1); have hvo1 := hv0.below hbo1; have hvr1 := hvo1.1; have hbb1 := hb0.trans (hbo1.mono hb0.size); clear hH0 hv0 hb0 hbo1 hwo1) | (go_at_call 12; (with_reducible refine (aput1 w.heap.size sb lb zb tb nb ob1 wo1 hHo1 hvr1 hro1).mono ?_); rintro e w1 ⟨rfl, hH1, hx1, hbp1⟩; have hv1 := RdF.kx hvo1 hHo1 hx1; have hb1 := hbb1.trans hbp1; clear hHo1 hvo1 hvr1 hro1 hbb1 hx1 hbp1) | (go_at_call 16; (with_reducible refine (obj_20 0 1 w1).mono ?_); rintro e wo2 ⟨ob2, rfl, hwo2, hbo2⟩; have hHo2 := hH1.kept hbo2; have hro2 := (rdt_of_own hwo2); have hvo2 := hv1.below hbo2; have hvr2 := hvo2.1; have hbb2 := hb1.trans (hbo2.mono hb1.size); clear hH1 hv1 hb1 hbo2 hwo2) | (go_at_call 12; (with_reducible refine (aput2 w.heap.size sb lb zb tb nb ob2 wo2 hHo2 hvr2 hro2).mono ?_); rintro e w2 ⟨rfl, hH2, hx2, hbp2⟩; have hv2 := RdF.kx hvo2 hHo2 hx2; have hb2 := hbb2.trans hbp2; clear hHo2 hvo2 hvr2 hro2 hbb2 hx2 hbp2) | (go_at_call 16; (with_reducible refine (obj_20 1 0 w2).mono ?_); rintro e wo3 ⟨ob3, rfl, hwo3, hbo3⟩; have hHo3 := hH2.kept hbo3; have hro3 := (rdt_of_own hwo3); have hvo3 := hv2.below hbo3; have hvr3 := hvo3.1; have hbb3 := hb2.trans (hbo3.mono hb2.size); clear hH2 hv2 hb2 hbo3 hwo3) | (go_at_call 12; (with_reducible refine (aput3 w.heap.size sb lb zb tb nb ob3 wo3 hHo3 hvr3 hro3).mono ?_); rintro e w3 ⟨rfl, hH3, hx3, hbp3⟩; have hv3 := RdF.kx hvo3 hHo3 hx3; have hb3 := hbb3.trans hbp3; clear hHo3 hvo3 hvr3 hro3 hbb3 hx3 hbp3) | fail)
  have hvr3 := hv3.1
  go_upto_region 8 with (first | (go_at_call 13; (with_reducible refine (aget4 w.heap.size sb lb zb tb nb w3 hH3 hvr3).mono ?_); rintro e w4 ⟨dv4, rfl, ho4, hH4, hbg4⟩; have hv4 := hv3.below hbg4; have hb4 := hb3.trans (hbg4.mono hb3.size); obtain ⟨gA4, gk4, rfl, _⟩ := sl_of_own ho4) | fail)
  refine wp_world (fun wz => HS wz w.heap.size sb lb zb tb 100 AW3 ∧ RdF wz (.slice (some ⟨nb, 0, none⟩) 1 1) [97] ∧ Below w.heap.size w wz) ⟨hH4.kept ((Below.refl _ _).alloc (Nat.le_refl _) _), hv4.below ((Below.refl _ _).alloc (Nat.le_refl _) _), hb4.alloc hb4.size _⟩ ?_
  clear hH3 hv3 hvr3 hb3 hH4 hv4 hb4 ho4 hbg4
  rintro w4 ⟨hH4, hv4, hb4⟩
  have hvr4 := hv4.1
  go_upto_region 9 with (first | (go_at_call 13; (with_reducible refine (aget5 w.heap.size sb lb zb tb nb w4 hH4 hvr4).mono ?_); rintro e w5 ⟨dv5, rfl, ho5, hH5, hbg5⟩; have hv5 := hv4.below hbg5; have hb5 := hb4.trans (hbg5.mono hb4.size); obtain ⟨gA5, gk5, rfl, _⟩ := sl_of_own ho5) | fail)
  refine wp_world (fun wz => HS wz w.heap.size sb lb zb tb 100 AW3 ∧ Below w.heap.size w wz) ⟨hH5.kept ((Below.refl _ _).alloc (Nat.le_refl _) _), hb5.alloc hb5.size _⟩ ?_
  clear hH4 hv4 hvr4 hb4 hH5 hv5 hb5 ho5 hbg5
  rintro w5 ⟨hH5, hb5⟩
  have hus := used_any w.heap.size sb lb zb tb 100 AW3 w5 hH5
  rw [aw_u] at hus
  go_wp2_with (first | (go_at_call 15; refine hus.mono ?_; rintro e w6 ⟨rfl, hH6, hb6⟩; have hgr := groups_any w.heap.size sb lb zb tb 100 AW3 w6 hH6; rw [aw_z] at hgr) | (go_at_call 27; refine hgr.mono ?_; rintro e w7 ⟨rfl, hH7, hb7⟩) | fail)
  go_ret
  exact ⟨rfl, (hb5.trans (hb6.mono hb5.size)).trans (hb7.mono (Nat.le_trans hb5.size hb6.size))⟩

end Go.Proofs.Ytiaabbflchdcbaa
