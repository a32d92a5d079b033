/-
  New, Used, Groups. No condition.
-/
import Derived.Test.YtiaabbflchdcbaaShget
namespace Go.Proofs.Ytiaabbflchdcbaa
open Go.RowKit
set_option linter.unusedVariables false
set_option linter.unusedSimpArgs false

def PS.empty : PS := ⟨[], [], 0, []⟩
theorem PS.empty_ok {room : Int} (h : 1 ≤ room) : PS.empty.Ok room := ⟨rfl, by simp [PS.empty], by simp [PS.empty], fun x => rfl, by simp [PS.empty], by show (0 : Int) ≤ room; omega⟩
set_option maxRecDepth 100000 in
theorem new_ok (room : Int) (w : World) (h1 : 1 ≤ room) (h2 : room ≤ 1048576) :
    Calls Try.prog 9 #[.int .i64 room] w fun e w' => ∃ sb lb zb tb, e = .returned (.tuple #[.pointer (some ⟨sb, 0, none⟩), .int .i64 0]) ∧ HS w' w.heap.size sb lb zb tb room PS.empty ∧ Below w.heap.size w w' := by
  have d1 : decide (room < 1) = false := decide_eq_false (by omega)
  have d2 : decide (1048576 < room) = false := decide_eq_false (by omega)
  have k1 := (((km_made Try.prog 71 w).alloc (.map #[] 0)).alloc (.map #[] 0)).alloc (.cells (shC room 0 w.heap.size (w.heap.size + 1) (w.heap.size + 1 + 1) (.slice none 0 0)) 81)
  have k2 := ((km_made Try.prog 84 (w.alloc (.map #[] 0))).alloc (.map #[] 0)).alloc (.cells (shC room 0 w.heap.size (w.heap.size + 1) (w.heap.size + 1 + 1) (.slice none 0 0)) 81)
  have k3 := (km_made Try.prog 82 ((w.alloc (.map #[] 0)).alloc (.map #[] 0))).alloc (.cells (shC room 0 w.heap.size (w.heap.size + 1) (w.heap.size + 1 + 1) (.slice none 0 0)) 81)
  have kb : Blk ((((w.alloc (.map #[] 0)).alloc (.map #[] 0)).alloc (.map #[] 0)).alloc (.cells (shC room 0 w.heap.size (w.heap.size + 1) (w.heap.size + 1 + 1) (.slice none 0 0)) 81)) (w.heap.size + 1 + 1 + 1) 81 (shC room 0 w.heap.size (w.heap.size + 1) (w.heap.size + 1 + 1) (.slice none 0 0)) := blk_new_at (by simp)
  have hb : Below w.heap.size w ((((w.alloc (.map #[] 0)).alloc (.map #[] 0)).alloc (.map #[] 0)).alloc (.cells (shC room 0 w.heap.size (w.heap.size + 1) (w.heap.size + 1 + 1) (.slice none 0 0)) 81)) := ((((Below.refl w.heap.size w).alloc (Nat.le_refl _) (.map #[] 0)).alloc (by simp) (.map #[] 0)).alloc (by simp <;> omega) (.map #[] 0)).alloc (by simp <;> omega) _
  simp only [World.size_alloc] at k2 k3
  have K1 := Lib.hid k1
  have K2 := Lib.hid k2
  have K3 := Lib.hid k3
  have KB_ := Lib.hid kb
  have HB := Lib.hid hb
  clear k1 k2 k3 kb hb
  have hmk : ∀ (t : TypeId) (W : World), (Instr.makeMap t none).run Try.prog W = .ok (.map (some W.heap.size)) (W.alloc (.map #[] 0)) := fun t W => rfl
  go_enter Try.func9, Try.ntmps9
  go_wp2_with fail
  refine bodyPost_ret (results_tmp2 rfl _ _ _) rfl ?_
  refine ⟨w.heap.size + 1 + 1 + 1, w.heap.size, w.heap.size + 1, w.heap.size + 1 + 1, rfl, ⟨.slice none 0 0, [], rfl, ?_⟩, HB.out⟩
  exact ⟨KB_.out, K1.out, ⟨by simp [flat, PS.empty], .inl ⟨rfl, by simp [PS.empty]⟩⟩, K2.out, K3.out, by simp, by simp, by simp [PS.empty], by omega, by omega, by omega, by omega, by omega, by omega, by omega⟩
set_option maxRecDepth 100000 in
theorem used_any (B sb lb zb tb : Nat) (room : Int) (s : PS) (w : World) (hH : HS w B sb lb zb tb room s) :
    Calls Try.prog 15 #[.pointer (some ⟨sb, 0, none⟩)] w fun e w' => e = .returned (.int .i64 s.used) ∧ HS w' B sb lb zb tb room s ∧ Below w.heap.size w w' := by
  have hH' := hH
  obtain ⟨lv, E, hE, hS⟩ := hH
  have c1 : World.cell? w ⟨sb, 1, none⟩ = some (.int .i64 s.used) := hS.blk.cell 1
  clear hE hS
  go_enter Try.func15, Try.ntmps15
  go_wp2_with fail
  go_ret
  exact ⟨rfl, hH', Below.refl _ _⟩
set_option maxRecDepth 100000 in
theorem groups_any (B sb lb zb tb : Nat) (room : Int) (s : PS) (w : World) (hH : HS w B sb lb zb tb room s) :
    Calls Try.prog 27 #[.pointer (some ⟨sb, 0, none⟩)] w fun e w' => e = .returned (.int .i64 s.Z.length) ∧ HS w' B sb lb zb tb room s ∧ Below w.heap.size w w' := by
  have hH' := hH
  obtain ⟨lv, E, hE, hS⟩ := hH
  have hlv : ∃ A c, lv = .slice A s.Z.length c := by
    rcases lr_form hS.lr with ⟨h, h2⟩ | ⟨g, c, h, _⟩
    · rw [List.map_eq_nil_iff] at h2; exact ⟨none, 0, by rw [h, h2]; rfl⟩
    · exact ⟨_, _, by rw [h, List.length_map]⟩
  obtain ⟨A, c, rfl⟩ := hlv
  have c1 : World.cell? w ⟨sb, 3, none⟩ = some (.slice A s.Z.length c) := hS.blk.cell 3
  clear hE hS
  go_enter Try.func27, Try.ntmps27
  go_wp2_with fail
  go_ret
  exact ⟨rfl, hH', Below.refl _ _⟩

end Go.Proofs.Ytiaabbflchdcbaa
