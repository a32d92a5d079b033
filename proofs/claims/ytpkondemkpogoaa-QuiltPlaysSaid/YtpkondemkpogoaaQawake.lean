/-
  The document's example. No condition.
-/
import Derived.Test.YtpkondemkpogoaaQlaw
import Derived.Lib.SlBytesConst
namespace Go.Proofs.Ytpkondemkpogoaa
open Go.RowKit
set_option linter.unusedVariables false
set_option linter.unusedSimpArgs false

def aw1 : Q := Q.new.put 2 [99, 100] false
theorem aw1_i : QI aw1 := QI.new.put (by decide) (fun x hx => by simp at hx; omega)
theorem aw1_h : hld aw1.L ≤ 1000000 := by decide
def aw2 : Q := aw1.put 0 [97, 98, 120] false
theorem aw2_i : QI aw2 := aw1_i.put (by decide) (fun x hx => by simp at hx; omega)
theorem aw2_h : hld aw2.L ≤ 1000000 := by decide
def aw3 : Q := aw2.take 9
theorem aw3_i : QI aw3 := (aw2_i.take 9).1
theorem aw3_h : hld aw3.L ≤ 1000000 := by decide
def aw4 : Q := aw3.put 4 [101] true
theorem aw4_i : QI aw4 := aw3_i.put (by decide) (fun x hx => by simp at hx; omega)
theorem aw4_h : hld aw4.L ≤ 1000000 := by decide
def aw5 : Q := aw4.put 9 [122] false
theorem aw5_i : QI aw5 := aw4_i.put (by decide) (fun x hx => by simp at hx; omega)
theorem aw5_h : hld aw5.L ≤ 1000000 := by decide
def aw6 : Q := aw5.take 9
theorem aw6_i : QI aw6 := (aw5_i.take 9).1
theorem aw6_h : hld aw6.L ≤ 1000000 := by decide
theorem aw_g1 : aw2.got 9 = [97, 98, 99, 100] := by decide
theorem aw_g2 : aw5.got 9 = [101] := by decide
theorem aw_e : aw4.err 9 [122] false = 4 := by decide
theorem aw_d : aw6.done = true := by decide
theorem rd_bytes {w : World} {n : Nat} {fr : Nat × Nat} (hn : n = w.heap.size) (l : List Int) (hl : l.length ≤ 100) : Rd (w.alloc (.cells (l.map (Value.int .u8)).toArray 5 fr)) .u8 (.slice (some ⟨n, 0, none⟩) l.length l.length) l := by
  subst hn
  exact ⟨_, l.length, rfl, Nat.le_refl _, by unfold maxLen; omega, fun h => (by cases h), fun i hi => ⟨w.heap.size, 0, rfl, by simp, fun j hj => by
    obtain rfl : j = 0 := by omega
    simp [List.getD, hi, World.cell?_alloc_mark]⟩⟩
theorem alloc_ge {B : Nat} {w : World} (h : B ≤ w.heap.size) (o : Obj) : B ≤ (w.alloc o).heap.size := Nat.le_trans h ((Below.refl w.heap.size w).alloc (Nat.le_refl _) o).size
set_option maxHeartbeats 8000000 in
set_option maxRecDepth 100000 in
theorem awake_any (w : World) : Calls Try.prog 8 #[] w fun e w' => e = .returned (.bool true) ∧ Below w.heap.size w w' := by
  have kc := fun (w : World) (C : Array Value) (n c : Nat) => Lib.run_convert_bytes_const (P := Try.prog) w 22 5 C n c Try.underlying22 Try.underlying5
  go_enter Try.func8, Try.ntmps8
  go_wp2_with fail
  (with_reducible refine (new_law _).mono ?_)
  rintro e w0 ⟨rfl, hQ0, hB0⟩
  obtain ⟨B, hBB⟩ : ∃ B, B = w.heap.size := ⟨_, rfl⟩
  rw [← hBB] at hQ0 hB0
  have HBB := Lib.hid hBB
  have hs0 : B ≤ w0.heap.size := by rw [HBB.out]; exact hB0.size
  have hc1 := put_law B B Q.new 2 (.slice (some ⟨w0.heap.size, 0, none⟩) 2 2) [99, 100] false (w0.alloc (.cells #[.int .u8 99, .int .u8 100] 5 (2, 3))) (hQ0.below ((Below.refl _ _).alloc (Nat.le_refl _) _)) QI.new (by decide) (alloc_ge hs0 _) (rd_bytes (w := w0) rfl [99, 100] (by decide)) (by decide) (fun x hx => by simp at hx; omega) (by decide)
  clear hQ0
  go_wp2_with fail
  rw [← HBB.out]
  (with_reducible refine hc1.mono ?_)
  clear hc1
  rintro e w1 ⟨rfl, hQ1, hb1, hk1⟩
  have hB1 : Below B w w1 := (hB0.trans (((Below.refl _ _).alloc hs0 _).trans hb1))
  have hs1 : B ≤ w1.heap.size := Nat.le_trans (alloc_ge hs0 _) hb1.size
  clear hb1 hs0 hB0
  have hc2 := put_law B B aw1 0 (.slice (some ⟨w1.heap.size, 0, none⟩) 3 3) [97, 98, 120] false (w1.alloc (.cells #[.int .u8 97, .int .u8 98, .int .u8 120] 5 (3, 4))) (hQ1.below ((Below.refl _ _).alloc (Nat.le_refl _) _)) aw1_i aw1_h (alloc_ge hs1 _) (rd_bytes (w := w1) rfl [97, 98, 120] (by decide)) (by decide) (fun x hx => by simp at hx; omega) (by decide)
  clear hQ1
  go_wp2_with fail
  rw [← HBB.out]
  (with_reducible refine hc2.mono ?_)
  clear hc2
  rintro e w2 ⟨rfl, hQ2, hb2, hk2⟩
  have hB2 : Below B w w2 := (hB1.trans (((Below.refl _ _).alloc hs1 _).trans hb2))
  have hs2 : B ≤ w2.heap.size := Nat.le_trans (alloc_ge hs1 _) hb2.size
  clear hb2 hs1 hB1
  have hc3 := take_law B B aw2 9 w2 hQ2 aw2_i aw2_h hs2 (by decide)
  clear hQ2
  go_wp2_with fail
  rw [← HBB.out]
  (with_reducible refine hc3.mono ?_)
  clear hc3
  rintro e w3 ⟨v3, rfl, hQ3, ho3, hb3, hk3⟩
  have hB3 : Below B w w3 := hB2.trans hb3
  have hs3 : B ≤ w3.heap.size := Nat.le_trans hs2 (by have := hb3.size; omega)
  clear hb3 hs2 hB2
  have hc4 := put_law B B aw3 4 (.slice (some ⟨w3.heap.size, 0, none⟩) 1 1) [101] true (w3.alloc (.cells #[.int .u8 101] 5 (1, 2))) (hQ3.below ((Below.refl _ _).alloc (Nat.le_refl _) _)) aw3_i aw3_h (alloc_ge hs3 _) (rd_bytes (w := w3) rfl [101] (by decide)) (by decide) (fun x hx => by simp at hx; omega) (by decide)
  clear hQ3
  go_wp2_with fail
  rw [← HBB.out]
  (with_reducible refine hc4.mono ?_)
  clear hc4
  rintro e w4 ⟨rfl, hQ4, hb4, hk4⟩
  have hB4 : Below B w w4 := (hB3.trans (((Below.refl _ _).alloc hs3 _).trans hb4))
  have hs4 : B ≤ w4.heap.size := Nat.le_trans (alloc_ge hs3 _) hb4.size
  clear hb4 hs3 hB3
  have hc5 := put_law B B aw4 9 (.slice (some ⟨w4.heap.size, 0, none⟩) 1 1) [122] false (w4.alloc (.cells #[.int .u8 122] 5 (1, 2))) (hQ4.below ((Below.refl _ _).alloc (Nat.le_refl _) _)) aw4_i aw4_h (alloc_ge hs4 _) (rd_bytes (w := w4) rfl [122] (by decide)) (by decide) (fun x hx => by simp at hx; omega) (by decide)
  clear hQ4
  go_wp2_with fail
  rw [← HBB.out]
  (with_reducible refine hc5.mono ?_)
  clear hc5
  rintro e w5 ⟨rfl, hQ5, hb5, hk5⟩
  have hB5 : Below B w w5 := (hB4.trans (((Below.refl _ _).alloc hs4 _).trans hb5))
  have hs5 : B ≤ w5.heap.size := Nat.le_trans (alloc_ge hs4 _) hb5.size
  clear hb5 hs4 hB4
  have hc6 := take_law B B aw5 9 w5 hQ5 aw5_i aw5_h hs5 (by decide)
  clear hQ5
  go_wp2_with fail
  rw [← HBB.out]
  (with_reducible refine hc6.mono ?_)
  clear hc6
  rintro e w6 ⟨v6, rfl, hQ6, ho6, hb6, hk6⟩
  have hB6 : Below B w w6 := hB5.trans hb6
  have hs6 : B ≤ w6.heap.size := Nat.le_trans hs5 (by have := hb6.size; omega)
  clear hb6 hs5 hB5
  have k3 := own_keep (own_keep (own_same (own_keep (own_same ho3 ((Below.refl _ _).alloc (Nat.le_refl _) _)) hk4 (by decide) (by decide)) ((Below.refl _ _).alloc (Nat.le_refl _) _)) hk5 (by decide) (by decide)) hk6 (by decide) (by decide)
  have r3 := rd_of_own (l := [97, 98, 99, 100]) (by rw [← aw_g1]; exact k3)
  have r6 := rd_of_own (l := [101]) (by rw [← aw_g2]; exact ho6)
  obtain ⟨A3, n3, rfl⟩ := r3.form
  obtain ⟨A6, n6, rfl⟩ := r6.form
  have he4 : aw4.err 9 [122] false = 4 := aw_e
  have hd6 : (aw5.take 9).done = true := aw_d
  have b3 : bstr [97, 98, 99, 100] = ⟨#[97, 98, 99, 100]⟩ := by decide
  have b6 : bstr [101] = ⟨#[101]⟩ := by decide
  have t3 : (convert 22 9 (.slice A3 4 n3)).run Try.prog w6 = .ok (.string ⟨#[97, 98, 99, 100]⟩) w6 := by rw [← b3]; exact run_conv 22 9 5 Try.underlying22 Try.underlying5 Try.underlying9 r3
  have t6 : (convert 22 9 (.slice A6 1 n6)).run Try.prog w6 = .ok (.string ⟨#[101]⟩) w6 := by rw [← b6]; exact run_conv 22 9 5 Try.underlying22 Try.underlying5 Try.underlying9 r6
  clear b3 b6
  clear ho3 ho6 hk4 hk5 hk6 k3 r3 r6 kc hQ6 hk1 hk2 hk3
  go_wp2_with fail
  go_ret
  exact ⟨rfl, hB6.mono (Nat.le_of_eq HBB.out.symm)⟩

end Go.Proofs.Ytpkondemkpogoaa
