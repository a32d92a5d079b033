/-
  The document's example of a set of numbers. No condition.
-/
import Derived.Test.YtcmkegkljappfaaSrng
namespace Go.Proofs.Ytcmkegkljappfaa
open Go.RowKit
set_option linter.unusedVariables false
set_option linter.unusedSimpArgs false


theorem laidOut : laidOutB Try.prog = true := by kernel_rfl
theorem own : ownKnob Try.prog.godebug = none := by kernel_rfl
theorem rdp_lit {w : World} {n : Nat} {L : List (Int × Int)} {cs : Array Value} (hcs : cs.toList = pcs L) (hn : n = L.length) (hm : n ≤ 1000) : RdP (w.alloc (.cells cs 30)) (.slice (some ⟨w.heap.size, 0, none⟩) n n) L := by
  have hsz : cs.size = n * 2 := by rw [← Array.length_toList, hcs, pcs_len, hn]
  have h := World.ownsRow_lit (size := 2) (e := 30) w cs n (Nat.le_refl _) (by unfold maxLen; omega) hsz
  have h2 : (w.alloc (.cells cs 30)).ownsRow w.heap.size 30 2 (.slice (some ⟨w.heap.size, 0, none⟩) n n) n (pcs L) := by rw [← hcs]; exact h
  exact rdp_of_own h2
theorem aw1 : adA [] [(3, 5), (9, 9), (6, 7)] = [(3, 7), (9, 9)] := by decide
theorem aw2 : rgL 9 [(3, 7), (9, 9)] = [(9, 9), (3, 7)] := by decide
theorem aw3 : holeL [(3, 7), (9, 9)] 3 = 8 := by decide
theorem aw4 : Nm 0 [(3, 7), (9, 9)] := by simp [Nm, MX]
set_option maxHeartbeats 4000000 in
set_option maxRecDepth 100000 in
theorem awake_any (w : World) : Calls Try.prog 9 #[] w fun e w' => e = .returned (.bool true) ∧ Below w.heap.size w w' := by
  have hr1 : RdP (w.alloc (.cells #[.int .u64 3, .int .u64 5, .int .u64 9, .int .u64 9, .int .u64 6, .int .u64 7] 30)) (.slice (some ⟨w.heap.size, 0, none⟩) 3 3) [(3, 5), (9, 9), (6, 7)] := rdp_lit rfl rfl (by decide)
  have hB1 := (Below.refl w.heap.size w).alloc (Nat.le_refl _) (.cells #[.int .u64 3, .int .u64 5, .int .u64 9, .int .u64 9, .int .u64 6, .int .u64 7] 30)
  go_enter Try.func9, Try.ntmps9
  go_wp2_with fail
  refine (new_any _ _ _ hr1 (by intro p hp; simp at hp; rcases hp with rfl | rfl | rfl <;> decide) (by decide)).mono ?_
  rintro e w2 ⟨g, rb, rfl, hs2, hb2⟩
  rw [aw1] at hs2
  have hB2 := hB1.trans (hb2.mono hB1.size)
  clear hr1 hB1 hb2
  go_wp2_with fail
  refine (ranges_any _ g rb _ 9 _ hs2 (by decide)).mono ?_
  rintro e w3 ⟨v3, rfl, ho3, hb3⟩
  rw [aw2] at ho3
  have hr3 := rdp_of_own ho3
  have hs3 := hs2.below hb3
  have hB3 := hB2.trans (hb3.mono hB2.size)
  have hbl := (Below.refl w3.heap.size w3).alloc (Nat.le_refl _) (.cells #[.int .u64 9, .int .u64 9, .int .u64 3, .int .u64 7] 30)
  have hr4 : RdP (w3.alloc (.cells #[.int .u64 9, .int .u64 9, .int .u64 3, .int .u64 7] 30)) (.slice (some ⟨w3.heap.size, 0, none⟩) 2 2) [(9, 9), (3, 7)] := rdp_lit rfl rfl (by decide)
  have hr5 := hr3.below hbl
  have hs4 := hs3.below hbl
  have hB4 := hB3.trans (hbl.mono hB3.size)
  clear ho3 hr3 hs3 hs2 hb3 hB3 hB2 hbl
  go_wp2_with fail
  refine (sameR_yes v3 _ _ _ hr5 hr4).mono ?_
  rintro e w5 ⟨rfl, nd, rfl⟩
  have hs5 := hs4.drewN nd
  have hB5 := below_drewN hB4 nd
  clear hr5 hr4 hs4 hB4
  go_wp2_with fail
  refine (hole_any _ g rb _ 3 _ hs5 aw4).mono ?_
  rintro e w6 ⟨rfl, hb6⟩
  rw [aw3]
  go_wp2_with fail
  go_ret
  exact ⟨rfl, hB5.trans (hb6.mono hB5.size)⟩

end Go.Proofs.Ytcmkegkljappfaa
