/-
  CreditTills: every script of what comes, is read and is told has the document's answers; a nil till's, too. For every input; no condition.
-/
import Derived.Test.YtljddpgefbcfmaaScript
import Derived.Test.YtljddpgefbcfmaaRtill
namespace Go.Proofs.Ytljddpgefbcfmaa
open Go.RowKit
set_option linter.unusedVariables false
set_option linter.unusedSimpArgs false


/-- Both tills, the script's element, and that what was there is as it was. -/
def Both (w0 w : World) (gt gx o : Nat) (dv nv win l1 c1 t1 l2 c2 t2 : Int) : Prop :=
  Til w gt win l1 c1 t1 ∧ Rtl w gx win l2 c2 t2 ∧ Blk w o 32 #[.int .u8 dv, .int .u64 nv] ∧ Below w0.heap.size w0 w ∧ gt ≠ gx ∧ w0.heap.size ≤ gt ∧ w0.heap.size ≤ gx ∧ o ≠ gt ∧ o ≠ gx
section
variable {w0 : World} {gt gx o : Nat} {dv nv win l1 c1 t1 l2 c2 t2 n : Int}
theorem Both.drew {w : World} (h : Both w0 w gt gx o dv nv win l1 c1 t1 l2 c2 t2) : Both w0 w.drew gt gx o dv nv win l1 c1 t1 l2 c2 t2 := ⟨h.1, h.2.1, h.2.2.1, h.2.2.2.1.drew, h.2.2.2.2⟩
theorem Both.drewN {w : World} (h : Both w0 w gt gx o dv nv win l1 c1 t1 l2 c2 t2) (k : Nat) : Both w0 (w.drewN k) gt gx o dv nv win l1 c1 t1 l2 c2 t2 := ⟨h.1, h.2.1, h.2.2.1, below_drewN h.2.2.2.1 k, h.2.2.2.2⟩
theorem Both.cellN {w : World} (h : Both w0 w gt gx o dv nv win l1 c1 t1 l2 c2 t2) : w.cell? ⟨o, 1, none⟩ = some (.int .u64 nv) := h.2.2.1.cell 1
theorem both_came_T (w : World) (h : Both w0 w gt gx o dv nv win l1 c1 t1 l2 c2 t2) (h0 : 0 ≤ n) (h1 : n ≤ l1) :
    Calls Try.prog 11 #[.pointer (some ⟨gt, 0, none⟩), .int .u64 n] w fun e w' => e = .returned (.int .i64 0) ∧ Both w0 w' gt gx o dv nv win l1 (max c1 n) t1 l2 c2 t2 := by
  obtain ⟨a1, a2, a3, a4, a5, a6, a7, a8, a9⟩ := h
  refine (til_came_yes gt _ _ _ _ n w a1 h0 h1).mono fun e w' ⟨he, hn, hg⟩ => ⟨he, hn, a2.grown hg (by simpa using Ne.symm a5), a3.grown hg (by simpa using a8), below_grown a4 hg a6, a5, a6, a7, a8, a9⟩
theorem both_took_T (w : World) (h : Both w0 w gt gx o dv nv win l1 c1 t1 l2 c2 t2) (h0 : 0 ≤ n) (h1 : n ≤ c1 - t1) :
    Calls Try.prog 13 #[.pointer (some ⟨gt, 0, none⟩), .int .u64 n] w fun e w' => e = .returned (.int .i64 0) ∧ Both w0 w' gt gx o dv nv win l1 c1 (t1 + n) l2 c2 t2 := by
  obtain ⟨a1, a2, a3, a4, a5, a6, a7, a8, a9⟩ := h
  refine (til_took_yes gt _ _ _ _ n w a1 h0 h1).mono fun e w' ⟨he, hn, hg⟩ => ⟨he, hn, a2.grown hg (by simpa using Ne.symm a5), a3.grown hg (by simpa using a8), below_grown a4 hg a6, a5, a6, a7, a8, a9⟩
theorem both_came_X (w : World) (h : Both w0 w gt gx o dv nv win l1 c1 t1 l2 c2 t2) (h0 : 0 ≤ n) (h1 : n ≤ l2) :
    Calls Try.prog 12 #[.pointer (some ⟨gx, 0, none⟩), .int .u64 n] w fun e w' => e = .returned (.int .i64 0) ∧ Both w0 w' gt gx o dv nv win l1 c1 t1 l2 (max c2 n) t2 := by
  obtain ⟨a1, a2, a3, a4, a5, a6, a7, a8, a9⟩ := h
  refine (rtl_came_yes gx _ _ _ _ n w a2 h0 h1).mono fun e w' ⟨he, hn, hg⟩ => ⟨he, a1.grown hg (by simpa using a5), hn, a3.grown hg (by simpa using a9), below_grown a4 hg a7, a5, a6, a7, a8, a9⟩
theorem both_took_X (w : World) (h : Both w0 w gt gx o dv nv win l1 c1 t1 l2 c2 t2) (h0 : 0 ≤ n) (h1 : n ≤ c2 - t2) :
    Calls Try.prog 14 #[.pointer (some ⟨gx, 0, none⟩), .int .u64 n] w fun e w' => e = .returned (.int .i64 0) ∧ Both w0 w' gt gx o dv nv win l1 c1 t1 l2 c2 (t2 + n) := by
  obtain ⟨a1, a2, a3, a4, a5, a6, a7, a8, a9⟩ := h
  refine (rtl_took_yes gx _ _ _ _ n w a2 h0 h1).mono fun e w' ⟨he, hn, hg⟩ => ⟨he, a1.grown hg (by simpa using a5), hn, a3.grown hg (by simpa using a9), below_grown a4 hg a7, a5, a6, a7, a8, a9⟩
end

set_option maxHeartbeats 4000000 in
set_option maxRecDepth 100000 in
theorem tills_nil (window : Int) (A : Option Addr) (len cap : Nat) (d n : Nat → Int) (w : World) (hf : 0 ≤ window) (hl : len ≤ 9223372036854775807) (hS : Script w A len d n) :
    Calls Try.prog 3 #[.bool true, .int .u64 window, .slice A len cap] w fun e w' => e = .returned (.bool true) ∧ Below w.heap.size w w' := by
  go_enter Try.func3, Try.ntmps3
  go_wp2_with fail
  refine (awake_any _).mono ?_
  rintro e w1 ⟨rfl, hB1⟩
  go_wp2_with fail
  refine (newTill_any _ _).mono ?_
  rintro e w2 ⟨rfl, rfl⟩
  go_wp2_with fail
  refine (top_any _ _).mono ?_
  rintro e w3 ⟨rfl, rfl⟩
  go_wp2_with fail
  refine (top_any _ _).mono ?_
  rintro e w4 ⟨rfl, rfl⟩
  go_wp2_with fail
  have hB := (hB1.alloc hB1.size (.cells #[.int .u64 (mostI window), .int .u64 (mostI window), .int .u64 0, .int .u64 0] 58))
  have hB2 := hB.alloc hB.size (.cells #[.int .u64 (mostI window), .int .u64 (mostI window), .int .u64 0, .int .u64 0] 30)
  obtain ⟨W, hW⟩ : ∃ W, W = (w1.alloc (.cells #[.int .u64 (mostI window), .int .u64 (mostI window), .int .u64 0, .int .u64 0] 58)).alloc (.cells #[.int .u64 (mostI window), .int .u64 (mostI window), .int .u64 0, .int .u64 0] 30) := ⟨_, rfl⟩
  rw [← hW] at hB2 ⊢
  clear hW hB hB1
  go_loopw [32] (fun i wr => ∃ (k : Nat), k ≤ len ∧ i = .int .i64 k ∧ Below w.heap.size w wr) (fun i _ => len - (intOf i).toNat)
  case atStart => exact ⟨0, Nat.zero_le _, rfl, hB2⟩
  case round =>
    obtain ⟨k, hk, rfl, hB⟩ := hrel
    by_cases hlt : k < len
    · obtain ⟨b, off, rfl, hb, c0, c1⟩ := hS.cells k hlt
      have k0 := (hB.cell (p := ⟨b, off + k * 2, none⟩) hb).trans c0
      have k1 := (hB.cell (p := ⟨b, off + k * 2 + 1, none⟩) hb).trans c1
      clear c0 c1
      have hd := hS.dom k hlt
      have hn := hS.num k hlt
      have hO := Blk.new wr 32 #[.int .u8 (d k), .int .u64 (n k)]
      have hON : (wr.alloc (.cells #[.int .u8 (d k), .int .u64 (n k)] 32)).cell? ⟨wr.heap.size, 1, none⟩ = some (.int .u64 (n k)) := hO.cell 1
      have hBa := hB.alloc hB.size (.cells #[.int .u8 (d k), .int .u64 (n k)] 32)
      by_cases h40 : (40 : Int) ≤ (k : Int)
      · go_wp2_with fail
        go_ret
        exact ⟨rfl, hBa⟩
      · obtain ⟨r, hr⟩ : ∃ r, r = d k % 3 := ⟨_, rfl⟩
        have hr3 : r = 0 ∨ r = 1 ∨ r = 2 := by omega
        have HR := Lib.hid hr
        clear hr
        rcases hr3 with rfl | rfl | rfl
        · have he : (d k % 3 == 0) = true := by simp; exact HR.out.symm
          go_wp2_with fail
          go_quiet (first | (go_at_call 11; first | exact quiet_oneN (til_came_nil _ _) | exact quiet_addN (til_came_nil _ _)) | (go_at_call 12; first | exact quiet_oneN (rtl_came_nil _ _) | exact quiet_addN (rtl_came_nil _ _)))
          go_wp2_with fail
          refine (ttold_nil _).mono ?_
          rintro e w9 ⟨rfl, rfl⟩
          go_wp2_with fail
          go_roundw
          case rel => exact ⟨k + 1, by omega, by go_num, by first | exact below_drewN hBa _ | exact hBa⟩
          case measure => simp [intOf]; omega
        · have he0 : (d k % 3 == 0) = false := by have := HR.out; simp; omega
          have he : (d k % 3 == 1) = true := by simp; exact HR.out.symm
          go_wp2_with fail
          go_quiet (first | (go_at_call 13; first | exact quiet_oneN (til_took_nil _ _) | exact quiet_addN (til_took_nil _ _)) | (go_at_call 14; first | exact quiet_oneN (rtl_took_nil _ _) | exact quiet_addN (rtl_took_nil _ _)))
          go_wp2_with fail
          refine (ttold_nil _).mono ?_
          rintro e w9 ⟨rfl, rfl⟩
          go_wp2_with fail
          go_roundw
          case rel => exact ⟨k + 1, by omega, by go_num, by first | exact below_drewN hBa _ | exact hBa⟩
          case measure => simp [intOf]; omega
        · have he0 : (d k % 3 == 0) = false := by have := HR.out; simp; omega
          have he : (d k % 3 == 1) = false := by have := HR.out; simp; omega
          go_wp2_with fail
          refine (til_news_nil _).mono ?_
          rintro e w6 ⟨rfl, q6, rfl⟩
          go_wp2_with fail
          refine (rtl_news_nil _).mono ?_
          rintro e w7 ⟨rfl, q7, rfl⟩
          go_wp2_with fail
          refine (ttold_nil _).mono ?_
          rintro e w9 ⟨rfl, rfl⟩
          go_wp2_with fail
          go_roundw
          case rel => exact ⟨k + 1, by omega, by go_num, by first | exact below_drewN hBa _ | exact hBa⟩
          case measure => simp [intOf]; omega
    · go_wp2_with fail
      go_ret
      exact ⟨rfl, hB⟩

set_option maxHeartbeats 4000000 in
set_option maxRecDepth 100000 in
theorem tills_some (window : Int) (A : Option Addr) (len cap : Nat) (d n : Nat → Int) (w : World) (hf : 0 ≤ window) (hl : len ≤ 9223372036854775807) (hS : Script w A len d n) :
    Calls Try.prog 3 #[.bool false, .int .u64 window, .slice A len cap] w fun e w' => e = .returned (.bool true) ∧ Below w.heap.size w w' := by
  go_enter Try.func3, Try.ntmps3
  go_wp2_with fail
  refine (awake_any _).mono ?_
  rintro e w1 ⟨rfl, hB1⟩
  go_wp2_with fail
  refine (newTill_any _ _).mono ?_
  rintro e w2 ⟨rfl, rfl⟩
  go_wp2_with fail
  refine (top_any _ _).mono ?_
  rintro e w3 ⟨rfl, rfl⟩
  go_wp2_with fail
  refine (top_any _ _).mono ?_
  rintro e w4 ⟨rfl, rfl⟩
  go_wp2_with fail
  have hT0 := (Til.new w1 window hf).alloc (.cells #[.int .u64 (mostI window), .int .u64 (mostI window), .int .u64 0, .int .u64 0] 30)
  have hB := hB1.alloc hB1.size (.cells #[.int .u64 (mostI window), .int .u64 (mostI window), .int .u64 0, .int .u64 0] 58)
  have hB2 := hB.alloc hB.size (.cells #[.int .u64 (mostI window), .int .u64 (mostI window), .int .u64 0, .int .u64 0] 30)
  have hR0 : Rtl ((w1.alloc (.cells #[.int .u64 (mostI window), .int .u64 (mostI window), .int .u64 0, .int .u64 0] 58)).alloc (.cells #[.int .u64 (mostI window), .int .u64 (mostI window), .int .u64 0, .int .u64 0] 30)) (w1.heap.size + 1) (mostI window) (mostI window) 0 0 :=
    ⟨by have h := Blk.new (w1.alloc (.cells #[.int .u64 (mostI window), .int .u64 (mostI window), .int .u64 0, .int .u64 0] 58)) 30 #[.int .u64 (mostI window), .int .u64 (mostI window), .int .u64 0, .int .u64 0]; rwa [World.size_alloc] at h, hT0.2⟩
  obtain ⟨W, hW⟩ : ∃ W, W = (w1.alloc (.cells #[.int .u64 (mostI window), .int .u64 (mostI window), .int .u64 0, .int .u64 0] 58)).alloc (.cells #[.int .u64 (mostI window), .int .u64 (mostI window), .int .u64 0, .int .u64 0] 30) := ⟨_, rfl⟩
  have hsz := hB1.size
  rw [← hW] at hB2 hT0 hR0 ⊢
  clear hW hB hB1
  obtain ⟨win, hwin⟩ : ∃ win, win = mostI window := ⟨_, rfl⟩
  rw [← hwin] at hT0 hR0 ⊢
  clear hwin
  obtain ⟨gx, hgx0⟩ : ∃ gx, gx = w1.heap.size + 1 := ⟨_, rfl⟩
  rw [← hgx0] at hR0 ⊢
  obtain ⟨gt, hgt0⟩ : ∃ gt, gt = w1.heap.size := ⟨_, rfl⟩
  rw [← hgt0] at hT0 ⊢
  have hgt : w.heap.size ≤ gt := by omega
  have hgx : w.heap.size ≤ gx := by omega
  have hneq : gt ≠ gx := by omega
  have hneT : some gt ≠ some gx := by simp; omega
  have hneX : some gx ≠ some gt := by simp; omega
  clear hgt0 hgx0 hsz
  go_loopw [32] (fun i wr => ∃ (k : Nat) (lim came took : Int), k ≤ len ∧ i = .int .i64 k ∧ Til wr gt win lim came took ∧ Rtl wr gx win lim came took ∧ Below w.heap.size w wr) (fun i _ => len - (intOf i).toNat)
  case atStart => exact ⟨0, _, _, _, Nat.zero_le _, rfl, hT0, hR0, hB2⟩
  case round =>
    obtain ⟨k, lim, came, took, hk, rfl, hT, hR, hB⟩ := hrel
    by_cases hlt : k < len
    · obtain ⟨b, off, rfl, hb, c0, c1⟩ := hS.cells k hlt
      have k0 := (hB.cell (p := ⟨b, off + k * 2, none⟩) hb).trans c0
      have k1 := (hB.cell (p := ⟨b, off + k * 2 + 1, none⟩) hb).trans c1
      clear c0 c1
      have hd := hS.dom k hlt
      have hn := hS.num k hlt
      have hO := Blk.new wr 32 #[.int .u8 (d k), .int .u64 (n k)]
      have hON : (wr.alloc (.cells #[.int .u8 (d k), .int .u64 (n k)] 32)).cell? ⟨wr.heap.size, 1, none⟩ = some (.int .u64 (n k)) := hO.cell 1
      have hBa := hB.alloc hB.size (.cells #[.int .u8 (d k), .int .u64 (n k)] 32)
      have hTa := hT.alloc (.cells #[.int .u8 (d k), .int .u64 (n k)] 32)
      have hRa := hR.alloc (.cells #[.int .u8 (d k), .int .u64 (n k)] 32)
      have hlx := hR.1.lt
      have hS0 : Both w (wr.alloc (.cells #[.int .u8 (d k), .int .u64 (n k)] 32)) gt gx wr.heap.size (d k) (n k) win lim came took lim came took := ⟨hTa, hRa, hO, hBa, hneq, hgt, hgx, Nat.ne_of_gt hT.1.lt, Nat.ne_of_gt hR.1.lt⟩
      have hlgt := hT.1.lt
      obtain ⟨hq0, hq1, hq2, hq3, hq4, hq5⟩ := hT.2
      by_cases h40 : (40 : Int) ≤ (k : Int)
      · go_wp2_with fail
        go_ret
        exact ⟨rfl, hBa⟩
      · obtain ⟨r, hr⟩ : ∃ r, r = d k % 3 := ⟨_, rfl⟩
        have hr3 : r = 0 ∨ r = 1 ∨ r = 2 := by omega
        have HR := Lib.hid hr
        clear hr
        rcases hr3 with rfl | rfl | rfl
        · have he : (d k % 3 == 0) = true := by simp; exact HR.out.symm
          by_cases hx : n k ≤ lim
          · go_wp2_with fail
            go_region_held3 (fun w' => w'.cell? ⟨wr.heap.size, 1, none⟩ = some (.int .u64 (n k))) (first | exact hON | exact hS1.cellN | exact hS2.cellN)
              (first
                | (go_at_call 11; (first | (with_reducible refine (both_came_T _ hS0 hn.1 hx).mono ?_) | (with_reducible refine (both_came_T _ hS0.drew hn.1 hx).mono ?_) | (with_reducible refine (both_came_T _ hS2 hn.1 hx).mono ?_) | (with_reducible refine (both_came_T _ hS2.drew hn.1 hx).mono ?_)); rintro e wT ⟨rfl, hS1⟩)
                | (go_at_call 12; (first | (with_reducible refine (both_came_X _ hS0 hn.1 hx).mono ?_) | (with_reducible refine (both_came_X _ hS0.drew hn.1 hx).mono ?_) | (with_reducible refine (both_came_X _ hS1 hn.1 hx).mono ?_) | (with_reducible refine (both_came_X _ hS1.drew hn.1 hx).mono ?_)); rintro e wX ⟨rfl, hS2⟩))
            all_goals
              first
              | (obtain ⟨hT9, hR9, hO9, hB9, _⟩ := hS2
                 have x1 := (hR9).1.cell 1
                 have x2 := (hR9).1.cell 2
                 have x3 := (hR9).1.cell 3
                 simp only [List.getElem?_toArray, List.getElem?_cons_succ, List.getElem?_cons_zero] at x1 x2 x3
                 go_wp2_with fail
                 refine (ttold_any gt _ _ _ _ _ (hT9)).mono ?_
                 rintro e w9 ⟨rfl, q9, rfl⟩
                 go_wp2_with fail
                 go_roundw
                 case rel => exact ⟨k + 1, lim, _, took, by omega, by go_num, hT9.drewN _, hR9.drewN _, below_drewN hB9 _⟩
                 case measure => simp [intOf]; omega)
              | (obtain ⟨hT9, hR9, hO9, hB9, _⟩ := hS1
                 have x1 := (hR9).1.cell 1
                 have x2 := (hR9).1.cell 2
                 have x3 := (hR9).1.cell 3
                 simp only [List.getElem?_toArray, List.getElem?_cons_succ, List.getElem?_cons_zero] at x1 x2 x3
                 go_wp2_with fail
                 refine (ttold_any gt _ _ _ _ _ (hT9)).mono ?_
                 rintro e w9 ⟨rfl, q9, rfl⟩
                 go_wp2_with fail
                 go_roundw
                 case rel => exact ⟨k + 1, lim, _, took, by omega, by go_num, hT9.drewN _, hR9.drewN _, below_drewN hB9 _⟩
                 case measure => simp [intOf]; omega)
          · have hx' : lim < n k := by omega
            go_wp2_with fail
            go_quiet (first | (go_at_call 11; first | exact quiet_oneN (til_came_no gt _ _ _ _ _ _ (hTa.drewN _) hx') | exact quiet_addN (til_came_no gt _ _ _ _ _ _ (hTa.drewN _) hx')) | (go_at_call 12; first | exact quiet_oneN (rtl_came_no gx _ _ _ _ _ _ (hRa.drewN _) hx') | exact quiet_addN (rtl_came_no gx _ _ _ _ _ _ (hRa.drewN _) hx')))
            have x1 := (hRa).1.cell 1
            have x2 := (hRa).1.cell 2
            have x3 := (hRa).1.cell 3
            simp only [List.getElem?_toArray, List.getElem?_cons_succ, List.getElem?_cons_zero] at x1 x2 x3
            go_wp2_with fail
            refine (ttold_any gt _ _ _ _ _ (hTa.drewN nq)).mono ?_
            rintro e w9 ⟨rfl, q9, rfl⟩
            go_wp2_with fail
            go_roundw
            case rel => exact ⟨k + 1, lim, came, took, by omega, by go_num, hTa.drewN _, hRa.drewN _, below_drewN hBa _⟩
            case measure => simp [intOf]; omega
        · have he0 : (d k % 3 == 0) = false := by have := HR.out; simp; omega
          have he : (d k % 3 == 1) = true := by simp; exact HR.out.symm
          by_cases hx : n k ≤ came - took
          · go_wp2_with fail
            go_region_held3 (fun w' => w'.cell? ⟨wr.heap.size, 1, none⟩ = some (.int .u64 (n k))) (first | exact hON | exact hS1.cellN | exact hS2.cellN)
              (first
                | (go_at_call 13; (first | (with_reducible refine (both_took_T _ hS0 hn.1 hx).mono ?_) | (with_reducible refine (both_took_T _ hS0.drew hn.1 hx).mono ?_) | (with_reducible refine (both_took_T _ hS2 hn.1 hx).mono ?_) | (with_reducible refine (both_took_T _ hS2.drew hn.1 hx).mono ?_)); rintro e wT ⟨rfl, hS1⟩)
                | (go_at_call 14; (first | (with_reducible refine (both_took_X _ hS0 hn.1 hx).mono ?_) | (with_reducible refine (both_took_X _ hS0.drew hn.1 hx).mono ?_) | (with_reducible refine (both_took_X _ hS1 hn.1 hx).mono ?_) | (with_reducible refine (both_took_X _ hS1.drew hn.1 hx).mono ?_)); rintro e wX ⟨rfl, hS2⟩))
            all_goals
              first
              | (obtain ⟨hT9, hR9, hO9, hB9, _⟩ := hS2
                 have x1 := (hR9).1.cell 1
                 have x2 := (hR9).1.cell 2
                 have x3 := (hR9).1.cell 3
                 simp only [List.getElem?_toArray, List.getElem?_cons_succ, List.getElem?_cons_zero] at x1 x2 x3
                 go_wp2_with fail
                 refine (ttold_any gt _ _ _ _ _ (hT9)).mono ?_
                 rintro e w9 ⟨rfl, q9, rfl⟩
                 go_wp2_with fail
                 go_roundw
                 case rel => exact ⟨k + 1, lim, came, _, by omega, by go_num, hT9.drewN _, hR9.drewN _, below_drewN hB9 _⟩
                 case measure => simp [intOf]; omega)
              | (obtain ⟨hT9, hR9, hO9, hB9, _⟩ := hS1
                 have x1 := (hR9).1.cell 1
                 have x2 := (hR9).1.cell 2
                 have x3 := (hR9).1.cell 3
                 simp only [List.getElem?_toArray, List.getElem?_cons_succ, List.getElem?_cons_zero] at x1 x2 x3
                 go_wp2_with fail
                 refine (ttold_any gt _ _ _ _ _ (hT9)).mono ?_
                 rintro e w9 ⟨rfl, q9, rfl⟩
                 go_wp2_with fail
                 go_roundw
                 case rel => exact ⟨k + 1, lim, came, _, by omega, by go_num, hT9.drewN _, hR9.drewN _, below_drewN hB9 _⟩
                 case measure => simp [intOf]; omega)
          · have hx' : came - took < n k := by omega
            go_wp2_with fail
            go_quiet (first | (go_at_call 13; first | exact quiet_oneN (til_took_no gt _ _ _ _ _ _ (hTa.drewN _) hx') | exact quiet_addN (til_took_no gt _ _ _ _ _ _ (hTa.drewN _) hx')) | (go_at_call 14; first | exact quiet_oneN (rtl_took_no gx _ _ _ _ _ _ (hRa.drewN _) hx') | exact quiet_addN (rtl_took_no gx _ _ _ _ _ _ (hRa.drewN _) hx')))
            have x1 := (hRa).1.cell 1
            have x2 := (hRa).1.cell 2
            have x3 := (hRa).1.cell 3
            simp only [List.getElem?_toArray, List.getElem?_cons_succ, List.getElem?_cons_zero] at x1 x2 x3
            go_wp2_with fail
            refine (ttold_any gt _ _ _ _ _ (hTa.drewN nq)).mono ?_
            rintro e w9 ⟨rfl, q9, rfl⟩
            go_wp2_with fail
            go_roundw
            case rel => exact ⟨k + 1, lim, came, took, by omega, by go_num, hTa.drewN _, hRa.drewN _, below_drewN hBa _⟩
            case measure => simp [intOf]; omega
        · have he0 : (d k % 3 == 0) = false := by have := HR.out; simp; omega
          have he : (d k % 3 == 1) = false := by have := HR.out; simp; omega
          have hm := mostI_nn (n := took + win) (by omega)
          have hm1 := mostI_le (took + win)
          by_cases hq : lim - took < max (win / 2) 1
          · by_cases hx : lim < mostI (took + win)
            · go_wp2_with fail
              refine (til_news_yes gt _ _ _ _ _ hTa hq hx).mono ?_
              rintro e w6 ⟨rfl, hT6, hg6⟩
              have hR6 := hRa.grown hg6 hneX
              have hB6 := below_grown hBa hg6 hgt
              go_wp2_with fail
              refine (rtl_news_yes gx _ _ _ _ _ hR6 hq hx).mono ?_
              rintro e w7 ⟨rfl, hR7, hg7⟩
              have hT7 := hT6.grown hg7 hneT
              have hB7 := below_grown hB6 hg7 hgx
              have x1 := (hR7).1.cell 1
              have x2 := (hR7).1.cell 2
              have x3 := (hR7).1.cell 3
              simp only [List.getElem?_toArray, List.getElem?_cons_succ, List.getElem?_cons_zero] at x1 x2 x3
              go_wp2_with fail
              refine (ttold_any gt _ _ _ _ _ (hT7)).mono ?_
              rintro e w9 ⟨rfl, q9, rfl⟩
              go_wp2_with fail
              go_roundw
              case rel => exact ⟨k + 1, _, came, took, by omega, by go_num, hT7.drewN _, hR7.drewN _, below_drewN hB7 _⟩
              case measure => simp [intOf]; omega
            · go_wp2_with fail
              refine (til_news_no gt _ _ _ _ _ hTa hq (by omega)).mono ?_
              rintro e w6 ⟨rfl, q6, rfl⟩
              go_wp2_with fail
              refine (rtl_news_no gx _ _ _ _ _ (hRa.drewN _) hq (by omega)).mono ?_
              rintro e w7 ⟨rfl, q7, rfl⟩
              have x1 := (hRa).1.cell 1
              have x2 := (hRa).1.cell 2
              have x3 := (hRa).1.cell 3
              simp only [List.getElem?_toArray, List.getElem?_cons_succ, List.getElem?_cons_zero] at x1 x2 x3
              go_wp2_with fail
              refine (ttold_any gt _ _ _ _ _ (hTa.drewN _)).mono ?_
              rintro e w9 ⟨rfl, q9, rfl⟩
              go_wp2_with fail
              go_roundw
              case rel => exact ⟨k + 1, _, came, took, by omega, by go_num, hTa.drewN _, hRa.drewN _, below_drewN hBa _⟩
              case measure => simp [intOf]; omega
          · go_wp2_with fail
            refine (til_news_far gt _ _ _ _ _ hTa (by omega)).mono ?_
            rintro e w6 ⟨rfl, q6, rfl⟩
            go_wp2_with fail
            refine (rtl_news_far gx _ _ _ _ _ (hRa.drewN _) (by omega)).mono ?_
            rintro e w7 ⟨rfl, q7, rfl⟩
            have x1 := (hRa).1.cell 1
            have x2 := (hRa).1.cell 2
            have x3 := (hRa).1.cell 3
            simp only [List.getElem?_toArray, List.getElem?_cons_succ, List.getElem?_cons_zero] at x1 x2 x3
            go_wp2_with fail
            refine (ttold_any gt _ _ _ _ _ (hTa.drewN _)).mono ?_
            rintro e w9 ⟨rfl, q9, rfl⟩
            go_wp2_with fail
            go_roundw
            case rel => exact ⟨k + 1, _, came, took, by omega, by go_num, hTa.drewN _, hRa.drewN _, below_drewN hBa _⟩
            case measure => simp [intOf]; omega
    · go_wp2_with fail
      go_ret
      exact ⟨rfl, hB⟩

theorem tills_walk (none : Bool) (window : Int) (A : Option Addr) (len cap : Nat) (d n : Nat → Int) (w : World) (hf : 0 ≤ window) (hl : len ≤ 9223372036854775807) (hS : Script w A len d n) :
    Calls Try.prog 3 #[.bool none, .int .u64 window, .slice A len cap] w fun e w' => e = .returned (.bool true) ∧ Below w.heap.size w w' := by
  cases none
  · exact tills_some window A len cap d n w hf hl hS
  · exact tills_nil window A len cap d n w hf hl hS

open Go.ChangeShapes Go.WideShapes Go.ChangeAt
set_option maxRecDepth 100000 in
theorem tills_lifted (os : Os) (started : os.Started) (H : Type) (enc : TypeId × Value → H) :
    ReturnsInHanded {} Try.checked os 3 .any (Rows.creditTillsSpec.pre6 enc Try.prog Try.f3 Rows.creditTillsRow.domain false) (Rows.creditTillsSpec.post enc Try.prog Try.f3 false true false false) := by
  refine returnsInHanded_of_change (C := Try.checked) own started (by kernel_rfl) Try.func3
    (ChangeSpec.witness6 (enc := enc) (C := Try.checked) false ⟨#[], #[.bool false, .int .u64 0, .slice none 0 0], []⟩ 8 (by kernel_rfl) (by kernel_rfl) (by kernel_rfl) (by kernel_rfl)) ?_
  intro W base args ds gs before hval0 hW hcnd _
  have hval : ∀ (j : Nat) t v, Try.f3.params[j]? = some t → args[j]? = some v → Value.okWide Try.prog W .any base t v := hval0
  have hW' := hW
  obtain ⟨p, q, hA0, hV, rfl, hfz, hnd⟩ := hW
  have hA : DataW.TrodAll enc Try.prog W 0 (fun _ => true) true Try.f3.params.toList args.toList ds p := hA0
  rw [Try.params3] at hA hval
  obtain ⟨v0, vs0, d0, ds0, p0, q0, hargs, rfl, rfl, h0, r0⟩ := trodAll_cons hA
  obtain ⟨v1, vs1, d1, ds1, p1, q1, rfl, rfl, rfl, h1, r1⟩ := trodAll_cons r0
  obtain ⟨v2, vs2, d2, ds2, p2, q2, rfl, rfl, rfl, h2, r2⟩ := trodAll_cons r1
  obtain ⟨rfl, rfl, rfl⟩ := trodAll_nil r2
  obtain rfl : args = #[v0, v1, v2] := by cases args; simp_all
  obtain ⟨rfl, rfl⟩ := trodVars_none hV
  obtain ⟨a0, rfl, rfl, rfl⟩ := open_bool Try.underlying4 (hval 0 4 v0 rfl rfl) h0
  obtain ⟨a1, rfl, rfl, rfl, w1⟩ := open_int Try.underlying22 (hval 1 22 v1 rfl rfl) h1
  obtain ⟨A2, len2, cap2, rfl⟩ := okWide_slice Try.underlying23 (hval 2 23 v2 rfl rfl)
  have k2 := h2
  have lt2 : ∀ x ∈ p2, x.block < W.heap.size := by obtain ⟨m, hm⟩ := k2; exact DataW.trod_lt m _ _ _ hm
  obtain ⟨hl2, d, n, hS⟩ := script_of h2
  clear hA0 hval0
  refine (tills_walk a0 a1 A2 len2 cap2 d n W (bounds_u64 w1).1 hl2 hS).mono fun e W' ⟨he, bel⟩ => ?_
  subst he
  exact ⟨_, rfl, _, _, _, [], _, [], hW', trodAll_mk1 (shut_bool Try.underlying4 _), (trodAll_cons_mk (shut_bool Try.underlying4 _) (trodAll_cons_mk (shut_int Try.underlying22 w1) (trodAll_cons_mk (Below.trod laidOut (by kernel_rfl) (of_decide_eq_true (by kernel_rfl)) k2 bel lt2) trodAll_mk0))), rfl, bel.frame _, fun h => by cases h⟩

theorem tills_holds : Rows.CreditTillsSaid :=
  OpenClaim.holds_of_wide 3 Try.f3 rfl rfl rfl rfl rfl rfl rfl ⟨rfl, rfl, rfl, rfl, rfl⟩ rfl rfl rfl rfl rfl (by kernel_rfl) Try.func3 (by kernel_rfl)
    (of_decide_eq_true (by kernel_rfl)) (by unfold Func.isWrapper; first | (rw [if_pos (by decide +kernel)]; kernel_rfl) | (rw [if_neg (by decide +kernel)]; exact ⟨rfl, rfl⟩))
    (fun os started H enc _ => tills_lifted os started H enc)
#print axioms tills_holds

end Go.Proofs.Ytljddpgefbcfmaa
