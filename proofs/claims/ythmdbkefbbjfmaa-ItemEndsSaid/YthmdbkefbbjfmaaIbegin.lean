/-
  A stream's front as bytes: what Begin does, of package item and of the reference.
-/
import Derived.Test.YthmdbkefbbjfmaaVjn
namespace Go.Proofs.Ythmdbkefbbjfmaa
open Go.RowKit
set_option linter.unusedVariables false
set_option linter.unusedSimpArgs false


/-- The bytes of a front, and the error. -/
def beginR (f : Bool) (id g pr : Int) : List Int × Int :=
  if f = true then (if fitB [5, id] = true ∧ g = 0 ∧ pr = 0 then (joinN [5, id], 0) else ([], 4)) else (if fitB [16, id, g] = true then (joinN [16, id, g] ++ [pr], 0) else ([], 4))

set_option maxHeartbeats 1000000 in
set_option maxRecDepth 100000 in
theorem begin_t (id g pr : Int) (w : World) (hi : 0 ≤ id ∧ id ≤ 18446744073709551615) (hg : 0 ≤ g ∧ g ≤ 18446744073709551615) (hp : 0 ≤ pr ∧ pr ≤ 255) : Calls Try.prog 11 #[.agg #[.bool true, .int .u64 id, .int .u64 g, .int .u8 pr]] w fun e w' => ∃ v, e = .returned (.tuple #[v, .int .i64 (beginR true id g pr).2]) ∧ w'.ownsRow w.heap.size 5 1 v (beginR true id g pr).1.length ((beginR true id g pr).1.map (Value.int .u8)) ∧ Below w.heap.size w w' := by
  obtain ⟨R, hR⟩ : ∃ R, R = beginR true id g pr := ⟨_, rfl⟩
  rw [← hR]
  have HR := Lib.hid hR
  clear hR
  have hO := Blk.new w 35 #[.bool true, .int .u64 id, .int .u64 g, .int .u8 pr]
  have hB0 := (Below.refl w.heap.size w).alloc (Nat.le_refl _) (.cells #[.bool true, .int .u64 id, .int .u64 g, .int .u8 pr] 35)
  have hL := show Rd ((w.alloc (.cells #[.bool true, .int .u64 id, .int .u64 g, .int .u8 pr] 35)).alloc (.cells #[.int .u64 5, .int .u64 id] 22)) .u64 (.slice (some ⟨w.heap.size + 1, 0, none⟩) 2 2) [5, id] from rd_lit_at (by simp) [5, id] (by simp)
  have hB1 := hB0.alloc hB0.size (.cells #[.int .u64 5, .int .u64 id] 22)
  have hO1 := hO.alloc (.cells #[.int .u64 5, .int .u64 id] 22)
  go_enter Try.func11, Try.ntmps11
  go_wp2_with fail
  refine (join_any _ [5, id] _ hL (by simp) (by intro x hx; simp at hx; omega)).mono ?_
  rintro e w1 ⟨v1, rfl, ho, hb1⟩
  have hO2 := hO1.same hb1
  have hB2 := hB1.trans (hb1.mono hB1.size)
  have ho2 := own_base ho hB1.size
  clear hL hO hO1 hB0 ho hb1
  have o0 : w1.cell? ⟨w.heap.size, 0, none⟩ = some (.bool true) := hO2.cell 0
  have o1 : w1.cell? ⟨w.heap.size, 1, none⟩ = some (.int .u64 id) := hO2.cell 1
  have o2 : w1.cell? ⟨w.heap.size, 2, none⟩ = some (.int .u64 g) := hO2.cell 2
  have o3 : w1.cell? ⟨w.heap.size, 3, none⟩ = some (.int .u8 pr) := hO2.cell 3
  unfold jn at ho2
  obtain ⟨b, hb⟩ : ∃ b, b = fitB [5, id] := ⟨_, rfl⟩
  rw [← hb] at ho2 ⊢
  have HB := Lib.hid hb
  clear hb
  cases b with
  | false =>
    have HF : Hid (R = ([], 4)) := Lib.hid (by rw [HR.out]; unfold beginR; rw [if_pos rfl, if_neg (fun h => by rw [← HB.out] at h; cases h.1)])
    go_wp2_with fail
    go_ret2
    exact ⟨.slice none 0 0, by rw [HF.out]; rfl, by rw [HF.out]; exact World.ownsRow_nil _ _ _ _, hB2⟩
  | true =>
    rw [if_pos rfl] at ho2
    by_cases h1 : g = 0
    · have h1' : (g != 0) = false := by simpa using h1
      by_cases h2 : pr = 0
      · have h2' : (pr != 0) = false := by simpa using h2
        have H1 := Lib.hid h1
        have H2 := Lib.hid h2
        clear h1 h2
        have HF : Hid (R = (joinN [5, id], 0)) := Lib.hid (by rw [HR.out]; unfold beginR; rw [if_pos rfl, if_pos ⟨HB.out.symm, H1.out, H2.out⟩])
        go_wp2_with fail
        go_ret2
        exact ⟨v1, by rw [HF.out]; rfl, by rw [HF.out]; exact ho2, hB2⟩
      · have h2' : (pr != 0) = true := by simpa using h2
        have H2 := Lib.hid h2
        clear h1 h2
        have HF : Hid (R = ([], 4)) := Lib.hid (by rw [HR.out]; unfold beginR; rw [if_pos rfl, if_neg (fun h => H2.out h.2.2)])
        go_wp2_with fail
        go_ret2
        exact ⟨.slice none 0 0, by rw [HF.out]; rfl, by rw [HF.out]; exact World.ownsRow_nil _ _ _ _, hB2⟩
    · have h1' : (g != 0) = true := by simpa using h1
      have H1 := Lib.hid h1
      clear h1
      have HF : Hid (R = ([], 4)) := Lib.hid (by rw [HR.out]; unfold beginR; rw [if_pos rfl, if_neg (fun h => H1.out h.2.1)])
      go_wp2_with fail
      go_ret2
      exact ⟨.slice none 0 0, by rw [HF.out]; rfl, by rw [HF.out]; exact World.ownsRow_nil _ _ _ _, hB2⟩

set_option maxHeartbeats 1000000 in
set_option maxRecDepth 100000 in
theorem begin_f (id g pr : Int) (w : World) (hi : 0 ≤ id ∧ id ≤ 18446744073709551615) (hg : 0 ≤ g ∧ g ≤ 18446744073709551615) (hp : 0 ≤ pr ∧ pr ≤ 255) : Calls Try.prog 11 #[.agg #[.bool false, .int .u64 id, .int .u64 g, .int .u8 pr]] w fun e w' => ∃ v, e = .returned (.tuple #[v, .int .i64 (beginR false id g pr).2]) ∧ w'.ownsRow w.heap.size 5 1 v (beginR false id g pr).1.length ((beginR false id g pr).1.map (Value.int .u8)) ∧ Below w.heap.size w w' := by
  obtain ⟨i0, hi0, hz0, hz1, hz2⟩ := info_parts infoB
  obtain ⟨R, hR⟩ : ∃ R, R = beginR false id g pr := ⟨_, rfl⟩
  rw [← hR]
  have HR := Lib.hid hR
  clear hR
  have hO := Blk.new w 35 #[.bool false, .int .u64 id, .int .u64 g, .int .u8 pr]
  have hB0 := (Below.refl w.heap.size w).alloc (Nat.le_refl _) (.cells #[.bool false, .int .u64 id, .int .u64 g, .int .u8 pr] 35)
  have hL := show Rd ((w.alloc (.cells #[.bool false, .int .u64 id, .int .u64 g, .int .u8 pr] 35)).alloc (.cells #[.int .u64 16, .int .u64 id, .int .u64 g] 22)) .u64 (.slice (some ⟨w.heap.size + 1, 0, none⟩) 3 3) [16, id, g] from rd_lit_at (by simp) [16, id, g] (by simp)
  have hB1 := hB0.alloc hB0.size (.cells #[.int .u64 16, .int .u64 id, .int .u64 g] 22)
  have hO1 := hO.alloc (.cells #[.int .u64 16, .int .u64 id, .int .u64 g] 22)
  go_enter Try.func11, Try.ntmps11
  go_wp2_with fail
  refine (join_any _ [16, id, g] _ hL (by simp) (by intro x hx; simp at hx; omega)).mono ?_
  rintro e w1 ⟨v1, rfl, ho, hb1⟩
  have hO2 := hO1.same hb1
  have hB2 := hB1.trans (hb1.mono hB1.size)
  have ho2 := own_base ho hB1.size
  clear hL hO hO1 hB0 ho hb1
  have o0 : w1.cell? ⟨w.heap.size, 0, none⟩ = some (.bool false) := hO2.cell 0
  have o1 : w1.cell? ⟨w.heap.size, 1, none⟩ = some (.int .u64 id) := hO2.cell 1
  have o2 : w1.cell? ⟨w.heap.size, 2, none⟩ = some (.int .u64 g) := hO2.cell 2
  have o3 : w1.cell? ⟨w.heap.size, 3, none⟩ = some (.int .u8 pr) := hO2.cell 3
  have hjl := jn_len [16, id, g]
  unfold jn at hjl ho2
  obtain ⟨b, hb⟩ : ∃ b, b = fitB [16, id, g] := ⟨_, rfl⟩
  rw [← hb] at ho2 hjl ⊢
  have HB := Lib.hid hb
  clear hb
  cases b with
  | false =>
    have HF : Hid (R = ([], 4)) := Lib.hid (by rw [HR.out]; unfold beginR; rw [if_neg (by simp), if_neg (fun h => by rw [← HB.out] at h; cases h)])
    go_wp2_with fail
    go_ret2
    exact ⟨.slice none 0 0, by rw [HF.out]; rfl, by rw [HF.out]; exact World.ownsRow_nil _ _ _ _, hB2⟩
  | true =>
    rw [if_pos rfl] at ho2 hjl
    have HF : Hid (R = (joinN [16, id, g] ++ [pr], 0)) := Lib.hid (by rw [HR.out]; unfold beginR; rw [if_neg (by simp), if_pos HB.out.symm])
    obtain ⟨J, hJ⟩ : ∃ J, J = joinN [16, id, g] := ⟨_, rfl⟩
    rw [← hJ] at ho2 hjl HF
    clear hJ
    simp only [List.length_cons, List.length_nil] at hjl
    go_wp2_with (at_builtin; refine wpList_append_lies _ rfl _ _ 27 rfl w.heap.size 5 i0 _ 1 1 Try.underlying27 hi0 hz0 hz1 hz2 rfl (by decide) v1 J.length (J.map (Value.int .u8)) rfl (ho2.alloc _) ⟨w1.heap.size, 0, none⟩ 1 1 [.int .u8 pr] rfl rfl (World.news_of_block (cs := #[.int .u8 pr]) (t := 5) (fr := (0, 0)) (heap_alloc_new w1 _)) (by simp [Value.oneCell']) (by decide) (by unfold maxLen; omega) (by omega) (by simp; have := hB2.size; omega) (w1.heap.size + 1) (by simp) ?_; intro g4 c4 w4 hown4 hgrow4 hat4 hlt4)
    go_ret2
    exact ⟨.slice (some ⟨g4, 0, none⟩) (J.length + 1) c4, by rw [HF.out]; rfl, by rw [HF.out, List.length_append, List.map_append]; exact hown4, (hB2.alloc hB2.size _).grown hgrow4 (by simp; have := hB2.size; omega) (fun b hb => (ho2.lt b hb).1)⟩

theorem begin_any (f : Bool) (id g pr : Int) (w : World) (hi : 0 ≤ id ∧ id ≤ 18446744073709551615) (hg : 0 ≤ g ∧ g ≤ 18446744073709551615) (hp : 0 ≤ pr ∧ pr ≤ 255) : Calls Try.prog 11 #[.agg #[.bool f, .int .u64 id, .int .u64 g, .int .u8 pr]] w fun e w' => ∃ v, e = .returned (.tuple #[v, .int .i64 (beginR f id g pr).2]) ∧ w'.ownsRow w.heap.size 5 1 v (beginR f id g pr).1.length ((beginR f id g pr).1.map (Value.int .u8)) ∧ Below w.heap.size w w' := by
  cases f with
  | true => exact begin_t id g pr w hi hg hp
  | false => exact begin_f id g pr w hi hg hp

set_option maxHeartbeats 1000000 in
set_option maxRecDepth 100000 in
theorem rbegin_t (id g pr : Int) (w : World) (hi : 0 ≤ id ∧ id ≤ 18446744073709551615) (hg : 0 ≤ g ∧ g ≤ 18446744073709551615) (hp : 0 ≤ pr ∧ pr ≤ 255) : Calls Try.prog 12 #[.agg #[.bool true, .int .u64 id, .int .u64 g, .int .u8 pr]] w fun e w' => ∃ v, e = .returned (.tuple #[v, .int .i64 (beginR true id g pr).2]) ∧ w'.ownsRow w.heap.size 5 1 v (beginR true id g pr).1.length ((beginR true id g pr).1.map (Value.int .u8)) ∧ Below w.heap.size w w' := by
  obtain ⟨R, hR⟩ : ∃ R, R = beginR true id g pr := ⟨_, rfl⟩
  rw [← hR]
  have HR := Lib.hid hR
  clear hR
  have hO := Blk.new w 24 #[.bool true, .int .u64 id, .int .u64 g, .int .u8 pr]
  have hB0 := (Below.refl w.heap.size w).alloc (Nat.le_refl _) (.cells #[.bool true, .int .u64 id, .int .u64 g, .int .u8 pr] 24)
  have hL := show Rd ((w.alloc (.cells #[.bool true, .int .u64 id, .int .u64 g, .int .u8 pr] 24)).alloc (.cells #[.int .u64 5, .int .u64 id] 22)) .u64 (.slice (some ⟨w.heap.size + 1, 0, none⟩) 2 2) [5, id] from rd_lit_at (by simp) [5, id] (by simp)
  have hB1 := hB0.alloc hB0.size (.cells #[.int .u64 5, .int .u64 id] 22)
  have hO1 := hO.alloc (.cells #[.int .u64 5, .int .u64 id] 22)
  go_enter Try.func12, Try.ntmps12
  go_wp2_with fail
  refine (nums_any _ [5, id] _ hL (by simp) (by intro x hx; simp at hx; omega)).mono ?_
  rintro e w1 ⟨v1, rfl, ho, hb1⟩
  have hO2 := hO1.same hb1
  have hB2 := hB1.trans (hb1.mono hB1.size)
  have ho2 := own_base ho hB1.size
  clear hL hO hO1 hB0 ho hb1
  have o0 : w1.cell? ⟨w.heap.size, 0, none⟩ = some (.bool true) := hO2.cell 0
  have o1 : w1.cell? ⟨w.heap.size, 1, none⟩ = some (.int .u64 id) := hO2.cell 1
  have o2 : w1.cell? ⟨w.heap.size, 2, none⟩ = some (.int .u64 g) := hO2.cell 2
  have o3 : w1.cell? ⟨w.heap.size, 3, none⟩ = some (.int .u8 pr) := hO2.cell 3
  unfold jn at ho2
  obtain ⟨b, hb⟩ : ∃ b, b = fitB [5, id] := ⟨_, rfl⟩
  rw [← hb] at ho2 ⊢
  have HB := Lib.hid hb
  clear hb
  cases b with
  | false =>
    have HF : Hid (R = ([], 4)) := Lib.hid (by rw [HR.out]; unfold beginR; rw [if_pos rfl, if_neg (fun h => by rw [← HB.out] at h; cases h.1)])
    go_wp2_with fail
    go_ret2
    exact ⟨.slice none 0 0, by rw [HF.out]; rfl, by rw [HF.out]; exact World.ownsRow_nil _ _ _ _, hB2⟩
  | true =>
    rw [if_pos rfl] at ho2
    by_cases h1 : g = 0
    · have h1' : (g != 0) = false := by simpa using h1
      by_cases h2 : pr = 0
      · have h2' : (pr != 0) = false := by simpa using h2
        have H1 := Lib.hid h1
        have H2 := Lib.hid h2
        clear h1 h2
        have HF : Hid (R = (joinN [5, id], 0)) := Lib.hid (by rw [HR.out]; unfold beginR; rw [if_pos rfl, if_pos ⟨HB.out.symm, H1.out, H2.out⟩])
        go_wp2_with fail
        go_ret2
        exact ⟨v1, by rw [HF.out]; rfl, by rw [HF.out]; exact ho2, hB2⟩
      · have h2' : (pr != 0) = true := by simpa using h2
        have H2 := Lib.hid h2
        clear h1 h2
        have HF : Hid (R = ([], 4)) := Lib.hid (by rw [HR.out]; unfold beginR; rw [if_pos rfl, if_neg (fun h => H2.out h.2.2)])
        go_wp2_with fail
        go_ret2
        exact ⟨.slice none 0 0, by rw [HF.out]; rfl, by rw [HF.out]; exact World.ownsRow_nil _ _ _ _, hB2⟩
    · have h1' : (g != 0) = true := by simpa using h1
      have H1 := Lib.hid h1
      clear h1
      have HF : Hid (R = ([], 4)) := Lib.hid (by rw [HR.out]; unfold beginR; rw [if_pos rfl, if_neg (fun h => H1.out h.2.1)])
      go_wp2_with fail
      go_ret2
      exact ⟨.slice none 0 0, by rw [HF.out]; rfl, by rw [HF.out]; exact World.ownsRow_nil _ _ _ _, hB2⟩

set_option maxHeartbeats 1000000 in
set_option maxRecDepth 100000 in
theorem rbegin_f (id g pr : Int) (w : World) (hi : 0 ≤ id ∧ id ≤ 18446744073709551615) (hg : 0 ≤ g ∧ g ≤ 18446744073709551615) (hp : 0 ≤ pr ∧ pr ≤ 255) : Calls Try.prog 12 #[.agg #[.bool false, .int .u64 id, .int .u64 g, .int .u8 pr]] w fun e w' => ∃ v, e = .returned (.tuple #[v, .int .i64 (beginR false id g pr).2]) ∧ w'.ownsRow w.heap.size 5 1 v (beginR false id g pr).1.length ((beginR false id g pr).1.map (Value.int .u8)) ∧ Below w.heap.size w w' := by
  obtain ⟨i0, hi0, hz0, hz1, hz2⟩ := info_parts infoB
  obtain ⟨R, hR⟩ : ∃ R, R = beginR false id g pr := ⟨_, rfl⟩
  rw [← hR]
  have HR := Lib.hid hR
  clear hR
  have hO := Blk.new w 24 #[.bool false, .int .u64 id, .int .u64 g, .int .u8 pr]
  have hB0 := (Below.refl w.heap.size w).alloc (Nat.le_refl _) (.cells #[.bool false, .int .u64 id, .int .u64 g, .int .u8 pr] 24)
  have hL := show Rd ((w.alloc (.cells #[.bool false, .int .u64 id, .int .u64 g, .int .u8 pr] 24)).alloc (.cells #[.int .u64 16, .int .u64 id, .int .u64 g] 22)) .u64 (.slice (some ⟨w.heap.size + 1, 0, none⟩) 3 3) [16, id, g] from rd_lit_at (by simp) [16, id, g] (by simp)
  have hB1 := hB0.alloc hB0.size (.cells #[.int .u64 16, .int .u64 id, .int .u64 g] 22)
  have hO1 := hO.alloc (.cells #[.int .u64 16, .int .u64 id, .int .u64 g] 22)
  go_enter Try.func12, Try.ntmps12
  go_wp2_with fail
  refine (nums_any _ [16, id, g] _ hL (by simp) (by intro x hx; simp at hx; omega)).mono ?_
  rintro e w1 ⟨v1, rfl, ho, hb1⟩
  have hO2 := hO1.same hb1
  have hB2 := hB1.trans (hb1.mono hB1.size)
  have ho2 := own_base ho hB1.size
  clear hL hO hO1 hB0 ho hb1
  have o0 : w1.cell? ⟨w.heap.size, 0, none⟩ = some (.bool false) := hO2.cell 0
  have o1 : w1.cell? ⟨w.heap.size, 1, none⟩ = some (.int .u64 id) := hO2.cell 1
  have o2 : w1.cell? ⟨w.heap.size, 2, none⟩ = some (.int .u64 g) := hO2.cell 2
  have o3 : w1.cell? ⟨w.heap.size, 3, none⟩ = some (.int .u8 pr) := hO2.cell 3
  have hjl := jn_len [16, id, g]
  unfold jn at hjl ho2
  obtain ⟨b, hb⟩ : ∃ b, b = fitB [16, id, g] := ⟨_, rfl⟩
  rw [← hb] at ho2 hjl ⊢
  have HB := Lib.hid hb
  clear hb
  cases b with
  | false =>
    have HF : Hid (R = ([], 4)) := Lib.hid (by rw [HR.out]; unfold beginR; rw [if_neg (by simp), if_neg (fun h => by rw [← HB.out] at h; cases h)])
    go_wp2_with fail
    go_ret2
    exact ⟨.slice none 0 0, by rw [HF.out]; rfl, by rw [HF.out]; exact World.ownsRow_nil _ _ _ _, hB2⟩
  | true =>
    rw [if_pos rfl] at ho2 hjl
    have HF : Hid (R = (joinN [16, id, g] ++ [pr], 0)) := Lib.hid (by rw [HR.out]; unfold beginR; rw [if_neg (by simp), if_pos HB.out.symm])
    obtain ⟨J, hJ⟩ : ∃ J, J = joinN [16, id, g] := ⟨_, rfl⟩
    rw [← hJ] at ho2 hjl HF
    clear hJ
    simp only [List.length_cons, List.length_nil] at hjl
    go_wp2_with (at_builtin; refine wpList_append_lies _ rfl _ _ 27 rfl w.heap.size 5 i0 _ 1 1 Try.underlying27 hi0 hz0 hz1 hz2 rfl (by decide) v1 J.length (J.map (Value.int .u8)) rfl (ho2.alloc _) ⟨w1.heap.size, 0, none⟩ 1 1 [.int .u8 pr] rfl rfl (World.news_of_block (cs := #[.int .u8 pr]) (t := 5) (fr := (0, 0)) (heap_alloc_new w1 _)) (by simp [Value.oneCell']) (by decide) (by unfold maxLen; omega) (by omega) (by simp; have := hB2.size; omega) (w1.heap.size + 1) (by simp) ?_; intro g4 c4 w4 hown4 hgrow4 hat4 hlt4)
    go_ret2
    exact ⟨.slice (some ⟨g4, 0, none⟩) (J.length + 1) c4, by rw [HF.out]; rfl, by rw [HF.out, List.length_append, List.map_append]; exact hown4, (hB2.alloc hB2.size _).grown hgrow4 (by simp; have := hB2.size; omega) (fun b hb => (ho2.lt b hb).1)⟩

theorem rbegin_any (f : Bool) (id g pr : Int) (w : World) (hi : 0 ≤ id ∧ id ≤ 18446744073709551615) (hg : 0 ≤ g ∧ g ≤ 18446744073709551615) (hp : 0 ≤ pr ∧ pr ≤ 255) : Calls Try.prog 12 #[.agg #[.bool f, .int .u64 id, .int .u64 g, .int .u8 pr]] w fun e w' => ∃ v, e = .returned (.tuple #[v, .int .i64 (beginR f id g pr).2]) ∧ w'.ownsRow w.heap.size 5 1 v (beginR f id g pr).1.length ((beginR f id g pr).1.map (Value.int .u8)) ∧ Below w.heap.size w w' := by
  cases f with
  | true => exact rbegin_t id g pr w hi hg hp
  | false => exact rbegin_f id g pr w hi hg hp

end Go.Proofs.Ythmdbkefbbjfmaa
