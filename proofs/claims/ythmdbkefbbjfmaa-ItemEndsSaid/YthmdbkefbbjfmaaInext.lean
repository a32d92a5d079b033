/-
  An object as bytes: what Next and Gram do, of package item and of the reference.
-/
import Derived.Test.YthmdbkefbbjfmaaIbegin
namespace Go.Proofs.Ythmdbkefbbjfmaa
open Go.RowKit
set_option linter.unusedVariables false
set_option linter.unusedSimpArgs false


/-- The bytes of an object in a stream, and the error; of a datagram. -/
def nextR (f : Bool) (hg hp G O pr : Int) (gr : Bool) (l : List Int) : List Int × Int :=
  if 2048 < l.length then ([], 3) else if f = true then (if gr = false ∧ fitB [G, O] = true then (joinN [G, O] ++ [pr] ++ txtB l, 0) else ([], 4))
  else (if gr = false ∧ fitB [O] = true ∧ G = hg ∧ pr = hp ∧ G ≤ 4611686018427387903 then (joinN [O] ++ txtB l, 0) else ([], 4))
def gramR (al G O pr : Int) (gr : Bool) (l : List Int) : List Int × Int :=
  if 2048 < l.length then ([], 3) else if fitB [1, al, G, O] = true ∧ gr = true then (joinN [1, al, G, O] ++ [pr] ++ l, 0) else ([], 4)
/-- What the caller asks of an object's numbers. -/
structure ObOk (G O pr : Int) : Prop where
  g : 0 ≤ G ∧ G ≤ 18446744073709551615
  o : 0 ≤ O ∧ O ≤ 18446744073709551615
  p : 0 ≤ pr ∧ pr ≤ 255

set_option maxHeartbeats 1000000 in
set_option maxRecDepth 100000 in
theorem next_long (f : Bool) (id hg hp G O pr : Int) (gr : Bool) (V : Value) (l : List Int) (R : List Int × Int) (w : World) (hv : Rd w .u8 V l) (hl : l.length ≤ 1000000) (ho : ObOk G O pr) (hlong : 2048 < l.length) (hR : nextR f hg hp G O pr gr l = R) :
    Calls Try.prog 13 #[.agg #[.bool f, .int .u64 id, .int .u64 hg, .int .u8 hp], .agg #[.int .u64 G, .int .u64 O, .int .u8 pr, .bool gr, V]] w fun e w' => ∃ v, e = .returned (.tuple #[v, .int .i64 R.2]) ∧ w'.ownsRow w.heap.size 5 1 v R.1.length (R.1.map (Value.int .u8)) ∧ Below w.heap.size w w' := by
  obtain ⟨i0, hi0, hz0, hz1, hz2⟩ := info_parts infoB
  obtain ⟨hoG, hoO, hoP⟩ := ho
  obtain ⟨Ad, cd, rfl⟩ := hv.form
  have hcd := hv.rdv.2.2
  have hcd2 : l.length ≤ cd ∧ cd ≤ 9223372036854775807 := by unfold maxLen at hcd; omega
  have HV := Lib.hid hv
  clear hv hcd
  have HR := Lib.hid (show R = ([], 3) by rw [← hR]; unfold nextR; rw [if_pos hlong])
  clear hR
  have hH := (Blk.new w 35 #[.bool f, .int .u64 id, .int .u64 hg, .int .u8 hp]).alloc (.cells #[.int .u64 G, .int .u64 O, .int .u8 pr, .bool gr, (.slice Ad l.length cd)] 29)
  have hO := Blk.new (w.alloc (.cells #[.bool f, .int .u64 id, .int .u64 hg, .int .u8 hp] 35)) 29 #[.int .u64 G, .int .u64 O, .int .u8 pr, .bool gr, (.slice Ad l.length cd)]
  rw [World.size_alloc] at hO
  have hB0 := ((Below.refl w.heap.size w).alloc (Nat.le_refl _) (.cells #[.bool f, .int .u64 id, .int .u64 hg, .int .u8 hp] 35)).alloc (by simp) (.cells #[.int .u64 G, .int .u64 O, .int .u8 pr, .bool gr, (.slice Ad l.length cd)] 29)
  skip
  go_enter Try.func13, Try.ntmps13
  go_wp2_with fail
  go_ret2
  exact ⟨.slice none 0 0, by rw [HR.out]; rfl, by rw [HR.out]; exact World.ownsRow_nil _ _ _ _, hB0⟩

set_option maxHeartbeats 1000000 in
set_option maxRecDepth 100000 in
theorem rnext_long (f : Bool) (id hg hp G O pr : Int) (gr : Bool) (V : Value) (l : List Int) (R : List Int × Int) (w : World) (hv : Rd w .u8 V l) (hl : l.length ≤ 1000000) (ho : ObOk G O pr) (hlong : 2048 < l.length) (hR : nextR f hg hp G O pr gr l = R) :
    Calls Try.prog 14 #[.agg #[.bool f, .int .u64 id, .int .u64 hg, .int .u8 hp], .agg #[.int .u64 G, .int .u64 O, .int .u8 pr, .bool gr, V]] w fun e w' => ∃ v, e = .returned (.tuple #[v, .int .i64 R.2]) ∧ w'.ownsRow w.heap.size 5 1 v R.1.length (R.1.map (Value.int .u8)) ∧ Below w.heap.size w w' := by
  obtain ⟨i0, hi0, hz0, hz1, hz2⟩ := info_parts infoB
  obtain ⟨hoG, hoO, hoP⟩ := ho
  obtain ⟨Ad, cd, rfl⟩ := hv.form
  have hcd := hv.rdv.2.2
  have hcd2 : l.length ≤ cd ∧ cd ≤ 9223372036854775807 := by unfold maxLen at hcd; omega
  have HV := Lib.hid hv
  clear hv hcd
  have HR := Lib.hid (show R = ([], 3) by rw [← hR]; unfold nextR; rw [if_pos hlong])
  clear hR
  have hH := (Blk.new w 24 #[.bool f, .int .u64 id, .int .u64 hg, .int .u8 hp]).alloc (.cells #[.int .u64 G, .int .u64 O, .int .u8 pr, .bool gr, (.slice Ad l.length cd)] 29)
  have hO := Blk.new (w.alloc (.cells #[.bool f, .int .u64 id, .int .u64 hg, .int .u8 hp] 24)) 29 #[.int .u64 G, .int .u64 O, .int .u8 pr, .bool gr, (.slice Ad l.length cd)]
  rw [World.size_alloc] at hO
  have hB0 := ((Below.refl w.heap.size w).alloc (Nat.le_refl _) (.cells #[.bool f, .int .u64 id, .int .u64 hg, .int .u8 hp] 24)).alloc (by simp) (.cells #[.int .u64 G, .int .u64 O, .int .u8 pr, .bool gr, (.slice Ad l.length cd)] 29)
  skip
  go_enter Try.func14, Try.ntmps14
  go_wp2_with fail
  go_ret2
  exact ⟨.slice none 0 0, by rw [HR.out]; rfl, by rw [HR.out]; exact World.ownsRow_nil _ _ _ _, hB0⟩

set_option maxHeartbeats 1000000 in
set_option maxRecDepth 100000 in
theorem next_t (id hg hp G O pr : Int) (gr : Bool) (V : Value) (l : List Int) (R : List Int × Int) (w : World) (hv : Rd w .u8 V l) (hl : l.length ≤ 1000000) (ho : ObOk G O pr) (hs : l.length ≤ 2048) (hR : nextR true hg hp G O pr gr l = R) :
    Calls Try.prog 13 #[.agg #[.bool true, .int .u64 id, .int .u64 hg, .int .u8 hp], .agg #[.int .u64 G, .int .u64 O, .int .u8 pr, .bool gr, V]] w fun e w' => ∃ v, e = .returned (.tuple #[v, .int .i64 R.2]) ∧ w'.ownsRow w.heap.size 5 1 v R.1.length (R.1.map (Value.int .u8)) ∧ Below w.heap.size w w' := by
  obtain ⟨i0, hi0, hz0, hz1, hz2⟩ := info_parts infoB
  obtain ⟨hoG, hoO, hoP⟩ := ho
  obtain ⟨Ad, cd, rfl⟩ := hv.form
  have hcd := hv.rdv.2.2
  have hcd2 : l.length ≤ cd ∧ cd ≤ 9223372036854775807 := by unfold maxLen at hcd; omega
  have HV := Lib.hid hv
  clear hv hcd
  have hR2 := hR.symm
  unfold nextR at hR2
  rw [if_neg (by omega), if_pos rfl] at hR2
  have HR0 := Lib.hid hR2
  clear hR hR2
  have hH := (Blk.new w 35 #[.bool true, .int .u64 id, .int .u64 hg, .int .u8 hp]).alloc (.cells #[.int .u64 G, .int .u64 O, .int .u8 pr, .bool gr, (.slice Ad l.length cd)] 29)
  have hO := Blk.new (w.alloc (.cells #[.bool true, .int .u64 id, .int .u64 hg, .int .u8 hp] 35)) 29 #[.int .u64 G, .int .u64 O, .int .u8 pr, .bool gr, (.slice Ad l.length cd)]
  rw [World.size_alloc] at hO
  have hB0 := ((Below.refl w.heap.size w).alloc (Nat.le_refl _) (.cells #[.bool true, .int .u64 id, .int .u64 hg, .int .u8 hp] 35)).alloc (by simp) (.cells #[.int .u64 G, .int .u64 O, .int .u8 pr, .bool gr, (.slice Ad l.length cd)] 29)
  skip
  go_enter Try.func13, Try.ntmps13
  have hL := show Rd ((((w.alloc (.cells #[.bool true, .int .u64 id, .int .u64 hg, .int .u8 hp] 35)).alloc (.cells #[.int .u64 G, .int .u64 O, .int .u8 pr, .bool gr, (.slice Ad l.length cd)] 29))).alloc (.cells #[.int .u64 G, .int .u64 O] 22)) .u64 (.slice (some ⟨w.heap.size + 2, 0, none⟩) 2 2) [G, O] from rd_lit_at (by simp) [G, O] (by simp)
  have hB1 := hB0.alloc hB0.size (.cells #[.int .u64 G, .int .u64 O] 22)
  have hH1 := hH.alloc (.cells #[.int .u64 G, .int .u64 O] 22)
  have hO1 := hO.alloc (.cells #[.int .u64 G, .int .u64 O] 22)
  go_wp2_with fail
  refine (join_any _ [G, O] _ hL (by simp) (by intro x hx; simp at hx; omega)).mono ?_
  rintro e w1 ⟨v1, rfl, ho, hb1⟩
  have hH2 := hH1.same hb1
  have hO2 := hO1.same hb1
  have hB2 := hB1.trans (hb1.mono hB1.size)
  have ho2 := own_base ho hB1.size
  clear hL hH hO hH1 hO1 hB1 hB0 ho hb1
  have c0 : w1.cell? ⟨w.heap.size + 1, 0, none⟩ = some (.int .u64 G) := hO2.cell 0
  have c1 : w1.cell? ⟨w.heap.size + 1, 1, none⟩ = some (.int .u64 O) := hO2.cell 1
  have c2 : w1.cell? ⟨w.heap.size + 1, 2, none⟩ = some (.int .u8 pr) := hO2.cell 2
  have c3 : w1.cell? ⟨w.heap.size + 1, 3, none⟩ = some (.bool gr) := hO2.cell 3
  have c4 : w1.cell? ⟨w.heap.size + 1, 4, none⟩ = some (.slice Ad l.length cd) := hO2.cell 4
  have hjl := jn_len [G, O]
  have hjf : fitB [G, O] = true → jn [G, O] = joinN [G, O] := fun h => by unfold jn; rw [if_pos h]
  obtain ⟨J, hJ⟩ : ∃ J, J = jn [G, O] := ⟨_, rfl⟩
  rw [← hJ] at ho2 hjl hjf
  clear hJ
  simp only [List.length_cons, List.length_nil] at hjl
  have HJ := Lib.hid hjf
  clear hjf
  obtain ⟨b, hb⟩ : ∃ b, b = fitB [G, O] := ⟨_, rfl⟩
  rw [← hb]
  have HB := Lib.hid hb
  clear hb
  cases gr with
  | true =>
    have HR := Lib.hid (show R = ([], 4) by rw [HR0.out, if_neg (fun h => by cases h.1)])
    go_wp2_with (at_builtin; refine wpList_append_lies _ rfl _ _ 27 rfl w.heap.size 5 i0 _ 1 1 Try.underlying27 hi0 hz0 hz1 hz2 rfl (by decide) v1 J.length (J.map (Value.int .u8)) rfl (ho2.alloc _) ⟨w1.heap.size, 0, none⟩ 1 1 [.int .u8 pr] rfl rfl (World.news_of_block (cs := #[.int .u8 pr]) (t := 5) (fr := (0, 0)) (heap_alloc_new w1 _)) (by simp [Value.oneCell']) (by decide) (by unfold maxLen; omega) (by omega) (by simp; have := hB2.size; omega) (w1.heap.size + 1) (by simp) ?_; intro g4 k4 w4 hown4 hgrow4 hat4 hlt4)
    have hB4 := (hB2.alloc hB2.size _).grown hgrow4 (by simp; have := hB2.size; omega) (fun b hb => (ho2.lt b hb).1)
    skip
    go_ret2
    exact ⟨.slice none 0 0, by rw [HR.out]; rfl, by rw [HR.out]; exact World.ownsRow_nil _ _ _ _, hB4⟩
  | false =>
    cases b with
    | false =>
      have HR := Lib.hid (show R = ([], 4) by rw [HR0.out, if_neg (fun h => by rw [← HB.out] at h; cases h.2)])
      go_wp2_with (at_builtin; refine wpList_append_lies _ rfl _ _ 27 rfl w.heap.size 5 i0 _ 1 1 Try.underlying27 hi0 hz0 hz1 hz2 rfl (by decide) v1 J.length (J.map (Value.int .u8)) rfl (ho2.alloc _) ⟨w1.heap.size, 0, none⟩ 1 1 [.int .u8 pr] rfl rfl (World.news_of_block (cs := #[.int .u8 pr]) (t := 5) (fr := (0, 0)) (heap_alloc_new w1 _)) (by simp [Value.oneCell']) (by decide) (by unfold maxLen; omega) (by omega) (by simp; have := hB2.size; omega) (w1.heap.size + 1) (by simp) ?_; intro g4 k4 w4 hown4 hgrow4 hat4 hlt4)
      have hB4 := (hB2.alloc hB2.size _).grown hgrow4 (by simp; have := hB2.size; omega) (fun b hb => (ho2.lt b hb).1)
      skip
      go_ret2
      exact ⟨.slice none 0 0, by rw [HR.out]; rfl, by rw [HR.out]; exact World.ownsRow_nil _ _ _ _, hB4⟩
    | true =>
      have HR := Lib.hid (show R = (J ++ [pr] ++ txtB l, 0) by rw [HR0.out, if_pos ⟨rfl, HB.out.symm⟩, HJ.out HB.out.symm])
      go_wp2_with (at_builtin; refine wpList_append_lies _ rfl _ _ 27 rfl w.heap.size 5 i0 _ 1 1 Try.underlying27 hi0 hz0 hz1 hz2 rfl (by decide) v1 J.length (J.map (Value.int .u8)) rfl (ho2.alloc _) ⟨w1.heap.size, 0, none⟩ 1 1 [.int .u8 pr] rfl rfl (World.news_of_block (cs := #[.int .u8 pr]) (t := 5) (fr := (0, 0)) (heap_alloc_new w1 _)) (by simp [Value.oneCell']) (by decide) (by unfold maxLen; omega) (by omega) (by simp; have := hB2.size; omega) (w1.heap.size + 1) (by simp) ?_; intro g4 k4 w4 hown4 hgrow4 hat4 hlt4; have hO4 := (hO2.alloc (.cells #[.int .u8 pr] 5)).grown hgrow4 (Ne.symm (own_blk_ne ho2 hO2 (by decide))); have hB4 := (hB2.alloc hB2.size (.cells #[.int .u8 pr] 5)).grown hgrow4 (by simp; have := hB2.size; omega) (fun b hb => (ho2.lt b hb).1); have e4 : w4.cell? ⟨w.heap.size + 1, 4, none⟩ = some (.slice Ad l.length cd) := hO4.cell 4)
      clear c0 c1 c2 c3 c4 e4
      refine (txt_any _ l _ (HV.out.below hB4) hl).mono ?_
      rintro e w5 ⟨v5, rfl, ho5, hb5⟩
      have hop5 := own_same hown4 hb5
      have hB5 := hB4.trans (hb5.mono hB4.size)
      have htl := txtB_len l hl
      obtain ⟨T, hT⟩ : ∃ T, T = txtB l := ⟨_, rfl⟩
      rw [← hT] at ho5 htl HR
      clear hT
      have r5 := rd_of_own ho5
      obtain ⟨A5, k5, rfl⟩ := r5.form
      have H5 := Lib.hid r5.rdv
      clear r5 ho5 hb5 hown4
      go_wp2_with (at_builtin; refine wpList_append_any _ rfl _ _ 27 rfl w.heap.size 5 i0 _ 1 1 Try.underlying27 hi0 hz0 hz1 hz2 rfl (by decide) (.slice (some ⟨g4, 0, none⟩) (J.length + 1) k4) (J.length + 1) _ rfl hop5 A5 T.length _ _ rfl H5.out.2.2.2.2 (oneInts _ _) (by unfold maxLen; omega) (by omega) hB5.size H5.out.2.1 ?_; intro v9 w9 hown9 hgrow9 hat9)
      go_ret2
      exact ⟨v9, by rw [HR.out]; rfl, by rw [HR.out]; simpa only [List.length_append, List.map_append, List.length_cons, List.length_nil, List.map_cons, List.map_nil] using hown9, hB5.grown hgrow9 hB5.size (fun b hb => (hop5.lt b hb).1)⟩

set_option maxHeartbeats 1000000 in
set_option maxRecDepth 100000 in
theorem next_f (id hg hp G O pr : Int) (gr : Bool) (V : Value) (l : List Int) (R : List Int × Int) (w : World) (hv : Rd w .u8 V l) (hl : l.length ≤ 1000000) (ho : ObOk G O pr) (hs : l.length ≤ 2048) (hR : nextR false hg hp G O pr gr l = R) :
    Calls Try.prog 13 #[.agg #[.bool false, .int .u64 id, .int .u64 hg, .int .u8 hp], .agg #[.int .u64 G, .int .u64 O, .int .u8 pr, .bool gr, V]] w fun e w' => ∃ v, e = .returned (.tuple #[v, .int .i64 R.2]) ∧ w'.ownsRow w.heap.size 5 1 v R.1.length (R.1.map (Value.int .u8)) ∧ Below w.heap.size w w' := by
  obtain ⟨i0, hi0, hz0, hz1, hz2⟩ := info_parts infoB
  obtain ⟨hoG, hoO, hoP⟩ := ho
  obtain ⟨Ad, cd, rfl⟩ := hv.form
  have hcd := hv.rdv.2.2
  have hcd2 : l.length ≤ cd ∧ cd ≤ 9223372036854775807 := by unfold maxLen at hcd; omega
  have HV := Lib.hid hv
  clear hv hcd
  have hR2 := hR.symm
  unfold nextR at hR2
  rw [if_neg (by omega), if_neg (by simp)] at hR2
  have HR0 := Lib.hid hR2
  clear hR hR2
  have hH := (Blk.new w 35 #[.bool false, .int .u64 id, .int .u64 hg, .int .u8 hp]).alloc (.cells #[.int .u64 G, .int .u64 O, .int .u8 pr, .bool gr, (.slice Ad l.length cd)] 29)
  have hO := Blk.new (w.alloc (.cells #[.bool false, .int .u64 id, .int .u64 hg, .int .u8 hp] 35)) 29 #[.int .u64 G, .int .u64 O, .int .u8 pr, .bool gr, (.slice Ad l.length cd)]
  rw [World.size_alloc] at hO
  have hB0 := ((Below.refl w.heap.size w).alloc (Nat.le_refl _) (.cells #[.bool false, .int .u64 id, .int .u64 hg, .int .u8 hp] 35)).alloc (by simp) (.cells #[.int .u64 G, .int .u64 O, .int .u8 pr, .bool gr, (.slice Ad l.length cd)] 29)
  skip
  go_enter Try.func13, Try.ntmps13
  have hL := show Rd ((((w.alloc (.cells #[.bool false, .int .u64 id, .int .u64 hg, .int .u8 hp] 35)).alloc (.cells #[.int .u64 G, .int .u64 O, .int .u8 pr, .bool gr, (.slice Ad l.length cd)] 29))).alloc (.cells #[.int .u64 O] 22)) .u64 (.slice (some ⟨w.heap.size + 2, 0, none⟩) 1 1) [O] from rd_lit_at (by simp) [O] (by simp)
  have hB1 := hB0.alloc hB0.size (.cells #[.int .u64 O] 22)
  have hH1 := hH.alloc (.cells #[.int .u64 O] 22)
  have hO1 := hO.alloc (.cells #[.int .u64 O] 22)
  go_wp2_with fail
  refine (join_any _ [O] _ hL (by simp) (by intro x hx; simp at hx; omega)).mono ?_
  rintro e w1 ⟨v1, rfl, ho, hb1⟩
  have hH2 := hH1.same hb1
  have hO2 := hO1.same hb1
  have hB2 := hB1.trans (hb1.mono hB1.size)
  have ho2 := own_base ho hB1.size
  clear hL hH hO hH1 hO1 hB1 hB0 ho hb1
  have c0 : w1.cell? ⟨w.heap.size + 1, 0, none⟩ = some (.int .u64 G) := hO2.cell 0
  have c1 : w1.cell? ⟨w.heap.size + 1, 1, none⟩ = some (.int .u64 O) := hO2.cell 1
  have c2 : w1.cell? ⟨w.heap.size + 1, 2, none⟩ = some (.int .u8 pr) := hO2.cell 2
  have c3 : w1.cell? ⟨w.heap.size + 1, 3, none⟩ = some (.bool gr) := hO2.cell 3
  have c4 : w1.cell? ⟨w.heap.size + 1, 4, none⟩ = some (.slice Ad l.length cd) := hO2.cell 4
  have d0 : w1.cell? ⟨w.heap.size, 0, none⟩ = some (.bool false) := hH2.cell 0
  have d1 : w1.cell? ⟨w.heap.size, 1, none⟩ = some (.int .u64 id) := hH2.cell 1
  have d2 : w1.cell? ⟨w.heap.size, 2, none⟩ = some (.int .u64 hg) := hH2.cell 2
  have d3 : w1.cell? ⟨w.heap.size, 3, none⟩ = some (.int .u8 hp) := hH2.cell 3
  have hjl := jn_len [O]
  have hjf : fitB [O] = true → jn [O] = joinN [O] := fun h => by unfold jn; rw [if_pos h]
  obtain ⟨J, hJ⟩ : ∃ J, J = jn [O] := ⟨_, rfl⟩
  rw [← hJ] at ho2 hjl hjf
  clear hJ
  simp only [List.length_cons, List.length_nil] at hjl
  have HJ := Lib.hid hjf
  clear hjf
  obtain ⟨b, hb⟩ : ∃ b, b = fitB [O] := ⟨_, rfl⟩
  rw [← hb]
  have HB := Lib.hid hb
  clear hb
  cases gr with
  | true =>
    have HR := Lib.hid (show R = ([], 4) by rw [HR0.out, if_neg (fun h => by cases h.1)])
    go_wp2_with fail
    go_quiet (fail)
    go_wp2_with fail
    go_ret2
    exact ⟨.slice none 0 0, by rw [HR.out]; rfl, by rw [HR.out]; exact World.ownsRow_nil _ _ _ _, (below_drewN hB2 _)⟩
  | false =>
    cases b with
    | false =>
      have HR := Lib.hid (show R = ([], 4) by rw [HR0.out, if_neg (fun h => by rw [← HB.out] at h; cases h.2.1)])
      go_wp2_with fail
      go_quiet (fail)
      go_wp2_with fail
      go_ret2
      exact ⟨.slice none 0 0, by rw [HR.out]; rfl, by rw [HR.out]; exact World.ownsRow_nil _ _ _ _, (below_drewN hB2 _)⟩
    | true =>
      by_cases h1 : G = hg
      · have h1' : (G == hg) = true := by simpa using h1
        by_cases h2 : pr = hp
        · have h2' : (pr == hp) = true := by simpa using h2
          by_cases h3 : G ≤ 4611686018427387903
          · have h3' : decide (G ≤ 4611686018427387903) = true := by simpa using h3
            have HR := Lib.hid (show R = (J ++ txtB l, 0) by rw [HR0.out, if_pos ⟨rfl, HB.out.symm, h1, h2, h3⟩, HJ.out HB.out.symm])
            clear h1 h2 h3
            go_wp2_with fail
            go_quiet (fail)
            clear c0 c1 c2 c3
            have ho2 := own_drewN ho2 nq
            have hB2 := below_drewN hB2 nq
            go_wp2_with fail
            refine (txt_any _ l _ (HV.out.below hB2) hl).mono ?_
            rintro e w5 ⟨v5, rfl, ho5, hb5⟩
            have hop5 := own_same ho2 hb5
            have hB5 := hB2.trans (hb5.mono hB2.size)
            have htl := txtB_len l hl
            obtain ⟨T, hT⟩ : ∃ T, T = txtB l := ⟨_, rfl⟩
            rw [← hT] at ho5 htl HR
            clear hT
            have r5 := rd_of_own ho5
            obtain ⟨A5, k5, rfl⟩ := r5.form
            have H5 := Lib.hid r5.rdv
            clear r5 ho5 hb5 ho2
            go_wp2_with (at_builtin; refine wpList_append_any _ rfl _ _ 27 rfl w.heap.size 5 i0 _ 1 1 Try.underlying27 hi0 hz0 hz1 hz2 rfl (by decide) (v1) J.length _ rfl hop5 A5 T.length _ _ rfl H5.out.2.2.2.2 (oneInts _ _) (by unfold maxLen; omega) (by omega) hB5.size H5.out.2.1 ?_; intro v9 w9 hown9 hgrow9 hat9)
            go_ret2
            exact ⟨v9, by rw [HR.out]; rfl, by rw [HR.out]; simpa only [List.length_append, List.map_append, List.length_cons, List.length_nil, List.map_cons, List.map_nil] using hown9, hB5.grown hgrow9 hB5.size (fun b hb => (hop5.lt b hb).1)⟩
          · have h3' : decide (G ≤ 4611686018427387903) = false := by simpa using h3
            have HR := Lib.hid (show R = ([], 4) by rw [HR0.out, if_neg (fun h => h3 h.2.2.2.2)])
            clear h1 h2 h3
            go_wp2_with fail
            go_quiet (fail)
            go_wp2_with fail
            go_ret2
            exact ⟨.slice none 0 0, by rw [HR.out]; rfl, by rw [HR.out]; exact World.ownsRow_nil _ _ _ _, (below_drewN hB2 _)⟩
        · have h2' : (pr == hp) = false := by simpa using h2
          have HR := Lib.hid (show R = ([], 4) by rw [HR0.out, if_neg (fun h => h2 h.2.2.2.1)])
          clear h1 h2
          go_wp2_with fail
          go_quiet (fail)
          go_wp2_with fail
          go_ret2
          exact ⟨.slice none 0 0, by rw [HR.out]; rfl, by rw [HR.out]; exact World.ownsRow_nil _ _ _ _, (below_drewN hB2 _)⟩
      · have h1' : (G == hg) = false := by simpa using h1
        have HR := Lib.hid (show R = ([], 4) by rw [HR0.out, if_neg (fun h => h1 h.2.2.1)])
        clear h1
        go_wp2_with fail
        go_quiet (fail)
        go_wp2_with fail
        go_ret2
        exact ⟨.slice none 0 0, by rw [HR.out]; rfl, by rw [HR.out]; exact World.ownsRow_nil _ _ _ _, (below_drewN hB2 _)⟩

set_option maxHeartbeats 1000000 in
set_option maxRecDepth 100000 in
theorem gram (al G O pr : Int) (gr : Bool) (V : Value) (l : List Int) (R : List Int × Int) (w : World) (hv : Rd w .u8 V l) (hl : l.length ≤ 1000000) (hal : 0 ≤ al ∧ al ≤ 18446744073709551615) (ho : ObOk G O pr)  (hR : gramR al G O pr gr l = R) :
    Calls Try.prog 15 #[.int .u64 al, .agg #[.int .u64 G, .int .u64 O, .int .u8 pr, .bool gr, V]] w fun e w' => ∃ v, e = .returned (.tuple #[v, .int .i64 R.2]) ∧ w'.ownsRow w.heap.size 5 1 v R.1.length (R.1.map (Value.int .u8)) ∧ Below w.heap.size w w' := by
  obtain ⟨i0, hi0, hz0, hz1, hz2⟩ := info_parts infoB
  obtain ⟨hoG, hoO, hoP⟩ := ho
  obtain ⟨Ad, cd, rfl⟩ := hv.form
  have hcd := hv.rdv.2.2
  have hcd2 : l.length ≤ cd ∧ cd ≤ 9223372036854775807 := by unfold maxLen at hcd; omega
  have HV := Lib.hid hv
  clear hv hcd
  have hR2 := hR.symm
  unfold gramR at hR2
  have HR0 := Lib.hid hR2
  clear hR hR2
  have hO := Blk.new w 29 #[.int .u64 G, .int .u64 O, .int .u8 pr, .bool gr, (.slice Ad l.length cd)]
  have hB0 := (Below.refl w.heap.size w).alloc (Nat.le_refl _) (.cells #[.int .u64 G, .int .u64 O, .int .u8 pr, .bool gr, (.slice Ad l.length cd)] 29)
  have hL := show Rd ((w.alloc (.cells #[.int .u64 G, .int .u64 O, .int .u8 pr, .bool gr, (.slice Ad l.length cd)] 29)).alloc (.cells #[.int .u64 1, .int .u64 al, .int .u64 G, .int .u64 O] 22)) .u64 (.slice (some ⟨w.heap.size + 1, 0, none⟩) 4 4) [1, al, G, O] from rd_lit_at (by simp) [1, al, G, O] (by simp)
  have hB1 := hB0.alloc hB0.size (.cells #[.int .u64 1, .int .u64 al, .int .u64 G, .int .u64 O] 22)
  have hO1 := hO.alloc (.cells #[.int .u64 1, .int .u64 al, .int .u64 G, .int .u64 O] 22)
  go_enter Try.func15, Try.ntmps15
  go_wp2_with fail
  refine (join_any _ [1, al, G, O] _ hL (by simp) (by intro x hx; simp at hx; omega)).mono ?_
  rintro e w1 ⟨v1, rfl, ho, hb1⟩
  have hO2 := hO1.same hb1
  have hB2 := hB1.trans (hb1.mono hB1.size)
  have ho2 := own_base ho hB1.size
  clear hL hO hO1 hB1 hB0 ho hb1
  have c0 : w1.cell? ⟨w.heap.size, 0, none⟩ = some (.int .u64 G) := hO2.cell 0
  have c1 : w1.cell? ⟨w.heap.size, 1, none⟩ = some (.int .u64 O) := hO2.cell 1
  have c2 : w1.cell? ⟨w.heap.size, 2, none⟩ = some (.int .u8 pr) := hO2.cell 2
  have c3 : w1.cell? ⟨w.heap.size, 3, none⟩ = some (.bool gr) := hO2.cell 3
  have c4 : w1.cell? ⟨w.heap.size, 4, none⟩ = some (.slice Ad l.length cd) := hO2.cell 4
  have hjl := jn_len [1, al, G, O]
  have hjf : fitB [1, al, G, O] = true → jn [1, al, G, O] = joinN [1, al, G, O] := fun h => by unfold jn; rw [if_pos h]
  obtain ⟨J, hJ⟩ : ∃ J, J = jn [1, al, G, O] := ⟨_, rfl⟩
  rw [← hJ] at ho2 hjl hjf
  clear hJ
  simp only [List.length_cons, List.length_nil] at hjl
  have HJ := Lib.hid hjf
  clear hjf
  obtain ⟨b, hb⟩ : ∃ b, b = fitB [1, al, G, O] := ⟨_, rfl⟩
  rw [← hb]
  have HB := Lib.hid hb
  clear hb
  by_cases hlong : 2048 < l.length
  · have HR := Lib.hid (show R = ([], 3) by rw [HR0.out, if_pos hlong])
    go_wp2_with fail
    go_ret2
    exact ⟨.slice none 0 0, by rw [HR.out]; rfl, by rw [HR.out]; exact World.ownsRow_nil _ _ _ _, hB2⟩
  have hs : l.length ≤ 2048 := by omega
  cases b with
  | false =>
    have HR := Lib.hid (show R = ([], 4) by rw [HR0.out, if_neg (by omega), if_neg (fun h => by rw [← HB.out] at h; cases h.1)])
    go_wp2_with fail
    go_ret2
    exact ⟨.slice none 0 0, by rw [HR.out]; rfl, by rw [HR.out]; exact World.ownsRow_nil _ _ _ _, hB2⟩
  | true =>
    cases gr with
    | false =>
      have HR := Lib.hid (show R = ([], 4) by rw [HR0.out, if_neg (by omega), if_neg (fun h => by cases h.2)])
      go_wp2_with fail
      go_ret2
      exact ⟨.slice none 0 0, by rw [HR.out]; rfl, by rw [HR.out]; exact World.ownsRow_nil _ _ _ _, hB2⟩
    | true =>
      have HR := Lib.hid (show R = (J ++ [pr] ++ l, 0) by rw [HR0.out, if_neg (by omega), if_pos ⟨HB.out.symm, rfl⟩, HJ.out HB.out.symm])
      have hO2b := hO2.alloc (.cells #[.int .u8 pr] 5)
      have hne := own_blk_ne ho2 hO2 (by decide)
      have hV2 := HV.out.below hB2
      have hBs := hB2.size
      go_wp2_with fail
      go_region_held3 (fun w' => w'.cell? ⟨w.heap.size, 2, none⟩ = some (.int .u8 pr) ∧ w'.cell? ⟨w.heap.size, 4, none⟩ = some (.slice Ad l.length cd)) (first | go_keep | exact ⟨e2, e4⟩ | exact ⟨p2, p4⟩)
        (first
          | (refine step_append_any _ (by rfl) _ _ 27 (by rfl) w.heap.size 5 i0 _ 1 1 Try.underlying27 hi0 hz0 hz1 hz2 (by rfl) (by decide) (.slice (some ⟨g4, 0, none⟩) (J.length + 1) k4) (J.length + 1) (J.map (Value.int .u8) ++ [.int .u8 pr]) (by rfl) (by exact hown4) Ad l.length cd (l.map (Value.int .u8)) (by rfl) (by exact hr4.out.2.2.2.2) (oneInts _ _) (by unfold maxLen; omega) (by omega) (by exact hB4.size) (by exact hr4.out.2.1) ?_; intro v9 w9 hown9 hgrow9 hat9; have hO9 : Blk w9 w.heap.size 29 #[.int .u64 G, .int .u64 O, .int .u8 pr, .bool true, (.slice Ad l.length cd)] := (by refine Blk.grown ?_ hgrow9 (Ne.symm (own_blk_ne hown4 hO4 (by decide))); exact hO4); have p2 : w9.cell? ⟨w.heap.size, 2, none⟩ = some (.int .u8 pr) := hO9.cell 2; have p4 : w9.cell? ⟨w.heap.size, 4, none⟩ = some (.slice Ad l.length cd) := hO9.cell 4; have hB9 : Below w.heap.size w w9 := (by refine Below.grown ?_ hgrow9 hB4.size (fun b hb => (hown4.lt b hb).1); exact hB4))
          | (refine step_append_lies _ (by rfl) _ _ 27 (by rfl) w.heap.size 5 i0 _ 1 1 Try.underlying27 hi0 hz0 hz1 hz2 (by rfl) (by decide) v1 J.length (J.map (Value.int .u8)) (by rfl) (by exact ho2.alloc _) ⟨w1.heap.size, 0, none⟩ 1 1 [.int .u8 pr] (by rfl) (by rfl) (World.news_of_block (cs := #[.int .u8 pr]) (t := 5) (fr := (0, 0)) (heap_alloc_new w1 _)) (by simp [Value.oneCell']) (by decide) (by unfold maxLen; omega) (by omega) (by simp; omega) (w1.heap.size + 1) (by simp) ?_; intro g4 k4 w4 hown4 hgrow4 hat4 hlt4; have hO4 : Blk w4 w.heap.size 29 #[.int .u64 G, .int .u64 O, .int .u8 pr, .bool true, (.slice Ad l.length cd)] := (by refine Blk.grown ?_ hgrow4 (Ne.symm hne); exact hO2b); have e2 : w4.cell? ⟨w.heap.size, 2, none⟩ = some (.int .u8 pr) := hO4.cell 2; have e4 : w4.cell? ⟨w.heap.size, 4, none⟩ = some (.slice Ad l.length cd) := hO4.cell 4; have hB4 : Below w.heap.size w w4 := (by refine Below.grown ?_ hgrow4 (by simp; omega) (fun b hb => (ho2.lt b hb).1); exact below_drewN (hB2.alloc hBs _) 1); have hr4 := Lib.hid (HV.out.below hB4).rdv))
      all_goals go_wp2_with fail
      all_goals go_ret2
      all_goals exact ⟨v9, by rw [HR.out]; rfl, by rw [HR.out]; simpa only [List.length_append, List.map_append, List.length_cons, List.length_nil, List.map_cons, List.map_nil] using hown9, hB9⟩

set_option maxHeartbeats 1000000 in
set_option maxRecDepth 100000 in
theorem rgram (al G O pr : Int) (gr : Bool) (V : Value) (l : List Int) (R : List Int × Int) (w : World) (hv : Rd w .u8 V l) (hl : l.length ≤ 1000000) (hal : 0 ≤ al ∧ al ≤ 18446744073709551615) (ho : ObOk G O pr)  (hR : gramR al G O pr gr l = R) :
    Calls Try.prog 16 #[.int .u64 al, .agg #[.int .u64 G, .int .u64 O, .int .u8 pr, .bool gr, V]] w fun e w' => ∃ v, e = .returned (.tuple #[v, .int .i64 R.2]) ∧ w'.ownsRow w.heap.size 5 1 v R.1.length (R.1.map (Value.int .u8)) ∧ Below w.heap.size w w' := by
  obtain ⟨i0, hi0, hz0, hz1, hz2⟩ := info_parts infoB
  obtain ⟨hoG, hoO, hoP⟩ := ho
  obtain ⟨Ad, cd, rfl⟩ := hv.form
  have hcd := hv.rdv.2.2
  have hcd2 : l.length ≤ cd ∧ cd ≤ 9223372036854775807 := by unfold maxLen at hcd; omega
  have HV := Lib.hid hv
  clear hv hcd
  have hR2 := hR.symm
  unfold gramR at hR2
  have HR0 := Lib.hid hR2
  clear hR hR2
  have hO := Blk.new w 29 #[.int .u64 G, .int .u64 O, .int .u8 pr, .bool gr, (.slice Ad l.length cd)]
  have hB0 := (Below.refl w.heap.size w).alloc (Nat.le_refl _) (.cells #[.int .u64 G, .int .u64 O, .int .u8 pr, .bool gr, (.slice Ad l.length cd)] 29)
  have hL := show Rd ((w.alloc (.cells #[.int .u64 G, .int .u64 O, .int .u8 pr, .bool gr, (.slice Ad l.length cd)] 29)).alloc (.cells #[.int .u64 1, .int .u64 al, .int .u64 G, .int .u64 O] 22)) .u64 (.slice (some ⟨w.heap.size + 1, 0, none⟩) 4 4) [1, al, G, O] from rd_lit_at (by simp) [1, al, G, O] (by simp)
  have hB1 := hB0.alloc hB0.size (.cells #[.int .u64 1, .int .u64 al, .int .u64 G, .int .u64 O] 22)
  have hO1 := hO.alloc (.cells #[.int .u64 1, .int .u64 al, .int .u64 G, .int .u64 O] 22)
  go_enter Try.func16, Try.ntmps16
  by_cases hlong : 2048 < l.length
  · have HR := Lib.hid (show R = ([], 3) by rw [HR0.out, if_pos hlong])
    go_wp2_with fail
    go_ret2
    exact ⟨.slice none 0 0, by rw [HR.out]; rfl, by rw [HR.out]; exact World.ownsRow_nil _ _ _ _, hB0⟩
  go_wp2_with fail
  refine (nums_any _ [1, al, G, O] _ hL (by simp) (by intro x hx; simp at hx; omega)).mono ?_
  rintro e w1 ⟨v1, rfl, ho, hb1⟩
  have hO2 := hO1.same hb1
  have hB2 := hB1.trans (hb1.mono hB1.size)
  have ho2 := own_base ho hB1.size
  clear hL hO hO1 hB1 hB0 ho hb1
  have c0 : w1.cell? ⟨w.heap.size, 0, none⟩ = some (.int .u64 G) := hO2.cell 0
  have c1 : w1.cell? ⟨w.heap.size, 1, none⟩ = some (.int .u64 O) := hO2.cell 1
  have c2 : w1.cell? ⟨w.heap.size, 2, none⟩ = some (.int .u8 pr) := hO2.cell 2
  have c3 : w1.cell? ⟨w.heap.size, 3, none⟩ = some (.bool gr) := hO2.cell 3
  have c4 : w1.cell? ⟨w.heap.size, 4, none⟩ = some (.slice Ad l.length cd) := hO2.cell 4
  have hjl := jn_len [1, al, G, O]
  have hjf : fitB [1, al, G, O] = true → jn [1, al, G, O] = joinN [1, al, G, O] := fun h => by unfold jn; rw [if_pos h]
  obtain ⟨J, hJ⟩ : ∃ J, J = jn [1, al, G, O] := ⟨_, rfl⟩
  rw [← hJ] at ho2 hjl hjf
  clear hJ
  simp only [List.length_cons, List.length_nil] at hjl
  have HJ := Lib.hid hjf
  clear hjf
  obtain ⟨b, hb⟩ : ∃ b, b = fitB [1, al, G, O] := ⟨_, rfl⟩
  rw [← hb]
  have HB := Lib.hid hb
  clear hb
  have hs : l.length ≤ 2048 := by omega
  cases b with
  | false =>
    have HR := Lib.hid (show R = ([], 4) by rw [HR0.out, if_neg (by omega), if_neg (fun h => by rw [← HB.out] at h; cases h.1)])
    go_wp2_with fail
    go_ret2
    exact ⟨.slice none 0 0, by rw [HR.out]; rfl, by rw [HR.out]; exact World.ownsRow_nil _ _ _ _, hB2⟩
  | true =>
    cases gr with
    | false =>
      have HR := Lib.hid (show R = ([], 4) by rw [HR0.out, if_neg (by omega), if_neg (fun h => by cases h.2)])
      go_wp2_with fail
      go_ret2
      exact ⟨.slice none 0 0, by rw [HR.out]; rfl, by rw [HR.out]; exact World.ownsRow_nil _ _ _ _, hB2⟩
    | true =>
      have HR := Lib.hid (show R = (J ++ [pr] ++ l, 0) by rw [HR0.out, if_neg (by omega), if_pos ⟨HB.out.symm, rfl⟩, HJ.out HB.out.symm])
      have hO2b := hO2.alloc (.cells #[.int .u8 pr] 5)
      have hne := own_blk_ne ho2 hO2 (by decide)
      have hV2 := HV.out.below hB2
      have hBs := hB2.size
      go_wp2_with fail
      go_region_held3 (fun w' => w'.cell? ⟨w.heap.size, 2, none⟩ = some (.int .u8 pr) ∧ w'.cell? ⟨w.heap.size, 4, none⟩ = some (.slice Ad l.length cd)) (first | go_keep | exact ⟨e2, e4⟩ | exact ⟨p2, p4⟩)
        (first
          | (refine step_append_any _ (by rfl) _ _ 27 (by rfl) w.heap.size 5 i0 _ 1 1 Try.underlying27 hi0 hz0 hz1 hz2 (by rfl) (by decide) (.slice (some ⟨g4, 0, none⟩) (J.length + 1) k4) (J.length + 1) (J.map (Value.int .u8) ++ [.int .u8 pr]) (by rfl) (by exact hown4) Ad l.length cd (l.map (Value.int .u8)) (by rfl) (by exact hr4.out.2.2.2.2) (oneInts _ _) (by unfold maxLen; omega) (by omega) (by exact hB4.size) (by exact hr4.out.2.1) ?_; intro v9 w9 hown9 hgrow9 hat9; have hO9 : Blk w9 w.heap.size 29 #[.int .u64 G, .int .u64 O, .int .u8 pr, .bool true, (.slice Ad l.length cd)] := (by refine Blk.grown ?_ hgrow9 (Ne.symm (own_blk_ne hown4 hO4 (by decide))); exact hO4); have p2 : w9.cell? ⟨w.heap.size, 2, none⟩ = some (.int .u8 pr) := hO9.cell 2; have p4 : w9.cell? ⟨w.heap.size, 4, none⟩ = some (.slice Ad l.length cd) := hO9.cell 4; have hB9 : Below w.heap.size w w9 := (by refine Below.grown ?_ hgrow9 hB4.size (fun b hb => (hown4.lt b hb).1); exact hB4))
          | (refine step_append_lies _ (by rfl) _ _ 27 (by rfl) w.heap.size 5 i0 _ 1 1 Try.underlying27 hi0 hz0 hz1 hz2 (by rfl) (by decide) v1 J.length (J.map (Value.int .u8)) (by rfl) (by exact ho2.alloc _) ⟨w1.heap.size, 0, none⟩ 1 1 [.int .u8 pr] (by rfl) (by rfl) (World.news_of_block (cs := #[.int .u8 pr]) (t := 5) (fr := (0, 0)) (heap_alloc_new w1 _)) (by simp [Value.oneCell']) (by decide) (by unfold maxLen; omega) (by omega) (by simp; omega) (w1.heap.size + 1) (by simp) ?_; intro g4 k4 w4 hown4 hgrow4 hat4 hlt4; have hO4 : Blk w4 w.heap.size 29 #[.int .u64 G, .int .u64 O, .int .u8 pr, .bool true, (.slice Ad l.length cd)] := (by refine Blk.grown ?_ hgrow4 (Ne.symm hne); exact hO2b); have e2 : w4.cell? ⟨w.heap.size, 2, none⟩ = some (.int .u8 pr) := hO4.cell 2; have e4 : w4.cell? ⟨w.heap.size, 4, none⟩ = some (.slice Ad l.length cd) := hO4.cell 4; have hB4 : Below w.heap.size w w4 := (by refine Below.grown ?_ hgrow4 (by simp; omega) (fun b hb => (ho2.lt b hb).1); exact below_drewN (hB2.alloc hBs _) 1); have hr4 := Lib.hid (HV.out.below hB4).rdv))
      all_goals go_wp2_with fail
      all_goals go_ret2
      all_goals exact ⟨v9, by rw [HR.out]; rfl, by rw [HR.out]; simpa only [List.length_append, List.map_append, List.length_cons, List.length_nil, List.map_cons, List.map_nil] using hown9, hB9⟩

end Go.Proofs.Ythmdbkefbbjfmaa
