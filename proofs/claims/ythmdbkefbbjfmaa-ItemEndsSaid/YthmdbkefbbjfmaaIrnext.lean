/-
  An object as bytes: what Next of the reference does.
-/
import Derived.Test.YthmdbkefbbjfmaaInext
namespace Go.Proofs.Ythmdbkefbbjfmaa
open Go.RowKit
set_option linter.unusedVariables false
set_option linter.unusedSimpArgs false


theorem fit2 (G O : Int) : fitB [G, O] = (decide (G ≤ 4611686018427387903) && fitB [O]) := by
  have e : decide (vsz G ≠ 0) = decide (G ≤ 4611686018427387903) := decide_eq_decide.2 ⟨fun h => vsz_lim h, fun h => vsz_some h⟩
  show (decide (vsz G ≠ 0) && fitB [O]) = _
  rw [e]
theorem own_apart {w w' : World} {b1 : Nat} {e1 e2 : TypeId} {s1 s2 n1 n2 : Nat} {v1 v2 : Value} {x1 x2 : List Value} (h1 : w.ownsRow b1 e1 s1 v1 n1 x1) (h2 : w'.ownsRow w.heap.size e2 s2 v2 n2 x2) : v1.ownBlock = none ∨ v2.ownBlock ≠ v1.ownBlock := by
  rcases hb : v1.ownBlock with _ | b
  · exact .inl rfl
  · refine .inr fun he => ?_
    have l1 := (h1.lt b hb).2
    have l2 := (h2.lt b he).1
    omega

set_option maxHeartbeats 1000000 in
set_option maxRecDepth 100000 in
theorem rnext_f (id hg hp G O pr : Int) (gr : Bool) (V : Value) (l : List Int) (R : List Int × Int) (w : World) (hv : Rd w .u8 V l) (hl : l.length ≤ 1000000) (ho : ObOk G O pr) (hs : l.length ≤ 2048) (hR : nextR false hg hp G O pr gr l = R) :
    Calls Try.prog 14 #[.agg #[.bool false, .int .u64 id, .int .u64 hg, .int .u8 hp], .agg #[.int .u64 G, .int .u64 O, .int .u8 pr, .bool gr, V]] w fun e w' => ∃ v, e = .returned (.tuple #[v, .int .i64 R.2]) ∧ w'.ownsRow w.heap.size 5 1 v R.1.length (R.1.map (Value.int .u8)) ∧ Below w.heap.size w w' := by
  obtain ⟨i0, hi0, hz0, hz1, hz2⟩ := info_parts infoB
  obtain ⟨hoG, hoO, hoP⟩ := ho
  obtain ⟨Ad, cd, rfl⟩ := hv.form
  have hcd := hv.rdv.2.2
  have hcd2 : l.length ≤ cd ∧ cd ≤ 9223372036854775807 := by unfold maxLen at hcd; omega
  have HV := Lib.hid hv
  clear hv hcd
  have hR2 := hR.symm
  unfold nextR at hR2
  rw [if_neg (by omega), if_neg (by simp)] at hR2
  have HR0 := Lib.hid hR2
  clear hR hR2
  have hH := (Blk.new w 24 #[.bool false, .int .u64 id, .int .u64 hg, .int .u8 hp]).alloc (.cells #[.int .u64 G, .int .u64 O, .int .u8 pr, .bool gr, (.slice Ad l.length cd)] 29)
  have hO := Blk.new (w.alloc (.cells #[.bool false, .int .u64 id, .int .u64 hg, .int .u8 hp] 24)) 29 #[.int .u64 G, .int .u64 O, .int .u8 pr, .bool gr, (.slice Ad l.length cd)]
  rw [World.size_alloc] at hO
  have hB0 := ((Below.refl w.heap.size w).alloc (Nat.le_refl _) (.cells #[.bool false, .int .u64 id, .int .u64 hg, .int .u8 hp] 24)).alloc (by simp) (.cells #[.int .u64 G, .int .u64 O, .int .u8 pr, .bool gr, (.slice Ad l.length cd)] 29)
  skip
  go_enter Try.func14, Try.ntmps14
  have hL := show Rd ((((w.alloc (.cells #[.bool false, .int .u64 id, .int .u64 hg, .int .u8 hp] 24)).alloc (.cells #[.int .u64 G, .int .u64 O, .int .u8 pr, .bool gr, (.slice Ad l.length cd)] 29))).alloc (.cells #[.int .u64 G, .int .u64 O] 22)) .u64 (.slice (some ⟨w.heap.size + 2, 0, none⟩) 2 2) [G, O] from rd_lit_at (by simp) [G, O] (by simp)
  have hB1 := hB0.alloc hB0.size (.cells #[.int .u64 G, .int .u64 O] 22)
  have hH1 := hH.alloc (.cells #[.int .u64 G, .int .u64 O] 22)
  have hO1 := hO.alloc (.cells #[.int .u64 G, .int .u64 O] 22)
  go_wp2_with fail
  refine (nums_any _ [G, O] _ hL (by simp) (by intro x hx; simp at hx; omega)).mono ?_
  rintro e w1 ⟨v1, rfl, ho, hb1⟩
  have hH2 := hH1.same hb1
  have hO2 := hO1.same hb1
  have hB2 := hB1.trans (hb1.mono hB1.size)
  have ho2 := own_base ho hB1.size
  clear hL hH hO hH1 hO1 hB1 hB0 ho hb1
  have c0 : w1.cell? ⟨w.heap.size + 1, 0, none⟩ = some (.int .u64 G) := hO2.cell 0
  have c1 : w1.cell? ⟨w.heap.size + 1, 1, none⟩ = some (.int .u64 O) := hO2.cell 1
  have c2 : w1.cell? ⟨w.heap.size + 1, 2, none⟩ = some (.int .u8 pr) := hO2.cell 2
  have c3 : w1.cell? ⟨w.heap.size + 1, 3, none⟩ = some (.bool gr) := hO2.cell 3
  have c4 : w1.cell? ⟨w.heap.size + 1, 4, none⟩ = some (.slice Ad l.length cd) := hO2.cell 4
  have d0 : w1.cell? ⟨w.heap.size, 0, none⟩ = some (.bool false) := hH2.cell 0
  have d1 : w1.cell? ⟨w.heap.size, 1, none⟩ = some (.int .u64 id) := hH2.cell 1
  have d2 : w1.cell? ⟨w.heap.size, 2, none⟩ = some (.int .u64 hg) := hH2.cell 2
  have d3 : w1.cell? ⟨w.heap.size, 3, none⟩ = some (.int .u8 hp) := hH2.cell 3
  have h2 := fit2 G O
  obtain ⟨b, hb⟩ : ∃ b, b = fitB [G, O] := ⟨_, rfl⟩
  rw [← hb] at h2 ⊢
  clear hb
  cases b with
  | false =>
    have HR := Lib.hid (show R = ([], 4) by rw [HR0.out, if_neg (fun h => by rw [h.2.1, decide_eq_true h.2.2.2.2] at h2; cases h2)])
    clear h2
    go_wp2_with fail
    go_ret2
    exact ⟨.slice none 0 0, by rw [HR.out]; rfl, by rw [HR.out]; exact World.ownsRow_nil _ _ _ _, hB2⟩
  | true =>
    have h3 : G ≤ 4611686018427387903 ∧ fitB [O] = true := by simpa using h2.symm
    obtain ⟨h3, h4⟩ := h3
    have H4 := Lib.hid h4
    clear h2 h4
    cases gr with
    | true =>
      have HR := Lib.hid (show R = ([], 4) by rw [HR0.out, if_neg (fun h => by cases h.1)])
      go_wp2_with fail
      go_ret2
      exact ⟨.slice none 0 0, by rw [HR.out]; rfl, by rw [HR.out]; exact World.ownsRow_nil _ _ _ _, hB2⟩
    | false =>
      by_cases h1 : G = hg
      · have h1' : (G != hg) = false := by simpa using h1
        by_cases h2 : pr = hp
        · have h2' : (pr != hp) = false := by simpa using h2
          have HR1 := Lib.hid (show R = (joinN [O] ++ txtB l, 0) by rw [HR0.out, if_pos ⟨rfl, H4.out, h1, h2, h3⟩])
          clear h1 h2 h3
          have hL2 := show Rd (w1.alloc (.cells #[.int .u64 O] 22)) .u64 (.slice (some ⟨w1.heap.size, 0, none⟩) 1 1) [O] from rd_lit_at rfl [O] (by simp)
          have hB3 := hB2.alloc hB2.size (.cells #[.int .u64 O] 22)
          have hO3 := hO2.alloc (.cells #[.int .u64 O] 22)
          go_wp2_with fail
          refine (nums_any _ [O] _ hL2 (by simp) (by intro x hx; simp at hx; omega)).mono ?_
          rintro e w2 ⟨v2, rfl, ho, hb1⟩
          have hO4 := hO3.same hb1
          have hB4 := hB3.trans (hb1.mono hB3.size)
          have ho4 := own_base ho hB3.size
          clear hL2 hO3 hB3 ho hb1 hO2 hB2 ho2 c0 c1 c2 c3 c4
          have hjl := jn_len [O]
          have hjf : fitB [O] = true → jn [O] = joinN [O] := fun h => by unfold jn; rw [if_pos h]
          obtain ⟨J, hJ⟩ : ∃ J, J = jn [O] := ⟨_, rfl⟩
          rw [← hJ] at ho4 hjl hjf
          clear hJ
          simp only [List.length_cons, List.length_nil] at hjl
          have HJ := Lib.hid hjf
          clear hjf
          have c0 : w2.cell? ⟨w.heap.size + 1, 0, none⟩ = some (.int .u64 G) := hO4.cell 0
          have c1 : w2.cell? ⟨w.heap.size + 1, 1, none⟩ = some (.int .u64 O) := hO4.cell 1
          have c2 : w2.cell? ⟨w.heap.size + 1, 2, none⟩ = some (.int .u8 pr) := hO4.cell 2
          have c3 : w2.cell? ⟨w.heap.size + 1, 3, none⟩ = some (.bool false) := hO4.cell 3
          have c4 : w2.cell? ⟨w.heap.size + 1, 4, none⟩ = some (.slice Ad l.length cd) := hO4.cell 4
          have HR := Lib.hid (show R = (J ++ txtB l, 0) by rw [HR1.out, HJ.out H4.out])
          rw [H4.out]
          go_wp2_with fail
          refine (rtxt_any _ l _ (HV.out.below hB4) hl).mono ?_
          rintro e w5 ⟨v5, rfl, ho5, hb5⟩
          have hop5 := own_same ho4 hb5
          have hB5 := hB4.trans (hb5.mono hB4.size)
          have htl := txtB_len l hl
          obtain ⟨T, hT⟩ : ∃ T, T = txtB l := ⟨_, rfl⟩
          rw [← hT] at ho5 htl HR
          clear hT
          have r5 := rd_of_own ho5
          obtain ⟨A5, k5, rfl⟩ := r5.form
          have H5 := Lib.hid r5.rdv
          clear r5 ho5 hb5 ho4
          go_wp2_with (at_builtin; refine wpList_append_any _ rfl _ _ 27 rfl w.heap.size 5 i0 _ 1 1 Try.underlying27 hi0 hz0 hz1 hz2 rfl (by decide) (v2) J.length _ rfl hop5 A5 T.length _ _ rfl H5.out.2.2.2.2 (oneInts _ _) (by unfold maxLen; omega) (by omega) hB5.size H5.out.2.1 ?_; intro v9 w9 hown9 hgrow9 hat9)
          go_ret2
          exact ⟨v9, by rw [HR.out]; rfl, by rw [HR.out]; simpa only [List.length_append, List.map_append, List.length_cons, List.length_nil, List.map_cons, List.map_nil] using hown9, hB5.grown hgrow9 hB5.size (fun b hb => (hop5.lt b hb).1)⟩
        · have h2' : (pr != hp) = true := by simpa using h2
          have HR := Lib.hid (show R = ([], 4) by rw [HR0.out, if_neg (fun h => h2 h.2.2.2.1)])
          clear h1 h2
          go_wp2_with fail
          go_ret2
          exact ⟨.slice none 0 0, by rw [HR.out]; rfl, by rw [HR.out]; exact World.ownsRow_nil _ _ _ _, hB2⟩
      · have h1' : (G != hg) = true := by simpa using h1
        have HR := Lib.hid (show R = ([], 4) by rw [HR0.out, if_neg (fun h => h1 h.2.2.1)])
        clear h1
        go_wp2_with fail
        go_ret2
        exact ⟨.slice none 0 0, by rw [HR.out]; rfl, by rw [HR.out]; exact World.ownsRow_nil _ _ _ _, hB2⟩

set_option maxHeartbeats 1000000 in
set_option maxRecDepth 100000 in
theorem rnext_t (id hg hp G O pr : Int) (gr : Bool) (V : Value) (l : List Int) (R : List Int × Int) (w : World) (hv : Rd w .u8 V l) (hl : l.length ≤ 1000000) (ho : ObOk G O pr) (hs : l.length ≤ 2048) (hR : nextR true hg hp G O pr gr l = R) :
    Calls Try.prog 14 #[.agg #[.bool true, .int .u64 id, .int .u64 hg, .int .u8 hp], .agg #[.int .u64 G, .int .u64 O, .int .u8 pr, .bool gr, V]] w fun e w' => ∃ v, e = .returned (.tuple #[v, .int .i64 R.2]) ∧ w'.ownsRow w.heap.size 5 1 v R.1.length (R.1.map (Value.int .u8)) ∧ Below w.heap.size w w' := by
  obtain ⟨i0, hi0, hz0, hz1, hz2⟩ := info_parts infoB
  obtain ⟨hoG, hoO, hoP⟩ := ho
  obtain ⟨Ad, cd, rfl⟩ := hv.form
  have hcd := hv.rdv.2.2
  have hcd2 : l.length ≤ cd ∧ cd ≤ 9223372036854775807 := by unfold maxLen at hcd; omega
  have HV := Lib.hid hv
  clear hv hcd
  have hR2 := hR.symm
  unfold nextR at hR2
  rw [if_neg (by omega), if_pos rfl] at hR2
  have HR0 := Lib.hid hR2
  clear hR hR2
  have hH := (Blk.new w 24 #[.bool true, .int .u64 id, .int .u64 hg, .int .u8 hp]).alloc (.cells #[.int .u64 G, .int .u64 O, .int .u8 pr, .bool gr, (.slice Ad l.length cd)] 29)
  have hO := Blk.new (w.alloc (.cells #[.bool true, .int .u64 id, .int .u64 hg, .int .u8 hp] 24)) 29 #[.int .u64 G, .int .u64 O, .int .u8 pr, .bool gr, (.slice Ad l.length cd)]
  rw [World.size_alloc] at hO
  have hB0 := ((Below.refl w.heap.size w).alloc (Nat.le_refl _) (.cells #[.bool true, .int .u64 id, .int .u64 hg, .int .u8 hp] 24)).alloc (by simp) (.cells #[.int .u64 G, .int .u64 O, .int .u8 pr, .bool gr, (.slice Ad l.length cd)] 29)
  skip
  go_enter Try.func14, Try.ntmps14
  have hL := show Rd ((((w.alloc (.cells #[.bool true, .int .u64 id, .int .u64 hg, .int .u8 hp] 24)).alloc (.cells #[.int .u64 G, .int .u64 O, .int .u8 pr, .bool gr, (.slice Ad l.length cd)] 29))).alloc (.cells #[.int .u64 G, .int .u64 O] 22)) .u64 (.slice (some ⟨w.heap.size + 2, 0, none⟩) 2 2) [G, O] from rd_lit_at (by simp) [G, O] (by simp)
  have hB1 := hB0.alloc hB0.size (.cells #[.int .u64 G, .int .u64 O] 22)
  have hH1 := hH.alloc (.cells #[.int .u64 G, .int .u64 O] 22)
  have hO1 := hO.alloc (.cells #[.int .u64 G, .int .u64 O] 22)
  go_wp2_with fail
  refine (nums_any _ [G, O] _ hL (by simp) (by intro x hx; simp at hx; omega)).mono ?_
  rintro e w1 ⟨v1, rfl, ho, hb1⟩
  have hH2 := hH1.same hb1
  have hO2 := hO1.same hb1
  have hB2 := hB1.trans (hb1.mono hB1.size)
  have ho2 := own_base ho hB1.size
  clear hL hH hO hH1 hO1 hB1 hB0 ho hb1
  have c0 : w1.cell? ⟨w.heap.size + 1, 0, none⟩ = some (.int .u64 G) := hO2.cell 0
  have c1 : w1.cell? ⟨w.heap.size + 1, 1, none⟩ = some (.int .u64 O) := hO2.cell 1
  have c2 : w1.cell? ⟨w.heap.size + 1, 2, none⟩ = some (.int .u8 pr) := hO2.cell 2
  have c3 : w1.cell? ⟨w.heap.size + 1, 3, none⟩ = some (.bool gr) := hO2.cell 3
  have c4 : w1.cell? ⟨w.heap.size + 1, 4, none⟩ = some (.slice Ad l.length cd) := hO2.cell 4
  have d0 : w1.cell? ⟨w.heap.size, 0, none⟩ = some (.bool true) := hH2.cell 0
  have d1 : w1.cell? ⟨w.heap.size, 1, none⟩ = some (.int .u64 id) := hH2.cell 1
  have d2 : w1.cell? ⟨w.heap.size, 2, none⟩ = some (.int .u64 hg) := hH2.cell 2
  have d3 : w1.cell? ⟨w.heap.size, 3, none⟩ = some (.int .u8 hp) := hH2.cell 3
  obtain ⟨b, hb⟩ : ∃ b, b = fitB [G, O] := ⟨_, rfl⟩
  rw [← hb]
  have HB := Lib.hid hb
  clear hb
  cases b with
  | false =>
    have HR := Lib.hid (show R = ([], 4) by rw [HR0.out, if_neg (fun h => by rw [← HB.out] at h; cases h.2)])
    go_wp2_with fail
    go_ret2
    exact ⟨.slice none 0 0, by rw [HR.out]; rfl, by rw [HR.out]; exact World.ownsRow_nil _ _ _ _, hB2⟩
  | true =>
    cases gr with
    | true =>
      have HR := Lib.hid (show R = ([], 4) by rw [HR0.out, if_neg (fun h => by cases h.1)])
      go_wp2_with fail
      go_ret2
      exact ⟨.slice none 0 0, by rw [HR.out]; rfl, by rw [HR.out]; exact World.ownsRow_nil _ _ _ _, hB2⟩
    | false =>
      have HR1 := Lib.hid (show R = (joinN [G, O] ++ [pr] ++ txtB l, 0) by rw [HR0.out, if_pos ⟨rfl, HB.out.symm⟩])
      have hL2 := show Rd (w1.alloc (.cells #[.int .u64 G, .int .u64 O] 22)) .u64 (.slice (some ⟨w1.heap.size, 0, none⟩) 2 2) [G, O] from rd_lit_at rfl [G, O] (by simp)
      have hB3 := hB2.alloc hB2.size (.cells #[.int .u64 G, .int .u64 O] 22)
      have hO3 := hO2.alloc (.cells #[.int .u64 G, .int .u64 O] 22)
      go_wp2_with fail
      refine (nums_any _ [G, O] _ hL2 (by simp) (by intro x hx; simp at hx; omega)).mono ?_
      rintro e w2 ⟨v2, rfl, ho, hb1⟩
      have hO4 := hO3.same hb1
      have hB4 := hB3.trans (hb1.mono hB3.size)
      have ho4 := own_base ho hB3.size
      clear hL2 hO3 hB3 ho hb1 hO2 hB2 ho2 c0 c1 c2 c3 c4
      have hjl := jn_len [G, O]
      have hjf : fitB [G, O] = true → jn [G, O] = joinN [G, O] := fun h => by unfold jn; rw [if_pos h]
      obtain ⟨J, hJ⟩ : ∃ J, J = jn [G, O] := ⟨_, rfl⟩
      rw [← hJ] at ho4 hjl hjf
      clear hJ
      simp only [List.length_cons, List.length_nil] at hjl
      have HJ := Lib.hid hjf
      clear hjf
      have c0 : w2.cell? ⟨w.heap.size + 1, 0, none⟩ = some (.int .u64 G) := hO4.cell 0
      have c1 : w2.cell? ⟨w.heap.size + 1, 1, none⟩ = some (.int .u64 O) := hO4.cell 1
      have c2 : w2.cell? ⟨w.heap.size + 1, 2, none⟩ = some (.int .u8 pr) := hO4.cell 2
      have c3 : w2.cell? ⟨w.heap.size + 1, 3, none⟩ = some (.bool false) := hO4.cell 3
      have c4 : w2.cell? ⟨w.heap.size + 1, 4, none⟩ = some (.slice Ad l.length cd) := hO4.cell 4
      have HR := Lib.hid (show R = (J ++ [pr] ++ txtB l, 0) by rw [HR1.out, HJ.out HB.out.symm])
      rw [← HB.out]
      have hV2 := HV.out.below hB4
      have hne := own_blk_ne ho4 hO4 (by decide)
      have hBs := hB4.size
      have htl := txtB_len l hl
      have hrtx := rtxt_any
      obtain ⟨T, hT⟩ : ∃ T, T = txtB l := ⟨_, rfl⟩
      rw [← hT] at htl HR
      have rtxt_any : ∀ (v : Value) (l' : List Int) (W : World), Rd W .u8 v l' → l'.length ≤ 1000000 → l' = l → Calls Try.prog 31 #[v] W fun e w' => ∃ v', e = .returned v' ∧ w'.ownsRow W.heap.size 5 1 v' T.length (T.map (Value.int .u8)) ∧ Below W.heap.size W w' := fun v l' W h1 h2 h3 => by subst h3; rw [hT]; exact hrtx v l' W h1 h2
      clear hrtx hT
      go_wp2_with fail
      go_region_held3 (fun w' => w'.cell? ⟨w.heap.size + 1, 2, none⟩ = some (.int .u8 pr) ∧ w'.cell? ⟨w.heap.size + 1, 4, none⟩ = some (.slice Ad l.length cd)) (first | go_keep | exact ⟨e2, e4⟩ | exact ⟨t2, t4⟩ | exact ⟨p2, p4⟩)
        (first
          | (go_at_call 31; (refine (rtxt_any (.slice Ad l.length cd) l _ (by exact hV5) hl rfl).mono ?_); rintro e wT ⟨vT, rfl, hoT, hbT⟩; have hOT : Blk wT (w.heap.size + 1) 29 #[.int .u64 G, .int .u64 O, .int .u8 pr, .bool false, (.slice Ad l.length cd)] := (by refine Blk.same ?_ hbT; exact hO5); have t2 : wT.cell? ⟨w.heap.size + 1, 2, none⟩ = some (.int .u8 pr) := hOT.cell 2; have t4 : wT.cell? ⟨w.heap.size + 1, 4, none⟩ = some (.slice Ad l.length cd) := hOT.cell 4; have hBT : Below w.heap.size w wT := (by refine Below.trans ?_ (hbT.mono ?_); exact hB5; exact (hB5).size); have hJT : wT.ownsRow w.heap.size 5 1 (.slice (some ⟨g5, 0, none⟩) (J.length + 1) k5) (J.length + 1) (J.map (Value.int .u8) ++ [.int .u8 pr]) := (by refine own_same ?_ hbT; exact hown5); have hsT := hbT.size; obtain ⟨AT, kT, rfl⟩ := (rd_of_own hoT).form)
          | (go_at_call 31; (refine (rtxt_any (.slice Ad l.length cd) l _ (by exact hV2.alloc _) hl rfl).mono ?_); rintro e wT ⟨vT, rfl, hoT, hbT⟩; have hOT : Blk wT (w.heap.size + 1) 29 #[.int .u64 G, .int .u64 O, .int .u8 pr, .bool false, (.slice Ad l.length cd)] := (by refine Blk.same ?_ hbT; exact hO4.alloc _); have t2 : wT.cell? ⟨w.heap.size + 1, 2, none⟩ = some (.int .u8 pr) := hOT.cell 2; have t4 : wT.cell? ⟨w.heap.size + 1, 4, none⟩ = some (.slice Ad l.length cd) := hOT.cell 4; have hBT : Below w.heap.size w wT := (by refine Below.trans ?_ (hbT.mono ?_); exact below_drewN (hB4.alloc hB4.size (.cells #[.int .u8 pr] 5)) 1; exact (below_drewN (hB4.alloc hB4.size (.cells #[.int .u8 pr] 5)) 1).size); have hoJT : wT.ownsRow w.heap.size 5 1 v2 J.length (J.map (Value.int .u8)) := (by refine own_same ?_ hbT; exact ho4.alloc _); have hPT : Blk wT w2.heap.size 5 #[.int .u8 pr] := (by refine Blk.same ?_ hbT; exact Blk.new _ _ _); have hneT : v2.ownBlock = none ∨ vT.ownBlock ≠ v2.ownBlock := (by refine own_apart ?_ hoT; exact ho4.alloc _); have hsT := hbT.size; obtain ⟨AT, kT, rfl⟩ := (rd_of_own hoT).form)
          | (go_at_call 31; (refine (rtxt_any (.slice Ad l.length cd) l _ (by exact hV2) hl rfl).mono ?_); rintro e wT ⟨vT, rfl, hoT, hbT⟩; have hOT : Blk wT (w.heap.size + 1) 29 #[.int .u64 G, .int .u64 O, .int .u8 pr, .bool false, (.slice Ad l.length cd)] := (by refine Blk.same ?_ hbT; exact hO4); have t2 : wT.cell? ⟨w.heap.size + 1, 2, none⟩ = some (.int .u8 pr) := hOT.cell 2; have t4 : wT.cell? ⟨w.heap.size + 1, 4, none⟩ = some (.slice Ad l.length cd) := hOT.cell 4; have hBT : Below w.heap.size w wT := (by refine Below.trans ?_ (hbT.mono ?_); exact below_drewN hB4 1; exact (below_drewN hB4 1).size); have hoJT : wT.ownsRow w.heap.size 5 1 v2 J.length (J.map (Value.int .u8)) := (by refine own_same ?_ hbT; exact ho4); have hneT : v2.ownBlock = none ∨ vT.ownBlock ≠ v2.ownBlock := (by refine own_apart ?_ hoT; exact ho4); have hsT := hbT.size; obtain ⟨AT, kT, rfl⟩ := (rd_of_own hoT).form)
          | (refine step_append_any _ (by rfl) _ _ 27 (by rfl) w.heap.size 5 i0 _ 1 1 Try.underlying27 hi0 hz0 hz1 hz2 (by rfl) (by decide) (.slice (some ⟨g5, 0, none⟩) (J.length + 1) k5) (J.length + 1) (J.map (Value.int .u8) ++ [.int .u8 pr]) (by rfl) (by exact hJT) AT T.length kT (T.map (Value.int .u8)) (by rfl) (by exact (rd_of_own hoT).rdv.2.2.2.2) (oneInts _ _) (by unfold maxLen; omega) (by omega) (by exact hBT.size) (by exact (rd_of_own hoT).rdv.2.1) ?_; intro v9 w9 hown9 hgrow9 hat9; have hO9 : Blk w9 (w.heap.size + 1) 29 #[.int .u64 G, .int .u64 O, .int .u8 pr, .bool false, (.slice Ad l.length cd)] := (by refine Blk.grown ?_ hgrow9 (Ne.symm (own_blk_ne hJT hOT (by decide))); exact hOT); have p2 : w9.cell? ⟨w.heap.size + 1, 2, none⟩ = some (.int .u8 pr) := hO9.cell 2; have p4 : w9.cell? ⟨w.heap.size + 1, 4, none⟩ = some (.slice Ad l.length cd) := hO9.cell 4; have hB9 : Below w.heap.size w w9 := (by refine Below.grown ?_ hgrow9 hBT.size (fun b hb => (hJT.lt b hb).1); exact hBT))
          | (refine step_append_any _ (by rfl) _ _ 27 (by rfl) w.heap.size 5 i0 _ 1 1 Try.underlying27 hi0 hz0 hz1 hz2 (by rfl) (by decide) (.slice (some ⟨g5, 0, none⟩) (J.length + 1) k5) (J.length + 1) (J.map (Value.int .u8) ++ [.int .u8 pr]) (by rfl) (by exact hown5) AT T.length kT (T.map (Value.int .u8)) (by rfl) (by exact (rd_of_own hoT5).rdv.2.2.2.2) (oneInts _ _) (by unfold maxLen; omega) (by omega) (by exact hB5.size) (by exact (rd_of_own hoT5).rdv.2.1) ?_; intro v9 w9 hown9 hgrow9 hat9; have hO9 : Blk w9 (w.heap.size + 1) 29 #[.int .u64 G, .int .u64 O, .int .u8 pr, .bool false, (.slice Ad l.length cd)] := (by refine Blk.grown ?_ hgrow9 (Ne.symm (own_blk_ne hown5 hO5 (by decide))); exact hO5); have p2 : w9.cell? ⟨w.heap.size + 1, 2, none⟩ = some (.int .u8 pr) := hO9.cell 2; have p4 : w9.cell? ⟨w.heap.size + 1, 4, none⟩ = some (.slice Ad l.length cd) := hO9.cell 4; have hB9 : Below w.heap.size w w9 := (by refine Below.grown ?_ hgrow9 hB5.size (fun b hb => (hown5.lt b hb).1); exact hB5))
          | (refine step_append_lies _ (by rfl) _ _ 27 (by rfl) w.heap.size 5 i0 _ 1 1 Try.underlying27 hi0 hz0 hz1 hz2 (by rfl) (by decide) v2 J.length (J.map (Value.int .u8)) (by rfl) (by exact hoJT) ⟨w2.heap.size, 0, none⟩ 1 1 [.int .u8 pr] (by rfl) (by rfl) (World.news_of_block (cs := #[.int .u8 pr]) (t := 5) (fr := (0, 0)) hPT) (by simp [Value.oneCell']) (by decide) (by unfold maxLen; omega) (by omega) (by simp; omega) (wT.heap.size) (by simp) ?_; intro g5 k5 w5 hown5 hgrow5 hat5 hlt5; have hO5 : Blk w5 (w.heap.size + 1) 29 #[.int .u64 G, .int .u64 O, .int .u8 pr, .bool false, (.slice Ad l.length cd)] := (by refine Blk.grown ?_ hgrow5 (Ne.symm hne); exact hOT); have e2 : w5.cell? ⟨w.heap.size + 1, 2, none⟩ = some (.int .u8 pr) := hO5.cell 2; have e4 : w5.cell? ⟨w.heap.size + 1, 4, none⟩ = some (.slice Ad l.length cd) := hO5.cell 4; have hB5 : Below w.heap.size w w5 := (by refine Below.grown ?_ hgrow5 (by simp; omega) (fun b hb => (ho4.lt b hb).1); exact hBT); have hV5 := HV.out.below hB5; have hoT5 := own_grown hoT hgrow5 hneT)
          | (refine step_append_lies _ (by rfl) _ _ 27 (by rfl) w.heap.size 5 i0 _ 1 1 Try.underlying27 hi0 hz0 hz1 hz2 (by rfl) (by decide) v2 J.length (J.map (Value.int .u8)) (by rfl) (by exact hoJT.alloc _) ⟨wT.heap.size, 0, none⟩ 1 1 [.int .u8 pr] (by rfl) (by rfl) (World.news_of_block (cs := #[.int .u8 pr]) (t := 5) (fr := (0, 0)) (heap_alloc_new wT _)) (by simp [Value.oneCell']) (by decide) (by unfold maxLen; omega) (by omega) (by simp; omega) (wT.heap.size + 1) (by simp) ?_; intro g5 k5 w5 hown5 hgrow5 hat5 hlt5; have hO5 : Blk w5 (w.heap.size + 1) 29 #[.int .u64 G, .int .u64 O, .int .u8 pr, .bool false, (.slice Ad l.length cd)] := (by refine Blk.grown ?_ hgrow5 (Ne.symm hne); exact hOT.alloc _); have e2 : w5.cell? ⟨w.heap.size + 1, 2, none⟩ = some (.int .u8 pr) := hO5.cell 2; have e4 : w5.cell? ⟨w.heap.size + 1, 4, none⟩ = some (.slice Ad l.length cd) := hO5.cell 4; have hB5 : Below w.heap.size w w5 := (by refine Below.grown ?_ hgrow5 (by simp; omega) (fun b hb => (ho4.lt b hb).1); exact hBT.alloc hBT.size _); have hV5 := HV.out.below hB5; have hoT5 := own_grown (w := wT.alloc (.cells #[.int .u8 pr] 5)) (by exact hoT.alloc _) hgrow5 hneT)
          | (refine step_append_lies _ (by rfl) _ _ 27 (by rfl) w.heap.size 5 i0 _ 1 1 Try.underlying27 hi0 hz0 hz1 hz2 (by rfl) (by decide) v2 J.length (J.map (Value.int .u8)) (by rfl) (by exact ho4.alloc _) ⟨w2.heap.size, 0, none⟩ 1 1 [.int .u8 pr] (by rfl) (by rfl) (World.news_of_block (cs := #[.int .u8 pr]) (t := 5) (fr := (0, 0)) (heap_alloc_new w2 _)) (by simp [Value.oneCell']) (by decide) (by unfold maxLen; omega) (by omega) (by simp; omega) (w2.heap.size + 1) (by simp) ?_; intro g5 k5 w5 hown5 hgrow5 hat5 hlt5; have hO5 : Blk w5 (w.heap.size + 1) 29 #[.int .u64 G, .int .u64 O, .int .u8 pr, .bool false, (.slice Ad l.length cd)] := (by refine Blk.grown ?_ hgrow5 (Ne.symm hne); exact hO4.alloc _); have e2 : w5.cell? ⟨w.heap.size + 1, 2, none⟩ = some (.int .u8 pr) := hO5.cell 2; have e4 : w5.cell? ⟨w.heap.size + 1, 4, none⟩ = some (.slice Ad l.length cd) := hO5.cell 4; have hB5 : Below w.heap.size w w5 := (by refine Below.grown ?_ hgrow5 (by simp; omega) (fun b hb => (ho4.lt b hb).1); exact below_drewN (hB4.alloc hB4.size (.cells #[.int .u8 pr] 5)) 1); have hV5 := HV.out.below hB5; skip)
          )
      all_goals go_wp2_with fail
      all_goals go_ret2
      all_goals exact ⟨v9, by rw [HR.out]; rfl, by rw [HR.out]; simpa only [List.length_append, List.map_append, List.length_cons, List.length_nil, List.map_cons, List.map_nil] using hown9, hB9⟩

end Go.Proofs.Ythmdbkefbbjfmaa
