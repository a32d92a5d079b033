/-
  whole's closure, which recovers. No condition.
  What whole of a message's bytes gives. No condition.
-/
import Derived.Test.YtjijmbpgfabgcaaDoorZJ
import Derived.Defers
import Derived.Recover
import Derived.Deep.CutBlock
import Derived.Test.YtjijmbpgfabgcaaDoorZK
import Derived.Test.YtjijmbpgfabgcaaDoorZI
namespace Go.Proofs.YtjijmbpgfabgcaaDoor
open Go.RowKit
set_option linter.unusedVariables false
set_option linter.unusedSimpArgs false

theorem Blk.set16 {w : World} {g : Nat} {t : TypeId} {a0 a1 a2 a3 a4 a5 a6 a7 a8 a9 a10 a11 a12 a13 a14 a15 : Value} (h : Blk w g t #[a0, a1, a2, a3, a4, a5, a6, a7, a8, a9, a10, a11, a12, a13, a14, a15]) (b0 b1 b2 b3 b4 b5 b6 b7 b8 b9 b10 b11 b12 b13 b14 b15 : Value) : Blk ((((((((((((((((w.setCell ⟨g, 0, none⟩ b0).setCell ⟨g, 1, none⟩ b1).setCell ⟨g, 2, none⟩ b2).setCell ⟨g, 3, none⟩ b3).setCell ⟨g, 4, none⟩ b4).setCell ⟨g, 5, none⟩ b5).setCell ⟨g, 6, none⟩ b6).setCell ⟨g, 7, none⟩ b7).setCell ⟨g, 8, none⟩ b8).setCell ⟨g, 9, none⟩ b9).setCell ⟨g, 10, none⟩ b10).setCell ⟨g, 11, none⟩ b11).setCell ⟨g, 12, none⟩ b12).setCell ⟨g, 13, none⟩ b13).setCell ⟨g, 14, none⟩ b14).setCell ⟨g, 15, none⟩ b15) g t #[b0, b1, b2, b3, b4, b5, b6, b7, b8, b9, b10, b11, b12, b13, b14, b15] := by
  have h1 := ((((((((((((((((h.set_ 0 b0).set_ 1 b1).set_ 2 b2).set_ 3 b3).set_ 4 b4).set_ 5 b5).set_ 6 b6).set_ 7 b7).set_ 8 b8).set_ 9 b9).set_ 10 b10).set_ 11 b11).set_ 12 b12).set_ 13 b13).set_ 14 b14).set_ 15 b15)
  simpa using h1
theorem far16 {w : World} {g g' : Nat} {t : TypeId} {cs : Array Value} (h : Blk w g' t cs) (hn : g' ≠ g) (b0 b1 b2 b3 b4 b5 b6 b7 b8 b9 b10 b11 b12 b13 b14 b15 : Value) : Blk ((((((((((((((((w.setCell ⟨g, 0, none⟩ b0).setCell ⟨g, 1, none⟩ b1).setCell ⟨g, 2, none⟩ b2).setCell ⟨g, 3, none⟩ b3).setCell ⟨g, 4, none⟩ b4).setCell ⟨g, 5, none⟩ b5).setCell ⟨g, 6, none⟩ b6).setCell ⟨g, 7, none⟩ b7).setCell ⟨g, 8, none⟩ b8).setCell ⟨g, 9, none⟩ b9).setCell ⟨g, 10, none⟩ b10).setCell ⟨g, 11, none⟩ b11).setCell ⟨g, 12, none⟩ b12).setCell ⟨g, 13, none⟩ b13).setCell ⟨g, 14, none⟩ b14).setCell ⟨g, 15, none⟩ b15) g' t cs := by
  have h := h.far (p := ⟨g, 0, none⟩) hn b0
  have h := h.far (p := ⟨g, 1, none⟩) hn b1
  have h := h.far (p := ⟨g, 2, none⟩) hn b2
  have h := h.far (p := ⟨g, 3, none⟩) hn b3
  have h := h.far (p := ⟨g, 4, none⟩) hn b4
  have h := h.far (p := ⟨g, 5, none⟩) hn b5
  have h := h.far (p := ⟨g, 6, none⟩) hn b6
  have h := h.far (p := ⟨g, 7, none⟩) hn b7
  have h := h.far (p := ⟨g, 8, none⟩) hn b8
  have h := h.far (p := ⟨g, 9, none⟩) hn b9
  have h := h.far (p := ⟨g, 10, none⟩) hn b10
  have h := h.far (p := ⟨g, 11, none⟩) hn b11
  have h := h.far (p := ⟨g, 12, none⟩) hn b12
  have h := h.far (p := ⟨g, 13, none⟩) hn b13
  have h := h.far (p := ⟨g, 14, none⟩) hn b14
  have h := h.far (p := ⟨g, 15, none⟩) hn b15
  exact h
theorem below16 {B : Nat} {a w : World} {g : Nat} (h : Below B a w) (hg : B ≤ g) (b0 b1 b2 b3 b4 b5 b6 b7 b8 b9 b10 b11 b12 b13 b14 b15 : Value) : Below B a ((((((((((((((((w.setCell ⟨g, 0, none⟩ b0).setCell ⟨g, 1, none⟩ b1).setCell ⟨g, 2, none⟩ b2).setCell ⟨g, 3, none⟩ b3).setCell ⟨g, 4, none⟩ b4).setCell ⟨g, 5, none⟩ b5).setCell ⟨g, 6, none⟩ b6).setCell ⟨g, 7, none⟩ b7).setCell ⟨g, 8, none⟩ b8).setCell ⟨g, 9, none⟩ b9).setCell ⟨g, 10, none⟩ b10).setCell ⟨g, 11, none⟩ b11).setCell ⟨g, 12, none⟩ b12).setCell ⟨g, 13, none⟩ b13).setCell ⟨g, 14, none⟩ b14).setCell ⟨g, 15, none⟩ b15) := by
  have h := h.setCell (p := ⟨g, 0, none⟩) hg b0
  have h := h.setCell (p := ⟨g, 1, none⟩) hg b1
  have h := h.setCell (p := ⟨g, 2, none⟩) hg b2
  have h := h.setCell (p := ⟨g, 3, none⟩) hg b3
  have h := h.setCell (p := ⟨g, 4, none⟩) hg b4
  have h := h.setCell (p := ⟨g, 5, none⟩) hg b5
  have h := h.setCell (p := ⟨g, 6, none⟩) hg b6
  have h := h.setCell (p := ⟨g, 7, none⟩) hg b7
  have h := h.setCell (p := ⟨g, 8, none⟩) hg b8
  have h := h.setCell (p := ⟨g, 9, none⟩) hg b9
  have h := h.setCell (p := ⟨g, 10, none⟩) hg b10
  have h := h.setCell (p := ⟨g, 11, none⟩) hg b11
  have h := h.setCell (p := ⟨g, 12, none⟩) hg b12
  have h := h.setCell (p := ⟨g, 13, none⟩) hg b13
  have h := h.setCell (p := ⟨g, 14, none⟩) hg b14
  have h := h.setCell (p := ⟨g, 15, none⟩) hg b15
  exact h
set_option maxHeartbeats 4000000 in
set_option maxRecDepth 100000 in
theorem catch_unfit (B mb eb : Nat) (cs : Array Value) (v : Value) (w : World) (hO : Blk w mb 31 cs) (hcs : cs.size = 16) (hE : Blk w eb 32 #[v]) (hB : B ≤ w.heap.size) (hm : B ≤ mb) (he : B ≤ eb) :
    CallsD Tryd.prog 51 #[.pointer (some ⟨mb, 0, none⟩), .pointer (some ⟨eb, 0, none⟩)] (.panicking UNFIT) w fun e u' w' => e = .returned (.tuple #[]) ∧ u' = .panicking [{ v := .iface 93 (.agg #[]), recovered := true }] ∧
      Blk w' mb 31 #[.int .u64 0, .int .u64 0, .int .u64 0, .slice none 0 0, .int .u8 0, .int .u8 0, .int .u64 0, .int .u64 0, .int .u64 0, .int .u64 0, .bool false, .int .u64 0, .slice none 0 0, .int .u64 0, .int .u64 0, .slice none 0 0] ∧ Blk w' eb 32 #[.int .i64 4] ∧ Below B w w' := by
  have hrep : Array.replicate 10 undef = #[undef, undef, undef, undef, undef, undef, undef, undef, undef, undef] := rfl
  have hta : ∀ W, (Instr.typeAssert (.iface 93 (.agg #[])) 20 93 true).run Tryd.prog W = .ok (.tuple #[.agg #[], .bool true]) W := fun _ => by kernel_rfl
  obtain ⟨a0, a1, a2, a3, a4, a5, a6, a7, a8, a9, a10, a11, a12, a13, a14, a15, rfl⟩ : ∃ a0 a1 a2 a3 a4 a5 a6 a7 a8 a9 a10 a11 a12 a13 a14 a15, cs = #[a0, a1, a2, a3, a4, a5, a6, a7, a8, a9, a10, a11, a12, a13, a14, a15] := by
    obtain ⟨l⟩ := cs
    simp only [List.size_toArray] at hcs
    match l, hcs with
    | [a0, a1, a2, a3, a4, a5, a6, a7, a8, a9, a10, a11, a12, a13, a14, a15], _ => exact ⟨a0, a1, a2, a3, a4, a5, a6, a7, a8, a9, a10, a11, a12, a13, a14, a15, rfl⟩
  have hne : mb ≠ eb := hO.ne_ hE (by decide)
  have hO1 := hO.alloc (.cells #[] 93)
  have hE1 := hE.alloc (.cells #[] 93)
  refine callsD_of_wpS Tryd.func51 rfl fun c₀ fs hu => ?_
  apply wpS_seq
  apply wpS_region
  simp [wpOpsS, go_sem, recoverD, hu, Tryd.ntmps51, Exit.thenS, UNFIT, hrep]
  refine wpS_of_wp ?_
  go_upto_region 7 with fail
  refine wp_world (fun wz => Below w.heap.size w wz ∧ Blk wz mb 31 #[a0, a1, a2, a3, a4, a5, a6, a7, a8, a9, a10, a11, a12, a13, a14, a15] ∧ Blk wz eb 32 #[v]) ⟨(Below.refl _ _).alloc (Nat.le_refl _) _, hO1, hE1⟩ ?_
  clear hO1 hE1
  rintro wA ⟨hbA, hO1, hE1⟩
  have c0 : World.cell? wA ⟨mb, 0, none⟩ = some a0 := hO1.cell 0
  have f0 := hO1.frozen 0
  have c1 : World.cell? wA ⟨mb, 1, none⟩ = some a1 := hO1.cell 1
  have f1 := hO1.frozen 1
  have c2 : World.cell? wA ⟨mb, 2, none⟩ = some a2 := hO1.cell 2
  have f2 := hO1.frozen 2
  have c3 : World.cell? wA ⟨mb, 3, none⟩ = some a3 := hO1.cell 3
  have f3 := hO1.frozen 3
  have c4 : World.cell? wA ⟨mb, 4, none⟩ = some a4 := hO1.cell 4
  have f4 := hO1.frozen 4
  have c5 : World.cell? wA ⟨mb, 5, none⟩ = some a5 := hO1.cell 5
  have f5 := hO1.frozen 5
  have c6 : World.cell? wA ⟨mb, 6, none⟩ = some a6 := hO1.cell 6
  have f6 := hO1.frozen 6
  have c7 : World.cell? wA ⟨mb, 7, none⟩ = some a7 := hO1.cell 7
  have f7 := hO1.frozen 7
  have c8 : World.cell? wA ⟨mb, 8, none⟩ = some a8 := hO1.cell 8
  have f8 := hO1.frozen 8
  have c9 : World.cell? wA ⟨mb, 9, none⟩ = some a9 := hO1.cell 9
  have f9 := hO1.frozen 9
  have c10 : World.cell? wA ⟨mb, 10, none⟩ = some a10 := hO1.cell 10
  have f10 := hO1.frozen 10
  have c11 : World.cell? wA ⟨mb, 11, none⟩ = some a11 := hO1.cell 11
  have f11 := hO1.frozen 11
  have c12 : World.cell? wA ⟨mb, 12, none⟩ = some a12 := hO1.cell 12
  have f12 := hO1.frozen 12
  have c13 : World.cell? wA ⟨mb, 13, none⟩ = some a13 := hO1.cell 13
  have f13 := hO1.frozen 13
  have c14 : World.cell? wA ⟨mb, 14, none⟩ = some a14 := hO1.cell 14
  have f14 := hO1.frozen 14
  have c15 : World.cell? wA ⟨mb, 15, none⟩ = some a15 := hO1.cell 15
  have f15 := hO1.frozen 15
  have ce : World.cell? wA ⟨eb, 0, none⟩ = some v := hE1.cell 0
  have fe := hE1.frozen 0
  go_wp2_with fail
  refine ⟨rfl, _, rfl, .tuple #[], by simp [results, Tryd.results51, go_sem], rfl, rfl, ?_, ?_, ?_⟩
  · exact (hO1.set16 (.int .u64 0) (.int .u64 0) (.int .u64 0) (.slice none 0 0) (.int .u8 0) (.int .u8 0) (.int .u64 0) (.int .u64 0) (.int .u64 0) (.int .u64 0) (.bool false) (.int .u64 0) (.slice none 0 0) (.int .u64 0) (.int .u64 0) (.slice none 0 0)).far (p := ⟨eb, 0, none⟩) hne _
  · simpa using (far16 hE1 (Ne.symm hne) (.int .u64 0) (.int .u64 0) (.int .u64 0) (.slice none 0 0) (.int .u8 0) (.int .u8 0) (.int .u64 0) (.int .u64 0) (.int .u64 0) (.int .u64 0) (.bool false) (.int .u64 0) (.slice none 0 0) (.int .u64 0) (.int .u64 0) (.slice none 0 0)).set_ 0 (.int .i64 4)
  · exact Below.setCell (p := ⟨eb, 0, none⟩) (below16 ((hbA.mono hB)) hm (.int .u64 0) (.int .u64 0) (.int .u64 0) (.slice none 0 0) (.int .u8 0) (.int .u8 0) (.int .u64 0) (.int .u64 0) (.int .u64 0) (.int .u64 0) (.bool false) (.int .u64 0) (.slice none 0 0) (.int .u64 0) (.int .u64 0) (.slice none 0 0)) he _
set_option maxHeartbeats 4000000 in
set_option maxRecDepth 100000 in
theorem catch_idle (ps : Array Value) (w : World) (a b : Value) :
    CallsD Tryd.prog 51 #[a, b] .returning w fun e u' w' => e = .returned (.tuple #[]) ∧ u' = .returning ∧ w' = w := by
  have hrep : Array.replicate 10 undef = #[undef, undef, undef, undef, undef, undef, undef, undef, undef, undef] := rfl
  refine callsD_of_wpS Tryd.func51 rfl fun c₀ fs hu => ?_
  apply wpS_seq
  apply wpS_region
  simp [wpOpsS, go_sem, recoverD, hu, Tryd.ntmps51, Exit.thenS, hrep]
  refine wpS_of_wp ?_
  go_wp2_with fail
  exact ⟨rfl, .returning, by cases c₀; simp_all, .tuple #[], by simp [results, Tryd.results51, go_sem], rfl, rfl, rfl⟩

end Go.Proofs.YtjijmbpgfabgcaaDoor
namespace Go.Proofs.YtjijmbpgfabgcaaDoor
open Go.RowKit
set_option linter.unusedVariables false
set_option linter.unusedSimpArgs false

theorem yf_all (B yb mb : Nat) (P kd : Int) (l : List Int) (w : World) (hP : P ∈ SH) (hY : Eye B w yb l) (hM : MB B w mb (M.nil kd)) (hBs : B ≤ w.heap.size) (hk : BytesOk l) (hl : l.length ≤ 1000000) :
    Calls Tryd.prog 52 #[.pointer (some ⟨yb, 0, none⟩), .pointer (some ⟨mb, 0, none⟩), .int .i64 P] w fun e w' => Out (parse (shP P) (M.nil kd) l) B yb mb e w' ∧ EK B w w' := by
  simp only [SH, List.mem_cons, List.not_mem_nil, or_false] at hP
  rcases hP with rfl | rfl | rfl | rfl | rfl | rfl | rfl | rfl | rfl | rfl | rfl
  · exact yf191 B yb mb kd l w hY hM hBs hk hl
  · exact yf289 B yb mb kd l w hY hM hBs hk hl
  · exact yf1537 B yb mb kd l w hY hM hBs hk hl
  · exact yf5 B yb mb kd l w hY hM hBs hk hl
  · exact yf1 B yb mb kd l w hY hM hBs hk hl
  · exact yf4 B yb mb kd l w hY hM hBs hk hl
  · exact yf0 B yb mb kd l w hY hM hBs hk hl
  · exact yf2048 B yb mb kd l w hY hM hBs hk hl
  · exact yf109 B yb mb kd l w hY hM hBs hk hl
  · exact yf10240 B yb mb kd l w hY hM hBs hk hl
  · exact yf6144 B yb mb kd l w hY hM hBs hk hl
theorem takeN_ok : ∀ (n : Nat) (a b l r : List Int), NumsOk a → BytesOk b → takeN n a b = some (l, r) → NumsOk l ∧ l.length = a.length + n ∧ BytesOk r ∧ r.length ≤ b.length
  | 0, a, b, l, r, ha, hb, h => by
    simp only [takeN, Option.some.injEq, Prod.mk.injEq] at h
    obtain ⟨rfl, rfl⟩ := h
    exact ⟨ha, rfl, hb, Nat.le_refl _⟩
  | n + 1, a, b, l, r, ha, hb, h => by
    rcases ht : vtake b with _ | ⟨x, s⟩
    · simp [takeN, ht] at h
    · simp only [takeN, ht] at h
      obtain ⟨k1, k2, k3, k4⟩ := vtake_rest hb ht
      obtain ⟨h1, h2, h3, h4⟩ := takeN_ok n (a ++ [x]) s l r (fun y hy => by
        rcases List.mem_append.1 hy with hy | hy
        · exact ha y hy
        · simp only [List.mem_singleton] at hy; subst hy; omega) k1 h
      refine ⟨h1, ?_, h3, by omega⟩
      rw [h2, List.length_append]
      simp
      omega
/-- What holds while parts are read. -/
structure RI (N k : Nat) (kd : Int) (x : M) (b : List Int) : Prop where
  ok : x.Ok
  by_ : BytesOk b
  bl : b.length ≤ N
  nl : x.nm.length ≤ N
  rl : x.rs.length ≤ N
  vl : x.vs.length ≤ 8 * k
  kd : x.kd = kd
theorem step_ri {N k : Nat} {kd : Int} {c : Int} {x y : M} {b r : List Int} (hc : c ∈ LETS) (h : RI N k kd x b) (hs : stepL c x b = some (y, r)) : RI N (k + 1) kd y r := by
  obtain ⟨hx, hb, bl, nl, rl, vl0, hkd⟩ := h
  have vl : x.vs.length ≤ 8 * (k + 1) := by omega
  simp only [LETS, List.mem_cons, List.not_mem_nil, or_false] at hc
  rcases hc with rfl | rfl | rfl | rfl | rfl | rfl | rfl | rfl | rfl | rfl | rfl | rfl | rfl | rfl
  · rcases ht : vtake b with _ | ⟨v, q⟩
    · simp [stepL, ht] at hs
    · simp [stepL, ht] at hs
      obtain ⟨rfl, rfl⟩ := hs
      obtain ⟨k1, k2, k3, k4⟩ := vtake_rest hb ht
      have k5 : v ≤ 18446744073709551615 := by omega
      exact ⟨⟨hx.kd, ⟨k3, k5⟩, hx.al, hx.sg, hx.so, hx.eg, hx.eo, hx.cd, hx.n, hx.ve, hx.pr, hx.od, hx.nm, hx.rs, hx.vs⟩, k1, by omega, nl, rl, vl, hkd⟩
  · rcases ht : vtake b with _ | ⟨v, q⟩
    · simp [stepL, ht] at hs
    · simp [stepL, ht] at hs
      obtain ⟨rfl, rfl⟩ := hs
      obtain ⟨k1, k2, k3, k4⟩ := vtake_rest hb ht
      have k5 : v ≤ 18446744073709551615 := by omega
      exact ⟨⟨hx.kd, hx.id, ⟨k3, k5⟩, hx.sg, hx.so, hx.eg, hx.eo, hx.cd, hx.n, hx.ve, hx.pr, hx.od, hx.nm, hx.rs, hx.vs⟩, k1, by omega, nl, rl, vl, hkd⟩
  · by_cases hz : (vtext b 65536).2.2 = 0
    · simp [stepL, hz] at hs
      obtain ⟨rfl, rfl⟩ := hs
      obtain ⟨k1, k2, k3, k4⟩ := vtext_rest hb
      exact ⟨⟨hx.kd, hx.id, hx.al, hx.sg, hx.so, hx.eg, hx.eo, hx.cd, hx.n, hx.ve, hx.pr, hx.od, k3, hx.rs, hx.vs⟩, k1, by omega, Nat.le_trans k4 bl, rl, vl, hkd⟩
    · simp [stepL, hz] at hs
  · rcases b with _ | ⟨v, q⟩
    · simp [stepL] at hs
    · have hv := hb v (by simp)
      have hq : BytesOk q := fun z hz => hb z (by simp [hz])
      have hl : q.length ≤ N := by simp at bl; omega
      simp [stepL] at hs
      obtain ⟨rfl, rfl⟩ := hs
      exact ⟨⟨hx.kd, hx.id, hx.al, hx.sg, hx.so, hx.eg, hx.eo, hx.cd, hx.n, hx.ve, hv, hx.od, hx.nm, hx.rs, hx.vs⟩, hq, hl, nl, rl, vl, hkd⟩
  · rcases b with _ | ⟨v, q⟩
    · simp [stepL] at hs
    · have hv := hb v (by simp)
      have hq : BytesOk q := fun z hz => hb z (by simp [hz])
      have hl : q.length ≤ N := by simp at bl; omega
      simp [stepL] at hs
      obtain ⟨rfl, rfl⟩ := hs
      exact ⟨⟨hx.kd, hx.id, hx.al, hx.sg, hx.so, hx.eg, hx.eo, hx.cd, hx.n, hx.ve, hx.pr, hv, hx.nm, hx.rs, hx.vs⟩, hq, hl, nl, rl, vl, hkd⟩
  · rcases ht : vtake b with _ | ⟨v, q⟩
    · simp [stepL, ht] at hs
    · rcases hu : vtake q with _ | ⟨u, q2⟩
      · simp [stepL, ht, hu] at hs
      · simp [stepL, ht, hu] at hs
        obtain ⟨rfl, rfl⟩ := hs
        obtain ⟨k1, k2, k3, k4⟩ := vtake_rest hb ht
        obtain ⟨j1, j2, j3, j4⟩ := vtake_rest k1 hu
        have k5 : v ≤ 18446744073709551615 := by omega
        have j5 : u ≤ 18446744073709551615 := by omega
        exact ⟨⟨hx.kd, hx.id, hx.al, ⟨k3, k5⟩, ⟨j3, j5⟩, hx.eg, hx.eo, hx.cd, hx.n, hx.ve, hx.pr, hx.od, hx.nm, hx.rs, hx.vs⟩, j1, by omega, nl, rl, vl, hkd⟩
  · rcases ht : vtake b with _ | ⟨v, q⟩
    · simp [stepL, ht] at hs
    · rcases hu : vtake q with _ | ⟨u, q2⟩
      · simp [stepL, ht, hu] at hs
      · simp [stepL, ht, hu] at hs
        obtain ⟨rfl, rfl⟩ := hs
        obtain ⟨k1, k2, k3, k4⟩ := vtake_rest hb ht
        obtain ⟨j1, j2, j3, j4⟩ := vtake_rest k1 hu
        have k5 : v ≤ 18446744073709551615 := by omega
        have j5 : u ≤ 18446744073709551615 := by omega
        exact ⟨⟨hx.kd, hx.id, hx.al, hx.sg, hx.so, ⟨k3, k5⟩, ⟨j3, j5⟩, hx.cd, hx.n, hx.ve, hx.pr, hx.od, hx.nm, hx.rs, hx.vs⟩, j1, by omega, nl, rl, vl, hkd⟩
  · rcases ht : vtake b with _ | ⟨v, q⟩
    · simp [stepL, ht] at hs
    · simp [stepL, ht] at hs
      obtain ⟨rfl, rfl⟩ := hs
      obtain ⟨k1, k2, k3, k4⟩ := vtake_rest hb ht
      have k5 : v ≤ 18446744073709551615 := by omega
      exact ⟨⟨hx.kd, hx.id, hx.al, hx.sg, hx.so, ⟨k3, k5⟩, hx.eo, hx.cd, hx.n, hx.ve, hx.pr, hx.od, hx.nm, hx.rs, hx.vs⟩, k1, by omega, nl, rl, vl, hkd⟩
  · rcases b with _ | ⟨v, q⟩
    · simp [stepL] at hs
    · have hv := hb v (by simp)
      have hq : BytesOk q := fun z hz => hb z (by simp [hz])
      have hl : q.length ≤ N := by simp at bl; omega
      by_cases h1 : v ≤ 1
      · simp [stepL, h1] at hs
        obtain ⟨rfl, rfl⟩ := hs
        exact ⟨⟨hx.kd, hx.id, hx.al, hx.sg, hx.so, hx.eg, hx.eo, hx.cd, hx.n, hx.ve, hx.pr, hx.od, hx.nm, hx.rs, hx.vs⟩, hq, hl, nl, rl, vl, hkd⟩
      · simp [stepL, h1] at hs
  · rcases ht : vtake b with _ | ⟨v, q⟩
    · simp [stepL, ht] at hs
    · simp [stepL, ht] at hs
      obtain ⟨rfl, rfl⟩ := hs
      obtain ⟨k1, k2, k3, k4⟩ := vtake_rest hb ht
      have k5 : v ≤ 18446744073709551615 := by omega
      exact ⟨⟨hx.kd, hx.id, hx.al, hx.sg, hx.so, hx.eg, hx.eo, ⟨k3, k5⟩, hx.n, hx.ve, hx.pr, hx.od, hx.nm, hx.rs, hx.vs⟩, k1, by omega, nl, rl, vl, hkd⟩
  · by_cases hz : (vtext b 65536).2.2 = 0
    · simp [stepL, hz] at hs
      obtain ⟨rfl, rfl⟩ := hs
      obtain ⟨k1, k2, k3, k4⟩ := vtext_rest hb
      exact ⟨⟨hx.kd, hx.id, hx.al, hx.sg, hx.so, hx.eg, hx.eo, hx.cd, hx.n, hx.ve, hx.pr, hx.od, hx.nm, k3, hx.vs⟩, k1, by omega, nl, Nat.le_trans k4 bl, vl, hkd⟩
    · simp [stepL, hz] at hs
  · rcases ht : vtake b with _ | ⟨v, q⟩
    · simp [stepL, ht] at hs
    · simp [stepL, ht] at hs
      obtain ⟨rfl, rfl⟩ := hs
      obtain ⟨k1, k2, k3, k4⟩ := vtake_rest hb ht
      have k5 : v ≤ 18446744073709551615 := by omega
      exact ⟨⟨hx.kd, hx.id, hx.al, hx.sg, hx.so, hx.eg, hx.eo, hx.cd, ⟨k3, k5⟩, hx.ve, hx.pr, hx.od, hx.nm, hx.rs, hx.vs⟩, k1, by omega, nl, rl, vl, hkd⟩
  · rcases ht : vtake b with _ | ⟨v, q⟩
    · simp [stepL, ht] at hs
    · simp [stepL, ht] at hs
      obtain ⟨rfl, rfl⟩ := hs
      obtain ⟨k1, k2, k3, k4⟩ := vtake_rest hb ht
      have k5 : v ≤ 18446744073709551615 := by omega
      exact ⟨⟨hx.kd, hx.id, hx.al, hx.sg, hx.so, hx.eg, hx.eo, hx.cd, hx.n, ⟨k3, k5⟩, hx.pr, hx.od, hx.nm, hx.rs, hx.vs⟩, k1, by omega, nl, rl, vl, hkd⟩
  · rcases ht : vtake b with _ | ⟨v, q⟩
    · simp [stepL, ht] at hs
    · obtain ⟨k1, k2, k3, k4⟩ := vtake_rest hb ht
      by_cases h1 : v ≤ 8
      · rcases hj : takeN v.toNat x.vs q with _ | ⟨l2, q2⟩
        · simp [stepL, ht, h1, hj] at hs
        · simp [stepL, ht, h1, hj] at hs
          obtain ⟨rfl, rfl⟩ := hs
          obtain ⟨j1, j2, j3, j4⟩ := takeN_ok _ _ _ _ _ hx.vs k1 hj
          exact ⟨⟨hx.kd, hx.id, hx.al, hx.sg, hx.so, hx.eg, hx.eo, hx.cd, hx.n, hx.ve, hx.pr, hx.od, hx.nm, hx.rs, j1⟩, j3, by omega, nl, rl, (by show l2.length ≤ _; omega), hkd⟩
      · simp [stepL, ht, h1] at hs
theorem parse_ri {N : Nat} {kd : Int} : ∀ (L : List Int) (k : Nat) (x y : M) (b r : List Int), (∀ c ∈ L, c ∈ LETS) → RI N k kd x b → parse L x b = some (y, r) → RI N (k + L.length) kd y r
  | [], k, x, y, b, r, _, h, hp => by
    simp only [parse, Option.some.injEq, Prod.mk.injEq] at hp
    obtain ⟨rfl, rfl⟩ := hp
    exact h
  | c :: L, k, x, y, b, r, hL, h, hp => by
    rcases hs : stepL c x b with _ | ⟨z, s⟩
    · simp [parse, hs] at hp
    · simp only [parse, hs] at hp
      have := parse_ri L (k + 1) z y s r (fun d hd => hL d (by simp [hd])) (step_ri (hL c (by simp)) h hs) hp
      rw [List.length_cons, show k + (L.length + 1) = k + 1 + L.length by omega]
      exact this
theorem nil_ok {kd : Int} (h : 0 ≤ kd ∧ kd ≤ 18446744073709551615) : (M.nil kd).Ok := ⟨h, ⟨Int.le_refl 0, (by decide : (0 : Int) ≤ 18446744073709551615)⟩, ⟨Int.le_refl 0, (by decide : (0 : Int) ≤ 18446744073709551615)⟩, ⟨Int.le_refl 0, (by decide : (0 : Int) ≤ 18446744073709551615)⟩, ⟨Int.le_refl 0, (by decide : (0 : Int) ≤ 18446744073709551615)⟩, ⟨Int.le_refl 0, (by decide : (0 : Int) ≤ 18446744073709551615)⟩, ⟨Int.le_refl 0, (by decide : (0 : Int) ≤ 18446744073709551615)⟩, ⟨Int.le_refl 0, (by decide : (0 : Int) ≤ 18446744073709551615)⟩, ⟨Int.le_refl 0, (by decide : (0 : Int) ≤ 18446744073709551615)⟩, ⟨Int.le_refl 0, (by decide : (0 : Int) ≤ 18446744073709551615)⟩, ⟨Int.le_refl 0, (by decide : (0 : Int) ≤ 255)⟩, ⟨Int.le_refl 0, (by decide : (0 : Int) ≤ 255)⟩, fun _ h => (by cases h), fun _ h => (by cases h), fun _ h => (by cases h)⟩
/-- The message that is read whole; none. -/
def wholeR (kd : Int) (l : List Int) : Option M := match parse (shP (prt kd).1) (M.nil kd) l with
  | some (y, []) => if rt y = true then some y else none
  | _ => none
/-- How whole ends. -/
def WOut (o : Option M) (e : Ending) (w' : World) : Prop := match o with
  | some y => ∃ nv rv vv, e = .returned (.tuple #[.agg (y.cells nv rv vv), .int .i64 0]) ∧ RdT w' nv y.nm ∧ RdT w' rv y.rs ∧ ∃ B, w'.ownsRow B 22 1 vv y.vs.length (y.vs.map (Value.int .u64))
  | none => e = .returned (.tuple #[.agg ((M.nil 0).cells (.slice none 0 0) (.slice none 0 0) (.slice none 0 0)), .int .i64 4])

end Go.Proofs.YtjijmbpgfabgcaaDoor
