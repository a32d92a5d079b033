/-
  WordJoins: the walk. No condition.
-/
import Derived.Test.YtjijmbpgfabgcaaDoorZWjst
import Derived.Test.YtjijmbpgfabgcaaDoorZWjlit
import Derived.Test.YtjijmbpgfabgcaaDoorZWjopen
import Derived.Test.YtjijmbpgfabgcaaDoorZWawake
import Derived.Test.YtjijmbpgfabgcaaDoorZRsame
namespace Go.Proofs.YtjijmbpgfabgcaaDoor
open Go.RowKit
set_option linter.unusedVariables false
set_option linter.unusedSimpArgs false

theorem js_of_st {w wz : World} {E : List El} {P Q : List Int} {pv wv nv : Value} {nl : List Int} {z : El} (he : ∀ y ∈ E, y.x.Ok ∧ Right y.x) (hx : z.x.Ok) (hR : Right z.x) (hP : P = pB E) (hQ : Q = bts z.x)
    (h : ST w wz (P ++ Q) (wC E ++ z.cs) (E.length + 1) (E ++ [z]) pv wv nv nl) : JS w wz (E ++ [z]) pv wv := by
  refine ⟨?_, ?_, fun y hy => ?_, h.b⟩
  · rw [pB_snoc, ← hP, ← hQ]; exact h.p
  · rw [wC_snoc, List.length_append]; exact h.q
  · refine ⟨?_, ?_, h.e y hy⟩
    · rcases List.mem_append.1 hy with h1 | h1
      · exact (he y h1).1
      · simp only [List.mem_singleton] at h1; rw [h1]; exact hx
    · rcases List.mem_append.1 hy with h1 | h1
      · exact (he y h1).2
      · simp only [List.mem_singleton] at h1; rw [h1]; exact hR
/-- While the messages are read again: what is left, in memory. -/
structure L2 (w6 wr : World) (E : List El) (k : Nat) (t : List Int) (v : Value) : Prop where
  te : t = pB (E.drop k)
  r : Rd wr .u8 v t
  b : Below w6.heap.size w6 wr
theorem pB_drop (E : List El) (k : Nat) (h : k < E.length) : pB (E.drop k) = bts (E[k]).x ++ pB (E.drop (k + 1)) := by
  rw [List.drop_eq_getElem_cons h]; rfl
theorem pB_ok (E : List El) (h : ∀ z ∈ E, z.x.Ok ∧ Right z.x) : BytesOk (pB E) := by
  induction E with
  | nil => intro x hx; cases hx
  | cons e E ih => exact (bts_ok (h e (by simp)).1 (h e (by simp)).2).append (ih (fun z hz => h z (by simp [hz])))
theorem rg_blk {w : World} {g : Nat} {t : TypeId} {cs : Array Value} (h : Blk w g t cs) : w.rangeAt g 0 cs.toList := fun j v hv => by
  rw [Nat.zero_add, h.cell]
  simpa using hv
theorem pB_len (E : List El) (h : ∀ z ∈ E, Right z.x) : (pB E).length ≤ 600 * E.length := by
  induction E with
  | nil => simp [pB]
  | cons e E ih =>
    have h1 := (bts_len (h e (by simp))).1
    have h2 := ih (fun z hz => h z (by simp [hz]))
    simp only [pB, List.flatMap_cons, List.length_append, List.length_cons] at h2 ⊢
    omega
theorem st_of_js {w wz : World} {E : List El} {P Q : List Int} {pv wv v7 nv rv vv : Value} {x : M} (h : JS w wz E pv wv) (hP : P = pB E) (hM : MX wz x nv rv vv) (hQ : RdT wz v7 Q) (h1 : Apt nv pv) (h2 : Apt rv pv) (h3 : Apt v7 pv) :
    ST w wz P (wC E) E.length (E ++ [⟨x, nv, rv, vv⟩]) pv wv v7 Q :=
  ⟨by rw [hP]; exact h.p, h.q, fun z hz => by
    rcases List.mem_append.1 hz with k | k
    · exact ⟨(h.e z k).2.2.1, (h.e z k).2.2.2⟩
    · simp only [List.mem_singleton] at k
      subst k
      exact ⟨hM, h1, h2⟩, ⟨hQ, h3⟩, h.b⟩
set_option maxHeartbeats 40000000 in
set_option maxRecDepth 100000 in
theorem joins_walk (A : Option Addr) (N cap : Nat) (w : World) (hG : Glob w) (hms : Msgs w A N) (hnc : N ≤ cap) (hcm : cap ≤ maxLen) :
    Calls Tryd.prog 6 #[.slice A N cap] w fun e w' => e = .returned (.bool true) ∧ Below w.heap.size w w' := by
  have hcm' : cap ≤ 9223372036854775807 := by unfold maxLen at hcm; omega
  have haw := awake_any w hG
  have HMS := Lib.hid hms
  clear hms
  go_enter Tryd.func6, Tryd.ntmps6
  go_wp2_with fail
  (with_reducible refine haw.mono ?_)
  clear haw
  rintro e w1 ⟨rfl, hb1⟩
  go_wp2_with fail
  go_loopg [3, 4, 18] N (fun gk s3 s4 s18 wr => ∃ (k : Nat) (E : List El), gk = N - k ∧ k ≤ N ∧ s18 = .int .i64 k ∧ E.length ≤ k ∧ E.length ≤ 12 ∧ JS w wr E s3 s4)
  case atStart => exact ⟨0, [], rfl, Nat.zero_le _, rfl, Nat.zero_le _, Nat.zero_le _, ⟨World.ownsRow_nil _ _ _ _, World.ownsRow_nil _ _ _ _, (fun z hz => by cases hz), hb1⟩⟩
  case round =>
    clear hb1
    obtain ⟨k, E, hgk, hkN, rfl, hEk, hE12, hJ⟩ := hrel
    have HE12 := Lib.hid hE12
    by_cases hlt : k < N
    · obtain ⟨b, off, m, nv, rv, vv, rfl, hbl, hcw, hMw, hOk⟩ := HMS.out k hlt
      obtain ⟨nA, nc, rfl⟩ := hMw.nm.form
      obtain ⟨rA, rc, rfl⟩ := hMw.rs.form
      obtain ⟨vA, vc, rfl⟩ := hMw.vs.form
      have hcr := fun j hj => (hJ.b.cell (p := ⟨b, off + (k * 16 + j), none⟩) hbl).trans (hcw j hj)
      obtain ⟨O, hO⟩ : ∃ O, off + k * 16 = O := ⟨_, rfl⟩
      have hrg : wr.rangeAt b O (m.cells (.slice nA m.nm.length nc) (.slice rA m.rs.length rc) (.slice vA m.vs.length vc)).toList := fun j v hv => by
        have hj : j < 16 := (List.getElem?_eq_some_iff.1 hv).1
        rw [← hO, Nat.add_assoc]; exact (hcr j hj).trans (by simpa using hv)
      have HRG := Lib.hid hrg
      clear hrg
      have hba : Below wr.heap.size wr (wr.alloc (.cells #[.int .u64 m.kd, .int .u64 m.id, .int .u64 m.al, .slice nA m.nm.length nc, .int .u8 m.pr, .int .u8 m.od, .int .u64 m.sg, .int .u64 m.so, .int .u64 m.eg, .int .u64 m.eo, .bool m.sm, .int .u64 m.cd, .slice rA m.rs.length rc, .int .u64 m.n, .int .u64 m.ve, .slice vA m.vs.length vc] 28)) := (Below.refl _ _).alloc (Nat.le_refl _) _
      have hfw := few_anyF m _ _ _ _ ((hMw.below hJ.b).below hba)
      have hT0 := Blk.new wr 28 #[.int .u64 m.kd, .int .u64 m.id, .int .u64 m.al, .slice nA m.nm.length nc, .int .u8 m.pr, .int .u8 m.od, .int .u64 m.sg, .int .u64 m.so, .int .u64 m.eg, .int .u64 m.eo, .bool m.sm, .int .u64 m.cd, .slice rA m.rs.length rc, .int .u64 m.n, .int .u64 m.ve, .slice vA m.vs.length vc]
      have c0 : World.cell? _ ⟨wr.heap.size, 0, none⟩ = some (.int .u64 m.kd) := hT0.cell 0
      have c1 : World.cell? _ ⟨wr.heap.size, 1, none⟩ = some (.int .u64 m.id) := hT0.cell 1
      have c2 : World.cell? _ ⟨wr.heap.size, 2, none⟩ = some (.int .u64 m.al) := hT0.cell 2
      have c3 : World.cell? _ ⟨wr.heap.size, 3, none⟩ = some (.slice nA m.nm.length nc) := hT0.cell 3
      have c4 : World.cell? _ ⟨wr.heap.size, 4, none⟩ = some (.int .u8 m.pr) := hT0.cell 4
      have c5 : World.cell? _ ⟨wr.heap.size, 5, none⟩ = some (.int .u8 m.od) := hT0.cell 5
      have c6 : World.cell? _ ⟨wr.heap.size, 6, none⟩ = some (.int .u64 m.sg) := hT0.cell 6
      have c7 : World.cell? _ ⟨wr.heap.size, 7, none⟩ = some (.int .u64 m.so) := hT0.cell 7
      have c8 : World.cell? _ ⟨wr.heap.size, 8, none⟩ = some (.int .u64 m.eg) := hT0.cell 8
      have c9 : World.cell? _ ⟨wr.heap.size, 9, none⟩ = some (.int .u64 m.eo) := hT0.cell 9
      have c10 : World.cell? _ ⟨wr.heap.size, 10, none⟩ = some (.bool m.sm) := hT0.cell 10
      have c11 : World.cell? _ ⟨wr.heap.size, 11, none⟩ = some (.int .u64 m.cd) := hT0.cell 11
      have c12 : World.cell? _ ⟨wr.heap.size, 12, none⟩ = some (.slice rA m.rs.length rc) := hT0.cell 12
      have c13 : World.cell? _ ⟨wr.heap.size, 13, none⟩ = some (.int .u64 m.n) := hT0.cell 13
      have c14 : World.cell? _ ⟨wr.heap.size, 14, none⟩ = some (.int .u64 m.ve) := hT0.cell 14
      have c15 : World.cell? _ ⟨wr.heap.size, 15, none⟩ = some (.slice vA m.vs.length vc) := hT0.cell 15
      have hpl := fun b e => (hJ.p.lt b e).2
      have hql := fun b e => (hJ.q.lt b e).2
      have HPL := Lib.hid hpl
      have HQL := Lib.hid hql
      clear hpl hql hcw hcr hMw
      go_wp2_with (first | (refine wpList_load_mid rfl 28 (.tmp 21) rfl b O rfl _ _ HRG.out Tryd.underlying28 rfl (by rw [info28]; rfl) ?_) | fail)
      (with_reducible refine hfw.mono ?_)
      clear hO HRG hfw c0 c1 c2 c3 c4 c5 c6 c7 c8 c9 c10 c11 c12 c13 c14 c15
      rintro e w2 ⟨nv2, rv2, vv2, rfl, hn2, hr2, hv2, hb2, hf1, hf2⟩
      have hb02 := hba.trans (hb2.mono hba.size)
      have hT2 := hT0.same hb2
      have hM2 : MX w2 (few m) nv2 rv2 vv2 := ⟨hn2, hr2, _, hv2⟩
      have hx := few_ok hOk
      have hxf := few_fit m
      obtain ⟨x, hxe⟩ : ∃ x, x = few m := ⟨_, rfl⟩
      rw [← hxe] at hM2 hx hxf ⊢
      clear hxe hn2 hr2 hv2 hb2 hT0 hOk
      obtain ⟨nA2, nc2, rfl⟩ := hM2.nm.form
      obtain ⟨rA2, rc2, rfl⟩ := hM2.rs.form
      obtain ⟨vA2, vc2, rfl⟩ := hM2.mv.vs.form
      have HF1 := Lib.hid hf1
      have HF2 := Lib.hid hf2
      have hbs := hba.size
      clear hf1 hf2 hba
      obtain ⟨tb, htb⟩ : ∃ tb, tb = wr.heap.size := ⟨_, rfl⟩
      rw [← htb] at hT2 ⊢
      have HTB := Lib.hid htb
      have c0 : World.cell? w2 ⟨tb, 0, none⟩ = some (.int .u64 m.kd) := hT2.cell 0
      have fc0 := hT2.frozen 0
      have c1 : World.cell? w2 ⟨tb, 1, none⟩ = some (.int .u64 m.id) := hT2.cell 1
      have fc1 := hT2.frozen 1
      have c2 : World.cell? w2 ⟨tb, 2, none⟩ = some (.int .u64 m.al) := hT2.cell 2
      have fc2 := hT2.frozen 2
      have c3 : World.cell? w2 ⟨tb, 3, none⟩ = some (.slice nA m.nm.length nc) := hT2.cell 3
      have fc3 := hT2.frozen 3
      have c4 : World.cell? w2 ⟨tb, 4, none⟩ = some (.int .u8 m.pr) := hT2.cell 4
      have fc4 := hT2.frozen 4
      have c5 : World.cell? w2 ⟨tb, 5, none⟩ = some (.int .u8 m.od) := hT2.cell 5
      have fc5 := hT2.frozen 5
      have c6 : World.cell? w2 ⟨tb, 6, none⟩ = some (.int .u64 m.sg) := hT2.cell 6
      have fc6 := hT2.frozen 6
      have c7 : World.cell? w2 ⟨tb, 7, none⟩ = some (.int .u64 m.so) := hT2.cell 7
      have fc7 := hT2.frozen 7
      have c8 : World.cell? w2 ⟨tb, 8, none⟩ = some (.int .u64 m.eg) := hT2.cell 8
      have fc8 := hT2.frozen 8
      have c9 : World.cell? w2 ⟨tb, 9, none⟩ = some (.int .u64 m.eo) := hT2.cell 9
      have fc9 := hT2.frozen 9
      have c10 : World.cell? w2 ⟨tb, 10, none⟩ = some (.bool m.sm) := hT2.cell 10
      have fc10 := hT2.frozen 10
      have c11 : World.cell? w2 ⟨tb, 11, none⟩ = some (.int .u64 m.cd) := hT2.cell 11
      have fc11 := hT2.frozen 11
      have c12 : World.cell? w2 ⟨tb, 12, none⟩ = some (.slice rA m.rs.length rc) := hT2.cell 12
      have fc12 := hT2.frozen 12
      have c13 : World.cell? w2 ⟨tb, 13, none⟩ = some (.int .u64 m.n) := hT2.cell 13
      have fc13 := hT2.frozen 13
      have c14 : World.cell? w2 ⟨tb, 14, none⟩ = some (.int .u64 m.ve) := hT2.cell 14
      have fc14 := hT2.frozen 14
      have c15 : World.cell? w2 ⟨tb, 15, none⟩ = some (.slice vA m.vs.length vc) := hT2.cell 15
      have fc15 := hT2.frozen 15
      clear htb
      go_upto_region 9 with fail
      have hTf := hT2.set16 (.int .u64 x.kd) (.int .u64 x.id) (.int .u64 x.al) (.slice nA2 x.nm.length nc2) (.int .u8 x.pr) (.int .u8 x.od) (.int .u64 x.sg) (.int .u64 x.so) (.int .u64 x.eg) (.int .u64 x.eo) (.bool x.sm) (.int .u64 x.cd) (.slice rA2 x.rs.length rc2) (.int .u64 x.n) (.int .u64 x.ve) (.slice vA2 x.vs.length vc2)
      have hBf := below16 hb02 (show wr.heap.size ≤ tb by rw [HTB.out]; exact Nat.le_refl _) (.int .u64 x.kd) (.int .u64 x.id) (.int .u64 x.al) (.slice nA2 x.nm.length nc2) (.int .u8 x.pr) (.int .u8 x.od) (.int .u64 x.sg) (.int .u64 x.so) (.int .u64 x.eg) (.int .u64 x.eo) (.bool x.sm) (.int .u64 x.cd) (.slice rA2 x.rs.length rc2) (.int .u64 x.n) (.int .u64 x.ve) (.slice vA2 x.vs.length vc2)
      have hMf := MX.blks hM2 (fun g t cs ht z => far16 z (z.ne_ hT2 ht) (.int .u64 x.kd) (.int .u64 x.id) (.int .u64 x.al) (.slice nA2 x.nm.length nc2) (.int .u8 x.pr) (.int .u8 x.od) (.int .u64 x.sg) (.int .u64 x.so) (.int .u64 x.eg) (.int .u64 x.eo) (.bool x.sm) (.int .u64 x.cd) (.slice rA2 x.rs.length rc2) (.int .u64 x.n) (.int .u64 x.ve) (.slice vA2 x.vs.length vc2)) (by simp)
      refine wp_world (fun wz => Blk wz tb 28 #[.int .u64 x.kd, .int .u64 x.id, .int .u64 x.al, .slice nA2 x.nm.length nc2, .int .u8 x.pr, .int .u8 x.od, .int .u64 x.sg, .int .u64 x.so, .int .u64 x.eg, .int .u64 x.eo, .bool x.sm, .int .u64 x.cd, .slice rA2 x.rs.length rc2, .int .u64 x.n, .int .u64 x.ve, .slice vA2 x.vs.length vc2] ∧ Below wr.heap.size wr wz ∧ MX wz x (.slice nA2 x.nm.length nc2) (.slice rA2 x.rs.length rc2) (.slice vA2 x.vs.length vc2)) ⟨hTf, hBf, hMf⟩ ?_
      clear hTf hBf hMf hT2 hM2 hb02 c0 fc0 c1 fc1 c2 fc2 c3 fc3 c4 fc4 c5 fc5 c6 fc6 c7 fc7 c8 fc8 c9 fc9 c10 fc10 c11 fc11 c12 fc12 c13 fc13 c14 fc14 c15 fc15
      rintro w3 ⟨hT3, hb3, hM3⟩
      as_aux_lemma =>
        have hJ3 := hJ.below hb3
        have c0 : World.cell? w3 ⟨tb, 0, none⟩ = some (.int .u64 x.kd) := hT3.cell 0
        have c1 : World.cell? w3 ⟨tb, 1, none⟩ = some (.int .u64 x.id) := hT3.cell 1
        have c2 : World.cell? w3 ⟨tb, 2, none⟩ = some (.int .u64 x.al) := hT3.cell 2
        have c3 : World.cell? w3 ⟨tb, 3, none⟩ = some (.slice nA2 x.nm.length nc2) := hT3.cell 3
        have c4 : World.cell? w3 ⟨tb, 4, none⟩ = some (.int .u8 x.pr) := hT3.cell 4
        have c5 : World.cell? w3 ⟨tb, 5, none⟩ = some (.int .u8 x.od) := hT3.cell 5
        have c6 : World.cell? w3 ⟨tb, 6, none⟩ = some (.int .u64 x.sg) := hT3.cell 6
        have c7 : World.cell? w3 ⟨tb, 7, none⟩ = some (.int .u64 x.so) := hT3.cell 7
        have c8 : World.cell? w3 ⟨tb, 8, none⟩ = some (.int .u64 x.eg) := hT3.cell 8
        have c9 : World.cell? w3 ⟨tb, 9, none⟩ = some (.int .u64 x.eo) := hT3.cell 9
        have c10 : World.cell? w3 ⟨tb, 10, none⟩ = some (.bool x.sm) := hT3.cell 10
        have c11 : World.cell? w3 ⟨tb, 11, none⟩ = some (.int .u64 x.cd) := hT3.cell 11
        have c12 : World.cell? w3 ⟨tb, 12, none⟩ = some (.slice rA2 x.rs.length rc2) := hT3.cell 12
        have c13 : World.cell? w3 ⟨tb, 13, none⟩ = some (.int .u64 x.n) := hT3.cell 13
        have c14 : World.cell? w3 ⟨tb, 14, none⟩ = some (.int .u64 x.ve) := hT3.cell 14
        have c15 : World.cell? w3 ⟨tb, 15, none⟩ = some (.slice vA2 x.vs.length vc2) := hT3.cell 15
        have hG3 := hG.same hJ3.b
        have hE2 := HE12
        by_cases hR : Right x
        · have hby := bytes_yes x _ _ _ w3 hG3 hM3.mv hx hxf hR
          have hQl := bts_len hR
          have HRX := Lib.hid hR
          clear hR
          obtain ⟨Q, hQ⟩ : ∃ Q, Q = bts x := ⟨_, rfl⟩
          rw [← hQ] at hby hQl
          have HQE := Lib.hid hQ
          clear hQ
          go_wp2_with fail
          (with_reducible refine hby.mono ?_)
          clear hby c0 c1 c2 c3 c4 c5 c6 c7 c8 c9 c10 c11 c12 c13 c14 c15
          rintro e w4 ⟨v7, rfl, ho7, hb4⟩
          have hJ4 := hJ3.below hb4
          have hT4 := hT3.same hb4
          have hM4 := hM3.below hb4
          have hb04 := hb3.trans (hb4.mono hb3.size)
          obtain ⟨A7, c7, rfl, -, -, -⟩ := ho7.form
          clear hJ3 hT3 hM3 hG3 hb4
          by_cases hk12 : k < 12
          · have hk12i : (k : Int) < 12 := by omega
            obtain ⟨P, hP⟩ : ∃ P, P = pB E := ⟨_, rfl⟩
            have HPE := Lib.hid hP
            have hPl : P.length ≤ 600 * E.length := by rw [hP]; exact pB_len E (fun z hz => (hJ4.e z hz).2.1)
            have hS := st_of_js hJ4 hP hM4 (rdt_of_mid ho7) (fun b e e' => by have h1 := HF1.out b e; have h2 := HPL.out b e'; omega) (fun b e e' => by have h1 := HF2.out b e; have h2 := HPL.out b e'; omega) (fun b e e' => by have h1 := (ho7.lt b e).1; have h2 := HPL.out b e'; have h3 := hb3.size; omega)
            have HE := Lib.hid (fun z hz => And.intro (hJ4.e z hz).1 (hJ4.e z hz).2.1 : ∀ y ∈ E, y.x.Ok ∧ Right y.x)
            have hTQ : u4.ownBlock ≠ some tb := fun e => by have h2 := HQL.out tb e; have := HTB.out; omega
            have HTQ := Lib.hid hTQ
            clear hP hTQ
            obtain ⟨i0, hi0, hz0, hz1, hz2⟩ := info_parts infoB
            obtain ⟨iM, hj0, hj1, hj2, hj3⟩ := info_parts infoM
            have hbd1 : P.length + Q.length ≤ maxLen := by unfold maxLen; omega
            have hbd2 : (P.length + Q.length) * 1 ≤ 140737488355328 := by omega
            have hbq1 : E.length + 1 ≤ maxLen := by unfold maxLen; omega
            have hbq2 : (E.length + 1) * 168 ≤ 140737488355328 := by omega
            have hone : ∀ u ∈ El.cs ⟨x, .slice nA2 x.nm.length nc2, .slice rA2 x.rs.length rc2, .slice vA2 x.vs.length vc2⟩, u.oneCell' = true := fun u hu => one28 _ u hu rfl rfl rfl
            clear hJ4 ho7 hM4 hb3 hJ hb04
            go_upto_region 11 with fail
            have hS0 := hS.below (w' := w4.drew) (below_drewN (Below.refl _ _) 1)
            have hT0 := hT4.drew
            clear hS hT4
            refine wp_region_held_drew (S := fun w' => w'.rangeAt tb 0 [.int .u64 x.kd, .int .u64 x.id, .int .u64 x.al, .slice nA2 x.nm.length nc2, .int .u8 x.pr, .int .u8 x.od, .int .u64 x.sg, .int .u64 x.so, .int .u64 x.eg, .int .u64 x.eo, .bool x.sm, .int .u64 x.cd, .slice rA2 x.rs.length rc2, .int .u64 x.n, .int .u64 x.ve, .slice vA2 x.vs.length vc2]) (by kernel_rfl) (by first | exact rg_blk hT3 | exact rg_blk hT2 | exact rg_blk hT1 | exact rg_blk hT0) (fun _ => ?_)
            refine wpAnyH_take (i := 0) (oi := ({ dst := some 36, op := Op.move (Operand.tmp 3), type := 23, pos := _, after := #[], guard := none } : Oper)) (v := ?_) rfl (by kernel_rfl) (by kernel_rfl) (by kernel_rfl) (fun _ _ _ h => h) (Or.inl ⟨by rfl, ?_⟩) (by first | exact rg_blk hT3 | exact rg_blk hT2 | exact rg_blk hT1 | exact rg_blk hT0) ?_
            rotate_left
            · intro w hSw
              try dsimp only at hSw
              go_simp
              try with_reducible rfl
            try simp only [Act.put, List.setIfInBounds_toArray, List.set_cons_zero, List.set_cons_succ]
            refine wpAnyH_take (i := 1) (oi := ({ dst := some 37, op := Op.move (Operand.tmp 7), type := 23, pos := _, after := #[], guard := none } : Oper)) (v := ?_) rfl (by kernel_rfl) (by kernel_rfl) (by kernel_rfl) (fun _ _ _ h => h) (Or.inl ⟨by rfl, ?_⟩) (by first | exact rg_blk hT3 | exact rg_blk hT2 | exact rg_blk hT1 | exact rg_blk hT0) ?_
            rotate_left
            · intro w hSw
              try dsimp only at hSw
              go_simp
              try with_reducible rfl
            try simp only [Act.put, List.setIfInBounds_toArray, List.set_cons_zero, List.set_cons_succ]
            refine wpAnyH_take (i := 3) (oi := ({ dst := some 39, op := Op.move (Operand.tmp 4), type := 49, pos := _, after := #[], guard := none } : Oper)) (v := ?_) rfl (by kernel_rfl) (by kernel_rfl) (by kernel_rfl) (fun _ _ _ h => h) (Or.inl ⟨by rfl, ?_⟩) (by first | exact rg_blk hT3 | exact rg_blk hT2 | exact rg_blk hT1 | exact rg_blk hT0) ?_
            rotate_left
            · intro w hSw
              try dsimp only at hSw
              go_simp
              try with_reducible rfl
            try simp only [Act.put, List.setIfInBounds_toArray, List.set_cons_zero, List.set_cons_succ]
            refine wpAnyH_take (i := 4) (oi := ({ dst := some 40, op := Op.load 28 (Operand.tmp 6), type := 28, pos := _, after := #[], guard := none } : Oper)) (v := .agg #[.int .u64 x.kd, .int .u64 x.id, .int .u64 x.al, .slice nA2 x.nm.length nc2, .int .u8 x.pr, .int .u8 x.od, .int .u64 x.sg, .int .u64 x.so, .int .u64 x.eg, .int .u64 x.eo, .bool x.sm, .int .u64 x.cd, .slice rA2 x.rs.length rc2, .int .u64 x.n, .int .u64 x.ve, .slice vA2 x.vs.length vc2]) rfl (by kernel_rfl) (by kernel_rfl) (by kernel_rfl) (fun _ _ _ h => h) (yieldsIf_load_mid (by rfl) 28 (.tmp 6) rfl tb 0 rfl [.int .u64 x.kd, .int .u64 x.id, .int .u64 x.al, .slice nA2 x.nm.length nc2, .int .u8 x.pr, .int .u8 x.od, .int .u64 x.sg, .int .u64 x.so, .int .u64 x.eg, .int .u64 x.eo, .bool x.sm, .int .u64 x.cd, .slice rA2 x.rs.length rc2, .int .u64 x.n, .int .u64 x.ve, .slice vA2 x.vs.length vc2] _ (fun _ h => h) Tryd.underlying28 rfl (by rw [info28]; rfl)) (by first | exact rg_blk hT3 | exact rg_blk hT2 | exact rg_blk hT1 | exact rg_blk hT0) ?_
            try simp only [Act.put, List.setIfInBounds_toArray, List.set_cons_zero, List.set_cons_succ]
            refine wpAnyH_ready (rs := [2, 5]) (by kernel_rfl) (by simp) ?_
            refine (AllReadyH.cons (o := ({ dst := some 38, op := Op.call { callee := Callee.builtin Builtin.append, args := #[Operand.tmp 36, Operand.tmp 37], argTypes := #[23, 23] }, type := 23, pos := _, after := #[{ on := 0, ground := Ground.data }, { on := 1, ground := Ground.data }], guard := none } : Oper)) rfl (fun K hK => ?_) (AllReadyH.cons (o := ({ dst := some 41, op := Op.buildSlice 49 1 #[(0, Operand.tmp 40)], type := 49, pos := _, after := #[{ on := 4, ground := Ground.data }], guard := none } : Oper)) rfl (fun K hK => ?_) AllReadyH.nil))
            · refine step_append_any _ rfl _ _ 23 rfl w.heap.size 5 i0 _ 1 1 Tryd.underlying23 hi0 hz0 hz1 hz2 rfl (by decide) u3 P.length _ rfl hS0.p A7 Q.length c7 _ rfl hS0.o.1.1.rdv.2.2.2.2 (oneInts _ _) hbd1 hbd2 hS0.b.size hS0.o.1.1.rdv.2.1 ?_
              intro v9 W1 hown9 hgrow9 hat9
              obtain ⟨A9, c9, e9, -⟩ := sl_of_own hown9
              subst e9
              have hS1 := hS0.appP (pl' := P ++ Q) hgrow9 (by rw [List.length_append, List.map_append]; exact hown9) hat9
              have hT1 := hT0.grown hgrow9 (fun e => own_blk_ne hS0.p hT0 (by decide) e.symm)
              refine hK.out _ _ (by first | exact rg_blk hT3 | exact rg_blk hT2 | exact rg_blk hT1 | exact rg_blk hT0) (fun _ => ?_)
              clear hK K
              try simp only [Act.put, List.setIfInBounds_toArray, List.set_cons_zero, List.set_cons_succ]
              refine wpAnyH_ready (rs := [5]) (by kernel_rfl) (by simp) ?_
              refine (AllReadyH.cons (o := ({ dst := some 41, op := Op.buildSlice 49 1 #[(0, Operand.tmp 40)], type := 49, pos := _, after := #[{ on := 4, ground := Ground.data }], guard := none } : Oper)) rfl (fun K hK => ?_) AllReadyH.nil)
              refine step_lit28 rfl (.tmp 40) rfl (.int .u64 x.kd) (.int .u64 x.id) (.int .u64 x.al) (.slice nA2 x.nm.length nc2) (.int .u8 x.pr) (.int .u8 x.od) (.int .u64 x.sg) (.int .u64 x.so) (.int .u64 x.eg) (.int .u64 x.eo) (.bool x.sm) (.int .u64 x.cd) (.slice rA2 x.rs.length rc2) (.int .u64 x.n) (.int .u64 x.ve) (.slice vA2 x.vs.length vc2) rfl ?_
              have hba1 : Below W1.heap.size W1 (W1.alloc (.cells #[.int .u64 x.kd, .int .u64 x.id, .int .u64 x.al, .slice nA2 x.nm.length nc2, .int .u8 x.pr, .int .u8 x.od, .int .u64 x.sg, .int .u64 x.so, .int .u64 x.eg, .int .u64 x.eo, .bool x.sm, .int .u64 x.cd, .slice rA2 x.rs.length rc2, .int .u64 x.n, .int .u64 x.ve, .slice vA2 x.vs.length vc2] 28)) := (Below.refl _ _).alloc (Nat.le_refl _) _
              have hL2' := lit28 W1 ⟨x, .slice nA2 x.nm.length nc2, .slice rA2 x.rs.length rc2, .slice vA2 x.vs.length vc2⟩
              obtain ⟨W2, hW2⟩ : ∃ Z, Z = W1.alloc (.cells #[.int .u64 x.kd, .int .u64 x.id, .int .u64 x.al, .slice nA2 x.nm.length nc2, .int .u8 x.pr, .int .u8 x.od, .int .u64 x.sg, .int .u64 x.so, .int .u64 x.eg, .int .u64 x.eo, .bool x.sm, .int .u64 x.cd, .slice rA2 x.rs.length rc2, .int .u64 x.n, .int .u64 x.ve, .slice vA2 x.vs.length vc2] 28) := ⟨_, rfl⟩
              have hL2 : W2.ownsRow 0 28 16 (.slice (some ⟨W1.heap.size, 0, none⟩) 1 1) 1 (El.cs ⟨x, .slice nA2 x.nm.length nc2, .slice rA2 x.rs.length rc2, .slice vA2 x.vs.length vc2⟩) := by rw [hW2]; exact hL2'
              rw [← hW2] at hba1
              rw [show W1.alloc (.cells #[.int .u64 x.kd, .int .u64 x.id, .int .u64 x.al, .slice nA2 x.nm.length nc2, .int .u8 x.pr, .int .u8 x.od, .int .u64 x.sg, .int .u64 x.so, .int .u64 x.eg, .int .u64 x.eo, .bool x.sm, .int .u64 x.cd, .slice rA2 x.rs.length rc2, .int .u64 x.n, .int .u64 x.ve, .slice vA2 x.vs.length vc2] 28) = W2 from hW2.symm]
              clear hL2' hW2
              have hS2 := hS1.below hba1
              have hT2 := hT1.same hba1
              obtain ⟨lb, hlb⟩ : ∃ lb, lb = W1.heap.size := ⟨_, rfl⟩
              replace hL2 : W2.ownsRow 0 28 16 (.slice (some ⟨lb, 0, none⟩) 1 1) 1 (El.cs ⟨x, .slice nA2 x.nm.length nc2, .slice rA2 x.rs.length rc2, .slice vA2 x.vs.length vc2⟩) := by rw [hlb]; exact hL2
              rw [← hlb]
              have HLB := Lib.hid hlb
              clear hlb
              refine hK.out _ _ (by first | exact rg_blk hT3 | exact rg_blk hT2 | exact rg_blk hT1 | exact rg_blk hT0) (fun _ => ?_)
              clear hK K
              try simp only [Act.put, List.setIfInBounds_toArray, List.set_cons_zero, List.set_cons_succ]
              refine wpAnyH_ready (rs := [6]) (by kernel_rfl) (by simp) ?_
              refine (AllReadyH.cons (o := ({ dst := some 42, op := Op.call { callee := Callee.builtin Builtin.append, args := #[Operand.tmp 39, Operand.tmp 41], argTypes := #[49, 49] }, type := 49, pos := _, after := #[{ on := 3, ground := Ground.data }, { on := 5, ground := Ground.data }, { on := 2, ground := Ground.chain }], guard := none } : Oper)) rfl (fun K hK => ?_) AllReadyH.nil)
              refine step_append_any _ rfl _ _ 49 rfl w.heap.size 28 iM _ 16 168 Tryd.underlying49 hj0 hj1 hj2 hj3 rfl (by decide) u4 E.length _ rfl hS2.q (some ⟨lb, 0, none⟩) 1 1 _ rfl (rdv28 hL2) hone hbq1 hbq2 hS2.b.size (fun e => by cases e) ?_
              intro v8 W3 hown8 hgrow8 hat8
              obtain ⟨A8, c8, e8, -⟩ := sl_of_own hown8
              subst e8
              have hS3 := hS2.appQ hgrow8 hown8
              have hT3 := hT2.grown hgrow8 (fun e => HTQ.out e.symm)
              refine hK.out _ _ (by first | exact rg_blk hT3 | exact rg_blk hT2 | exact rg_blk hT1 | exact rg_blk hT0) (fun _ => ?_)
              clear hK K
              try simp only [Act.put, List.setIfInBounds_toArray, List.set_cons_zero, List.set_cons_succ]
              refine wpAnyH_take (i := 7) (oi := ({ dst := some 3, op := Op.assign (Operand.tmp 38), type := 23, pos := _, after := #[{ on := 2, ground := Ground.data }, { on := 6, ground := Ground.chain }, { on := 0, ground := Ground.phase }, { on := 1, ground := Ground.phase }, { on := 2, ground := Ground.phase }, { on := 3, ground := Ground.textOnly Departure.lateStores }, { on := 4, ground := Ground.textOnly Departure.lateStores }, { on := 5, ground := Ground.textOnly Departure.lateStores }, { on := 6, ground := Ground.textOnly Departure.lateStoresUnsure }], guard := none } : Oper)) (v := ?_) rfl (by kernel_rfl) (by kernel_rfl) (by kernel_rfl) (fun _ _ _ h => h) (Or.inl ⟨by rfl, ?_⟩) (by first | exact rg_blk hT3 | exact rg_blk hT2 | exact rg_blk hT1 | exact rg_blk hT0) ?_
              rotate_left
              · intro w hSw
                try dsimp only at hSw
                go_simp
                try with_reducible rfl
              try simp only [Act.put, List.setIfInBounds_toArray, List.set_cons_zero, List.set_cons_succ]
              refine wpAnyH_take (i := 8) (oi := ({ dst := some 4, op := Op.assign (Operand.tmp 42), type := 49, pos := _, after := #[{ on := 6, ground := Ground.data }, { on := 7, ground := Ground.chain }, { on := 0, ground := Ground.phase }, { on := 1, ground := Ground.phase }, { on := 2, ground := Ground.phase }, { on := 3, ground := Ground.phase }, { on := 4, ground := Ground.phase }, { on := 5, ground := Ground.phase }, { on := 6, ground := Ground.phase }, { on := 7, ground := Ground.phase }], guard := none } : Oper)) (v := ?_) rfl (by kernel_rfl) (by kernel_rfl) (by kernel_rfl) (fun _ _ _ h => h) (Or.inl ⟨by rfl, ?_⟩) (by first | exact rg_blk hT3 | exact rg_blk hT2 | exact rg_blk hT1 | exact rg_blk hT0) ?_
              rotate_left
              · intro w hSw
                try dsimp only at hSw
                go_simp
                try with_reducible rfl
              try simp only [Act.put, List.setIfInBounds_toArray, List.set_cons_zero, List.set_cons_succ]
              refine wpAnyH_done (by kernel_rfl) ?_ _
              have hjs := js_of_st (z := ⟨x, .slice nA2 x.nm.length nc2, .slice rA2 x.rs.length rc2, .slice vA2 x.vs.length vc2⟩) HE.out hx HRX.out HPE.out HQE.out hS3
              have hel : (E ++ [(⟨x, .slice nA2 x.nm.length nc2, .slice rA2 x.rs.length rc2, .slice vA2 x.vs.length vc2⟩ : El)]).length = E.length + 1 := by rw [List.length_append]; rfl
              have HEL := Lib.hid hel
              clear hel hone
              go_wp2_with fail
              go_roundg (N - (k + 1))
              case measure => omega
              case rel =>
                have h9 := HEL.out
                have h10 := HE12.out
                have ha : (E ++ [(⟨x, .slice nA2 x.nm.length nc2, .slice rA2 x.rs.length rc2, .slice vA2 x.vs.length vc2⟩ : El)]).length ≤ k + 1 := by rw [h9]; omega
                have hb : (E ++ [(⟨x, .slice nA2 x.nm.length nc2, .slice rA2 x.rs.length rc2, .slice vA2 x.vs.length vc2⟩ : El)]).length ≤ 12 := by rw [h9]; omega
                have hc : k + 1 ≤ N := hlt
                refine ⟨k + 1, E ++ [⟨x, .slice nA2 x.nm.length nc2, .slice rA2 x.rs.length rc2, .slice vA2 x.vs.length vc2⟩], ?_⟩
                exact ⟨rfl, hc, congrArg (Value.int .i64) (show (k : Int) + 1 = ((k + 1 : Nat) : Int) from rfl), ha, hb, hjs⟩
            · refine step_lit28 rfl (.tmp 40) rfl (.int .u64 x.kd) (.int .u64 x.id) (.int .u64 x.al) (.slice nA2 x.nm.length nc2) (.int .u8 x.pr) (.int .u8 x.od) (.int .u64 x.sg) (.int .u64 x.so) (.int .u64 x.eg) (.int .u64 x.eo) (.bool x.sm) (.int .u64 x.cd) (.slice rA2 x.rs.length rc2) (.int .u64 x.n) (.int .u64 x.ve) (.slice vA2 x.vs.length vc2) rfl ?_
              have hba0 : Below w4.drew.heap.size w4.drew (w4.drew.alloc (.cells #[.int .u64 x.kd, .int .u64 x.id, .int .u64 x.al, .slice nA2 x.nm.length nc2, .int .u8 x.pr, .int .u8 x.od, .int .u64 x.sg, .int .u64 x.so, .int .u64 x.eg, .int .u64 x.eo, .bool x.sm, .int .u64 x.cd, .slice rA2 x.rs.length rc2, .int .u64 x.n, .int .u64 x.ve, .slice vA2 x.vs.length vc2] 28)) := (Below.refl _ _).alloc (Nat.le_refl _) _
              have hL1' := lit28 w4.drew ⟨x, .slice nA2 x.nm.length nc2, .slice rA2 x.rs.length rc2, .slice vA2 x.vs.length vc2⟩
              obtain ⟨W1, hW1⟩ : ∃ Z, Z = w4.drew.alloc (.cells #[.int .u64 x.kd, .int .u64 x.id, .int .u64 x.al, .slice nA2 x.nm.length nc2, .int .u8 x.pr, .int .u8 x.od, .int .u64 x.sg, .int .u64 x.so, .int .u64 x.eg, .int .u64 x.eo, .bool x.sm, .int .u64 x.cd, .slice rA2 x.rs.length rc2, .int .u64 x.n, .int .u64 x.ve, .slice vA2 x.vs.length vc2] 28) := ⟨_, rfl⟩
              have hL1 : W1.ownsRow 0 28 16 (.slice (some ⟨w4.drew.heap.size, 0, none⟩) 1 1) 1 (El.cs ⟨x, .slice nA2 x.nm.length nc2, .slice rA2 x.rs.length rc2, .slice vA2 x.vs.length vc2⟩) := by rw [hW1]; exact hL1'
              rw [← hW1] at hba0
              rw [show w4.drew.alloc (.cells #[.int .u64 x.kd, .int .u64 x.id, .int .u64 x.al, .slice nA2 x.nm.length nc2, .int .u8 x.pr, .int .u8 x.od, .int .u64 x.sg, .int .u64 x.so, .int .u64 x.eg, .int .u64 x.eo, .bool x.sm, .int .u64 x.cd, .slice rA2 x.rs.length rc2, .int .u64 x.n, .int .u64 x.ve, .slice vA2 x.vs.length vc2] 28) = W1 from hW1.symm]
              clear hL1' hW1
              have hS1 := hS0.below hba0
              have hT1 := hT0.same hba0
              obtain ⟨lb, hlb⟩ : ∃ lb, lb = w4.drew.heap.size := ⟨_, rfl⟩
              replace hL1 : W1.ownsRow 0 28 16 (.slice (some ⟨lb, 0, none⟩) 1 1) 1 (El.cs ⟨x, .slice nA2 x.nm.length nc2, .slice rA2 x.rs.length rc2, .slice vA2 x.vs.length vc2⟩) := by rw [hlb]; exact hL1
              rw [← hlb]
              have HLB := Lib.hid hlb
              clear hlb
              refine hK.out _ _ (by first | exact rg_blk hT3 | exact rg_blk hT2 | exact rg_blk hT1 | exact rg_blk hT0) (fun _ => ?_)
              clear hK K
              try simp only [Act.put, List.setIfInBounds_toArray, List.set_cons_zero, List.set_cons_succ]
              refine wpAnyH_ready (rs := [2]) (by kernel_rfl) (by simp) ?_
              refine (AllReadyH.cons (o := ({ dst := some 38, op := Op.call { callee := Callee.builtin Builtin.append, args := #[Operand.tmp 36, Operand.tmp 37], argTypes := #[23, 23] }, type := 23, pos := _, after := #[{ on := 0, ground := Ground.data }, { on := 1, ground := Ground.data }], guard := none } : Oper)) rfl (fun K hK => ?_) AllReadyH.nil)
              refine step_append_any _ rfl _ _ 23 rfl w.heap.size 5 i0 _ 1 1 Tryd.underlying23 hi0 hz0 hz1 hz2 rfl (by decide) u3 P.length _ rfl hS1.p A7 Q.length c7 _ rfl hS1.o.1.1.rdv.2.2.2.2 (oneInts _ _) hbd1 hbd2 hS1.b.size hS1.o.1.1.rdv.2.1 ?_
              intro v9 W2 hown9 hgrow9 hat9
              obtain ⟨A9, c9, e9, -⟩ := sl_of_own hown9
              subst e9
              have hS2 := hS1.appP (pl' := P ++ Q) hgrow9 (by rw [List.length_append, List.map_append]; exact hown9) hat9
              have hT2 := hT1.grown hgrow9 (fun e => own_blk_ne hS1.p hT1 (by decide) e.symm)
              have hL2 := own_grown hL1 hgrow9 (own_typ hL1 hS1.p (by decide))
              refine hK.out _ _ (by first | exact rg_blk hT3 | exact rg_blk hT2 | exact rg_blk hT1 | exact rg_blk hT0) (fun _ => ?_)
              clear hK K
              try simp only [Act.put, List.setIfInBounds_toArray, List.set_cons_zero, List.set_cons_succ]
              refine wpAnyH_ready (rs := [6]) (by kernel_rfl) (by simp) ?_
              refine (AllReadyH.cons (o := ({ dst := some 42, op := Op.call { callee := Callee.builtin Builtin.append, args := #[Operand.tmp 39, Operand.tmp 41], argTypes := #[49, 49] }, type := 49, pos := _, after := #[{ on := 3, ground := Ground.data }, { on := 5, ground := Ground.data }, { on := 2, ground := Ground.chain }], guard := none } : Oper)) rfl (fun K hK => ?_) AllReadyH.nil)
              refine step_append_any _ rfl _ _ 49 rfl w.heap.size 28 iM _ 16 168 Tryd.underlying49 hj0 hj1 hj2 hj3 rfl (by decide) u4 E.length _ rfl hS2.q (some ⟨lb, 0, none⟩) 1 1 _ rfl (rdv28 hL2) hone hbq1 hbq2 hS2.b.size (fun e => by cases e) ?_
              intro v8 W3 hown8 hgrow8 hat8
              obtain ⟨A8, c8, e8, -⟩ := sl_of_own hown8
              subst e8
              have hS3 := hS2.appQ hgrow8 hown8
              have hT3 := hT2.grown hgrow8 (fun e => HTQ.out e.symm)
              refine hK.out _ _ (by first | exact rg_blk hT3 | exact rg_blk hT2 | exact rg_blk hT1 | exact rg_blk hT0) (fun _ => ?_)
              clear hK K
              try simp only [Act.put, List.setIfInBounds_toArray, List.set_cons_zero, List.set_cons_succ]
              refine wpAnyH_take (i := 7) (oi := ({ dst := some 3, op := Op.assign (Operand.tmp 38), type := 23, pos := _, after := #[{ on := 2, ground := Ground.data }, { on := 6, ground := Ground.chain }, { on := 0, ground := Ground.phase }, { on := 1, ground := Ground.phase }, { on := 2, ground := Ground.phase }, { on := 3, ground := Ground.textOnly Departure.lateStores }, { on := 4, ground := Ground.textOnly Departure.lateStores }, { on := 5, ground := Ground.textOnly Departure.lateStores }, { on := 6, ground := Ground.textOnly Departure.lateStoresUnsure }], guard := none } : Oper)) (v := ?_) rfl (by kernel_rfl) (by kernel_rfl) (by kernel_rfl) (fun _ _ _ h => h) (Or.inl ⟨by rfl, ?_⟩) (by first | exact rg_blk hT3 | exact rg_blk hT2 | exact rg_blk hT1 | exact rg_blk hT0) ?_
              rotate_left
              · intro w hSw
                try dsimp only at hSw
                go_simp
                try with_reducible rfl
              try simp only [Act.put, List.setIfInBounds_toArray, List.set_cons_zero, List.set_cons_succ]
              refine wpAnyH_take (i := 8) (oi := ({ dst := some 4, op := Op.assign (Operand.tmp 42), type := 49, pos := _, after := #[{ on := 6, ground := Ground.data }, { on := 7, ground := Ground.chain }, { on := 0, ground := Ground.phase }, { on := 1, ground := Ground.phase }, { on := 2, ground := Ground.phase }, { on := 3, ground := Ground.phase }, { on := 4, ground := Ground.phase }, { on := 5, ground := Ground.phase }, { on := 6, ground := Ground.phase }, { on := 7, ground := Ground.phase }], guard := none } : Oper)) (v := ?_) rfl (by kernel_rfl) (by kernel_rfl) (by kernel_rfl) (fun _ _ _ h => h) (Or.inl ⟨by rfl, ?_⟩) (by first | exact rg_blk hT3 | exact rg_blk hT2 | exact rg_blk hT1 | exact rg_blk hT0) ?_
              rotate_left
              · intro w hSw
                try dsimp only at hSw
                go_simp
                try with_reducible rfl
              try simp only [Act.put, List.setIfInBounds_toArray, List.set_cons_zero, List.set_cons_succ]
              refine wpAnyH_done (by kernel_rfl) ?_ _
              have hjs := js_of_st (z := ⟨x, .slice nA2 x.nm.length nc2, .slice rA2 x.rs.length rc2, .slice vA2 x.vs.length vc2⟩) HE.out hx HRX.out HPE.out HQE.out hS3
              have hel : (E ++ [(⟨x, .slice nA2 x.nm.length nc2, .slice rA2 x.rs.length rc2, .slice vA2 x.vs.length vc2⟩ : El)]).length = E.length + 1 := by rw [List.length_append]; rfl
              have HEL := Lib.hid hel
              clear hel hone
              go_wp2_with fail
              go_roundg (N - (k + 1))
              case measure => omega
              case rel =>
                have h9 := HEL.out
                have h10 := HE12.out
                have ha : (E ++ [(⟨x, .slice nA2 x.nm.length nc2, .slice rA2 x.rs.length rc2, .slice vA2 x.vs.length vc2⟩ : El)]).length ≤ k + 1 := by rw [h9]; omega
                have hb : (E ++ [(⟨x, .slice nA2 x.nm.length nc2, .slice rA2 x.rs.length rc2, .slice vA2 x.vs.length vc2⟩ : El)]).length ≤ 12 := by rw [h9]; omega
                have hc : k + 1 ≤ N := hlt
                refine ⟨k + 1, E ++ [⟨x, .slice nA2 x.nm.length nc2, .slice rA2 x.rs.length rc2, .slice vA2 x.vs.length vc2⟩], ?_⟩
                exact ⟨rfl, hc, congrArg (Value.int .i64) (show (k : Int) + 1 = ((k + 1 : Nat) : Int) from rfl), ha, hb, hjs⟩
          · have hk12i : ¬ (k : Int) < 12 := by omega
            go_wp2_with fail
            go_roundg (N - (k + 1))
            case measure => omega
            case rel => exact ⟨k + 1, E, rfl, by omega, by go_num, by omega, HE12.out, hJ4⟩
        · have hby := bytes_no x _ _ _ w3 hG3 hM3.mv hx hxf (by cases hr : rt x with | false => rfl | true => exact absurd ((rt_iff x hx).1 hr) hR)
          clear hR
          go_wp2_with fail
          (with_reducible refine hby.mono ?_)
          clear hby c0 c1 c2 c3 c4 c5 c6 c7 c8 c9 c10 c11 c12 c13 c14 c15
          rintro e w4 ⟨rfl, hb4⟩
          have hJ4 := hJ3.below hb4
          go_wp2_with fail
          all_goals go_roundg (N - (k + 1))
          all_goals first | omega | exact ⟨k + 1, E, rfl, by omega, by go_num, by omega, HE12.out, hJ4⟩
    · have hlen := hE12
      obtain ⟨AP, cP, e3, -⟩ := sl_of_own hJ.p
      obtain ⟨AW, cW, e4, -⟩ := sl_of_own hJ.q
      subst e3 e4
      refine wp_world (fun wz => JS w wz E (.slice AP (pB E).length cP) (.slice AW E.length cW)) hJ ?_
      clear hJ
      rintro w6 hJ6
      have hE6 := fun z hz => And.intro (hJ6.e z hz).1 (hJ6.e z hz).2.1
      have HE6 := Lib.hid hE6
      have HJ6 := Lib.hid hJ6
      have hP0 := rd_of_own hJ6.p
      have hG6 := hG.same hJ6.b
      clear hE6 hJ6
      obtain ⟨P0, hP0e⟩ : ∃ P, P = pB E := ⟨_, rfl⟩
      rw [← hP0e] at hP0 ⊢
      have HP0 := Lib.hid hP0e
      clear hP0e
      go_wp2_with fail
      go_loopg [3, 46] E.length (fun gk s3 s46 wr => ∃ (k : Nat) (t : List Int) (A : Option Addr) (c : Nat), gk = E.length - k ∧ k ≤ E.length ∧ s46 = .int .i64 k ∧ s3 = .slice A t.length c ∧ L2 w6 wr E k t (.slice A t.length c))
      case atStart => exact ⟨0, P0, AP, cP, rfl, Nat.zero_le _, rfl, rfl, ⟨HP0.out, hP0, Below.refl _ _⟩⟩
      case round =>
        clear hP0
        obtain ⟨k2, t, A2, c2, hgk2, hk2, rfl, rfl, hL⟩ := hrel
        by_cases hlt2 : k2 < E.length
        · obtain ⟨b, off, rfl, hbl, hc⟩ := (rdv28 HJ6.out.q).2 k2 hlt2
          have hzm : E[k2] ∈ E := List.getElem_mem hlt2
          obtain ⟨hx, hR, hM6, -, -⟩ := HJ6.out.e _ hzm
          have hcs : ∀ j, j < 16 → wr.cell? ⟨b, off + (k2 * 16 + j), none⟩ = (E[k2]).cs[j]? := fun j hj => by
            rw [(hL.b.cell (p := ⟨b, off + (k2 * 16 + j), none⟩) hbl).trans (hc j hj), ← wC_get E k2 j hlt2 hj]
            have hjl : k2 * 16 + j < (wC E).length := by rw [wC_len]; omega
            simp [List.getD, hjl]
          have htk := hL.te
          rw [pB_drop E k2 hlt2] at htk
          obtain ⟨u, hu⟩ : ∃ u, u = pB (E.drop (k2 + 1)) := ⟨_, rfl⟩
          have huk : BytesOk u := by rw [hu]; exact pB_ok _ (fun z hz => HE6.out z (List.mem_of_mem_drop hz))
          have hul : u.length ≤ 600 * (E.drop (k2 + 1)).length := by rw [hu]; exact pB_len _ (fun z hz => (HE6.out z (List.mem_of_mem_drop hz)).2)
          rw [List.length_drop] at hul
          rw [← hu] at htk
          have HU := Lib.hid hu
          generalize E[k2] = z at hx hR hM6 hcs htk
          obtain ⟨x, nv, rv, vv⟩ := z
          simp only at hx hR hM6 htk
          obtain ⟨nA, nc, rfl⟩ := hM6.nm.form
          obtain ⟨rA, rc, rfl⟩ := hM6.rs.form
          obtain ⟨vA, vc, rfl⟩ := hM6.mv.vs.form
          obtain ⟨O, hO⟩ : ∃ O, off + k2 * 16 = O := ⟨_, rfl⟩
          have hrg : wr.rangeAt b O (x.cells (.slice nA x.nm.length nc) (.slice rA x.rs.length rc) (.slice vA x.vs.length vc)).toList := fun j v hv => by
            have hj : j < 16 := (List.getElem?_eq_some_iff.1 hv).1
            rw [← hO, Nat.add_assoc]; exact (hcs j hj).trans hv
          have HRG := Lib.hid hrg
          have hba : Below wr.heap.size wr (wr.alloc (.cells #[.int .u64 x.kd, .int .u64 x.id, .int .u64 x.al, .slice nA x.nm.length nc, .int .u8 x.pr, .int .u8 x.od, .int .u64 x.sg, .int .u64 x.so, .int .u64 x.eg, .int .u64 x.eo, .bool x.sm, .int .u64 x.cd, .slice rA x.rs.length rc, .int .u64 x.n, .int .u64 x.ve, .slice vA x.vs.length vc] 28)) := (Below.refl _ _).alloc (Nat.le_refl _) _
          have hT0 := Blk.new wr 28 #[.int .u64 x.kd, .int .u64 x.id, .int .u64 x.al, .slice nA x.nm.length nc, .int .u8 x.pr, .int .u8 x.od, .int .u64 x.sg, .int .u64 x.so, .int .u64 x.eg, .int .u64 x.eo, .bool x.sm, .int .u64 x.cd, .slice rA x.rs.length rc, .int .u64 x.n, .int .u64 x.ve, .slice vA x.vs.length vc]
          have hrb : Rd wr .u8 (.slice A2 t.length c2) (bts x ++ u) := by have := hL.r; rw [htk] at this ⊢; exact this
          have hbL := hL.b
          have hbw := HJ6.out.b.trans (hbL.mono HJ6.out.b.size)
          have hrd := read_btsQ _ x u _ (hG.same (hbw.trans (hba.mono hbw.size))) hx hR (hrb.below hba) huk (by omega)
          have HTK := Lib.hid htk
          clear hc hcs hzm hu htk huk hul hrg hL hrb
          go_wp2_with (first | (refine wpList_load_mid rfl 28 (.tmp 48) rfl b O rfl _ _ HRG.out Tryd.underlying28 rfl (by rw [info28]; rfl) ?_) | fail)
          (with_reducible refine hrd.mono ?_)
          clear hrd hO HRG
          rintro e w7 ⟨hout, hb7⟩
          obtain ⟨nA6, nc6, rA6, rc6, vA6, vc6, bA6, bc6, rfl, hM7, hr7⟩ := rdout_some hout
          have hT7 := hT0.same hb7
          have hb67 := hbL.trans ((hba.trans (hb7.mono hba.size)).mono hbL.size)
          have hbb : Below w7.heap.size w7 (w7.alloc (.cells #[.int .u64 x.kd, .int .u64 x.id, .int .u64 x.al, .slice nA6 x.nm.length nc6, .int .u8 x.pr, .int .u8 x.od, .int .u64 x.sg, .int .u64 x.so, .int .u64 x.eg, .int .u64 x.eo, .bool x.sm, .int .u64 x.cd, .slice rA6 x.rs.length rc6, .int .u64 x.n, .int .u64 x.ve, .slice vA6 x.vs.length vc6] 31)) := (Below.refl _ _).alloc (Nat.le_refl _) _
          have hX8 := Blk.new w7 31 #[.int .u64 x.kd, .int .u64 x.id, .int .u64 x.al, .slice nA6 x.nm.length nc6, .int .u8 x.pr, .int .u8 x.od, .int .u64 x.sg, .int .u64 x.so, .int .u64 x.eg, .int .u64 x.eo, .bool x.sm, .int .u64 x.cd, .slice rA6 x.rs.length rc6, .int .u64 x.n, .int .u64 x.ve, .slice vA6 x.vs.length vc6]
          have hT8 := hT7.same hbb
          have hb68 := hb67.trans (hbb.mono hb67.size)
          have d0 : World.cell? _ ⟨w7.heap.size, 0, none⟩ = some (.int .u64 x.kd) := hX8.cell 0
          have d1 : World.cell? _ ⟨w7.heap.size, 1, none⟩ = some (.int .u64 x.id) := hX8.cell 1
          have d2 : World.cell? _ ⟨w7.heap.size, 2, none⟩ = some (.int .u64 x.al) := hX8.cell 2
          have d3 : World.cell? _ ⟨w7.heap.size, 3, none⟩ = some (.slice nA6 x.nm.length nc6) := hX8.cell 3
          have d4 : World.cell? _ ⟨w7.heap.size, 4, none⟩ = some (.int .u8 x.pr) := hX8.cell 4
          have d5 : World.cell? _ ⟨w7.heap.size, 5, none⟩ = some (.int .u8 x.od) := hX8.cell 5
          have d6 : World.cell? _ ⟨w7.heap.size, 6, none⟩ = some (.int .u64 x.sg) := hX8.cell 6
          have d7 : World.cell? _ ⟨w7.heap.size, 7, none⟩ = some (.int .u64 x.so) := hX8.cell 7
          have d8 : World.cell? _ ⟨w7.heap.size, 8, none⟩ = some (.int .u64 x.eg) := hX8.cell 8
          have d9 : World.cell? _ ⟨w7.heap.size, 9, none⟩ = some (.int .u64 x.eo) := hX8.cell 9
          have d10 : World.cell? _ ⟨w7.heap.size, 10, none⟩ = some (.bool x.sm) := hX8.cell 10
          have d11 : World.cell? _ ⟨w7.heap.size, 11, none⟩ = some (.int .u64 x.cd) := hX8.cell 11
          have d12 : World.cell? _ ⟨w7.heap.size, 12, none⟩ = some (.slice rA6 x.rs.length rc6) := hX8.cell 12
          have d13 : World.cell? _ ⟨w7.heap.size, 13, none⟩ = some (.int .u64 x.n) := hX8.cell 13
          have d14 : World.cell? _ ⟨w7.heap.size, 14, none⟩ = some (.int .u64 x.ve) := hX8.cell 14
          have d15 : World.cell? _ ⟨w7.heap.size, 15, none⟩ = some (.slice vA6 x.vs.length vc6) := hX8.cell 15
          have c0 : World.cell? _ ⟨wr.heap.size, 0, none⟩ = some (.int .u64 x.kd) := hT8.cell 0
          have c1 : World.cell? _ ⟨wr.heap.size, 1, none⟩ = some (.int .u64 x.id) := hT8.cell 1
          have c2 : World.cell? _ ⟨wr.heap.size, 2, none⟩ = some (.int .u64 x.al) := hT8.cell 2
          have c3 : World.cell? _ ⟨wr.heap.size, 3, none⟩ = some (.slice nA x.nm.length nc) := hT8.cell 3
          have c4 : World.cell? _ ⟨wr.heap.size, 4, none⟩ = some (.int .u8 x.pr) := hT8.cell 4
          have c5 : World.cell? _ ⟨wr.heap.size, 5, none⟩ = some (.int .u8 x.od) := hT8.cell 5
          have c6 : World.cell? _ ⟨wr.heap.size, 6, none⟩ = some (.int .u64 x.sg) := hT8.cell 6
          have c7 : World.cell? _ ⟨wr.heap.size, 7, none⟩ = some (.int .u64 x.so) := hT8.cell 7
          have c8 : World.cell? _ ⟨wr.heap.size, 8, none⟩ = some (.int .u64 x.eg) := hT8.cell 8
          have c9 : World.cell? _ ⟨wr.heap.size, 9, none⟩ = some (.int .u64 x.eo) := hT8.cell 9
          have c10 : World.cell? _ ⟨wr.heap.size, 10, none⟩ = some (.bool x.sm) := hT8.cell 10
          have c11 : World.cell? _ ⟨wr.heap.size, 11, none⟩ = some (.int .u64 x.cd) := hT8.cell 11
          have c12 : World.cell? _ ⟨wr.heap.size, 12, none⟩ = some (.slice rA x.rs.length rc) := hT8.cell 12
          have c13 : World.cell? _ ⟨wr.heap.size, 13, none⟩ = some (.int .u64 x.n) := hT8.cell 13
          have c14 : World.cell? _ ⟨wr.heap.size, 14, none⟩ = some (.int .u64 x.ve) := hT8.cell 14
          have c15 : World.cell? _ ⟨wr.heap.size, 15, none⟩ = some (.slice vA x.vs.length vc) := hT8.cell 15
          have hsm := rsame_all x x (.slice nA6 x.nm.length nc6) (.slice rA6 x.rs.length rc6) (.slice vA6 x.vs.length vc6) (.slice nA x.nm.length nc) (.slice rA x.rs.length rc) (.slice vA x.vs.length vc) _ (hM7.below hbb) (hM6.below hb68).mv hx hx true ⟨fun _ => rfl, fun _ => rfl⟩
          have hr8 := hr7.below hbb
          clear hout hb7 hba hbb hT0 hT7 hX8 hT8 hb67 hM7 hM6 hr7
          as_aux_lemma =>
            go_wp2_with fail
            (with_reducible refine hsm.mono ?_)
            clear hsm c0 d0 c1 d1 c2 d2 c3 d3 c4 d4 c5 d5 c6 d6 c7 d7 c8 d8 c9 d9 c10 d10 c11 d11 c12 d12 c13 d13 c14 d14 c15 d15
            rintro e w9 ⟨rfl, hb9⟩
            go_wp2_with fail
            go_roundg (E.length - (k2 + 1))
            case measure => omega
            case rel => exact ⟨k2 + 1, u, bA6, bc6, rfl, hlt2, (congrArg (Value.int .i64) (show (k2 : Int) + 1 = ((k2 + 1 : Nat) : Int) from rfl)), rfl, ⟨HU.out, hr8.below hb9, hb68.trans (hb9.mono hb68.size)⟩⟩
        · have htk := hL.te
          rw [List.drop_of_length_le (by omega)] at htk
          have hbL := hL.b
          clear hL
          subst htk
          go_wp2_with fail
          go_ret
          exact ⟨rfl, HJ6.out.b.trans (hbL.mono HJ6.out.b.size)⟩

end Go.Proofs.YtjijmbpgfabgcaaDoor
