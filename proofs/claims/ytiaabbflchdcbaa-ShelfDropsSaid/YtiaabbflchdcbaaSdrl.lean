/-
  ShelfDrops: the walk. No condition.
-/
import Derived.Test.YtiaabbflchdcbaaSdrw
namespace Go.Proofs.Ytiaabbflchdcbaa
open Go.RowKit
set_option linter.unusedVariables false
set_option linter.unusedSimpArgs false

theorem conv_same {W : World} {b : Nat} {x : Int} (h : Blk W b 5 #[.int .u8 x]) : (convert 30 30 (.slice (some ⟨b, 0, none⟩) 1 1)).run Try.prog W = .ok (.slice (some ⟨b, 0, none⟩) 1 1) (W.freeze ⟨b, 1, none⟩ 1) := by
  have hsh : W.shape? b = some (5, 1) := by
    have hb : W.heap[b]? = some (.cells #[.int .u8 x] 5) := h
    unfold World.shape?
    rw [hb]
    rfl
  simp [convert, run_underlying Try.underlying30, run_underlying Try.underlying5, markStringish, hsh]
theorem frz_size (W : World) (b : Nat) : (W.freeze ⟨b, 1, none⟩ 1).heap.size = W.heap.size := by simp [World.freeze]
theorem frz_other (W : World) (b j : Nat) (hj : j ≠ b) : (W.freeze ⟨b, 1, none⟩ 1).heap[j]? = W.heap[j]? := by simp [World.freeze, Array.getElem?_modify, Ne.symm hj]
theorem frz_at {W : World} {b : Nat} {x : Int} (h : Blk W b 5 #[.int .u8 x]) : (W.freeze ⟨b, 1, none⟩ 1).heap[b]? = some (.cells #[.int .u8 x] 5 (1, 2)) := by
  have hb : W.heap[b]? = some (.cells #[.int .u8 x] 5) := h
  simp [World.freeze, Array.getElem?_modify, hb]
theorem frz_below {B : Nat} {a W : World} {b : Nat} (h : Below B a W) (hb : B ≤ b) : Below B a (W.freeze ⟨b, 1, none⟩ 1) :=
  ⟨h.os, h.tape, h.output, by rw [frz_size]; exact h.size, fun i hi => (frz_other W b i (by omega)).trans (h.block i hi)⟩
theorem frz_rdf {W : World} {b : Nat} {x : Int} (h : Blk W b 5 #[.int .u8 x]) : RdF (W.freeze ⟨b, 1, none⟩ 1) (.slice (some ⟨b, 0, none⟩) 1 1) [x] := by
  have hb := frz_at h
  refine ⟨⟨_, 1, rfl, by simp, by decide, fun e => (by cases e), fun i hi => ⟨b, 0, rfl, by rw [frz_size]; exact h.lt, fun j hj => ?_⟩⟩, fun a n c e => ?_⟩
  · have hi0 : i = 0 := by simp at hi; omega
    have hj0 : j = 0 := by omega
    subst hi0 hj0
    simp [World.cell?, hb]
  · simp only [Value.slice.injEq, Option.some.injEq] at e
    obtain ⟨rfl, _⟩ := e
    exact ⟨_, _, hb⟩
theorem rdt_frz {w : World} {v : Value} {l : List Int} {nb : Nat} (h : RdT w v l) (hne : ∀ b, v.ownBlock = some b → b ≠ nb) : RdT (w.freeze ⟨nb, 1, none⟩ 1) v l :=
  h.kb (S := fun g => g = nb) ⟨rfl, rfl, rfl, by rw [frz_size]; exact Nat.le_refl _, fun g hg hn => frz_other w nb g hn⟩ hne
def PT (x : Int) : List Int := padT [x]
/-- What is left when the track is gone. -/
theorem drop_used {s1 s2 : PS} (h1 : JD PS.empty (PT 98) s1 12) (h2 : JD s1 (PT 97) s2 12) : (pdrop s2 (PT 97)).used = s1.used := by
  show zsum (s2.Z.filter (fun z => !decide (z.1.1 = PT 97))) = _
  rw [h2.fl, List.filter_eq_self.2 (fun z hz => ?_), ← h1.ok.sum]
  have := h1.al (fun z hz => by cases hz) z hz
  rw [this]
  decide
theorem drop_last (s : PS) : lastV (plast (pdrop s (PT 97)) [97]) = (0, 0, false) := by
  have e : plast (pdrop s (PT 97)) [97] = none := by
    unfold plast
    rw [if_neg (by decide)]
    refine tget_none (fun z hz => ?_)
    have := (List.mem_filter.1 hz).2
    simp only [Bool.not_eq_true', decide_eq_false_iff_not] at this
    exact this
  rw [e]; rfl
theorem drop_get (s : PS) (g n : Int) : pget (pdrop s (PT 97)) [97] g n = none := by
  unfold pget
  rw [if_neg (by decide)]
  cases h : eget (pdrop s (PT 97)).E (padT [97]) g n with
  | none => rfl
  | some y =>
    obtain ⟨hy, hk⟩ := eget_some h
    have := (List.mem_filter.1 hy).2
    simp only [Bool.not_eq_true', decide_eq_false_iff_not] at this
    exact absurd hk.1 this
theorem drop_put {s : PS} {g n p : Int} {d : List Int} (hd : d.length ≤ 2100) : (pput 1048576 (pdrop s (PT 97)) [97] g n p d).1 = 0 := by
  have h2 : ¬ ∃ y ∈ (pdrop s (PT 97)).E, y.is (padT [97]) g n := by
    rintro ⟨y, hy, hk⟩
    have := (List.mem_filter.1 hy).2
    simp only [Bool.not_eq_true', decide_eq_false_iff_not] at this
    exact absurd hk.1 this
  rw [pput_in (by decide) h2]
  rw [zget_none]
  · omega
  · intro z hz e
    have := (List.mem_filter.1 hz).2
    simp only [Bool.not_eq_true', decide_eq_false_iff_not] at this
    exact this (congrArg Prod.fst e)
set_option maxHeartbeats 4000000 in
set_option maxRecDepth 100000 in
theorem drops_walk (A A' : Option Addr) (N cap N' cap' : Nat) (w : World) (hNc : N ≤ cap) (hcm : cap ≤ maxLen) (hO : Obs w A N) (hNc' : N' ≤ cap') (hcm' : cap' ≤ maxLen) (hO' : Obs w A' N') :
    Calls Try.prog 6 #[.slice A N cap, .slice A' N' cap'] w fun e w' => e = .returned (.bool true) ∧ Below w.heap.size w w' := by
  have hNm : N ≤ 9223372036854775807 := by unfold maxLen at hcm; omega
  have HO := Lib.hid hO
  have HO' := Lib.hid hO'
  clear hO hO'
  have haw := awake_any w
  have kc := fun (w : World) (C : Array Value) (n c : Nat) => Lib.run_convert_bytes_const (P := Try.prog) w 30 5 C n c Try.underlying30 Try.underlying5
  go_enter Try.func6, Try.ntmps6
  go_upto_region 3 with (first | (go_at_call 8; (with_reducible refine haw.mono ?_); rintro e w1 ⟨rfl, hb1⟩) | fail)
  clear haw
  have hnew := new_ok 1048576 w1 (by omega) (by omega)
  go_upto_region 4 with (first | (go_at_call 9; (with_reducible refine hnew.mono ?_); rintro e w2 ⟨sb, lb, zb, tb, rfl, hH, hb2⟩) | fail)
  clear hnew
  obtain ⟨B, hB⟩ : ∃ B, B = w1.heap.size := ⟨_, rfl⟩
  rw [← hB] at hH hb2
  have hwB : w.heap.size ≤ B := by rw [hB]; exact hb1.size
  have hb := hb1.trans (hb2.mono hwB)
  clear hb1 hb2 hB
  have hba : Below w2.heap.size w2 (w2.alloc (.cells #[.pointer (some ⟨sb, 0, none⟩)] 25)) := (Below.refl _ _).alloc (Nat.le_refl _) _
  refine wp_world (fun wz => HS wz B sb lb zb tb 1048576 PS.empty ∧ Blk wz w2.heap.size 25 #[.pointer (some ⟨sb, 0, none⟩)] ∧ Below w.heap.size w wz) ⟨hH.kept hba, Blk.new w2 25 _, hb.trans (hba.mono hb.size)⟩ ?_
  obtain ⟨vb, hvb⟩ : ∃ vb, vb = w2.heap.size := ⟨_, rfl⟩
  rw [← hvb]
  clear hH hb hba hvb
  rintro w3 ⟨hH, hvb, hb⟩
  have hp1 := dput_any 98 (PT 98) rfl A' N' cap' B sb lb zb tb vb PS.empty w w3 hNc' hcm' HO'.out hwB hb hH (PS.empty_ok (by omega)) (by show (0 : Int) ≤ 500000; omega) hvb
  go_upto_region 6 with (first | (go_at_call 18; (with_reducible refine hp1.mono ?_); clear hp1; rintro e w4 ⟨rfl, s1, hH4, hJ1, hx4, hb4⟩) | fail)
  have hvb4 := hvb.kx hH hx4 (by decide) (by decide)
  refine wp_world (fun wz => HS wz B sb lb zb tb 1048576 s1 ∧ Blk wz vb 25 #[.pointer (some ⟨sb, 0, none⟩)] ∧ Below w.heap.size w wz) ⟨hH4, hvb4, hb4⟩ ?_
  clear hH hvb hb hH4 hx4 hb4 hvb4
  rintro w4 ⟨hH, hvb, hb⟩
  have v0 : World.cell? w4 ⟨vb, 0, none⟩ = some (.pointer (some ⟨sb, 0, none⟩)) := hvb.cell 0
  have hus := used_any B sb lb zb tb 1048576 s1 w4 hH
  obtain ⟨u1, hu1⟩ : ∃ u1, u1 = s1.used := ⟨_, rfl⟩
  rw [← hu1] at hus
  have HU1 := Lib.hid hu1
  have hub : u1 ≤ 26000 := by rw [hu1]; have := hJ1.us; have e0 : PS.empty.used = 0 := rfl; rw [e0] at this; omega
  clear hu1
  go_upto_region 7 with (first | (go_at_call 15; (with_reducible refine hus.mono ?_); clear hus; rintro e w5 ⟨rfl, hH5, hb5⟩) | fail)
  have hb05 := hb.trans (hb5.mono hb.size)
  have hp2 := dput_any 97 (PT 97) rfl A N cap B sb lb zb tb vb s1 w w5 hNc hcm HO.out hwB hb05 hH5 hJ1.ok (by rw [← HU1.out]; omega) (hvb.same hb5)
  go_upto_region 8 with (first | (go_at_call 18; (with_reducible refine hp2.mono ?_); clear hp2; rintro e w6 ⟨rfl, s2, hH6, hJ2, hx6, hb6⟩) | fail)
  have hvb6 := (hvb.same hb5).kx hH5 hx6 (by decide) (by decide)
  refine wp_world (fun wz => HS wz B sb lb zb tb 1048576 s2 ∧ Blk wz vb 25 #[.pointer (some ⟨sb, 0, none⟩)] ∧ Below w.heap.size w wz) ⟨hH6, hvb6, hb6⟩ ?_
  clear hH hvb hb v0 hH5 hb5 hb05 hH6 hx6 hb6 hvb6
  rintro w6 ⟨hH, hvb, hb⟩
  have v0 : World.cell? w6 ⟨vb, 0, none⟩ = some (.pointer (some ⟨sb, 0, none⟩)) := hvb.cell 0
  have hba : Below w6.heap.size w6 (w6.alloc (.cells #[.int .u8 97] 5 (1, 2))) := (Below.refl _ _).alloc (Nat.le_refl _) _
  have hr6 := (lit_rdf 97 w6).1
  have hdr := drop_any B sb lb zb tb (.slice (some ⟨w6.heap.size, 0, none⟩) 1 1) 1048576 [97] s2 (w6.alloc (.cells #[.int .u8 97] 5 (1, 2))) (hH.kept hba) hr6 aw_bytes (by simp) hJ2.ok (by omega)
  rw [if_pos (show nameE [97] = 0 from by decide)] at hdr
  have hok3 := pdrop_ok hJ2.ok (PT 97)
  have HUD := Lib.hid (drop_used hJ1 hJ2)
  have HDL := Lib.hid (drop_last s2)
  have HDG := Lib.hid (drop_get s2)
  have HDP := Lib.hid (fun g n p d (hd : List.length d ≤ 2100) => drop_put (s := s2) (g := g) (n := n) (p := p) hd)
  obtain ⟨s, hs⟩ : ∃ s, s = pdrop s2 (PT 97) := ⟨_, rfl⟩
  have hdr' : Calls Try.prog 19 #[.pointer (some ⟨sb, 0, none⟩), .slice (some ⟨w6.heap.size, 0, none⟩) 1 1] (w6.alloc (.cells #[.int .u8 97] 5 (1, 2))) fun e w' => e = .returned (.tuple #[]) ∧ HS w' B sb lb zb tb 1048576 s ∧ KX lb zb tb (w6.alloc (.cells #[.int .u8 97] 5 (1, 2))) w' ∧ Below B (w6.alloc (.cells #[.int .u8 97] 5 (1, 2))) w' := by rw [hs]; exact hdr
  rw [← hs] at hok3 HUD HDL HDG HDP
  clear hdr hs hJ1 hJ2
  go_upto_region 9 with (first | (go_at_call 19; (with_reducible refine hdr'.mono ?_); clear hdr'; rintro e w7 ⟨rfl, hH7, hx7, hb7⟩) | fail)
  have hvb7 := (hvb.same hba).kx (hH.kept hba) hx7 (by decide) (by decide)
  have hb07 := (hb.trans (hba.mono hb.size)).trans (hb7.mono hwB)
  refine wp_world (fun wz => HS wz B sb lb zb tb 1048576 s ∧ Blk wz vb 25 #[.pointer (some ⟨sb, 0, none⟩)] ∧ Below w.heap.size w wz) ⟨hH7, hvb7, hb07⟩ ?_
  clear hH hvb hb v0 hba hr6 hH7 hx7 hb7 hvb7 hb07
  rintro w7 ⟨hH, hvb, hb⟩
  have v0 : World.cell? w7 ⟨vb, 0, none⟩ = some (.pointer (some ⟨sb, 0, none⟩)) := hvb.cell 0
  have hba : Below w7.heap.size w7 (w7.alloc (.cells #[.int .u8 97] 5 (1, 2))) := (Below.refl _ _).alloc (Nat.le_refl _) _
  have hla := last_any B sb lb zb tb (.slice (some ⟨w7.heap.size, 0, none⟩) 1 1) 1048576 [97] s (w7.alloc (.cells #[.int .u8 97] 5 (1, 2))) (hH.kept hba) (lit_rdf 97 w7).1 aw_bytes (by simp) 0 0 false HDL.out
  go_upto_region 10 with (first | (go_at_call 20; (with_reducible refine hla.mono ?_); clear hla; rintro e w8 ⟨rfl, hH8, hb8⟩) | fail)
  have hbc : Below w8.heap.size w8 (w8.alloc (.cells #[.int .u64 0, .int .u64 0] 33)) := (Below.refl _ _).alloc (Nat.le_refl _) _
  have hb78 := hba.trans ((hb8.mono hba.size).trans (hbc.mono (Nat.le_trans hba.size hb8.size)))
  refine wp_world (fun wz => HS wz B sb lb zb tb 1048576 s ∧ Blk wz vb 25 #[.pointer (some ⟨sb, 0, none⟩)] ∧ Below w.heap.size w wz) ⟨hH8.kept hbc, hvb.same hb78, hb.trans (hb78.mono hb.size)⟩ ?_
  clear hH hvb hb v0 hba hH8 hb8 hbc hb78
  rintro w9 ⟨hH, hvb, hb⟩
  have v0 : World.cell? w9 ⟨vb, 0, none⟩ = some (.pointer (some ⟨sb, 0, none⟩)) := hvb.cell 0
  have hus := used_any B sb lb zb tb 1048576 s w9 hH
  rw [HUD.out, ← HU1.out] at hus
  have hun : (u1 != u1) = false := by simp
  go_upto_region 12 with (first | (go_at_call 15; (with_reducible refine hus.mono ?_); clear hus; rintro e wa ⟨rfl, hHa, hba⟩) | fail)
  refine wp_world (fun wz => HS wz B sb lb zb tb 1048576 s ∧ Blk wz vb 25 #[.pointer (some ⟨sb, 0, none⟩)] ∧ Below w.heap.size w wz) ⟨hHa, hvb.same hba, hb.trans (hba.mono hb.size)⟩ ?_
  clear hH hvb hb v0 hHa hba
  rintro wb ⟨hH, hvb, hb⟩
  go_wp2_with fail
  go_loopg [50] N (fun gk s50 wr => ∃ i : Nat, gk = N - i ∧ i ≤ N ∧ s50 = .int .i64 i ∧ HS wr B sb lb zb tb 1048576 s ∧ Blk wr vb 25 #[.pointer (some ⟨sb, 0, none⟩)] ∧ Below w.heap.size w wr)
  case atStart => exact ⟨0, rfl, Nat.zero_le _, rfl, hH, hvb, hb⟩
  case round =>
    clear hH hvb hb
    obtain ⟨i, hgk, hiN, rfl, hH, hvb, hb⟩ := hrel
    by_cases hlt : i < N
    · obtain ⟨bb, off, g, n, p, gr, V, l, rfl, hbl, hc, ⟨hg, hn, hp⟩, hV, hK⟩ := HO.out i hlt
      have c0 : World.cell? wr ⟨bb, off + i * 5, none⟩ = some (.int .u64 g) := (hb.cell (p := ⟨bb, off + i * 5, none⟩) hbl).trans (hc 0 (by omega))
      have c1 : World.cell? wr ⟨bb, off + i * 5 + 1, none⟩ = some (.int .u64 n) := (hb.cell (p := ⟨bb, off + i * 5 + 1, none⟩) hbl).trans (hc 1 (by omega))
      have c2 : World.cell? wr ⟨bb, off + i * 5 + 2, none⟩ = some (.int .u8 p) := (hb.cell (p := ⟨bb, off + i * 5 + 2, none⟩) hbl).trans (hc 2 (by omega))
      have c3 : World.cell? wr ⟨bb, off + i * 5 + 3, none⟩ = some (.bool gr) := (hb.cell (p := ⟨bb, off + i * 5 + 3, none⟩) hbl).trans (hc 3 (by omega))
      obtain ⟨VA, Vc, rfl⟩ := hV.form
      have c4 : World.cell? wr ⟨bb, off + i * 5 + 4, none⟩ = some (.slice VA l.length Vc) := (hb.cell (p := ⟨bb, off + i * 5 + 4, none⟩) hbl).trans (hc 4 (by omega))
      clear hc hV
      have hba : Below wr.heap.size wr (wr.alloc (.cells #[.int .u64 g, .int .u64 n, .int .u8 p, .bool gr, (.slice VA l.length Vc)] 35)) := (Below.refl _ _).alloc (Nat.le_refl _) _
      go_upto_region 15 with fail
      refine wp_world (fun wz => HS wz B sb lb zb tb 1048576 s ∧ Blk wz vb 25 #[.pointer (some ⟨sb, 0, none⟩)] ∧ Blk wz wr.heap.size 35 #[.int .u64 g, .int .u64 n, .int .u8 p, .bool gr, (.slice VA l.length Vc)] ∧ Below w.heap.size w wz) ⟨hH.kept hba, hvb.same hba, Blk.new wr 35 #[.int .u64 g, .int .u64 n, .int .u8 p, .bool gr, (.slice VA l.length Vc)], hb.trans (hba.mono hb.size)⟩ ?_
      obtain ⟨ob, hob⟩ : ∃ ob, ob = wr.heap.size := ⟨_, rfl⟩
      rw [← hob]
      clear hH hvb hb hba hob c0 c1 c2 c3 c4 hbl
      rintro w4 ⟨hH, hvb, hOb, hb⟩
      have v0 : World.cell? w4 ⟨vb, 0, none⟩ = some (.pointer (some ⟨sb, 0, none⟩)) := hvb.cell 0
      have y0 : World.cell? w4 ⟨ob, 0, none⟩ = some (.int .u64 g) := hOb.cell 0
      have y1 : World.cell? w4 ⟨ob, 1, none⟩ = some (.int .u64 n) := hOb.cell 1
      have hba : Below w4.heap.size w4 (w4.alloc (.cells #[.int .u8 97] 5 (1, 2))) := (Below.refl _ _).alloc (Nat.le_refl _) _
      have hget := get_is B sb lb zb tb (.slice (some ⟨w4.heap.size, 0, none⟩) 1 1) 1048576 g n [97] s (w4.alloc (.cells #[.int .u8 97] 5 (1, 2))) (hH.kept hba) (lit_rdf 97 w4).1 aw_bytes (by simp) hg hn hok3 (by omega) false (by rw [HDG.out]; rfl)
      have z0 : World.cell? (w4.alloc (.cells #[.int .u8 97] 5 (1, 2))) ⟨ob, 0, none⟩ = some (.int .u64 g) := (hOb.same hba).cell 0
      have z1 : World.cell? (w4.alloc (.cells #[.int .u8 97] 5 (1, 2))) ⟨ob, 1, none⟩ = some (.int .u64 n) := (hOb.same hba).cell 1
      by_cases h12 : i < 12
      · have hd12 : decide ((i : Int) < 12) = true := decide_eq_true (by omega)
        go_wp2_with (first | (go_at_call 13; (with_reducible refine hget.mono ?_); clear hget; rintro e w5 ⟨g', n', p', gA, ga, gc, rfl, hH5, hb5⟩) | fail)
        go_roundg (N - (i + 1))
        case measure => omega
        case rel =>
          have hbz := (hba.trans (hb5.mono hba.size)).alloc (Nat.le_trans hba.size hb5.size) (.cells #[.int .u64 g', .int .u64 n', .int .u8 p', .bool false, .slice gA ga gc] 35)
          exact ⟨i + 1, rfl, by omega, by go_num, hH.kept hbz, hvb.same hbz, hb.trans (hbz.mono hb.size)⟩
      · have hd12 : decide ((i : Int) < 12) = false := decide_eq_false (by omega)
        go_wp2_with (first | (go_at_call 13; (with_reducible refine hget.mono ?_); clear hget; rintro e w5 ⟨g', n', p', gA, ga, gc, rfl, hH5, hb5⟩) | fail)
        go_roundg (N - (i + 1))
        case measure => omega
        case rel =>
          have hbz := (hba.trans (hb5.mono hba.size)).alloc (Nat.le_trans hba.size hb5.size) (.cells #[.int .u64 g', .int .u64 n', .int .u8 p', .bool false, .slice gA ga gc] 35)
          exact ⟨i + 1, rfl, by omega, by go_num, hH.kept hbz, hvb.same hbz, hb.trans (hbz.mono hb.size)⟩
    · cases N with
      | zero =>
        go_wp2_with fail
        go_ret
        exact ⟨rfl, hb⟩
      | succ K =>
        have hz0 : ((K : Int) + 1 == 0) = false := by simp; omega
        obtain ⟨ba, oa, g, n, p, gr, V, l, rfl, hbl, hc, ⟨hg, hn, hp⟩, hV, hK⟩ := HO.out 0 (by omega)
        obtain ⟨VA, Vc, rfl⟩ := hV.form
        go_upto_region 21 with fail
        refine wp_world (fun wz => HS wz B sb lb zb tb 1048576 s ∧ Blk wz vb 25 #[.pointer (some ⟨sb, 0, none⟩)] ∧ Below w.heap.size w wz) ⟨hH, hvb, hb⟩ ?_
        clear hH hvb hb
        rintro w6 ⟨hH6, hvb6, hb0⟩
        have hok := hok3
        obtain ⟨d, hd⟩ : ∃ d, d = l.take 2100 := ⟨_, rfl⟩
        obtain ⟨hdk, hdl⟩ := take_ok hK hd
        have HD := Lib.hid hd
        have HDK := Lib.hid hdk
        clear hd hdk
        have hpz := HDP.out g n p d hdl
        have hHd : HS w6.drew B sb lb zb tb 1048576 s := hH6.kept (below_drewN (Below.refl _ _) 1)
        have hb0d : Below w.heap.size w w6.drew := below_drewN hb0 1
        have HVd : Hid (Rd w6.drew .u8 (.slice VA l.length Vc) l) := Lib.hid (hV.below hb0d)
        have v0 : World.cell? w6.drew ⟨vb, 0, none⟩ = some (.pointer (some ⟨sb, 0, none⟩)) := hvb6.cell 0
        have y0 : World.cell? w6.drew ⟨ba, oa, none⟩ = some (.int .u64 g) := (hb0d.cell (p := ⟨ba, oa, none⟩) hbl).trans (hc 0 (by omega))
        have y1 : World.cell? w6.drew ⟨ba, oa + 1, none⟩ = some (.int .u64 n) := (hb0d.cell (p := ⟨ba, oa + 1, none⟩) hbl).trans (hc 1 (by omega))
        have y2 : World.cell? w6.drew ⟨ba, oa + 2, none⟩ = some (.int .u8 p) := (hb0d.cell (p := ⟨ba, oa + 2, none⟩) hbl).trans (hc 2 (by omega))
        have y3 : World.cell? w6.drew ⟨ba, oa + 3, none⟩ = some (.bool gr) := (hb0d.cell (p := ⟨ba, oa + 3, none⟩) hbl).trans (hc 3 (by omega))
        have y4 : World.cell? w6.drew ⟨ba, oa + 4, none⟩ = some (.slice VA l.length Vc) := (hb0d.cell (p := ⟨ba, oa + 4, none⟩) hbl).trans (hc 4 (by omega))
        clear hc hV
        have hbl6 : ba < w6.drew.heap.size := Nat.lt_of_lt_of_le hbl hb0d.size
        have HKS : Hid (∀ W, Below w6.drew.heap.size w6.drew W → World.cell? W ⟨vb, 0, none⟩ = some (.pointer (some ⟨sb, 0, none⟩)) ∧ World.cell? W ⟨ba, oa, none⟩ = some (.int .u64 g) ∧ World.cell? W ⟨ba, oa + 1, none⟩ = some (.int .u64 n) ∧ World.cell? W ⟨ba, oa + 2, none⟩ = some (.int .u8 p) ∧ World.cell? W ⟨ba, oa + 3, none⟩ = some (.bool gr) ∧ World.cell? W ⟨ba, oa + 4, none⟩ = some (.slice VA l.length Vc)) := Lib.hid (fun W hW => by
          have h1 := Blk.same (show Blk w6.drew vb 25 _ from hvb6) hW
          exact ⟨h1.cell 0, (hW.cell (p := ⟨ba, oa, none⟩) hbl6).trans y0, (hW.cell (p := ⟨ba, oa + 1, none⟩) hbl6).trans y1, (hW.cell (p := ⟨ba, oa + 2, none⟩) hbl6).trans y2, (hW.cell (p := ⟨ba, oa + 3, none⟩) hbl6).trans y3, (hW.cell (p := ⟨ba, oa + 4, none⟩) hbl6).trans y4⟩)
        have hblB : ba < B := Nat.lt_of_lt_of_le hbl hwB
        have HKP8 : Hid (∀ W, KX lb zb tb w6.drew W → Below B w6.drew W → World.cell? W ⟨vb, 0, none⟩ = some (.pointer (some ⟨sb, 0, none⟩)) ∧ World.cell? W ⟨ba, oa, none⟩ = some (.int .u64 g) ∧ World.cell? W ⟨ba, oa + 1, none⟩ = some (.int .u64 n) ∧ World.cell? W ⟨ba, oa + 2, none⟩ = some (.int .u8 p) ∧ World.cell? W ⟨ba, oa + 3, none⟩ = some (.bool gr) ∧ World.cell? W ⟨ba, oa + 4, none⟩ = some (.slice VA l.length Vc)) := Lib.hid (fun W hx hW => by
          have h1 := Blk.kx (show Blk w6.drew vb 25 _ from hvb6) hHd hx (by decide) (by decide)
          exact ⟨h1.cell 0, (hW.cell (p := ⟨ba, oa, none⟩) hblB).trans y0, (hW.cell (p := ⟨ba, oa + 1, none⟩) hblB).trans y1, (hW.cell (p := ⟨ba, oa + 2, none⟩) hblB).trans y2, (hW.cell (p := ⟨ba, oa + 3, none⟩) hblB).trans y3, (hW.cell (p := ⟨ba, oa + 4, none⟩) hblB).trans y4⟩)
        clear kc
        have hBH := hHd.base
        refine wp_region_held_drew (S := fun W => World.cell? W ⟨vb, 0, none⟩ = some (.pointer (some ⟨sb, 0, none⟩)) ∧ World.cell? W ⟨ba, oa, none⟩ = some (.int .u64 g) ∧ World.cell? W ⟨ba, oa + 1, none⟩ = some (.int .u64 n) ∧ World.cell? W ⟨ba, oa + 2, none⟩ = some (.int .u8 p) ∧ World.cell? W ⟨ba, oa + 3, none⟩ = some (.bool gr) ∧ World.cell? W ⟨ba, oa + 4, none⟩ = some (.slice VA l.length Vc)) (by kernel_rfl) (by first | with_reducible exact ⟨v0, y0, y1, y2, y3, y4⟩ | exact HKP8.out _ hx08 hb68 | exact HKS.out _ HBc) (fun _ => ?_)
        refine wpAnyH_take (i := 0) (oi := ({ dst := some 73, op := Op.load 25 (Operand.tmp 5), type := 25, pos := _, after := #[], guard := none } : Oper)) (v := ?_) rfl (by kernel_rfl) (by kernel_rfl) (by kernel_rfl) (fun _ _ _ h => h) (Or.inl ⟨by rfl, ?_⟩) (by first | with_reducible exact ⟨v0, y0, y1, y2, y3, y4⟩ | exact HKP8.out _ hx08 hb68 | exact HKS.out _ HBc) ?_
        rotate_left
        · intro w hSw
          try dsimp only at hSw
          go_simp
          try with_reducible rfl
        try simp only [Act.put, List.setIfInBounds_toArray, List.set_cons_zero, List.set_cons_succ]
        refine wpAnyH_take (i := 3) (oi := ({ dst := some 76, op := Op.move (Operand.tmp 0), type := 44, pos := _, after := #[], guard := none } : Oper)) (v := ?_) rfl (by kernel_rfl) (by kernel_rfl) (by kernel_rfl) (fun _ _ _ h => h) (Or.inl ⟨by rfl, ?_⟩) (by first | with_reducible exact ⟨v0, y0, y1, y2, y3, y4⟩ | exact HKP8.out _ hx08 hb68 | exact HKS.out _ HBc) ?_
        rotate_left
        · intro w hSw
          try dsimp only at hSw
          go_simp
          try with_reducible rfl
        try simp only [Act.put, List.setIfInBounds_toArray, List.set_cons_zero, List.set_cons_succ]
        refine wpAnyH_take (i := 4) (oi := ({ dst := some 77, op := Op.indexAddr 44 (Operand.tmp 76) (Operand.const (Value.int IntKind.i64 0)), type := 0, pos := _, after := #[{ on := 3, ground := Ground.data }], guard := none } : Oper)) (v := ?_) rfl (by kernel_rfl) (by kernel_rfl) (by kernel_rfl) (fun _ _ _ h => h) (Or.inl ⟨by rfl, ?_⟩) (by first | with_reducible exact ⟨v0, y0, y1, y2, y3, y4⟩ | exact HKP8.out _ hx08 hb68 | exact HKS.out _ HBc) ?_
        rotate_left
        · intro w hSw
          try dsimp only at hSw
          go_simp
          try with_reducible rfl
        try simp only [Act.put, List.setIfInBounds_toArray, List.set_cons_zero, List.set_cons_succ]
        refine wpAnyH_take (i := 5) (oi := ({ dst := some 78, op := Op.load 35 (Operand.tmp 77), type := 35, pos := _, after := #[{ on := 4, ground := Ground.data }], guard := none } : Oper)) (v := ?_) rfl (by kernel_rfl) (by kernel_rfl) (by kernel_rfl) (fun _ _ _ h => h) (Or.inl ⟨by rfl, ?_⟩) (by first | with_reducible exact ⟨v0, y0, y1, y2, y3, y4⟩ | exact HKP8.out _ hx08 hb68 | exact HKS.out _ HBc) ?_
        rotate_left
        · intro w hSw
          try dsimp only at hSw
          go_simp
          try with_reducible rfl
        try simp only [Act.put, List.setIfInBounds_toArray, List.set_cons_zero, List.set_cons_succ]
        refine wpAnyH_ready (rs := [1, 6]) (by kernel_rfl) (by simp) ?_
        refine (AllReadyH.cons (o := ({ dst := some 74, op := Op.buildSlice 30 1 #[(0, Operand.const (Value.int IntKind.u8 97))], type := 30, pos := _, after := #[], guard := none } : Oper)) rfl (fun K hK => ?_) (AllReadyH.cons (o := ({ dst := some 79, op := Op.call { callee := Callee.value (Operand.func 11), args := #[Operand.tmp 78], argTypes := #[35] }, type := 35, pos := _, after := #[{ on := 5, ground := Ground.data }], guard := none } : Oper)) rfl (fun K hK => ?_) AllReadyH.nil))
        · go_simp
          have HBc : Below w6.drew.heap.size w6.drew (w6.alloc (.cells #[.int .u8 97] 5)).drew := (Below.refl w6.drew.heap.size w6.drew).alloc (Nat.le_refl _) (.cells #[.int .u8 97] 5)
          have hL : Blk (w6.alloc (.cells #[.int .u8 97] 5)).drew w6.heap.size 5 #[.int .u8 97] := Blk.new w6 5 #[.int .u8 97]
          have hcs := conv_same hL
          refine hK.out _ _ (by first | with_reducible exact ⟨v0, y0, y1, y2, y3, y4⟩ | exact HKP8.out _ hx08 hb68 | exact HKS.out _ HBc) (fun _ => ?_)
          clear hK K
          try simp only [Act.put, List.setIfInBounds_toArray, List.set_cons_zero, List.set_cons_succ]
          refine wpAnyH_ready (rs := [2, 6]) (by kernel_rfl) (by simp) ?_
          refine (AllReadyH.cons (o := ({ dst := some 75, op := Op.convert 30 30 (Operand.tmp 74), type := 30, pos := _, after := #[{ on := 1, ground := Ground.data }], guard := none } : Oper)) rfl (fun K hK => ?_) (AllReadyH.cons (o := ({ dst := some 79, op := Op.call { callee := Callee.value (Operand.func 11), args := #[Operand.tmp 78], argTypes := #[35] }, type := 35, pos := _, after := #[{ on := 5, ground := Ground.data }], guard := none } : Oper)) rfl (fun K hK => ?_) AllReadyH.nil))
          · go_simp
            have hvR := frz_rdf hL
            have HBc := frz_below HBc (b := _) (Nat.le_refl w6.heap.size)
            refine hK.out _ _ (by first | with_reducible exact ⟨v0, y0, y1, y2, y3, y4⟩ | exact HKP8.out _ hx08 hb68 | exact HKS.out _ HBc) (fun _ => ?_)
            clear hK K
            try simp only [Act.put, List.setIfInBounds_toArray, List.set_cons_zero, List.set_cons_succ]
            refine wpAnyH_ready (rs := [6]) (by kernel_rfl) (by simp) ?_
            refine (AllReadyH.cons (o := ({ dst := some 79, op := Op.call { callee := Callee.value (Operand.func 11), args := #[Operand.tmp 78], argTypes := #[35] }, type := 35, pos := _, after := #[{ on := 5, ground := Ground.data }], guard := none } : Oper)) rfl (fun K hK => ?_) AllReadyH.nil)
            go_simp
            go_at_call 11
            (with_reducible refine (few_d g n p gr (.slice VA l.length Vc) l d HD.out ((w6.alloc (.cells #[.int .u8 97] 5)).drew.freeze ⟨w6.heap.size, 1, none⟩ 1) (HVd.out.below HBc)).mono ?_)
            rintro e w7 ⟨dA, dc, rfl, ho7, hb7⟩
            have hdR := rdt_of_own ho7
            have HBf : Below w6.drew.heap.size w6.drew w7 := HBc.trans (hb7.mono HBc.size)
            have HBc := HBf
            have hvR := hvR.below hb7
            refine hK.out _ _ (by first | with_reducible exact ⟨v0, y0, y1, y2, y3, y4⟩ | exact HKP8.out _ hx08 hb68 | exact HKS.out _ HBc) (fun _ => ?_)
            clear hK K
            try simp only [Act.put, List.setIfInBounds_toArray, List.set_cons_zero, List.set_cons_succ]
            refine wpAnyH_ready (rs := [7]) (by kernel_rfl) (by simp) ?_
            refine (AllReadyH.cons (o := ({ dst := some 80, op := Op.call { callee := Callee.value (Operand.func 12), args := #[Operand.tmp 73, Operand.tmp 75, Operand.tmp 79], argTypes := #[25, 30, 35] }, type := 26, pos := _, after := #[{ on := 0, ground := Ground.data }, { on := 2, ground := Ground.data }, { on := 6, ground := Ground.data }, { on := 6, ground := Ground.chain }], guard := none } : Oper)) rfl (fun K hK => ?_) AllReadyH.nil)
            go_simp
            have hvP : Rd w7 .u8 _ _ := hvR.1
            have hHP := hHd.kept HBc
            have hdP : RdT w7 (.slice dA d.length dc) d := hdR
            have hput := put_any B sb lb zb tb _ 1048576 g n p gr dA dc [97] d s w7 hHP hok (by omega) hvP aw_bytes (by simp) hdP HDK.out (by omega) hg hn hp
            rw [hpz] at hput
            go_at_call 12
            (with_reducible refine hput.mono ?_)
            clear hput
            rintro e w8 ⟨rfl, hH8, hx8, hb8⟩
            have hx08 := (KX.of (lb := lb) (zb := zb) (tb := tb) HBc).trans hx8
            have hb68 := (HBc.mono hBH).trans hb8
            refine hK.out _ _ (by first | with_reducible exact ⟨v0, y0, y1, y2, y3, y4⟩ | exact HKP8.out _ hx08 hb68 | exact HKS.out _ HBc) (fun _ => ?_)
            clear hK K
            try simp only [Act.put, List.setIfInBounds_toArray, List.set_cons_zero, List.set_cons_succ]
            refine wpAnyH_take (i := 8) (oi := ({ dst := some 81, op := Op.binOp BinOp.eql 26 (Operand.tmp 80) (Operand.const (Value.int IntKind.i64 0)) 26, type := 4, pos := _, after := #[{ on := 7, ground := Ground.data }], guard := none } : Oper)) (v := ?_) rfl (by kernel_rfl) (by kernel_rfl) (by kernel_rfl) (fun _ _ _ h => h) (Or.inl ⟨by rfl, ?_⟩) (by first | with_reducible exact ⟨v0, y0, y1, y2, y3, y4⟩ | exact HKP8.out _ hx08 hb68 | exact HKS.out _ HBc) ?_
            rotate_left
            · intro w hSw
              try dsimp only at hSw
              go_simp
              try with_reducible rfl
            try simp only [Act.put, List.setIfInBounds_toArray, List.set_cons_zero, List.set_cons_succ]
            refine wpAnyH_take (i := 9) (oi := ({ dst := some 4, op := Op.assign (Operand.tmp 81), type := 4, pos := _, after := #[{ on := 8, ground := Ground.data }, { on := 7, ground := Ground.chain }, { on := 0, ground := Ground.phase }, { on := 1, ground := Ground.phase }, { on := 2, ground := Ground.phase }, { on := 3, ground := Ground.phase }, { on := 4, ground := Ground.phase }, { on := 5, ground := Ground.phase }, { on := 6, ground := Ground.phase }, { on := 7, ground := Ground.phase }, { on := 8, ground := Ground.phase }], guard := none } : Oper)) (v := ?_) rfl (by kernel_rfl) (by kernel_rfl) (by kernel_rfl) (fun _ _ _ h => h) (Or.inl ⟨by rfl, ?_⟩) (by first | with_reducible exact ⟨v0, y0, y1, y2, y3, y4⟩ | exact HKP8.out _ hx08 hb68 | exact HKS.out _ HBc) ?_
            rotate_left
            · intro w hSw
              try dsimp only at hSw
              go_simp
              try with_reducible rfl
            try simp only [Act.put, List.setIfInBounds_toArray, List.set_cons_zero, List.set_cons_succ]
            refine wpAnyH_done (by kernel_rfl) ?_ _
            go_wp2_with fail
            go_ret
            exact ⟨rfl, hb0.trans (((below_drewN (Below.refl w6.heap.size w6) 1).trans HBc).mono hb0.size |>.trans (hb8.mono hwB))⟩
          · go_simp
            go_at_call 11
            (with_reducible refine (few_d g n p gr (.slice VA l.length Vc) l d HD.out (w6.alloc (.cells #[.int .u8 97] 5)).drew (HVd.out.below HBc)).mono ?_)
            rintro e w7 ⟨dA, dc, rfl, ho7, hb7⟩
            have hdR := rdt_of_own ho7
            have HBf : Below w6.drew.heap.size w6.drew w7 := HBc.trans (hb7.mono HBc.size)
            have HBc := HBf
            have hL := hL.same hb7
            have hcs := conv_same hL
            refine hK.out _ _ (by first | with_reducible exact ⟨v0, y0, y1, y2, y3, y4⟩ | exact HKP8.out _ hx08 hb68 | exact HKS.out _ HBc) (fun _ => ?_)
            clear hK K
            try simp only [Act.put, List.setIfInBounds_toArray, List.set_cons_zero, List.set_cons_succ]
            refine wpAnyH_ready (rs := [2]) (by kernel_rfl) (by simp) ?_
            refine (AllReadyH.cons (o := ({ dst := some 75, op := Op.convert 30 30 (Operand.tmp 74), type := 30, pos := _, after := #[{ on := 1, ground := Ground.data }], guard := none } : Oper)) rfl (fun K hK => ?_) AllReadyH.nil)
            go_simp
            have hvR := frz_rdf hL
            have HBc := frz_below HBc (b := _) (Nat.le_refl w6.heap.size)
            refine hK.out _ _ (by first | with_reducible exact ⟨v0, y0, y1, y2, y3, y4⟩ | exact HKP8.out _ hx08 hb68 | exact HKS.out _ HBc) (fun _ => ?_)
            clear hK K
            try simp only [Act.put, List.setIfInBounds_toArray, List.set_cons_zero, List.set_cons_succ]
            refine wpAnyH_ready (rs := [7]) (by kernel_rfl) (by simp) ?_
            refine (AllReadyH.cons (o := ({ dst := some 80, op := Op.call { callee := Callee.value (Operand.func 12), args := #[Operand.tmp 73, Operand.tmp 75, Operand.tmp 79], argTypes := #[25, 30, 35] }, type := 26, pos := _, after := #[{ on := 0, ground := Ground.data }, { on := 2, ground := Ground.data }, { on := 6, ground := Ground.data }, { on := 6, ground := Ground.chain }], guard := none } : Oper)) rfl (fun K hK => ?_) AllReadyH.nil)
            go_simp
            have hvP : Rd (w7.freeze ⟨w6.heap.size, 1, none⟩ 1) .u8 _ _ := hvR.1
            have hHP := hHd.kept HBc
            have hdP : RdT (w7.freeze ⟨w6.heap.size, 1, none⟩ 1) (.slice dA d.length dc) d := rdt_frz hdR (fun b hb => by have := own_ge ho7 hb; simp at this; omega)
            have hput := put_any B sb lb zb tb _ 1048576 g n p gr dA dc [97] d s (w7.freeze ⟨w6.heap.size, 1, none⟩ 1) hHP hok (by omega) hvP aw_bytes (by simp) hdP HDK.out (by omega) hg hn hp
            rw [hpz] at hput
            go_at_call 12
            (with_reducible refine hput.mono ?_)
            clear hput
            rintro e w8 ⟨rfl, hH8, hx8, hb8⟩
            have hx08 := (KX.of (lb := lb) (zb := zb) (tb := tb) HBc).trans hx8
            have hb68 := (HBc.mono hBH).trans hb8
            refine hK.out _ _ (by first | with_reducible exact ⟨v0, y0, y1, y2, y3, y4⟩ | exact HKP8.out _ hx08 hb68 | exact HKS.out _ HBc) (fun _ => ?_)
            clear hK K
            try simp only [Act.put, List.setIfInBounds_toArray, List.set_cons_zero, List.set_cons_succ]
            refine wpAnyH_take (i := 8) (oi := ({ dst := some 81, op := Op.binOp BinOp.eql 26 (Operand.tmp 80) (Operand.const (Value.int IntKind.i64 0)) 26, type := 4, pos := _, after := #[{ on := 7, ground := Ground.data }], guard := none } : Oper)) (v := ?_) rfl (by kernel_rfl) (by kernel_rfl) (by kernel_rfl) (fun _ _ _ h => h) (Or.inl ⟨by rfl, ?_⟩) (by first | with_reducible exact ⟨v0, y0, y1, y2, y3, y4⟩ | exact HKP8.out _ hx08 hb68 | exact HKS.out _ HBc) ?_
            rotate_left
            · intro w hSw
              try dsimp only at hSw
              go_simp
              try with_reducible rfl
            try simp only [Act.put, List.setIfInBounds_toArray, List.set_cons_zero, List.set_cons_succ]
            refine wpAnyH_take (i := 9) (oi := ({ dst := some 4, op := Op.assign (Operand.tmp 81), type := 4, pos := _, after := #[{ on := 8, ground := Ground.data }, { on := 7, ground := Ground.chain }, { on := 0, ground := Ground.phase }, { on := 1, ground := Ground.phase }, { on := 2, ground := Ground.phase }, { on := 3, ground := Ground.phase }, { on := 4, ground := Ground.phase }, { on := 5, ground := Ground.phase }, { on := 6, ground := Ground.phase }, { on := 7, ground := Ground.phase }, { on := 8, ground := Ground.phase }], guard := none } : Oper)) (v := ?_) rfl (by kernel_rfl) (by kernel_rfl) (by kernel_rfl) (fun _ _ _ h => h) (Or.inl ⟨by rfl, ?_⟩) (by first | with_reducible exact ⟨v0, y0, y1, y2, y3, y4⟩ | exact HKP8.out _ hx08 hb68 | exact HKS.out _ HBc) ?_
            rotate_left
            · intro w hSw
              try dsimp only at hSw
              go_simp
              try with_reducible rfl
            try simp only [Act.put, List.setIfInBounds_toArray, List.set_cons_zero, List.set_cons_succ]
            refine wpAnyH_done (by kernel_rfl) ?_ _
            go_wp2_with fail
            go_ret
            exact ⟨rfl, hb0.trans (((below_drewN (Below.refl w6.heap.size w6) 1).trans HBc).mono hb0.size |>.trans (hb8.mono hwB))⟩
        · go_simp
          go_at_call 11
          (with_reducible refine (few_d g n p gr (.slice VA l.length Vc) l d HD.out w6.drew HVd.out).mono ?_)
          rintro e w7 ⟨dA, dc, rfl, ho7, hb7⟩
          have hdR := rdt_of_own ho7
          have HBf : Below w6.drew.heap.size w6.drew w7 := hb7
          have HBc := HBf
          refine hK.out _ _ (by first | with_reducible exact ⟨v0, y0, y1, y2, y3, y4⟩ | exact HKP8.out _ hx08 hb68 | exact HKS.out _ HBc) (fun _ => ?_)
          clear hK K
          try simp only [Act.put, List.setIfInBounds_toArray, List.set_cons_zero, List.set_cons_succ]
          refine wpAnyH_ready (rs := [1]) (by kernel_rfl) (by simp) ?_
          refine (AllReadyH.cons (o := ({ dst := some 74, op := Op.buildSlice 30 1 #[(0, Operand.const (Value.int IntKind.u8 97))], type := 30, pos := _, after := #[], guard := none } : Oper)) rfl (fun K hK => ?_) AllReadyH.nil)
          go_simp
          have hL : Blk (w7.alloc (.cells #[.int .u8 97] 5)) w7.heap.size 5 #[.int .u8 97] := Blk.new w7 5 #[.int .u8 97]
          have HBc : Below w6.drew.heap.size w6.drew (w7.alloc (.cells #[.int .u8 97] 5)) := HBf.alloc HBf.size (.cells #[.int .u8 97] 5)
          have hcs := conv_same hL
          refine hK.out _ _ (by first | with_reducible exact ⟨v0, y0, y1, y2, y3, y4⟩ | exact HKP8.out _ hx08 hb68 | exact HKS.out _ HBc) (fun _ => ?_)
          clear hK K
          try simp only [Act.put, List.setIfInBounds_toArray, List.set_cons_zero, List.set_cons_succ]
          refine wpAnyH_ready (rs := [2]) (by kernel_rfl) (by simp) ?_
          refine (AllReadyH.cons (o := ({ dst := some 75, op := Op.convert 30 30 (Operand.tmp 74), type := 30, pos := _, after := #[{ on := 1, ground := Ground.data }], guard := none } : Oper)) rfl (fun K hK => ?_) AllReadyH.nil)
          go_simp
          have hvR := frz_rdf hL
          have HBc := frz_below HBc (b := _) HBf.size
          refine hK.out _ _ (by first | with_reducible exact ⟨v0, y0, y1, y2, y3, y4⟩ | exact HKP8.out _ hx08 hb68 | exact HKS.out _ HBc) (fun _ => ?_)
          clear hK K
          try simp only [Act.put, List.setIfInBounds_toArray, List.set_cons_zero, List.set_cons_succ]
          refine wpAnyH_ready (rs := [7]) (by kernel_rfl) (by simp) ?_
          refine (AllReadyH.cons (o := ({ dst := some 80, op := Op.call { callee := Callee.value (Operand.func 12), args := #[Operand.tmp 73, Operand.tmp 75, Operand.tmp 79], argTypes := #[25, 30, 35] }, type := 26, pos := _, after := #[{ on := 0, ground := Ground.data }, { on := 2, ground := Ground.data }, { on := 6, ground := Ground.data }, { on := 6, ground := Ground.chain }], guard := none } : Oper)) rfl (fun K hK => ?_) AllReadyH.nil)
          go_simp
          have hvP : Rd ((w7.alloc (.cells #[.int .u8 97] 5)).freeze ⟨w7.heap.size, 1, none⟩ 1) .u8 _ _ := hvR.1
          have hHP := hHd.kept HBc
          have hdP : RdT ((w7.alloc (.cells #[.int .u8 97] 5)).freeze ⟨w7.heap.size, 1, none⟩ 1) (.slice dA d.length dc) d := (hdR.below (frz_below ((Below.refl w7.heap.size w7).alloc (Nat.le_refl _) _) (Nat.le_refl _)))
          have hput := put_any B sb lb zb tb _ 1048576 g n p gr dA dc [97] d s ((w7.alloc (.cells #[.int .u8 97] 5)).freeze ⟨w7.heap.size, 1, none⟩ 1) hHP hok (by omega) hvP aw_bytes (by simp) hdP HDK.out (by omega) hg hn hp
          rw [hpz] at hput
          go_at_call 12
          (with_reducible refine hput.mono ?_)
          clear hput
          rintro e w8 ⟨rfl, hH8, hx8, hb8⟩
          have hx08 := (KX.of (lb := lb) (zb := zb) (tb := tb) HBc).trans hx8
          have hb68 := (HBc.mono hBH).trans hb8
          refine hK.out _ _ (by first | with_reducible exact ⟨v0, y0, y1, y2, y3, y4⟩ | exact HKP8.out _ hx08 hb68 | exact HKS.out _ HBc) (fun _ => ?_)
          clear hK K
          try simp only [Act.put, List.setIfInBounds_toArray, List.set_cons_zero, List.set_cons_succ]
          refine wpAnyH_take (i := 8) (oi := ({ dst := some 81, op := Op.binOp BinOp.eql 26 (Operand.tmp 80) (Operand.const (Value.int IntKind.i64 0)) 26, type := 4, pos := _, after := #[{ on := 7, ground := Ground.data }], guard := none } : Oper)) (v := ?_) rfl (by kernel_rfl) (by kernel_rfl) (by kernel_rfl) (fun _ _ _ h => h) (Or.inl ⟨by rfl, ?_⟩) (by first | with_reducible exact ⟨v0, y0, y1, y2, y3, y4⟩ | exact HKP8.out _ hx08 hb68 | exact HKS.out _ HBc) ?_
          rotate_left
          · intro w hSw
            try dsimp only at hSw
            go_simp
            try with_reducible rfl
          try simp only [Act.put, List.setIfInBounds_toArray, List.set_cons_zero, List.set_cons_succ]
          refine wpAnyH_take (i := 9) (oi := ({ dst := some 4, op := Op.assign (Operand.tmp 81), type := 4, pos := _, after := #[{ on := 8, ground := Ground.data }, { on := 7, ground := Ground.chain }, { on := 0, ground := Ground.phase }, { on := 1, ground := Ground.phase }, { on := 2, ground := Ground.phase }, { on := 3, ground := Ground.phase }, { on := 4, ground := Ground.phase }, { on := 5, ground := Ground.phase }, { on := 6, ground := Ground.phase }, { on := 7, ground := Ground.phase }, { on := 8, ground := Ground.phase }], guard := none } : Oper)) (v := ?_) rfl (by kernel_rfl) (by kernel_rfl) (by kernel_rfl) (fun _ _ _ h => h) (Or.inl ⟨by rfl, ?_⟩) (by first | with_reducible exact ⟨v0, y0, y1, y2, y3, y4⟩ | exact HKP8.out _ hx08 hb68 | exact HKS.out _ HBc) ?_
          rotate_left
          · intro w hSw
            try dsimp only at hSw
            go_simp
            try with_reducible rfl
          try simp only [Act.put, List.setIfInBounds_toArray, List.set_cons_zero, List.set_cons_succ]
          refine wpAnyH_done (by kernel_rfl) ?_ _
          go_wp2_with fail
          go_ret
          exact ⟨rfl, hb0.trans (((below_drewN (Below.refl w6.heap.size w6) 1).trans HBc).mono hb0.size |>.trans (hb8.mono hwB))⟩

end Go.Proofs.Ytiaabbflchdcbaa
