/-
  LossOnce: each packet that is sent is acknowledged, or lost, or under way: never two of these, and never twice. For every input; no condition.
-/
import Derived.Test.YtohjifbkjfnkfaaLonce
import Derived.Deep.CutBlock
namespace Go.Proofs.Ytohjifbkjfnkfaa
open Go.RowKit
set_option linter.unusedVariables false
set_option linter.unusedSimpArgs false


theorem clear_f (B g : Nat) (L : List Pk) (nx ak : Int) (sm : Bool) (w : World) (hl : Led B w g L nx ak sm) (hL : L.length ≤ 100000) (hk : ∀ p ∈ L, PkOk p) :
    Calls Try.prog 16 #[.pointer (some ⟨g, 0, none⟩)] w fun e w' => ∃ v, e = .returned v ∧ w'.ownsRow w.heap.size 36 4 v (L.filter (fun _ => true)).length (pkcells (L.filter (fun _ => true))) ∧ Led B w' g (L.filter (fun p => !(fun _ : Pk => true) p)) nx ak sm ∧ w.grownBy w' (some g) := by
  have e1 : L.filter (fun _ => true) = L := by simp
  have e2 : L.filter (fun p => !(fun _ : Pk => true) p) = [] := by simp
  rw [e1, e2]
  exact clear_any B g L nx ak sm w hl hL hk
theorem Led.far {B : Nat} {w w' : World} {g b : Nat} {L : List Pk} {nx ak : Int} {sm : Bool} (h : Led B w g L nx ak sm) (hg : w.grownBy w' (some b)) (hne : g ≠ b) (hv : ∀ v, w.ownsRow B 36 4 v L.length (pkcells L) → v.ownBlock ≠ some b) : Led B w' g L nx ak sm := by
  obtain ⟨h0, V, h1, h2⟩ := h
  exact ⟨h0, V, h1.grown hg (by simpa using hne), own_grown h2 hg (.inr (hv V h2))⟩
theorem Pairs.pre {w : World} {A : Option Addr} {n m : Nat} {L : List (Int × Int)} (h : Pairs w A n L) (hm : m ≤ n) : Pairs w A m (L.take m) :=
  ⟨by simp [h.1, hm], fun k hk => by
    obtain ⟨b, off, e, hlt, h0, h1⟩ := h.2 k (by omega)
    have hl : k < L.length := by rw [h.1]; omega
    have e1 : (L.take m).getD k (0, 0) = L.getD k (0, 0) := by simp [List.getD, hk]
    rw [e1]
    exact ⟨b, off, e, hlt, h0, h1⟩⟩
set_option maxHeartbeats 8000000 in
set_option maxRecDepth 100000 in
theorem once_walk (A : Option Addr) (N cap : Nat) (w : World) (hp : Ops w A N) (hnc : N ≤ cap) (hcm : cap ≤ maxLen) :
    Calls Try.prog 6 #[.slice A N cap] w fun e w' => e = .returned (.bool true) ∧ Below w.heap.size w w' := by
  have hmm := @run_makeMap Try.prog
  have hcm' : cap ≤ 9223372036854775807 := by unfold maxLen at hcm; omega
  clear hcm
  have HP := Lib.hid hp
  clear hp
  go_enter Try.func6, Try.ntmps6
  go_wp2_with fail
  refine (awake_any _).mono ?_
  rintro e w1 ⟨rfl, hB⟩
  go_wp2_with fail
  refine (new_any _).mono ?_
  rintro e w2 ⟨g, rfl, hl, hB2⟩
  have hl := hl.base hB.size
  have hB := hB.trans (hB2.mono hB.size)
  have hM := mapF_made w2
  have hb2 := (Below.refl w2.heap.size w2).alloc (Nat.le_refl _) (.map #[] 0)
  have hgm := hl.lt
  have hl := hl.below hb2
  have hmb := hB.size
  have hB := hB.trans (hb2.mono hB.size)
  obtain ⟨mb, hmbe⟩ : ∃ mb, mb = w2.heap.size := ⟨_, rfl⟩
  rw [← hmbe] at hM hgm hmb
  clear hB2 hb2
  go_wp2_with fail
  rw [← hmbe]
  go_loopw [21] (fun i wr => ∃ (k : Nat) (L : List Pk) (nx ak : Int) (sm : Bool) (f : Int → Int) (n : Nat), k ≤ N ∧ i = .int .i64 k ∧ Led w.heap.size wr g L nx ak sm ∧ MapF wr mb n f ∧ Inv L nx f ∧ L.length ≤ k ∧ k ≤ 60 ∧ n ≤ 1000 * k ∧ Below w.heap.size w wr) (fun i _ => N - (intOf i).toNat)
  case atStart => exact ⟨0, [], 0, 0, false, _, 0, Nat.zero_le _, rfl, hl, hM, inv0, Nat.le_refl _, by decide, Nat.le_refl _, hB⟩
  case round =>
    clear hl hM hB hmbe
    obtain ⟨k, L, nx, ak, sm, f, n, hkn, rfl, hl, hM, hI, hLk, hk60, hnk, hB⟩ := hrel
    by_cases hlt : k < N
    · obtain ⟨b, off, o, rfl, hb, how, hcw⟩ := HP.out k hlt
      have hc := fun j hj => (hB.cell (p := ⟨b, off + (k * 9 + j), none⟩) hb).trans (hcw j hj)
      have ho := how.below hB
      clear hcw
      obtain ⟨d, ⟨pn, ps, pz, pa⟩, pg, RA, rn, rc, R, now, wait⟩ := o
      have d0 : wr.cell? ⟨b, off + k * 9, none⟩ = some (.int .u8 d) := by simpa [Oq.cells, Nat.add_assoc] using hc 0 (by decide)
      have d1 : wr.cell? ⟨b, off + k * 9 + 1, none⟩ = some (.int .u64 pn) := by simpa [Oq.cells, Nat.add_assoc] using hc 1 (by decide)
      have d2 : wr.cell? ⟨b, off + k * 9 + 2, none⟩ = some (.int .u64 ps) := by simpa [Oq.cells, Nat.add_assoc] using hc 2 (by decide)
      have d3 : wr.cell? ⟨b, off + k * 9 + 3, none⟩ = some (.int .i64 pz) := by simpa [Oq.cells, Nat.add_assoc] using hc 3 (by decide)
      have d4 : wr.cell? ⟨b, off + k * 9 + 4, none⟩ = some (.bool pa) := by simpa [Oq.cells, Nat.add_assoc] using hc 4 (by decide)
      have d5 : wr.cell? ⟨b, off + k * 9 + 5, none⟩ = some (.bool pg) := by simpa [Oq.cells, Nat.add_assoc] using hc 5 (by decide)
      have d6 : wr.cell? ⟨b, off + k * 9 + 6, none⟩ = some (.slice RA rn rc) := by simpa [Oq.cells, Nat.add_assoc] using hc 6 (by decide)
      have d7 : wr.cell? ⟨b, off + k * 9 + 7, none⟩ = some (.int .u64 now) := by simpa [Oq.cells, Nat.add_assoc] using hc 7 (by decide)
      have d8 : wr.cell? ⟨b, off + k * 9 + 8, none⟩ = some (.int .u64 wait) := by simpa [Oq.cells, Nat.add_assoc] using hc 8 (by decide)
      have hgr := hl.lt
      have hmr := hM.lt
      have hB2 := hB.alloc hB.size (.cells #[.int .u8 d, .int .u64 pn, .int .u64 ps, .int .i64 pz, .bool pa, .bool pg, .slice RA rn rc, .int .u64 now, .int .u64 wait] 52)
      have hO := Blk.new wr 52 #[.int .u8 d, .int .u64 pn, .int .u64 ps, .int .i64 pz, .bool pa, .bool pg, .slice RA rn rc, .int .u64 now, .int .u64 wait]
      have hl2 := hl.below ((Below.refl wr.heap.size wr).alloc (Nat.le_refl _) (.cells #[.int .u8 d, .int .u64 pn, .int .u64 ps, .int .i64 pz, .bool pa, .bool pg, .slice RA rn rc, .int .u64 now, .int .u64 wait] 52))
      have hM2 := hM.below ((Below.refl wr.heap.size wr).alloc (Nat.le_refl _) (.cells #[.int .u8 d, .int .u64 pn, .int .u64 ps, .int .i64 pz, .bool pa, .bool pg, .slice RA rn rc, .int .u64 now, .int .u64 wait] 52))
      have ho2 := ho.below ((Below.refl wr.heap.size wr).alloc (Nat.le_refl _) (.cells #[.int .u8 d, .int .u64 pn, .int .u64 ps, .int .i64 pz, .bool pa, .bool pg, .slice RA rn rc, .int .u64 now, .int .u64 wait] 52))
      have hI' := Lib.hid hI
      have hd := ho.1
      simp only at hd
      by_cases h60 : k < 60
      · have h60' : (k : Int) < 60 := by omega
        go_upto_block 2 with (fail)
        go_cut [7, 30] (fun s7 s30 wx => ∃ (G L' : List Pk) (nx' ak' : Int) (sm' : Bool) (f' : Int → Int) (v : Value), v = s7 ∧ wx.ownsRow w.heap.size 36 4 v G.length (pkcells G) ∧ Led w.heap.size wx g L' nx' ak' sm' ∧ MapF wx mb (n + 1) f' ∧ Inv L' nx' (goneF f' G) ∧ (∀ t, t < G.length → goneF f' (G.take t) (G.getD t pk0).num = 1) ∧ (∀ p ∈ G, PkOk p) ∧ G.length ≤ k + 1 ∧ L'.length ≤ k + 1 ∧ Below w.heap.size w wx)
        case first =>
          have hocells := 0
          have o0 : World.cell? (wr.alloc (.cells #[.int .u8 d, .int .u64 pn, .int .u64 ps, .int .i64 pz, .bool pa, .bool pg, .slice RA rn rc, .int .u64 now, .int .u64 wait] 52)) ⟨wr.heap.size, 0, none⟩ = some (.int .u8 d) := hO.cell 0
          have o1 : World.cell? (wr.alloc (.cells #[.int .u8 d, .int .u64 pn, .int .u64 ps, .int .i64 pz, .bool pa, .bool pg, .slice RA rn rc, .int .u64 now, .int .u64 wait] 52)) ⟨wr.heap.size, 1, none⟩ = some (.int .u64 pn) := hO.cell 1
          have o2 : World.cell? (wr.alloc (.cells #[.int .u8 d, .int .u64 pn, .int .u64 ps, .int .i64 pz, .bool pa, .bool pg, .slice RA rn rc, .int .u64 now, .int .u64 wait] 52)) ⟨wr.heap.size, 2, none⟩ = some (.int .u64 ps) := hO.cell 2
          have o3 : World.cell? (wr.alloc (.cells #[.int .u8 d, .int .u64 pn, .int .u64 ps, .int .i64 pz, .bool pa, .bool pg, .slice RA rn rc, .int .u64 now, .int .u64 wait] 52)) ⟨wr.heap.size, 3, none⟩ = some (.int .i64 pz) := hO.cell 3
          have o4 : World.cell? (wr.alloc (.cells #[.int .u8 d, .int .u64 pn, .int .u64 ps, .int .i64 pz, .bool pa, .bool pg, .slice RA rn rc, .int .u64 now, .int .u64 wait] 52)) ⟨wr.heap.size, 4, none⟩ = some (.bool pa) := hO.cell 4
          have o5 : World.cell? (wr.alloc (.cells #[.int .u8 d, .int .u64 pn, .int .u64 ps, .int .i64 pz, .bool pa, .bool pg, .slice RA rn rc, .int .u64 now, .int .u64 wait] 52)) ⟨wr.heap.size, 5, none⟩ = some (.bool pg) := hO.cell 5
          have o6 : World.cell? (wr.alloc (.cells #[.int .u8 d, .int .u64 pn, .int .u64 ps, .int .i64 pz, .bool pa, .bool pg, .slice RA rn rc, .int .u64 now, .int .u64 wait] 52)) ⟨wr.heap.size, 6, none⟩ = some (.slice RA rn rc) := hO.cell 6
          have o7 : World.cell? (wr.alloc (.cells #[.int .u8 d, .int .u64 pn, .int .u64 ps, .int .i64 pz, .bool pa, .bool pg, .slice RA rn rc, .int .u64 now, .int .u64 wait] 52)) ⟨wr.heap.size, 7, none⟩ = some (.int .u64 now) := hO.cell 7
          have o8 : World.cell? (wr.alloc (.cells #[.int .u8 d, .int .u64 pn, .int .u64 ps, .int .i64 pz, .bool pa, .bool pg, .slice RA rn rc, .int .u64 now, .int .u64 wait] 52)) ⟨wr.heap.size, 8, none⟩ = some (.int .u64 wait) := hO.cell 8
          clear hocells
          by_cases h3 : d % 7 = 3
          · have h3' : (d % 7 == 3) = true := by simpa using h3
            obtain ⟨hq1, hq2, ⟨r1, r2, r3, r4, r5⟩, hq4, hq5⟩ := ho2
            obtain ⟨_, _, ⟨_, _, _, rw4, _⟩, _, _⟩ := how
            obtain ⟨m, hm⟩ : ∃ m : Nat, m = if rn < 6 then rn else 6 := ⟨_, rfl⟩
            have hm6 : m ≤ rn ∧ m ≤ 6 := by rw [hm]; split <;> omega
            have hm1 : (if (6 : Int) < (rn : Int) then 6 else (rn : Int)) = (m : Int) := by rw [hm]; split <;> split <;> omega
            have hm2 : (if (rn : Int) < 6 then (rn : Int) else 6) = (m : Int) := by rw [hm]; split <;> split <;> omega
            clear hm
            have hmc : m ≤ rc := by simp only at r1; omega
            have hmc' : (m : Int) ≤ (rc : Int) := by omega
            have hpr := Pairs.pre r4 hm6.1
            have hag : 0 < m → ∀ b off, RA = some ⟨b, off, none⟩ → b ≠ g := by
              rintro h0 b' off' e rfl
              obtain ⟨b2, off2, e2, hlt2, _⟩ := rw4.2 0 (by simp only; omega)
              simp only at e2
              rw [e] at e2
              simp only [Option.some.injEq, Addr.mk.injEq] at e2
              have := hl.1
              omega
            by_cases hE : ackE nx (R.take m) = 0
            · obtain ⟨e1, e2⟩ := ackE_ok hE
              go_wp2_with fail
              refine (ack_okn w.heap.size g L nx ak sm RA m rc (R.take m) (wr.alloc (.cells #[.int .u8 d, .int .u64 pn, .int .u64 ps, .int .i64 pz, .bool pa, .bool pg, .slice RA rn rc, .int .u64 now, .int .u64 wait] 52)) hl2 (by omega) hI'.out.k hpr hmc r2 e1 e2 hag).mono ?_
              rintro e w4 ⟨v4, rfl, ho4, hl4, hg4⟩
              have hM4 := hM2.grown hg4 (by simp; omega)
              have hB4 := hB2.grown hg4 hB2.size (fun b hb => by injection hb with hb; have := hl.1; omega)
              have ho5 := own_base ho4 (show w.heap.size ≤ _ from hB2.size)
              have hI4 := inv_gone hI'.out (inR (R.take m))
              have hgn := gone_now hI'.out (L.filter (inR (R.take m))) (fun p hp => (List.mem_filter.1 hp).1) (hI'.out.d.filter _)
              have hgk : ∀ p ∈ L.filter (inR (R.take m)), PkOk p := fun p hp => hI'.out.k p (List.mem_filter.1 hp).1
              have hg1 : (L.filter (inR (R.take m))).length ≤ k + 1 := Nat.le_trans (List.length_filter_le _ _) (by omega)
              have hg2 : (L.filter (fun p => !(inR (R.take m)) p)).length ≤ k + 1 := Nat.le_trans (List.length_filter_le _ _) (by omega)
              obtain ⟨A4, c4, rfl, _⟩ := sl_of_own ho5
              clear ho4 hg4 hl hM hl2 hM2 hB2 hB hO d0 d1 d2 d3 d4 d5 d6 d7 d8 o0 o1 o2 o3 o4 o5 o6 o7 o8
              go_wp2_with fail
              go_meet
              first | exact ⟨_, _, nx, _, _, f, _, rfl, ho5, hl4, hM4.mono (Nat.le_succ n), hI4, hgn, hgk, hg1, hg2, hB4⟩ | ((repeat apply Exists.intro); exact ⟨⟨_, _, nx, _, _, f, _, rfl, ho5, hl4, hM4.mono (Nat.le_succ n), hI4, hgn, hgk, hg1, hg2, hB4⟩, rfl⟩)
            · go_wp2_with fail
              refine (ack_no w.heap.size g L nx ak sm RA m rc (R.take m) (wr.alloc (.cells #[.int .u8 d, .int .u64 pn, .int .u64 ps, .int .i64 pz, .bool pa, .bool pg, .slice RA rn rc, .int .u64 now, .int .u64 wait] 52)) hl2 hpr hmc r2 hE).mono ?_
              rintro e w4 ⟨rfl, hb4⟩
              have hl4 := hl2.below hb4
              have hM4 := hM2.below hb4
              have hB4 := hB2.trans (hb4.mono hB2.size)
              clear hb4 hl hM hl2 hM2 hB2 hB hO d0 d1 d2 d3 d4 d5 d6 d7 d8 o0 o1 o2 o3 o4 o5 o6 o7 o8
              go_wp2_with fail
              go_meet
              first | exact ⟨[], L, nx, ak, sm, f, (.slice none 0 0), rfl, World.ownsRow_nil _ _ _ _, hl4, hM4.mono (Nat.le_succ n), hI'.out, fun t ht => absurd ht (by simp), fun p hp => by simp at hp, by simp, by omega, hB4⟩ | ((repeat apply Exists.intro); exact ⟨⟨[], L, nx, ak, sm, f, (.slice none 0 0), rfl, World.ownsRow_nil _ _ _ _, hl4, hM4.mono (Nat.le_succ n), hI'.out, fun t ht => absurd ht (by simp), fun p hp => by simp at hp, by simp, by omega, hB4⟩, rfl⟩)
          · have h3' : (d % 7 == 3) = false := by simpa using h3
            by_cases h4 : d % 7 = 4
            · have h4' : (d % 7 == 4) = true := by simpa using h4
              obtain ⟨hq1, hq2, ⟨r1, r2, r3, r4, r5⟩, hq4, hq5⟩ := ho2
              obtain ⟨_, _, ⟨_, _, _, rw4, _⟩, _, _⟩ := how
              obtain ⟨m, hm⟩ : ∃ m : Nat, m = if rn < 6 then rn else 6 := ⟨_, rfl⟩
              have hm6 : m ≤ rn ∧ m ≤ 6 := by rw [hm]; split <;> omega
              have hm1 : (if (6 : Int) < (rn : Int) then 6 else (rn : Int)) = (m : Int) := by rw [hm]; split <;> split <;> omega
              have hm2 : (if (rn : Int) < 6 then (rn : Int) else 6) = (m : Int) := by rw [hm]; split <;> split <;> omega
              clear hm
              have hmc : m ≤ rc := by simp only at r1; omega
              have hmc' : (m : Int) ≤ (rc : Int) := by omega
              have hpr := Pairs.pre r4 hm6.1
              have hag : 0 < m → ∀ b off, RA = some ⟨b, off, none⟩ → b ≠ g := by
                rintro h0 b' off' e rfl
                obtain ⟨b2, off2, e2, hlt2, _⟩ := rw4.2 0 (by simp only; omega)
                simp only at e2
                rw [e] at e2
                simp only [Option.some.injEq, Addr.mk.injEq] at e2
                have := hl.1
                omega
              by_cases hE : ackE nx (R.take m) = 0
              · obtain ⟨e1, e2⟩ := ackE_ok hE
                go_wp2_with fail
                refine (ack_okn w.heap.size g L nx ak sm RA m rc (R.take m) (wr.alloc (.cells #[.int .u8 d, .int .u64 pn, .int .u64 ps, .int .i64 pz, .bool pa, .bool pg, .slice RA rn rc, .int .u64 now, .int .u64 wait] 52)) hl2 (by omega) hI'.out.k hpr hmc r2 e1 e2 hag).mono ?_
                rintro e w4 ⟨v4, rfl, ho4, hl4, hg4⟩
                have hM4 := hM2.grown hg4 (by simp; omega)
                have hB4 := hB2.grown hg4 hB2.size (fun b hb => by injection hb with hb; have := hl.1; omega)
                have ho5 := own_base ho4 (show w.heap.size ≤ _ from hB2.size)
                have hI4 := inv_gone hI'.out (inR (R.take m))
                have hgn := gone_now hI'.out (L.filter (inR (R.take m))) (fun p hp => (List.mem_filter.1 hp).1) (hI'.out.d.filter _)
                have hgk : ∀ p ∈ L.filter (inR (R.take m)), PkOk p := fun p hp => hI'.out.k p (List.mem_filter.1 hp).1
                have hg1 : (L.filter (inR (R.take m))).length ≤ k + 1 := Nat.le_trans (List.length_filter_le _ _) (by omega)
                have hg2 : (L.filter (fun p => !(inR (R.take m)) p)).length ≤ k + 1 := Nat.le_trans (List.length_filter_le _ _) (by omega)
                obtain ⟨A4, c4, rfl, _⟩ := sl_of_own ho5
                clear ho4 hg4 hl hM hl2 hM2 hB2 hB hO d0 d1 d2 d3 d4 d5 d6 d7 d8 o0 o1 o2 o3 o4 o5 o6 o7 o8
                go_wp2_with fail
                go_meet
                first | exact ⟨_, _, nx, _, _, f, _, rfl, ho5, hl4, hM4.mono (Nat.le_succ n), hI4, hgn, hgk, hg1, hg2, hB4⟩ | ((repeat apply Exists.intro); exact ⟨⟨_, _, nx, _, _, f, _, rfl, ho5, hl4, hM4.mono (Nat.le_succ n), hI4, hgn, hgk, hg1, hg2, hB4⟩, rfl⟩)
              · go_wp2_with fail
                refine (ack_no w.heap.size g L nx ak sm RA m rc (R.take m) (wr.alloc (.cells #[.int .u8 d, .int .u64 pn, .int .u64 ps, .int .i64 pz, .bool pa, .bool pg, .slice RA rn rc, .int .u64 now, .int .u64 wait] 52)) hl2 hpr hmc r2 hE).mono ?_
                rintro e w4 ⟨rfl, hb4⟩
                have hl4 := hl2.below hb4
                have hM4 := hM2.below hb4
                have hB4 := hB2.trans (hb4.mono hB2.size)
                clear hb4 hl hM hl2 hM2 hB2 hB hO d0 d1 d2 d3 d4 d5 d6 d7 d8 o0 o1 o2 o3 o4 o5 o6 o7 o8
                go_wp2_with fail
                go_meet
                first | exact ⟨[], L, nx, ak, sm, f, (.slice none 0 0), rfl, World.ownsRow_nil _ _ _ _, hl4, hM4.mono (Nat.le_succ n), hI'.out, fun t ht => absurd ht (by simp), fun p hp => by simp at hp, by simp, by omega, hB4⟩ | ((repeat apply Exists.intro); exact ⟨⟨[], L, nx, ak, sm, f, (.slice none 0 0), rfl, World.ownsRow_nil _ _ _ _, hl4, hM4.mono (Nat.le_succ n), hI'.out, fun t ht => absurd ht (by simp), fun p hp => by simp at hp, by simp, by omega, hB4⟩, rfl⟩)
            · have h4' : (d % 7 == 4) = false := by simpa using h4
              by_cases h5 : d % 7 = 5
              · have h5' : (d % 7 == 5) = true := by simpa using h5
                go_wp2_with fail
                refine (lost_any w.heap.size g L nx ak sm now wait (wr.alloc (.cells #[.int .u8 d, .int .u64 pn, .int .u64 ps, .int .i64 pz, .bool pa, .bool pg, .slice RA rn rc, .int .u64 now, .int .u64 wait] 52)) hl2 (by omega) hI'.out.k ho2.2.2.2.1).mono ?_
                rintro e w4 ⟨v4, rfl, ho4, hl4, hg4⟩
                have hM4 := hM2.grown hg4 (by simp; omega)
                have hB4 := hB2.grown hg4 hB2.size (fun b hb => by injection hb with hb; have := hl.1; omega)
                have ho5 := own_base ho4 (show w.heap.size ≤ _ from hB2.size)
                have hI4 := inv_gone hI'.out (lostF sm ak now wait)
                have hgn := gone_now hI'.out (L.filter (lostF sm ak now wait)) (fun p hp => (List.mem_filter.1 hp).1) (hI'.out.d.filter _)
                have hgk : ∀ p ∈ L.filter (lostF sm ak now wait), PkOk p := fun p hp => hI'.out.k p (List.mem_filter.1 hp).1
                have hg1 : (L.filter (lostF sm ak now wait)).length ≤ k + 1 := Nat.le_trans (List.length_filter_le _ _) (by omega)
                have hg2 : (L.filter (fun p => !(lostF sm ak now wait) p)).length ≤ k + 1 := Nat.le_trans (List.length_filter_le _ _) (by omega)
                obtain ⟨A4, c4, rfl, _⟩ := sl_of_own ho5
                clear ho4 hg4 hl hM hl2 hM2 hB2 hB hO d0 d1 d2 d3 d4 d5 d6 d7 d8 o0 o1 o2 o3 o4 o5 o6 o7 o8
                go_wp2_with fail
                go_meet
                first | exact ⟨_, _, nx, ak, sm, f, _, rfl, ho5, hl4, hM4.mono (Nat.le_succ n), hI4, hgn, hgk, hg1, hg2, hB4⟩ | ((repeat apply Exists.intro); exact ⟨⟨_, _, nx, ak, sm, f, _, rfl, ho5, hl4, hM4.mono (Nat.le_succ n), hI4, hgn, hgk, hg1, hg2, hB4⟩, rfl⟩)
              · have h5' : (d % 7 == 5) = false := by simpa using h5
                by_cases h6 : d % 7 = 6
                · have h6' : (d % 7 == 6) = true := by simpa using h6
                  go_wp2_with fail
                  refine (clear_f w.heap.size g L nx ak sm (wr.alloc (.cells #[.int .u8 d, .int .u64 pn, .int .u64 ps, .int .i64 pz, .bool pa, .bool pg, .slice RA rn rc, .int .u64 now, .int .u64 wait] 52)) hl2 (by omega) hI'.out.k).mono ?_
                  rintro e w4 ⟨v4, rfl, ho4, hl4, hg4⟩
                  have hM4 := hM2.grown hg4 (by simp; omega)
                  have hB4 := hB2.grown hg4 hB2.size (fun b hb => by injection hb with hb; have := hl.1; omega)
                  have ho5 := own_base ho4 (show w.heap.size ≤ _ from hB2.size)
                  have hI4 := inv_gone hI'.out (fun _ => true)
                  have hgn := gone_now hI'.out (L.filter (fun _ => true)) (fun p hp => (List.mem_filter.1 hp).1) (hI'.out.d.filter _)
                  have hgk : ∀ p ∈ L.filter (fun _ => true), PkOk p := fun p hp => hI'.out.k p (List.mem_filter.1 hp).1
                  have hg1 : (L.filter (fun _ => true)).length ≤ k + 1 := Nat.le_trans (List.length_filter_le _ _) (by omega)
                  have hg2 : (L.filter (fun p => !(fun _ => true) p)).length ≤ k + 1 := Nat.le_trans (List.length_filter_le _ _) (by omega)
                  obtain ⟨A4, c4, rfl, _⟩ := sl_of_own ho5
                  clear ho4 hg4 hl hM hl2 hM2 hB2 hB hO d0 d1 d2 d3 d4 d5 d6 d7 d8 o0 o1 o2 o3 o4 o5 o6 o7 o8
                  go_wp2_with fail
                  go_meet
                  first | exact ⟨_, _, nx, ak, sm, f, _, rfl, ho5, hl4, hM4.mono (Nat.le_succ n), hI4, hgn, hgk, hg1, hg2, hB4⟩ | ((repeat apply Exists.intro); exact ⟨⟨_, _, nx, ak, sm, f, _, rfl, ho5, hl4, hM4.mono (Nat.le_succ n), hI4, hgn, hgk, hg1, hg2, hB4⟩, rfl⟩)
                · have h6' : (d % 7 == 6) = false := by simpa using h6
                  have hin : PkIn ⟨pn, ps, pz, pa⟩ := ho2.2.1
                  by_cases hE : sendE nx ⟨pn, ps, pz, pa⟩ = 0
                  · obtain ⟨e1, e2⟩ := sendE_ok hin hE
                    have hs := send_ok w.heap.size g L nx ak sm ⟨pn, ps, pz, pa⟩ (wr.alloc (.cells #[.int .u8 d, .int .u64 pn, .int .u64 ps, .int .i64 pz, .bool pa, .bool pg, .slice RA rn rc, .int .u64 now, .int .u64 wait] 52)) hl2 hB2.size (by omega) e1 e2
                    obtain ⟨hf0, hI4⟩ := inv_send hI'.out _ e1 e2
                    simp only at hf0 hI4
                    unfold Pk.agg at hs
                    simp only at hs
                    have HF0 := Lib.hid hf0
                    clear hf0
                    go_wp2_with fail
                    refine hs.mono ?_
                    rintro e w4 ⟨rfl, hl4, hB4, hK4⟩
                    have hO4 := hK4.blk hO (by decide) (by decide)
                    have p0 : World.cell? w4 ⟨wr.heap.size, 0, none⟩ = some (.int .u8 d) := hO4.cell 0
                    have p1 : World.cell? w4 ⟨wr.heap.size, 1, none⟩ = some (.int .u64 pn) := hO4.cell 1
                    have p2 : World.cell? w4 ⟨wr.heap.size, 2, none⟩ = some (.int .u64 ps) := hO4.cell 2
                    have p3 : World.cell? w4 ⟨wr.heap.size, 3, none⟩ = some (.int .i64 pz) := hO4.cell 3
                    have p4 : World.cell? w4 ⟨wr.heap.size, 4, none⟩ = some (.bool pa) := hO4.cell 4
                    have p5 : World.cell? w4 ⟨wr.heap.size, 5, none⟩ = some (.bool pg) := hO4.cell 5
                    have p6 : World.cell? w4 ⟨wr.heap.size, 6, none⟩ = some (.slice RA rn rc) := hO4.cell 6
                    have p7 : World.cell? w4 ⟨wr.heap.size, 7, none⟩ = some (.int .u64 now) := hO4.cell 7
                    have p8 : World.cell? w4 ⟨wr.heap.size, 8, none⟩ = some (.int .u64 wait) := hO4.cell 8
                    have hM4 : MapF w4 mb n f := by
                      obtain ⟨D, ⟨es, cl, q1, q2⟩, q3⟩ := hM2
                      exact ⟨D, ⟨es, cl, (hK4.map _ _ _ q1), q2⟩, q3⟩
                    have hB5 := hB2.trans hB4
                    have hpn := hin.1
                    simp only at hpn
                    clear hs hB4 hK4 hO4 hl hM hl2 hM2 hB2 hB hO d0 d1 d2 d3 d4 d5 d6 d7 d8 o0 o1 o2 o3 o4 o5 o6 o7 o8
                    go_wp2_with (first | (at_lookup; refine wpList_look_map _ rfl _ _ rfl mb n f rfl hM4 pn rfl hpn ?_; rw [HF0.out]) | (at_mapUpdate; refine wpList_put_map _ rfl _ _ _ rfl mb n f rfl hM4 (by omega) pn 1 rfl rfl hpn (by decide) ?_; intro w6 hM6 hg6) | fail)
                    have hl6 : Led w.heap.size w6 g (L ++ [⟨pn, ps, pz, pa⟩]) (pn + 1) ak sm := hl4.far hg6 (by omega) (fun v hv => own_map_ne hv hM4)
                    have hB6 := hB5.grown hg6 hB5.size (fun b hb => by injection hb with hb; omega)
                    go_wp2_with fail
                    go_meet
                    first | exact ⟨[], _, (pn + 1), ak, sm, _, (.slice none 0 0), rfl, World.ownsRow_nil _ _ _ _, hl6, hM6, hI4, fun t ht => absurd ht (by simp), fun p hp => by simp at hp, by simp, by simp; omega, hB6⟩ | ((repeat apply Exists.intro); exact ⟨⟨[], _, (pn + 1), ak, sm, _, (.slice none 0 0), rfl, World.ownsRow_nil _ _ _ _, hl6, hM6, hI4, fun t ht => absurd ht (by simp), fun p hp => by simp at hp, by simp, by simp; omega, hB6⟩, rfl⟩)
                  · have hs := send_no w.heap.size g L nx ak sm ⟨pn, ps, pz, pa⟩ (wr.alloc (.cells #[.int .u8 d, .int .u64 pn, .int .u64 ps, .int .i64 pz, .bool pa, .bool pg, .slice RA rn rc, .int .u64 now, .int .u64 wait] 52)) hl2 hin hE
                    unfold Pk.agg at hs
                    simp only at hs
                    have hE' := Lib.hid hE
                    obtain ⟨E, hEE⟩ : ∃ E, E = sendE nx ⟨pn, ps, pz, pa⟩ := ⟨_, rfl⟩
                    rw [← hEE] at hs hE
                    clear hEE
                    go_wp2_with fail
                    refine hs.mono ?_
                    rintro e w4 ⟨rfl, hb4⟩
                    have hl4 := hl2.below hb4
                    have hM4 := hM2.below hb4
                    have hB4 := hB2.trans (hb4.mono hB2.size)
                    clear hb4 hs hl hM hl2 hM2 hB2 hB hO d0 d1 d2 d3 d4 d5 d6 d7 d8 o0 o1 o2 o3 o4 o5 o6 o7 o8
                    go_wp2_with fail
                    go_meet
                    first | exact ⟨[], L, nx, ak, sm, f, (.slice none 0 0), rfl, World.ownsRow_nil _ _ _ _, hl4, hM4.mono (Nat.le_succ n), hI'.out, fun t ht => absurd ht (by simp), fun p hp => by simp at hp, by simp, by omega, hB4⟩ | ((repeat apply Exists.intro); exact ⟨⟨[], L, nx, ak, sm, f, (.slice none 0 0), rfl, World.ownsRow_nil _ _ _ _, hl4, hM4.mono (Nat.le_succ n), hI'.out, fun t ht => absurd ht (by simp), fun p hp => by simp at hp, by simp, by omega, hB4⟩, rfl⟩)
        case rest =>
          obtain ⟨G, L', nx', ak', sm', f', v, rfl, hO', hl', hM', hI2, hgn, hgk, hg1, hg2, hB'⟩ := hcut
          clear hl hM hB hl2 hM2 hB2 hO ho2 hI ho hc how d0 d1 d2 d3 d4 d5 d6 d7 d8
          have hne := own_map_ne hO' hM'
          obtain ⟨A5, cp5, rfl, _, hnc5, hcm5, _⟩ := pks_of_own hO'
          have hcm5' : cp5 ≤ 9223372036854775807 := by unfold maxLen at hcm5; omega
          have HO := Lib.hid hO'
          have HL := Lib.hid hl'
          have HM := Lib.hid hM'
          have HI := Lib.hid hI2
          have HG := Lib.hid hgn
          have HK := Lib.hid hgk
          have HB := Lib.hid hB'
          have hgc := hl'.lt
          have hmc := hM'.lt
          have hBs := hB'.size
          clear hO' hl' hM' hI2 hgn hgk hB' hcm5 hI'
          go_wp2_with fail
          go_loopw [82] (fun i wr => ∃ (t : Nat), t ≤ G.length ∧ i = .int .i64 t ∧ MapF wr mb (n + 1 + t) (goneF f' (G.take t)) ∧ wc.grownBy wr (some mb)) (fun i _ => G.length - (intOf i).toNat)
          case atStart => exact ⟨0, Nat.zero_le _, rfl, HM.out, grown_refl _ _⟩
          case round =>
            obtain ⟨t, htn, rfl, hM, hGr⟩ := hrel
            have hBr := HB.out.grown hGr HB.out.size (fun b hb => by injection hb with hb; omega)
            by_cases htl : t < G.length
            · have ho := own_grown HO.out hGr (.inr hne)
              obtain ⟨_, _, e5, _, _, _, hk5⟩ := pks_of_own ho
              simp only [Value.slice.injEq] at e5
              obtain ⟨rfl, _, rfl⟩ := e5
              obtain ⟨b5, off5, rfl, hb5, x0, x1, x2, x3⟩ := hk5.2 t htl
              obtain ⟨T1, T2⟩ := take_getD G t htl
              have hp5 := HK.out _ T2
              have hf5 := HG.out t htl
              obtain ⟨p, hpp⟩ : ∃ p, p = G.getD t pk0 := ⟨_, rfl⟩
              rw [← hpp] at x0 x1 x2 x3 T1 hp5 hf5
              clear hpp T2 hk5 ho
              obtain ⟨qn, qs, qz, qa⟩ := p
              obtain ⟨hqn, _, _⟩ := hp5
              simp only at x0 x1 x2 x3 hqn hf5
              have TE : Hid (goneF f' (G.take (t + 1)) = upd (goneF f' (G.take t)) qn 11) := Lib.hid (by rw [T1, goneF_snoc])
              have HF5 := Lib.hid hf5
              clear hf5 T1
              obtain ⟨ff, hff⟩ : ∃ ff, ff = goneF f' (G.take t) := ⟨_, rfl⟩
              rw [← hff] at hM HF5 TE
              clear hff
              have hM2 := hM.below ((Below.refl wr.heap.size wr).alloc (Nat.le_refl _) (.cells #[.int .u64 qn, .int .u64 qs, .int .i64 qz, .bool qa] 36))
              have hG2 := grown_alloc hGr (.cells #[.int .u64 qn, .int .u64 qs, .int .i64 qz, .bool qa] 36)
              go_wp2_with (first | (at_lookup; refine wpList_look_map _ rfl _ _ rfl mb (n + 1 + t) ff rfl hM2 qn rfl (by omega) ?_; rw [HF5.out]) | (at_mapUpdate; refine wpList_put_map _ rfl _ _ _ rfl mb (n + 1 + t) ff rfl hM2 (by omega) qn 11 rfl rfl (by omega) (by decide) ?_; intro w7 hM7 hg7) | fail)
              have hG7 := grown_trans hG2 hg7
              go_roundw
              case rel => exact ⟨t + 1, by omega, by go_num, by rw [TE.out]; exact hM7, hG7⟩
              case measure => simp [intOf]; omega
            · have hl : Led w.heap.size wr g L' nx' ak' sm' := HL.out.far hGr (by omega) (fun v hv => own_map_ne hv HM.out)
              obtain rfl : t = G.length := by omega
              rw [List.take_length] at hM
              obtain ⟨ff, hff⟩ : ∃ ff, ff = goneF f' G := ⟨_, rfl⟩
              rw [← hff] at hM
              have hI : Inv L' nx' ff := by rw [hff]; exact HI.out
              clear hff HO HL HM HI HG HK HB hGr
              have hmr := hM.lt
              have hgr := hl.lt
              have HB := Lib.hid hBr
              have HL := Lib.hid hl
              have HI := Lib.hid hI
              have hBs2 := hBr.size
              clear hBr hl hI
              obtain ⟨wa, hwa⟩ : ∃ wa, wa = wr := ⟨_, rfl⟩
              subst hwa
              obtain ⟨r8, h8⟩ : ∃ r8, r8 = wa.heap.size := ⟨_, rfl⟩
              obtain ⟨M, hMM⟩ : ∃ M, M = n + 1 + G.length := ⟨_, rfl⟩
              rw [← hMM] at hM
              have hMb : M ≤ n + 1 + G.length := by omega
              clear hMM
              go_wp2_with (first | (at_range; refine wpList_range_map _ rfl _ rfl mb M ff rfl hM ?_; intro w8 hR8 hg8; go_frame) | fail)
              rw [← h8] at hR8
              rw [← h8]
              have h8' : wa.heap.size ≤ r8 := by omega
              clear h8
              have hb8 := below_of_grown hg8 (Nat.le_refl _) (fun g hg => by cases hg)
              go_loopw [11] (fun _ wr => ∃ left, RanF wr mb r8 M ff left ∧ Below wa.heap.size wa wr) (fun _ wr => wr.rangeLeft mb r8)
              case atStart => exact ⟨_, hR8, hb8⟩
              case round =>
                clear hR8 hg8 hb8 hM
                obtain ⟨left, hR, hb⟩ := hrel
                go_wp2_with (first | (at_next; refine wpList_next_map _ rfl _ rfl mb r8 M ff left rfl hR ?_ ?_) | fail)
                · intro hdone
                  have hM := hR.owns
                  have hB9 := HB.out.trans (hb.mono HB.out.size)
                  have hl9 := HL.out.below hb
                  clear hR hdone
                  have HB9 := Lib.hid hB9
                  have HL9 := Lib.hid hl9
                  have hbs := hb.size
                  clear hB9 hl9
                  obtain ⟨wd, hwd⟩ : ∃ wd, wd = wr := ⟨_, rfl⟩
                  subst hwd
                  obtain ⟨r9, h9⟩ : ∃ r9, r9 = wd.heap.size := ⟨_, rfl⟩
                  go_wp2_with (first | (at_range; refine wpList_range_map _ rfl _ rfl mb M ff rfl hM ?_; intro w9 hR9 hg9; go_frame) | fail)
                  rw [← h9] at hR9
                  rw [← h9]
                  have h9' : wd.heap.size ≤ r9 := by omega
                  clear h9
                  have hb9 := below_of_grown hg9 (Nat.le_refl _) (fun g hg => by cases hg)
                  have hc0 := cntO_none HI.out
                  go_loopw [12] (fun s12 wr => ∃ left, s12 = .int .i64 (cntO L' left) ∧ RanF wr mb r9 M ff left ∧ Below wd.heap.size wd wr) (fun _ wr => wr.rangeLeft mb r9)
                  case atStart => exact ⟨_, by rw [hc0]; rfl, hR9, hb9⟩
                  case round =>
                    clear hR9 hg9 hb9 hM hb hc0
                    obtain ⟨left, rfl, hR, hb⟩ := hrel
                    have hcl := cnt_le L' left
                    go_wp2_with (first | (at_next; refine wpList_next_map _ rfl _ rfl mb r9 M ff left rfl hR ?_ ?_) | fail)
                    · intro hdone
                      rw [cntO_all L' left hdone]
                      have hM := hR.owns
                      have hB9 := HB9.out.trans (hb.mono HB9.out.size)
                      have hl9 := HL9.out.below hb
                      clear hR hdone hb hcl
                      go_wp2_with fail
                      refine (open_any w.heap.size g L' _ _ _ _ hl9 (by omega)).mono ?_
                      rintro e w7 ⟨v7, rfl, ho7, hb7⟩
                      obtain ⟨A7, c7, rfl, _⟩ := sl_of_own ho7
                      have hB7 := hB9.trans (hb7.mono hB9.size)
                      have hM7 := hM.below hb7
                      have hl7 := hl9.below hb7
                      clear ho7 hb7 hM hl9 hB9
                      go_wp2_with fail
                      go_roundw
                      case rel => first | exact ⟨k + 1, L', nx', ak', sm', ff, M, by omega, by go_num, hl7, hM7, HI.out, by omega, by omega, by omega, hB7⟩ | ((repeat apply Exists.intro); exact ⟨⟨k + 1, L', nx', ak', sm', ff, M, by omega, by go_num, hl7, hM7, HI.out, by omega, by omega, by omega, hB7⟩, rfl⟩)
                      case measure => simp [intOf]; omega
                    · intro x w9 hx0 hx1 hlx hfx hR9 hlt9 hg9 hen
                      have hst := cntO_step L' HI.out.d left x hlx
                      have hb9 := hb.grown hg9 hb.size (fun b hb => by injection hb with hb; omega)
                      rcases HI.out.v x with e0 | e0 | e0
                      · exact absurd e0 hfx
                      · rw [if_pos (by have := (HI.out.o x).1 e0; simpa using this)] at hst
                        rw [e0] at hen
                        have hST := Lib.hid hst
                        clear hst hR hb hfx hlx e0 hg9
                        skip
                        go_wp2_with fail
                        go_roundw
                        case rel => exact ⟨_, by rw [hST.out]; go_num, hR9, hb9⟩
                        case measure => exact hlt9
                      · rw [if_neg (by intro h; have := (HI.out.o x).2 (by simpa using h); omega)] at hst
                        rw [e0] at hen
                        have hST := Lib.hid hst
                        clear hst hR hb hfx hlx e0 hg9
                        go_wp2_with fail
                        go_roundw
                        case rel => exact ⟨_, by rw [hST.out]; rfl, hR9, hb9⟩
                        case measure => exact hlt9
                · intro x w9 hx0 hx1 hlx hfx hR9 hlt9 hg9 hen
                  have hb9 := hb.grown hg9 hb.size (fun b hb => by injection hb with hb; omega)
                  rcases HI.out.v x with e0 | e0 | e0
                  · exact absurd e0 hfx
                  · rw [e0] at hen
                    clear hR hb hfx hlx e0 hg9
                    go_wp2_with fail
                    go_roundw
                    case rel => exact ⟨_, hR9, hb9⟩
                    case measure => exact hlt9
                  · rw [e0] at hen
                    clear hR hb hfx hlx e0 hg9
                    go_wp2_with fail
                    go_roundw
                    case rel => exact ⟨_, hR9, hb9⟩
                    case measure => exact hlt9
      · have h60' : ¬ (k : Int) < 60 := by omega
        go_wp2_with fail
        go_ret
        exact ⟨rfl, hB2⟩
    · go_wp2_with fail
      go_ret
      exact ⟨rfl, hB⟩
open Go.ChangeShapes Go.WideShapes Go.ChangeAt
set_option maxRecDepth 100000 in
theorem once_lifted (os : Os) (started : os.Started) (H : Type) (enc : TypeId × Value → H) :
    ReturnsInHanded {} Try.checked os 6 .any (Rows.lossOnceSpec.pre6 enc Try.prog Try.f6 Rows.lossOnceRow.domain false) (Rows.lossOnceSpec.post enc Try.prog Try.f6 false true false false) := by
  refine returnsInHanded_of_change (C := Try.checked) own started (by kernel_rfl) Try.func6
    (ChangeSpec.witness6 (enc := enc) (C := Try.checked) false ⟨#[], #[.slice none 0 0], []⟩ 8 (by kernel_rfl) (by kernel_rfl) (by kernel_rfl) (by kernel_rfl)) ?_
  intro W base args ds gs before hval0 hW hcnd _
  have hval : ∀ (j : Nat) t v, Try.f6.params[j]? = some t → args[j]? = some v → Value.okWide Try.prog W .any base t v := hval0
  have hW' := hW
  obtain ⟨p, q, hA0, hV, rfl, hfz, hnd⟩ := hW
  have hA : DataW.TrodAll enc Try.prog W 0 (fun _ => true) true Try.f6.params.toList args.toList ds p := hA0
  rw [Try.params6] at hA hval
  obtain ⟨v0, vs0, d0, ds0, p0, q0, hargs, rfl, rfl, h0, r0⟩ := trodAll_cons hA
  obtain ⟨rfl, rfl, rfl⟩ := trodAll_nil r0
  obtain rfl : args = #[v0] := by cases args; simp_all
  obtain ⟨rfl, rfl⟩ := trodVars_none hV
  obtain ⟨A0, len0, cap0, rfl⟩ := okWide_slice Try.underlying47 (hval 0 47 v0 rfl rfl)
  have k0 := h0
  have lt0 : ∀ x ∈ p0, x.block < W.heap.size := by obtain ⟨m, hm⟩ := k0; exact DataW.trod_lt m _ _ _ hm
  obtain ⟨n0, c0, hR0⟩ := ops_of h0
  clear hA0 hval0
  refine (once_walk _ _ _ W hR0 n0 c0).mono fun e W' ⟨he, bel⟩ => ?_
  subst he
  exact ⟨_, rfl, _, _, _, [], _, [], hW', trodAll_mk1 (shut_bool Try.underlying4 _), (trodAll_cons_mk (Below.trod laidOut (by kernel_rfl) (of_decide_eq_true (by kernel_rfl)) k0 bel lt0) trodAll_mk0), rfl, bel.frame _, fun h => by cases h⟩

theorem once_holds : Rows.LossOnceSaid :=
  OpenClaim.holds_of_wide 6 Try.f6 rfl rfl rfl rfl rfl rfl rfl ⟨rfl, rfl, rfl, rfl, rfl⟩ rfl rfl rfl rfl rfl (by kernel_rfl) Try.func6 (by kernel_rfl)
    (of_decide_eq_true (by kernel_rfl)) (by unfold Func.isWrapper; first | (rw [if_pos (by decide +kernel)]; kernel_rfl) | (rw [if_neg (by decide +kernel)]; exact ⟨rfl, rfl⟩))
    (fun os started H enc _ => once_lifted os started H enc)
#print axioms once_holds

end Go.Proofs.Ytohjifbkjfnkfaa
