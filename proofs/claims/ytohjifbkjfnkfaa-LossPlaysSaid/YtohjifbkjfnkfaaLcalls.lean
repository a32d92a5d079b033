/-
  The closures that ask of a packet; take with each of them; a new ledger.
-/
import Derived.Test.YtohjifbkjfnkfaaLled
namespace Go.Proofs.Ytohjifbkjfnkfaa
open Go.RowKit
set_option linter.unusedVariables false
set_option linter.unusedSimpArgs false


theorem laidOut : laidOutB Try.prog = true := by kernel_rfl
theorem own : ownKnob Try.prog.godebug = none := by kernel_rfl
theorem infoP : (Try.prog.info? 36).map (fun i => (i.zero, i.size, i.bytes)) = some (some pk0.agg, 4, 32) := by kernel_rfl
def Led (B : Nat) (w : World) (g : Nat) (L : List Pk) (nx ak : Int) (sm : Bool) : Prop :=
  B ≤ g ∧ ∃ V, Blk w g 73 #[V, .int .u64 nx, .int .u64 ak, .bool sm] ∧ w.ownsRow B 36 4 V L.length (pkcells L)
theorem pkB_of {w w' : World} {p : Pk} (h : Below (w.alloc (.cells #[.int .u64 p.num, .int .u64 p.sent, .int .i64 p.size, .bool p.asks] 36)).heap.size (w.alloc (.cells #[.int .u64 p.num, .int .u64 p.sent, .int .i64 p.size, .bool p.asks] 36)) w') : True := trivial
def inR (R : List (Int × Int)) (p : Pk) : Bool := R.any (fun x => decide (x.1 ≤ p.num) && decide (p.num ≤ x.2))
set_option maxRecDepth 100000 in
theorem c32_any (rb : Nat) (A : Option Addr) (n cap : Nat) (R : List (Int × Int)) (p : Pk) (w : World) (h0 : w.cell? ⟨rb, 0, none⟩ = some (.slice A n cap)) (hp : Pairs w A n R) (hnc : n ≤ cap) (hcm : cap ≤ maxLen) :
    Calls Try.prog 32 #[p.agg, .pointer (some ⟨rb, 0, none⟩)] w fun e w' => e = .returned (.bool (inR R p)) ∧ Below w.heap.size w w' := by
  obtain ⟨pn, ps, pz, pa⟩ := p
  have hB := (Below.refl w.heap.size w).alloc (Nat.le_refl _) (.cells #[.int .u64 pn, .int .u64 ps, .int .i64 pz, .bool pa] 36)
  have l0 := World.block_lt_of_cell? _ _ h0
  have k0 := keepB_cell h0 _ hB
  have c0 := (Blk.new w 36 #[.int .u64 pn, .int .u64 ps, .int .i64 pz, .bool pa]).cell 0
  have HP := Lib.hid (hp.below hB)
  clear h0 hp
  unfold Pk.agg
  go_enter Try.func32, Try.ntmps32
  go_wp2_with fail
  refine (any_within w.heap.size pn A n cap R _ HP.out hnc hcm c0).mono ?_
  rintro e w1 ⟨rfl, hb1⟩
  have hB1 := hB.trans (hb1.mono hB.size)
  go_wp2_with fail
  go_ret
  exact ⟨rfl, hB1⟩
def belowF (sm : Bool) (ak : Int) (p : Pk) : Bool := sm && decide (p.num < ak)
set_option maxRecDepth 100000 in
theorem below_any (g : Nat) (sm : Bool) (ak : Int) (p : Pk) (w : World) (h2 : w.cell? ⟨g, 2, none⟩ = some (.int .u64 ak)) (h3 : w.cell? ⟨g, 3, none⟩ = some (.bool sm)) :
    Calls Try.prog 35 #[.pointer (some ⟨g, 0, none⟩), p.agg] w fun e w' => e = .returned (.bool (belowF sm ak p)) ∧ Below w.heap.size w w' := by
  obtain ⟨pn, ps, pz, pa⟩ := p
  have hB := (Below.refl w.heap.size w).alloc (Nat.le_refl _) (.cells #[.int .u64 pn, .int .u64 ps, .int .i64 pz, .bool pa] 36)
  have l2 := World.block_lt_of_cell? _ _ h2
  have k2 := keepB_cell h2 _ hB
  have k3 := keepB_cell h3 _ hB
  clear h2 h3
  unfold Pk.agg
  cases sm
  all_goals
    go_enter Try.func35, Try.ntmps35
    go_wp2_with fail
    go_quiet (fail)
    go_wp2_with fail
    go_ret
    exact ⟨by simp [belowF], below_drewN hB _⟩
/-- Which packet is lost. -/
def lostF (sm : Bool) (ak now wait : Int) (p : Pk) : Bool := belowF sm ak p && (decide (p.num + 3 ≤ ak) || (decide (p.sent ≤ now) && decide (wait ≤ now - p.sent)))

set_option maxHeartbeats 1000000 in
set_option maxRecDepth 100000 in
theorem c34_any (lb nb wb g : Nat) (sm : Bool) (ak now wait : Int) (p : Pk) (w : World) (hk : PkOk p) (hn : 0 ≤ now ∧ now ≤ 18446744073709551615)
    (h0 : w.cell? ⟨lb, 0, none⟩ = some (.pointer (some ⟨g, 0, none⟩))) (h1 : w.cell? ⟨nb, 0, none⟩ = some (.int .u64 now)) (h2 : w.cell? ⟨wb, 0, none⟩ = some (.int .u64 wait))
    (h3 : w.cell? ⟨g, 2, none⟩ = some (.int .u64 ak)) (h4 : w.cell? ⟨g, 3, none⟩ = some (.bool sm)) :
    Calls Try.prog 34 #[p.agg, .pointer (some ⟨lb, 0, none⟩), .pointer (some ⟨nb, 0, none⟩), .pointer (some ⟨wb, 0, none⟩)] w fun e w' => e = .returned (.bool (lostF sm ak now wait p)) ∧ Below w.heap.size w w' := by
  obtain ⟨pn, ps, pz, pa⟩ := p
  obtain ⟨hk1, hk2, hk3⟩ := hk
  simp only at hk1 hk2 hk3
  have hB := (Below.refl w.heap.size w).alloc (Nat.le_refl _) (.cells #[.int .u64 pn, .int .u64 ps, .int .i64 pz, .bool pa] 36)
  have l0 := World.block_lt_of_cell? _ _ h0
  have l1 := World.block_lt_of_cell? _ _ h1
  have l2 := World.block_lt_of_cell? _ _ h2
  have l3 := World.block_lt_of_cell? _ _ h3
  have k0 := keepB_cell h0 _ hB
  have k1 := keepB_cell h1 _ hB
  have k2 := keepB_cell h2 _ hB
  have k3 := keepB_cell h3 _ hB
  have k4 := keepB_cell h4 _ hB
  have hO := Blk.new w 36 #[.int .u64 pn, .int .u64 ps, .int .i64 pz, .bool pa]
  have p0 : World.cell? _ ⟨w.heap.size, 0, none⟩ = some (.int .u64 pn) := hO.cell 0
  have p1 : World.cell? _ ⟨w.heap.size, 1, none⟩ = some (.int .u64 ps) := hO.cell 1
  have p2 : World.cell? _ ⟨w.heap.size, 2, none⟩ = some (.int .i64 pz) := hO.cell 2
  have p3 : World.cell? _ ⟨w.heap.size, 3, none⟩ = some (.bool pa) := hO.cell 3
  have l4 := hO.lt
  clear h0 h1 h2 h3 h4
  obtain ⟨bel, hbe⟩ : ∃ b, b = belowF sm ak ⟨pn, ps, pz, pa⟩ := ⟨_, rfl⟩
  have HBE := Lib.hid hbe
  have hbel := fun (x : Cls (w.alloc (.cells #[.int .u64 pn, .int .u64 ps, .int .i64 pz, .bool pa] 36)).heap.size (w.alloc (.cells #[.int .u64 pn, .int .u64 ps, .int .i64 pz, .bool pa] 36))) => below_any g sm ak ⟨pn, ps, pz, pa⟩ x.w (x.cell k3 (World.block_lt_of_cell? _ _ k3)) (x.cell k4 (World.block_lt_of_cell? _ _ k4))
  rw [← hbe] at hbel
  clear hbe k4
  unfold lostF
  rw [← HBE.out]
  unfold Pk.agg at *
  simp only at hbel ⊢
  clear HBE
  cases bel
  · go_enter Try.func34, Try.ntmps34
    go_wp2_with fail
    refine wp_region_cls (by kernel_rfl) (by kernel_rfl) ?_
    have C0 := Cls.cells k0 (World.block_lt_of_cell? _ _ k0)
    have C1 := Cls.cells k1 (World.block_lt_of_cell? _ _ k1)
    have C2 := Cls.cells k2 (World.block_lt_of_cell? _ _ k2)
    have C3 := Cls.cells k3 (World.block_lt_of_cell? _ _ k3)
    have C4 := Cls.cells p0 (World.block_lt_of_cell? _ _ p0)
    have C5 := Cls.cells p1 (World.block_lt_of_cell? _ _ p1)
    have C6 := Cls.cells p2 (World.block_lt_of_cell? _ _ p2)
    have C7 := Cls.cells p3 (World.block_lt_of_cell? _ _ p3)
    repeat (go_big_quiet_step (first | (go_at_call 35; with_reducible exact Cls.call (Nat.le_refl _) (hbel _))))
    refine wpQuiet_nil ?_
    intro w8 hb8
    clear C0 C1 C2 C3 C4 C5 C6 C7
    go_wp2_with fail
    go_ret
    exact ⟨by simp, (hB.trans (hb8.mono hB.size))⟩
  · by_cases q1 : pn + 3 ≤ ak
    · have q1' : decide (pn + 3 ≤ ak) = true := by simpa using q1
      go_enter Try.func34, Try.ntmps34
      go_wp2_with fail
      refine wp_region_cls (by kernel_rfl) (by kernel_rfl) ?_
      have C0 := Cls.cells k0 (World.block_lt_of_cell? _ _ k0)
      have C1 := Cls.cells k1 (World.block_lt_of_cell? _ _ k1)
      have C2 := Cls.cells k2 (World.block_lt_of_cell? _ _ k2)
      have C3 := Cls.cells k3 (World.block_lt_of_cell? _ _ k3)
      have C4 := Cls.cells p0 (World.block_lt_of_cell? _ _ p0)
      have C5 := Cls.cells p1 (World.block_lt_of_cell? _ _ p1)
      have C6 := Cls.cells p2 (World.block_lt_of_cell? _ _ p2)
      have C7 := Cls.cells p3 (World.block_lt_of_cell? _ _ p3)
      repeat (go_big_quiet_step (first | (go_at_call 35; with_reducible exact Cls.call (Nat.le_refl _) (hbel _))))
      refine wpQuiet_nil ?_
      intro w8 hb8
      clear C0 C1 C2 C3 C4 C5 C6 C7
      go_wp2_with fail
      go_ret
      exact ⟨by simp [q1'], (hB.trans (hb8.mono hB.size))⟩
    · have q1' : decide (pn + 3 ≤ ak) = false := by simpa using q1
      by_cases q2 : ps ≤ now
      · have q2' : decide (ps ≤ now) = true := by simpa using q2
        go_enter Try.func34, Try.ntmps34
        go_wp2_with fail
        refine wp_region_cls (by kernel_rfl) (by kernel_rfl) ?_
        have C0 := Cls.cells k0 (World.block_lt_of_cell? _ _ k0)
        have C1 := Cls.cells k1 (World.block_lt_of_cell? _ _ k1)
        have C2 := Cls.cells k2 (World.block_lt_of_cell? _ _ k2)
        have C3 := Cls.cells k3 (World.block_lt_of_cell? _ _ k3)
        have C4 := Cls.cells p0 (World.block_lt_of_cell? _ _ p0)
        have C5 := Cls.cells p1 (World.block_lt_of_cell? _ _ p1)
        have C6 := Cls.cells p2 (World.block_lt_of_cell? _ _ p2)
        have C7 := Cls.cells p3 (World.block_lt_of_cell? _ _ p3)
        repeat (go_big_quiet_step (first | (go_at_call 35; with_reducible exact Cls.call (Nat.le_refl _) (hbel _))))
        refine wpQuiet_nil ?_
        intro w8 hb8
        clear C0 C1 C2 C3 C4 C5 C6 C7
        go_wp2_with fail
        go_ret
        exact ⟨by simp [q1', q2'], (hB.trans (hb8.mono hB.size))⟩
      · have q2' : decide (ps ≤ now) = false := by simpa using q2
        go_enter Try.func34, Try.ntmps34
        go_wp2_with fail
        refine wp_region_cls (by kernel_rfl) (by kernel_rfl) ?_
        have C0 := Cls.cells k0 (World.block_lt_of_cell? _ _ k0)
        have C1 := Cls.cells k1 (World.block_lt_of_cell? _ _ k1)
        have C2 := Cls.cells k2 (World.block_lt_of_cell? _ _ k2)
        have C3 := Cls.cells k3 (World.block_lt_of_cell? _ _ k3)
        have C4 := Cls.cells p0 (World.block_lt_of_cell? _ _ p0)
        have C5 := Cls.cells p1 (World.block_lt_of_cell? _ _ p1)
        have C6 := Cls.cells p2 (World.block_lt_of_cell? _ _ p2)
        have C7 := Cls.cells p3 (World.block_lt_of_cell? _ _ p3)
        repeat (go_big_quiet_step (first | (go_at_call 35; with_reducible exact Cls.call (Nat.le_refl _) (hbel _))))
        refine wpQuiet_nil ?_
        intro w8 hb8
        clear C0 C1 C2 C3 C4 C5 C6 C7
        go_wp2_with fail
        go_ret
        exact ⟨by simp [q1', q2'], (hB.trans (hb8.mono hB.size))⟩

set_option maxRecDepth 100000 in
theorem c37_any (p : Pk) (w : World) : Calls Try.prog 37 #[p.agg] w fun e w' => e = .returned (.bool true) ∧ Below w.heap.size w w' := by
  obtain ⟨pn, ps, pz, pa⟩ := p
  have hB := (Below.refl w.heap.size w).alloc (Nat.le_refl _) (.cells #[.int .u64 pn, .int .u64 ps, .int .i64 pz, .bool pa] 36)
  unfold Pk.agg
  go_enter Try.func37, Try.ntmps37
  go_wp2_with fail
  go_ret
  exact ⟨rfl, hB⟩
theorem new_any (w : World) : Calls Try.prog 12 #[] w fun e w' => ∃ g, e = .returned (.pointer (some ⟨g, 0, none⟩)) ∧ Led w.heap.size w' g [] 0 0 false ∧ Below w.heap.size w w' := by
  go_enter Try.func12, Try.ntmps12
  go_wp2_with fail
  go_ret
  exact ⟨_, rfl, ⟨Nat.le_refl _, _, Blk.new _ _ _, World.ownsRow_nil _ _ _ _⟩, (Below.refl _ _).alloc (Nat.le_refl _) _⟩

end Go.Proofs.Ytohjifbkjfnkfaa
