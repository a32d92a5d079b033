/-
  Send and Ack, whatever they are handed.
-/
import Derived.Test.YtohjifbkjfnkfaaLack
namespace Go.Proofs.Ytohjifbkjfnkfaa
open Go.RowKit
set_option linter.unusedVariables false
set_option linter.unusedSimpArgs false


def sendE (nx : Int) (p : Pk) : Int := if p.size < 0 ∨ 4611686018427387903 < p.num ∨ 4611686018427387903 < p.sent then 1 else if p.num < nx then 4 else 0
def ackE (nx : Int) (R : List (Int × Int)) : Int := if badR R then 4 else if farR nx R then 1 else 0
def PkIn (p : Pk) : Prop := (0 ≤ p.num ∧ p.num ≤ 18446744073709551615) ∧ (0 ≤ p.sent ∧ p.sent ≤ 18446744073709551615) ∧ (-9223372036854775808 ≤ p.size ∧ p.size ≤ 9223372036854775807)
theorem sendE_ok {nx : Int} {p : Pk} (hi : PkIn p) (h : sendE nx p = 0) : PkOk p ∧ nx ≤ p.num := by
  unfold sendE at h
  obtain ⟨⟨a, b⟩, ⟨c, d⟩, e, f⟩ := hi
  split at h
  · cases h
  · split at h
    · cases h
    · exact ⟨⟨⟨a, by omega⟩, ⟨c, by omega⟩, by omega, f⟩, by omega⟩
set_option maxHeartbeats 4000000 in
set_option maxRecDepth 100000 in
theorem send_no (B g : Nat) (L : List Pk) (nx ak : Int) (sm : Bool) (p : Pk) (w : World) (hl : Led B w g L nx ak sm) (hp : PkIn p) (hn : sendE nx p ≠ 0) :
    Calls Try.prog 13 #[.pointer (some ⟨g, 0, none⟩), p.agg] w fun e w' => e = .returned (.int .i64 (sendE nx p)) ∧ Below w.heap.size w w' := by
  obtain ⟨hBg, V, hb, ho⟩ := hl
  obtain ⟨pn, ps, pz, pa⟩ := p
  obtain ⟨hk1, hk2, hk3⟩ := hp
  simp only at hk1 hk2 hk3
  have hO := Blk.new w 36 #[.int .u64 pn, .int .u64 ps, .int .i64 pz, .bool pa]
  have hb1 := hb.alloc (.cells #[.int .u64 pn, .int .u64 ps, .int .i64 pz, .bool pa] 36)
  have hB1 := (Below.refl w.heap.size w).alloc (Nat.le_refl _) (.cells #[.int .u64 pn, .int .u64 ps, .int .i64 pz, .bool pa] 36)
  have hgl := hb.lt
  have c1 := hb1.cell 1
  have o0 := hO.cell 0
  have o1 := hO.cell 1
  have o2 := hO.cell 2
  have o3 := hO.cell 3
  have hol := hO.lt
  unfold Pk.agg
  simp only [List.getElem?_toArray, List.getElem?_cons_zero, List.getElem?_cons_succ] at o0 o1 o2 o3 c1
  clear hb ho hO
  unfold sendE at hn ⊢
  simp only at hn ⊢
  by_cases h1 : pz < 0
  · rw [if_pos (.inl h1)]
    have q1 : decide (pz < 0) = true := by simpa using h1
    go_enter Try.func13, Try.ntmps13
    go_wp2_with fail
    go_ret
    exact ⟨rfl, hB1⟩
  · have q1 : decide (pz < 0) = false := by simpa using h1
    by_cases h2 : 4611686018427387903 < pn
    · rw [if_pos (.inr (.inl h2))]
      have q2 : decide (4611686018427387903 < pn) = true := by simpa using h2
      go_enter Try.func13, Try.ntmps13
      go_wp2_with fail
      go_ret
      exact ⟨rfl, hB1⟩
    · have q2 : decide (4611686018427387903 < pn) = false := by simpa using h2
      by_cases h3 : 4611686018427387903 < ps
      · rw [if_pos (.inr (.inr h3))]
        have q3 : decide (4611686018427387903 < ps) = true := by simpa using h3
        go_enter Try.func13, Try.ntmps13
        go_wp2_with fail
        go_ret
        exact ⟨rfl, hB1⟩
      · have q3 : decide (4611686018427387903 < ps) = false := by simpa using h3
        rw [if_neg (by omega)] at hn ⊢
        by_cases h4 : pn < nx
        · rw [if_pos h4]
          have q4 : decide (pn < nx) = true := by simpa using h4
          go_enter Try.func13, Try.ntmps13
          go_wp2_with fail
          go_quiet (fail)
          go_wp2_with fail
          go_ret
          exact ⟨rfl, below_drewN hB1 _⟩
        · rw [if_neg h4] at hn
          exact absurd rfl hn
set_option maxHeartbeats 4000000 in
set_option maxRecDepth 100000 in
theorem ack_no (B g : Nat) (L : List Pk) (nx ak : Int) (sm : Bool) (A : Option Addr) (n cap : Nat) (R : List (Int × Int)) (w : World) (hl : Led B w g L nx ak sm)
    (hp : Pairs w A n R) (hnc : n ≤ cap) (hcm : cap ≤ maxLen) (hn : ackE nx R ≠ 0) :
    Calls Try.prog 10 #[.pointer (some ⟨g, 0, none⟩), .slice A n cap] w fun e w' => e = .returned (.tuple #[.slice none 0 0, .int .i64 (ackE nx R)]) ∧ Below w.heap.size w w' := by
  have hB1 := ((Below.refl w.heap.size w).alloc (Nat.le_refl _) (.cells #[.pointer (some ⟨g, 0, none⟩)] 24)).alloc (by simp) (.cells #[.slice A n cap] 32)
  have hl1 := hl.below hB1
  have hp1 := hp.below hB1
  have hgl := hl.lt
  have c0 : Blk ((w.alloc (.cells #[.pointer (some ⟨g, 0, none⟩)] 24)).alloc (.cells #[.slice A n cap] 32)) w.heap.size 24 #[.pointer (some ⟨g, 0, none⟩)] := (Blk.new w _ _).alloc _
  have c1 : Blk ((w.alloc (.cells #[.pointer (some ⟨g, 0, none⟩)] 24)).alloc (.cells #[.slice A n cap] 32)) (w.heap.size + 1) 32 #[.slice A n cap] := blk_new_at (by simp)
  clear hl hp
  have x0 : ((w.alloc (.cells #[.pointer (some ⟨g, 0, none⟩)] 24)).alloc (.cells #[.slice A n cap] 32)).cell? ⟨w.heap.size, 0, none⟩ = some (.pointer (some ⟨g, 0, none⟩)) := c0.cell 0
  have x1 : ((w.alloc (.cells #[.pointer (some ⟨g, 0, none⟩)] 24)).alloc (.cells #[.slice A n cap] 32)).cell? ⟨w.heap.size + 1, 0, none⟩ = some (.slice A n cap) := c1.cell 0
  have hcm' : cap ≤ 9223372036854775807 := by unfold maxLen at hcm; omega
  unfold ackE at hn ⊢
  by_cases h1 : badR R = true
  · rw [if_pos h1] at hn ⊢
    go_enter Try.func10, Try.ntmps10
    go_wp2_with fail
    refine (any_bad A n cap R _ hp1 hnc hcm).mono ?_
    rintro e w2 ⟨rfl, hb2⟩
    rw [show (R.any fun x => decide (x.2 < x.1)) = true from h1]
    have hB2 := hB1.trans (hb2.mono hB1.size)
    go_wp2_with fail
    go_ret2
    exact ⟨rfl, hB2⟩
  · rw [if_neg h1] at hn ⊢
    by_cases h2 : farR nx R = true
    · rw [if_pos h2] at hn ⊢
      go_enter Try.func10, Try.ntmps10
      go_wp2_with fail
      refine (any_bad A n cap R _ hp1 hnc hcm).mono ?_
      rintro e w2 ⟨rfl, hb2⟩
      rw [show (R.any fun x => decide (x.2 < x.1)) = false from Bool.eq_false_iff.2 h1]
      have c0 := c0.same hb2
      have c1 := c1.same hb2
      have hl1 := hl1.below hb2
      have hp1 := hp1.below hb2
      have hB1 := hB1.trans (hb2.mono hB1.size)
      have x0 : w2.cell? ⟨w.heap.size, 0, none⟩ = some (.pointer (some ⟨g, 0, none⟩)) := c0.cell 0
      have x1 : w2.cell? ⟨w.heap.size + 1, 0, none⟩ = some (.slice A n cap) := c1.cell 0
      obtain ⟨hBg, V, hb, ho⟩ := hl1
      clear hb2
      go_wp2_with fail
      refine (any_far w.heap.size g nx A n cap R _ hp1 hnc hcm x0 (hb.cell 1)).mono ?_
      rintro e w3 ⟨rfl, hb3⟩
      rw [show (R.any fun x => decide (nx ≤ x.2)) = true from h2]
      have hB3 := hB1.trans (hb3.mono hB1.size)
      go_wp2_with fail
      go_ret2
      exact ⟨rfl, hB3⟩
    · rw [if_neg h2] at hn
      exact absurd rfl hn
theorem ackE_ok {nx : Int} {R : List (Int × Int)} (h : ackE nx R = 0) : badR R = false ∧ farR nx R = false := by
  unfold ackE at h
  split at h
  · cases h
  · split at h
    · cases h
    · rename_i h1 h2
      exact ⟨by simpa using h1, by simpa using h2⟩
set_option maxHeartbeats 4000000 in
set_option maxRecDepth 100000 in
theorem ack_okn (B g : Nat) (L : List Pk) (nx ak : Int) (sm : Bool) (A : Option Addr) (n cap : Nat) (R : List (Int × Int)) (w : World) (hl : Led B w g L nx ak sm) (hL : L.length ≤ 100000) (hk : ∀ p ∈ L, PkOk p)
    (hp : Pairs w A n R) (hnc : n ≤ cap) (hcm : cap ≤ maxLen) (h1 : badR R = false) (h2 : farR nx R = false) (hAg : 0 < n → ∀ b off, A = some ⟨b, off, none⟩ → b ≠ g) :
    Calls Try.prog 10 #[.pointer (some ⟨g, 0, none⟩), .slice A n cap] w fun e w' => ∃ v, e = .returned (.tuple #[v, .int .i64 0]) ∧ w'.ownsRow w.heap.size 36 4 v (L.filter (inR R)).length (pkcells (L.filter (inR R))) ∧
      Led B w' g (L.filter (fun p => !(inR R) p)) nx (ackI ak R) (sm || decide (0 < n)) ∧ w.grownBy w' (some g) := by
  have hB1 := ((Below.refl w.heap.size w).alloc (Nat.le_refl _) (.cells #[.pointer (some ⟨g, 0, none⟩)] 24)).alloc (by simp) (.cells #[.slice A n cap] 32)
  have hl1 := hl.below hB1
  have hp1 := hp.below hB1
  have hgl := hl.lt
  have c0 : Blk ((w.alloc (.cells #[.pointer (some ⟨g, 0, none⟩)] 24)).alloc (.cells #[.slice A n cap] 32)) w.heap.size 24 #[.pointer (some ⟨g, 0, none⟩)] := (Blk.new w _ _).alloc _
  have c1 : Blk ((w.alloc (.cells #[.pointer (some ⟨g, 0, none⟩)] 24)).alloc (.cells #[.slice A n cap] 32)) (w.heap.size + 1) 32 #[.slice A n cap] := blk_new_at (by simp)
  clear hl hp
  have x0 : ((w.alloc (.cells #[.pointer (some ⟨g, 0, none⟩)] 24)).alloc (.cells #[.slice A n cap] 32)).cell? ⟨w.heap.size, 0, none⟩ = some (.pointer (some ⟨g, 0, none⟩)) := c0.cell 0
  have x1 : ((w.alloc (.cells #[.pointer (some ⟨g, 0, none⟩)] 24)).alloc (.cells #[.slice A n cap] 32)).cell? ⟨w.heap.size + 1, 0, none⟩ = some (.slice A n cap) := c1.cell 0
  have hcm' : cap ≤ 9223372036854775807 := by unfold maxLen at hcm; omega
  go_enter Try.func10, Try.ntmps10
  go_wp2_with fail
  refine (any_bad A n cap R _ hp1 hnc hcm).mono ?_
  rintro e w2 ⟨rfl, hb2⟩
  rw [show (R.any fun x => decide (x.2 < x.1)) = false from h1]
  have c0 := c0.same hb2
  have c1 := c1.same hb2
  have hl1 := hl1.below hb2
  have hp1 := hp1.below hb2
  have hB1 := hB1.trans (hb2.mono hB1.size)
  have x0 : w2.cell? ⟨w.heap.size, 0, none⟩ = some (.pointer (some ⟨g, 0, none⟩)) := c0.cell 0
  have x1 : w2.cell? ⟨w.heap.size + 1, 0, none⟩ = some (.slice A n cap) := c1.cell 0
  obtain ⟨hBg, V, hb, ho⟩ := hl1
  clear hb2
  go_wp2_with fail
  refine (any_far w.heap.size g nx A n cap R _ hp1 hnc hcm x0 (hb.cell 1)).mono ?_
  rintro e w3 ⟨rfl, hb3⟩
  rw [show (R.any fun x => decide (nx ≤ x.2)) = false from h2]
  have c0 := c0.same hb3
  have c1 := c1.same hb3
  have hb := hb.same hb3
  have ho := own_same ho hb3
  have hp1 := hp1.below hb3
  have hB1 := hB1.trans (hb3.mono hB1.size)
  have x0 : w3.cell? ⟨w.heap.size, 0, none⟩ = some (.pointer (some ⟨g, 0, none⟩)) := c0.cell 0
  have x1 : w3.cell? ⟨w.heap.size + 1, 0, none⟩ = some (.slice A n cap) := c1.cell 0
  clear hb3
  have hgne := Blk.ne_ hb c0 (by decide)
  have hgne2 := Blk.ne_ hb c1 (by decide)
  have C0 := Lib.hid c0
  have C1 := Lib.hid c1
  have HO := Lib.hid ho
  have HP := Lib.hid hp1
  have HBB := Lib.hid hB1
  have hg3 := hb.lt
  have hVg := own_blk_ne ho hb (by decide)
  have hs3 := c0.lt
  have hs4 := c1.lt
  clear c0 c1 ho hp1 hB1 h1 h2
  go_wp2_with fail
  go_loopw [19] (fun i wr => ∃ (k : Nat), k ≤ n ∧ i = .int .i64 k ∧ Blk wr g 73 #[V, .int .u64 nx, .int .u64 (ackI ak (R.take k)), .bool (sm || decide (0 < k))] ∧ w3.grownBy wr (some g)) (fun i _ => n - (intOf i).toNat)
  case atStart => exact ⟨0, Nat.zero_le _, rfl, by simpa [ackI] using hb, grown_refl _ _⟩
  case round =>
    clear x0 x1 hb
    obtain ⟨k, hkn, rfl, hb, hG⟩ := hrel
    have c0 := C0.out.grown hG (by simpa using Ne.symm hgne)
    have c1 := C1.out.grown hG (by simpa using Ne.symm hgne2)
    have x0 : wr.cell? ⟨w.heap.size, 0, none⟩ = some (.pointer (some ⟨g, 0, none⟩)) := c0.cell 0
    have x1 : wr.cell? ⟨w.heap.size + 1, 0, none⟩ = some (.slice A n cap) := c1.cell 0
    have hgr := hb.lt
    have hsr := c0.lt
    have hsr2 := c1.lt
    have hneg : ¬ g = w.heap.size := hgne
    by_cases hlt : k < n
    · obtain ⟨b, off, rfl, hb', d0, d1⟩ := HP.out.2 k hlt
      have hbg := hAg (by omega) b off rfl
      have hbr : b < wr.heap.size := Nat.lt_of_lt_of_le hb' hG.size
      have d0 := (hG.cell d0 (by simpa using hbg))
      have d1 := (hG.cell d1 (by simpa using hbg))
      have T := Lib.hid (ackI_take ak R k (by rw [HP.out.1]; exact hlt))
      obtain ⟨x, hx⟩ : ∃ x, x = R.getD k (0, 0) := ⟨_, rfl⟩
      rw [← hx] at d0 d1 T
      clear hx
      obtain ⟨xa, xb⟩ := x
      simp only at d0 d1
      obtain ⟨a0, ha0⟩ : ∃ a0, a0 = ackI ak (R.take k) := ⟨_, rfl⟩
      rw [← ha0] at hb T
      clear ha0
      obtain ⟨s0, hs0⟩ : ∃ s0, s0 = (sm || decide (0 < k)) := ⟨_, rfl⟩
      rw [← hs0] at hb
      clear hs0
      obtain ⟨a1, ha1⟩ : ∃ a1, a1 = max a0 xb := ⟨_, rfl⟩
      have hmx : (if a0 < xb then xb else a0) = a1 := by rw [ha1]; split <;> omega
      simp only at T
      rw [← ha1] at T
      clear ha1
      have y2 : wr.cell? ⟨g, 2, none⟩ = some (.int .u64 a0) := hb.cell 2
      have y3 : wr.cell? ⟨g, 3, none⟩ = some (.bool s0) := hb.cell 3
      have f2 := hb.frozen 2
      have f3 := hb.frozen 3
      go_wp2_with fail
      go_region
      have hb4 := ((((hb.set_ 2 (.int .u64 a1)).set_ 3 (.bool true)).alloc (.cells #[.int .u64 xa, .int .u64 xb] 31))).drew
      have hG4 := grown_drew (grown_alloc (grown_set (grown_set hG 2 (.int .u64 a1)) 3 (.bool true)) (.cells #[.int .u64 xa, .int .u64 xb] 31))
      clear y2 y3 f2 f3 d0 d1 x0 x1 c0 c1 hb hG hmx
      go_wp2_with fail
      go_roundw
      case rel => exact ⟨k + 1, by omega, by go_num, by rw [T.out, show (sm || decide (0 < k + 1)) = true by simp]; exact hb4, hG4⟩
      case measure => simp [intOf]; omega
    · have hkn' : k = n := by omega
      subst hkn'
      have htk : R.take k = R := List.take_of_length_le (by rw [HP.out.1]; exact Nat.le_refl _)
      rw [htk] at hb
      clear htk
      have hRG : Pairs wr A k R := ⟨HP.out.1, fun j hj => by
        obtain ⟨b, off, e, hb', d0, d1⟩ := HP.out.2 j hj
        have hbg := hAg (by omega) b off e
        exact ⟨b, off, e, Nat.lt_of_lt_of_le hb' hG.size, hG.cell d0 (by simpa using hbg), hG.cell d1 (by simpa using hbg)⟩⟩
      have hV : V.ownBlock ≠ some g := hVg
      have ho := own_grown HO.out hG (.inr hV)
      go_wp2_with fail
      refine (take_ack (w.heap.size + 1) A k cap R B g L nx (ackI ak R) (sm || decide (0 < k)) wr ⟨hBg, V, hb, ho⟩ hL hk x1 hRG hnc hcm).mono ?_
      rintro e w5 ⟨v, rfl, ho5, hl5, hg5⟩
      obtain ⟨A2, cp2, rfl, _⟩ := sl_of_own ho5
      go_wp2_with fail
      go_ret2
      have hGG := grown_trans (grown_trans (grown_below HBB.out _) hG) hg5
      exact ⟨_, rfl, own_base ho5 (grown_trans (grown_below HBB.out (some g)) hG).size, hl5, hGG⟩


end Go.Proofs.Ytohjifbkjfnkfaa
